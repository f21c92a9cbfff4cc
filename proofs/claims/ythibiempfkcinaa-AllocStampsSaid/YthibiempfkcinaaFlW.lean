/- What makes an arena comes to: its memory, its form, its words at the beginning. No condition. -/
import Derived.Test.YthibiempfkcinaaFlV
namespace Go.Fl
open Go
set_option linter.unusedVariables false
set_option linter.unusedSimpArgs false
variable {N : Nm} {A B : Ar} {σ : Mem} {K : Value → Mem → Prop} {C : Cf} {who : Int}
/-- May an arena be such? -/
def Cf.okB (c : Cf) : Bool :=
  (decide (1 ≤ c.T) && decide (c.T ≤ 8) && decide (1 ≤ c.S) && decide (c.S ≤ 65536)) && (decide (1 ≤ c.C) && decide (c.C ≤ 64) && decide (17 ≤ c.W) && decide (c.W ≤ 256)) &&
  (decide (1 ≤ c.G) && decide (c.G ≤ 65535) && decide (0 ≤ c.P) && decide (c.P ≤ 1000) && decide (1 ≤ c.R) && decide (c.R ≤ 16))
theorem Cf.okB_iff {c : Cf} : c.okB = true ↔ c.ok := by
  simp only [Cf.okB, Bool.and_eq_true, decide_eq_true_eq]
  constructor
  · rintro ⟨⟨⟨⟨⟨a, b⟩, d⟩, e⟩, ⟨⟨f, g⟩, h⟩, i⟩, ⟨⟨⟨⟨j, k⟩, l⟩, m⟩, n⟩, o⟩
    exact ⟨⟨a, b⟩, ⟨d, e⟩, ⟨f, g⟩, ⟨h, i⟩, ⟨j, k⟩, ⟨l, m⟩, ⟨n, o⟩⟩
  · rintro ⟨⟨a, b⟩, ⟨d, e⟩, ⟨f, g⟩, ⟨h, i⟩, ⟨j, k⟩, ⟨l, m⟩, ⟨n, o⟩⟩
    exact ⟨⟨⟨⟨⟨a, b⟩, d⟩, e⟩, ⟨⟨f, g⟩, h⟩, i⟩, ⟨⟨⟨⟨j, k⟩, l⟩, m⟩, n⟩, o⟩
theorem check_j3 {x y z : Bool} : w_layout_Check_j3b K (.bool x) (.bool y) (.bool z) σ = K (.bool (x && y && z)) σ := by
  simp only [w_layout_Check_j3b, xMove, xPickT, xPickF, xNil, xFld, xExt0, xExt1, xExt30, xExt31, xExt32, xAdd, xSub, xMul, xEql, xNeq, xLss, xLeq, xGtr, xGeq, xEqPN, xEqNN, xNePN, xNeNN, xEqBB, xNeBB, xNot, xConv, xLen, xMin, xMax, xIfc, xIfT, xIfF, xIfD, xJoinE, xOs, xCs, xFldV, List.getD_cons_zero, List.getD_cons_succ, Nat.zero_add, Nat.reduceAdd, Mem.get_set_same, Mem.set_set, if_true, if_false, Bool.not_true, Bool.not_false, decide_true, decide_false, decide_eq_true_eq, decide_not, Bool.not_eq_true, Bool.false_eq_true, reduceIte, Int.reduceLT, Int.reduceLE, Int.reduceEq, Int.reduceNeg, Int.reduceAdd, Int.reduceSub, locP_e, gBox_a, gBox_i, gBox_b, gBox_p, gLoad_s, gAlloc_s, gStore_a, gStore_i, gStore_b, gStore_p, sub_z, sub_s, sub_l, lay_z, lay_s, List.length_cons, List.length_nil, Nat.reduceLeDiff, Nat.le_refl, List.drop_zero, List.drop_succ_cons, List.take_succ_cons, List.take_zero, List.drop_nil, List.cons_append, List.nil_append, List.all_cons, List.all_nil, oneB_i, oneB_b, oneB_p, oneB_sl, Bool.and_true]
  cases x <;> cases y <;> cases z <;> simp only [xMove, xPickT, xPickF, xNil, xFld, xExt0, xExt1, xExt30, xExt31, xExt32, xAdd, xSub, xMul, xEql, xNeq, xLss, xLeq, xGtr, xGeq, xEqPN, xEqNN, xNePN, xNeNN, xEqBB, xNeBB, xNot, xConv, xLen, xMin, xMax, xIfc, xIfT, xIfF, xIfD, xJoinE, xOs, xCs, xFldV, List.getD_cons_zero, List.getD_cons_succ, Nat.zero_add, Nat.reduceAdd, Mem.get_set_same, Mem.set_set, if_true, if_false, Bool.not_true, Bool.not_false, decide_true, decide_false, decide_eq_true_eq, decide_not, Bool.not_eq_true, Bool.false_eq_true, reduceIte, Int.reduceLT, Int.reduceLE, Int.reduceEq, Int.reduceNeg, Int.reduceAdd, Int.reduceSub, locP_e, gBox_a, gBox_i, gBox_b, gBox_p, gLoad_s, gAlloc_s, gStore_a, gStore_i, gStore_b, gStore_p, sub_z, sub_s, sub_l, lay_z, lay_s, List.length_cons, List.length_nil, Nat.reduceLeDiff, Nat.le_refl, List.drop_zero, List.drop_succ_cons, List.take_succ_cons, List.take_zero, List.drop_nil, List.cons_append, List.nil_append, List.all_cons, List.all_nil, oneB_i, oneB_b, oneB_p, oneB_sl, Bool.and_true, Bool.and_true, Bool.and_false, Bool.false_and, Bool.true_and]
theorem check_j2 {x y : Bool} : w_layout_Check_j2b K (.bool x) (.bool y) C.l σ = K (.bool (x && y && (decide (1 ≤ C.G) && decide (C.G ≤ 65535) && decide (0 ≤ C.P) && decide (C.P ≤ 1000) && decide (1 ≤ C.R) && decide (C.R ≤ 16)))) σ := by
  simp only [w_layout_Check_j2b, w_layout_Check_j3, Cf.l, xMove, xPickT, xPickF, xNil, xFld, xExt0, xExt1, xExt30, xExt31, xExt32, xAdd, xSub, xMul, xEql, xNeq, xLss, xLeq, xGtr, xGeq, xEqPN, xEqNN, xNePN, xNeNN, xEqBB, xNeBB, xNot, xConv, xLen, xMin, xMax, xIfc, xIfT, xIfF, xIfD, xJoinE, xOs, xCs, xFldV, List.getD_cons_zero, List.getD_cons_succ, Nat.zero_add, Nat.reduceAdd, Mem.get_set_same, Mem.set_set, if_true, if_false, Bool.not_true, Bool.not_false, decide_true, decide_false, decide_eq_true_eq, decide_not, Bool.not_eq_true, Bool.false_eq_true, reduceIte, Int.reduceLT, Int.reduceLE, Int.reduceEq, Int.reduceNeg, Int.reduceAdd, Int.reduceSub, locP_e, gBox_a, gBox_i, gBox_b, gBox_p, gLoad_s, gAlloc_s, gStore_a, gStore_i, gStore_b, gStore_p, sub_z, sub_s, sub_l, lay_z, lay_s, List.length_cons, List.length_nil, Nat.reduceLeDiff, Nat.le_refl, List.drop_zero, List.drop_succ_cons, List.take_succ_cons, List.take_zero, List.drop_nil, List.cons_append, List.nil_append, List.all_cons, List.all_nil, oneB_i, oneB_b, oneB_p, oneB_sl, Bool.and_true, check_j3]
  by_cases h1 : 1 ≤ C.G <;> by_cases h2 : C.G ≤ 65535 <;> by_cases h3 : 0 ≤ C.P <;> by_cases h4 : C.P ≤ 1000 <;> by_cases h5 : 1 ≤ C.R <;>
    simp only [h1, h2, h3, h4, h5, xMove, xPickT, xPickF, xNil, xFld, xExt0, xExt1, xExt30, xExt31, xExt32, xAdd, xSub, xMul, xEql, xNeq, xLss, xLeq, xGtr, xGeq, xEqPN, xEqNN, xNePN, xNeNN, xEqBB, xNeBB, xNot, xConv, xLen, xMin, xMax, xIfc, xIfT, xIfF, xIfD, xJoinE, xOs, xCs, xFldV, List.getD_cons_zero, List.getD_cons_succ, Nat.zero_add, Nat.reduceAdd, Mem.get_set_same, Mem.set_set, if_true, if_false, Bool.not_true, Bool.not_false, decide_true, decide_false, decide_eq_true_eq, decide_not, Bool.not_eq_true, Bool.false_eq_true, reduceIte, Int.reduceLT, Int.reduceLE, Int.reduceEq, Int.reduceNeg, Int.reduceAdd, Int.reduceSub, locP_e, gBox_a, gBox_i, gBox_b, gBox_p, gLoad_s, gAlloc_s, gStore_a, gStore_i, gStore_b, gStore_p, sub_z, sub_s, sub_l, lay_z, lay_s, List.length_cons, List.length_nil, Nat.reduceLeDiff, Nat.le_refl, List.drop_zero, List.drop_succ_cons, List.take_succ_cons, List.take_zero, List.drop_nil, List.cons_append, List.nil_append, List.all_cons, List.all_nil, oneB_i, oneB_b, oneB_p, oneB_sl, Bool.and_true, check_j3, Bool.and_true, Bool.and_false, Bool.false_and, Bool.true_and]
theorem c_Check : s_layout_Check [C.v] K σ = K (.bool C.okB) σ := by
  have j1 : ∀ {x : Bool}, w_layout_Check_j1b K (.bool x) C.l σ = K (.bool (x && (decide (1 ≤ C.C) && decide (C.C ≤ 64) && decide (17 ≤ C.W) && decide (C.W ≤ 256)) && (decide (1 ≤ C.G) && decide (C.G ≤ 65535) && decide (0 ≤ C.P) && decide (C.P ≤ 1000) && decide (1 ≤ C.R) && decide (C.R ≤ 16)))) σ := by
    intro x
    have e := @check_j2 σ K C
    simp only [Cf.l] at e
    simp only [w_layout_Check_j1b, w_layout_Check_j2, Cf.l, xMove, xPickT, xPickF, xNil, xFld, xExt0, xExt1, xExt30, xExt31, xExt32, xAdd, xSub, xMul, xEql, xNeq, xLss, xLeq, xGtr, xGeq, xEqPN, xEqNN, xNePN, xNeNN, xEqBB, xNeBB, xNot, xConv, xLen, xMin, xMax, xIfc, xIfT, xIfF, xIfD, xJoinE, xOs, xCs, xFldV, List.getD_cons_zero, List.getD_cons_succ, Nat.zero_add, Nat.reduceAdd, Mem.get_set_same, Mem.set_set, if_true, if_false, Bool.not_true, Bool.not_false, decide_true, decide_false, decide_eq_true_eq, decide_not, Bool.not_eq_true, Bool.false_eq_true, reduceIte, Int.reduceLT, Int.reduceLE, Int.reduceEq, Int.reduceNeg, Int.reduceAdd, Int.reduceSub, locP_e, gBox_a, gBox_i, gBox_b, gBox_p, gLoad_s, gAlloc_s, gStore_a, gStore_i, gStore_b, gStore_p, sub_z, sub_s, sub_l, lay_z, lay_s, List.length_cons, List.length_nil, Nat.reduceLeDiff, Nat.le_refl, List.drop_zero, List.drop_succ_cons, List.take_succ_cons, List.take_zero, List.drop_nil, List.cons_append, List.nil_append, List.all_cons, List.all_nil, oneB_i, oneB_b, oneB_p, oneB_sl, Bool.and_true]
    by_cases h1 : 1 ≤ C.C <;> by_cases h2 : C.C ≤ 64 <;> by_cases h3 : 17 ≤ C.W <;>
      simp only [h1, h2, h3, xMove, xPickT, xPickF, xNil, xFld, xExt0, xExt1, xExt30, xExt31, xExt32, xAdd, xSub, xMul, xEql, xNeq, xLss, xLeq, xGtr, xGeq, xEqPN, xEqNN, xNePN, xNeNN, xEqBB, xNeBB, xNot, xConv, xLen, xMin, xMax, xIfc, xIfT, xIfF, xIfD, xJoinE, xOs, xCs, xFldV, List.getD_cons_zero, List.getD_cons_succ, Nat.zero_add, Nat.reduceAdd, Mem.get_set_same, Mem.set_set, if_true, if_false, Bool.not_true, Bool.not_false, decide_true, decide_false, decide_eq_true_eq, decide_not, Bool.not_eq_true, Bool.false_eq_true, reduceIte, Int.reduceLT, Int.reduceLE, Int.reduceEq, Int.reduceNeg, Int.reduceAdd, Int.reduceSub, locP_e, gBox_a, gBox_i, gBox_b, gBox_p, gLoad_s, gAlloc_s, gStore_a, gStore_i, gStore_b, gStore_p, sub_z, sub_s, sub_l, lay_z, lay_s, List.length_cons, List.length_nil, Nat.reduceLeDiff, Nat.le_refl, List.drop_zero, List.drop_succ_cons, List.take_succ_cons, List.take_zero, List.drop_nil, List.cons_append, List.nil_append, List.all_cons, List.all_nil, oneB_i, oneB_b, oneB_p, oneB_sl, Bool.and_true, e, Bool.and_true, Bool.and_false, Bool.false_and, Bool.true_and]
  simp only [Cf.l] at j1
  simp only [s_layout_Check, w_layout_Check, w_layout_Check_j1, Cf.v, xMove, xPickT, xPickF, xNil, xFld, xExt0, xExt1, xExt30, xExt31, xExt32, xAdd, xSub, xMul, xEql, xNeq, xLss, xLeq, xGtr, xGeq, xEqPN, xEqNN, xNePN, xNeNN, xEqBB, xNeBB, xNot, xConv, xLen, xMin, xMax, xIfc, xIfT, xIfF, xIfD, xJoinE, xOs, xCs, xFldV, List.getD_cons_zero, List.getD_cons_succ, Nat.zero_add, Nat.reduceAdd, Mem.get_set_same, Mem.set_set, if_true, if_false, Bool.not_true, Bool.not_false, decide_true, decide_false, decide_eq_true_eq, decide_not, Bool.not_eq_true, Bool.false_eq_true, reduceIte, Int.reduceLT, Int.reduceLE, Int.reduceEq, Int.reduceNeg, Int.reduceAdd, Int.reduceSub, locP_e, gBox_a, gBox_i, gBox_b, gBox_p, gLoad_s, gAlloc_s, gStore_a, gStore_i, gStore_b, gStore_p, sub_z, sub_s, sub_l, lay_z, lay_s, List.length_cons, List.length_nil, Nat.reduceLeDiff, Nat.le_refl, List.drop_zero, List.drop_succ_cons, List.take_succ_cons, List.take_zero, List.drop_nil, List.cons_append, List.nil_append, List.all_cons, List.all_nil, oneB_i, oneB_b, oneB_p, oneB_sl, Bool.and_true]
  unfold Cf.okB
  by_cases h1 : 1 ≤ C.T <;> by_cases h2 : C.T ≤ 8 <;> by_cases h3 : 1 ≤ C.S <;>
    simp only [h1, h2, h3, xMove, xPickT, xPickF, xNil, xFld, xExt0, xExt1, xExt30, xExt31, xExt32, xAdd, xSub, xMul, xEql, xNeq, xLss, xLeq, xGtr, xGeq, xEqPN, xEqNN, xNePN, xNeNN, xEqBB, xNeBB, xNot, xConv, xLen, xMin, xMax, xIfc, xIfT, xIfF, xIfD, xJoinE, xOs, xCs, xFldV, List.getD_cons_zero, List.getD_cons_succ, Nat.zero_add, Nat.reduceAdd, Mem.get_set_same, Mem.set_set, if_true, if_false, Bool.not_true, Bool.not_false, decide_true, decide_false, decide_eq_true_eq, decide_not, Bool.not_eq_true, Bool.false_eq_true, reduceIte, Int.reduceLT, Int.reduceLE, Int.reduceEq, Int.reduceNeg, Int.reduceAdd, Int.reduceSub, locP_e, gBox_a, gBox_i, gBox_b, gBox_p, gLoad_s, gAlloc_s, gStore_a, gStore_i, gStore_b, gStore_p, sub_z, sub_s, sub_l, lay_z, lay_s, List.length_cons, List.length_nil, Nat.reduceLeDiff, Nat.le_refl, List.drop_zero, List.drop_succ_cons, List.take_succ_cons, List.take_zero, List.drop_nil, List.cons_append, List.nil_append, List.all_cons, List.all_nil, oneB_i, oneB_b, oneB_p, oneB_sl, Bool.and_true, j1, Bool.and_true, Bool.and_false, Bool.false_and, Bool.true_and]
theorem hMakeS_eq {es by' : Nat} {z : List Value} {n : Int} {K : Value → Mem → Prop} {σ : Mem} (h0 : 0 ≤ n) (h1 : n ≤ 1073741824) (hb : by' ≤ 1024) :
    hMakeS es by' z [.int .i64 n, .int .i64 n] K σ = newB (List.replicate n.toNat z).flatten (fun id => .slice (some ⟨id, 0, none⟩) n.toNat es) K σ := by
  simp only [hMakeS]
  rw [if_pos ⟨trivial, h0, h1, hb⟩]
theorem hBox_a {cs : List Value} {sz : Nat} {K : Value → Mem → Prop} {σ : Mem} (h : cs.length = sz) :
    hBox sz [.agg cs.toArray] K σ = newB cs (fun id => .pointer (some ⟨id, 0, none⟩)) K σ := by
  subst h
  have : cellsOf (.agg cs.toArray) cs.length = some cs := by simp [cellsOf]
  simp only [hBox, this]

/-- An arena's memory at the beginning. -/
def Ar.new (n : Nat) : Ar := ⟨n, fun _ => 0, fun _ => 0, 0, 0, 0, 0, false⟩
/-- Blocks that were none. -/
structure Nm.fr (N : Nm) (σ : Mem) : Prop where
  m : σ.get N.m = none
  w : σ.get N.w = none
  t : σ.get N.t = none
theorem xBuildMem {a b : Value} {K : Value → Prop} (ha : cellsOf a 1 = some [a]) (hb : cellsOf b 1 = some [b]) :
    xF (fBuild [(0, 1), (1, 1), (2, 1), (3, 1), (4, 3)] [.slice none 0 0, .slice none 0 0, .int .i64 0, .int .i64 0, .int .i64 0, .int .i64 0, .bool false] [0, 1]) [a, b] K =
      K (.agg #[a, b, .int .i64 0, .int .i64 0, .int .i64 0, .int .i64 0, .bool false]) := by
  simp [xF, fBuild, fillL, ha, hb, lay]
theorem c_New {n : Int} (h0 : 1 ≤ n) (h1 : n ≤ 1048576) (hk : ∀ N τ, N.ok → isA N (.new n.toNat) τ → Ext σ τ → N.fr σ → K (.tuple #[N.p, .int .i64 0]) τ) : s_mem_New [.int .i64 n] K σ := by
  simp only [s_mem_New, w_mem_New, w_mem_New_j1, w_mem_New_j1b, xMove, xPickT, xPickF, xNil, xFld, xExt0, xExt1, xExt30, xExt31, xExt32, xAdd, xSub, xMul, xEql, xNeq, xLss, xLeq, xGtr, xGeq, xEqPN, xEqNN, xNePN, xNeNN, xEqBB, xNeBB, xNot, xConv, xLen, xMin, xMax, xIfc, xIfT, xIfF, xIfD, xJoinE, xOs, xCs, xFldV, List.getD_cons_zero, List.getD_cons_succ, Nat.zero_add, Nat.reduceAdd, Mem.get_set_same, Mem.set_set, if_true, if_false, Bool.not_true, Bool.not_false, decide_true, decide_false, decide_eq_true_eq, decide_not, Bool.not_eq_true, Bool.false_eq_true, reduceIte, Int.reduceLT, Int.reduceLE, Int.reduceEq, Int.reduceNeg, Int.reduceAdd, Int.reduceSub]
  rw [if_neg (by omega), if_neg (by omega)]
  rw [hMakeS_eq (by omega) (by omega) (by decide)]
  intro w hw
  rw [hMakeS_eq (by omega) (by omega) (by decide)]
  intro t ht
  rw [xBuildMem rfl rfl]
  refine (hBox_a (cs := [_, _, _, _, _, _, _]) rfl).mpr ?_
  intro m hm
  simp only [xMove, xPickT, xPickF, xNil, xFld, xExt0, xExt1, xExt30, xExt31, xExt32, xAdd, xSub, xMul, xEql, xNeq, xLss, xLeq, xGtr, xGeq, xEqPN, xEqNN, xNePN, xNeNN, xEqBB, xNeBB, xNot, xConv, xLen, xMin, xMax, xIfc, xIfT, xIfF, xIfD, xJoinE, xOs, xCs, xFldV, List.getD_cons_zero, List.getD_cons_succ, Nat.zero_add, Nat.reduceAdd, Mem.get_set_same, Mem.set_set, if_true, if_false, Bool.not_true, Bool.not_false, decide_true, decide_false, decide_eq_true_eq, decide_not, Bool.not_eq_true, Bool.false_eq_true, reduceIte, Int.reduceLT, Int.reduceLE, Int.reduceEq, Int.reduceNeg, Int.reduceAdd, Int.reduceSub]
  have hwt : w ≠ t := by rintro rfl; simp at ht
  have hmt : m ≠ t := by rintro rfl; simp at hm
  have hmw : m ≠ w := by
    rintro rfl
    rw [Mem.get_set_ne _ _ hwt, Mem.get_set_same] at hm; cases hm
  refine hk ⟨m, w, t⟩ _ ⟨hmw, hmt, hwt⟩ ⟨?_, ?_, ?_⟩ ?_ ⟨?_, hw, ?_⟩
  · rw [Mem.get_set_same]; rfl
  · rw [Mem.get_set_ne _ _ hmw.symm, Mem.get_set_ne _ _ hwt, Mem.get_set_same, cells_repl]; rfl
  · rw [Mem.get_set_ne _ _ hmt.symm, Mem.get_set_same, cells_repl]; rfl
  · exact ((Ext.fresh hw).trans (Ext.fresh ht)).trans (Ext.fresh hm)
  · rw [Mem.get_set_ne _ _ hmt, Mem.get_set_ne _ _ hmw] at hm; exact hm
  · rw [Mem.get_set_ne _ _ hwt.symm] at ht; exact ht
/-! ### Forms and arenas as local blocks -/
def Nm.el (N : Nm) (c : Cf) (who : Int) : List Value := [.int .i64 c.T, .int .i64 c.S, .int .i64 c.C, .int .i64 c.W, .int .i64 c.G, .int .i64 c.P, .int .i64 c.R, N.p, .int .i64 who]
section
variable {c : Cf} {l : List Value}
theorem gBoxC : gBox 7 [c.v] l = some c.l := nr rfl
theorem subC : sub c.l 0 7 true = some c.v := nr rfl
theorem subC0 : sub c.l 0 1 false = some (.int .i64 c.T) := nr rfl
theorem subC1 : sub c.l 1 1 false = some (.int .i64 c.S) := nr rfl
theorem subC2 : sub c.l 2 1 false = some (.int .i64 c.C) := nr rfl
theorem subC3 : sub c.l 3 1 false = some (.int .i64 c.W) := nr rfl
theorem subC4 : sub c.l 4 1 false = some (.int .i64 c.G) := nr rfl
theorem subC5 : sub c.l 5 1 false = some (.int .i64 c.P) := nr rfl
theorem subC6 : sub c.l 6 1 false = some (.int .i64 c.R) := nr rfl
theorem gBoxE : gBox 9 [N.env c who] l = some (N.el c who) := nr rfl
theorem subE : sub (N.el c who) 0 9 true = some (N.env c who) := nr rfl
theorem subEC : sub (N.el c who) 0 7 true = some c.v := nr rfl
theorem subE0 : sub (N.el c who) 0 1 false = some (.int .i64 c.T) := nr rfl
theorem subE1 : sub (N.el c who) 1 1 false = some (.int .i64 c.S) := nr rfl
theorem subE2 : sub (N.el c who) 2 1 false = some (.int .i64 c.C) := nr rfl
theorem subE3 : sub (N.el c who) 3 1 false = some (.int .i64 c.W) := nr rfl
theorem subE4 : sub (N.el c who) 4 1 false = some (.int .i64 c.G) := nr rfl
theorem subE6 : sub (N.el c who) 6 1 false = some (.int .i64 c.R) := nr rfl
theorem subE7 : sub (N.el c who) 7 1 false = some N.p := nr rfl
theorem subE8 : sub (N.el c who) 8 1 false = some (.int .i64 who) := nr rfl
end

/-! ### What operations leave -/
section
variable {a o v d : Int}
@[simp] theorem by_n : (A.by who).n = A.n := rfl
@[simp] theorem by_w : (A.by who).w = A.w := rfl
@[simp] theorem by_t : (A.by who).t = A.t := rfl
@[simp] theorem by_s : (A.by who).s = A.s := rfl
@[simp] theorem load_n : (A.load a).n = A.n := rfl
@[simp] theorem load_w : (A.load a).w = A.w := rfl
@[simp] theorem load_t : (A.load a).t = A.t := rfl
@[simp] theorem load_s : (A.load a).s = IntKind.i64.wrap (A.s + 1) := rfl
@[simp] theorem load_la : (A.load a).la = a := rfl
@[simp] theorem load_lc : (A.load a).lc = false := rfl
@[simp] theorem store_n : (A.store a v).n = A.n := rfl
@[simp] theorem store_w : (A.store a v).w = upd A.w a v := rfl
@[simp] theorem store_s : (A.store a v).s = IntKind.i64.wrap (A.s + 1) := rfl
@[simp] theorem store_la : (A.store a v).la = a := rfl
@[simp] theorem store_lc : (A.store a v).lc = decide (A.w a ≠ v) := rfl
theorem store_t : (A.store a v).t = if A.w a ≠ v then upd A.t a (IntKind.i64.wrap (A.s + 1)) else A.t := rfl
@[simp] theorem cas_n : (A.cas a o v).n = A.n := by unfold Ar.cas; split <;> rfl
theorem cas_w : (A.cas a o v).w = if A.w a = o then upd A.w a v else A.w := by unfold Ar.cas; split <;> rfl
@[simp] theorem cas_s : (A.cas a o v).s = IntKind.i64.wrap (A.s + 1) := by unfold Ar.cas; split <;> rfl
@[simp] theorem cas_la : (A.cas a o v).la = a := by unfold Ar.cas; split <;> rfl
theorem cas_no (h : A.w a ≠ o) : A.cas a o v = A.load a := by unfold Ar.cas; rw [if_neg h]; rfl
theorem cas_yes (h : A.w a = o) : A.cas a o v = A.store a v := by unfold Ar.cas; rw [if_pos h]; rfl
theorem add_eq : A.add a d = A.store a (IntKind.u64.wrap (A.w a + d)) := rfl
end
/-- Numbers within their kinds, steps few. -/
structure Ar.ok (A : Ar) (b : Int) : Prop where
  w : ∀ i, 0 ≤ A.w i ∧ A.w i < 18446744073709551616
  s : 0 ≤ A.s ∧ A.s ≤ b
  t : ∀ i, 0 ≤ A.t i ∧ A.t i ≤ A.s
theorem Ar.ok.s1 {b : Int} (h : A.ok b) (hb : b < 9223372036854775807) : IntKind.i64.wrap (A.s + 1) = A.s + 1 := IntWalk.i64_in _ (by have := h.s; omega)
theorem Ar.ok.by {b : Int} (h : A.ok b) : (A.by who).ok b := ⟨h.w, h.s, h.t⟩
theorem Ar.ok.load {b a : Int} (h : A.ok b) (hb : b < 9223372036854775807) : (A.load a).ok (b + 1) := by
  refine ⟨h.w, ?_, fun i => ?_⟩
  · rw [load_s, h.s1 hb]; have := h.s; omega
  · rw [load_s, h.s1 hb, load_t]; have := h.t i; omega
theorem upd_cases {f : Int → Int} {a v i : Int} {P : Int → Prop} (h1 : P v) (h2 : P (f i)) : P (upd f a v i) := by unfold upd; split <;> assumption
theorem Ar.ok.store {b a v : Int} (h : A.ok b) (hb : b < 9223372036854775807) (hv : 0 ≤ v ∧ v < 18446744073709551616) : (A.store a v).ok (b + 1) := by
  refine ⟨fun i => upd_cases (P := fun x => 0 ≤ x ∧ x < 18446744073709551616) hv (h.w i), ?_, fun i => ?_⟩
  · rw [store_s, h.s1 hb]; have := h.s; omega
  · rw [store_s, h.s1 hb, store_t]
    have := h.t i
    have := h.s
    split
    · rw [h.s1 hb]; exact upd_cases (P := fun x => 0 ≤ x ∧ x ≤ A.s + 1) (by omega) (by omega)
    · omega
theorem Ar.ok.cas {b a o v : Int} (h : A.ok b) (hb : b < 9223372036854775807) (hv : 0 ≤ v ∧ v < 18446744073709551616) : (A.cas a o v).ok (b + 1) := by
  by_cases hc : A.w a = o
  · rw [cas_yes hc]; exact h.store hb hv
  · rw [cas_no hc]; exact h.load hb
theorem wrap_in (n : Int) : 0 ≤ IntKind.u64.wrap n ∧ IntKind.u64.wrap n < 18446744073709551616 := by rw [IntKind.wrap_u64]; omega
theorem Ar.ok.add {b a d : Int} (h : A.ok b) (hb : b < 9223372036854775807) : (A.add a d).ok (b + 1) := h.store hb (wrap_in _)

/-! ### The arena at the beginning -/

/-- The words of a fresh arena, when so many slots are laid. -/
def Cf.fr (c : Cf) (i : Int) (a : Int) : Int :=
  if c.slot 0 ≤ a ∧ a < c.slot i then (if (a - c.slot 0) % 2 = 0 then putSlot 0 0 1 0 else putTop ((a - c.slot 0) / 2 + 1) 0) else 0
def Cf.w0 (c : Cf) (a : Int) : Int := if a = 1 then putTop 0 0 else if a = c.slot (c.S - 1) + 1 then putTop (-1) 0 else c.fr c.S a

structure FrI (N : Nm) (C : Cf) (σ0 : Mem) (i : Int) (A : Ar) (σ : Mem) : Prop where
  i0 : 0 ≤ i
  i1 : i ≤ C.S
  n : A.n = C.len.toNat
  w : A.w = C.fr i
  s : A.s = 2 * i
  who : A.who = 0
  ok : A.ok (2 * i)
  isA : isA N A σ
  ext : Ext σ0 σ
  fr : N.fr σ0
theorem Ext.put {σ0 : Mem} (h : Ext σ0 σ) (f : N.fr σ0) : Ext σ0 (putA N A σ) := by
  intro i b hi
  rw [putA_ne (fun e => by rw [e, f.m] at hi; cases hi) (fun e => by rw [e, f.w] at hi; cases hi) (fun e => by rw [e, f.t] at hi; cases hi)]
  exact h i b hi
theorem len_eq : C.len = 6 + C.T + 2 * C.S + 3 * C.C + C.W * C.C := rfl
theorem len_bd (h : C.ok) : C.chunk C.C + 17 ≤ C.len ∧ C.len ≤ 200000 := by
  have hW := h.W
  have hC := h.C
  have hS := h.S
  have hT := h.T
  have h1 : 17 * 1 ≤ C.W * C.C := Int.mul_le_mul hW.1 hC.1 (by omega) (by omega)
  have h2 : C.W * C.C ≤ 256 * 64 := Int.mul_le_mul hW.2 hC.2 (by omega) (by omega)
  rw [len_eq]; unfold Cf.chunk
  omega

theorem xBuildSlotG {K : Value → Prop} {g : Int} : xF (fBuild [(0, 1), (1, 1), (2, 1), (3, 1)] [.int .i64 0, .int .i64 0, .int .i64 0, .int .i64 0] [2]) [.int .i64 g] K = K (.agg #[.int .i64 0, .int .i64 0, .int .i64 g, .int .i64 0]) := nr rfl
theorem c_Fresh_round (hC : C.ok) (hN : N.ok) {σ0 : Mem} {J1 R1 : List Value → List (List Value) → Mem → Prop} {i : Int} (h : FrI N C σ0 i A σ)
    (hj : i = C.S → J1 [N.p] [C.l] σ) (hr : i < C.S → ∀ A' τ, FrI N C σ0 (i + 1) A' τ → R1 [N.p, .int .i64 C.S, .int .i64 (i + 1)] [C.l] τ) :
    w_layout_Fresh_l8 K J1 R1 [N.p, .int .i64 C.S, .int .i64 i] [C.l] σ := by
  have hS := hC.S
  have hT := hC.T
  have hl := len_bd hC
  simp only [w_layout_Fresh_l8, w_layout_Fresh_l8b, xMove, xPickT, xPickF, xNil, xFld, xExt0, xExt1, xExt30, xExt31, xExt32, xAdd, xSub, xMul, xEql, xNeq, xLss, xLeq, xGtr, xGeq, xEqPN, xEqNN, xNePN, xNeNN, xEqBB, xNeBB, xNot, xConv, xLen, xMin, xMax, xIfc, xIfT, xIfF, xIfD, xJoinE, xOs, xCs, xFldV, List.getD_cons_zero, List.getD_cons_succ, Nat.zero_add, Nat.reduceAdd, Mem.get_set_same, Mem.set_set, if_true, if_false, Bool.not_true, Bool.not_false, decide_true, decide_false, decide_eq_true_eq, decide_not, Bool.not_eq_true, Bool.false_eq_true, reduceIte, Int.reduceLT, Int.reduceLE, Int.reduceEq, Int.reduceNeg, Int.reduceAdd, Int.reduceSub, locP_e, gLoad_s, subC]
  by_cases hi : i < C.S
  · simp only [hi, xMove, xPickT, xPickF, xNil, xFld, xExt0, xExt1, xExt30, xExt31, xExt32, xAdd, xSub, xMul, xEql, xNeq, xLss, xLeq, xGtr, xGeq, xEqPN, xEqNN, xNePN, xNeNN, xEqBB, xNeBB, xNot, xConv, xLen, xMin, xMax, xIfc, xIfT, xIfF, xIfD, xJoinE, xOs, xCs, xFldV, List.getD_cons_zero, List.getD_cons_succ, Nat.zero_add, Nat.reduceAdd, Mem.get_set_same, Mem.set_set, if_true, if_false, Bool.not_true, Bool.not_false, decide_true, decide_false, decide_eq_true_eq, decide_not, Bool.not_eq_true, Bool.false_eq_true, reduceIte, Int.reduceLT, Int.reduceLE, Int.reduceEq, Int.reduceNeg, Int.reduceAdd, Int.reduceSub]
    have hn : C.slot i + 1 < A.n := by rw [h.n]; unfold Cf.slot; unfold Cf.chunk at hl; have := hC.C; omega
    have hs0 : 0 ≤ C.slot i := by unfold Cf.slot; have := h.i0; omega
    have i0 := h.i0
    rw [c_Slot hC h.i0 (by omega)]
    rw [xBuildSlotG, c_PutSlot, h.isA.eq, c_mStore hN hs0 (by omega), c_Slot hC h.i0 (by omega)]
    simp only [xAdd]
    rw [IntWalk.i64_in (i + 1) (by omega), c_PutTop (by omega), IntWalk.i64_in (C.slot i + 1) (by unfold Cf.slot; omega), c_mStore hN (by omega) (by rw [store_n]; omega)]
    have ok1 := h.ok.store (a := C.slot i) (by omega) (putSlot_in 0 0 1 0)
    have ok2 := ok1.store (a := C.slot i + 1) (by omega) (putTop_in (i + 1) 0)
    have s1 := h.ok.s1 (by omega)
    have s2 := ok1.s1 (by omega)
    refine hr hi ((A.store (C.slot i) (putSlot 0 0 1 0)).store (C.slot i + 1) (putTop (i + 1) 0)) _ ⟨by omega, by omega, h.n, ?_, ?_, h.who, ?_, isA_put hN, h.ext.put h.fr, h.fr⟩
    · funext a
      rw [store_w, store_w, h.w]
      unfold upd Cf.fr Cf.slot
      have := hC.C
      by_cases e1 : a = 6 + C.T + 2 * i + 1
      · subst e1
        rw [if_pos rfl, if_pos (by omega), if_neg (by omega)]
        congr 1; omega
      · rw [if_neg e1]
        by_cases e2 : a = 6 + C.T + 2 * i
        · subst e2
          rw [if_pos rfl, if_pos (by omega), if_pos (by omega)]
        · rw [if_neg e2]
          by_cases e3 : 6 + C.T + 2 * 0 ≤ a ∧ a < 6 + C.T + 2 * i
          · rw [if_pos e3, if_pos (show 6 + C.T + 2 * 0 ≤ a ∧ a < 6 + C.T + 2 * (i + 1) by omega)]
          · rw [if_neg e3, if_neg (show ¬ (6 + C.T + 2 * 0 ≤ a ∧ a < 6 + C.T + 2 * (i + 1)) by omega)]
    · rw [store_s, s2, store_s, s1, h.s]; omega
    · rw [show 2 * (i + 1) = 2 * i + 1 + 1 by omega]; exact ok2
  · rw [if_neg hi]
    exact hj (by have := h.i1; omega)
/-- A fresh arena. -/
structure Frsh (N : Nm) (C : Cf) (A : Ar) : Prop where
  ok : A.ok (2 * C.S + 2)
  n : A.n = C.len.toNat
  w : A.w = C.w0
  s : A.s = 2 * C.S + 2
  who : A.who = 0
theorem Ar.new_ok {n : Nat} : (Ar.new n).ok (2 * 0) := ⟨fun _ => ⟨Int.le_refl 0, (by decide : (0 : Int) < 18446744073709551616)⟩, ⟨Int.le_refl 0, Int.le_refl 0⟩, fun _ => ⟨Int.le_refl 0, Int.le_refl 0⟩⟩
theorem c_Fresh (hC : C.ok) (hk : ∀ N A τ, N.ok → Frsh N C A → isA N A τ → Ext σ τ → N.fr σ → K (.tuple #[N.p, .int .i64 0]) τ) : s_layout_Fresh [C.v] K σ := by
  have hl := len_bd hC
  have hS := hC.S
  have hT := hC.T
  have hCC := hC.C
  have hch : C.chunk C.C = 6 + C.T + 2 * C.S + 3 * C.C := rfl
  have hok : C.okB = true := Cf.okB_iff.2 hC
  simp only [s_layout_Fresh, w_layout_Fresh, xMove, xPickT, xPickF, xNil, xFld, xExt0, xExt1, xExt30, xExt31, xExt32, xAdd, xSub, xMul, xEql, xNeq, xLss, xLeq, xGtr, xGeq, xEqPN, xEqNN, xNePN, xNeNN, xEqBB, xNeBB, xNot, xConv, xLen, xMin, xMax, xIfc, xIfT, xIfF, xIfD, xJoinE, xOs, xCs, xFldV, List.getD_cons_zero, List.getD_cons_succ, Nat.zero_add, Nat.reduceAdd, Mem.get_set_same, Mem.set_set, if_true, if_false, Bool.not_true, Bool.not_false, decide_true, decide_false, decide_eq_true_eq, decide_not, Bool.not_eq_true, Bool.false_eq_true, reduceIte, Int.reduceLT, Int.reduceLE, Int.reduceEq, Int.reduceNeg, Int.reduceAdd, Int.reduceSub, locP_e, gBoxC, gLoad_s, subC, subC1, c_Check, hok, c_lLen hC]
  refine c_New (by omega) (by omega) fun N τ hN hA hE hf => ?_
  simp only [xMove, xPickT, xPickF, xNil, xFld, xExt0, xExt1, xExt30, xExt31, xExt32, xAdd, xSub, xMul, xEql, xNeq, xLss, xLeq, xGtr, xGeq, xEqPN, xEqNN, xNePN, xNeNN, xEqBB, xNeBB, xNot, xConv, xLen, xMin, xMax, xIfc, xIfT, xIfF, xIfD, xJoinE, xOs, xCs, xFldV, List.getD_cons_zero, List.getD_cons_succ, Nat.zero_add, Nat.reduceAdd, Mem.get_set_same, Mem.set_set, if_true, if_false, Bool.not_true, Bool.not_false, decide_true, decide_false, decide_eq_true_eq, decide_not, Bool.not_eq_true, Bool.false_eq_true, reduceIte, Int.reduceLT, Int.reduceLE, Int.reduceEq, Int.reduceNeg, Int.reduceAdd, Int.reduceSub]
  refine xLoop_inv (fun k ts ls τ => ∃ i A, k = (C.S - i).toNat ∧ ts = [N.p, .int .i64 C.S, .int .i64 i] ∧ ls = [C.l] ∧ FrI N C σ i A τ) ?_ (n := (C.S - 0).toNat)
    ⟨0, _, rfl, rfl, rfl, ⟨by omega, by omega, rfl, ?_, rfl, rfl, Ar.new_ok, hA, hE, hf⟩⟩
  · rintro k ts ls τ ⟨i, A, rfl, rfl, rfl, h⟩
    refine c_Fresh_round hC hN h (fun e => ?_) fun hi A' τ' h' => ⟨_, by have := h.i0; omega, i + 1, A', rfl, rfl, rfl, h'⟩
    subst e
    simp only [w_layout_Fresh_j1, w_layout_Fresh_j1b, xMove, xPickT, xPickF, xNil, xFld, xExt0, xExt1, xExt30, xExt31, xExt32, xAdd, xSub, xMul, xEql, xNeq, xLss, xLeq, xGtr, xGeq, xEqPN, xEqNN, xNePN, xNeNN, xEqBB, xNeBB, xNot, xConv, xLen, xMin, xMax, xIfc, xIfT, xIfF, xIfD, xJoinE, xOs, xCs, xFldV, List.getD_cons_zero, List.getD_cons_succ, Nat.zero_add, Nat.reduceAdd, Mem.get_set_same, Mem.set_set, if_true, if_false, Bool.not_true, Bool.not_false, decide_true, decide_false, decide_eq_true_eq, decide_not, Bool.not_eq_true, Bool.false_eq_true, reduceIte, Int.reduceLT, Int.reduceLE, Int.reduceEq, Int.reduceNeg, Int.reduceAdd, Int.reduceSub, locP_e, gLoad_s, subC, subC1]
    have n2 : C.slot (C.S - 1) + 1 < A.n := by rw [h.n]; unfold Cf.slot; omega
    have hs0 : 0 ≤ C.slot (C.S - 1) := by unfold Cf.slot; omega
    rw [IntWalk.i64_in (C.S - 1) (by omega), c_Slot hC (by omega) (by omega)]
    simp only [xAdd]
    rw [IntWalk.i64_in (C.slot (C.S - 1) + 1) (by unfold Cf.slot; omega), c_PutTop (by omega), h.isA.eq, c_mStore hN (by omega) n2, c_lTop, c_PutTop (by omega), c_mStore hN (by omega) (by rw [store_n]; omega)]
    have ok1 := h.ok.store (a := C.slot (C.S - 1) + 1) (by omega) (putTop_in (-1) 0)
    have ok2 := ok1.store (a := 1) (by omega) (putTop_in 0 0)
    have s1 := h.ok.s1 (by omega)
    have s2 := ok1.s1 (by omega)
    refine hk N ((A.store (C.slot (C.S - 1) + 1) (putTop (-1) 0)).store 1 (putTop 0 0)) _ hN ⟨by rw [show 2 * C.S + 2 = 2 * C.S + 1 + 1 by omega]; exact ok2, h.n, ?_, ?_, h.who⟩ (isA_put hN) (h.ext.put h.fr) h.fr
    · rw [store_w, store_w, h.w]; rfl
    · rw [store_s, s2, store_s, s1, h.s]; omega
  · funext a
    unfold Cf.fr
    rw [if_neg (by omega)]; rfl
theorem c_Arena (hC : C.ok) (hG : C.G = 100) (hP : C.P = 600) (hR : C.R = 3) (hk : ∀ N A τ, N.ok → Frsh N C A → isA N A τ → Ext σ τ → N.fr σ → K (.tuple #[N.env C 0, .bool true]) τ) :
    s_law04_Arena [.int .i64 C.T, .int .i64 C.S, .int .i64 C.C, .int .i64 C.W] K σ := by
  simp only [s_law04_Arena, w_law04_Arena, xMove, xPickT, xPickF, xNil, xFld, xExt0, xExt1, xExt30, xExt31, xExt32, xAdd, xSub, xMul, xEql, xNeq, xLss, xLeq, xGtr, xGeq, xEqPN, xEqNN, xNePN, xNeNN, xEqBB, xNeBB, xNot, xConv, xLen, xMin, xMax, xIfc, xIfT, xIfF, xIfD, xJoinE, xOs, xCs, xFldV, List.getD_cons_zero, List.getD_cons_succ, Nat.zero_add, Nat.reduceAdd, Mem.get_set_same, Mem.set_set, if_true, if_false, Bool.not_true, Bool.not_false, decide_true, decide_false, decide_eq_true_eq, decide_not, Bool.not_eq_true, Bool.false_eq_true, reduceIte, Int.reduceLT, Int.reduceLE, Int.reduceEq, Int.reduceNeg, Int.reduceAdd, Int.reduceSub]
  have b1 : ∀ K : Value → Prop, xF (fBuild [(0, 1), (1, 1), (2, 1), (3, 1), (4, 1), (5, 1), (6, 1)] [.int .i64 0, .int .i64 0, .int .i64 0, .int .i64 0, .int .i64 0, .int .i64 0, .int .i64 0] [0, 1, 2, 3, 4, 5, 6])
      [.int .i64 C.T, .int .i64 C.S, .int .i64 C.C, .int .i64 C.W, .int .i64 100, .int .i64 600, .int .i64 3] K = K C.v := by
    intro K; unfold Cf.v; rw [hG, hP, hR]; exact nr rfl
  have b2 : ∀ K : List Value → Prop, xC (gStore 7 [locP 10, C.v] [.int .i64 0, .int .i64 0, .int .i64 0, .int .i64 0, .int .i64 0, .int .i64 0, .int .i64 0]) K = K C.l := fun K => nr rfl
  rw [b1, b2]
  simp only [locP_e, gLoad_s, subC, xOs]
  refine c_Fresh hC fun N A τ hN hF hA hE hf => ?_
  simp only [xMove, xPickT, xPickF, xNil, xFld, xExt0, xExt1, xExt30, xExt31, xExt32, xAdd, xSub, xMul, xEql, xNeq, xLss, xLeq, xGtr, xGeq, xEqPN, xEqNN, xNePN, xNeNN, xEqBB, xNeBB, xNot, xConv, xLen, xMin, xMax, xIfc, xIfT, xIfF, xIfD, xJoinE, xOs, xCs, xFldV, List.getD_cons_zero, List.getD_cons_succ, Nat.zero_add, Nat.reduceAdd, Mem.get_set_same, Mem.set_set, if_true, if_false, Bool.not_true, Bool.not_false, decide_true, decide_false, decide_eq_true_eq, decide_not, Bool.not_eq_true, Bool.false_eq_true, reduceIte, Int.reduceLT, Int.reduceLE, Int.reduceEq, Int.reduceNeg, Int.reduceAdd, Int.reduceSub, locP_e, gLoad_s, subC]
  exact hk N A τ hN hF hA hE hf

end Go.Fl
