/- Objects beside an arena's memory: a block's cells, from a place on. No condition. -/
import Derived.Test.YthibiempfkcinaaFlW
namespace Go.Fl
open Go
set_option linter.unusedVariables false
set_option linter.unusedSimpArgs false
variable {N : Nm} {A B : Ar} {σ : Mem} {K : Value → Mem → Prop} {C : Cf} {who : Int}

theorem notin {p : Nat} (h : p ∉ N.l) : p ≠ N.m ∧ p ≠ N.w ∧ p ≠ N.t := by simpa [Nm.l] using h
theorem putA_get {p : Nat} (h : p ∉ N.l) : (putA N A σ).get p = σ.get p := putA_ne (notin h).1 (notin h).2.1 (notin h).2.2
theorem putA_setP {p : Nat} {c : Blk} (h : p ∉ N.l) : (putA N A σ).set p c = putA N A (σ.set p c) := putA_set (notin h).1 (notin h).2.1 (notin h).2.2
/-- A store, told by its arena and one object. -/
theorem isA.obj {p : Nat} {c : Blk} (h : isA N A σ) (hp : σ.get p = some c) : σ = putA N A (σ.set p c) := by rw [Mem.set_self hp]; exact h.eq

section
variable {p o k sz : Nat} {pre L post : List Value} {ag : Bool}
theorem sub_app (hz : 0 < sz) (hk : k + sz ≤ L.length) : sub (pre ++ L ++ post) (pre.length + k) sz ag = sub L k sz ag := by
  have h1 : pre.length + k + sz ≤ (pre ++ L ++ post).length := by simp; omega
  simp only [sub, if_pos h1, if_pos hk]
  cases ag
  · simp only [Bool.false_eq_true, if_false]
    rw [List.append_assoc, List.getElem?_append_right (by omega), Nat.add_sub_cancel_left, List.getElem?_append_left (by omega)]
  · simp only [if_true]
    rw [List.append_assoc, List.drop_append, List.drop_of_length_le (by omega), List.nil_append, Nat.add_sub_cancel_left, List.drop_append_of_le_length (by omega), List.take_append_of_le_length (by simp; omega)]
theorem lay_app {vs : List Value} (hk : k + vs.length ≤ L.length) : lay (pre ++ L ++ post) (pre.length + k) vs = pre ++ lay L k vs ++ post := by
  have e : pre.length + k + vs.length = pre.length + (k + vs.length) := by omega
  simp only [lay, e]
  rw [List.append_assoc pre, List.take_append, List.take_of_length_le (by omega), Nat.add_sub_cancel_left, List.take_append_of_le_length (by omega),
    List.drop_append, List.drop_of_length_le (by omega), List.nil_append, Nat.add_sub_cancel_left, List.drop_append_of_le_length (by omega)]
  simp only [List.append_assoc]

/-- An object's block in a store with an arena. -/
theorem ldO (hd : p ∉ N.l) (hz : 0 < sz) (hk : k + sz ≤ L.length) : hLoad sz ag [.pointer (some ⟨p, pre.length + k, none⟩)] K (putA N A (σ.set p ⟨pre ++ L ++ post, true⟩)) =
    xO (sub L k sz ag) (fun v => K v (putA N A (σ.set p ⟨pre ++ L ++ post, true⟩))) := by
  rw [hLoad_eq ((putA_get hd).trans (Mem.get_set_same _ _ _)), sub_app hz hk]
theorem stO (hd : p ∉ N.l) {x : Value} {c : List Value} (hc : cellsOf x sz = some c) (hl : c.length = sz) (hk : k + sz ≤ L.length) (ho : c.all oneB = true) :
    hStore sz [.pointer (some ⟨p, pre.length + k, none⟩), x] K (putA N A (σ.set p ⟨pre ++ L ++ post, true⟩)) = K undef (putA N A (σ.set p ⟨pre ++ lay L k c ++ post, true⟩)) := by
  rw [hStore_eq ((putA_get hd).trans (Mem.get_set_same _ _ _)) hc (by simp; omega) ho, putA_setP hd, Mem.set_set, lay_app (by omega)]
theorem stOi (hd : p ∉ N.l) {kd : IntKind} {n : Int} (hk : k + 1 ≤ L.length) :
    hStore 1 [.pointer (some ⟨p, pre.length + k, none⟩), .int kd n] K (putA N A (σ.set p ⟨pre ++ L ++ post, true⟩)) = K undef (putA N A (σ.set p ⟨pre ++ lay L k [.int kd n] ++ post, true⟩)) := stO hd rfl rfl hk rfl
theorem stOb (hd : p ∉ N.l) {b : Bool} (hk : k + 1 ≤ L.length) :
    hStore 1 [.pointer (some ⟨p, pre.length + k, none⟩), .bool b] K (putA N A (σ.set p ⟨pre ++ L ++ post, true⟩)) = K undef (putA N A (σ.set p ⟨pre ++ lay L k [.bool b] ++ post, true⟩)) := stO hd rfl rfl hk rfl
theorem stOp (hd : p ∉ N.l) {b : Option Addr} (hk : k + 1 ≤ L.length) :
    hStore 1 [.pointer (some ⟨p, pre.length + k, none⟩), .pointer b] K (putA N A (σ.set p ⟨pre ++ L ++ post, true⟩)) = K undef (putA N A (σ.set p ⟨pre ++ lay L k [.pointer b] ++ post, true⟩)) := stO hd rfl rfl hk rfl
theorem stOa (hd : p ∉ N.l) {c : List Value} (hl : c.length = sz) (hk : k + sz ≤ L.length) (ho : c.all oneB = true) :
    hStore sz [.pointer (some ⟨p, pre.length + k, none⟩), .agg c.toArray] K (putA N A (σ.set p ⟨pre ++ L ++ post, true⟩)) = K undef (putA N A (σ.set p ⟨pre ++ lay L k c ++ post, true⟩)) :=
  stO hd (by subst hl; simp [cellsOf]) hl hk ho
/-- What holds behind an object's step. -/
theorem behind (hN : N.ok) (hd : p ∉ N.l) {c : Blk} {v : Value} (hk : ∀ τ, isA N A τ → τ.get p = some c → Keep (p :: N.l) σ τ → K v τ) : K v (putA N A (σ.set p c)) := by
  refine hk _ (isA_put hN) ((putA_get hd).trans (Mem.get_set_same _ _ _)) fun i b hi hn => ?_
  simp only [List.mem_cons, not_or] at hn
  rw [putA_get hn.2, Mem.get_set_ne _ _ hn.1]
  exact hi
end

/-! ### Who takes a slot -/
structure Tk where
  pc : Int
  top : Int
  next : Int
  slot : Int
  ok : Bool
def Tk.l (t : Tk) : List Value := [.int .i64 t.pc, .int .u64 t.top, .int .i64 t.next, .int .i64 t.slot, .bool t.ok]
def Tk.new : Tk := ⟨0, 0, 0, 0, false⟩
def Tk.step (C : Cf) (who : Int) (A : Ar) (t : Tk) : Bool × Tk × Ar :=
  if t.pc = 0 then (decide (topS (A.w 1) < 0), ⟨1, A.w 1, t.next, topS (A.w 1), t.ok⟩, (A.by who).load 1)
  else if t.pc = 1 then (t.ok, ⟨2, t.top, topS (A.w (C.slot t.slot + 1)), t.slot, t.ok⟩, (A.by who).load (C.slot t.slot + 1))
  else (decide (A.w 1 = t.top), ⟨0, t.top, t.next, t.slot, decide (A.w 1 = t.top)⟩, (A.by who).cas 1 t.top (putTop t.next (topN t.top + 1)))
theorem c_Take_Step (hN : N.ok) (hC : C.ok) (hA : isA N A σ) {p : Nat} {pre post : List Value} {t : Tk} (hp : σ.get p = some ⟨pre ++ t.l ++ post, true⟩) (hd : p ∉ N.l)
    (hw : ∀ i, 0 ≤ A.w i ∧ A.w i < 18446744073709551616) (hn : C.len ≤ A.n) (h0 : 0 ≤ t.top ∧ t.top < 18446744073709551616) (h1 : t.pc = 1 → 0 ≤ t.slot ∧ t.slot < C.S) (h2 : 0 ≤ t.next + 1)
    (hk : ∀ τ, isA N (t.step C who A).2.2 τ → τ.get p = some ⟨pre ++ (t.step C who A).2.1.l ++ post, true⟩ → Keep (p :: N.l) σ τ → K (.bool (t.step C who A).1) τ) :
    s_slot_Take_Step [.pointer (some ⟨p, pre.length, none⟩), N.env C who] K σ := by
  rw [hA.obj hp]
  have hl := len_bd hC
  have hT := hC.T
  have hS := hC.S
  have hCC := hC.C
  have hch : C.chunk C.C = 6 + C.T + 2 * C.S + 3 * C.C := rfl
  simp only [s_slot_Take_Step, w_slot_Take_Step, w_slot_Take_Step_j1, w_slot_Take_Step_j1b, Tk.l, ldO hd, c_lTop, xMove, xPickT, xPickF, xNil, xFld, xExt0, xExt1, xExt30, xExt31, xExt32, xAdd, xSub, xMul, xEql, xNeq, xLss, xLeq, xGtr, xGeq, xEqPN, xEqNN, xNePN, xNeNN, xEqBB, xNeBB, xNot, xConv, xLen, xMin, xMax, xIfc, xIfT, xIfF, xIfD, xJoinE, xOs, xCs, xFldV, List.getD_cons_zero, List.getD_cons_succ, Nat.zero_add, Nat.reduceAdd, Mem.get_set_same, Mem.set_set, if_true, if_false, Bool.not_true, Bool.not_false, decide_true, decide_false, decide_eq_true_eq, decide_not, Bool.not_eq_true, Bool.false_eq_true, reduceIte, Int.reduceLT, Int.reduceLE, Int.reduceEq, Int.reduceNeg, Int.reduceAdd, Int.reduceSub, locP_e, gBox_a, gBox_i, gBox_b, gBox_p, gLoad_s, gAlloc_s, gStore_a, gStore_i, gStore_b, gStore_p, sub_z, sub_s, lay_z, lay_s, List.length_cons, List.length_nil, Nat.reduceLeDiff, Nat.le_refl, List.drop_zero, List.drop_succ_cons, List.take_succ_cons, List.take_zero, List.drop_nil, List.cons_append, List.nil_append, List.all_cons, List.all_nil, oneB_i, oneB_b, oneB_p, oneB_sl, Bool.and_true, Nat.reduceLT, Nat.lt_irrefl, Nat.zero_lt_one, gBoxE, gBoxC, subE, subEC, subE0, subE1, subE2, subE3, subE4, subE6, subE7, subE8, subC, subC0, subC1, subC2, subC3, subC4, subC5, subC6]
  by_cases c0 : t.pc = 0
  · rw [if_pos c0, c_Load hN (by omega) (by omega)]
    simp only [stOi hd, ldO hd, xMove, xPickT, xPickF, xNil, xFld, xExt0, xExt1, xExt30, xExt31, xExt32, xAdd, xSub, xMul, xEql, xNeq, xLss, xLeq, xGtr, xGeq, xEqPN, xEqNN, xNePN, xNeNN, xEqBB, xNeBB, xNot, xConv, xLen, xMin, xMax, xIfc, xIfT, xIfF, xIfD, xJoinE, xOs, xCs, xFldV, List.getD_cons_zero, List.getD_cons_succ, Nat.zero_add, Nat.reduceAdd, Mem.get_set_same, Mem.set_set, if_true, if_false, Bool.not_true, Bool.not_false, decide_true, decide_false, decide_eq_true_eq, decide_not, Bool.not_eq_true, Bool.false_eq_true, reduceIte, Int.reduceLT, Int.reduceLE, Int.reduceEq, Int.reduceNeg, Int.reduceAdd, Int.reduceSub, locP_e, gBox_a, gBox_i, gBox_b, gBox_p, gLoad_s, gAlloc_s, gStore_a, gStore_i, gStore_b, gStore_p, sub_z, sub_s, lay_z, lay_s, List.length_cons, List.length_nil, Nat.reduceLeDiff, Nat.le_refl, List.drop_zero, List.drop_succ_cons, List.take_succ_cons, List.take_zero, List.drop_nil, List.cons_append, List.nil_append, List.all_cons, List.all_nil, oneB_i, oneB_b, oneB_p, oneB_sl, Bool.and_true, Nat.reduceLT, Nat.lt_irrefl, Nat.zero_lt_one, gBoxE, gBoxC, subE, subEC, subE0, subE1, subE2, subE3, subE4, subE6, subE7, subE8, subC, subC0, subC1, subC2, subC3, subC4, subC5, subC6]
    rw [c_Top (hw 1).1 (hw 1).2]
    simp only [stOi hd, ldO hd, xMove, xPickT, xPickF, xNil, xFld, xExt0, xExt1, xExt30, xExt31, xExt32, xAdd, xSub, xMul, xEql, xNeq, xLss, xLeq, xGtr, xGeq, xEqPN, xEqNN, xNePN, xNeNN, xEqBB, xNeBB, xNot, xConv, xLen, xMin, xMax, xIfc, xIfT, xIfF, xIfD, xJoinE, xOs, xCs, xFldV, List.getD_cons_zero, List.getD_cons_succ, Nat.zero_add, Nat.reduceAdd, Mem.get_set_same, Mem.set_set, if_true, if_false, Bool.not_true, Bool.not_false, decide_true, decide_false, decide_eq_true_eq, decide_not, Bool.not_eq_true, Bool.false_eq_true, reduceIte, Int.reduceLT, Int.reduceLE, Int.reduceEq, Int.reduceNeg, Int.reduceAdd, Int.reduceSub, locP_e, gBox_a, gBox_i, gBox_b, gBox_p, gLoad_s, gAlloc_s, gStore_a, gStore_i, gStore_b, gStore_p, sub_z, sub_s, lay_z, lay_s, List.length_cons, List.length_nil, Nat.reduceLeDiff, Nat.le_refl, List.drop_zero, List.drop_succ_cons, List.take_succ_cons, List.take_zero, List.drop_nil, List.cons_append, List.nil_append, List.all_cons, List.all_nil, oneB_i, oneB_b, oneB_p, oneB_sl, Bool.and_true, Nat.reduceLT, Nat.lt_irrefl, Nat.zero_lt_one, gBoxE, gBoxC, subE, subEC, subE0, subE1, subE2, subE3, subE4, subE6, subE7, subE8, subC, subC0, subC1, subC2, subC3, subC4, subC5, subC6]
    simp only [Tk.step, if_pos c0] at hk
    exact behind hN hd hk
  · by_cases c1 : t.pc = 1
    · have := h1 c1
      have ha : 0 ≤ C.slot t.slot + 1 ∧ C.slot t.slot + 1 < A.n := by unfold Cf.slot; unfold Cf.chunk at hl; have := hC.C; omega
      rw [if_neg c0, if_pos c1, c_Slot hC (by omega) (by omega)]
      simp only [xAdd]
      rw [IntWalk.i64_in (C.slot t.slot + 1) (by unfold Cf.slot; omega), c_Load hN ha.1 ha.2, c_Top (hw _).1 (hw _).2]
      simp only [stOi hd, ldO hd, xMove, xPickT, xPickF, xNil, xFld, xExt0, xExt1, xExt30, xExt31, xExt32, xAdd, xSub, xMul, xEql, xNeq, xLss, xLeq, xGtr, xGeq, xEqPN, xEqNN, xNePN, xNeNN, xEqBB, xNeBB, xNot, xConv, xLen, xMin, xMax, xIfc, xIfT, xIfF, xIfD, xJoinE, xOs, xCs, xFldV, List.getD_cons_zero, List.getD_cons_succ, Nat.zero_add, Nat.reduceAdd, Mem.get_set_same, Mem.set_set, if_true, if_false, Bool.not_true, Bool.not_false, decide_true, decide_false, decide_eq_true_eq, decide_not, Bool.not_eq_true, Bool.false_eq_true, reduceIte, Int.reduceLT, Int.reduceLE, Int.reduceEq, Int.reduceNeg, Int.reduceAdd, Int.reduceSub, locP_e, gBox_a, gBox_i, gBox_b, gBox_p, gLoad_s, gAlloc_s, gStore_a, gStore_i, gStore_b, gStore_p, sub_z, sub_s, lay_z, lay_s, List.length_cons, List.length_nil, Nat.reduceLeDiff, Nat.le_refl, List.drop_zero, List.drop_succ_cons, List.take_succ_cons, List.take_zero, List.drop_nil, List.cons_append, List.nil_append, List.all_cons, List.all_nil, oneB_i, oneB_b, oneB_p, oneB_sl, Bool.and_true, Nat.reduceLT, Nat.lt_irrefl, Nat.zero_lt_one, gBoxE, gBoxC, subE, subEC, subE0, subE1, subE2, subE3, subE4, subE6, subE7, subE8, subC, subC0, subC1, subC2, subC3, subC4, subC5, subC6]
      simp only [Tk.step, if_neg c0, if_pos c1] at hk
      exact behind hN hd hk
    · rw [if_neg c0, if_neg c1, c_Top h0.1 h0.2]
      simp only [stOi hd, ldO hd, c_lTop, xMove, xPickT, xPickF, xNil, xFld, xExt0, xExt1, xExt30, xExt31, xExt32, xAdd, xSub, xMul, xEql, xNeq, xLss, xLeq, xGtr, xGeq, xEqPN, xEqNN, xNePN, xNeNN, xEqBB, xNeBB, xNot, xConv, xLen, xMin, xMax, xIfc, xIfT, xIfF, xIfD, xJoinE, xOs, xCs, xFldV, List.getD_cons_zero, List.getD_cons_succ, Nat.zero_add, Nat.reduceAdd, Mem.get_set_same, Mem.set_set, if_true, if_false, Bool.not_true, Bool.not_false, decide_true, decide_false, decide_eq_true_eq, decide_not, Bool.not_eq_true, Bool.false_eq_true, reduceIte, Int.reduceLT, Int.reduceLE, Int.reduceEq, Int.reduceNeg, Int.reduceAdd, Int.reduceSub, locP_e, gBox_a, gBox_i, gBox_b, gBox_p, gLoad_s, gAlloc_s, gStore_a, gStore_i, gStore_b, gStore_p, sub_z, sub_s, lay_z, lay_s, List.length_cons, List.length_nil, Nat.reduceLeDiff, Nat.le_refl, List.drop_zero, List.drop_succ_cons, List.take_succ_cons, List.take_zero, List.drop_nil, List.cons_append, List.nil_append, List.all_cons, List.all_nil, oneB_i, oneB_b, oneB_p, oneB_sl, Bool.and_true, Nat.reduceLT, Nat.lt_irrefl, Nat.zero_lt_one, gBoxE, gBoxC, subE, subEC, subE0, subE1, subE2, subE3, subE4, subE6, subE7, subE8, subC, subC0, subC1, subC2, subC3, subC4, subC5, subC6]
      have hN2 : 0 ≤ topN t.top ∧ topN t.top < 68719476736 := by unfold topN; omega
      rw [IntWalk.i64_in (topN t.top + 1) (by omega), c_PutTop (by omega), c_Cas hN (by omega) (by omega)]
      simp only [stOb hd, ldO hd, xMove, xPickT, xPickF, xNil, xFld, xExt0, xExt1, xExt30, xExt31, xExt32, xAdd, xSub, xMul, xEql, xNeq, xLss, xLeq, xGtr, xGeq, xEqPN, xEqNN, xNePN, xNeNN, xEqBB, xNeBB, xNot, xConv, xLen, xMin, xMax, xIfc, xIfT, xIfF, xIfD, xJoinE, xOs, xCs, xFldV, List.getD_cons_zero, List.getD_cons_succ, Nat.zero_add, Nat.reduceAdd, Mem.get_set_same, Mem.set_set, if_true, if_false, Bool.not_true, Bool.not_false, decide_true, decide_false, decide_eq_true_eq, decide_not, Bool.not_eq_true, Bool.false_eq_true, reduceIte, Int.reduceLT, Int.reduceLE, Int.reduceEq, Int.reduceNeg, Int.reduceAdd, Int.reduceSub, locP_e, gBox_a, gBox_i, gBox_b, gBox_p, gLoad_s, gAlloc_s, gStore_a, gStore_i, gStore_b, gStore_p, sub_z, sub_s, lay_z, lay_s, List.length_cons, List.length_nil, Nat.reduceLeDiff, Nat.le_refl, List.drop_zero, List.drop_succ_cons, List.take_succ_cons, List.take_zero, List.drop_nil, List.cons_append, List.nil_append, List.all_cons, List.all_nil, oneB_i, oneB_b, oneB_p, oneB_sl, Bool.and_true, Nat.reduceLT, Nat.lt_irrefl, Nat.zero_lt_one, gBoxE, gBoxC, subE, subEC, subE0, subE1, subE2, subE3, subE4, subE6, subE7, subE8, subC, subC0, subC1, subC2, subC3, subC4, subC5, subC6]
      simp only [Tk.step, if_neg c0, if_neg c1] at hk
      exact behind hN hd hk
theorem c_Take_Slot (hA : isA N A σ) {p : Nat} {pre post : List Value} {t : Tk} (hp : σ.get p = some ⟨pre ++ t.l ++ post, true⟩) (hd : p ∉ N.l)
    (hk : K (.tuple #[.int .i64 (if t.ok = true then t.slot else 0), .bool t.ok]) σ) : s_slot_Take_Slot [.pointer (some ⟨p, pre.length, none⟩)] K σ := by
  have e := hA.obj hp
  generalize hq : σ = υ at *
  rw [e] at hk ⊢
  simp only [s_slot_Take_Slot, w_slot_Take_Slot, w_slot_Take_Slot_j1, w_slot_Take_Slot_j1b, Tk.l, ldO hd, xMove, xPickT, xPickF, xNil, xFld, xExt0, xExt1, xExt30, xExt31, xExt32, xAdd, xSub, xMul, xEql, xNeq, xLss, xLeq, xGtr, xGeq, xEqPN, xEqNN, xNePN, xNeNN, xEqBB, xNeBB, xNot, xConv, xLen, xMin, xMax, xIfc, xIfT, xIfF, xIfD, xJoinE, xOs, xCs, xFldV, List.getD_cons_zero, List.getD_cons_succ, Nat.zero_add, Nat.reduceAdd, Mem.get_set_same, Mem.set_set, if_true, if_false, Bool.not_true, Bool.not_false, decide_true, decide_false, decide_eq_true_eq, decide_not, Bool.not_eq_true, Bool.false_eq_true, reduceIte, Int.reduceLT, Int.reduceLE, Int.reduceEq, Int.reduceNeg, Int.reduceAdd, Int.reduceSub, locP_e, gBox_a, gBox_i, gBox_b, gBox_p, gLoad_s, gAlloc_s, gStore_a, gStore_i, gStore_b, gStore_p, sub_z, sub_s, lay_z, lay_s, List.length_cons, List.length_nil, Nat.reduceLeDiff, Nat.le_refl, List.drop_zero, List.drop_succ_cons, List.take_succ_cons, List.take_zero, List.drop_nil, List.cons_append, List.nil_append, List.all_cons, List.all_nil, oneB_i, oneB_b, oneB_p, oneB_sl, Bool.and_true, Nat.reduceLT, Nat.lt_irrefl, Nat.zero_lt_one, gBoxE, gBoxC, subE, subEC, subE0, subE1, subE2, subE3, subE4, subE6, subE7, subE8, subC, subC0, subC1, subC2, subC3, subC4, subC5, subC6] at hk ⊢
  cases h : t.ok <;> simp only [h, xIfB, ldO hd, xMove, xPickT, xPickF, xNil, xFld, xExt0, xExt1, xExt30, xExt31, xExt32, xAdd, xSub, xMul, xEql, xNeq, xLss, xLeq, xGtr, xGeq, xEqPN, xEqNN, xNePN, xNeNN, xEqBB, xNeBB, xNot, xConv, xLen, xMin, xMax, xIfc, xIfT, xIfF, xIfD, xJoinE, xOs, xCs, xFldV, List.getD_cons_zero, List.getD_cons_succ, Nat.zero_add, Nat.reduceAdd, Mem.get_set_same, Mem.set_set, if_true, if_false, Bool.not_true, Bool.not_false, decide_true, decide_false, decide_eq_true_eq, decide_not, Bool.not_eq_true, Bool.false_eq_true, reduceIte, Int.reduceLT, Int.reduceLE, Int.reduceEq, Int.reduceNeg, Int.reduceAdd, Int.reduceSub, locP_e, gBox_a, gBox_i, gBox_b, gBox_p, gLoad_s, gAlloc_s, gStore_a, gStore_i, gStore_b, gStore_p, sub_z, sub_s, lay_z, lay_s, List.length_cons, List.length_nil, Nat.reduceLeDiff, Nat.le_refl, List.drop_zero, List.drop_succ_cons, List.take_succ_cons, List.take_zero, List.drop_nil, List.cons_append, List.nil_append, List.all_cons, List.all_nil, oneB_i, oneB_b, oneB_p, oneB_sl, Bool.and_true, Nat.reduceLT, Nat.lt_irrefl, Nat.zero_lt_one, gBoxE, gBoxC, subE, subEC, subE0, subE1, subE2, subE3, subE4, subE6, subE7, subE8, subC, subC0, subC1, subC2, subC3, subC4, subC5, subC6] at hk ⊢ <;> exact hk
/-! ### Who gives a slot back -/
structure Gv where
  pc : Int
  slot : Int
  top : Int
def Gv.l (g : Gv) : List Value := [.int .i64 g.pc, .int .i64 g.slot, .int .u64 g.top]
def Gv.step (C : Cf) (who : Int) (A : Ar) (g : Gv) : Bool × Gv × Ar :=
  if g.pc = 0 then (false, ⟨1, g.slot, A.w 1⟩, (A.by who).load 1)
  else if g.pc = 1 then (false, ⟨2, g.slot, g.top⟩, (A.by who).store (C.slot g.slot + 1) (putTop (topS g.top) 0))
  else (decide (A.w 1 = g.top), ⟨0, g.slot, g.top⟩, (A.by who).cas 1 g.top (putTop g.slot (topN g.top + 1)))
theorem c_Give_Step (hN : N.ok) (hC : C.ok) (hA : isA N A σ) {p : Nat} {pre post : List Value} {t : Gv} (hp : σ.get p = some ⟨pre ++ t.l ++ post, true⟩) (hd : p ∉ N.l)
    (hw : ∀ i, 0 ≤ A.w i ∧ A.w i < 18446744073709551616) (hn : C.len ≤ A.n) (h0 : 0 ≤ t.top ∧ t.top < 18446744073709551616) (h1 : 0 ≤ t.slot ∧ t.slot < C.S)
    (hk : ∀ τ, isA N (t.step C who A).2.2 τ → τ.get p = some ⟨pre ++ (t.step C who A).2.1.l ++ post, true⟩ → Keep (p :: N.l) σ τ → K (.bool (t.step C who A).1) τ) :
    s_slot_Give_Step [.pointer (some ⟨p, pre.length, none⟩), N.env C who] K σ := by
  rw [hA.obj hp]
  have hl := len_bd hC
  have hT := hC.T
  have hS := hC.S
  have hCC := hC.C
  have hch : C.chunk C.C = 6 + C.T + 2 * C.S + 3 * C.C := rfl
  simp only [s_slot_Give_Step, w_slot_Give_Step, w_slot_Give_Step_j1, w_slot_Give_Step_j1b, Gv.l, ldO hd, c_lTop, xMove, xPickT, xPickF, xNil, xFld, xExt0, xExt1, xExt30, xExt31, xExt32, xAdd, xSub, xMul, xEql, xNeq, xLss, xLeq, xGtr, xGeq, xEqPN, xEqNN, xNePN, xNeNN, xEqBB, xNeBB, xNot, xConv, xLen, xMin, xMax, xIfc, xIfT, xIfF, xIfD, xJoinE, xOs, xCs, xFldV, List.getD_cons_zero, List.getD_cons_succ, Nat.zero_add, Nat.reduceAdd, Mem.get_set_same, Mem.set_set, if_true, if_false, Bool.not_true, Bool.not_false, decide_true, decide_false, decide_eq_true_eq, decide_not, Bool.not_eq_true, Bool.false_eq_true, reduceIte, Int.reduceLT, Int.reduceLE, Int.reduceEq, Int.reduceNeg, Int.reduceAdd, Int.reduceSub, locP_e, gBox_a, gBox_i, gBox_b, gBox_p, gLoad_s, gAlloc_s, gStore_a, gStore_i, gStore_b, gStore_p, sub_z, sub_s, lay_z, lay_s, List.length_cons, List.length_nil, Nat.reduceLeDiff, Nat.le_refl, List.drop_zero, List.drop_succ_cons, List.take_succ_cons, List.take_zero, List.drop_nil, List.cons_append, List.nil_append, List.all_cons, List.all_nil, oneB_i, oneB_b, oneB_p, oneB_sl, Bool.and_true, Nat.reduceLT, Nat.lt_irrefl, Nat.zero_lt_one, gBoxE, gBoxC, subE, subEC, subE0, subE1, subE2, subE3, subE4, subE6, subE7, subE8, subC, subC0, subC1, subC2, subC3, subC4, subC5, subC6]
  rw [c_Top h0.1 h0.2]
  simp only [ldO hd, c_lTop, xMove, xPickT, xPickF, xNil, xFld, xExt0, xExt1, xExt30, xExt31, xExt32, xAdd, xSub, xMul, xEql, xNeq, xLss, xLeq, xGtr, xGeq, xEqPN, xEqNN, xNePN, xNeNN, xEqBB, xNeBB, xNot, xConv, xLen, xMin, xMax, xIfc, xIfT, xIfF, xIfD, xJoinE, xOs, xCs, xFldV, List.getD_cons_zero, List.getD_cons_succ, Nat.zero_add, Nat.reduceAdd, Mem.get_set_same, Mem.set_set, if_true, if_false, Bool.not_true, Bool.not_false, decide_true, decide_false, decide_eq_true_eq, decide_not, Bool.not_eq_true, Bool.false_eq_true, reduceIte, Int.reduceLT, Int.reduceLE, Int.reduceEq, Int.reduceNeg, Int.reduceAdd, Int.reduceSub, locP_e, gBox_a, gBox_i, gBox_b, gBox_p, gLoad_s, gAlloc_s, gStore_a, gStore_i, gStore_b, gStore_p, sub_z, sub_s, lay_z, lay_s, List.length_cons, List.length_nil, Nat.reduceLeDiff, Nat.le_refl, List.drop_zero, List.drop_succ_cons, List.take_succ_cons, List.take_zero, List.drop_nil, List.cons_append, List.nil_append, List.all_cons, List.all_nil, oneB_i, oneB_b, oneB_p, oneB_sl, Bool.and_true, Nat.reduceLT, Nat.lt_irrefl, Nat.zero_lt_one, gBoxE, gBoxC, subE, subEC, subE0, subE1, subE2, subE3, subE4, subE6, subE7, subE8, subC, subC0, subC1, subC2, subC3, subC4, subC5, subC6]
  by_cases c0 : t.pc = 0
  · rw [if_pos c0, c_Load hN (by omega) (by omega)]
    simp only [stOi hd, ldO hd, xMove, xPickT, xPickF, xNil, xFld, xExt0, xExt1, xExt30, xExt31, xExt32, xAdd, xSub, xMul, xEql, xNeq, xLss, xLeq, xGtr, xGeq, xEqPN, xEqNN, xNePN, xNeNN, xEqBB, xNeBB, xNot, xConv, xLen, xMin, xMax, xIfc, xIfT, xIfF, xIfD, xJoinE, xOs, xCs, xFldV, List.getD_cons_zero, List.getD_cons_succ, Nat.zero_add, Nat.reduceAdd, Mem.get_set_same, Mem.set_set, if_true, if_false, Bool.not_true, Bool.not_false, decide_true, decide_false, decide_eq_true_eq, decide_not, Bool.not_eq_true, Bool.false_eq_true, reduceIte, Int.reduceLT, Int.reduceLE, Int.reduceEq, Int.reduceNeg, Int.reduceAdd, Int.reduceSub, locP_e, gBox_a, gBox_i, gBox_b, gBox_p, gLoad_s, gAlloc_s, gStore_a, gStore_i, gStore_b, gStore_p, sub_z, sub_s, lay_z, lay_s, List.length_cons, List.length_nil, Nat.reduceLeDiff, Nat.le_refl, List.drop_zero, List.drop_succ_cons, List.take_succ_cons, List.take_zero, List.drop_nil, List.cons_append, List.nil_append, List.all_cons, List.all_nil, oneB_i, oneB_b, oneB_p, oneB_sl, Bool.and_true, Nat.reduceLT, Nat.lt_irrefl, Nat.zero_lt_one, gBoxE, gBoxC, subE, subEC, subE0, subE1, subE2, subE3, subE4, subE6, subE7, subE8, subC, subC0, subC1, subC2, subC3, subC4, subC5, subC6]
    simp only [Gv.step, if_pos c0] at hk
    exact behind hN hd hk
  · by_cases c1 : t.pc = 1
    · have ha : 0 ≤ C.slot t.slot + 1 ∧ C.slot t.slot + 1 < A.n := by unfold Cf.slot; omega
      have hN1 : -1 ≤ topS t.top := by unfold topS; omega
      rw [if_neg c0, if_pos c1, c_Slot hC (by omega) (by omega)]
      simp only [xAdd]
      rw [IntWalk.i64_in (C.slot t.slot + 1) (by unfold Cf.slot; omega), c_PutTop (by omega), c_Store hN ha.1 ha.2]
      simp only [stOi hd, ldO hd, xMove, xPickT, xPickF, xNil, xFld, xExt0, xExt1, xExt30, xExt31, xExt32, xAdd, xSub, xMul, xEql, xNeq, xLss, xLeq, xGtr, xGeq, xEqPN, xEqNN, xNePN, xNeNN, xEqBB, xNeBB, xNot, xConv, xLen, xMin, xMax, xIfc, xIfT, xIfF, xIfD, xJoinE, xOs, xCs, xFldV, List.getD_cons_zero, List.getD_cons_succ, Nat.zero_add, Nat.reduceAdd, Mem.get_set_same, Mem.set_set, if_true, if_false, Bool.not_true, Bool.not_false, decide_true, decide_false, decide_eq_true_eq, decide_not, Bool.not_eq_true, Bool.false_eq_true, reduceIte, Int.reduceLT, Int.reduceLE, Int.reduceEq, Int.reduceNeg, Int.reduceAdd, Int.reduceSub, locP_e, gBox_a, gBox_i, gBox_b, gBox_p, gLoad_s, gAlloc_s, gStore_a, gStore_i, gStore_b, gStore_p, sub_z, sub_s, lay_z, lay_s, List.length_cons, List.length_nil, Nat.reduceLeDiff, Nat.le_refl, List.drop_zero, List.drop_succ_cons, List.take_succ_cons, List.take_zero, List.drop_nil, List.cons_append, List.nil_append, List.all_cons, List.all_nil, oneB_i, oneB_b, oneB_p, oneB_sl, Bool.and_true, Nat.reduceLT, Nat.lt_irrefl, Nat.zero_lt_one, gBoxE, gBoxC, subE, subEC, subE0, subE1, subE2, subE3, subE4, subE6, subE7, subE8, subC, subC0, subC1, subC2, subC3, subC4, subC5, subC6]
      simp only [Gv.step, if_neg c0, if_pos c1] at hk
      exact behind hN hd hk
    · rw [if_neg c0, if_neg c1]
      simp only [stOi hd, ldO hd, c_lTop, xMove, xPickT, xPickF, xNil, xFld, xExt0, xExt1, xExt30, xExt31, xExt32, xAdd, xSub, xMul, xEql, xNeq, xLss, xLeq, xGtr, xGeq, xEqPN, xEqNN, xNePN, xNeNN, xEqBB, xNeBB, xNot, xConv, xLen, xMin, xMax, xIfc, xIfT, xIfF, xIfD, xJoinE, xOs, xCs, xFldV, List.getD_cons_zero, List.getD_cons_succ, Nat.zero_add, Nat.reduceAdd, Mem.get_set_same, Mem.set_set, if_true, if_false, Bool.not_true, Bool.not_false, decide_true, decide_false, decide_eq_true_eq, decide_not, Bool.not_eq_true, Bool.false_eq_true, reduceIte, Int.reduceLT, Int.reduceLE, Int.reduceEq, Int.reduceNeg, Int.reduceAdd, Int.reduceSub, locP_e, gBox_a, gBox_i, gBox_b, gBox_p, gLoad_s, gAlloc_s, gStore_a, gStore_i, gStore_b, gStore_p, sub_z, sub_s, lay_z, lay_s, List.length_cons, List.length_nil, Nat.reduceLeDiff, Nat.le_refl, List.drop_zero, List.drop_succ_cons, List.take_succ_cons, List.take_zero, List.drop_nil, List.cons_append, List.nil_append, List.all_cons, List.all_nil, oneB_i, oneB_b, oneB_p, oneB_sl, Bool.and_true, Nat.reduceLT, Nat.lt_irrefl, Nat.zero_lt_one, gBoxE, gBoxC, subE, subEC, subE0, subE1, subE2, subE3, subE4, subE6, subE7, subE8, subC, subC0, subC1, subC2, subC3, subC4, subC5, subC6]
      have hN2 : 0 ≤ topN t.top ∧ topN t.top < 68719476736 := by unfold topN; omega
      rw [IntWalk.i64_in (topN t.top + 1) (by omega), c_PutTop (by omega), c_Cas hN (by omega) (by omega)]
      simp only [Gv.step, if_neg c0, if_neg c1] at hk
      exact behind hN hd hk
theorem hBox_i {cs : List Value} {sz : Nat} {K : Value → Mem → Prop} {σ : Mem} (h : cs.length = sz) (hk : ∀ id τ, σ.get id = none → τ.get id = some ⟨cs, true⟩ → Ext σ τ → K (.pointer (some ⟨id, 0, none⟩)) τ) :
    hBox sz [.agg cs.toArray] K σ := by
  rw [hBox_a h]
  exact fun id hid => hk id _ hid (Mem.get_set_same _ _ _) (Ext.fresh hid)
theorem Keep.fresh {L : List Nat} {τ υ : Mem} {id : Nat} (h : σ.get id = none) (e : Ext σ τ) (k : Keep (id :: L) τ υ) : Keep L σ υ := by
  intro i b hi hn
  refine k i b (e i b hi) ?_
  simp only [List.mem_cons, not_or]
  exact ⟨fun e' => (by rw [e', h] at hi; cases hi), hn⟩
theorem isA.new (h : isA N A σ) {id : Nat} (hid : σ.get id = none) : id ∉ N.l := by
  have := h.fresh hid
  simpa [Nm.l] using this
theorem c_NewGive {s : Int} (hk : ∀ id τ, σ.get id = none → τ.get id = some ⟨(Gv.mk 0 s 0).l, true⟩ → Ext σ τ → K (.pointer (some ⟨id, 0, none⟩)) τ) : s_slot_NewGive [.int .i64 s] K σ := by
  have b : ∀ K : Value → Prop, xF (fBuild [(0, 1), (1, 1), (2, 1)] [.int .i64 0, .int .i64 0, .int .u64 0] [1]) [.int .i64 s] K = K (.agg #[.int .i64 0, .int .i64 s, .int .u64 0]) := fun K => nr rfl
  simp only [s_slot_NewGive, w_slot_NewGive, b, xMove, xPickT, xPickF, xNil, xFld, xExt0, xExt1, xExt30, xExt31, xExt32, xAdd, xSub, xMul, xEql, xNeq, xLss, xLeq, xGtr, xGeq, xEqPN, xEqNN, xNePN, xNeNN, xEqBB, xNeBB, xNot, xConv, xLen, xMin, xMax, xIfc, xIfT, xIfF, xIfD, xJoinE, xOs, xCs, xFldV, List.getD_cons_zero, List.getD_cons_succ, Nat.zero_add, Nat.reduceAdd, Mem.get_set_same, Mem.set_set, if_true, if_false, Bool.not_true, Bool.not_false, decide_true, decide_false, decide_eq_true_eq, decide_not, Bool.not_eq_true, Bool.false_eq_true, reduceIte, Int.reduceLT, Int.reduceLE, Int.reduceEq, Int.reduceNeg, Int.reduceAdd, Int.reduceSub]
  exact hBox_i (cs := [_, _, _]) rfl hk

theorem newB_i {c : List Value} {v : Nat → Value} {K : Value → Mem → Prop} {σ : Mem} (h : ∀ id τ, σ.get id = none → τ.get id = some ⟨c, true⟩ → Ext σ τ → K (v id) τ) : newB c v K σ :=
  fun id hid => h id _ hid (Mem.get_set_same _ _ _) (Ext.fresh hid)
theorem hBuildS_i {es len : Nat} {z : List Value} {idx : List Nat} {args : List Value} {K : Value → Mem → Prop} {σ : Mem} (c : List Value) (hc : fillL (fun i => some (i * es, es)) (List.replicate len z).flatten idx args = some c)
    (h : ∀ id τ, σ.get id = none → τ.get id = some ⟨c, true⟩ → Ext σ τ → K (.slice (some ⟨id, 0, none⟩) len es) τ) : hBuildS es len z idx args K σ := by
  simp only [hBuildS, hc]
  exact newB_i h

/-! ### Loops that count; rows of numbers in a block -/

theorem xLoop_i {F : (List Value → List (List Value) → Mem → Prop) → List Value → List (List Value) → Mem → Prop} (enc : Int → List Value) (ls : List (List Value)) (m : Int) (I : Int → Mem → Prop)
    (hr : ∀ i σ, I i σ → ∀ R : List Value → List (List Value) → Mem → Prop, (∀ τ, i < m → I (i + 1) τ → R (enc (i + 1)) ls τ) → F R (enc i) ls σ) {i : Int} {σ : Mem} (h0 : I i σ) : xLoop F (enc i) ls σ := by
  refine xLoop_inv (fun k ts l τ => ∃ i, k = (m - i).toNat ∧ ts = enc i ∧ l = ls ∧ I i τ) ?_ (n := (m - i).toNat) ⟨i, rfl, rfl, rfl, h0⟩
  rintro k ts l τ ⟨i, rfl, rfl, rfl, h⟩
  exact hr i τ h _ fun υ hi h' => ⟨_, by omega, i + 1, rfl, rfl, rfl, h'⟩
theorem xLoop_r {F : (List Value → List (List Value) → Mem → Prop) → List Value → List (List Value) → Mem → Prop} (I : Nat → List Value → List (List Value) → Mem → Prop)
    (hr : ∀ n ts ls σ, I n ts ls σ → ∀ R : List Value → List (List Value) → Mem → Prop, (∀ m ts' ls' σ', m < n → I m ts' ls' σ' → R ts' ls' σ') → F R ts ls σ)
    {n : Nat} {ts : List Value} {ls : List (List Value)} {σ : Mem} (h0 : I n ts ls σ) : xLoop F ts ls σ :=
  xLoop_inv I (fun n ts ls σ h => hr n ts ls σ h _ fun m ts' ls' σ' hm h' => ⟨m, hm, h'⟩) h0
theorem ldCells {k : IntKind} {n q : Nat} {g : Int → Int} {i : Int} {b : Bool} (h : σ.get q = some ⟨cells k n g, b⟩) (h0 : 0 ≤ i) (h1 : i < n) :
    hLoad 1 false [.pointer (some ⟨q, i.toNat * 1, none⟩)] K σ = K (.int k (g i)) σ := by
  have := cells_sub k g h0 h1
  rw [Nat.zero_add] at this
  rw [hLoad_eq h, this, xOs]
theorem stCells {k : IntKind} {n q : Nat} {g : Int → Int} {i v : Int} (h : σ.get q = some ⟨cells k n g, true⟩) (h0 : 0 ≤ i) (h1 : i < n) :
    hStore 1 [.pointer (some ⟨q, i.toNat * 1, none⟩), .int k v] K σ = K undef (σ.set q ⟨cells k n (upd g i v), true⟩) := by
  have := cells_lay k g v h0 h1
  rw [Nat.zero_add] at this
  rw [hStore_eq h rfl (by simp; omega) rfl, this]
theorem ldCellsB {n q : Nat} {g : Int → Bool} {i : Int} {b : Bool} (h : σ.get q = some ⟨cellsB n g, b⟩) (h0 : 0 ≤ i) (h1 : i < n) :
    hLoad 1 false [.pointer (some ⟨q, i.toNat * 1, none⟩)] K σ = K (.bool (g i)) σ := by
  rw [hLoad_eq h, Nat.mul_one, sub_one (cellsB_get g h0 h1), xOs]
theorem isA.setO (h : isA N A σ) {q : Nat} {c : Blk} (hq : q ∉ N.l) : isA N A (σ.set q c) := by
  have := notin hq
  exact ⟨by rw [Mem.get_set_ne _ _ this.1.symm]; exact h.m, by rw [Mem.get_set_ne _ _ this.2.1.symm]; exact h.w, by rw [Mem.get_set_ne _ _ this.2.2.symm]; exact h.t⟩
theorem hMakeS_i {es by' : Nat} {z : List Value} {n : Int} (h0 : 0 ≤ n) (h1 : n ≤ 1073741824) (hb : by' ≤ 1024)
    (hk : ∀ id τ, σ.get id = none → τ.get id = some ⟨(List.replicate n.toNat z).flatten, true⟩ → Ext σ τ → K (.slice (some ⟨id, 0, none⟩) n.toNat es) τ) : hMakeS es by' z [.int .i64 n, .int .i64 n] K σ := by
  rw [hMakeS_eq h0 h1 hb]
  exact fun id hid => hk id _ hid (Mem.get_set_same _ _ _) (Ext.fresh hid)
theorem xAndI {K : Value → Prop} {Q : EqK} {k : Nat} {a : Int} (hk : k ≤ 62) : xF (fBin .and Q) [.int .i64 a, .int .i64 (2 ^ k - 1)] K = K (.int .i64 (a % 2 ^ k)) := by
  have e : ((2 : Int) ^ k - 1) = ((2 ^ k - 1 : Nat) : Int) := by
    push_cast [Nat.one_le_two_pow]
    rfl
  have hp : 0 < 2 ^ k := Nat.two_pow_pos k
  have e2 : ((2 ^ k : Nat) : Int) = 2 ^ k := by push_cast; rfl
  have hb : 2 ^ k ≤ 2 ^ 62 := Nat.pow_le_pow_right (by decide) hk
  have hd : (2 ^ k : Nat) ∣ 2 ^ 64 := Nat.pow_dvd_pow 2 (by omega)
  have q : ((BitVec.ofInt 64 a &&& BitVec.ofInt 64 ((2 ^ k - 1 : Nat) : Int)).toNat : Int) = a % 2 ^ k := by
    rw [BitVec.toNat_and, BitVec.toNat_ofInt, BitVec.toNat_ofInt]
    have h4 : (((2 ^ k - 1 : Nat) : Int) % ((2 ^ 64 : Nat) : Int)).toNat = 2 ^ k - 1 := by omega
    rw [h4, Nat.and_two_pow_sub_one_eq_mod, Int.natCast_emod, Int.toNat_of_nonneg (by omega), Int.emod_emod_of_dvd a (Int.natCast_dvd_natCast.2 hd), e2]
  simp only [xF, fBin, isSh, binI, Bool.false_eq_true, if_false, if_true]
  show K (.int .i64 (IntKind.i64.wrap ((BitVec.ofInt 64 a &&& BitVec.ofInt 64 (2 ^ k - 1)).toNat : Int))) = _
  rw [e, q]
  have h1 : 0 ≤ a % 2 ^ k := by rw [← e2]; exact Int.emod_nonneg _ (by omega)
  have h2 : a % 2 ^ k < 2 ^ k := by rw [← e2]; exact Int.emod_lt_of_pos _ (by omega)
  have h3 : (2 : Int) ^ k ≤ 4611686018427387904 := by rw [← e2]; omega
  rw [IntWalk.i64_in _ (by omega)]
theorem andI1 {K : Value → Prop} {Q : EqK} {a : Int} : xF (fBin .and Q) [.int .i64 a, .int .i64 1] K = K (.int .i64 (a % 2)) := by simpa using xAndI (K := K) (Q := Q) (k := 1) (a := a) (by decide)
theorem andI3 {K : Value → Prop} {Q : EqK} {a : Int} : xF (fBin .and Q) [.int .i64 a, .int .i64 3] K = K (.int .i64 (a % 4)) := by simpa using xAndI (K := K) (Q := Q) (k := 2) (a := a) (by decide)
theorem andI7 {K : Value → Prop} {Q : EqK} {a : Int} : xF (fBin .and Q) [.int .i64 a, .int .i64 7] K = K (.int .i64 (a % 8)) := by simpa using xAndI (K := K) (Q := Q) (k := 3) (a := a) (by decide)
theorem andI15 {K : Value → Prop} {Q : EqK} {a : Int} : xF (fBin .and Q) [.int .i64 a, .int .i64 15] K = K (.int .i64 (a % 16)) := by simpa using xAndI (K := K) (Q := Q) (k := 4) (a := a) (by decide)
theorem andI31 {K : Value → Prop} {Q : EqK} {a : Int} : xF (fBin .and Q) [.int .i64 a, .int .i64 31] K = K (.int .i64 (a % 32)) := by simpa using xAndI (K := K) (Q := Q) (k := 5) (a := a) (by decide)
theorem andI63 {K : Value → Prop} {Q : EqK} {a : Int} : xF (fBin .and Q) [.int .i64 a, .int .i64 63] K = K (.int .i64 (a % 64)) := by simpa using xAndI (K := K) (Q := Q) (k := 6) (a := a) (by decide)
theorem andI127 {K : Value → Prop} {Q : EqK} {a : Int} : xF (fBin .and Q) [.int .i64 a, .int .i64 127] K = K (.int .i64 (a % 128)) := by simpa using xAndI (K := K) (Q := Q) (k := 7) (a := a) (by decide)
theorem andI1023 {K : Value → Prop} {Q : EqK} {a : Int} : xF (fBin .and Q) [.int .i64 a, .int .i64 1023] K = K (.int .i64 (a % 1024)) := by simpa using xAndI (K := K) (Q := Q) (k := 10) (a := a) (by decide)
theorem andI65535 {K : Value → Prop} {Q : EqK} {a : Int} : xF (fBin .and Q) [.int .i64 a, .int .i64 65535] K = K (.int .i64 (a % 65536)) := by simpa using xAndI (K := K) (Q := Q) (k := 16) (a := a) (by decide)
theorem andI40 {K : Value → Prop} {Q : EqK} {a : Int} : xF (fBin .and Q) [.int .i64 a, .int .i64 1099511627775] K = K (.int .i64 (a % 1099511627776)) := by simpa using xAndI (K := K) (Q := Q) (k := 40) (a := a) (by decide)

theorem gStoreE {k : Nat} : gStore 9 [.pointer (some ⟨k, 0, some 0⟩), N.env C who] [.int .i64 0, .int .i64 0, .int .i64 0, .int .i64 0, .int .i64 0, .int .i64 0, .int .i64 0, .pointer none, .int .i64 0] = some (N.el C who) := nr rfl
theorem c_PeekA (hN : N.ok) (hA : isA N A σ) {a : Int} (h0 : 0 ≤ a) (h1 : a < A.n) : s_mem_Mem_Peek [N.p, .int .i64 a] K σ = K (.int .u64 (A.w a)) σ := by
  have := c_mPeek (N := N) (A := A) (σ := σ) (K := K) hN h0 h1
  rwa [← hA.eq] at this
theorem c_LenA (hA : isA N A σ) : s_mem_Mem_Len [N.p] K σ = K (.int .i64 A.n) σ := by
  have := c_mLen (N := N) (A := A) (σ := σ) (K := K)
  rwa [← hA.eq] at this

/-- The forms of the laws' arenas. -/
def cA (T S Ch W : Int) : Cf := ⟨T, S, Ch, W, 100, 600, 3⟩
theorem cA_ok {T S Ch W : Int} (h1 : 1 ≤ T ∧ T ≤ 8) (h2 : 1 ≤ S ∧ S ≤ 65536) (h3 : 1 ≤ Ch ∧ Ch ≤ 64) (h4 : 17 ≤ W ∧ W ≤ 256) : (cA T S Ch W).ok :=
  ⟨h1, h2, h3, h4, ⟨by show (1 : Int) ≤ 100; decide, by show (100 : Int) ≤ 65535; decide⟩, ⟨by show (0 : Int) ≤ 600; decide, by show (600 : Int) ≤ 1000; decide⟩, ⟨by show (1 : Int) ≤ 3; decide, by show (3 : Int) ≤ 16; decide⟩⟩
theorem Keep.get {L : List Nat} {τ : Mem} {i : Nat} {b : Blk} (k : Keep L σ τ) (h : σ.get i = some b) (hn : i ∉ L) : τ.get i = some b := k i b h hn
theorem c_NowA (hA : isA N A σ) : s_layout_Env_Now [N.env C who] K σ = K (.int .i64 A.s) σ := by
  have := c_Now (N := N) (A := A) (σ := σ) (K := K) (C := C) (who := who)
  rwa [← hA.eq] at this

/-- What so many steps leave. -/
structure Aft (A A' : Ar) (k : Int) (w : Int → Int) : Prop where
  n : A'.n = A.n
  w : A'.w = w
  s : A'.s = A.s + k
  t : ∀ i, A'.t i = A.t i ∨ A.s < A'.t i ∧ A'.t i ≤ A'.s
theorem Aft.ok {A' : Ar} {k b : Int} {w : Int → Int} (h : Aft A A' k w) (hk : 0 ≤ k) (ho : A.ok b) (hw : ∀ i, 0 ≤ w i ∧ w i < 18446744073709551616) : A'.ok (b + k) := by
  refine ⟨fun i => by rw [h.w]; exact hw i, ?_, fun i => ?_⟩
  · have := ho.s; have := h.s; omega
  · have := ho.s; have := h.s; have := ho.t i
    rcases h.t i with e | e <;> omega
theorem Aft.trans {A' A'' : Ar} {k k' : Int} {w w' : Int → Int} (h : Aft A A' k w) (h' : Aft A' A'' k' w') (hk : 0 ≤ k) (hk' : 0 ≤ k') : Aft A A'' (k + k') w' := by
  refine ⟨h'.n.trans h.n, h'.w, by rw [h'.s, h.s]; omega, fun i => ?_⟩
  have := h.s; have := h'.s
  rcases h'.t i with e | e
  · rw [e]
    rcases h.t i with e | e <;> omega
  · omega
theorem aft_load {b a : Int} (h : A.ok b) (hb : b < 9223372036854775807) : Aft A ((A.by who).load a) 1 A.w :=
  ⟨rfl, rfl, by rw [load_s, by_s, h.s1 hb], fun i => .inl rfl⟩
theorem aft_store {b a v : Int} (h : A.ok b) (hb : b < 9223372036854775807) : Aft A ((A.by who).store a v) 1 (upd A.w a v) := by
  refine ⟨rfl, rfl, by rw [store_s, by_s, h.s1 hb], fun i => ?_⟩
  rw [store_t, by_s, h.s1 hb, store_s, by_s, h.s1 hb]
  split
  · unfold upd; split
    · right; omega
    · left; rfl
  · left; rfl
theorem aft_cas {b a o v : Int} (h : A.ok b) (hb : b < 9223372036854775807) : Aft A ((A.by who).cas a o v) 1 (if A.w a = o then upd A.w a v else A.w) := by
  by_cases hc : A.w a = o
  · rw [if_pos hc, cas_yes (by exact hc)]; exact aft_store h hb
  · rw [if_neg hc, cas_no (by exact hc)]; exact aft_load h hb

end Go.Fl
