/- Slots that are taken and given back by one alone. No condition. -/
import Derived.Test.YtggcbkdiicdckaaFlZ
namespace Go.Fl
open Go
set_option linter.unusedVariables false
set_option linter.unusedSimpArgs false
variable {N : Nm} {A B : Ar} {σ : Mem} {K : Value → Mem → Prop} {C : Cf} {who : Int}

theorem c_awake6 : s_law06_awake [] K σ = K (.bool true) σ := by unfold s_law06_awake; exact nr rfl
theorem Tk.step0 {a b c : Int} {d : Bool} : (Tk.mk 0 a b c d).step C who A = (decide (topS (A.w 1) < 0), ⟨1, A.w 1, b, topS (A.w 1), d⟩, (A.by who).load 1) := nr rfl
theorem Tk.step1 {a b c : Int} {d : Bool} : (Tk.mk 1 a b c d).step C who A = (d, ⟨2, a, topS (A.w (C.slot c + 1)), c, d⟩, (A.by who).load (C.slot c + 1)) := nr rfl
theorem Tk.step2 {a b c : Int} {d : Bool} : (Tk.mk 2 a b c d).step C who A = (decide (A.w 1 = a), ⟨0, a, b, c, decide (A.w 1 = a)⟩, (A.by who).cas 1 a (putTop b (topN a + 1))) := nr rfl
theorem topS_ge (w : Int) (h : 0 ≤ w) : -1 ≤ topS w := by unfold topS; omega

/-- What a slot's taking leaves of the words: the next slot is the first one. -/
def tookW (C : Cf) (w : Int → Int) : Int → Int := upd w 1 (putTop (topS (w (C.slot (topS (w 1)) + 1))) (topN (w 1) + 1))
theorem c_take (hN : N.ok) (hC : C.ok) (hA : isA N A σ) {b : Int} (ok : A.ok b) (hb : b < 4611686018427387904) (hn : C.len ≤ A.n) (hs : topS (A.w 1) < C.S)
    (h0 : topS (A.w 1) < 0 → ∀ A' τ, Aft A A' 1 A.w → isA N A' τ → Keep N.l σ τ → K (.tuple #[.int .i64 0, .bool false, .int .i64 1]) τ)
    (h1 : 0 ≤ topS (A.w 1) → ∀ A' τ, Aft A A' 3 (tookW C A.w) → isA N A' τ → Keep N.l σ τ → K (.tuple #[.int .i64 (topS (A.w 1)), .bool true, .int .i64 3]) τ) :
    s_law06_take [N.env C who] K σ := by
  have b0 : ∀ K : Value → Prop, xF (fBuild [(0, 1), (1, 1), (2, 1), (3, 1), (4, 1)] [.int .i64 0, .int .u64 0, .int .i64 0, .int .i64 0, .bool false] []) [] K = K (.agg #[.int .i64 0, .int .u64 0, .int .i64 0, .int .i64 0, .bool false]) := fun K => nr rfl
  simp only [s_law06_take, w_law06_take, b0, xMove, xPickT, xPickF, xNil, xFld, xExt0, xExt1, xExt30, xExt31, xExt32, xAdd, xSub, xMul, xEql, xNeq, xLss, xLeq, xGtr, xGeq, xEqPN, xEqNN, xNePN, xNeNN, xEqBB, xNeBB, xNot, xConv, xLen, xMin, xMax, xIfc, xIfT, xIfF, xIfD, xJoinE, xOs, xCs, xFldV, List.getD_cons_zero, List.getD_cons_succ, Nat.zero_add, Nat.reduceAdd, Mem.get_set_same, Mem.set_set, if_true, if_false, Bool.not_true, Bool.not_false, decide_true, decide_false, decide_eq_true_eq, decide_not, Bool.not_eq_true, Bool.false_eq_true, reduceIte, Int.reduceLT, Int.reduceLE, Int.reduceEq, Int.reduceNeg, Int.reduceAdd, Int.reduceSub, locP_e, gBox_a, gBox_i, gBox_b, gBox_p, gLoad_s, gAlloc_s, gStore_a, gStore_i, gStore_b, gStore_p, sub_z, sub_s, lay_z, lay_s, List.length_cons, List.length_nil, Nat.reduceLeDiff, Nat.le_refl, List.drop_zero, List.drop_succ_cons, List.take_succ_cons, List.take_zero, List.drop_nil, List.cons_append, List.nil_append, List.all_cons, List.all_nil, oneB_i, oneB_b, oneB_p, oneB_sl, Bool.and_true, Nat.reduceLT, Nat.lt_irrefl, Nat.zero_lt_one, gBoxE, gBoxC, subE, subEC, subE0, subE1, subE2, subE3, subE4, subE6, subE7, subE8, subC, subC0, subC1, subC2, subC3, subC4, subC5, subC6]
  refine hBox_i (cs := [_, _, _, _, _]) rfl fun p τ0 hp hg hx => ?_
  have hA0 := hA.ext hx
  have hd := hA.new hp
  have ss := ok.s
  simp only [c_NowA hA0, xMove, xPickT, xPickF, xNil, xFld, xExt0, xExt1, xExt30, xExt31, xExt32, xAdd, xSub, xMul, xEql, xNeq, xLss, xLeq, xGtr, xGeq, xEqPN, xEqNN, xNePN, xNeNN, xEqBB, xNeBB, xNot, xConv, xLen, xMin, xMax, xIfc, xIfT, xIfF, xIfD, xJoinE, xOs, xCs, xFldV, List.getD_cons_zero, List.getD_cons_succ, Nat.zero_add, Nat.reduceAdd, Mem.get_set_same, Mem.set_set, if_true, if_false, Bool.not_true, Bool.not_false, decide_true, decide_false, decide_eq_true_eq, decide_not, Bool.not_eq_true, Bool.false_eq_true, reduceIte, Int.reduceLT, Int.reduceLE, Int.reduceEq, Int.reduceNeg, Int.reduceAdd, Int.reduceSub, locP_e, gBox_a, gBox_i, gBox_b, gBox_p, gLoad_s, gAlloc_s, gStore_a, gStore_i, gStore_b, gStore_p, sub_z, sub_s, lay_z, lay_s, List.length_cons, List.length_nil, Nat.reduceLeDiff, Nat.le_refl, List.drop_zero, List.drop_succ_cons, List.take_succ_cons, List.take_zero, List.drop_nil, List.cons_append, List.nil_append, List.all_cons, List.all_nil, oneB_i, oneB_b, oneB_p, oneB_sl, Bool.and_true, Nat.reduceLT, Nat.lt_irrefl, Nat.zero_lt_one, gBoxE, gBoxC, subE, subEC, subE0, subE1, subE2, subE3, subE4, subE6, subE7, subE8, subC, subC0, subC1, subC2, subC3, subC4, subC5, subC6]
  refine xLoop_fold ?_
  simp only [w_law06_take_l4, w_law06_take_l4b, xMove, xPickT, xPickF, xNil, xFld, xExt0, xExt1, xExt30, xExt31, xExt32, xAdd, xSub, xMul, xEql, xNeq, xLss, xLeq, xGtr, xGeq, xEqPN, xEqNN, xNePN, xNeNN, xEqBB, xNeBB, xNot, xConv, xLen, xMin, xMax, xIfc, xIfT, xIfF, xIfD, xJoinE, xOs, xCs, xFldV, List.getD_cons_zero, List.getD_cons_succ, Nat.zero_add, Nat.reduceAdd, Mem.get_set_same, Mem.set_set, if_true, if_false, Bool.not_true, Bool.not_false, decide_true, decide_false, decide_eq_true_eq, decide_not, Bool.not_eq_true, Bool.false_eq_true, reduceIte, Int.reduceLT, Int.reduceLE, Int.reduceEq, Int.reduceNeg, Int.reduceAdd, Int.reduceSub, locP_e, gBox_a, gBox_i, gBox_b, gBox_p, gLoad_s, gAlloc_s, gStore_a, gStore_i, gStore_b, gStore_p, sub_z, sub_s, lay_z, lay_s, List.length_cons, List.length_nil, Nat.reduceLeDiff, Nat.le_refl, List.drop_zero, List.drop_succ_cons, List.take_succ_cons, List.take_zero, List.drop_nil, List.cons_append, List.nil_append, List.all_cons, List.all_nil, oneB_i, oneB_b, oneB_p, oneB_sl, Bool.and_true, Nat.reduceLT, Nat.lt_irrefl, Nat.zero_lt_one, gBoxE, gBoxC, subE, subEC, subE0, subE1, subE2, subE3, subE4, subE6, subE7, subE8, subC, subC0, subC1, subC2, subC3, subC4, subC5, subC6]
  refine c_Take_Step hN hC hA0 (t := Tk.new) (pre := []) (post := []) hg hd ok.w hn ⟨Int.le_refl 0, by decide⟩ (fun h => by cases h) (by decide) ?_
  rw [Tk.new, Tk.step0]
  intro τ1 hA1 hg1 hk1
  have a1 := aft_load (who := who) (a := 1) ok (by omega)
  have ok1 := a1.ok (by decide) ok ok.w
  have kk1 : Keep N.l σ τ1 := Keep.fresh hp hx hk1
  by_cases c : topS (A.w 1) < 0
  · simp only [c, w_law06_take_j1, w_law06_take_j1b, xMove, xPickT, xPickF, xNil, xFld, xExt0, xExt1, xExt30, xExt31, xExt32, xAdd, xSub, xMul, xEql, xNeq, xLss, xLeq, xGtr, xGeq, xEqPN, xEqNN, xNePN, xNeNN, xEqBB, xNeBB, xNot, xConv, xLen, xMin, xMax, xIfc, xIfT, xIfF, xIfD, xJoinE, xOs, xCs, xFldV, List.getD_cons_zero, List.getD_cons_succ, Nat.zero_add, Nat.reduceAdd, Mem.get_set_same, Mem.set_set, if_true, if_false, Bool.not_true, Bool.not_false, decide_true, decide_false, decide_eq_true_eq, decide_not, Bool.not_eq_true, Bool.false_eq_true, reduceIte, Int.reduceLT, Int.reduceLE, Int.reduceEq, Int.reduceNeg, Int.reduceAdd, Int.reduceSub, locP_e, gBox_a, gBox_i, gBox_b, gBox_p, gLoad_s, gAlloc_s, gStore_a, gStore_i, gStore_b, gStore_p, sub_z, sub_s, lay_z, lay_s, List.length_cons, List.length_nil, Nat.reduceLeDiff, Nat.le_refl, List.drop_zero, List.drop_succ_cons, List.take_succ_cons, List.take_zero, List.drop_nil, List.cons_append, List.nil_append, List.all_cons, List.all_nil, oneB_i, oneB_b, oneB_p, oneB_sl, Bool.and_true, Nat.reduceLT, Nat.lt_irrefl, Nat.zero_lt_one, gBoxE, gBoxC, subE, subEC, subE0, subE1, subE2, subE3, subE4, subE6, subE7, subE8, subC, subC0, subC1, subC2, subC3, subC4, subC5, subC6]
    refine c_Take_Slot hA1 (pre := []) (post := []) hg1 hd ?_
    simp only [c_NowA hA1, xMove, xPickT, xPickF, xNil, xFld, xExt0, xExt1, xExt30, xExt31, xExt32, xAdd, xSub, xMul, xEql, xNeq, xLss, xLeq, xGtr, xGeq, xEqPN, xEqNN, xNePN, xNeNN, xEqBB, xNeBB, xNot, xConv, xLen, xMin, xMax, xIfc, xIfT, xIfF, xIfD, xJoinE, xOs, xCs, xFldV, List.getD_cons_zero, List.getD_cons_succ, Nat.zero_add, Nat.reduceAdd, Mem.get_set_same, Mem.set_set, if_true, if_false, Bool.not_true, Bool.not_false, decide_true, decide_false, decide_eq_true_eq, decide_not, Bool.not_eq_true, Bool.false_eq_true, reduceIte, Int.reduceLT, Int.reduceLE, Int.reduceEq, Int.reduceNeg, Int.reduceAdd, Int.reduceSub, locP_e, gBox_a, gBox_i, gBox_b, gBox_p, gLoad_s, gAlloc_s, gStore_a, gStore_i, gStore_b, gStore_p, sub_z, sub_s, lay_z, lay_s, List.length_cons, List.length_nil, Nat.reduceLeDiff, Nat.le_refl, List.drop_zero, List.drop_succ_cons, List.take_succ_cons, List.take_zero, List.drop_nil, List.cons_append, List.nil_append, List.all_cons, List.all_nil, oneB_i, oneB_b, oneB_p, oneB_sl, Bool.and_true, Nat.reduceLT, Nat.lt_irrefl, Nat.zero_lt_one, gBoxE, gBoxC, subE, subEC, subE0, subE1, subE2, subE3, subE4, subE6, subE7, subE8, subC, subC0, subC1, subC2, subC3, subC4, subC5, subC6]
    have e : ((A.by who).load 1).s = A.s + 1 := a1.s
    rw [e, IntWalk.i64_in _ (by omega), show A.s + 1 - A.s = 1 by omega]
    exact h0 c _ _ a1 hA1 kk1
  · simp only [c, w_law06_take_j1, w_law06_take_j1b, i64_1, xMove, xPickT, xPickF, xNil, xFld, xExt0, xExt1, xExt30, xExt31, xExt32, xAdd, xSub, xMul, xEql, xNeq, xLss, xLeq, xGtr, xGeq, xEqPN, xEqNN, xNePN, xNeNN, xEqBB, xNeBB, xNot, xConv, xLen, xMin, xMax, xIfc, xIfT, xIfF, xIfD, xJoinE, xOs, xCs, xFldV, List.getD_cons_zero, List.getD_cons_succ, Nat.zero_add, Nat.reduceAdd, Mem.get_set_same, Mem.set_set, if_true, if_false, Bool.not_true, Bool.not_false, decide_true, decide_false, decide_eq_true_eq, decide_not, Bool.not_eq_true, Bool.false_eq_true, reduceIte, Int.reduceLT, Int.reduceLE, Int.reduceEq, Int.reduceNeg, Int.reduceAdd, Int.reduceSub, locP_e, gBox_a, gBox_i, gBox_b, gBox_p, gLoad_s, gAlloc_s, gStore_a, gStore_i, gStore_b, gStore_p, sub_z, sub_s, lay_z, lay_s, List.length_cons, List.length_nil, Nat.reduceLeDiff, Nat.le_refl, List.drop_zero, List.drop_succ_cons, List.take_succ_cons, List.take_zero, List.drop_nil, List.cons_append, List.nil_append, List.all_cons, List.all_nil, oneB_i, oneB_b, oneB_p, oneB_sl, Bool.and_true, Nat.reduceLT, Nat.lt_irrefl, Nat.zero_lt_one, gBoxE, gBoxC, subE, subEC, subE0, subE1, subE2, subE3, subE4, subE6, subE7, subE8, subC, subC0, subC1, subC2, subC3, subC4, subC5, subC6]
    refine xLoop_fold ?_
    simp only [w_law06_take_l4, w_law06_take_l4b, xMove, xPickT, xPickF, xNil, xFld, xExt0, xExt1, xExt30, xExt31, xExt32, xAdd, xSub, xMul, xEql, xNeq, xLss, xLeq, xGtr, xGeq, xEqPN, xEqNN, xNePN, xNeNN, xEqBB, xNeBB, xNot, xConv, xLen, xMin, xMax, xIfc, xIfT, xIfF, xIfD, xJoinE, xOs, xCs, xFldV, List.getD_cons_zero, List.getD_cons_succ, Nat.zero_add, Nat.reduceAdd, Mem.get_set_same, Mem.set_set, if_true, if_false, Bool.not_true, Bool.not_false, decide_true, decide_false, decide_eq_true_eq, decide_not, Bool.not_eq_true, Bool.false_eq_true, reduceIte, Int.reduceLT, Int.reduceLE, Int.reduceEq, Int.reduceNeg, Int.reduceAdd, Int.reduceSub, locP_e, gBox_a, gBox_i, gBox_b, gBox_p, gLoad_s, gAlloc_s, gStore_a, gStore_i, gStore_b, gStore_p, sub_z, sub_s, lay_z, lay_s, List.length_cons, List.length_nil, Nat.reduceLeDiff, Nat.le_refl, List.drop_zero, List.drop_succ_cons, List.take_succ_cons, List.take_zero, List.drop_nil, List.cons_append, List.nil_append, List.all_cons, List.all_nil, oneB_i, oneB_b, oneB_p, oneB_sl, Bool.and_true, Nat.reduceLT, Nat.lt_irrefl, Nat.zero_lt_one, gBoxE, gBoxC, subE, subEC, subE0, subE1, subE2, subE3, subE4, subE6, subE7, subE8, subC, subC0, subC1, subC2, subC3, subC4, subC5, subC6]
    refine c_Take_Step hN hC hA1 (t := ⟨1, A.w 1, 0, topS (A.w 1), false⟩) (pre := []) (post := []) hg1 hd ok1.w hn (ok.w 1) (fun _ => ⟨by dsimp only; omega, hs⟩) (Int.le_of_lt Int.zero_lt_one) ?_
    rw [Tk.step1]
    intro τ2 hA2 hg2 hk2
    have a2 := aft_load (who := who) (a := C.slot (topS (A.w 1)) + 1) ok1 (by omega)
    have ok2 := a2.ok (by decide) ok1 ok1.w
    simp only [i64_2, xMove, xPickT, xPickF, xNil, xFld, xExt0, xExt1, xExt30, xExt31, xExt32, xAdd, xSub, xMul, xEql, xNeq, xLss, xLeq, xGtr, xGeq, xEqPN, xEqNN, xNePN, xNeNN, xEqBB, xNeBB, xNot, xConv, xLen, xMin, xMax, xIfc, xIfT, xIfF, xIfD, xJoinE, xOs, xCs, xFldV, List.getD_cons_zero, List.getD_cons_succ, Nat.zero_add, Nat.reduceAdd, Mem.get_set_same, Mem.set_set, if_true, if_false, Bool.not_true, Bool.not_false, decide_true, decide_false, decide_eq_true_eq, decide_not, Bool.not_eq_true, Bool.false_eq_true, reduceIte, Int.reduceLT, Int.reduceLE, Int.reduceEq, Int.reduceNeg, Int.reduceAdd, Int.reduceSub, locP_e, gBox_a, gBox_i, gBox_b, gBox_p, gLoad_s, gAlloc_s, gStore_a, gStore_i, gStore_b, gStore_p, sub_z, sub_s, lay_z, lay_s, List.length_cons, List.length_nil, Nat.reduceLeDiff, Nat.le_refl, List.drop_zero, List.drop_succ_cons, List.take_succ_cons, List.take_zero, List.drop_nil, List.cons_append, List.nil_append, List.all_cons, List.all_nil, oneB_i, oneB_b, oneB_p, oneB_sl, Bool.and_true, Nat.reduceLT, Nat.lt_irrefl, Nat.zero_lt_one, gBoxE, gBoxC, subE, subEC, subE0, subE1, subE2, subE3, subE4, subE6, subE7, subE8, subC, subC0, subC1, subC2, subC3, subC4, subC5, subC6]
    refine xLoop_fold ?_
    simp only [w_law06_take_l4, w_law06_take_l4b, xMove, xPickT, xPickF, xNil, xFld, xExt0, xExt1, xExt30, xExt31, xExt32, xAdd, xSub, xMul, xEql, xNeq, xLss, xLeq, xGtr, xGeq, xEqPN, xEqNN, xNePN, xNeNN, xEqBB, xNeBB, xNot, xConv, xLen, xMin, xMax, xIfc, xIfT, xIfF, xIfD, xJoinE, xOs, xCs, xFldV, List.getD_cons_zero, List.getD_cons_succ, Nat.zero_add, Nat.reduceAdd, Mem.get_set_same, Mem.set_set, if_true, if_false, Bool.not_true, Bool.not_false, decide_true, decide_false, decide_eq_true_eq, decide_not, Bool.not_eq_true, Bool.false_eq_true, reduceIte, Int.reduceLT, Int.reduceLE, Int.reduceEq, Int.reduceNeg, Int.reduceAdd, Int.reduceSub, locP_e, gBox_a, gBox_i, gBox_b, gBox_p, gLoad_s, gAlloc_s, gStore_a, gStore_i, gStore_b, gStore_p, sub_z, sub_s, lay_z, lay_s, List.length_cons, List.length_nil, Nat.reduceLeDiff, Nat.le_refl, List.drop_zero, List.drop_succ_cons, List.take_succ_cons, List.take_zero, List.drop_nil, List.cons_append, List.nil_append, List.all_cons, List.all_nil, oneB_i, oneB_b, oneB_p, oneB_sl, Bool.and_true, Nat.reduceLT, Nat.lt_irrefl, Nat.zero_lt_one, gBoxE, gBoxC, subE, subEC, subE0, subE1, subE2, subE3, subE4, subE6, subE7, subE8, subC, subC0, subC1, subC2, subC3, subC4, subC5, subC6]
    refine c_Take_Step hN hC hA2 (t := ⟨2, A.w 1, topS (A.w (C.slot (topS (A.w 1)) + 1)), topS (A.w 1), false⟩) (pre := []) (post := []) hg2 hd ok2.w hn (ok.w 1) (fun h => by cases h) (by have := topS_ge (A.w (C.slot (topS (A.w 1)) + 1)) (ok.w _).1; simp only [load_w, by_w]; omega) ?_
    rw [Tk.step2]
    intro τ3 hA3 hg3 hk3
    simp only [load_w, by_w, xMove, xPickT, xPickF, xNil, xFld, xExt0, xExt1, xExt30, xExt31, xExt32, xAdd, xSub, xMul, xEql, xNeq, xLss, xLeq, xGtr, xGeq, xEqPN, xEqNN, xNePN, xNeNN, xEqBB, xNeBB, xNot, xConv, xLen, xMin, xMax, xIfc, xIfT, xIfF, xIfD, xJoinE, xOs, xCs, xFldV, List.getD_cons_zero, List.getD_cons_succ, Nat.zero_add, Nat.reduceAdd, Mem.get_set_same, Mem.set_set, if_true, if_false, Bool.not_true, Bool.not_false, decide_true, decide_false, decide_eq_true_eq, decide_not, Bool.not_eq_true, Bool.false_eq_true, reduceIte, Int.reduceLT, Int.reduceLE, Int.reduceEq, Int.reduceNeg, Int.reduceAdd, Int.reduceSub, locP_e, gBox_a, gBox_i, gBox_b, gBox_p, gLoad_s, gAlloc_s, gStore_a, gStore_i, gStore_b, gStore_p, sub_z, sub_s, lay_z, lay_s, List.length_cons, List.length_nil, Nat.reduceLeDiff, Nat.le_refl, List.drop_zero, List.drop_succ_cons, List.take_succ_cons, List.take_zero, List.drop_nil, List.cons_append, List.nil_append, List.all_cons, List.all_nil, oneB_i, oneB_b, oneB_p, oneB_sl, Bool.and_true, Nat.reduceLT, Nat.lt_irrefl, Nat.zero_lt_one, gBoxE, gBoxC, subE, subEC, subE0, subE1, subE2, subE3, subE4, subE6, subE7, subE8, subC, subC0, subC1, subC2, subC3, subC4, subC5, subC6] at hA3 hg3 ⊢
    have a3 := aft_cas (who := who) (a := 1) (o := A.w 1) (v := putTop (topS (A.w (C.slot (topS (A.w 1)) + 1))) (topN (A.w 1) + 1)) ok2 (by omega)
    simp only [load_w, by_w, if_true] at a3
    have a4 := (a1.trans a2 (by decide) (by decide)).trans a3 (by decide) (by decide)
    simp only [w_law06_take_j1, w_law06_take_j1b, xMove, xPickT, xPickF, xNil, xFld, xExt0, xExt1, xExt30, xExt31, xExt32, xAdd, xSub, xMul, xEql, xNeq, xLss, xLeq, xGtr, xGeq, xEqPN, xEqNN, xNePN, xNeNN, xEqBB, xNeBB, xNot, xConv, xLen, xMin, xMax, xIfc, xIfT, xIfF, xIfD, xJoinE, xOs, xCs, xFldV, List.getD_cons_zero, List.getD_cons_succ, Nat.zero_add, Nat.reduceAdd, Mem.get_set_same, Mem.set_set, if_true, if_false, Bool.not_true, Bool.not_false, decide_true, decide_false, decide_eq_true_eq, decide_not, Bool.not_eq_true, Bool.false_eq_true, reduceIte, Int.reduceLT, Int.reduceLE, Int.reduceEq, Int.reduceNeg, Int.reduceAdd, Int.reduceSub, locP_e, gBox_a, gBox_i, gBox_b, gBox_p, gLoad_s, gAlloc_s, gStore_a, gStore_i, gStore_b, gStore_p, sub_z, sub_s, lay_z, lay_s, List.length_cons, List.length_nil, Nat.reduceLeDiff, Nat.le_refl, List.drop_zero, List.drop_succ_cons, List.take_succ_cons, List.take_zero, List.drop_nil, List.cons_append, List.nil_append, List.all_cons, List.all_nil, oneB_i, oneB_b, oneB_p, oneB_sl, Bool.and_true, Nat.reduceLT, Nat.lt_irrefl, Nat.zero_lt_one, gBoxE, gBoxC, subE, subEC, subE0, subE1, subE2, subE3, subE4, subE6, subE7, subE8, subC, subC0, subC1, subC2, subC3, subC4, subC5, subC6]
    refine c_Take_Slot hA3 (pre := []) (post := []) hg3 hd ?_
    simp only [c_NowA hA3, xMove, xPickT, xPickF, xNil, xFld, xExt0, xExt1, xExt30, xExt31, xExt32, xAdd, xSub, xMul, xEql, xNeq, xLss, xLeq, xGtr, xGeq, xEqPN, xEqNN, xNePN, xNeNN, xEqBB, xNeBB, xNot, xConv, xLen, xMin, xMax, xIfc, xIfT, xIfF, xIfD, xJoinE, xOs, xCs, xFldV, List.getD_cons_zero, List.getD_cons_succ, Nat.zero_add, Nat.reduceAdd, Mem.get_set_same, Mem.set_set, if_true, if_false, Bool.not_true, Bool.not_false, decide_true, decide_false, decide_eq_true_eq, decide_not, Bool.not_eq_true, Bool.false_eq_true, reduceIte, Int.reduceLT, Int.reduceLE, Int.reduceEq, Int.reduceNeg, Int.reduceAdd, Int.reduceSub, locP_e, gBox_a, gBox_i, gBox_b, gBox_p, gLoad_s, gAlloc_s, gStore_a, gStore_i, gStore_b, gStore_p, sub_z, sub_s, lay_z, lay_s, List.length_cons, List.length_nil, Nat.reduceLeDiff, Nat.le_refl, List.drop_zero, List.drop_succ_cons, List.take_succ_cons, List.take_zero, List.drop_nil, List.cons_append, List.nil_append, List.all_cons, List.all_nil, oneB_i, oneB_b, oneB_p, oneB_sl, Bool.and_true, Nat.reduceLT, Nat.lt_irrefl, Nat.zero_lt_one, gBoxE, gBoxC, subE, subEC, subE0, subE1, subE2, subE3, subE4, subE6, subE7, subE8, subC, subC0, subC1, subC2, subC3, subC4, subC5, subC6]
    have e := a4.s
    rw [e, IntWalk.i64_in _ (by omega), show A.s + (1 + 1 + 1) - A.s = 3 by omega]
    exact h1 (by omega) _ _ a4 hA3 (Keep.fresh hp hx (hk1.trans (hk2.trans hk3)))
theorem Gv.step0 {a b : Int} : (Gv.mk 0 a b).step C who A = (false, ⟨1, a, A.w 1⟩, (A.by who).load 1) := nr rfl
theorem Gv.step1 {a b : Int} : (Gv.mk 1 a b).step C who A = (false, ⟨2, a, b⟩, (A.by who).store (C.slot a + 1) (putTop (topS b) 0)) := nr rfl
theorem Gv.step2 {a b : Int} : (Gv.mk 2 a b).step C who A = (decide (A.w 1 = b), ⟨0, a, b⟩, (A.by who).cas 1 b (putTop a (topN b + 1))) := nr rfl
/-- What a slot's giving leaves of the words: it is the first one, the one behind it was. -/
def gaveW (C : Cf) (s : Int) (w : Int → Int) : Int → Int := upd (upd w (C.slot s + 1) (putTop (topS (w 1)) 0)) 1 (putTop s (topN (w 1) + 1))
theorem c_give (hN : N.ok) (hC : C.ok) (hA : isA N A σ) {b : Int} (ok : A.ok b) (hb : b < 4611686018427387904) (hn : C.len ≤ A.n) {s : Int} (hs : 0 ≤ s ∧ s < C.S)
    (hk : ∀ A' τ, Aft A A' 3 (gaveW C s A.w) → isA N A' τ → Keep N.l σ τ → K (.int .i64 3) τ) :
    s_law06_give [N.env C who, .int .i64 s] K σ := by
  simp only [s_law06_give, w_law06_give, xMove, xPickT, xPickF, xNil, xFld, xExt0, xExt1, xExt30, xExt31, xExt32, xAdd, xSub, xMul, xEql, xNeq, xLss, xLeq, xGtr, xGeq, xEqPN, xEqNN, xNePN, xNeNN, xEqBB, xNeBB, xNot, xConv, xLen, xMin, xMax, xIfc, xIfT, xIfF, xIfD, xJoinE, xOs, xCs, xFldV, List.getD_cons_zero, List.getD_cons_succ, Nat.zero_add, Nat.reduceAdd, Mem.get_set_same, Mem.set_set, if_true, if_false, Bool.not_true, Bool.not_false, decide_true, decide_false, decide_eq_true_eq, decide_not, Bool.not_eq_true, Bool.false_eq_true, reduceIte, Int.reduceLT, Int.reduceLE, Int.reduceEq, Int.reduceNeg, Int.reduceAdd, Int.reduceSub, locP_e, gBox_a, gBox_i, gBox_b, gBox_p, gLoad_s, gAlloc_s, gStore_a, gStore_i, gStore_b, gStore_p, sub_z, sub_s, lay_z, lay_s, List.length_cons, List.length_nil, Nat.reduceLeDiff, Nat.le_refl, List.drop_zero, List.drop_succ_cons, List.take_succ_cons, List.take_zero, List.drop_nil, List.cons_append, List.nil_append, List.all_cons, List.all_nil, oneB_i, oneB_b, oneB_p, oneB_sl, Bool.and_true, Nat.reduceLT, Nat.lt_irrefl, Nat.zero_lt_one, gBoxE, gBoxC, subE, subEC, subE0, subE1, subE2, subE3, subE4, subE6, subE7, subE8, subC, subC0, subC1, subC2, subC3, subC4, subC5, subC6]
  refine c_NewGive fun p τ0 hp hg hx => ?_
  have hA0 := hA.ext hx
  have hd := hA.new hp
  have ss := ok.s
  have hT := hC.T
  simp only [c_NowA hA0, xMove, xPickT, xPickF, xNil, xFld, xExt0, xExt1, xExt30, xExt31, xExt32, xAdd, xSub, xMul, xEql, xNeq, xLss, xLeq, xGtr, xGeq, xEqPN, xEqNN, xNePN, xNeNN, xEqBB, xNeBB, xNot, xConv, xLen, xMin, xMax, xIfc, xIfT, xIfF, xIfD, xJoinE, xOs, xCs, xFldV, List.getD_cons_zero, List.getD_cons_succ, Nat.zero_add, Nat.reduceAdd, Mem.get_set_same, Mem.set_set, if_true, if_false, Bool.not_true, Bool.not_false, decide_true, decide_false, decide_eq_true_eq, decide_not, Bool.not_eq_true, Bool.false_eq_true, reduceIte, Int.reduceLT, Int.reduceLE, Int.reduceEq, Int.reduceNeg, Int.reduceAdd, Int.reduceSub, locP_e, gBox_a, gBox_i, gBox_b, gBox_p, gLoad_s, gAlloc_s, gStore_a, gStore_i, gStore_b, gStore_p, sub_z, sub_s, lay_z, lay_s, List.length_cons, List.length_nil, Nat.reduceLeDiff, Nat.le_refl, List.drop_zero, List.drop_succ_cons, List.take_succ_cons, List.take_zero, List.drop_nil, List.cons_append, List.nil_append, List.all_cons, List.all_nil, oneB_i, oneB_b, oneB_p, oneB_sl, Bool.and_true, Nat.reduceLT, Nat.lt_irrefl, Nat.zero_lt_one, gBoxE, gBoxC, subE, subEC, subE0, subE1, subE2, subE3, subE4, subE6, subE7, subE8, subC, subC0, subC1, subC2, subC3, subC4, subC5, subC6]
  refine xLoop_fold ?_
  simp only [w_law06_give_l4, w_law06_give_l4b, xMove, xPickT, xPickF, xNil, xFld, xExt0, xExt1, xExt30, xExt31, xExt32, xAdd, xSub, xMul, xEql, xNeq, xLss, xLeq, xGtr, xGeq, xEqPN, xEqNN, xNePN, xNeNN, xEqBB, xNeBB, xNot, xConv, xLen, xMin, xMax, xIfc, xIfT, xIfF, xIfD, xJoinE, xOs, xCs, xFldV, List.getD_cons_zero, List.getD_cons_succ, Nat.zero_add, Nat.reduceAdd, Mem.get_set_same, Mem.set_set, if_true, if_false, Bool.not_true, Bool.not_false, decide_true, decide_false, decide_eq_true_eq, decide_not, Bool.not_eq_true, Bool.false_eq_true, reduceIte, Int.reduceLT, Int.reduceLE, Int.reduceEq, Int.reduceNeg, Int.reduceAdd, Int.reduceSub, locP_e, gBox_a, gBox_i, gBox_b, gBox_p, gLoad_s, gAlloc_s, gStore_a, gStore_i, gStore_b, gStore_p, sub_z, sub_s, lay_z, lay_s, List.length_cons, List.length_nil, Nat.reduceLeDiff, Nat.le_refl, List.drop_zero, List.drop_succ_cons, List.take_succ_cons, List.take_zero, List.drop_nil, List.cons_append, List.nil_append, List.all_cons, List.all_nil, oneB_i, oneB_b, oneB_p, oneB_sl, Bool.and_true, Nat.reduceLT, Nat.lt_irrefl, Nat.zero_lt_one, gBoxE, gBoxC, subE, subEC, subE0, subE1, subE2, subE3, subE4, subE6, subE7, subE8, subC, subC0, subC1, subC2, subC3, subC4, subC5, subC6]
  refine c_Give_Step hN hC hA0 (t := ⟨0, s, 0⟩) (pre := []) (post := []) hg hd ok.w hn ⟨Int.le_refl 0, (by decide : (0 : Int) < 18446744073709551616)⟩ hs ?_
  rw [Gv.step0]
  intro τ1 hA1 hg1 hk1
  have a1 := aft_load (who := who) (a := 1) ok (by omega)
  have ok1 := a1.ok (by decide) ok ok.w
  simp only [w_law06_give_j1, w_law06_give_j1b, i64_1, xMove, xPickT, xPickF, xNil, xFld, xExt0, xExt1, xExt30, xExt31, xExt32, xAdd, xSub, xMul, xEql, xNeq, xLss, xLeq, xGtr, xGeq, xEqPN, xEqNN, xNePN, xNeNN, xEqBB, xNeBB, xNot, xConv, xLen, xMin, xMax, xIfc, xIfT, xIfF, xIfD, xJoinE, xOs, xCs, xFldV, List.getD_cons_zero, List.getD_cons_succ, Nat.zero_add, Nat.reduceAdd, Mem.get_set_same, Mem.set_set, if_true, if_false, Bool.not_true, Bool.not_false, decide_true, decide_false, decide_eq_true_eq, decide_not, Bool.not_eq_true, Bool.false_eq_true, reduceIte, Int.reduceLT, Int.reduceLE, Int.reduceEq, Int.reduceNeg, Int.reduceAdd, Int.reduceSub, locP_e, gBox_a, gBox_i, gBox_b, gBox_p, gLoad_s, gAlloc_s, gStore_a, gStore_i, gStore_b, gStore_p, sub_z, sub_s, lay_z, lay_s, List.length_cons, List.length_nil, Nat.reduceLeDiff, Nat.le_refl, List.drop_zero, List.drop_succ_cons, List.take_succ_cons, List.take_zero, List.drop_nil, List.cons_append, List.nil_append, List.all_cons, List.all_nil, oneB_i, oneB_b, oneB_p, oneB_sl, Bool.and_true, Nat.reduceLT, Nat.lt_irrefl, Nat.zero_lt_one, gBoxE, gBoxC, subE, subEC, subE0, subE1, subE2, subE3, subE4, subE6, subE7, subE8, subC, subC0, subC1, subC2, subC3, subC4, subC5, subC6]
  refine xLoop_fold ?_
  simp only [w_law06_give_l4, w_law06_give_l4b, xMove, xPickT, xPickF, xNil, xFld, xExt0, xExt1, xExt30, xExt31, xExt32, xAdd, xSub, xMul, xEql, xNeq, xLss, xLeq, xGtr, xGeq, xEqPN, xEqNN, xNePN, xNeNN, xEqBB, xNeBB, xNot, xConv, xLen, xMin, xMax, xIfc, xIfT, xIfF, xIfD, xJoinE, xOs, xCs, xFldV, List.getD_cons_zero, List.getD_cons_succ, Nat.zero_add, Nat.reduceAdd, Mem.get_set_same, Mem.set_set, if_true, if_false, Bool.not_true, Bool.not_false, decide_true, decide_false, decide_eq_true_eq, decide_not, Bool.not_eq_true, Bool.false_eq_true, reduceIte, Int.reduceLT, Int.reduceLE, Int.reduceEq, Int.reduceNeg, Int.reduceAdd, Int.reduceSub, locP_e, gBox_a, gBox_i, gBox_b, gBox_p, gLoad_s, gAlloc_s, gStore_a, gStore_i, gStore_b, gStore_p, sub_z, sub_s, lay_z, lay_s, List.length_cons, List.length_nil, Nat.reduceLeDiff, Nat.le_refl, List.drop_zero, List.drop_succ_cons, List.take_succ_cons, List.take_zero, List.drop_nil, List.cons_append, List.nil_append, List.all_cons, List.all_nil, oneB_i, oneB_b, oneB_p, oneB_sl, Bool.and_true, Nat.reduceLT, Nat.lt_irrefl, Nat.zero_lt_one, gBoxE, gBoxC, subE, subEC, subE0, subE1, subE2, subE3, subE4, subE6, subE7, subE8, subC, subC0, subC1, subC2, subC3, subC4, subC5, subC6]
  refine c_Give_Step hN hC hA1 (t := ⟨1, s, A.w 1⟩) (pre := []) (post := []) hg1 hd ok1.w hn (ok.w 1) hs ?_
  rw [Gv.step1]
  intro τ2 hA2 hg2 hk2
  have a2 := aft_store (who := who) (a := C.slot s + 1) (v := putTop (topS (A.w 1)) 0) ok1 (by omega)
  have ok2 := a2.ok (by decide) ok1 (fun i => upd_cases (P := fun x => 0 ≤ x ∧ x < 18446744073709551616) (putTop_in _ _) (ok1.w i))
  simp only [i64_2, xMove, xPickT, xPickF, xNil, xFld, xExt0, xExt1, xExt30, xExt31, xExt32, xAdd, xSub, xMul, xEql, xNeq, xLss, xLeq, xGtr, xGeq, xEqPN, xEqNN, xNePN, xNeNN, xEqBB, xNeBB, xNot, xConv, xLen, xMin, xMax, xIfc, xIfT, xIfF, xIfD, xJoinE, xOs, xCs, xFldV, List.getD_cons_zero, List.getD_cons_succ, Nat.zero_add, Nat.reduceAdd, Mem.get_set_same, Mem.set_set, if_true, if_false, Bool.not_true, Bool.not_false, decide_true, decide_false, decide_eq_true_eq, decide_not, Bool.not_eq_true, Bool.false_eq_true, reduceIte, Int.reduceLT, Int.reduceLE, Int.reduceEq, Int.reduceNeg, Int.reduceAdd, Int.reduceSub, locP_e, gBox_a, gBox_i, gBox_b, gBox_p, gLoad_s, gAlloc_s, gStore_a, gStore_i, gStore_b, gStore_p, sub_z, sub_s, lay_z, lay_s, List.length_cons, List.length_nil, Nat.reduceLeDiff, Nat.le_refl, List.drop_zero, List.drop_succ_cons, List.take_succ_cons, List.take_zero, List.drop_nil, List.cons_append, List.nil_append, List.all_cons, List.all_nil, oneB_i, oneB_b, oneB_p, oneB_sl, Bool.and_true, Nat.reduceLT, Nat.lt_irrefl, Nat.zero_lt_one, gBoxE, gBoxC, subE, subEC, subE0, subE1, subE2, subE3, subE4, subE6, subE7, subE8, subC, subC0, subC1, subC2, subC3, subC4, subC5, subC6]
  refine xLoop_fold ?_
  simp only [w_law06_give_l4, w_law06_give_l4b, xMove, xPickT, xPickF, xNil, xFld, xExt0, xExt1, xExt30, xExt31, xExt32, xAdd, xSub, xMul, xEql, xNeq, xLss, xLeq, xGtr, xGeq, xEqPN, xEqNN, xNePN, xNeNN, xEqBB, xNeBB, xNot, xConv, xLen, xMin, xMax, xIfc, xIfT, xIfF, xIfD, xJoinE, xOs, xCs, xFldV, List.getD_cons_zero, List.getD_cons_succ, Nat.zero_add, Nat.reduceAdd, Mem.get_set_same, Mem.set_set, if_true, if_false, Bool.not_true, Bool.not_false, decide_true, decide_false, decide_eq_true_eq, decide_not, Bool.not_eq_true, Bool.false_eq_true, reduceIte, Int.reduceLT, Int.reduceLE, Int.reduceEq, Int.reduceNeg, Int.reduceAdd, Int.reduceSub, locP_e, gBox_a, gBox_i, gBox_b, gBox_p, gLoad_s, gAlloc_s, gStore_a, gStore_i, gStore_b, gStore_p, sub_z, sub_s, lay_z, lay_s, List.length_cons, List.length_nil, Nat.reduceLeDiff, Nat.le_refl, List.drop_zero, List.drop_succ_cons, List.take_succ_cons, List.take_zero, List.drop_nil, List.cons_append, List.nil_append, List.all_cons, List.all_nil, oneB_i, oneB_b, oneB_p, oneB_sl, Bool.and_true, Nat.reduceLT, Nat.lt_irrefl, Nat.zero_lt_one, gBoxE, gBoxC, subE, subEC, subE0, subE1, subE2, subE3, subE4, subE6, subE7, subE8, subC, subC0, subC1, subC2, subC3, subC4, subC5, subC6]
  refine c_Give_Step hN hC hA2 (t := ⟨2, s, A.w 1⟩) (pre := []) (post := []) hg2 hd ok2.w hn (ok.w 1) hs ?_
  rw [Gv.step2]
  intro τ3 hA3 hg3 hk3
  have e1 : upd A.w (C.slot s + 1) (putTop (topS (A.w 1)) 0) 1 = A.w 1 := upd_ne _ _ (by unfold Cf.slot; omega)
  simp only [load_w, by_w, store_w, e1, xMove, xPickT, xPickF, xNil, xFld, xExt0, xExt1, xExt30, xExt31, xExt32, xAdd, xSub, xMul, xEql, xNeq, xLss, xLeq, xGtr, xGeq, xEqPN, xEqNN, xNePN, xNeNN, xEqBB, xNeBB, xNot, xConv, xLen, xMin, xMax, xIfc, xIfT, xIfF, xIfD, xJoinE, xOs, xCs, xFldV, List.getD_cons_zero, List.getD_cons_succ, Nat.zero_add, Nat.reduceAdd, Mem.get_set_same, Mem.set_set, if_true, if_false, Bool.not_true, Bool.not_false, decide_true, decide_false, decide_eq_true_eq, decide_not, Bool.not_eq_true, Bool.false_eq_true, reduceIte, Int.reduceLT, Int.reduceLE, Int.reduceEq, Int.reduceNeg, Int.reduceAdd, Int.reduceSub, locP_e, gBox_a, gBox_i, gBox_b, gBox_p, gLoad_s, gAlloc_s, gStore_a, gStore_i, gStore_b, gStore_p, sub_z, sub_s, lay_z, lay_s, List.length_cons, List.length_nil, Nat.reduceLeDiff, Nat.le_refl, List.drop_zero, List.drop_succ_cons, List.take_succ_cons, List.take_zero, List.drop_nil, List.cons_append, List.nil_append, List.all_cons, List.all_nil, oneB_i, oneB_b, oneB_p, oneB_sl, Bool.and_true, Nat.reduceLT, Nat.lt_irrefl, Nat.zero_lt_one, gBoxE, gBoxC, subE, subEC, subE0, subE1, subE2, subE3, subE4, subE6, subE7, subE8, subC, subC0, subC1, subC2, subC3, subC4, subC5, subC6] at hA3 hg3 ⊢
  have a3 := aft_cas (who := who) (a := 1) (o := A.w 1) (v := putTop s (topN (A.w 1) + 1)) ok2 (by omega)
  simp only [load_w, by_w, store_w, e1, if_true] at a3
  have a4 := (a1.trans a2 (by decide) (by decide)).trans a3 (by decide) (by decide)
  simp only [w_law06_give_j1, w_law06_give_j1b, c_NowA hA3, xMove, xPickT, xPickF, xNil, xFld, xExt0, xExt1, xExt30, xExt31, xExt32, xAdd, xSub, xMul, xEql, xNeq, xLss, xLeq, xGtr, xGeq, xEqPN, xEqNN, xNePN, xNeNN, xEqBB, xNeBB, xNot, xConv, xLen, xMin, xMax, xIfc, xIfT, xIfF, xIfD, xJoinE, xOs, xCs, xFldV, List.getD_cons_zero, List.getD_cons_succ, Nat.zero_add, Nat.reduceAdd, Mem.get_set_same, Mem.set_set, if_true, if_false, Bool.not_true, Bool.not_false, decide_true, decide_false, decide_eq_true_eq, decide_not, Bool.not_eq_true, Bool.false_eq_true, reduceIte, Int.reduceLT, Int.reduceLE, Int.reduceEq, Int.reduceNeg, Int.reduceAdd, Int.reduceSub, locP_e, gBox_a, gBox_i, gBox_b, gBox_p, gLoad_s, gAlloc_s, gStore_a, gStore_i, gStore_b, gStore_p, sub_z, sub_s, lay_z, lay_s, List.length_cons, List.length_nil, Nat.reduceLeDiff, Nat.le_refl, List.drop_zero, List.drop_succ_cons, List.take_succ_cons, List.take_zero, List.drop_nil, List.cons_append, List.nil_append, List.all_cons, List.all_nil, oneB_i, oneB_b, oneB_p, oneB_sl, Bool.and_true, Nat.reduceLT, Nat.lt_irrefl, Nat.zero_lt_one, gBoxE, gBoxC, subE, subEC, subE0, subE1, subE2, subE3, subE4, subE6, subE7, subE8, subC, subC0, subC1, subC2, subC3, subC4, subC5, subC6]
  have e := a4.s
  rw [e, IntWalk.i64_in _ (by omega), show A.s + (1 + 1 + 1) - A.s = 3 by omega]
  exact hk _ _ a4 hA3 (Keep.fresh hp hx (hk1.trans (hk2.trans hk3)))

/-! ### Free slots, one behind the other -/

def Chn (C : Cf) (w : Int → Int) : Int → List Int → Prop
  | f, [] => f = -1
  | f, s :: l => f = s ∧ 0 ≤ s ∧ s < C.S ∧ Chn C w (topS (w (C.slot s + 1))) l
/-- The free slots: each once. -/
structure Fre (C : Cf) (w : Int → Int) (l : List Int) : Prop where
  c : Chn C w (topS (w 1)) l
  nd : l.Nodup
theorem topS_put {s c : Int} (h0 : -1 ≤ s) (h1 : s ≤ 65535) : topS (putTop s c) = s := by unfold topS putTop cl; omega
theorem topN_put {s c : Int} (h0 : 0 ≤ c) (h1 : c ≤ 68719476735) : topN (putTop s c) = c := by unfold topN putTop cl; omega
theorem Chn.mem {w : Int → Int} : ∀ {l : List Int} {f : Int}, Chn C w f l → ∀ s ∈ l, 0 ≤ s ∧ s < C.S
  | [], _, _, s, h => by cases h
  | x :: l, f, hc, s, h => by
    rcases List.mem_cons.1 h with rfl | h
    · exact ⟨hc.2.1, hc.2.2.1⟩
    · exact Chn.mem hc.2.2.2 s h
/-- What is changed elsewhere leaves it. -/
theorem Chn.congr {w w' : Int → Int} : ∀ {l : List Int} {f : Int}, Chn C w f l → (∀ s ∈ l, topS (w' (C.slot s + 1)) = topS (w (C.slot s + 1))) → Chn C w' f l
  | [], _, h, _ => h
  | x :: l, f, hc, h => ⟨hc.1, hc.2.1, hc.2.2.1, by rw [h x (by simp)]; exact Chn.congr hc.2.2.2 fun s hs => h s (by simp [hs])⟩
theorem Chn.first {w : Int → Int} {l : List Int} {f : Int} (h : Chn C w f l) : -1 ≤ f ∧ f < C.S ∨ C.S < 0 := by
  cases l with
  | nil => unfold Chn at h; omega
  | cons x l => have := h.1; have := h.2.1; have := h.2.2.1; omega
theorem slot_inj (C : Cf) {s t : Int} (h : C.slot s + 1 = C.slot t + 1) : s = t := by unfold Cf.slot at h; omega
theorem Fre.took (hC : C.ok) {w : Int → Int} {s : Int} {l : List Int} (h : Fre C w (s :: l)) : Fre C (tookW C w) l ∧ topS (w 1) = s := by
  have hT := hC.T
  have hS := hC.S
  have h1 := h.c.1
  have h2 := h.c.2.2.2
  refine ⟨⟨?_, (List.nodup_cons.1 h.nd).2⟩, h1⟩
  have hf := h2.first
  have e : topS (tookW C w 1) = topS (w (C.slot s + 1)) := by
    unfold tookW; rw [upd_same, h1, topS_put (by omega) (by omega)]
  rw [e]
  refine h2.congr fun t ht => ?_
  unfold tookW
  rw [upd_ne]
  have := h2.mem t ht
  unfold Cf.slot; omega
theorem Fre.gave (hC : C.ok) {w : Int → Int} {s : Int} {l : List Int} (h : Fre C w l) (hs : 0 ≤ s ∧ s < C.S) (hn : s ∉ l) : Fre C (gaveW C s w) (s :: l) := by
  have hT := hC.T
  have hS := hC.S
  have hf := h.c.first
  have e0 : gaveW C s w 1 = putTop s (topN (w 1) + 1) := upd_same _ _ _
  have e1 : gaveW C s w (C.slot s + 1) = putTop (topS (w 1)) 0 := by
    unfold gaveW; rw [upd_ne _ _ (by unfold Cf.slot; omega), upd_same]
  refine ⟨⟨by rw [e0, topS_put (by omega) (by omega)], hs.1, hs.2, ?_⟩, List.nodup_cons.2 ⟨hn, h.nd⟩⟩
  rw [e1, topS_put (by omega) (by omega)]
  refine h.c.congr fun t ht => ?_
  have := h.c.mem t ht
  unfold gaveW
  rw [upd_ne _ _ (by unfold Cf.slot; omega), upd_ne]
  intro e
  have := slot_inj C e
  subst this; exact hn ht
theorem c_LastA (hA : isA N A σ) : s_mem_Mem_Last [N.p] K σ = K (.agg #[.int .i64 A.la, .int .i64 A.lw, .bool A.lc]) σ := by
  have := c_mLast (N := N) (A := A) (σ := σ) (K := K)
  rwa [← hA.eq] at this
theorem topN_took {w : Int → Int} (h : 0 ≤ topN (w 1)) (h1 : topN (w 1) < 1000000) : topN (tookW C w 1) = topN (w 1) + 1 := by
  unfold tookW; rw [upd_same, topN_put (by omega) (by omega)]
theorem topN_gave {s : Int} {w : Int → Int} (h : 0 ≤ topN (w 1)) (h1 : topN (w 1) < 1000000) : topN (gaveW C s w 1) = topN (w 1) + 1 := by
  unfold gaveW; rw [upd_same, topN_put (by omega) (by omega)]
theorem took_ok {w : Int → Int} (h : ∀ i, 0 ≤ w i ∧ w i < 18446744073709551616) (i : Int) : 0 ≤ tookW C w i ∧ tookW C w i < 18446744073709551616 :=
  upd_cases (P := fun x => 0 ≤ x ∧ x < 18446744073709551616) (putTop_in _ _) (h i)
theorem gave_ok {s : Int} {w : Int → Int} (h : ∀ i, 0 ≤ w i ∧ w i < 18446744073709551616) (i : Int) : 0 ≤ gaveW C s w i ∧ gaveW C s w i < 18446744073709551616 :=
  upd_cases (P := fun x => 0 ≤ x ∧ x < 18446744073709551616) (putTop_in _ _) (upd_cases (P := fun x => 0 ≤ x ∧ x < 18446744073709551616) (putTop_in _ _) (h i))
/-- So many slots from a place on, one behind the other. -/
def upL (i : Int) : Nat → List Int
  | 0 => []
  | n + 1 => i :: upL (i + 1) n
theorem upL_len : ∀ {n : Nat} {i : Int}, (upL i n).length = n
  | 0, _ => rfl
  | n + 1, i => by simp [upL, upL_len]
theorem upL_mem : ∀ {n : Nat} {i s : Int}, s ∈ upL i n ↔ i ≤ s ∧ s < i + n
  | 0, i, s => by simp [upL]
  | n + 1, i, s => by
    simp only [upL, List.mem_cons, upL_mem (n := n)]; omega
theorem upL_nodup : ∀ {n : Nat} {i : Int}, (upL i n).Nodup
  | 0, i => by simp [upL]
  | n + 1, i => by
    refine List.nodup_cons.2 ⟨fun h => ?_, upL_nodup⟩
    have := (upL_mem (n := n)).1 h
    omega
theorem w0_link (hC : C.ok) {s : Int} (h0 : 0 ≤ s) (h1 : s < C.S) : topS (C.w0 (C.slot s + 1)) = if s = C.S - 1 then -1 else s + 1 := by
  have hT := hC.T
  have hS := hC.S
  unfold Cf.w0
  rw [if_neg (by unfold Cf.slot; omega)]
  by_cases e : s = C.S - 1
  · rw [if_pos (by rw [e]), if_pos e, topS_put (by omega) (by omega)]
  · rw [if_neg (by unfold Cf.slot; omega), if_neg e]
    unfold Cf.fr Cf.slot
    rw [if_pos (by omega), if_neg (by omega), topS_put (by omega) (by omega)]
    omega
theorem fre0 (hC : C.ok) : Fre C C.w0 (upL 0 C.S.toNat) := by
  have hS := hC.S
  refine ⟨?_, upL_nodup⟩
  have e : topS (C.w0 1) = 0 := by unfold Cf.w0; rw [if_pos rfl, topS_put (by omega) (by omega)]
  rw [e]
  have key : ∀ (n : Nat) (i : Int), 0 ≤ i → i + n = C.S → Chn C C.w0 (if i = C.S then -1 else i) (upL i n) := by
    intro n
    induction n with
    | zero => intro i _ h; rw [if_pos (by omega)]; rfl
    | succ n ih =>
      intro i h0 h
      rw [if_neg (by omega)]
      refine ⟨rfl, h0, by omega, ?_⟩
      rw [w0_link hC h0 (by omega)]
      have := ih (i + 1) (by omega) (by omega)
      by_cases q : i = C.S - 1
      · rw [if_pos (by omega)] at this; rw [if_pos q]; exact this
      · rw [if_neg (by omega)] at this; rw [if_neg q]; exact this
  have := key C.S.toNat 0 (by omega) (by omega)
  rwa [if_neg (by omega)] at this

end Go.Fl
