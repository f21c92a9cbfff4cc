/- Of each address it is told in which chunk it is, or that it is in none: the reading of the law answers true. No condition. -/
import Derived.Test.YtggcbkdiicdckaaFlKi
namespace Go.Fl
open Go
set_option linter.unusedVariables false
set_option linter.unusedSimpArgs false
variable {N : Nm} {A B : Ar} {σ : Mem} {K : Value → Mem → Prop} {C : Cf} {who : Int}

theorem law_LayoutOf (σ : Mem) (a : Array Value) (w : FlatL [some .i64, some .i64, some .i64, some .i64, some .i64, some .i64, some .i64] a.toList) (a1 : Int) (w1 : (Lit.int .i64 a1).wf = true) :
    s_law04_LayoutOf [.agg a, .int .i64 a1] (fun v _ => v = .bool true) σ := by
  obtain ⟨C0, hC0, _⟩ := cfgOf w
  have hC := cutC_ok C0
  have ha : a1 < 9223372036854775808 := by
    have : -9223372036854775808 ≤ a1 ∧ a1 ≤ 9223372036854775807 := by simpa [Lit.wf, IntKind.min, IntKind.max, IntKind.signed, IntKind.bits] using w1
    omega
  rw [hC0]
  simp only [s_law04_LayoutOf, w_law04_LayoutOf, w_law04_LayoutOf_j1, w_law04_LayoutOf_j1b, c_Config, gStoreC, xMove, xPickT, xPickF, xNil, xFld, xExt0, xExt1, xExt30, xExt31, xExt32, xAdd, xSub, xMul, xEql, xNeq, xLss, xLeq, xGtr, xGeq, xEqPN, xEqNN, xNePN, xNeNN, xEqBB, xNeBB, xNot, xConv, xLen, xMin, xMax, xIfc, xIfT, xIfF, xIfD, xJoinE, xOs, xCs, xFldV, List.getD_cons_zero, List.getD_cons_succ, Nat.zero_add, Nat.reduceAdd, Mem.get_set_same, Mem.set_set, if_true, if_false, Bool.not_true, Bool.not_false, decide_true, decide_false, decide_eq_true_eq, decide_not, Bool.not_eq_true, Bool.false_eq_true, reduceIte, Int.reduceLT, Int.reduceLE, Int.reduceEq, Int.reduceNeg, Int.reduceAdd, Int.reduceSub, locP_e, gBox_a, gBox_i, gBox_b, gBox_p, gLoad_s, gAlloc_s, gStore_a, gStore_i, gStore_b, gStore_p, sub_z, sub_s, lay_z, lay_s, List.length_cons, List.length_nil, Nat.reduceLeDiff, Nat.le_refl, List.drop_zero, List.drop_succ_cons, List.take_succ_cons, List.take_zero, List.drop_nil, List.cons_append, List.nil_append, List.all_cons, List.all_nil, oneB_i, oneB_b, oneB_p, oneB_sl, Bool.and_true, Nat.reduceLT, Nat.lt_irrefl, Nat.zero_lt_one, gBoxE, gBoxC, subE, subEC, subE0, subE1, subE2, subE3, subE4, subE6, subE7, subE8, subC, subC0, subC1, subC2, subC3, subC4, subC5, subC6]
  generalize cutC C0 = C at *
  refine c_Kind hC ha fun τ _ => ?_
  have e := ofC_kind hC a1
  simp only [trip, c_awake4, c_Of hC ha, e, xMove, xPickT, xPickF, xNil, xFld, xExt0, xExt1, xExt30, xExt31, xExt32, xAdd, xSub, xMul, xEql, xNeq, xLss, xLeq, xGtr, xGeq, xEqPN, xEqNN, xNePN, xNeNN, xEqBB, xNeBB, xNot, xConv, xLen, xMin, xMax, xIfc, xIfT, xIfF, xIfD, xJoinE, xOs, xCs, xFldV, List.getD_cons_zero, List.getD_cons_succ, Nat.zero_add, Nat.reduceAdd, Mem.get_set_same, Mem.set_set, if_true, if_false, Bool.not_true, Bool.not_false, decide_true, decide_false, decide_eq_true_eq, decide_not, Bool.not_eq_true, Bool.false_eq_true, reduceIte, Int.reduceLT, Int.reduceLE, Int.reduceEq, Int.reduceNeg, Int.reduceAdd, Int.reduceSub, locP_e, gBox_a, gBox_i, gBox_b, gBox_p, gLoad_s, gAlloc_s, gStore_a, gStore_i, gStore_b, gStore_p, sub_z, sub_s, lay_z, lay_s, List.length_cons, List.length_nil, Nat.reduceLeDiff, Nat.le_refl, List.drop_zero, List.drop_succ_cons, List.take_succ_cons, List.take_zero, List.drop_nil, List.cons_append, List.nil_append, List.all_cons, List.all_nil, oneB_i, oneB_b, oneB_p, oneB_sl, Bool.and_true, Nat.reduceLT, Nat.lt_irrefl, Nat.zero_lt_one, gBoxE, gBoxC, subE, subEC, subE0, subE1, subE2, subE3, subE4, subE6, subE7, subE8, subC, subC0, subC1, subC2, subC3, subC4, subC5, subC6]
  split <;> simp
end Go.Fl
