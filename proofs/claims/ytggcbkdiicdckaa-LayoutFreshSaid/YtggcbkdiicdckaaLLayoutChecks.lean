/- Which arenas may be, by the code and by the document. No condition. -/
import Derived.Test.YtggcbkdiicdckaaFlKi
namespace Go.Fl
open Go
set_option linter.unusedVariables false
set_option linter.unusedSimpArgs false
variable {N : Nm} {A B : Ar} {σ : Mem} {K : Value → Mem → Prop} {C : Cf}

theorem rCheck_round {J1 R1 : List Value → List (List Value) → Mem → Prop} {b1 b2 b3 : Nat} {L1 L2 L3 : List Value} {i : Nat} {lo hi x : Int} (h : i < 7) (g1 : σ.get b1 = some ⟨L1, true⟩) (g2 : σ.get b2 = some ⟨L2, true⟩) (g3 : σ.get b3 = some ⟨L3, true⟩)
    (e1 : L1[i]? = some (.int .i64 lo)) (e2 : L2[i]? = some (.int .i64 hi)) (e3 : L3[i]? = some (.int .i64 x))
    (hk : if x < lo ∨ hi < x then K (.bool false) σ else R1 [.slice (some ⟨b1, 0, none⟩) 7 1, .slice (some ⟨b2, 0, none⟩) 7 1, .slice (some ⟨b3, 0, none⟩) 7 1, .int .i64 ((i + 1 : Nat) : Int)] [] σ) :
    w_ref04_Check_l6 K J1 R1 [.slice (some ⟨b1, 0, none⟩) 7 1, .slice (some ⟨b2, 0, none⟩) 7 1, .slice (some ⟨b3, 0, none⟩) 7 1, .int .i64 (i : Int)] [] σ := by
  have h0 : (0 : Int) ≤ (i : Int) := by omega
  have h1 : (i : Int) < ((7 : Nat) : Int) := by omega
  have q1 : sub L1 i 1 false = some (.int .i64 lo) := sub_one e1
  have q2 : sub L2 i 1 false = some (.int .i64 hi) := sub_one e2
  have q3 : sub L3 i 1 false = some (.int .i64 x) := sub_one e3
  simp only [w_ref04_Check_l6, w_ref04_Check_l6b, w_ref04_Check_j2, w_ref04_Check_j2b, xMove, xPickT, xPickF, xNil, xFld, xExt0, xExt1, xExt30, xExt31, xExt32, xAdd, xSub, xMul, xEql, xNeq, xLss, xLeq, xGtr, xGeq, xEqPN, xEqNN, xNePN, xNeNN, xEqBB, xNeBB, xNot, xConv, xLen, xMin, xMax, xIfc, xIfT, xIfF, xIfD, xJoinE, xOs, xCs, xFldV, List.getD_cons_zero, List.getD_cons_succ, Nat.zero_add, Nat.reduceAdd, Mem.get_set_same, Mem.set_set, if_true, if_false, Bool.not_true, Bool.not_false, decide_true, decide_false, decide_eq_true_eq, decide_not, Bool.not_eq_true, Bool.false_eq_true, reduceIte, Int.reduceLT, Int.reduceLE, Int.reduceEq, Int.reduceNeg, Int.reduceAdd, Int.reduceSub, xIxS h0 h1, Int.toNat_natCast, Nat.mul_one, hLoad_eq g1, hLoad_eq g2, hLoad_eq g3, q1, q2, q3]
  rw [if_pos (by omega)]
  by_cases c1 : x < lo
  · rw [if_pos (.inl c1)] at hk
    rw [if_pos c1]; exact hk
  · rw [if_neg c1]
    by_cases c2 : hi < x
    · rw [if_pos (.inr c2)] at hk
      rw [if_pos c2]; exact hk
    · rw [if_neg (by omega)] at hk
      rw [if_neg c2, IntWalk.i64_in _ (by omega)]
      exact hk
theorem c_rCheck (hk : ∀ τ, Ext σ τ → K (.bool C.okB) τ) : s_ref04_Check [C.v] K σ := by
  simp only [s_ref04_Check, w_ref04_Check, xMove, xPickT, xPickF, xNil, xFld, xExt0, xExt1, xExt30, xExt31, xExt32, xAdd, xSub, xMul, xEql, xNeq, xLss, xLeq, xGtr, xGeq, xEqPN, xEqNN, xNePN, xNeNN, xEqBB, xNeBB, xNot, xConv, xLen, xMin, xMax, xIfc, xIfT, xIfF, xIfD, xJoinE, xOs, xCs, xFldV, List.getD_cons_zero, List.getD_cons_succ, Nat.zero_add, Nat.reduceAdd, Mem.get_set_same, Mem.set_set, if_true, if_false, Bool.not_true, Bool.not_false, decide_true, decide_false, decide_eq_true_eq, decide_not, Bool.not_eq_true, Bool.false_eq_true, reduceIte, Int.reduceLT, Int.reduceLE, Int.reduceEq, Int.reduceNeg, Int.reduceAdd, Int.reduceSub, locP_e, gBoxC, gLoad_s, subC0, subC1, subC2, subC3, subC4, subC5, subC6]
  refine hBuildS_i [.int .i64 1, .int .i64 1, .int .i64 1, .int .i64 17, .int .i64 1, .int .i64 0, .int .i64 1] rfl fun b1 τ1 _ g1 x1 => ?_
  refine hBuildS_i [.int .i64 8, .int .i64 65536, .int .i64 64, .int .i64 256, .int .i64 65535, .int .i64 1000, .int .i64 16] rfl fun b2 τ2 _ g2 x2 => ?_
  refine hBuildS_i C.l rfl fun b3 τ _ g3 x3 => ?_
  replace g1 := x3 _ _ (x2 _ _ g1)
  replace g2 := x3 _ _ g2
  replace hk := hk τ ((x1.trans x2).trans x3)
  by_cases hok : C.ok
  · rw [Cf.okB_iff.2 hok] at hk
    obtain ⟨a1, a2, a3, a4, a5, a6, a7⟩ := hok
    refine xLoop_fold (rCheck_round (i := 0) (by decide) g1 g2 g3 rfl rfl rfl ?_)
    rw [if_neg (by omega)]
    refine xLoop_fold (rCheck_round (i := 1) (by decide) g1 g2 g3 rfl rfl rfl ?_)
    rw [if_neg (by omega)]
    refine xLoop_fold (rCheck_round (i := 2) (by decide) g1 g2 g3 rfl rfl rfl ?_)
    rw [if_neg (by omega)]
    refine xLoop_fold (rCheck_round (i := 3) (by decide) g1 g2 g3 rfl rfl rfl ?_)
    rw [if_neg (by omega)]
    refine xLoop_fold (rCheck_round (i := 4) (by decide) g1 g2 g3 rfl rfl rfl ?_)
    rw [if_neg (by omega)]
    refine xLoop_fold (rCheck_round (i := 5) (by decide) g1 g2 g3 rfl rfl rfl ?_)
    rw [if_neg (by omega)]
    refine xLoop_fold (rCheck_round (i := 6) (by decide) g1 g2 g3 rfl rfl rfl ?_)
    rw [if_neg (by omega)]
    refine xLoop_fold ?_
    simp only [w_ref04_Check_l6, w_ref04_Check_l6b, w_ref04_Check_j1, w_ref04_Check_j1b, xMove, xPickT, xPickF, xNil, xFld, xExt0, xExt1, xExt30, xExt31, xExt32, xAdd, xSub, xMul, xEql, xNeq, xLss, xLeq, xGtr, xGeq, xEqPN, xEqNN, xNePN, xNeNN, xEqBB, xNeBB, xNot, xConv, xLen, xMin, xMax, xIfc, xIfT, xIfF, xIfD, xJoinE, xOs, xCs, xFldV, List.getD_cons_zero, List.getD_cons_succ, Nat.zero_add, Nat.reduceAdd, Mem.get_set_same, Mem.set_set, if_true, if_false, Bool.not_true, Bool.not_false, decide_true, decide_false, decide_eq_true_eq, decide_not, Bool.not_eq_true, Bool.false_eq_true, reduceIte, Int.reduceLT, Int.reduceLE, Int.reduceEq, Int.reduceNeg, Int.reduceAdd, Int.reduceSub]
    exact hk
  · have hb : C.okB = false := by
      cases h : C.okB
      · rfl
      · exact absurd (Cf.okB_iff.1 h) hok
    rw [hb] at hk
    refine xLoop_fold (rCheck_round (i := 0) (by decide) g1 g2 g3 rfl rfl rfl ?_)
    split
    · exact hk
    refine xLoop_fold (rCheck_round (i := 1) (by decide) g1 g2 g3 rfl rfl rfl ?_)
    split
    · exact hk
    refine xLoop_fold (rCheck_round (i := 2) (by decide) g1 g2 g3 rfl rfl rfl ?_)
    split
    · exact hk
    refine xLoop_fold (rCheck_round (i := 3) (by decide) g1 g2 g3 rfl rfl rfl ?_)
    split
    · exact hk
    refine xLoop_fold (rCheck_round (i := 4) (by decide) g1 g2 g3 rfl rfl rfl ?_)
    split
    · exact hk
    refine xLoop_fold (rCheck_round (i := 5) (by decide) g1 g2 g3 rfl rfl rfl ?_)
    split
    · exact hk
    refine xLoop_fold (rCheck_round (i := 6) (by decide) g1 g2 g3 rfl rfl rfl ?_)
    split
    · exact hk
    exfalso
    exact hok ⟨by omega, by omega, by omega, by omega, by omega, by omega, by omega⟩

theorem law_LayoutChecks (σ : Mem) (a : Array Value) (w : FlatL [some .i64, some .i64, some .i64, some .i64, some .i64, some .i64, some .i64] a.toList) :
    s_law04_LayoutChecks [.agg a] (fun v _ => v = .bool true) σ := by
  obtain ⟨C, hC, _⟩ := cfgOf w
  rw [hC]
  simp only [s_law04_LayoutChecks, w_law04_LayoutChecks, xMove, xPickT, xPickF, xNil, xFld, xExt0, xExt1, xExt30, xExt31, xExt32, xAdd, xSub, xMul, xEql, xNeq, xLss, xLeq, xGtr, xGeq, xEqPN, xEqNN, xNePN, xNeNN, xEqBB, xNeBB, xNot, xConv, xLen, xMin, xMax, xIfc, xIfT, xIfF, xIfD, xJoinE, xOs, xCs, xFldV, List.getD_cons_zero, List.getD_cons_succ, Nat.zero_add, Nat.reduceAdd, Mem.get_set_same, Mem.set_set, if_true, if_false, Bool.not_true, Bool.not_false, decide_true, decide_false, decide_eq_true_eq, decide_not, Bool.not_eq_true, Bool.false_eq_true, reduceIte, Int.reduceLT, Int.reduceLE, Int.reduceEq, Int.reduceNeg, Int.reduceAdd, Int.reduceSub, locP_e, gBoxC, gLoad_s, subC, c_awake4, c_Check]
  refine c_rCheck fun τ _ => ?_
  simp only [xMove, xPickT, xPickF, xNil, xFld, xExt0, xExt1, xExt30, xExt31, xExt32, xAdd, xSub, xMul, xEql, xNeq, xLss, xLeq, xGtr, xGeq, xEqPN, xEqNN, xNePN, xNeNN, xEqBB, xNeBB, xNot, xConv, xLen, xMin, xMax, xIfc, xIfT, xIfF, xIfD, xJoinE, xOs, xCs, xFldV, List.getD_cons_zero, List.getD_cons_succ, Nat.zero_add, Nat.reduceAdd, Mem.get_set_same, Mem.set_set, if_true, if_false, Bool.not_true, Bool.not_false, decide_true, decide_false, decide_eq_true_eq, decide_not, Bool.not_eq_true, Bool.false_eq_true, reduceIte, Int.reduceLT, Int.reduceLE, Int.reduceEq, Int.reduceNeg, Int.reduceAdd, Int.reduceSub]
  simp
end Go.Fl
