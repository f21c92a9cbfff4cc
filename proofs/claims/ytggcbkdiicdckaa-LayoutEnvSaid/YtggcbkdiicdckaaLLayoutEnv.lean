/- What somebody does in an arena is done in its memory, by that one: the reading of the law answers true. No condition. -/
import Derived.Test.YtggcbkdiicdckaaFlKi
import Derived.Test.YtggcbkdiicdckaaFlZ
namespace Go.Fl
open Go
set_option linter.unusedVariables false
set_option linter.unusedSimpArgs false
variable {N : Nm} {A B : Ar} {σ : Mem} {K : Value → Mem → Prop} {C : Cf} {who : Int}

theorem c_LastA (hA : isA N A σ) : s_mem_Mem_Last [N.p] K σ = K (.agg #[.int .i64 A.la, .int .i64 A.lw, .bool A.lc]) σ := by
  have := c_mLast (N := N) (A := A) (σ := σ) (K := K)
  rwa [← hA.eq] at this
theorem c_StepsA (hA : isA N A σ) : s_mem_Mem_Steps [N.p] K σ = K (.int .i64 A.s) σ := by
  have := c_mSteps (N := N) (A := A) (σ := σ) (K := K)
  rwa [← hA.eq] at this
/-- Two memories that hold the same. -/
structure Twin (A B : Ar) : Prop where
  n : A.n = B.n
  w : A.w = B.w
  s : A.s = B.s

theorem law_LayoutEnv (σ : Mem) (s : Value) (len : Nat) (cs : List Value) (sl : Sl σ 5 len cs s) (hm : len ≤ maxLen) (hf : FlatL (List.replicate len [some .i64, some .i64, some .i64, some .i64, some .u64]).flatten cs) :
    s_law04_LayoutEnv [s] (fun v _ => v = .bool true) σ := by
  have hg := sl.argS
  have b0 : ∀ K : Value → Prop, xF (fBuild [(0, 1), (1, 1), (2, 1), (3, 1), (4, 1), (5, 1), (6, 1)] [.int .i64 0, .int .i64 0, .int .i64 0, .int .i64 0, .int .i64 0, .int .i64 0, .int .i64 0] []) [] K = K (Cf.mk 0 0 0 0 0 0 0).v := fun K => nr rfl
  have hC := cutC_ok ⟨0, 0, 0, 0, 0, 0, 0⟩
  simp only [s_law04_LayoutEnv, w_law04_LayoutEnv, b0, c_Config, gStoreC, xMove, xPickT, xPickF, xNil, xFld, xExt0, xExt1, xExt30, xExt31, xExt32, xAdd, xSub, xMul, xEql, xNeq, xLss, xLeq, xGtr, xGeq, xEqPN, xEqNN, xNePN, xNeNN, xEqBB, xNeBB, xNot, xConv, xLen, xMin, xMax, xIfc, xIfT, xIfF, xIfD, xJoinE, xOs, xCs, xFldV, List.getD_cons_zero, List.getD_cons_succ, Nat.zero_add, Nat.reduceAdd, Mem.get_set_same, Mem.set_set, if_true, if_false, Bool.not_true, Bool.not_false, decide_true, decide_false, decide_eq_true_eq, decide_not, Bool.not_eq_true, Bool.false_eq_true, reduceIte, Int.reduceLT, Int.reduceLE, Int.reduceEq, Int.reduceNeg, Int.reduceAdd, Int.reduceSub, locP_e, gBox_a, gBox_i, gBox_b, gBox_p, gLoad_s, gAlloc_s, gStore_a, gStore_i, gStore_b, gStore_p, sub_z, sub_s, lay_z, lay_s, List.length_cons, List.length_nil, Nat.reduceLeDiff, Nat.le_refl, List.drop_zero, List.drop_succ_cons, List.take_succ_cons, List.take_zero, List.drop_nil, List.cons_append, List.nil_append, List.all_cons, List.all_nil, oneB_i, oneB_b, oneB_p, oneB_sl, Bool.and_true, Nat.reduceLT, Nat.lt_irrefl, Nat.zero_lt_one, gBoxE, gBoxC, subE, subEC, subE0, subE1, subE2, subE3, subE4, subE6, subE7, subE8, subC, subC0, subC1, subC2, subC3, subC4, subC5, subC6]
  generalize cutC ⟨0, 0, 0, 0, 0, 0, 0⟩ = C at *
  have hS := hC.S
  have hl := len_bd hC
  have hch : C.chunk C.C = 6 + C.T + 2 * C.S + 3 * C.C := rfl
  have hT := hC.T
  have hCC := hC.C
  refine c_Fresh hC fun N A τ hN hF hA hE hfr => ?_
  simp only [xMove, xPickT, xPickF, xNil, xFld, xExt0, xExt1, xExt30, xExt31, xExt32, xAdd, xSub, xMul, xEql, xNeq, xLss, xLeq, xGtr, xGeq, xEqPN, xEqNN, xNePN, xNeNN, xEqBB, xNeBB, xNot, xConv, xLen, xMin, xMax, xIfc, xIfT, xIfF, xIfD, xJoinE, xOs, xCs, xFldV, List.getD_cons_zero, List.getD_cons_succ, Nat.zero_add, Nat.reduceAdd, Mem.get_set_same, Mem.set_set, if_true, if_false, Bool.not_true, Bool.not_false, decide_true, decide_false, decide_eq_true_eq, decide_not, Bool.not_eq_true, Bool.false_eq_true, reduceIte, Int.reduceLT, Int.reduceLE, Int.reduceEq, Int.reduceNeg, Int.reduceAdd, Int.reduceSub, locP_e, gBox_a, gBox_i, gBox_b, gBox_p, gLoad_s, gAlloc_s, gStore_a, gStore_i, gStore_b, gStore_p, sub_z, sub_s, lay_z, lay_s, List.length_cons, List.length_nil, Nat.reduceLeDiff, Nat.le_refl, List.drop_zero, List.drop_succ_cons, List.take_succ_cons, List.take_zero, List.drop_nil, List.cons_append, List.nil_append, List.all_cons, List.all_nil, oneB_i, oneB_b, oneB_p, oneB_sl, Bool.and_true, Nat.reduceLT, Nat.lt_irrefl, Nat.zero_lt_one, gBoxE, gBoxC, subE, subEC, subE0, subE1, subE2, subE3, subE4, subE6, subE7, subE8, subC, subC0, subC1, subC2, subC3, subC4, subC5, subC6]
  refine c_Fresh hC fun M B τ' hM hG hB hE' hfr' => ?_
  have hA' := hA.ext hE'
  simp only [c_awake4, w_law04_LayoutEnv_j1, w_law04_LayoutEnv_j1b, ne_eq, not_true_eq_false, xMove, xPickT, xPickF, xNil, xFld, xExt0, xExt1, xExt30, xExt31, xExt32, xAdd, xSub, xMul, xEql, xNeq, xLss, xLeq, xGtr, xGeq, xEqPN, xEqNN, xNePN, xNeNN, xEqBB, xNeBB, xNot, xConv, xLen, xMin, xMax, xIfc, xIfT, xIfF, xIfD, xJoinE, xOs, xCs, xFldV, List.getD_cons_zero, List.getD_cons_succ, Nat.zero_add, Nat.reduceAdd, Mem.get_set_same, Mem.set_set, if_true, if_false, Bool.not_true, Bool.not_false, decide_true, decide_false, decide_eq_true_eq, decide_not, Bool.not_eq_true, Bool.false_eq_true, reduceIte, Int.reduceLT, Int.reduceLE, Int.reduceEq, Int.reduceNeg, Int.reduceAdd, Int.reduceSub, locP_e, gBox_a, gBox_i, gBox_b, gBox_p, gLoad_s, gAlloc_s, gStore_a, gStore_i, gStore_b, gStore_p, sub_z, sub_s, lay_z, lay_s, List.length_cons, List.length_nil, Nat.reduceLeDiff, Nat.le_refl, List.drop_zero, List.drop_succ_cons, List.take_succ_cons, List.take_zero, List.drop_nil, List.cons_append, List.nil_append, List.all_cons, List.all_nil, oneB_i, oneB_b, oneB_p, oneB_sl, Bool.and_true, Nat.reduceLT, Nat.lt_irrefl, Nat.zero_lt_one, gBoxE, gBoxC, subE, subEC, subE0, subE1, subE2, subE3, subE4, subE6, subE7, subE8, subC, subC0, subC1, subC2, subC3, subC4, subC5, subC6]
  have dis : ∀ i, i ∈ N.l → i ∈ M.l → False := by
    intro i hi hm
    have h0 := hfr'.all i hm
    simp only [Nm.l, List.mem_cons, List.not_mem_nil, or_false] at hi
    rcases hi with rfl | rfl | rfl
    · rw [hA.m] at h0; cases h0
    · rw [hA.w] at h0; cases h0
    · rw [hA.t] at h0; cases h0
  have dN : N.m ∉ M.l ∧ N.w ∉ M.l ∧ N.t ∉ M.l := ⟨fun h => dis _ (by simp [Nm.l]) h, fun h => dis _ (by simp [Nm.l]) h, fun h => dis _ (by simp [Nm.l]) h⟩
  have dM : M.m ∉ N.l ∧ M.w ∉ N.l ∧ M.t ∉ N.l := ⟨fun h => dis _ h (by simp [Nm.l]), fun h => dis _ h (by simp [Nm.l]), fun h => dis _ h (by simp [Nm.l])⟩
  have fM : ∀ i ∈ M.l, σ.get i = none := fun i hi => hE.none (hfr'.all i hi)
  refine xLoop_i (fun i => [s, N.p, M.p, .int .i64 i]) [C.l] 60 (fun i υ => ∃ A B, 0 ≤ i ∧ i ≤ 60 ∧ isA N A υ ∧ isA M B υ ∧ Twin A B ∧ A.n = C.len.toNat ∧ A.ok (200000 + 3 * i) ∧ B.ok (200000 + 3 * i) ∧ Ext σ υ) ?_
    ⟨A, B, by omega, by omega, hA', hB, ⟨by rw [hF.n, hG.n], by rw [hF.w, hG.w], by rw [hF.s, hG.s]⟩, hF.n, ⟨hF.ok.w, by have := hF.ok.s; omega, hF.ok.t⟩, ⟨hG.ok.w, by have := hG.ok.s; omega, hG.ok.t⟩, hE.trans hE'⟩
  clear hA hB hA' hF hG
  rintro i υ ⟨A, B, i0, i1, hA, hB, tw, n1, ok1, ok2, ext⟩ R hR
  have hg4 := hg.keep ext
  have fin : w_law04_LayoutEnv_j2 (fun v x => v = Value.bool true) [] [] υ := by simp only [w_law04_LayoutEnv_j2, w_law04_LayoutEnv_j2b, xMove, xPickT, xPickF, xNil, xFld, xExt0, xExt1, xExt30, xExt31, xExt32, xAdd, xSub, xMul, xEql, xNeq, xLss, xLeq, xGtr, xGeq, xEqPN, xEqNN, xNePN, xNeNN, xEqBB, xNeBB, xNot, xConv, xLen, xMin, xMax, xIfc, xIfT, xIfF, xIfD, xJoinE, xOs, xCs, xFldV, List.getD_cons_zero, List.getD_cons_succ, Nat.zero_add, Nat.reduceAdd, Mem.get_set_same, Mem.set_set, if_true, if_false, Bool.not_true, Bool.not_false, decide_true, decide_false, decide_eq_true_eq, decide_not, Bool.not_eq_true, Bool.false_eq_true, reduceIte, Int.reduceLT, Int.reduceLE, Int.reduceEq, Int.reduceNeg, Int.reduceAdd, Int.reduceSub, locP_e, gBox_a, gBox_i, gBox_b, gBox_p, gLoad_s, gAlloc_s, gStore_a, gStore_i, gStore_b, gStore_p, sub_z, sub_s, lay_z, lay_s, List.length_cons, List.length_nil, Nat.reduceLeDiff, Nat.le_refl, List.drop_zero, List.drop_succ_cons, List.take_succ_cons, List.take_zero, List.drop_nil, List.cons_append, List.nil_append, List.all_cons, List.all_nil, oneB_i, oneB_b, oneB_p, oneB_sl, Bool.and_true, Nat.reduceLT, Nat.lt_irrefl, Nat.zero_lt_one, gBoxE, gBoxC, subE, subEC, subE0, subE1, subE2, subE3, subE4, subE6, subE7, subE8, subC, subC0, subC1, subC2, subC3, subC4, subC5, subC6]
  simp only [w_law04_LayoutEnv_l8, w_law04_LayoutEnv_l8b, hg4.len, xMove, xPickT, xPickF, xNil, xFld, xExt0, xExt1, xExt30, xExt31, xExt32, xAdd, xSub, xMul, xEql, xNeq, xLss, xLeq, xGtr, xGeq, xEqPN, xEqNN, xNePN, xNeNN, xEqBB, xNeBB, xNot, xConv, xLen, xMin, xMax, xIfc, xIfT, xIfF, xIfD, xJoinE, xOs, xCs, xFldV, List.getD_cons_zero, List.getD_cons_succ, Nat.zero_add, Nat.reduceAdd, Mem.get_set_same, Mem.set_set, if_true, if_false, Bool.not_true, Bool.not_false, decide_true, decide_false, decide_eq_true_eq, decide_not, Bool.not_eq_true, Bool.false_eq_true, reduceIte, Int.reduceLT, Int.reduceLE, Int.reduceEq, Int.reduceNeg, Int.reduceAdd, Int.reduceSub, locP_e, gBox_a, gBox_i, gBox_b, gBox_p, gLoad_s, gAlloc_s, gStore_a, gStore_i, gStore_b, gStore_p, sub_z, sub_s, lay_z, lay_s, List.length_cons, List.length_nil, Nat.reduceLeDiff, Nat.le_refl, List.drop_zero, List.drop_succ_cons, List.take_succ_cons, List.take_zero, List.drop_nil, List.cons_append, List.nil_append, List.all_cons, List.all_nil, oneB_i, oneB_b, oneB_p, oneB_sl, Bool.and_true, Nat.reduceLT, Nat.lt_irrefl, Nat.zero_lt_one, gBoxE, gBoxC, subE, subEC, subE0, subE1, subE2, subE3, subE4, subE6, subE7, subE8, subC, subC0, subC1, subC2, subC3, subC4, subC5, subC6]
  by_cases c1 : i < len
  · by_cases c2 : i < 60
    · have z : IntKind.i64.wrap (i + 1) = i + 1 := IntWalk.i64_in _ (by omega)
      have he := hf.elem (i := i.toNat) (by omega)
      simp only [c1, c2, w_law04_LayoutEnv_j3, w_law04_LayoutEnv_j3b, xMove, xPickT, xPickF, xNil, xFld, xExt0, xExt1, xExt30, xExt31, xExt32, xAdd, xSub, xMul, xEql, xNeq, xLss, xLeq, xGtr, xGeq, xEqPN, xEqNN, xNePN, xNeNN, xEqBB, xNeBB, xNot, xConv, xLen, xMin, xMax, xIfc, xIfT, xIfF, xIfD, xJoinE, xOs, xCs, xFldV, List.getD_cons_zero, List.getD_cons_succ, Nat.zero_add, Nat.reduceAdd, Mem.get_set_same, Mem.set_set, if_true, if_false, Bool.not_true, Bool.not_false, decide_true, decide_false, decide_eq_true_eq, decide_not, Bool.not_eq_true, Bool.false_eq_true, reduceIte, Int.reduceLT, Int.reduceLE, Int.reduceEq, Int.reduceNeg, Int.reduceAdd, Int.reduceSub, locP_e, gBox_a, gBox_i, gBox_b, gBox_p, gLoad_s, gAlloc_s, gStore_a, gStore_i, gStore_b, gStore_p, sub_z, sub_s, lay_z, lay_s, List.length_cons, List.length_nil, Nat.reduceLeDiff, Nat.le_refl, List.drop_zero, List.drop_succ_cons, List.take_succ_cons, List.take_zero, List.drop_nil, List.cons_append, List.nil_append, List.all_cons, List.all_nil, oneB_i, oneB_b, oneB_p, oneB_sl, Bool.and_true, Nat.reduceLT, Nat.lt_irrefl, Nat.zero_lt_one, gBoxE, gBoxC, subE, subEC, subE0, subE1, subE2, subE3, subE4, subE6, subE7, subE8, subC, subC0, subC1, subC2, subC3, subC4, subC5, subC6]
      rw [hg4.ix i0 c1]
      generalize hL : (cs.drop (i.toNat * 5)).take 5 = L
      have he' : FlatL [some .i64, some .i64, some .i64, some .i64, some .u64] L := by rw [← hL]; exact he
      clear he hL
      cases he' with | cons q1 w => cases w with | cons q2 w => cases w with | cons q3 w => cases w with | cons q4 w => cases w with | cons q5 w =>
      cases w
      obtain ⟨k, rfl, hk⟩ := q1
      obtain ⟨a, rfl, ha⟩ := q2
      obtain ⟨o, rfl, ho⟩ := q3
      obtain ⟨d, rfl, hd⟩ := q4
      obtain ⟨x, rfl, hx⟩ := q5
      have hx' : 0 ≤ x ∧ x < 18446744073709551616 := by
        have : 0 ≤ x ∧ x ≤ 18446744073709551615 := by simpa [Lit.wf, IntKind.min, IntKind.max, IntKind.signed, IntKind.bits] using hx
        omega
      have bE : ∀ K : Value → Prop, xF (fBuild [(0, 7), (7, 1), (8, 1)] [.int .i64 0, .int .i64 0, .int .i64 0, .int .i64 0, .int .i64 0, .int .i64 0, .int .i64 0, .pointer none, .int .i64 0] [0, 1, 2]) [C.v, N.p, .int .i64 o] K = K (N.env C o) := fun K => nr rfl
      have hn0 : 0 < (A.n : Int) := by omega
      obtain ⟨p1, p2, p3⟩ := pickN a hn0 (by omega)
      simp only [subC, bE, gStoreE, c_LenA hA, xRem (show (A.n : Int) ≠ 0 by omega), p1, xMove, xPickT, xPickF, xNil, xFld, xExt0, xExt1, xExt30, xExt31, xExt32, xAdd, xSub, xMul, xEql, xNeq, xLss, xLeq, xGtr, xGeq, xEqPN, xEqNN, xNePN, xNeNN, xEqBB, xNeBB, xNot, xConv, xLen, xMin, xMax, xIfc, xIfT, xIfF, xIfD, xJoinE, xOs, xCs, xFldV, List.getD_cons_zero, List.getD_cons_succ, Nat.zero_add, Nat.reduceAdd, Mem.get_set_same, Mem.set_set, if_true, if_false, Bool.not_true, Bool.not_false, decide_true, decide_false, decide_eq_true_eq, decide_not, Bool.not_eq_true, Bool.false_eq_true, reduceIte, Int.reduceLT, Int.reduceLE, Int.reduceEq, Int.reduceNeg, Int.reduceAdd, Int.reduceSub, locP_e, gBox_a, gBox_i, gBox_b, gBox_p, gLoad_s, gAlloc_s, gStore_a, gStore_i, gStore_b, gStore_p, sub_z, sub_s, lay_z, lay_s, List.length_cons, List.length_nil, Nat.reduceLeDiff, Nat.le_refl, List.drop_zero, List.drop_succ_cons, List.take_succ_cons, List.take_zero, List.drop_nil, List.cons_append, List.nil_append, List.all_cons, List.all_nil, oneB_i, oneB_b, oneB_p, oneB_sl, Bool.and_true, Nat.reduceLT, Nat.lt_irrefl, Nat.zero_lt_one, gBoxE, gBoxC, subE, subEC, subE0, subE1, subE2, subE3, subE4, subE6, subE7, subE8, subC, subC0, subC1, subC2, subC3, subC4, subC5, subC6]
      generalize (a.tmod (A.n : Int) + (A.n : Int)).tmod (A.n : Int) = at' at p2 p3
      have p4 : at' < (B.n : Int) := by rw [← tw.n]; exact p3
      refine viaA (S := s_mem_Mem_By [M.p, .int .i64 o]) (fun _ _ => c_By) hM hB fun τ1 hB1 k1 => ?_
      have hA1 := hA.keep k1 dN
      have ext1 := ext.keep' k1 fM
      -- what is behind the deed
      have go : ∀ A' B' τ, isA N A' τ → isA M B' τ → Twin A' B' → A'.n = A.n → A'.ok (200000 + 3 * i + 3) → B'.ok (200000 + 3 * i + 3) → A'.la = at' → B'.la = at' → A'.lw = o → Ext σ τ →
          w_law04_LayoutEnv_j4 (fun v x => v = Value.bool true) (w_law04_LayoutEnv_j2 fun v x => v = Value.bool true) R [s, N.p, M.p, .int .i64 i, .int .i64 at'] [C.l, [.int .i64 k, .int .i64 a, .int .i64 o, .int .i64 d, .int .u64 x], N.el C o] τ := by
        intro A' B' τ hA' hB' tw' n' oka okb la lb lo e'
        have q3 : at' < (A'.n : Int) := by rw [n']; exact p3
        have q4 : at' < (B'.n : Int) := by rw [← tw'.n]; exact q3
        have e1 : A'.w at' = B'.w at' := by rw [tw'.w]
        have e2 : A'.s = B'.s := tw'.s
        simp only [w_law04_LayoutEnv_j4, w_law04_LayoutEnv_j4b, c_LastA hA', c_LastA hB', c_PeekA hN hA' p2 q3, c_PeekA hM hB' p2 q4, e1, ne_eq, not_true_eq_false, c_NowA hA', c_StepsA hB', e2, la, lb, lo, w_law04_LayoutEnv_j5, w_law04_LayoutEnv_j5b, z, xMove, xPickT, xPickF, xNil, xFld, xExt0, xExt1, xExt30, xExt31, xExt32, xAdd, xSub, xMul, xEql, xNeq, xLss, xLeq, xGtr, xGeq, xEqPN, xEqNN, xNePN, xNeNN, xEqBB, xNeBB, xNot, xConv, xLen, xMin, xMax, xIfc, xIfT, xIfF, xIfD, xJoinE, xOs, xCs, xFldV, List.getD_cons_zero, List.getD_cons_succ, Nat.zero_add, Nat.reduceAdd, Mem.get_set_same, Mem.set_set, if_true, if_false, Bool.not_true, Bool.not_false, decide_true, decide_false, decide_eq_true_eq, decide_not, Bool.not_eq_true, Bool.false_eq_true, reduceIte, Int.reduceLT, Int.reduceLE, Int.reduceEq, Int.reduceNeg, Int.reduceAdd, Int.reduceSub, locP_e, gBox_a, gBox_i, gBox_b, gBox_p, gLoad_s, gAlloc_s, gStore_a, gStore_i, gStore_b, gStore_p, sub_z, sub_s, lay_z, lay_s, List.length_cons, List.length_nil, Nat.reduceLeDiff, Nat.le_refl, List.drop_zero, List.drop_succ_cons, List.take_succ_cons, List.take_zero, List.drop_nil, List.cons_append, List.nil_append, List.all_cons, List.all_nil, oneB_i, oneB_b, oneB_p, oneB_sl, Bool.and_true, Nat.reduceLT, Nat.lt_irrefl, Nat.zero_lt_one, gBoxE, gBoxC, subE, subEC, subE0, subE1, subE2, subE3, subE4, subE6, subE7, subE8, subC, subC0, subC1, subC2, subC3, subC4, subC5, subC6]
        exact hR τ c2 ⟨A', B', by omega, by omega, hA', hB', tw', by rw [n']; exact n1, by rw [show 200000 + 3 * (i + 1) = 200000 + 3 * i + 3 by omega]; exact oka, by rw [show 200000 + 3 * (i + 1) = 200000 + 3 * i + 3 by omega]; exact okb, e'⟩
      have hb : 200000 + 3 * i < 9223372036854775807 := by omega
      have s1 := ok1.s1 hb
      have s2 := ok2.s1 hb
      have hu : ∀ {f : Int → Int} {v : Int}, (∀ j, 0 ≤ f j ∧ f j < 18446744073709551616) → 0 ≤ v ∧ v < 18446744073709551616 → ∀ j, 0 ≤ upd f at' v j ∧ upd f at' v j < 18446744073709551616 :=
        fun hf hv j => upd_cases (P := fun x => 0 ≤ x ∧ x < 18446744073709551616) hv (hf j)
      have up : ∀ {X : Ar} {b : Int}, X.ok (200000 + 3 * i + b) → b ≤ 3 → X.ok (200000 + 3 * i + 3) := fun h hb => ⟨h.w, ⟨h.s.1, by have := h.s.2; omega⟩, h.t⟩
      by_cases k0 : k = 0
      · rw [if_pos k0]
        refine viaA (S := s_mem_Mem_Load [M.p, .int .i64 at']) (fun _ _ => c_mLoad hM p2 (by exact p4)) hM hB1 fun τ2 hB2 k2 => ?_
        have hA2 := hA1.keep k2 dN
        simp only [xMove, xPickT, xPickF, xNil, xFld, xExt0, xExt1, xExt30, xExt31, xExt32, xAdd, xSub, xMul, xEql, xNeq, xLss, xLeq, xGtr, xGeq, xEqPN, xEqNN, xNePN, xNeNN, xEqBB, xNeBB, xNot, xConv, xLen, xMin, xMax, xIfc, xIfT, xIfF, xIfD, xJoinE, xOs, xCs, xFldV, List.getD_cons_zero, List.getD_cons_succ, Nat.zero_add, Nat.reduceAdd, Mem.get_set_same, Mem.set_set, if_true, if_false, Bool.not_true, Bool.not_false, decide_true, decide_false, decide_eq_true_eq, decide_not, Bool.not_eq_true, Bool.false_eq_true, reduceIte, Int.reduceLT, Int.reduceLE, Int.reduceEq, Int.reduceNeg, Int.reduceAdd, Int.reduceSub, locP_e, gBox_a, gBox_i, gBox_b, gBox_p, gLoad_s, gAlloc_s, gStore_a, gStore_i, gStore_b, gStore_p, sub_z, sub_s, lay_z, lay_s, List.length_cons, List.length_nil, Nat.reduceLeDiff, Nat.le_refl, List.drop_zero, List.drop_succ_cons, List.take_succ_cons, List.take_zero, List.drop_nil, List.cons_append, List.nil_append, List.all_cons, List.all_nil, oneB_i, oneB_b, oneB_p, oneB_sl, Bool.and_true, Nat.reduceLT, Nat.lt_irrefl, Nat.zero_lt_one, gBoxE, gBoxC, subE, subEC, subE0, subE1, subE2, subE3, subE4, subE6, subE7, subE8, subC, subC0, subC1, subC2, subC3, subC4, subC5, subC6]
        refine viaA (S := s_layout_Env_Load [N.env C o, .int .i64 at']) (fun _ _ => c_Load hN p2 p3) hN hA2 fun τ3 hA3 k3 => ?_
        have e1 : (B.by o).w at' = A.w at' := by rw [by_w, tw.w]
        simp only [e1, ne_eq, not_true_eq_false, xMove, xPickT, xPickF, xNil, xFld, xExt0, xExt1, xExt30, xExt31, xExt32, xAdd, xSub, xMul, xEql, xNeq, xLss, xLeq, xGtr, xGeq, xEqPN, xEqNN, xNePN, xNeNN, xEqBB, xNeBB, xNot, xConv, xLen, xMin, xMax, xIfc, xIfT, xIfF, xIfD, xJoinE, xOs, xCs, xFldV, List.getD_cons_zero, List.getD_cons_succ, Nat.zero_add, Nat.reduceAdd, Mem.get_set_same, Mem.set_set, if_true, if_false, Bool.not_true, Bool.not_false, decide_true, decide_false, decide_eq_true_eq, decide_not, Bool.not_eq_true, Bool.false_eq_true, reduceIte, Int.reduceLT, Int.reduceLE, Int.reduceEq, Int.reduceNeg, Int.reduceAdd, Int.reduceSub, locP_e, gBox_a, gBox_i, gBox_b, gBox_p, gLoad_s, gAlloc_s, gStore_a, gStore_i, gStore_b, gStore_p, sub_z, sub_s, lay_z, lay_s, List.length_cons, List.length_nil, Nat.reduceLeDiff, Nat.le_refl, List.drop_zero, List.drop_succ_cons, List.take_succ_cons, List.take_zero, List.drop_nil, List.cons_append, List.nil_append, List.all_cons, List.all_nil, oneB_i, oneB_b, oneB_p, oneB_sl, Bool.and_true, Nat.reduceLT, Nat.lt_irrefl, Nat.zero_lt_one, gBoxE, gBoxC, subE, subEC, subE0, subE1, subE2, subE3, subE4, subE6, subE7, subE8, subC, subC0, subC1, subC2, subC3, subC4, subC5, subC6]
        exact go _ _ τ3 hA3 (hB2.keep k3 dM) ⟨tw.n, tw.w, by rw [load_s, load_s, by_s, by_s, tw.s]⟩ rfl (up (ok1.by.load hb) (by omega)) (up (ok2.by.load hb) (by omega)) rfl rfl rfl ((ext1.keep' k2 fM).keep' k3 hfr.all)
      rw [if_neg k0]
      by_cases k1' : k = 1
      · rw [if_pos k1']
        refine viaA (S := s_layout_Env_Store [N.env C o, .int .i64 at', .int .u64 x]) (fun _ _ => c_Store hN p2 p3) hN hA1 fun τ2 hA2 k2 => ?_
        have hB2 := hB1.keep k2 dM
        refine viaA (S := s_mem_Mem_Store [M.p, .int .i64 at', .int .u64 x]) (fun _ _ => c_mStore hM p2 (by exact p4)) hM hB2 fun τ3 hB3 k3 => ?_
        exact go _ _ τ3 (hA2.keep k3 dN) hB3 ⟨tw.n, by rw [store_w, store_w, by_w, by_w, tw.w], by rw [store_s, store_s, by_s, by_s, tw.s]⟩ rfl (up (ok1.by.store hb hx') (by omega)) (up (ok2.by.store hb hx') (by omega)) rfl rfl rfl ((ext1.keep' k2 hfr.all).keep' k3 fM)
      rw [if_neg k1']
      by_cases k2' : k = 2
      · rw [if_pos k2', c_PeekA hM hB1 p2 (by exact p4)]
        refine viaA (S := s_mem_Mem_Cas [M.p, .int .i64 at', .int .u64 ((B.by o).w at'), .int .u64 x]) (fun _ _ => c_mCas hM p2 (by exact p4)) hM hB1 fun τ2 hB2 k2 => ?_
        have hA2 := hA1.keep k2 dN
        rw [cas_yes rfl] at hB2
        simp only [c_PeekA hN hA2 p2 p3, xMove, xPickT, xPickF, xNil, xFld, xExt0, xExt1, xExt30, xExt31, xExt32, xAdd, xSub, xMul, xEql, xNeq, xLss, xLeq, xGtr, xGeq, xEqPN, xEqNN, xNePN, xNeNN, xEqBB, xNeBB, xNot, xConv, xLen, xMin, xMax, xIfc, xIfT, xIfF, xIfD, xJoinE, xOs, xCs, xFldV, List.getD_cons_zero, List.getD_cons_succ, Nat.zero_add, Nat.reduceAdd, Mem.get_set_same, Mem.set_set, if_true, if_false, Bool.not_true, Bool.not_false, decide_true, decide_false, decide_eq_true_eq, decide_not, Bool.not_eq_true, Bool.false_eq_true, reduceIte, Int.reduceLT, Int.reduceLE, Int.reduceEq, Int.reduceNeg, Int.reduceAdd, Int.reduceSub, locP_e, gBox_a, gBox_i, gBox_b, gBox_p, gLoad_s, gAlloc_s, gStore_a, gStore_i, gStore_b, gStore_p, sub_z, sub_s, lay_z, lay_s, List.length_cons, List.length_nil, Nat.reduceLeDiff, Nat.le_refl, List.drop_zero, List.drop_succ_cons, List.take_succ_cons, List.take_zero, List.drop_nil, List.cons_append, List.nil_append, List.all_cons, List.all_nil, oneB_i, oneB_b, oneB_p, oneB_sl, Bool.and_true, Nat.reduceLT, Nat.lt_irrefl, Nat.zero_lt_one, gBoxE, gBoxC, subE, subEC, subE0, subE1, subE2, subE3, subE4, subE6, subE7, subE8, subC, subC0, subC1, subC2, subC3, subC4, subC5, subC6]
        refine viaA (S := s_layout_Env_Cas [N.env C o, .int .i64 at', .int .u64 (A.w at'), .int .u64 x]) (fun _ _ => c_Cas hN p2 p3) hN hA2 fun τ3 hA3 k3 => ?_
        rw [cas_yes (A := A.by o) (a := at') (o := A.w at') rfl] at hA3
        simp only [decide_true, beq_self_eq_true, c_PeekA hN hA3 p2 (by exact p3), store_w, by_w, upd_same, xMove, xPickT, xPickF, xNil, xFld, xExt0, xExt1, xExt30, xExt31, xExt32, xAdd, xSub, xMul, xEql, xNeq, xLss, xLeq, xGtr, xGeq, xEqPN, xEqNN, xNePN, xNeNN, xEqBB, xNeBB, xNot, xConv, xLen, xMin, xMax, xIfc, xIfT, xIfF, xIfD, xJoinE, xOs, xCs, xFldV, List.getD_cons_zero, List.getD_cons_succ, Nat.zero_add, Nat.reduceAdd, Mem.get_set_same, Mem.set_set, if_true, if_false, Bool.not_true, Bool.not_false, decide_true, decide_false, decide_eq_true_eq, decide_not, Bool.not_eq_true, Bool.false_eq_true, reduceIte, Int.reduceLT, Int.reduceLE, Int.reduceEq, Int.reduceNeg, Int.reduceAdd, Int.reduceSub, locP_e, gBox_a, gBox_i, gBox_b, gBox_p, gLoad_s, gAlloc_s, gStore_a, gStore_i, gStore_b, gStore_p, sub_z, sub_s, lay_z, lay_s, List.length_cons, List.length_nil, Nat.reduceLeDiff, Nat.le_refl, List.drop_zero, List.drop_succ_cons, List.take_succ_cons, List.take_zero, List.drop_nil, List.cons_append, List.nil_append, List.all_cons, List.all_nil, oneB_i, oneB_b, oneB_p, oneB_sl, Bool.and_true, Nat.reduceLT, Nat.lt_irrefl, Nat.zero_lt_one, gBoxE, gBoxC, subE, subEC, subE0, subE1, subE2, subE3, subE4, subE6, subE7, subE8, subC, subC0, subC1, subC2, subC3, subC4, subC5, subC6]
        refine viaA (S := s_layout_Env_Cas [N.env C o, .int .i64 at', .int .u64 (IntKind.u64.wrap (x + 1)), .int .u64 5]) (fun _ _ => c_Cas hN p2 (by exact p3)) hN hA3 fun τ4 hA4 k4 => ?_
        have e1 : ¬ (((A.by o).store at' x).w at' = IntKind.u64.wrap (x + 1)) := by rw [store_w, upd_same, IntKind.wrap_u64]; omega
        rw [cas_no (by exact e1)] at hA4
        simp only [e1, w_law04_LayoutEnv_j6, w_law04_LayoutEnv_j6b, xMove, xPickT, xPickF, xNil, xFld, xExt0, xExt1, xExt30, xExt31, xExt32, xAdd, xSub, xMul, xEql, xNeq, xLss, xLeq, xGtr, xGeq, xEqPN, xEqNN, xNePN, xNeNN, xEqBB, xNeBB, xNot, xConv, xLen, xMin, xMax, xIfc, xIfT, xIfF, xIfD, xJoinE, xOs, xCs, xFldV, List.getD_cons_zero, List.getD_cons_succ, Nat.zero_add, Nat.reduceAdd, Mem.get_set_same, Mem.set_set, if_true, if_false, Bool.not_true, Bool.not_false, decide_true, decide_false, decide_eq_true_eq, decide_not, Bool.not_eq_true, Bool.false_eq_true, reduceIte, Int.reduceLT, Int.reduceLE, Int.reduceEq, Int.reduceNeg, Int.reduceAdd, Int.reduceSub, locP_e, gBox_a, gBox_i, gBox_b, gBox_p, gLoad_s, gAlloc_s, gStore_a, gStore_i, gStore_b, gStore_p, sub_z, sub_s, lay_z, lay_s, List.length_cons, List.length_nil, Nat.reduceLeDiff, Nat.le_refl, List.drop_zero, List.drop_succ_cons, List.take_succ_cons, List.take_zero, List.drop_nil, List.cons_append, List.nil_append, List.all_cons, List.all_nil, oneB_i, oneB_b, oneB_p, oneB_sl, Bool.and_true, Nat.reduceLT, Nat.lt_irrefl, Nat.zero_lt_one, gBoxE, gBoxC, subE, subEC, subE0, subE1, subE2, subE3, subE4, subE6, subE7, subE8, subC, subC0, subC1, subC2, subC3, subC4, subC5, subC6]
        have hB4 := (hB2.keep k3 dM).keep k4 dM
        refine viaA (S := s_mem_Mem_Load [M.p, .int .i64 at']) (fun _ _ => c_mLoad hM p2 (by exact p4)) hM hB4 fun τ5 hB5 k5 => ?_
        have oa := (ok1.by (who := o)).store (a := at') hb hx'
        have ob := (ok2.by (who := o)).store (a := at') hb hx'
        exact go _ _ τ5 (hA4.keep k5 dN) hB5 ⟨tw.n, by rw [load_w, load_w, by_w, store_w, store_w, by_w, by_w, tw.w], by rw [load_s, load_s, by_s, store_s, store_s, by_s, by_s, tw.s]⟩ rfl ⟨(oa.by.load (by omega)).w, ⟨(oa.by.load (by omega)).s.1, by have := (oa.by (who := o)).load (a := at') (by omega); have := this.s.2; omega⟩, (oa.by.load (by omega)).t⟩ ⟨(ob.load (by omega)).w, ⟨(ob.load (by omega)).s.1, by have := ob.load (a := at') (by omega); have := this.s.2; omega⟩, (ob.load (by omega)).t⟩ rfl rfl rfl
          ((((ext1.keep' k2 fM).keep' k3 hfr.all).keep' k4 hfr.all).keep' k5 fM)
      rw [if_neg k2']
      refine viaA (S := s_layout_Env_Add [N.env C o, .int .i64 at', .int .i64 d]) (fun _ _ => c_Add hN p2 p3) hN hA1 fun τ2 hA2 k2 => ?_
      have hB2 := hB1.keep k2 dM
      refine viaA (S := s_mem_Mem_Add [M.p, .int .i64 at', .int .u64 (IntKind.u64.wrap d)]) (fun _ _ => c_mAdd hM p2 (by exact p4)) hM hB2 fun τ3 hB3 k3 => ?_
      exact go _ _ τ3 (hA2.keep k3 dN) hB3 ⟨tw.n, by rw [add_eq, add_eq, store_w, store_w, by_w, by_w, tw.w], by rw [add_eq, add_eq, store_s, store_s, by_s, by_s, tw.s]⟩ rfl (up (ok1.by.add hb) (by omega)) (up (ok2.by.add hb) (by omega)) rfl rfl rfl ((ext1.keep' k2 hfr.all).keep' k3 fM)
    · simp only [c1, c2, xMove, xPickT, xPickF, xNil, xFld, xExt0, xExt1, xExt30, xExt31, xExt32, xAdd, xSub, xMul, xEql, xNeq, xLss, xLeq, xGtr, xGeq, xEqPN, xEqNN, xNePN, xNeNN, xEqBB, xNeBB, xNot, xConv, xLen, xMin, xMax, xIfc, xIfT, xIfF, xIfD, xJoinE, xOs, xCs, xFldV, List.getD_cons_zero, List.getD_cons_succ, Nat.zero_add, Nat.reduceAdd, Mem.get_set_same, Mem.set_set, if_true, if_false, Bool.not_true, Bool.not_false, decide_true, decide_false, decide_eq_true_eq, decide_not, Bool.not_eq_true, Bool.false_eq_true, reduceIte, Int.reduceLT, Int.reduceLE, Int.reduceEq, Int.reduceNeg, Int.reduceAdd, Int.reduceSub, locP_e, gBox_a, gBox_i, gBox_b, gBox_p, gLoad_s, gAlloc_s, gStore_a, gStore_i, gStore_b, gStore_p, sub_z, sub_s, lay_z, lay_s, List.length_cons, List.length_nil, Nat.reduceLeDiff, Nat.le_refl, List.drop_zero, List.drop_succ_cons, List.take_succ_cons, List.take_zero, List.drop_nil, List.cons_append, List.nil_append, List.all_cons, List.all_nil, oneB_i, oneB_b, oneB_p, oneB_sl, Bool.and_true, Nat.reduceLT, Nat.lt_irrefl, Nat.zero_lt_one, gBoxE, gBoxC, subE, subEC, subE0, subE1, subE2, subE3, subE4, subE6, subE7, subE8, subC, subC0, subC1, subC2, subC3, subC4, subC5, subC6]; exact fin
  · simp only [c1, xMove, xPickT, xPickF, xNil, xFld, xExt0, xExt1, xExt30, xExt31, xExt32, xAdd, xSub, xMul, xEql, xNeq, xLss, xLeq, xGtr, xGeq, xEqPN, xEqNN, xNePN, xNeNN, xEqBB, xNeBB, xNot, xConv, xLen, xMin, xMax, xIfc, xIfT, xIfF, xIfD, xJoinE, xOs, xCs, xFldV, List.getD_cons_zero, List.getD_cons_succ, Nat.zero_add, Nat.reduceAdd, Mem.get_set_same, Mem.set_set, if_true, if_false, Bool.not_true, Bool.not_false, decide_true, decide_false, decide_eq_true_eq, decide_not, Bool.not_eq_true, Bool.false_eq_true, reduceIte, Int.reduceLT, Int.reduceLE, Int.reduceEq, Int.reduceNeg, Int.reduceAdd, Int.reduceSub, locP_e, gBox_a, gBox_i, gBox_b, gBox_p, gLoad_s, gAlloc_s, gStore_a, gStore_i, gStore_b, gStore_p, sub_z, sub_s, lay_z, lay_s, List.length_cons, List.length_nil, Nat.reduceLeDiff, Nat.le_refl, List.drop_zero, List.drop_succ_cons, List.take_succ_cons, List.take_zero, List.drop_nil, List.cons_append, List.nil_append, List.all_cons, List.all_nil, oneB_i, oneB_b, oneB_p, oneB_sl, Bool.and_true, Nat.reduceLT, Nat.lt_irrefl, Nat.zero_lt_one, gBoxE, gBoxC, subE, subEC, subE0, subE1, subE2, subE3, subE4, subE6, subE7, subE8, subC, subC0, subC1, subC2, subC3, subC4, subC5, subC6]; exact fin
end Go.Fl
