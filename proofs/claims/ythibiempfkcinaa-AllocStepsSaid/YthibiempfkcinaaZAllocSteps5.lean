/- What the claim leans on, part 5: own readings of the program's functions, what they come to, laws of them. No condition. -/
import Derived.Test.YthibiempfkcinaaZAllocSteps4
namespace Go.Fl
open Go
set_option linter.unusedVariables false
set_option linter.unusedSimpArgs false
variable {N : Nm} {A B : Ar} {σ : Mem} {K : Value → Mem → Prop} {C : Cf} {who : Int}
theorem kind9 (hC : C.ok) {a : Int} (h0 : 0 ≤ a) (h1 : a < C.len) : (kindOf C a).1 = 9 ↔ C.base 0 ≤ a := by
  have hb : C.base 0 = 6 + C.T + 2 * C.S + 3 * C.C := by unfold Cf.base; omega
  have hT := hC.T
  have hS := hC.S
  have hCC := hC.C
  cases kind_at hC h0 h1 with
  | epoch h e => rw [h, e, hb]; constructor <;> intro q <;> first | (cases q) | omega
  | top h e => rw [h, e, hb]; constructor <;> intro q <;> first | (cases q) | omega
  | «open» j h e => rw [h, e, hb]; constructor <;> intro q <;> first | (cases q) | omega
  | pin j h e => rw [h, e, hb]; constructor <;> intro q <;> first | (cases q) | omega
  | slot j h e => rw [h, e, hb]; unfold Cf.slot; constructor <;> intro q <;> first | (cases q) | omega
  | link j h e => rw [h, e, hb]; unfold Cf.slot; constructor <;> intro q <;> first | (cases q) | omega
  | chunk j h e => rw [h, e, hb]; unfold Cf.chunk; constructor <;> intro q <;> first | (cases q) | omega
  | live j h e => rw [h, e, hb]; unfold Cf.chunk; constructor <;> intro q <;> first | (cases q) | omega
  | since j h e => rw [h, e, hb]; unfold Cf.chunk; constructor <;> intro q <;> first | (cases q) | omega
  | word j k h e j0 j1 k0 k1 =>
    have := mulW hC j0 (by omega)
    rw [h, e]; exact ⟨fun _ => by rw [hb]; unfold Cf.base; omega, fun _ => rfl⟩
def AtOk (m : Am) (at' : Int) : Prop := at' = -1 ∧ m.a.pc ≠ 5 ∧ m.a.pc ≠ 6 ∨ (m.a.pc = 5 ∨ m.a.pc = 6) ∧ at' = m.a.sa
theorem Am.pcs (m : Am) : (m.a.pc ≠ 4 → m.a.pc ≠ 5 → (m.step C who A).2.1.a.pc = 6 ∨ (m.step C who A).2.1.a.pc = 5 → m.a.pc = 6) ∧ (m.a.pc = 4 → (m.step C who A).2.1.a.pc = 5 ∧ (m.step C who A).2.1.a.sa = m.a.sa ∧ (m.step C who A).2.2.lc = decide (A.w m.a.sa ≠ putHead 1 m.a.size m.a.at' m.a.gen m.a.own)) ∧
    (m.a.pc = 5 → (m.step C who A).2.1.a.pc = 6 ∧ (m.step C who A).2.1.a.sa = m.a.sa) ∧ (m.a.pc = 6 → (m.step C who A).2.1 = m) := by
  unfold Am.step
  by_cases c0 : m.a.pc = 0
  · rw [if_pos c0]
    refine ⟨fun _ _ h => ?_, fun h => by omega, fun h => by omega, fun h => by omega⟩
    split at h
    · unfold Am.out at h; dsimp only at h; omega
    · dsimp only at h; split at h
      · dsimp only at h; omega
      · split at h <;> dsimp only at h <;> omega
  rw [if_neg c0]
  by_cases c1 : m.a.pc = 1
  · rw [if_pos c1]; exact ⟨fun _ _ h => by dsimp only at h; omega, fun h => by omega, fun h => by omega, fun h => by omega⟩
  rw [if_neg c1]
  by_cases c2 : m.a.pc = 2
  · rw [if_pos c2]
    refine ⟨fun _ _ h => ?_, fun h => by omega, fun h => by omega, fun h => by omega⟩
    dsimp only at h; split at h
    · dsimp only at h; omega
    · split at h <;> dsimp only at h <;> omega
  rw [if_neg c2]
  by_cases c3 : m.a.pc = 3
  · rw [if_pos c3]; exact ⟨fun _ _ h => by dsimp only at h; omega, fun h => by omega, fun h => by omega, fun h => by omega⟩
  rw [if_neg c3]
  by_cases c4 : m.a.pc = 4
  · rw [if_pos c4]; exact ⟨fun h => absurd c4 h, fun _ => ⟨rfl, rfl, rfl⟩, fun h => by omega, fun h => by omega⟩
  rw [if_neg c4]
  by_cases c5 : m.a.pc = 5
  · rw [if_pos c5]; exact ⟨fun _ h => absurd c5 h, fun h => by omega, fun _ => ⟨rfl, rfl⟩, fun h => by omega⟩
  rw [if_neg c5]
  by_cases c6 : m.a.pc = 6
  · rw [if_pos c6]; exact ⟨fun _ _ _ => c6, fun h => by omega, fun h => by omega, fun _ => rfl⟩
  rw [if_neg c6]
  exact ⟨fun _ _ h => by dsimp only at h; omega, fun h => by omega, fun h => by omega, fun h => by omega⟩
theorem PhM.zero {b : Bg} {size s0 k : Int} {own : Bool} {w0 : Int → Int} {m : Am} (h : PhM C b size own w0 s0 k m A) (h4 : m.a.pc = 4) : A.w m.a.sa = 0 := by
  rcases h with ⟨_, _, _, h, _⟩ | ⟨s, F, hb, ⟨h, _⟩ | ⟨kk, ⟨_, _, h, _⟩, _⟩ | ⟨j, b', hg, hp, _, h⟩ | ⟨_, _, _, _, _, _, kk, ⟨h, _⟩, _⟩⟩
  · omega
  · omega
  · omega
  · rcases h with ⟨h, _⟩ | ⟨_, ⟨_, h, _⟩ | ⟨_, ⟨h, _⟩ | ⟨h, _⟩⟩⟩
    · omega
    · rw [hp.sa]; exact h
    · omega
    · omega
  · omega
theorem PhM.last (hC : C.ok) {b : Bg} {size s0 k bb : Int} {own : Bool} {w0 : Int → Int} {m : Am} (h : PhM C b size own w0 s0 k m A) (hP : Pa C A bb) (hb : bb < 4611686018427387904) (hcl : 0 ≤ classOf size) (hcl3 : classOf size ≤ 3) (hu : ∀ j, 0 ≤ j → j < C.C → 0 ≤ b.u j)
    (d : (m.step C who A).1 = true) (e : (m.step C who A).2.1.a.oE = 0) : m.a.pc = 6 := by
  have f : ∀ {x : Prop}, (m.step C who A).1 = false → x := fun q => by rw [d] at q; cases q
  rcases h with h | ⟨s, F, hbF, ⟨h1, h2, h3, hk⟩ | ⟨kk, h, hk0, hk⟩ | ⟨j, b', hg, hp, _, h⟩ | ⟨e6, eH, eS, hng, hnx, hh, kk, h, hk0, hk⟩⟩
  · rcases h.step (who := who) hC hP.ok hb hcl with ⟨q1, _⟩ | ⟨q1, q2, q3, _⟩ | ⟨q1, _⟩
    · exact f q1
    · omega
    · exact f q1
  · exact f (see_step (who := who) (b := b) hC h3 h2 h1 hcl hcl3).1
  · rcases h.step (who := who) hC hP hb hcl hcl3 hu with ⟨q1, _⟩ | ⟨q1, _⟩
    · exact f q1
    · exact f q1
  · have hpc : 3 ≤ m.a.pc ∧ m.a.pc ≤ 6 := by omega
    by_cases c6 : m.a.pc = 6
    · exact c6
    · refine f ?_
      unfold Am.step
      rw [if_neg (by omega), if_neg (by omega), if_neg (by omega)]
      split
      · rfl
      · split
        · rfl
        · rw [if_pos (by omega)]
  · obtain ⟨e1, _⟩ := h.step (who := who) hC hP.ok hb
    rw [e1] at e; omega
theorem head1_pos (s t g : Int) (o : Bool) : putHead 1 s t g o ≠ 0 := by have := bI_bd o; unfold putHead cl; omega
theorem law_AllocSteps (σ : Mem) (s : Value) (len : Nat) (cs : List Value) (sl : Sl σ 1 len cs s) (hm : len ≤ maxLen) (hf : FlatL (List.replicate len [some .i64]).flatten cs) :
    s_law08_AllocSteps [s] (fun v _ => v = .bool true) σ := by
  obtain ⟨g, hg, hgw⟩ := sl.argI hf
  simp only [s_law08_AllocSteps, w_law08_AllocSteps, xMove, xPickT, xPickF, xNil, xFld, xExt0, xExt1, xExt30, xExt31, xExt32, xAdd, xSub, xMul, xEql, xNeq, xLss, xLeq, xGtr, xGeq, xEqPN, xEqNN, xNePN, xNeNN, xEqBB, xNeBB, xNot, xConv, xLen, xMin, xMax, xIfc, xIfT, xIfF, xIfD, xJoinE, xOs, xCs, xFldV, List.getD_cons_zero, List.getD_cons_succ, Nat.zero_add, Nat.reduceAdd, Mem.get_set_same, Mem.set_set, if_true, if_false, Bool.not_true, Bool.not_false, decide_true, decide_false, decide_eq_true_eq, decide_not, Bool.not_eq_true, Bool.false_eq_true, reduceIte, Int.reduceLT, Int.reduceLE, Int.reduceEq, Int.reduceNeg, Int.reduceAdd, Int.reduceSub, locP_e, gBox_a, gBox_i, gBox_b, gBox_p, gLoad_s, gAlloc_s, gStore_a, gStore_i, gStore_b, gStore_p, sub_z, sub_s, lay_z, lay_s, List.length_cons, List.length_nil, Nat.reduceLeDiff, Nat.le_refl, List.drop_zero, List.drop_succ_cons, List.take_succ_cons, List.take_zero, List.drop_nil, List.cons_append, List.nil_append, List.all_cons, List.all_nil, oneB_i, oneB_b, oneB_p, oneB_sl, Bool.and_true, Nat.reduceLT, Nat.lt_irrefl, Nat.zero_lt_one, gBoxE, gBoxC, subE, subEC, subE0, subE1, subE2, subE3, subE4, subE6, subE7, subE8, subC, subC0, subC1, subC2, subC3, subC4, subC5, subC6]
  have hC : (cA 1 8 6 20).ok := cA_ok (by omega) (by omega) (by omega) (by omega)
  refine c_Arena (C := cA 1 8 6 20) hC rfl rfl rfl fun N A τ hN hF hA hE hfr => ?_
  have hS : (cA 1 8 6 20).S = 8 := rfl
  have hCC : (cA 1 8 6 20).C = 6 := rfl
  have hP := hF.pa hC
  have hAw := hF.aw hC
  rw [hS] at hP
  generalize hCe : cA 1 8 6 20 = C at *
  simp only [c_awake8, gStoreE, w_law08_AllocSteps_j1, w_law08_AllocSteps_j1b, xMove, xPickT, xPickF, xNil, xFld, xExt0, xExt1, xExt30, xExt31, xExt32, xAdd, xSub, xMul, xEql, xNeq, xLss, xLeq, xGtr, xGeq, xEqPN, xEqNN, xNePN, xNeNN, xEqBB, xNeBB, xNot, xConv, xLen, xMin, xMax, xIfc, xIfT, xIfF, xIfD, xJoinE, xOs, xCs, xFldV, List.getD_cons_zero, List.getD_cons_succ, Nat.zero_add, Nat.reduceAdd, Mem.get_set_same, Mem.set_set, if_true, if_false, Bool.not_true, Bool.not_false, decide_true, decide_false, decide_eq_true_eq, decide_not, Bool.not_eq_true, Bool.false_eq_true, reduceIte, Int.reduceLT, Int.reduceLE, Int.reduceEq, Int.reduceNeg, Int.reduceAdd, Int.reduceSub, locP_e, gBox_a, gBox_i, gBox_b, gBox_p, gLoad_s, gAlloc_s, gStore_a, gStore_i, gStore_b, gStore_p, sub_z, sub_s, lay_z, lay_s, List.length_cons, List.length_nil, Nat.reduceLeDiff, Nat.le_refl, List.drop_zero, List.drop_succ_cons, List.take_succ_cons, List.take_zero, List.drop_nil, List.cons_append, List.nil_append, List.all_cons, List.all_nil, oneB_i, oneB_b, oneB_p, oneB_sl, Bool.and_true, Nat.reduceLT, Nat.lt_irrefl, Nat.zero_lt_one, gBoxE, gBoxC, subE, subEC, subE0, subE1, subE2, subE3, subE4, subE6, subE7, subE8, subC, subC0, subC1, subC2, subC3, subC4, subC5, subC6]
  have fin : ∀ τ, w_law08_AllocSteps_j2 (fun v _ => v = .bool true) [] [] τ := fun τ => by simp only [w_law08_AllocSteps_j2, w_law08_AllocSteps_j2b, xMove, xPickT, xPickF, xNil, xFld, xExt0, xExt1, xExt30, xExt31, xExt32, xAdd, xSub, xMul, xEql, xNeq, xLss, xLeq, xGtr, xGeq, xEqPN, xEqNN, xNePN, xNeNN, xEqBB, xNeBB, xNot, xConv, xLen, xMin, xMax, xIfc, xIfT, xIfF, xIfD, xJoinE, xOs, xCs, xFldV, List.getD_cons_zero, List.getD_cons_succ, Nat.zero_add, Nat.reduceAdd, Mem.get_set_same, Mem.set_set, if_true, if_false, Bool.not_true, Bool.not_false, decide_true, decide_false, decide_eq_true_eq, decide_not, Bool.not_eq_true, Bool.false_eq_true, reduceIte, Int.reduceLT, Int.reduceLE, Int.reduceEq, Int.reduceNeg, Int.reduceAdd, Int.reduceSub, locP_e, gBox_a, gBox_i, gBox_b, gBox_p, gLoad_s, gAlloc_s, gStore_a, gStore_i, gStore_b, gStore_p, sub_z, sub_s, lay_z, lay_s, List.length_cons, List.length_nil, Nat.reduceLeDiff, Nat.le_refl, List.drop_zero, List.drop_succ_cons, List.take_succ_cons, List.take_zero, List.drop_nil, List.cons_append, List.nil_append, List.all_cons, List.all_nil, oneB_i, oneB_b, oneB_p, oneB_sl, Bool.and_true, Nat.reduceLT, Nat.lt_irrefl, Nat.zero_lt_one, gBoxE, gBoxC, subE, subEC, subE0, subE1, subE2, subE3, subE4, subE6, subE7, subE8, subC, subC0, subC1, subC2, subC3, subC4, subC5, subC6]
  refine xLoop_i (fun i => [s, .int .i64 i]) [N.el C 0] 12
    (fun i τ => ∃ (A : Ar) (b : Bg), 0 ≤ i ∧ i ≤ 12 ∧ isA N A τ ∧ Pa C A (1000 + 100 * i) ∧ b.aw C A.w ∧ b.lvM C (17 * i) ∧ A.la < C.len ∧ Ext σ τ) ?_ ⟨A, _, by omega, by omega, hA, hP.mono (by omega), hAw, fr_lv, by have := len_bd hC; have := hF.la; have : C.chunk C.C = 6 + C.T + 2 * C.S + 3 * C.C := rfl; have := hC.T; have := hC.C; omega, hE⟩
  rintro i τ1 ⟨A1, b, i0, i1, hA1, hP1, hb1, hlv, hla1, ext1⟩ R hR
  have hg1 := hg.keep ext1
  simp only [w_law08_AllocSteps_l6, w_law08_AllocSteps_l6b, hg1.len, xMove, xPickT, xPickF, xNil, xFld, xExt0, xExt1, xExt30, xExt31, xExt32, xAdd, xSub, xMul, xEql, xNeq, xLss, xLeq, xGtr, xGeq, xEqPN, xEqNN, xNePN, xNeNN, xEqBB, xNeBB, xNot, xConv, xLen, xMin, xMax, xIfc, xIfT, xIfF, xIfD, xJoinE, xOs, xCs, xFldV, List.getD_cons_zero, List.getD_cons_succ, Nat.zero_add, Nat.reduceAdd, Mem.get_set_same, Mem.set_set, if_true, if_false, Bool.not_true, Bool.not_false, decide_true, decide_false, decide_eq_true_eq, decide_not, Bool.not_eq_true, Bool.false_eq_true, reduceIte, Int.reduceLT, Int.reduceLE, Int.reduceEq, Int.reduceNeg, Int.reduceAdd, Int.reduceSub, locP_e, gBox_a, gBox_i, gBox_b, gBox_p, gLoad_s, gAlloc_s, gStore_a, gStore_i, gStore_b, gStore_p, sub_z, sub_s, lay_z, lay_s, List.length_cons, List.length_nil, Nat.reduceLeDiff, Nat.le_refl, List.drop_zero, List.drop_succ_cons, List.take_succ_cons, List.take_zero, List.drop_nil, List.cons_append, List.nil_append, List.all_cons, List.all_nil, oneB_i, oneB_b, oneB_p, oneB_sl, Bool.and_true, Nat.reduceLT, Nat.lt_irrefl, Nat.zero_lt_one, gBoxE, gBoxC, subE, subEC, subE0, subE1, subE2, subE3, subE4, subE6, subE7, subE8, subC, subC0, subC1, subC2, subC3, subC4, subC5, subC6]
  by_cases c1 : i < len
  rotate_left
  · simp only [c1, xMove, xPickT, xPickF, xNil, xFld, xExt0, xExt1, xExt30, xExt31, xExt32, xAdd, xSub, xMul, xEql, xNeq, xLss, xLeq, xGtr, xGeq, xEqPN, xEqNN, xNePN, xNeNN, xEqBB, xNeBB, xNot, xConv, xLen, xMin, xMax, xIfc, xIfT, xIfF, xIfD, xJoinE, xOs, xCs, xFldV, List.getD_cons_zero, List.getD_cons_succ, Nat.zero_add, Nat.reduceAdd, Mem.get_set_same, Mem.set_set, if_true, if_false, Bool.not_true, Bool.not_false, decide_true, decide_false, decide_eq_true_eq, decide_not, Bool.not_eq_true, Bool.false_eq_true, reduceIte, Int.reduceLT, Int.reduceLE, Int.reduceEq, Int.reduceNeg, Int.reduceAdd, Int.reduceSub, locP_e, gBox_a, gBox_i, gBox_b, gBox_p, gLoad_s, gAlloc_s, gStore_a, gStore_i, gStore_b, gStore_p, sub_z, sub_s, lay_z, lay_s, List.length_cons, List.length_nil, Nat.reduceLeDiff, Nat.le_refl, List.drop_zero, List.drop_succ_cons, List.take_succ_cons, List.take_zero, List.drop_nil, List.cons_append, List.nil_append, List.all_cons, List.all_nil, oneB_i, oneB_b, oneB_p, oneB_sl, Bool.and_true, Nat.reduceLT, Nat.lt_irrefl, Nat.zero_lt_one, gBoxE, gBoxC, subE, subEC, subE0, subE1, subE2, subE3, subE4, subE6, subE7, subE8, subC, subC0, subC1, subC2, subC3, subC4, subC5, subC6]; exact fin _
  by_cases c2 : i < 12
  rotate_left
  · simp only [c1, c2, xMove, xPickT, xPickF, xNil, xFld, xExt0, xExt1, xExt30, xExt31, xExt32, xAdd, xSub, xMul, xEql, xNeq, xLss, xLeq, xGtr, xGeq, xEqPN, xEqNN, xNePN, xNeNN, xEqBB, xNeBB, xNot, xConv, xLen, xMin, xMax, xIfc, xIfT, xIfF, xIfD, xJoinE, xOs, xCs, xFldV, List.getD_cons_zero, List.getD_cons_succ, Nat.zero_add, Nat.reduceAdd, Mem.get_set_same, Mem.set_set, if_true, if_false, Bool.not_true, Bool.not_false, decide_true, decide_false, decide_eq_true_eq, decide_not, Bool.not_eq_true, Bool.false_eq_true, reduceIte, Int.reduceLT, Int.reduceLE, Int.reduceEq, Int.reduceNeg, Int.reduceAdd, Int.reduceSub, locP_e, gBox_a, gBox_i, gBox_b, gBox_p, gLoad_s, gAlloc_s, gStore_a, gStore_i, gStore_b, gStore_p, sub_z, sub_s, lay_z, lay_s, List.length_cons, List.length_nil, Nat.reduceLeDiff, Nat.le_refl, List.drop_zero, List.drop_succ_cons, List.take_succ_cons, List.take_zero, List.drop_nil, List.cons_append, List.nil_append, List.all_cons, List.all_nil, oneB_i, oneB_b, oneB_p, oneB_sl, Bool.and_true, Nat.reduceLT, Nat.lt_irrefl, Nat.zero_lt_one, gBoxE, gBoxC, subE, subEC, subE0, subE1, subE2, subE3, subE4, subE6, subE7, subE8, subC, subC0, subC1, subC2, subC3, subC4, subC5, subC6]; exact fin _
  simp only [c1, c2, w_law08_AllocSteps_j3, w_law08_AllocSteps_j3b, xMove, xPickT, xPickF, xNil, xFld, xExt0, xExt1, xExt30, xExt31, xExt32, xAdd, xSub, xMul, xEql, xNeq, xLss, xLeq, xGtr, xGeq, xEqPN, xEqNN, xNePN, xNeNN, xEqBB, xNeBB, xNot, xConv, xLen, xMin, xMax, xIfc, xIfT, xIfF, xIfD, xJoinE, xOs, xCs, xFldV, List.getD_cons_zero, List.getD_cons_succ, Nat.zero_add, Nat.reduceAdd, Mem.get_set_same, Mem.set_set, if_true, if_false, Bool.not_true, Bool.not_false, decide_true, decide_false, decide_eq_true_eq, decide_not, Bool.not_eq_true, Bool.false_eq_true, reduceIte, Int.reduceLT, Int.reduceLE, Int.reduceEq, Int.reduceNeg, Int.reduceAdd, Int.reduceSub, locP_e, gBox_a, gBox_i, gBox_b, gBox_p, gLoad_s, gAlloc_s, gStore_a, gStore_i, gStore_b, gStore_p, sub_z, sub_s, lay_z, lay_s, List.length_cons, List.length_nil, Nat.reduceLeDiff, Nat.le_refl, List.drop_zero, List.drop_succ_cons, List.take_succ_cons, List.take_zero, List.drop_nil, List.cons_append, List.nil_append, List.all_cons, List.all_nil, oneB_i, oneB_b, oneB_p, oneB_sl, Bool.and_true, Nat.reduceLT, Nat.lt_irrefl, Nat.zero_lt_one, gBoxE, gBoxC, subE, subEC, subE0, subE1, subE2, subE3, subE4, subE6, subE7, subE8, subC, subC0, subC1, subC2, subC3, subC4, subC5, subC6]
  rw [hg1.ix i0 c1]
  simp only [xRem (show (20 : Int) ≠ 0 by decide)]
  generalize (g i).tmod 20 = c
  refine ob_new hA1 fun p τ2 hp ho x2 => ?_
  have ext2 := ext1.trans x2
  have pp : ∀ j ∈ [p], σ.get j = none := fun j hj => by rw [List.mem_singleton.1 hj]; exact ext1.none hp
  have nx : ∀ (A' : Ar) (b' : Bg) τ', isA N A' τ' → Pa C A' (1000 + 100 * i + 100) → b'.aw C A'.w → b'.lvM C (17 * i + 17) → A'.la < C.len → Ext σ τ' → w_law08_AllocSteps_j4 (fun v _ => v = .bool true) (w_law08_AllocSteps_j2 fun v _ => v = .bool true) R [s, .int .i64 i] [N.el C 0] τ' := by
    intro A' b' τ' hA' hP' hb' hl' hx' ext'
    simp only [w_law08_AllocSteps_j4, w_law08_AllocSteps_j4b, xMove, xPickT, xPickF, xNil, xFld, xExt0, xExt1, xExt30, xExt31, xExt32, xAdd, xSub, xMul, xEql, xNeq, xLss, xLeq, xGtr, xGeq, xEqPN, xEqNN, xNePN, xNeNN, xEqBB, xNeBB, xNot, xConv, xLen, xMin, xMax, xIfc, xIfT, xIfF, xIfD, xJoinE, xOs, xCs, xFldV, List.getD_cons_zero, List.getD_cons_succ, Nat.zero_add, Nat.reduceAdd, Mem.get_set_same, Mem.set_set, if_true, if_false, Bool.not_true, Bool.not_false, decide_true, decide_false, decide_eq_true_eq, decide_not, Bool.not_eq_true, Bool.false_eq_true, reduceIte, Int.reduceLT, Int.reduceLE, Int.reduceEq, Int.reduceNeg, Int.reduceAdd, Int.reduceSub, locP_e, gBox_a, gBox_i, gBox_b, gBox_p, gLoad_s, gAlloc_s, gStore_a, gStore_i, gStore_b, gStore_p, sub_z, sub_s, lay_z, lay_s, List.length_cons, List.length_nil, Nat.reduceLeDiff, Nat.le_refl, List.drop_zero, List.drop_succ_cons, List.take_succ_cons, List.take_zero, List.drop_nil, List.cons_append, List.nil_append, List.all_cons, List.all_nil, oneB_i, oneB_b, oneB_p, oneB_sl, Bool.and_true, Nat.reduceLT, Nat.lt_irrefl, Nat.zero_lt_one, gBoxE, gBoxC, subE, subEC, subE0, subE1, subE2, subE3, subE4, subE6, subE7, subE8, subC, subC0, subC1, subC2, subC3, subC4, subC5, subC6]
    rw [IntWalk.i64_in (i + 1) (by omega)]
    exact hR _ c2 ⟨A', b', by omega, by omega, hA', by rw [show 1000 + 100 * (i + 1) = 1000 + 100 * i + 100 by omega]; exact hP', hb', by rw [show 17 * (i + 1) = 17 * i + 17 by omega]; exact hl', hx', ext'⟩
  have f5 : ∀ m O at' (A' : Ar) (b' : Bg) τ', isA N A' τ' → Ob N p O m τ' → (m.a.oE = 0 → 0 ≤ ofC C at') → at' < 9223372036854775808 → Pa C A' (1000 + 100 * i + 100) → b'.aw C A'.w → b'.lvM C (17 * i + 17) → A'.la < C.len → Ext σ τ' →
      w_law08_AllocSteps_j5 (fun v _ => v = .bool true) (w_law08_AllocSteps_j2 fun v _ => v = .bool true) R (w_law08_AllocSteps_j4 (fun v _ => v = .bool true) (w_law08_AllocSteps_j2 fun v _ => v = .bool true) R) [s, .int .i64 i, .pointer (some ⟨p, 0, none⟩), .int .i64 at'] [N.el C 0] τ' := by
    intro m O at' A' b' τ' hA' hO h0 hat hP' hb' hl' hx' ext'
    simp only [w_law08_AllocSteps_j5, w_law08_AllocSteps_j5b, xMove, xPickT, xPickF, xNil, xFld, xExt0, xExt1, xExt30, xExt31, xExt32, xAdd, xSub, xMul, xEql, xNeq, xLss, xLeq, xGtr, xGeq, xEqPN, xEqNN, xNePN, xNeNN, xEqBB, xNeBB, xNot, xConv, xLen, xMin, xMax, xIfc, xIfT, xIfF, xIfD, xJoinE, xOs, xCs, xFldV, List.getD_cons_zero, List.getD_cons_succ, Nat.zero_add, Nat.reduceAdd, Mem.get_set_same, Mem.set_set, if_true, if_false, Bool.not_true, Bool.not_false, decide_true, decide_false, decide_eq_true_eq, decide_not, Bool.not_eq_true, Bool.false_eq_true, reduceIte, Int.reduceLT, Int.reduceLE, Int.reduceEq, Int.reduceNeg, Int.reduceAdd, Int.reduceSub, locP_e, gBox_a, gBox_i, gBox_b, gBox_p, gLoad_s, gAlloc_s, gStore_a, gStore_i, gStore_b, gStore_p, sub_z, sub_s, lay_z, lay_s, List.length_cons, List.length_nil, Nat.reduceLeDiff, Nat.le_refl, List.drop_zero, List.drop_succ_cons, List.take_succ_cons, List.take_zero, List.drop_nil, List.cons_append, List.nil_append, List.all_cons, List.all_nil, oneB_i, oneB_b, oneB_p, oneB_sl, Bool.and_true, Nat.reduceLT, Nat.lt_irrefl, Nat.zero_lt_one, gBoxE, gBoxC, subE, subEC, subE0, subE1, subE2, subE3, subE4, subE6, subE7, subE8, subC, subC0, subC1, subC2, subC3, subC4, subC5, subC6]
    refine Ob.done hA' hO ?_
    have n := nx A' b' τ' hA' hP' hb' hl' hx' ext'
    by_cases e : m.a.oE = 0
    · have := h0 e
      have hlt : ¬ ofC C at' < 0 := by omega
      simp only [e, c_Of hC hat, hlt, w_law08_AllocSteps_j6, w_law08_AllocSteps_j6b, xMove, xPickT, xPickF, xNil, xFld, xExt0, xExt1, xExt30, xExt31, xExt32, xAdd, xSub, xMul, xEql, xNeq, xLss, xLeq, xGtr, xGeq, xEqPN, xEqNN, xNePN, xNeNN, xEqBB, xNeBB, xNot, xConv, xLen, xMin, xMax, xIfc, xIfT, xIfF, xIfD, xJoinE, xOs, xCs, xFldV, List.getD_cons_zero, List.getD_cons_succ, Nat.zero_add, Nat.reduceAdd, Mem.get_set_same, Mem.set_set, if_true, if_false, Bool.not_true, Bool.not_false, decide_true, decide_false, decide_eq_true_eq, decide_not, Bool.not_eq_true, Bool.false_eq_true, reduceIte, Int.reduceLT, Int.reduceLE, Int.reduceEq, Int.reduceNeg, Int.reduceAdd, Int.reduceSub, locP_e, gBox_a, gBox_i, gBox_b, gBox_p, gLoad_s, gAlloc_s, gStore_a, gStore_i, gStore_b, gStore_p, sub_z, sub_s, lay_z, lay_s, List.length_cons, List.length_nil, Nat.reduceLeDiff, Nat.le_refl, List.drop_zero, List.drop_succ_cons, List.take_succ_cons, List.take_zero, List.drop_nil, List.cons_append, List.nil_append, List.all_cons, List.all_nil, oneB_i, oneB_b, oneB_p, oneB_sl, Bool.and_true, Nat.reduceLT, Nat.lt_irrefl, Nat.zero_lt_one, gBoxE, gBoxC, subE, subEC, subE0, subE1, subE2, subE3, subE4, subE6, subE7, subE8, subC, subC0, subC1, subC2, subC3, subC4, subC5, subC6]
      exact n
    · simp only [e, w_law08_AllocSteps_j6, w_law08_AllocSteps_j6b, xMove, xPickT, xPickF, xNil, xFld, xExt0, xExt1, xExt30, xExt31, xExt32, xAdd, xSub, xMul, xEql, xNeq, xLss, xLeq, xGtr, xGeq, xEqPN, xEqNN, xNePN, xNeNN, xEqBB, xNeBB, xNot, xConv, xLen, xMin, xMax, xIfc, xIfT, xIfF, xIfD, xJoinE, xOs, xCs, xFldV, List.getD_cons_zero, List.getD_cons_succ, Nat.zero_add, Nat.reduceAdd, Mem.get_set_same, Mem.set_set, if_true, if_false, Bool.not_true, Bool.not_false, decide_true, decide_false, decide_eq_true_eq, decide_not, Bool.not_eq_true, Bool.false_eq_true, reduceIte, Int.reduceLT, Int.reduceLE, Int.reduceEq, Int.reduceNeg, Int.reduceAdd, Int.reduceSub, locP_e, gBox_a, gBox_i, gBox_b, gBox_p, gLoad_s, gAlloc_s, gStore_a, gStore_i, gStore_b, gStore_p, sub_z, sub_s, lay_z, lay_s, List.length_cons, List.length_nil, Nat.reduceLeDiff, Nat.le_refl, List.drop_zero, List.drop_succ_cons, List.take_succ_cons, List.take_zero, List.drop_nil, List.cons_append, List.nil_append, List.all_cons, List.all_nil, oneB_i, oneB_b, oneB_p, oneB_sl, Bool.and_true, Nat.reduceLT, Nat.lt_irrefl, Nat.zero_lt_one, gBoxE, gBoxC, subE, subEC, subE0, subE1, subE2, subE3, subE4, subE6, subE7, subE8, subC, subC0, subC1, subC2, subC3, subC4, subC5, subC6]
      exact n
  have hlen := len_bd hC
  refine xLoop_r (fun n ts ls τ => ∃ k at' m A O, n = (80 - k).toNat ∧ ts = [s, .int .i64 i, .pointer (some ⟨p, 0, none⟩), .int .i64 at', .int .i64 k] ∧ ls = [N.el C 0] ∧ 0 ≤ k ∧ isA N A τ ∧ Ob N p O m τ ∧ (∀ j ∈ O, σ.get j = none) ∧ Ext σ τ ∧
      (classOf c < 0 ∧ k = 0 ∧ at' = -1 ∧ m = Am.new c false ∧ A = A1 ∨ 0 ≤ classOf c ∧ at' < 9223372036854775808 ∧ AtOk m at' ∧ Mkr C b c false A1 (1000 + 100 * i) k m A)) ?_ (n := 80)
    ⟨0, -1, Am.new c false, A1, [p], by decide, rfl, rfl, Int.le_refl 0, hA1.ext x2, ho, pp, ext2, ?_⟩
  rotate_left
  · by_cases h : classOf c < 0
    · exact .inl ⟨h, rfl, rfl, rfl, rfl⟩
    · exact .inr ⟨by omega, by decide, .inl ⟨rfl, (by decide : (0 : Int) ≠ 5), (by decide : (0 : Int) ≠ 6)⟩, .new hP1 hb1⟩
  rintro n ts ls τ3 ⟨k, at', m, A3, O, rfl, rfl, rfl, k0, hA3, hO, hOn, ext3, hI⟩ R3 hR3
  have hk80 : k < 80 := by
    rcases hI with ⟨_, h, _⟩ | ⟨_, _, _, h⟩
    · omega
    · have := h.ph.kle hC; omega
  simp only [w_law08_AllocSteps_l11, w_law08_AllocSteps_l11b, hk80, c_NowA hA3, xMove, xPickT, xPickF, xNil, xFld, xExt0, xExt1, xExt30, xExt31, xExt32, xAdd, xSub, xMul, xEql, xNeq, xLss, xLeq, xGtr, xGeq, xEqPN, xEqNN, xNePN, xNeNN, xEqBB, xNeBB, xNot, xConv, xLen, xMin, xMax, xIfc, xIfT, xIfF, xIfD, xJoinE, xOs, xCs, xFldV, List.getD_cons_zero, List.getD_cons_succ, Nat.zero_add, Nat.reduceAdd, Mem.get_set_same, Mem.set_set, if_true, if_false, Bool.not_true, Bool.not_false, decide_true, decide_false, decide_eq_true_eq, decide_not, Bool.not_eq_true, Bool.false_eq_true, reduceIte, Int.reduceLT, Int.reduceLE, Int.reduceEq, Int.reduceNeg, Int.reduceAdd, Int.reduceSub, locP_e, gBox_a, gBox_i, gBox_b, gBox_p, gLoad_s, gAlloc_s, gStore_a, gStore_i, gStore_b, gStore_p, sub_z, sub_s, lay_z, lay_s, List.length_cons, List.length_nil, Nat.reduceLeDiff, Nat.le_refl, List.drop_zero, List.drop_succ_cons, List.take_succ_cons, List.take_zero, List.drop_nil, List.cons_append, List.nil_append, List.all_cons, List.all_nil, oneB_i, oneB_b, oneB_p, oneB_sl, Bool.and_true, Nat.reduceLT, Nat.lt_irrefl, Nat.zero_lt_one, gBoxE, gBoxC, subE, subEC, subE0, subE1, subE2, subE3, subE4, subE6, subE7, subE8, subC, subC0, subC1, subC2, subC3, subC4, subC5, subC6]
  have hfit : m.fit C A3 ∧ (∀ i, 0 ≤ A3.w i ∧ A3.w i < 18446744073709551616) ∧ C.len ≤ A3.n ∧ A3.s < 1000000 ∧ 0 ≤ A3.s := by
    rcases hI with ⟨_, _, _, h, h'⟩ | ⟨hc, _, _, h⟩
    · subst h; subst h'
      exact ⟨⟨⟨Int.le_refl 0, (by decide : (0 : Int) ≤ 7)⟩, fun _ => ⟨⟨Int.le_refl 0, (by decide : (0 : Int) < 18446744073709551616)⟩, fun q => (by cases q), (by decide : (0 : Int) ≤ 0 + 1)⟩, fun e => absurd rfl e, fun e => absurd rfl e, fun e => (by cases e), fun e => absurd e (by decide : ¬ (3 : Int) ≤ 0), fun e => (by cases e)⟩,
        hP1.ok.w, hP1.n, by have := hP1.ok.s; omega, hP1.ok.s.1⟩
    · exact ⟨h.fit hC hb1 hc, h.pa.ok.w, h.pa.n, by have := h.pa.ok.s; omega, h.pa.ok.s.1⟩
  refine c_Alloc_Step hN hC hA3 hO hfit.2.1 hfit.2.2.1 hfit.1 fun O' τ4 hO' hA4 hO4 hK4 => ?_
  have hOn' : ∀ j ∈ O', σ.get j = none := by
    intro j hj
    rcases hO' j hj with h | h
    · exact hOn j h
    · exact ext3.none h
  have ext4 : Ext σ τ4 := ext3.keep' hK4 fun j hj => by
    rcases List.mem_append.1 hj with h | h
    · exact hOn j h
    · exact hfr.all j h
  have gs : ∀ (x y : Int) (z : Bool), gStore 3 [.pointer (some ⟨11, 0, some 0⟩), .agg #[.int .i64 x, .int .i64 y, .bool z]] [.int .i64 0, .int .i64 0, .bool false] = some [.int .i64 x, .int .i64 y, .bool z] := fun _ _ _ => rfl
  rcases hI with ⟨hc, hk, hat, hm, hA'⟩ | ⟨hc, hat, hAt, hM⟩
  · subst hm; subst hA'; subst hat; subst hk
    have e : (Am.new c false).step C 0 A3 = (true, { Am.new c false with a := (Am.new c false).out A3 5 }, A3) := by
      unfold Am.step; rw [if_pos (show (Am.new c false).a.pc = 0 from rfl), if_pos (show classOf (Am.new c false).a.size < 0 from hc)]
    rw [e] at hA4 hO4 ⊢
    have hla : A3.la < 9223372036854775808 := by omega
    have hlt : ¬ A3.s + 1 < A3.s := by omega
    simp only [c_LastA hA4, Nm.el, gs, c_NowA hA4, xMove, xPickT, xPickF, xNil, xFld, xExt0, xExt1, xExt30, xExt31, xExt32, xAdd, xSub, xMul, xEql, xNeq, xLss, xLeq, xGtr, xGeq, xEqPN, xEqNN, xNePN, xNeNN, xEqBB, xNeBB, xNot, xConv, xLen, xMin, xMax, xIfc, xIfT, xIfF, xIfD, xJoinE, xOs, xCs, xFldV, List.getD_cons_zero, List.getD_cons_succ, Nat.zero_add, Nat.reduceAdd, Mem.get_set_same, Mem.set_set, if_true, if_false, Bool.not_true, Bool.not_false, decide_true, decide_false, decide_eq_true_eq, decide_not, Bool.not_eq_true, Bool.false_eq_true, reduceIte, Int.reduceLT, Int.reduceLE, Int.reduceEq, Int.reduceNeg, Int.reduceAdd, Int.reduceSub, locP_e, gBox_a, gBox_i, gBox_b, gBox_p, gLoad_s, gAlloc_s, gStore_a, gStore_i, gStore_b, gStore_p, sub_z, sub_s, lay_z, lay_s, List.length_cons, List.length_nil, Nat.reduceLeDiff, Nat.le_refl, List.drop_zero, List.drop_succ_cons, List.take_succ_cons, List.take_zero, List.drop_nil, List.cons_append, List.nil_append, List.all_cons, List.all_nil, oneB_i, oneB_b, oneB_p, oneB_sl, Bool.and_true, Nat.reduceLT, Nat.lt_irrefl, Nat.zero_lt_one, gBoxE, gBoxC, subE, subEC, subE0, subE1, subE2, subE3, subE4, subE6, subE7, subE8, subC, subC0, subC1, subC2, subC3, subC4, subC5, subC6]
    rw [IntWalk.i64_in (A3.s + 1) (by omega), if_neg hlt]
    refine c_Kind hC hla fun τ5 x5 => ?_
    have hA5 := hA4.ext x5
    have hO5 : Ob N p O' { Am.new c false with a := (Am.new c false).out A3 5 } τ5 := hO4.ext x5
    simp only [trip, c_NowA hA5, Int.lt_irrefl, w_law08_AllocSteps_j8, w_law08_AllocSteps_j8b, w_law08_AllocSteps_j7, w_law08_AllocSteps_j7b, xMove, xPickT, xPickF, xNil, xFld, xExt0, xExt1, xExt30, xExt31, xExt32, xAdd, xSub, xMul, xEql, xNeq, xLss, xLeq, xGtr, xGeq, xEqPN, xEqNN, xNePN, xNeNN, xEqBB, xNeBB, xNot, xConv, xLen, xMin, xMax, xIfc, xIfT, xIfF, xIfD, xJoinE, xOs, xCs, xFldV, List.getD_cons_zero, List.getD_cons_succ, Nat.zero_add, Nat.reduceAdd, Mem.get_set_same, Mem.set_set, if_true, if_false, Bool.not_true, Bool.not_false, decide_true, decide_false, decide_eq_true_eq, decide_not, Bool.not_eq_true, Bool.false_eq_true, reduceIte, Int.reduceLT, Int.reduceLE, Int.reduceEq, Int.reduceNeg, Int.reduceAdd, Int.reduceSub, locP_e, gBox_a, gBox_i, gBox_b, gBox_p, gLoad_s, gAlloc_s, gStore_a, gStore_i, gStore_b, gStore_p, sub_z, sub_s, lay_z, lay_s, List.length_cons, List.length_nil, Nat.reduceLeDiff, Nat.le_refl, List.drop_zero, List.drop_succ_cons, List.take_succ_cons, List.take_zero, List.drop_nil, List.cons_append, List.nil_append, List.all_cons, List.all_nil, oneB_i, oneB_b, oneB_p, oneB_sl, Bool.and_true, Nat.reduceLT, Nat.lt_irrefl, Nat.zero_lt_one, gBoxE, gBoxC, subE, subEC, subE0, subE1, subE2, subE3, subE4, subE6, subE7, subE8, subC, subC0, subC1, subC2, subC3, subC4, subC5, subC6]
    exact f5 _ O' (-1) A3 b τ5 hA5 hO5 (fun h => absurd h (by decide : ¬ (5 : Int) = 0)) (by decide) (hP1.mono (by omega)) hb1 (hlv.mono (by omega)) hla1 (ext4.trans x5)
  · obtain ⟨⟨a, t⟩, hst⟩ := hM.step (who := 0) hC (by omega) hb1 (hlv.ok (by omega)) hc k0
    obtain ⟨q1, q2, q3, q4⟩ := Am.pcs (C := C) (who := 0) (A := A3) m
    have hz := fun h4 => hM.ph.zero h4
    have hlast := fun d e => hM.ph.last (who := 0) hC hM.pa (by omega) hc (class_bd c).2 (fun j j0 j1 => Aw.u0 hb1 j0 j1) d e
    have hspot := fun (h3 : 3 ≤ m.a.pc) (h6 : m.a.pc ≤ 6) => hM.ph.spot hC hb1.alo hc (class_bd c).2 h3 h6
    have hsa : m.a.pc = 4 ∨ m.a.pc = 6 → C.base 0 ≤ m.a.sa ∧ m.a.sa < C.len ∧ 0 ≤ ofC C m.a.sa := by
      intro q
      obtain ⟨s, F, j, u1, u2, u3, u4, u5, u6⟩ := hspot (by omega) (by omega)
      have hr := room_bd hc (class_bd c).2
      have h1 := base_of hC u4.1 u4.2 u5 (by omega)
      have h2 := base_ge hC u4.1 u4.2 u5
      have hb0 : C.base 0 = 6 + C.T + 2 * C.S + 3 * C.C := by unfold Cf.base; omega
      rw [u3]; exact ⟨by omega, h1.2.2, by rw [h1.1]; exact u4.1⟩
    obtain ⟨ab, ak⟩ := t.bd hC hfit.1 fun q => ⟨(hsa q).1, (hsa q).2.1⟩
    have k9 := kind9 hC ab.1 ab.2
    have hla := t.la
    have hts := t.s
    generalize m.step C 0 A3 = r at *
    obtain ⟨d, m', A4⟩ := r
    dsimp only at *
    have hlt : ¬ A3.s + 1 < A4.s := by omega
    have hgt : A3.s < A4.s := by omega
    simp only [c_LastA hA4, Nm.el, gs, c_NowA hA4, xMove, xPickT, xPickF, xNil, xFld, xExt0, xExt1, xExt30, xExt31, xExt32, xAdd, xSub, xMul, xEql, xNeq, xLss, xLeq, xGtr, xGeq, xEqPN, xEqNN, xNePN, xNeNN, xEqBB, xNeBB, xNot, xConv, xLen, xMin, xMax, xIfc, xIfT, xIfF, xIfD, xJoinE, xOs, xCs, xFldV, List.getD_cons_zero, List.getD_cons_succ, Nat.zero_add, Nat.reduceAdd, Mem.get_set_same, Mem.set_set, if_true, if_false, Bool.not_true, Bool.not_false, decide_true, decide_false, decide_eq_true_eq, decide_not, Bool.not_eq_true, Bool.false_eq_true, reduceIte, Int.reduceLT, Int.reduceLE, Int.reduceEq, Int.reduceNeg, Int.reduceAdd, Int.reduceSub, locP_e, gBox_a, gBox_i, gBox_b, gBox_p, gLoad_s, gAlloc_s, gStore_a, gStore_i, gStore_b, gStore_p, sub_z, sub_s, lay_z, lay_s, List.length_cons, List.length_nil, Nat.reduceLeDiff, Nat.le_refl, List.drop_zero, List.drop_succ_cons, List.take_succ_cons, List.take_zero, List.drop_nil, List.cons_append, List.nil_append, List.all_cons, List.all_nil, oneB_i, oneB_b, oneB_p, oneB_sl, Bool.and_true, Nat.reduceLT, Nat.lt_irrefl, Nat.zero_lt_one, gBoxE, gBoxC, subE, subEC, subE0, subE1, subE2, subE3, subE4, subE6, subE7, subE8, subC, subC0, subC1, subC2, subC3, subC4, subC5, subC6]
    rw [IntWalk.i64_in (A3.s + 1) (by omega), if_neg hlt, hla]
    refine c_Kind hC (by omega) fun τ5 x5 => ?_
    have hA5 := hA4.ext x5
    have hO5 := hO4.ext x5
    have nxt : ∀ at', at' < 9223372036854775808 → (d = false → AtOk m' at') → (d = true → m'.a.oE = 0 → 0 ≤ ofC C at') →
        w_law08_AllocSteps_j7 (fun v _ => v = .bool true) (w_law08_AllocSteps_j2 fun v _ => v = .bool true) R (w_law08_AllocSteps_j4 (fun v _ => v = .bool true) (w_law08_AllocSteps_j2 fun v _ => v = .bool true) R)
          (w_law08_AllocSteps_j5 (fun v _ => v = .bool true) (w_law08_AllocSteps_j2 fun v _ => v = .bool true) R (w_law08_AllocSteps_j4 (fun v _ => v = .bool true) (w_law08_AllocSteps_j2 fun v _ => v = .bool true) R)) R3
          [s, .int .i64 i, .pointer (some ⟨p, 0, none⟩), .int .i64 at', .int .i64 k, .bool d] [N.el C 0] τ5 := by
      intro at' b1 b2 b3
      simp only [w_law08_AllocSteps_j7, w_law08_AllocSteps_j7b, xMove, xPickT, xPickF, xNil, xFld, xExt0, xExt1, xExt30, xExt31, xExt32, xAdd, xSub, xMul, xEql, xNeq, xLss, xLeq, xGtr, xGeq, xEqPN, xEqNN, xNePN, xNeNN, xEqBB, xNeBB, xNot, xConv, xLen, xMin, xMax, xIfc, xIfT, xIfF, xIfD, xJoinE, xOs, xCs, xFldV, List.getD_cons_zero, List.getD_cons_succ, Nat.zero_add, Nat.reduceAdd, Mem.get_set_same, Mem.set_set, if_true, if_false, Bool.not_true, Bool.not_false, decide_true, decide_false, decide_eq_true_eq, decide_not, Bool.not_eq_true, Bool.false_eq_true, reduceIte, Int.reduceLT, Int.reduceLE, Int.reduceEq, Int.reduceNeg, Int.reduceAdd, Int.reduceSub, locP_e, gBox_a, gBox_i, gBox_b, gBox_p, gLoad_s, gAlloc_s, gStore_a, gStore_i, gStore_b, gStore_p, sub_z, sub_s, lay_z, lay_s, List.length_cons, List.length_nil, Nat.reduceLeDiff, Nat.le_refl, List.drop_zero, List.drop_succ_cons, List.take_succ_cons, List.take_zero, List.drop_nil, List.cons_append, List.nil_append, List.all_cons, List.all_nil, oneB_i, oneB_b, oneB_p, oneB_sl, Bool.and_true, Nat.reduceLT, Nat.lt_irrefl, Nat.zero_lt_one, gBoxE, gBoxC, subE, subEC, subE0, subE1, subE2, subE3, subE4, subE6, subE7, subE8, subC, subC0, subC1, subC2, subC3, subC4, subC5, subC6]
      rcases hst with ⟨hd, hM'⟩ | ⟨hd, hD, hP'⟩
      · subst hd
        simp only [xMove, xPickT, xPickF, xNil, xFld, xExt0, xExt1, xExt30, xExt31, xExt32, xAdd, xSub, xMul, xEql, xNeq, xLss, xLeq, xGtr, xGeq, xEqPN, xEqNN, xNePN, xNeNN, xEqBB, xNeBB, xNot, xConv, xLen, xMin, xMax, xIfc, xIfT, xIfF, xIfD, xJoinE, xOs, xCs, xFldV, List.getD_cons_zero, List.getD_cons_succ, Nat.zero_add, Nat.reduceAdd, Mem.get_set_same, Mem.set_set, if_true, if_false, Bool.not_true, Bool.not_false, decide_true, decide_false, decide_eq_true_eq, decide_not, Bool.not_eq_true, Bool.false_eq_true, reduceIte, Int.reduceLT, Int.reduceLE, Int.reduceEq, Int.reduceNeg, Int.reduceAdd, Int.reduceSub, locP_e, gBox_a, gBox_i, gBox_b, gBox_p, gLoad_s, gAlloc_s, gStore_a, gStore_i, gStore_b, gStore_p, sub_z, sub_s, lay_z, lay_s, List.length_cons, List.length_nil, Nat.reduceLeDiff, Nat.le_refl, List.drop_zero, List.drop_succ_cons, List.take_succ_cons, List.take_zero, List.drop_nil, List.cons_append, List.nil_append, List.all_cons, List.all_nil, oneB_i, oneB_b, oneB_p, oneB_sl, Bool.and_true, Nat.reduceLT, Nat.lt_irrefl, Nat.zero_lt_one, gBoxE, gBoxC, subE, subEC, subE0, subE1, subE2, subE3, subE4, subE6, subE7, subE8, subC, subC0, subC1, subC2, subC3, subC4, subC5, subC6]
        rw [IntWalk.i64_in (k + 1) (by omega)]
        exact hR3 (80 - (k + 1)).toNat _ _ _ (by omega) ⟨k + 1, at', m', A4, O', rfl, rfl, rfl, by omega, hA5, hO5, hOn', ext4.trans x5, .inr ⟨hc, b1, b2 rfl, hM'⟩⟩
      · subst hd
        simp only [xMove, xPickT, xPickF, xNil, xFld, xExt0, xExt1, xExt30, xExt31, xExt32, xAdd, xSub, xMul, xEql, xNeq, xLss, xLeq, xGtr, xGeq, xEqPN, xEqNN, xNePN, xNeNN, xEqBB, xNeBB, xNot, xConv, xLen, xMin, xMax, xIfc, xIfT, xIfF, xIfD, xJoinE, xOs, xCs, xFldV, List.getD_cons_zero, List.getD_cons_succ, Nat.zero_add, Nat.reduceAdd, Mem.get_set_same, Mem.set_set, if_true, if_false, Bool.not_true, Bool.not_false, decide_true, decide_false, decide_eq_true_eq, decide_not, Bool.not_eq_true, Bool.false_eq_true, reduceIte, Int.reduceLT, Int.reduceLE, Int.reduceEq, Int.reduceNeg, Int.reduceAdd, Int.reduceSub, locP_e, gBox_a, gBox_i, gBox_b, gBox_p, gLoad_s, gAlloc_s, gStore_a, gStore_i, gStore_b, gStore_p, sub_z, sub_s, lay_z, lay_s, List.length_cons, List.length_nil, Nat.reduceLeDiff, Nat.le_refl, List.drop_zero, List.drop_succ_cons, List.take_succ_cons, List.take_zero, List.drop_nil, List.cons_append, List.nil_append, List.all_cons, List.all_nil, oneB_i, oneB_b, oneB_p, oneB_sl, Bool.and_true, Nat.reduceLT, Nat.lt_irrefl, Nat.zero_lt_one, gBoxE, gBoxC, subE, subEC, subE0, subE1, subE2, subE3, subE4, subE6, subE7, subE8, subC, subC0, subC1, subC2, subC3, subC4, subC5, subC6]
        have hkl := hM.ph.kle hC
        have key : ∃ b' : Bg, b'.aw C A4.w ∧ b'.lvM C (17 * i + 17) := by
          rcases hD.r with ⟨_, _, _, h⟩ | ⟨s, F, _, ⟨_, _, _, _, h⟩ | ⟨_, _, j, b', hg, _, _, _, h, _⟩⟩
          · exact ⟨b, h, hlv.mono (by omega)⟩
          · exact ⟨b, h, hlv.mono (by omega)⟩
          · exact ⟨_, h, hlv.count hC hg hc (class_bd c).2⟩
        obtain ⟨b', hb', hl'⟩ := key
        exact f5 m' O' at' A4 b' τ5 hA5 hO5 (b3 rfl) b1 (hP'.mono (by omega)) hb' hl' (by omega) (ext4.trans x5)
    simp only [trip, c_NowA hA5, hgt, xMove, xPickT, xPickF, xNil, xFld, xExt0, xExt1, xExt30, xExt31, xExt32, xAdd, xSub, xMul, xEql, xNeq, xLss, xLeq, xGtr, xGeq, xEqPN, xEqNN, xNePN, xNeNN, xEqBB, xNeBB, xNot, xConv, xLen, xMin, xMax, xIfc, xIfT, xIfF, xIfD, xJoinE, xOs, xCs, xFldV, List.getD_cons_zero, List.getD_cons_succ, Nat.zero_add, Nat.reduceAdd, Mem.get_set_same, Mem.set_set, if_true, if_false, Bool.not_true, Bool.not_false, decide_true, decide_false, decide_eq_true_eq, decide_not, Bool.not_eq_true, Bool.false_eq_true, reduceIte, Int.reduceLT, Int.reduceLE, Int.reduceEq, Int.reduceNeg, Int.reduceAdd, Int.reduceSub, locP_e, gBox_a, gBox_i, gBox_b, gBox_p, gLoad_s, gAlloc_s, gStore_a, gStore_i, gStore_b, gStore_p, sub_z, sub_s, lay_z, lay_s, List.length_cons, List.length_nil, Nat.reduceLeDiff, Nat.le_refl, List.drop_zero, List.drop_succ_cons, List.take_succ_cons, List.take_zero, List.drop_nil, List.cons_append, List.nil_append, List.all_cons, List.all_nil, oneB_i, oneB_b, oneB_p, oneB_sl, Bool.and_true, Nat.reduceLT, Nat.lt_irrefl, Nat.zero_lt_one, gBoxE, gBoxC, subE, subEC, subE0, subE1, subE2, subE3, subE4, subE6, subE7, subE8, subC, subC0, subC1, subC2, subC3, subC4, subC5, subC6]
    by_cases h9 : (kindOf C a).1 = 9
    · obtain ⟨hpc, ha⟩ := ak (k9.1 h9)
      have hs2 := hsa hpc
      have na : w_law08_AllocSteps_j7 (fun v _ => v = .bool true) (w_law08_AllocSteps_j2 fun v _ => v = .bool true) R (w_law08_AllocSteps_j4 (fun v _ => v = .bool true) (w_law08_AllocSteps_j2 fun v _ => v = .bool true) R)
          (w_law08_AllocSteps_j5 (fun v _ => v = .bool true) (w_law08_AllocSteps_j2 fun v _ => v = .bool true) R (w_law08_AllocSteps_j4 (fun v _ => v = .bool true) (w_law08_AllocSteps_j2 fun v _ => v = .bool true) R)) R3
          [s, .int .i64 i, .pointer (some ⟨p, 0, none⟩), .int .i64 a, .int .i64 k, .bool d] [N.el C 0] τ5 := by
        refine nxt a (by omega) (fun _ => ?_) (fun _ _ => by rw [ha]; exact hs2.2.2)
        rcases hpc with h4 | h6
        · exact .inr ⟨.inl (q2 h4).1, by rw [(q2 h4).2.1]; exact ha⟩
        · rw [q4 h6]; exact .inr ⟨.inr h6, ha⟩
      simp only [h9, xMove, xPickT, xPickF, xNil, xFld, xExt0, xExt1, xExt30, xExt31, xExt32, xAdd, xSub, xMul, xEql, xNeq, xLss, xLeq, xGtr, xGeq, xEqPN, xEqNN, xNePN, xNeNN, xEqBB, xNeBB, xNot, xConv, xLen, xMin, xMax, xIfc, xIfT, xIfF, xIfD, xJoinE, xOs, xCs, xFldV, List.getD_cons_zero, List.getD_cons_succ, Nat.zero_add, Nat.reduceAdd, Mem.get_set_same, Mem.set_set, if_true, if_false, Bool.not_true, Bool.not_false, decide_true, decide_false, decide_eq_true_eq, decide_not, Bool.not_eq_true, Bool.false_eq_true, reduceIte, Int.reduceLT, Int.reduceLE, Int.reduceEq, Int.reduceNeg, Int.reduceAdd, Int.reduceSub, locP_e, gBox_a, gBox_i, gBox_b, gBox_p, gLoad_s, gAlloc_s, gStore_a, gStore_i, gStore_b, gStore_p, sub_z, sub_s, lay_z, lay_s, List.length_cons, List.length_nil, Nat.reduceLeDiff, Nat.le_refl, List.drop_zero, List.drop_succ_cons, List.take_succ_cons, List.take_zero, List.drop_nil, List.cons_append, List.nil_append, List.all_cons, List.all_nil, oneB_i, oneB_b, oneB_p, oneB_sl, Bool.and_true, Nat.reduceLT, Nat.lt_irrefl, Nat.zero_lt_one, gBoxE, gBoxC, subE, subEC, subE0, subE1, subE2, subE3, subE4, subE6, subE7, subE8, subC, subC0, subC1, subC2, subC3, subC4, subC5, subC6]
      rcases hpc with h4 | h6
      · have hat1 : at' = -1 := by
          rcases hAt with ⟨h, -⟩ | ⟨h, -⟩
          · exact h
          · rcases h with h | h <;> (rw [h4] at h; cases h)
        have hlc : A4.lc = true := by rw [(q2 h4).2.2]; exact decide_eq_true (by rw [hz h4]; exact (head1_pos _ _ _ _).symm)
        have hm1 : ¬ (0 : Int) ≤ -1 := by decide
        subst hat1
        simp only [hlc, hm1, w_law08_AllocSteps_j8, w_law08_AllocSteps_j8b, w_law08_AllocSteps_j9, w_law08_AllocSteps_j9b, xMove, xPickT, xPickF, xNil, xFld, xExt0, xExt1, xExt30, xExt31, xExt32, xAdd, xSub, xMul, xEql, xNeq, xLss, xLeq, xGtr, xGeq, xEqPN, xEqNN, xNePN, xNeNN, xEqBB, xNeBB, xNot, xConv, xLen, xMin, xMax, xIfc, xIfT, xIfF, xIfD, xJoinE, xOs, xCs, xFldV, List.getD_cons_zero, List.getD_cons_succ, Nat.zero_add, Nat.reduceAdd, Mem.get_set_same, Mem.set_set, if_true, if_false, Bool.not_true, Bool.not_false, decide_true, decide_false, decide_eq_true_eq, decide_not, Bool.not_eq_true, Bool.false_eq_true, reduceIte, Int.reduceLT, Int.reduceLE, Int.reduceEq, Int.reduceNeg, Int.reduceAdd, Int.reduceSub, locP_e, gBox_a, gBox_i, gBox_b, gBox_p, gLoad_s, gAlloc_s, gStore_a, gStore_i, gStore_b, gStore_p, sub_z, sub_s, lay_z, lay_s, List.length_cons, List.length_nil, Nat.reduceLeDiff, Nat.le_refl, List.drop_zero, List.drop_succ_cons, List.take_succ_cons, List.take_zero, List.drop_nil, List.cons_append, List.nil_append, List.all_cons, List.all_nil, oneB_i, oneB_b, oneB_p, oneB_sl, Bool.and_true, Nat.reduceLT, Nat.lt_irrefl, Nat.zero_lt_one, gBoxE, gBoxC, subE, subEC, subE0, subE1, subE2, subE3, subE4, subE6, subE7, subE8, subC, subC0, subC1, subC2, subC3, subC4, subC5, subC6]
        exact na
      · have hata : at' = a := by
          rcases hAt with ⟨-, -, h⟩ | ⟨-, h⟩
          · exact absurd h6 h
          · rw [h, ha]
        subst hata
        have h0 : 0 ≤ at' := ab.1
        cases hlc : A4.lc with
        | true =>
          simp only [hlc, h0, w_law08_AllocSteps_j8, w_law08_AllocSteps_j8b, w_law08_AllocSteps_j9, w_law08_AllocSteps_j9b, ne_eq, not_true_eq_false, xMove, xPickT, xPickF, xNil, xFld, xExt0, xExt1, xExt30, xExt31, xExt32, xAdd, xSub, xMul, xEql, xNeq, xLss, xLeq, xGtr, xGeq, xEqPN, xEqNN, xNePN, xNeNN, xEqBB, xNeBB, xNot, xConv, xLen, xMin, xMax, xIfc, xIfT, xIfF, xIfD, xJoinE, xOs, xCs, xFldV, List.getD_cons_zero, List.getD_cons_succ, Nat.zero_add, Nat.reduceAdd, Mem.get_set_same, Mem.set_set, if_true, if_false, Bool.not_true, Bool.not_false, decide_true, decide_false, decide_eq_true_eq, decide_not, Bool.not_eq_true, Bool.false_eq_true, reduceIte, Int.reduceLT, Int.reduceLE, Int.reduceEq, Int.reduceNeg, Int.reduceAdd, Int.reduceSub, locP_e, gBox_a, gBox_i, gBox_b, gBox_p, gLoad_s, gAlloc_s, gStore_a, gStore_i, gStore_b, gStore_p, sub_z, sub_s, lay_z, lay_s, List.length_cons, List.length_nil, Nat.reduceLeDiff, Nat.le_refl, List.drop_zero, List.drop_succ_cons, List.take_succ_cons, List.take_zero, List.drop_nil, List.cons_append, List.nil_append, List.all_cons, List.all_nil, oneB_i, oneB_b, oneB_p, oneB_sl, Bool.and_true, Nat.reduceLT, Nat.lt_irrefl, Nat.zero_lt_one, gBoxE, gBoxC, subE, subEC, subE0, subE1, subE2, subE3, subE4, subE6, subE7, subE8, subC, subC0, subC1, subC2, subC3, subC4, subC5, subC6]
          exact na
        | false =>
          simp only [hlc, w_law08_AllocSteps_j8, w_law08_AllocSteps_j8b, xMove, xPickT, xPickF, xNil, xFld, xExt0, xExt1, xExt30, xExt31, xExt32, xAdd, xSub, xMul, xEql, xNeq, xLss, xLeq, xGtr, xGeq, xEqPN, xEqNN, xNePN, xNeNN, xEqBB, xNeBB, xNot, xConv, xLen, xMin, xMax, xIfc, xIfT, xIfF, xIfD, xJoinE, xOs, xCs, xFldV, List.getD_cons_zero, List.getD_cons_succ, Nat.zero_add, Nat.reduceAdd, Mem.get_set_same, Mem.set_set, if_true, if_false, Bool.not_true, Bool.not_false, decide_true, decide_false, decide_eq_true_eq, decide_not, Bool.not_eq_true, Bool.false_eq_true, reduceIte, Int.reduceLT, Int.reduceLE, Int.reduceEq, Int.reduceNeg, Int.reduceAdd, Int.reduceSub, locP_e, gBox_a, gBox_i, gBox_b, gBox_p, gLoad_s, gAlloc_s, gStore_a, gStore_i, gStore_b, gStore_p, sub_z, sub_s, lay_z, lay_s, List.length_cons, List.length_nil, Nat.reduceLeDiff, Nat.le_refl, List.drop_zero, List.drop_succ_cons, List.take_succ_cons, List.take_zero, List.drop_nil, List.cons_append, List.nil_append, List.all_cons, List.all_nil, oneB_i, oneB_b, oneB_p, oneB_sl, Bool.and_true, Nat.reduceLT, Nat.lt_irrefl, Nat.zero_lt_one, gBoxE, gBoxC, subE, subEC, subE0, subE1, subE2, subE3, subE4, subE6, subE7, subE8, subC, subC0, subC1, subC2, subC3, subC4, subC5, subC6]
          exact na
    · have hpc : m.a.pc ≠ 4 ∧ m.a.pc ≠ 6 := by
        have hh : m.a.pc = 4 ∨ m.a.pc = 6 → a = m.a.sa := by
          intro q
          clear hspot hst
          rcases t.kind with ⟨h1, -⟩ | ⟨h1, -⟩ | ⟨h1, -⟩ | ⟨h1, -⟩ | ⟨-, h⟩ | ⟨h1, -⟩
          · omega
          · omega
          · omega
          · omega
          · exact h
          · omega
        constructor
        · intro q; exact h9 (k9.2 (by rw [hh (.inl q)]; exact (hsa (.inl q)).1))
        · intro q; exact h9 (k9.2 (by rw [hh (.inr q)]; exact (hsa (.inr q)).1))
      simp only [h9, w_law08_AllocSteps_j8, w_law08_AllocSteps_j8b, xMove, xPickT, xPickF, xNil, xFld, xExt0, xExt1, xExt30, xExt31, xExt32, xAdd, xSub, xMul, xEql, xNeq, xLss, xLeq, xGtr, xGeq, xEqPN, xEqNN, xNePN, xNeNN, xEqBB, xNeBB, xNot, xConv, xLen, xMin, xMax, xIfc, xIfT, xIfF, xIfD, xJoinE, xOs, xCs, xFldV, List.getD_cons_zero, List.getD_cons_succ, Nat.zero_add, Nat.reduceAdd, Mem.get_set_same, Mem.set_set, if_true, if_false, Bool.not_true, Bool.not_false, decide_true, decide_false, decide_eq_true_eq, decide_not, Bool.not_eq_true, Bool.false_eq_true, reduceIte, Int.reduceLT, Int.reduceLE, Int.reduceEq, Int.reduceNeg, Int.reduceAdd, Int.reduceSub, locP_e, gBox_a, gBox_i, gBox_b, gBox_p, gLoad_s, gAlloc_s, gStore_a, gStore_i, gStore_b, gStore_p, sub_z, sub_s, lay_z, lay_s, List.length_cons, List.length_nil, Nat.reduceLeDiff, Nat.le_refl, List.drop_zero, List.drop_succ_cons, List.take_succ_cons, List.take_zero, List.drop_nil, List.cons_append, List.nil_append, List.all_cons, List.all_nil, oneB_i, oneB_b, oneB_p, oneB_sl, Bool.and_true, Nat.reduceLT, Nat.lt_irrefl, Nat.zero_lt_one, gBoxE, gBoxC, subE, subEC, subE0, subE1, subE2, subE3, subE4, subE6, subE7, subE8, subC, subC0, subC1, subC2, subC3, subC4, subC5, subC6]
      refine nxt at' hat (fun _ => ?_) (fun d e => absurd (hlast d e) hpc.2)
      rcases hAt with ⟨e1, e2, e3⟩ | ⟨e1, e2⟩
      · refine .inl ⟨e1, fun q => e3 (q1 hpc.1 e2 (.inr q)), fun q => e3 (q1 hpc.1 e2 (.inl q))⟩
      · have h5 : m.a.pc = 5 := by
          rcases e1 with h | h
          · exact h
          · exact absurd h hpc.2
        exact .inr ⟨.inr (q3 h5).1, by rw [(q3 h5).2]; exact e2⟩
end Go.Fl
