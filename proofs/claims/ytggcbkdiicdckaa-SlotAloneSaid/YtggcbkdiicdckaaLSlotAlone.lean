/- Slots that are taken and given back by one alone come last in, first out: the reading of the law answers true. No condition. -/
import Derived.Test.YtggcbkdiicdckaaFlY
namespace Go.Fl
open Go
set_option linter.unusedVariables false
set_option linter.unusedSimpArgs false
variable {N : Nm} {A B : Ar} {σ : Mem} {K : Value → Mem → Prop} {C : Cf} {who : Int}

def mI (l : List Int) : List Value := l.map fun n => Value.int .i64 n
theorem mI_len (l : List Int) : (mI l).length = l.length := by simp [mI]
theorem mI_get {l : List Int} {i : Nat} {x : Int} (h : l[i]? = some x) : (mI l)[i]? = some (.int .i64 x) := by simp [mI, h]
theorem mI_all (l : List Int) : (mI l).all oneB = true := by simp [mI, oneB]
theorem mI_app (l m : List Int) : mI (l ++ m) = mI l ++ mI m := by simp [mI]

structure SaI (N : Nm) (C : Cf) (σ0 : Mem) (s : Value) (len : Nat) (i : Int) (ts : List Value) (τ : Mem) (b0 : Int) (F T : List Int) (bf bt ot : Nat) (post pre : List Value) (A : Ar) : Prop where
  ts : ts = [s, .slice (some ⟨bf, 0, none⟩) F.length 1, .slice (some ⟨bt, ot, none⟩) T.length 1, .int .i64 i]
  i0 : 0 ≤ i
  i1 : i ≤ 60
  isA : isA N A τ
  ok : A.ok (b0 + 3 * i)
  n : A.n = C.len.toNat
  fre : Fre C A.w F.reverse
  gf : τ.get bf = some ⟨mI F ++ post, true⟩
  gt : τ.get bt = some ⟨pre ++ mI T, true⟩
  ot : pre.length = ot
  ne : bf ≠ bt
  df : bf ∉ N.l
  dt : bt ∉ N.l
  nf : σ0.get bf = none
  nt : σ0.get bt = none
  ext : Ext σ0 τ
  nd : T.Nodup
  mem : ∀ t ∈ T, 0 ≤ t ∧ t < C.S ∧ t ∉ F
  num : F.length + T.length ≤ 16

theorem law_SlotAlone (σ : Mem) (a0 : Int) (w0 : (Lit.int .i64 a0).wf = true) (s : Value) (len : Nat) (cs : List Value) (sl : Sl σ 1 len cs s) (hm : len ≤ maxLen) (hf : FlatL (List.replicate len [none]).flatten cs) :
    s_law06_SlotAlone [.int .i64 a0, s] (fun v _ => v = .bool true) σ := by
  obtain ⟨g, hg⟩ := sl.argB hf
  simp only [s_law06_SlotAlone, w_law06_SlotAlone, andI15, xMove, xPickT, xPickF, xNil, xFld, xExt0, xExt1, xExt30, xExt31, xExt32, xAdd, xSub, xMul, xEql, xNeq, xLss, xLeq, xGtr, xGeq, xEqPN, xEqNN, xNePN, xNeNN, xEqBB, xNeBB, xNot, xConv, xLen, xMin, xMax, xIfc, xIfT, xIfF, xIfD, xJoinE, xOs, xCs, xFldV, List.getD_cons_zero, List.getD_cons_succ, Nat.zero_add, Nat.reduceAdd, Mem.get_set_same, Mem.set_set, if_true, if_false, Bool.not_true, Bool.not_false, decide_true, decide_false, decide_eq_true_eq, decide_not, Bool.not_eq_true, Bool.false_eq_true, reduceIte, Int.reduceLT, Int.reduceLE, Int.reduceEq, Int.reduceNeg, Int.reduceAdd, Int.reduceSub, locP_e, gBox_a, gBox_i, gBox_b, gBox_p, gLoad_s, gAlloc_s, gStore_a, gStore_i, gStore_b, gStore_p, sub_z, sub_s, lay_z, lay_s, List.length_cons, List.length_nil, Nat.reduceLeDiff, Nat.le_refl, List.drop_zero, List.drop_succ_cons, List.take_succ_cons, List.take_zero, List.drop_nil, List.cons_append, List.nil_append, List.all_cons, List.all_nil, oneB_i, oneB_b, oneB_p, oneB_sl, Bool.and_true, Nat.reduceLT, Nat.lt_irrefl, Nat.zero_lt_one, gBoxE, gBoxC, subE, subEC, subE0, subE1, subE2, subE3, subE4, subE6, subE7, subE8, subC, subC0, subC1, subC2, subC3, subC4, subC5, subC6]
  have hn : 1 ≤ 1 + a0 % 16 ∧ 1 + a0 % 16 ≤ 16 := by omega
  generalize 1 + a0 % 16 = n at hn
  rw [IntWalk.i64_in n (by omega)]
  have hC : (cA 1 n 1 20).ok := cA_ok (by omega) (by omega) (by omega) (by omega)
  have hS : (cA 1 n 1 20).S = n := rfl
  have hl := len_bd hC
  refine c_Arena (C := cA 1 n 1 20) hC rfl rfl rfl fun N A τ hN hF hA hE hfr => ?_
  simp only [c_awake6, gStoreE, w_law06_SlotAlone_j1, w_law06_SlotAlone_j1b, xMove, xPickT, xPickF, xNil, xFld, xExt0, xExt1, xExt30, xExt31, xExt32, xAdd, xSub, xMul, xEql, xNeq, xLss, xLeq, xGtr, xGeq, xEqPN, xEqNN, xNePN, xNeNN, xEqBB, xNeBB, xNot, xConv, xLen, xMin, xMax, xIfc, xIfT, xIfF, xIfD, xJoinE, xOs, xCs, xFldV, List.getD_cons_zero, List.getD_cons_succ, Nat.zero_add, Nat.reduceAdd, Mem.get_set_same, Mem.set_set, if_true, if_false, Bool.not_true, Bool.not_false, decide_true, decide_false, decide_eq_true_eq, decide_not, Bool.not_eq_true, Bool.false_eq_true, reduceIte, Int.reduceLT, Int.reduceLE, Int.reduceEq, Int.reduceNeg, Int.reduceAdd, Int.reduceSub, locP_e, gBox_a, gBox_i, gBox_b, gBox_p, gLoad_s, gAlloc_s, gStore_a, gStore_i, gStore_b, gStore_p, sub_z, sub_s, lay_z, lay_s, List.length_cons, List.length_nil, Nat.reduceLeDiff, Nat.le_refl, List.drop_zero, List.drop_succ_cons, List.take_succ_cons, List.take_zero, List.drop_nil, List.cons_append, List.nil_append, List.all_cons, List.all_nil, oneB_i, oneB_b, oneB_p, oneB_sl, Bool.and_true, Nat.reduceLT, Nat.lt_irrefl, Nat.zero_lt_one, gBoxE, gBoxC, subE, subEC, subE0, subE1, subE2, subE3, subE4, subE6, subE7, subE8, subC, subC0, subC1, subC2, subC3, subC4, subC5, subC6]
  refine hBuildS_i [] rfl fun bf τ1 nf gf x1 => ?_
  refine hBuildS_i [] rfl fun bt τ2 nt gt x2 => ?_
  have hA1 := (hA.ext x1).ext x2
  have df := hA.new nf
  have dt := (hA.ext x1).new nt
  have ne : bf ≠ bt := by rintro rfl; rw [gf] at nt; cases nt
  replace gf := x2 _ _ gf
  have e1 := (hE.trans x1).trans x2
  have nf0 := hE.none nf
  have nt0 := (hE.trans x1).none nt
  have okA : A.ok 1000 := ⟨hF.ok.w, by have := hF.ok.s; omega, hF.ok.t⟩
  have frA : Fre (cA 1 n 1 20) A.w (upL 0 n.toNat) := by have := fre0 hC; rw [hS] at this; rw [hF.w]; exact this
  rw [IntWalk.i64_in (n - 1) (by omega)]
  refine xLoop_r (fun k ts ls τ => ∃ i bf, k = (i + 1).toNat ∧ -1 ≤ i ∧ i ≤ n - 1 ∧ ts = [s, .slice (some ⟨bf, 0, none⟩) (n - 1 - i).toNat 1, .slice (some ⟨bt, 0, none⟩) 0 1, .int .i64 i] ∧ ls = [N.el (cA 1 n 1 20) 0] ∧
    isA N A τ ∧ τ.get bf = some ⟨mI (upL (i + 1) (n - 1 - i).toNat).reverse, true⟩ ∧ τ.get bt = some ⟨[], true⟩ ∧ bf ≠ bt ∧ bf ∉ N.l ∧ σ.get bf = none ∧ Ext σ τ) ?_ (n := (n - 1 + 1).toNat)
    ⟨n - 1, bf, rfl, by omega, by omega, by rw [show n - 1 - (n - 1) = 0 by omega]; rfl, rfl, hA1, by rw [show n - 1 - (n - 1) = 0 by omega]; exact gf, gt, ne, df, nf0, e1⟩
  rintro k ts ls τ3 ⟨i, bf, rfl, i0, i1, rfl, rfl, hA3, gf, gt, ne, df, nf, e3⟩ R hR
  simp only [w_law06_SlotAlone_l8, w_law06_SlotAlone_l8b, xMove, xPickT, xPickF, xNil, xFld, xExt0, xExt1, xExt30, xExt31, xExt32, xAdd, xSub, xMul, xEql, xNeq, xLss, xLeq, xGtr, xGeq, xEqPN, xEqNN, xNePN, xNeNN, xEqBB, xNeBB, xNot, xConv, xLen, xMin, xMax, xIfc, xIfT, xIfF, xIfD, xJoinE, xOs, xCs, xFldV, List.getD_cons_zero, List.getD_cons_succ, Nat.zero_add, Nat.reduceAdd, Mem.get_set_same, Mem.set_set, if_true, if_false, Bool.not_true, Bool.not_false, decide_true, decide_false, decide_eq_true_eq, decide_not, Bool.not_eq_true, Bool.false_eq_true, reduceIte, Int.reduceLT, Int.reduceLE, Int.reduceEq, Int.reduceNeg, Int.reduceAdd, Int.reduceSub, locP_e, gBox_a, gBox_i, gBox_b, gBox_p, gLoad_s, gAlloc_s, gStore_a, gStore_i, gStore_b, gStore_p, sub_z, sub_s, lay_z, lay_s, List.length_cons, List.length_nil, Nat.reduceLeDiff, Nat.le_refl, List.drop_zero, List.drop_succ_cons, List.take_succ_cons, List.take_zero, List.drop_nil, List.cons_append, List.nil_append, List.all_cons, List.all_nil, oneB_i, oneB_b, oneB_p, oneB_sl, Bool.and_true, Nat.reduceLT, Nat.lt_irrefl, Nat.zero_lt_one, gBoxE, gBoxC, subE, subEC, subE0, subE1, subE2, subE3, subE4, subE6, subE7, subE8, subC, subC0, subC1, subC2, subC3, subC4, subC5, subC6]
  by_cases hi : 0 ≤ i
  · rw [if_pos hi, gBuild1 rfl rfl]
    simp only [xCs]
    refine hAppendL_i (pre := []) (L := mI (upL (i + 1) (n - 1 - i).toNat).reverse) gf rfl (by simp [mI, upL_len]) (by decide) rfl (by omega) fun id τ4 hid g4 k4 => ?_
    rw [IntWalk.i64_in (i - 1) (by omega)]
    have hidd := hA3.new hid
    have hne : id ≠ bt := by rintro rfl; rw [gt] at hid; cases hid
    have e : (n - 1 - i).toNat + 1 = (n - 1 - (i - 1)).toNat := by omega
    refine hR (i - 1 + 1).toNat _ _ _ ?_ ⟨i - 1, id, rfl, by omega, by omega, by rw [e], rfl, hA3.keep k4 ?_, ?_, k4.get gt (by simpa using ne.symm), hne, hidd, e3.none hid, e3.keep' k4 (by simpa using nf)⟩
    · omega
    · have := notin df; simp; exact ⟨this.1.symm, this.2.1.symm, this.2.2.symm⟩
    · rw [g4, ← e]
      show _ = some (Blk.mk (mI (upL (i - 1 + 1) ((n - 1 - i).toNat + 1)).reverse) true)
      simp only [upL, show i - 1 + 1 = i by omega, List.reverse_cons, mI_app]; rfl
  · rw [if_neg hi]
    have hi1 : i = -1 := by omega
    subst hi1
    simp only [w_law06_SlotAlone_j2, w_law06_SlotAlone_j2b, xMove, xPickT, xPickF, xNil, xFld, xExt0, xExt1, xExt30, xExt31, xExt32, xAdd, xSub, xMul, xEql, xNeq, xLss, xLeq, xGtr, xGeq, xEqPN, xEqNN, xNePN, xNeNN, xEqBB, xNeBB, xNot, xConv, xLen, xMin, xMax, xIfc, xIfT, xIfF, xIfD, xJoinE, xOs, xCs, xFldV, List.getD_cons_zero, List.getD_cons_succ, Nat.zero_add, Nat.reduceAdd, Mem.get_set_same, Mem.set_set, if_true, if_false, Bool.not_true, Bool.not_false, decide_true, decide_false, decide_eq_true_eq, decide_not, Bool.not_eq_true, Bool.false_eq_true, reduceIte, Int.reduceLT, Int.reduceLE, Int.reduceEq, Int.reduceNeg, Int.reduceAdd, Int.reduceSub, locP_e, gBox_a, gBox_i, gBox_b, gBox_p, gLoad_s, gAlloc_s, gStore_a, gStore_i, gStore_b, gStore_p, sub_z, sub_s, lay_z, lay_s, List.length_cons, List.length_nil, Nat.reduceLeDiff, Nat.le_refl, List.drop_zero, List.drop_succ_cons, List.take_succ_cons, List.take_zero, List.drop_nil, List.cons_append, List.nil_append, List.all_cons, List.all_nil, oneB_i, oneB_b, oneB_p, oneB_sl, Bool.and_true, Nat.reduceLT, Nat.lt_irrefl, Nat.zero_lt_one, gBoxE, gBoxC, subE, subEC, subE0, subE1, subE2, subE3, subE4, subE6, subE7, subE8, subC, subC0, subC1, subC2, subC3, subC4, subC5, subC6]
    have hL : (upL (-1 + 1) (n - 1 - -1).toNat).reverse.length = (n - 1 - -1).toNat := by simp [upL_len]
    refine xLoop_r (fun k ts ls τ => ∃ i F T bf bt ot post pre A, k = (60 - i).toNat ∧ ls = [N.el (cA 1 n 1 20) 0] ∧ SaI N (cA 1 n 1 20) σ s len i ts τ 1000 F T bf bt ot post pre A) ?_ (n := (60 - 0 : Int).toNat)
      ⟨0, (upL (-1 + 1) (n - 1 - -1).toNat).reverse, [], bf, bt, 0, [], [], A, rfl, rfl, ⟨by rw [hL]; rfl, by omega, by omega, hA3, okA, hF.n, ?_, by rw [gf, List.append_nil], gt, rfl, ne, df, dt, nf, nt0, e3, List.nodup_nil, fun t h => (by cases h), by rw [hL]; simp; omega⟩⟩
    · rintro k ts ls τ4 ⟨i, F, T, bf, bt, ot, post, pre, A, rfl, rfl, hI⟩ R hR
      obtain ⟨rfl, i0, i1, hA4, ok, hn4, fre, gf, gt, rfl, ne, df, dt, nf, nt, ext, nd, mem, num⟩ := hI
      have hg4 := hg.keep ext
      simp only [w_law06_SlotAlone_l12, w_law06_SlotAlone_l12b, hg4.len, xMove, xPickT, xPickF, xNil, xFld, xExt0, xExt1, xExt30, xExt31, xExt32, xAdd, xSub, xMul, xEql, xNeq, xLss, xLeq, xGtr, xGeq, xEqPN, xEqNN, xNePN, xNeNN, xEqBB, xNeBB, xNot, xConv, xLen, xMin, xMax, xIfc, xIfT, xIfF, xIfD, xJoinE, xOs, xCs, xFldV, List.getD_cons_zero, List.getD_cons_succ, Nat.zero_add, Nat.reduceAdd, Mem.get_set_same, Mem.set_set, if_true, if_false, Bool.not_true, Bool.not_false, decide_true, decide_false, decide_eq_true_eq, decide_not, Bool.not_eq_true, Bool.false_eq_true, reduceIte, Int.reduceLT, Int.reduceLE, Int.reduceEq, Int.reduceNeg, Int.reduceAdd, Int.reduceSub, locP_e, gBox_a, gBox_i, gBox_b, gBox_p, gLoad_s, gAlloc_s, gStore_a, gStore_i, gStore_b, gStore_p, sub_z, sub_s, lay_z, lay_s, List.length_cons, List.length_nil, Nat.reduceLeDiff, Nat.le_refl, List.drop_zero, List.drop_succ_cons, List.take_succ_cons, List.take_zero, List.drop_nil, List.cons_append, List.nil_append, List.all_cons, List.all_nil, oneB_i, oneB_b, oneB_p, oneB_sl, Bool.and_true, Nat.reduceLT, Nat.lt_irrefl, Nat.zero_lt_one, gBoxE, gBoxC, subE, subEC, subE0, subE1, subE2, subE3, subE4, subE6, subE7, subE8, subC, subC0, subC1, subC2, subC3, subC4, subC5, subC6]
      have fin : w_law06_SlotAlone_j3 (fun v x => v = Value.bool true) [] [] τ4 := by simp only [w_law06_SlotAlone_j3, w_law06_SlotAlone_j3b, xMove, xPickT, xPickF, xNil, xFld, xExt0, xExt1, xExt30, xExt31, xExt32, xAdd, xSub, xMul, xEql, xNeq, xLss, xLeq, xGtr, xGeq, xEqPN, xEqNN, xNePN, xNeNN, xEqBB, xNeBB, xNot, xConv, xLen, xMin, xMax, xIfc, xIfT, xIfF, xIfD, xJoinE, xOs, xCs, xFldV, List.getD_cons_zero, List.getD_cons_succ, Nat.zero_add, Nat.reduceAdd, Mem.get_set_same, Mem.set_set, if_true, if_false, Bool.not_true, Bool.not_false, decide_true, decide_false, decide_eq_true_eq, decide_not, Bool.not_eq_true, Bool.false_eq_true, reduceIte, Int.reduceLT, Int.reduceLE, Int.reduceEq, Int.reduceNeg, Int.reduceAdd, Int.reduceSub, locP_e, gBox_a, gBox_i, gBox_b, gBox_p, gLoad_s, gAlloc_s, gStore_a, gStore_i, gStore_b, gStore_p, sub_z, sub_s, lay_z, lay_s, List.length_cons, List.length_nil, Nat.reduceLeDiff, Nat.le_refl, List.drop_zero, List.drop_succ_cons, List.take_succ_cons, List.take_zero, List.drop_nil, List.cons_append, List.nil_append, List.all_cons, List.all_nil, oneB_i, oneB_b, oneB_p, oneB_sl, Bool.and_true, Nat.reduceLT, Nat.lt_irrefl, Nat.zero_lt_one, gBoxE, gBoxC, subE, subEC, subE0, subE1, subE2, subE3, subE4, subE6, subE7, subE8, subC, subC0, subC1, subC2, subC3, subC4, subC5, subC6]
      by_cases c1 : i < len
      · by_cases c2 : i < 60
        · simp only [c1, c2, w_law06_SlotAlone_j4, w_law06_SlotAlone_j4b, xMove, xPickT, xPickF, xNil, xFld, xExt0, xExt1, xExt30, xExt31, xExt32, xAdd, xSub, xMul, xEql, xNeq, xLss, xLeq, xGtr, xGeq, xEqPN, xEqNN, xNePN, xNeNN, xEqBB, xNeBB, xNot, xConv, xLen, xMin, xMax, xIfc, xIfT, xIfF, xIfD, xJoinE, xOs, xCs, xFldV, List.getD_cons_zero, List.getD_cons_succ, Nat.zero_add, Nat.reduceAdd, Mem.get_set_same, Mem.set_set, if_true, if_false, Bool.not_true, Bool.not_false, decide_true, decide_false, decide_eq_true_eq, decide_not, Bool.not_eq_true, Bool.false_eq_true, reduceIte, Int.reduceLT, Int.reduceLE, Int.reduceEq, Int.reduceNeg, Int.reduceAdd, Int.reduceSub, locP_e, gBox_a, gBox_i, gBox_b, gBox_p, gLoad_s, gAlloc_s, gStore_a, gStore_i, gStore_b, gStore_p, sub_z, sub_s, lay_z, lay_s, List.length_cons, List.length_nil, Nat.reduceLeDiff, Nat.le_refl, List.drop_zero, List.drop_succ_cons, List.take_succ_cons, List.take_zero, List.drop_nil, List.cons_append, List.nil_append, List.all_cons, List.all_nil, oneB_i, oneB_b, oneB_p, oneB_sl, Bool.and_true, Nat.reduceLT, Nat.lt_irrefl, Nat.zero_lt_one, gBoxE, gBoxC, subE, subEC, subE0, subE1, subE2, subE3, subE4, subE6, subE7, subE8, subC, subC0, subC1, subC2, subC3, subC4, subC5, subC6]
          rw [hg4.ix i0 c1, xIfB]
          have z : IntKind.i64.wrap (i + 1) = i + 1 := IntWalk.i64_in _ (by omega)
          split
          · rcases (List.eq_nil_or_concat F).imp id (fun ⟨G, x, h⟩ => (⟨G, x, h.trans List.concat_eq_append⟩ : ∃ G x, F = G ++ [x])) with rfl | ⟨G, x, rfl⟩
            · have ht : topS (A.w 1) = -1 := fre.c
              refine c_take hN hC hA4 ok (by omega) (by omega) (by omega) (fun _ A' τ' aft hA' hk => ?_) (fun h => by omega)
              simp only [List.length_nil, Int.natCast_zero, Int.lt_irrefl, w_law06_SlotAlone_j5, w_law06_SlotAlone_j5b, w_law06_SlotAlone_j6, w_law06_SlotAlone_j6b, beq_self_eq_true, ne_eq, not_true_eq_false, xMove, xPickT, xPickF, xNil, xFld, xExt0, xExt1, xExt30, xExt31, xExt32, xAdd, xSub, xMul, xEql, xNeq, xLss, xLeq, xGtr, xGeq, xEqPN, xEqNN, xNePN, xNeNN, xEqBB, xNeBB, xNot, xConv, xLen, xMin, xMax, xIfc, xIfT, xIfF, xIfD, xJoinE, xOs, xCs, xFldV, List.getD_cons_zero, List.getD_cons_succ, Nat.zero_add, Nat.reduceAdd, Mem.get_set_same, Mem.set_set, if_true, if_false, Bool.not_true, Bool.not_false, decide_true, decide_false, decide_eq_true_eq, decide_not, Bool.not_eq_true, Bool.false_eq_true, reduceIte, Int.reduceLT, Int.reduceLE, Int.reduceEq, Int.reduceNeg, Int.reduceAdd, Int.reduceSub, locP_e, gBox_a, gBox_i, gBox_b, gBox_p, gLoad_s, gAlloc_s, gStore_a, gStore_i, gStore_b, gStore_p, sub_z, sub_s, lay_z, lay_s, List.length_cons, List.length_nil, Nat.reduceLeDiff, Nat.le_refl, List.drop_zero, List.drop_succ_cons, List.take_succ_cons, List.take_zero, List.drop_nil, List.cons_append, List.nil_append, List.all_cons, List.all_nil, oneB_i, oneB_b, oneB_p, oneB_sl, Bool.and_true, Nat.reduceLT, Nat.lt_irrefl, Nat.zero_lt_one, gBoxE, gBoxC, subE, subEC, subE0, subE1, subE2, subE3, subE4, subE6, subE7, subE8, subC, subC0, subC1, subC2, subC3, subC4, subC5, subC6]
              rw [z]
              refine hR (60 - (i + 1)).toNat _ _ _ (by omega) ⟨i + 1, [], T, bf, bt, _, post, pre, A', rfl, rfl, ⟨rfl, by omega, by omega, hA', ?_, by rw [aft.n, hn4], by rw [aft.w]; exact fre, hk.get gf df, hk.get gt dt, rfl, ne, df, dt, nf, nt, ext.keep' hk hfr.all, nd, mem, num⟩⟩
              have o := aft.ok (by decide) ok ok.w
              exact ⟨o.w, ⟨o.s.1, by have := o.s.2; omega⟩, o.t⟩
            · rw [List.reverse_append] at fre
              have hlen : (0 : Int) < ((G ++ [x]).length : Int) := by rw [List.length_append]; simp
              have hlen2 : ((G ++ [x]).length : Int) - 1 = (G.length : Int) := by simp
              have hsz : (G ++ [x]).length = G.length + 1 := by simp
              obtain ⟨fre', hx⟩ := fre.took hC
              have hxm := fre.c.2
              refine c_take hN hC hA4 ok (by omega) (by omega) (by omega) (fun h => by omega) (fun _ A' τ' aft hA' hk => ?_)
              have gx : (mI (G ++ [x]))[((G.length : Int)).toNat]? = some (.int .i64 x) := mI_get (by simp)
              have gf' := hk.get gf df
              simp only [hlen, w_law06_SlotAlone_j5, w_law06_SlotAlone_j5b, w_law06_SlotAlone_j6, w_law06_SlotAlone_j6b, beq_self_eq_true, ne_eq, not_true_eq_false, xMove, xPickT, xPickF, xNil, xFld, xExt0, xExt1, xExt30, xExt31, xExt32, xAdd, xSub, xMul, xEql, xNeq, xLss, xLeq, xGtr, xGeq, xEqPN, xEqNN, xNePN, xNeNN, xEqBB, xNeBB, xNot, xConv, xLen, xMin, xMax, xIfc, xIfT, xIfF, xIfD, xJoinE, xOs, xCs, xFldV, List.getD_cons_zero, List.getD_cons_succ, Nat.zero_add, Nat.reduceAdd, Mem.get_set_same, Mem.set_set, if_true, if_false, Bool.not_true, Bool.not_false, decide_true, decide_false, decide_eq_true_eq, decide_not, Bool.not_eq_true, Bool.false_eq_true, reduceIte, Int.reduceLT, Int.reduceLE, Int.reduceEq, Int.reduceNeg, Int.reduceAdd, Int.reduceSub, locP_e, gBox_a, gBox_i, gBox_b, gBox_p, gLoad_s, gAlloc_s, gStore_a, gStore_i, gStore_b, gStore_p, sub_z, sub_s, lay_z, lay_s, List.length_cons, List.length_nil, Nat.reduceLeDiff, Nat.le_refl, List.drop_zero, List.drop_succ_cons, List.take_succ_cons, List.take_zero, List.drop_nil, List.cons_append, List.nil_append, List.all_cons, List.all_nil, oneB_i, oneB_b, oneB_p, oneB_sl, Bool.and_true, Nat.reduceLT, Nat.lt_irrefl, Nat.zero_lt_one, gBoxE, gBoxC, subE, subEC, subE0, subE1, subE2, subE3, subE4, subE6, subE7, subE8, subC, subC0, subC1, subC2, subC3, subC4, subC5, subC6]
              rw [hlen2, IntWalk.i64_in (G.length : Int) (by omega), ixL (pre := []) (o := 0) gf' rfl (by omega) (by rw [hsz]; omega) gx]
              have gb : gBuildS 1 1 [.int .i64 0] [0] [.int .i64 x] [] = some [.int .i64 x] := gBuild1 rfl rfl
              simp only [hx, not_true_eq_false, ne_eq, gb, xSlHi (show (0 : Int) ≤ (G.length : Int) by omega) (show (G.length : Int) ≤ ((G ++ [x]).length : Int) by rw [hsz]; omega), xMove, xPickT, xPickF, xNil, xFld, xExt0, xExt1, xExt30, xExt31, xExt32, xAdd, xSub, xMul, xEql, xNeq, xLss, xLeq, xGtr, xGeq, xEqPN, xEqNN, xNePN, xNeNN, xEqBB, xNeBB, xNot, xConv, xLen, xMin, xMax, xIfc, xIfT, xIfF, xIfD, xJoinE, xOs, xCs, xFldV, List.getD_cons_zero, List.getD_cons_succ, Nat.zero_add, Nat.reduceAdd, Mem.get_set_same, Mem.set_set, if_true, if_false, Bool.not_true, Bool.not_false, decide_true, decide_false, decide_eq_true_eq, decide_not, Bool.not_eq_true, Bool.false_eq_true, reduceIte, Int.reduceLT, Int.reduceLE, Int.reduceEq, Int.reduceNeg, Int.reduceAdd, Int.reduceSub, locP_e, gBox_a, gBox_i, gBox_b, gBox_p, gLoad_s, gAlloc_s, gStore_a, gStore_i, gStore_b, gStore_p, sub_z, sub_s, lay_z, lay_s, List.length_cons, List.length_nil, Nat.reduceLeDiff, Nat.le_refl, List.drop_zero, List.drop_succ_cons, List.take_succ_cons, List.take_zero, List.drop_nil, List.cons_append, List.nil_append, List.all_cons, List.all_nil, oneB_i, oneB_b, oneB_p, oneB_sl, Bool.and_true, Nat.reduceLT, Nat.lt_irrefl, Nat.zero_lt_one, gBoxE, gBoxC, subE, subEC, subE0, subE1, subE2, subE3, subE4, subE6, subE7, subE8, subC, subC0, subC1, subC2, subC3, subC4, subC5, subC6]
              refine hAppendL_i (hk.get gt dt) rfl (mI_len _) (by decide) rfl (by omega) fun id τ5 hid g5 k5 => ?_
              rw [z, Int.toNat_natCast]
              have hA5 : isA N A' τ5 := hA'.keep k5 (by have := notin dt; simp; exact ⟨this.1.symm, this.2.1.symm, this.2.2.symm⟩)
              have hidf : bf ≠ id := by rintro rfl; rw [gf'] at hid; cases hid
              have xT : x ∉ T := fun h => (mem x h).2.2 (by simp)
              have xG : x ∉ G := by have := (List.nodup_cons.1 fre.nd).1; simpa using this
              refine hR (60 - (i + 1)).toNat _ _ _ (by omega) ⟨i + 1, G, T ++ [x], bf, id, 0, mI [x] ++ post, [], A', rfl, rfl, ⟨by rw [List.length_append]; rfl, by omega, by omega, hA5, ?_, by rw [aft.n, hn4], by rw [aft.w]; exact fre', ?_, ?_, rfl, hidf, df, hA'.new hid, nf, ((ext.keep' hk hfr.all)).none hid, (ext.keep' hk hfr.all).keep' k5 (by simpa using nt), ?_, ?_, ?_⟩⟩
              · rw [show 1000 + 3 * (i + 1) = 1000 + 3 * i + 3 by omega]
                exact aft.ok (by decide) ok (fun j => upd_cases (P := fun x => 0 ≤ x ∧ x < 18446744073709551616) (putTop_in _ _) (ok.w j))
              · rw [k5.get gf' (by simpa using ne), mI_app, List.append_assoc]
              · rw [g5, mI_app]; rfl
              · exact List.nodup_append.2 ⟨nd, by simp, fun a ha b hb => by simp at hb; subst hb; rintro rfl; exact xT ha⟩
              · intro t ht
                rcases List.mem_append.1 ht with h | h
                · have := mem t h
                  exact ⟨this.1, this.2.1, fun q => this.2.2 (by simp [q])⟩
                · simp at h; subst h; exact ⟨hxm.1, hxm.2.1, xG⟩
              · simp only [List.length_append, List.length_cons, List.length_nil]; omega
          · cases T with
            | nil =>
              simp only [List.length_nil, Int.natCast_zero, Int.lt_irrefl, w_law06_SlotAlone_j5, w_law06_SlotAlone_j5b, xMove, xPickT, xPickF, xNil, xFld, xExt0, xExt1, xExt30, xExt31, xExt32, xAdd, xSub, xMul, xEql, xNeq, xLss, xLeq, xGtr, xGeq, xEqPN, xEqNN, xNePN, xNeNN, xEqBB, xNeBB, xNot, xConv, xLen, xMin, xMax, xIfc, xIfT, xIfF, xIfD, xJoinE, xOs, xCs, xFldV, List.getD_cons_zero, List.getD_cons_succ, Nat.zero_add, Nat.reduceAdd, Mem.get_set_same, Mem.set_set, if_true, if_false, Bool.not_true, Bool.not_false, decide_true, decide_false, decide_eq_true_eq, decide_not, Bool.not_eq_true, Bool.false_eq_true, reduceIte, Int.reduceLT, Int.reduceLE, Int.reduceEq, Int.reduceNeg, Int.reduceAdd, Int.reduceSub, locP_e, gBox_a, gBox_i, gBox_b, gBox_p, gLoad_s, gAlloc_s, gStore_a, gStore_i, gStore_b, gStore_p, sub_z, sub_s, lay_z, lay_s, List.length_cons, List.length_nil, Nat.reduceLeDiff, Nat.le_refl, List.drop_zero, List.drop_succ_cons, List.take_succ_cons, List.take_zero, List.drop_nil, List.cons_append, List.nil_append, List.all_cons, List.all_nil, oneB_i, oneB_b, oneB_p, oneB_sl, Bool.and_true, Nat.reduceLT, Nat.lt_irrefl, Nat.zero_lt_one, gBoxE, gBoxC, subE, subEC, subE0, subE1, subE2, subE3, subE4, subE6, subE7, subE8, subC, subC0, subC1, subC2, subC3, subC4, subC5, subC6]
              rw [z]
              exact hR (60 - (i + 1)).toNat _ _ _ (by omega) ⟨i + 1, F, [], bf, bt, _, post, pre, A, rfl, rfl, ⟨rfl, by omega, by omega, hA4, ⟨ok.w, ⟨ok.s.1, by have := ok.s.2; omega⟩, ok.t⟩, hn4, fre, gf, gt, rfl, ne, df, dt, nf, nt, ext, nd, mem, num⟩⟩
            | cons x T =>
              have hlen : (0 : Int) < ((T.length + 1 : Nat) : Int) := by omega
              have h1 : (1 : Int) ≤ ((T.length + 1 : Nat) : Int) := by omega
              have hx := mem x (by simp)
              have gt' : τ4.get bt = some ⟨pre ++ mI (x :: T) ++ [], true⟩ := by rw [List.append_nil]; exact gt
              have g0 : (mI (x :: T))[(0 : Int).toNat]? = some (.int .i64 x) := rfl
              simp only [hlen, w_law06_SlotAlone_j5, w_law06_SlotAlone_j5b, ixL gt' rfl (Int.le_refl 0) hlen g0, xSlLo (Int.le_of_lt Int.zero_lt_one) h1, xMove, xPickT, xPickF, xNil, xFld, xExt0, xExt1, xExt30, xExt31, xExt32, xAdd, xSub, xMul, xEql, xNeq, xLss, xLeq, xGtr, xGeq, xEqPN, xEqNN, xNePN, xNeNN, xEqBB, xNeBB, xNot, xConv, xLen, xMin, xMax, xIfc, xIfT, xIfF, xIfD, xJoinE, xOs, xCs, xFldV, List.getD_cons_zero, List.getD_cons_succ, Nat.zero_add, Nat.reduceAdd, Mem.get_set_same, Mem.set_set, if_true, if_false, Bool.not_true, Bool.not_false, decide_true, decide_false, decide_eq_true_eq, decide_not, Bool.not_eq_true, Bool.false_eq_true, reduceIte, Int.reduceLT, Int.reduceLE, Int.reduceEq, Int.reduceNeg, Int.reduceAdd, Int.reduceSub, locP_e, gBox_a, gBox_i, gBox_b, gBox_p, gLoad_s, gAlloc_s, gStore_a, gStore_i, gStore_b, gStore_p, sub_z, sub_s, lay_z, lay_s, List.length_cons, List.length_nil, Nat.reduceLeDiff, Nat.le_refl, List.drop_zero, List.drop_succ_cons, List.take_succ_cons, List.take_zero, List.drop_nil, List.cons_append, List.nil_append, List.all_cons, List.all_nil, oneB_i, oneB_b, oneB_p, oneB_sl, Bool.and_true, Nat.reduceLT, Nat.lt_irrefl, Nat.zero_lt_one, gBoxE, gBoxC, subE, subEC, subE0, subE1, subE2, subE3, subE4, subE6, subE7, subE8, subC, subC0, subC1, subC2, subC3, subC4, subC5, subC6]
              refine c_give hN hC hA4 ok (by omega) (by omega) ⟨hx.1, by omega⟩ fun A' τ' aft hA' hk => ?_
              have gb : gBuildS 1 1 [.int .i64 0] [0] [.int .i64 x] [] = some [.int .i64 x] := gBuild1 rfl rfl
              simp only [ne_eq, not_true_eq_false, gb, xMove, xPickT, xPickF, xNil, xFld, xExt0, xExt1, xExt30, xExt31, xExt32, xAdd, xSub, xMul, xEql, xNeq, xLss, xLeq, xGtr, xGeq, xEqPN, xEqNN, xNePN, xNeNN, xEqBB, xNeBB, xNot, xConv, xLen, xMin, xMax, xIfc, xIfT, xIfF, xIfD, xJoinE, xOs, xCs, xFldV, List.getD_cons_zero, List.getD_cons_succ, Nat.zero_add, Nat.reduceAdd, Mem.get_set_same, Mem.set_set, if_true, if_false, Bool.not_true, Bool.not_false, decide_true, decide_false, decide_eq_true_eq, decide_not, Bool.not_eq_true, Bool.false_eq_true, reduceIte, Int.reduceLT, Int.reduceLE, Int.reduceEq, Int.reduceNeg, Int.reduceAdd, Int.reduceSub, locP_e, gBox_a, gBox_i, gBox_b, gBox_p, gLoad_s, gAlloc_s, gStore_a, gStore_i, gStore_b, gStore_p, sub_z, sub_s, lay_z, lay_s, List.length_cons, List.length_nil, Nat.reduceLeDiff, Nat.le_refl, List.drop_zero, List.drop_succ_cons, List.take_succ_cons, List.take_zero, List.drop_nil, List.cons_append, List.nil_append, List.all_cons, List.all_nil, oneB_i, oneB_b, oneB_p, oneB_sl, Bool.and_true, Nat.reduceLT, Nat.lt_irrefl, Nat.zero_lt_one, gBoxE, gBoxC, subE, subEC, subE0, subE1, subE2, subE3, subE4, subE6, subE7, subE8, subC, subC0, subC1, subC2, subC3, subC4, subC5, subC6]
              have hF4 := num
              simp only [List.length_cons] at hF4
              have gf1 := hk.get gf df
              have gt1 := hk.get gt dt
              have ext1 := ext.keep' hk hfr.all
              refine hBuildS_i [] rfl fun e τ5 ne5 ge x5 => ?_
              have gf2 := x5 _ _ gf1
              refine hAppend_i (pre := []) (L := []) (o := 0) (p2 := []) (o2 := 0) (L2 := mI F) ge rfl rfl (by decide) gf2 rfl (mI_len F) (mI_all F) (by omega) fun e2 τ6 ne6 ge6 k6 => ?_
              rw [Nat.zero_add]
              refine hAppendL_i (pre := []) (L := mI F) (o := 0) ge6 rfl (mI_len F) (by decide) rfl (by omega) fun e3 τ7 ne7 ge7 k7 => ?_
              rw [z]
              have n1 : bt ≠ e := by rintro rfl; rw [gt1] at ne5; cases ne5
              have gt5 := x5 _ _ gt1
              have gt6 := k6.get gt5 (by simpa using n1)
              have n2 : bt ≠ e2 := by rintro rfl; rw [gt5] at ne6; cases ne6
              have gt7 := k7.get gt6 (by simpa using n2)
              have n3 : e3 ≠ bt := by rintro rfl; rw [gt6] at ne7; cases ne7
              have hA5 := hA'.ext x5
              have q1 : ∀ {id : Nat}, id ∉ N.l → N.m ∉ [id] ∧ N.w ∉ [id] ∧ N.t ∉ [id] := fun h => by have := notin h; simp; exact ⟨this.1.symm, this.2.1.symm, this.2.2.symm⟩
              have hA6 := hA5.keep k6 (q1 (hA'.new ne5))
              have hA7 := hA6.keep k7 (q1 (hA5.new ne6))
              have ext5 := ext1.trans x5
              have ext6 := ext5.keep' k6 (by simpa using ext1.none ne5)
              have ext7 := ext6.keep' k7 (by simpa using ext5.none ne6)
              have e1 : T.length + 1 - (1 : Int).toNat = T.length := by simp
              rw [e1]
              refine hR (60 - (i + 1)).toNat _ _ _ (by omega) ⟨i + 1, F ++ [x], T, e3, bt, _, [], pre ++ [.int .i64 x], A', rfl, rfl, ⟨by rw [List.length_append]; rfl, by omega, by omega, hA7, ?_, by rw [aft.n, hn4], ?_, ?_, ?_, by simp, n3, hA6.new ne7, dt, ext6.none ne7, nt, ext7, (List.nodup_cons.1 nd).2, ?_, ?_⟩⟩
              · rw [show 1000 + 3 * (i + 1) = 1000 + 3 * i + 3 by omega]
                refine aft.ok (by decide) ok fun j => ?_
                unfold gaveW
                exact upd_cases (P := fun x => 0 ≤ x ∧ x < 18446744073709551616) (putTop_in _ _) (upd_cases (P := fun x => 0 ≤ x ∧ x < 18446744073709551616) (putTop_in _ _) (ok.w j))
              · rw [aft.w, List.reverse_append]
                exact fre.gave hC ⟨hx.1, by omega⟩ (by simpa using hx.2.2)
              · rw [ge7, mI_app, List.append_nil]; rfl
              · rw [gt7, List.append_assoc]; rfl
              · intro t ht
                have := mem t (by simp [ht])
                refine ⟨this.1, this.2.1, fun h => ?_⟩
                rcases List.mem_append.1 h with h | h
                · exact this.2.2 h
                · simp at h; subst h; exact (List.nodup_cons.1 nd).1 ht
              · simp only [List.length_append, List.length_cons, List.length_nil]; omega
        · simp only [c1, c2, xMove, xPickT, xPickF, xNil, xFld, xExt0, xExt1, xExt30, xExt31, xExt32, xAdd, xSub, xMul, xEql, xNeq, xLss, xLeq, xGtr, xGeq, xEqPN, xEqNN, xNePN, xNeNN, xEqBB, xNeBB, xNot, xConv, xLen, xMin, xMax, xIfc, xIfT, xIfF, xIfD, xJoinE, xOs, xCs, xFldV, List.getD_cons_zero, List.getD_cons_succ, Nat.zero_add, Nat.reduceAdd, Mem.get_set_same, Mem.set_set, if_true, if_false, Bool.not_true, Bool.not_false, decide_true, decide_false, decide_eq_true_eq, decide_not, Bool.not_eq_true, Bool.false_eq_true, reduceIte, Int.reduceLT, Int.reduceLE, Int.reduceEq, Int.reduceNeg, Int.reduceAdd, Int.reduceSub, locP_e, gBox_a, gBox_i, gBox_b, gBox_p, gLoad_s, gAlloc_s, gStore_a, gStore_i, gStore_b, gStore_p, sub_z, sub_s, lay_z, lay_s, List.length_cons, List.length_nil, Nat.reduceLeDiff, Nat.le_refl, List.drop_zero, List.drop_succ_cons, List.take_succ_cons, List.take_zero, List.drop_nil, List.cons_append, List.nil_append, List.all_cons, List.all_nil, oneB_i, oneB_b, oneB_p, oneB_sl, Bool.and_true, Nat.reduceLT, Nat.lt_irrefl, Nat.zero_lt_one, gBoxE, gBoxC, subE, subEC, subE0, subE1, subE2, subE3, subE4, subE6, subE7, subE8, subC, subC0, subC1, subC2, subC3, subC4, subC5, subC6]; exact fin
      · simp only [c1, xMove, xPickT, xPickF, xNil, xFld, xExt0, xExt1, xExt30, xExt31, xExt32, xAdd, xSub, xMul, xEql, xNeq, xLss, xLeq, xGtr, xGeq, xEqPN, xEqNN, xNePN, xNeNN, xEqBB, xNeBB, xNot, xConv, xLen, xMin, xMax, xIfc, xIfT, xIfF, xIfD, xJoinE, xOs, xCs, xFldV, List.getD_cons_zero, List.getD_cons_succ, Nat.zero_add, Nat.reduceAdd, Mem.get_set_same, Mem.set_set, if_true, if_false, Bool.not_true, Bool.not_false, decide_true, decide_false, decide_eq_true_eq, decide_not, Bool.not_eq_true, Bool.false_eq_true, reduceIte, Int.reduceLT, Int.reduceLE, Int.reduceEq, Int.reduceNeg, Int.reduceAdd, Int.reduceSub, locP_e, gBox_a, gBox_i, gBox_b, gBox_p, gLoad_s, gAlloc_s, gStore_a, gStore_i, gStore_b, gStore_p, sub_z, sub_s, lay_z, lay_s, List.length_cons, List.length_nil, Nat.reduceLeDiff, Nat.le_refl, List.drop_zero, List.drop_succ_cons, List.take_succ_cons, List.take_zero, List.drop_nil, List.cons_append, List.nil_append, List.all_cons, List.all_nil, oneB_i, oneB_b, oneB_p, oneB_sl, Bool.and_true, Nat.reduceLT, Nat.lt_irrefl, Nat.zero_lt_one, gBoxE, gBoxC, subE, subEC, subE0, subE1, subE2, subE3, subE4, subE6, subE7, subE8, subC, subC0, subC1, subC2, subC3, subC4, subC5, subC6]; exact fin
    · rw [List.reverse_reverse, show n - 1 - -1 = n by omega]; exact frA
end Go.Fl
