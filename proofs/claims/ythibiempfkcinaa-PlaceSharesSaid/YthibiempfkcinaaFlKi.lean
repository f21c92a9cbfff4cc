/- What stands at an address, by the document. No condition. -/
import Derived.Test.YthibiempfkcinaaFlX
namespace Go.Fl
open Go
set_option linter.unusedVariables false
set_option linter.unusedSimpArgs false
variable {N : Nm} {A B : Ar} {σ : Mem} {K : Value → Mem → Prop} {C : Cf} {who : Int}

def resK (C : Cf) (i x : Int) : Int × Int × Int := if i = 4 then (4 + x % 2, x / 2, 0) else if i = 5 then (6 + x % 3, x / 3, 0) else if i = 6 then (9, x / C.W, x % C.W) else (i, x, 0)
def kindOf (C : Cf) (a : Int) : Int × Int × Int :=
  if a < 0 then (-1, 0, 0) else if a < 1 then (0, a, 0) else if a < 2 then (1, a - 1, 0) else if a < 6 then (2, a - 2, 0) else if a < 6 + C.T then (3, a - 6, 0)
  else if a < 6 + C.T + 2 * C.S then resK C 4 (a - 6 - C.T) else if a < 6 + C.T + 2 * C.S + 3 * C.C then resK C 5 (a - 6 - C.T - 2 * C.S)
  else if a < C.len then resK C 6 (a - 6 - C.T - 2 * C.S - 3 * C.C) else (-1, 0, 0)
def trip (x : Int × Int × Int) : Value := .tuple #[.int .i64 x.1, .int .i64 x.2.1, .int .i64 x.2.2]
theorem kind_round (hC : C.ok) {J1 R1 : List Value → List (List Value) → Mem → Prop} {b : Nat} {L : List Value} {i : Nat} {x r : Int} (hi : i < 7) (hx : 0 ≤ x ∧ x < 9223372036854775808) (hr : 0 ≤ r ∧ r < 9223372036854775808) (g : σ.get b = some ⟨L, true⟩)
    (e : L[i]? = some (.int .i64 r)) (hk : if r ≤ x then R1 [.int .i64 (x - r), .slice (some ⟨b, 0, none⟩) 7 1, .int .i64 ((i + 1 : Nat) : Int)] [C.l] σ else K (trip (resK C i x)) σ) :
    w_ref04_Kind_l6 K J1 R1 [.int .i64 x, .slice (some ⟨b, 0, none⟩) 7 1, .int .i64 (i : Int)] [C.l] σ := by
  have h0 : (0 : Int) ≤ (i : Int) := by omega
  have h1 : (i : Int) < ((7 : Nat) : Int) := by omega
  have q : sub L i 1 false = some (.int .i64 r) := sub_one e
  have hW := hC.W
  simp only [w_ref04_Kind_l6, w_ref04_Kind_l6b, xMove, xPickT, xPickF, xNil, xFld, xExt0, xExt1, xExt30, xExt31, xExt32, xAdd, xSub, xMul, xEql, xNeq, xLss, xLeq, xGtr, xGeq, xEqPN, xEqNN, xNePN, xNeNN, xEqBB, xNeBB, xNot, xConv, xLen, xMin, xMax, xIfc, xIfT, xIfF, xIfD, xJoinE, xOs, xCs, xFldV, List.getD_cons_zero, List.getD_cons_succ, Nat.zero_add, Nat.reduceAdd, Mem.get_set_same, Mem.set_set, if_true, if_false, Bool.not_true, Bool.not_false, decide_true, decide_false, decide_eq_true_eq, decide_not, Bool.not_eq_true, Bool.false_eq_true, reduceIte, Int.reduceLT, Int.reduceLE, Int.reduceEq, Int.reduceNeg, Int.reduceAdd, Int.reduceSub, xIxS h0 h1, Int.toNat_natCast, Nat.mul_one, hLoad_eq g, q, locP_e, gLoad_s, subC3]
  rw [if_pos (by omega)]
  by_cases c : r ≤ x
  · rw [if_pos c] at hk ⊢
    rw [IntWalk.i64_in (x - r) (by omega), IntWalk.i64_in _ (by omega)]
    exact hk
  · rw [if_neg c] at hk ⊢
    simp only [xRem (show (2 : Int) ≠ 0 by decide), xRem (show (3 : Int) ≠ 0 by decide), xQuo (show (2 : Int) ≠ 0 by decide), xQuo (show (3 : Int) ≠ 0 by decide), xRem (show C.W ≠ 0 by omega), xQuo (show C.W ≠ 0 by omega), xMove, xPickT, xPickF, xNil, xFld, xExt0, xExt1, xExt30, xExt31, xExt32, xAdd, xSub, xMul, xEql, xNeq, xLss, xLeq, xGtr, xGeq, xEqPN, xEqNN, xNePN, xNeNN, xEqBB, xNeBB, xNot, xConv, xLen, xMin, xMax, xIfc, xIfT, xIfF, xIfD, xJoinE, xOs, xCs, xFldV, List.getD_cons_zero, List.getD_cons_succ, Nat.zero_add, Nat.reduceAdd, Mem.get_set_same, Mem.set_set, if_true, if_false, Bool.not_true, Bool.not_false, decide_true, decide_false, decide_eq_true_eq, decide_not, Bool.not_eq_true, Bool.false_eq_true, reduceIte, Int.reduceLT, Int.reduceLE, Int.reduceEq, Int.reduceNeg, Int.reduceAdd, Int.reduceSub]
    unfold resK trip at hk
    by_cases c4 : (i : Int) = 4
    · rw [if_pos c4] at hk ⊢
      rw [Int.tmod_eq_emod_of_nonneg hx.1, Int.tdiv_eq_ediv_of_nonneg hx.1, IntWalk.i64_in _ (by omega), IntWalk.i64_in _ (by omega)]; exact hk
    · rw [if_neg c4] at hk ⊢
      by_cases c5 : (i : Int) = 5
      · rw [if_pos c5] at hk ⊢
        rw [Int.tmod_eq_emod_of_nonneg hx.1, Int.tdiv_eq_ediv_of_nonneg hx.1, IntWalk.i64_in _ (by omega), IntWalk.i64_in _ (by omega)]; exact hk
      · rw [if_neg c5] at hk ⊢
        by_cases c6 : (i : Int) = 6
        · rw [if_pos c6] at hk ⊢
          have hd : x / C.W ≤ x := Int.ediv_le_self _ hx.1
          have hd0 : 0 ≤ x / C.W := Int.ediv_nonneg hx.1 (by omega)
          rw [Int.tmod_eq_emod_of_nonneg hx.1, Int.tdiv_eq_ediv_of_nonneg hx.1, IntWalk.i64_in (x / C.W) (by omega)]; exact hk
        · rw [if_neg c6] at hk ⊢; exact hk
theorem c_Kind (hC : C.ok) {a : Int} (ha : a < 9223372036854775808) (hk : ∀ τ, Ext σ τ → K (trip (kindOf C a)) τ) : s_ref04_Kind [C.v, .int .i64 a] K σ := by
  have hT := hC.T
  have hS := hC.S
  have hCC := hC.C
  have hW := hC.W
  have hm : 0 ≤ C.C * C.W ∧ C.C * C.W ≤ 268435456 := by rw [Int.mul_comm]; exact mulW hC (by omega) (by omega)
  simp only [s_ref04_Kind, w_ref04_Kind, xMove, xPickT, xPickF, xNil, xFld, xExt0, xExt1, xExt30, xExt31, xExt32, xAdd, xSub, xMul, xEql, xNeq, xLss, xLeq, xGtr, xGeq, xEqPN, xEqNN, xNePN, xNeNN, xEqBB, xNeBB, xNot, xConv, xLen, xMin, xMax, xIfc, xIfT, xIfF, xIfD, xJoinE, xOs, xCs, xFldV, List.getD_cons_zero, List.getD_cons_succ, Nat.zero_add, Nat.reduceAdd, Mem.get_set_same, Mem.set_set, if_true, if_false, Bool.not_true, Bool.not_false, decide_true, decide_false, decide_eq_true_eq, decide_not, Bool.not_eq_true, Bool.false_eq_true, reduceIte, Int.reduceLT, Int.reduceLE, Int.reduceEq, Int.reduceNeg, Int.reduceAdd, Int.reduceSub, locP_e, gBoxC, gLoad_s, subC0, subC1, subC2, subC3]
  rw [IntWalk.i64_in (2 * C.S) (by omega), IntWalk.i64_in (3 * C.C) (by omega), IntWalk.i64_in (C.C * C.W) (by omega)]
  unfold kindOf at hk
  by_cases c : a < 0
  · rw [if_pos c] at hk ⊢
    exact hk σ Ext.refl
  rw [if_neg c] at hk ⊢
  refine hBuildS_i [.int .i64 1, .int .i64 1, .int .i64 4, .int .i64 C.T, .int .i64 (2 * C.S), .int .i64 (3 * C.C), .int .i64 (C.C * C.W)] rfl fun b τ _ g x => ?_
  replace hk := hk τ x
  refine xLoop_fold (kind_round hC (i := 0) (by decide) ⟨by omega, by omega⟩ ⟨by decide, by decide⟩ g rfl ?_)
  by_cases c0 : a < 1
  · rw [if_pos c0] at hk
    rw [if_neg (by omega)]; exact hk
  rw [if_neg c0] at hk
  rw [if_pos (by omega)]
  refine xLoop_fold (kind_round hC (i := 1) (by decide) ⟨by omega, by omega⟩ ⟨by decide, by decide⟩ g rfl ?_)
  by_cases c0 : a < 2
  · rw [if_pos c0] at hk
    rw [if_neg (by omega)]; exact hk
  rw [if_neg c0] at hk
  rw [if_pos (by omega), show a - 1 - 1 = a - 2 by omega]
  refine xLoop_fold (kind_round hC (i := 2) (by decide) ⟨by omega, by omega⟩ ⟨by decide, by decide⟩ g rfl ?_)
  by_cases c0 : a < 6
  · rw [if_pos c0] at hk
    rw [if_neg (by omega)]; exact hk
  rw [if_neg c0] at hk
  rw [if_pos (by omega), show a - 2 - 4 = a - 6 by omega]
  refine xLoop_fold (kind_round hC (i := 3) (by decide) ⟨by omega, by omega⟩ ⟨by omega, by omega⟩ g rfl ?_)
  by_cases c0 : a < 6 + C.T
  · rw [if_pos c0] at hk
    rw [if_neg (by omega)]; exact hk
  rw [if_neg c0] at hk
  rw [if_pos (by omega)]
  refine xLoop_fold (kind_round hC (i := 4) (by decide) ⟨by omega, by omega⟩ ⟨by omega, by omega⟩ g rfl ?_)
  by_cases c0 : a < 6 + C.T + 2 * C.S
  · rw [if_pos c0] at hk
    rw [if_neg (by omega)]; exact hk
  rw [if_neg c0] at hk
  rw [if_pos (by omega)]
  refine xLoop_fold (kind_round hC (i := 5) (by decide) ⟨by omega, by omega⟩ ⟨by omega, by omega⟩ g rfl ?_)
  by_cases c0 : a < 6 + C.T + 2 * C.S + 3 * C.C
  · rw [if_pos c0] at hk
    rw [if_neg (by omega)]; exact hk
  rw [if_neg c0] at hk
  rw [if_pos (by omega)]
  have el : C.len = 6 + C.T + 2 * C.S + 3 * C.C + C.C * C.W := by rw [len_eq, Int.mul_comm C.W]
  refine xLoop_fold (kind_round hC (i := 6) (by decide) ⟨by omega, by omega⟩ ⟨by omega, by omega⟩ g rfl ?_)
  by_cases c0 : a < C.len
  · rw [if_pos c0] at hk
    rw [if_neg (by omega)]; exact hk
  rw [if_neg c0] at hk
  rw [if_pos (by omega)]
  refine xLoop_fold ?_
  simp only [w_ref04_Kind_l6, w_ref04_Kind_l6b, w_ref04_Kind_j1, w_ref04_Kind_j1b, xMove, xPickT, xPickF, xNil, xFld, xExt0, xExt1, xExt30, xExt31, xExt32, xAdd, xSub, xMul, xEql, xNeq, xLss, xLeq, xGtr, xGeq, xEqPN, xEqNN, xNePN, xNeNN, xEqBB, xNeBB, xNot, xConv, xLen, xMin, xMax, xIfc, xIfT, xIfF, xIfD, xJoinE, xOs, xCs, xFldV, List.getD_cons_zero, List.getD_cons_succ, Nat.zero_add, Nat.reduceAdd, Mem.get_set_same, Mem.set_set, if_true, if_false, Bool.not_true, Bool.not_false, decide_true, decide_false, decide_eq_true_eq, decide_not, Bool.not_eq_true, Bool.false_eq_true, reduceIte, Int.reduceLT, Int.reduceLE, Int.reduceEq, Int.reduceNeg, Int.reduceAdd, Int.reduceSub]
  exact hk
/-- Which address each is. -/
inductive At (C : Cf) (a : Int) : Prop where
  | epoch (h : kindOf C a = (0, 0, 0)) (e : a = 0)
  | top (h : kindOf C a = (1, 0, 0)) (e : a = 1)
  | open (j : Int) (h : kindOf C a = (2, j, 0)) (e : a = 2 + j) (h0 : 0 ≤ j) (h1 : j < 4)
  | pin (j : Int) (h : kindOf C a = (3, j, 0)) (e : a = 6 + j) (h0 : 0 ≤ j) (h1 : j < C.T)
  | slot (j : Int) (h : kindOf C a = (4, j, 0)) (e : a = C.slot j) (h0 : 0 ≤ j) (h1 : j < C.S)
  | link (j : Int) (h : kindOf C a = (5, j, 0)) (e : a = C.slot j + 1) (h0 : 0 ≤ j) (h1 : j < C.S)
  | chunk (j : Int) (h : kindOf C a = (6, j, 0)) (e : a = C.chunk j) (h0 : 0 ≤ j) (h1 : j < C.C)
  | live (j : Int) (h : kindOf C a = (7, j, 0)) (e : a = C.chunk j + 1) (h0 : 0 ≤ j) (h1 : j < C.C)
  | since (j : Int) (h : kindOf C a = (8, j, 0)) (e : a = C.chunk j + 2) (h0 : 0 ≤ j) (h1 : j < C.C)
  | word (j k : Int) (h : kindOf C a = (9, j, k)) (e : a = C.base j + k) (h0 : 0 ≤ j) (h1 : j < C.C) (k0 : 0 ≤ k) (k1 : k < C.W)
theorem kind_at (hC : C.ok) {a : Int} (h0 : 0 ≤ a) (h1 : a < C.len) : At C a := by
  have hW := hC.W
  have hT := hC.T
  have hS := hC.S
  have hCC := hC.C
  have e : kindOf C a = kindOf C a := rfl
  conv at e => rhs; unfold kindOf
  rw [if_neg (by omega)] at e
  by_cases c0 : a < 1
  · rw [if_pos c0] at e; exact .epoch (e.trans (by rw [show a = 0 by omega])) (by omega)
  rw [if_neg c0] at e
  by_cases c1 : a < 2
  · rw [if_pos c1] at e; exact .top (e.trans (by rw [show a - 1 = 0 by omega])) (by omega)
  rw [if_neg c1] at e
  by_cases c2 : a < 6
  · rw [if_pos c2] at e; exact .open _ e (by omega) (by omega) (by omega)
  rw [if_neg c2] at e
  by_cases c3 : a < 6 + C.T
  · rw [if_pos c3] at e; exact .pin _ e (by omega) (by omega) (by omega)
  rw [if_neg c3] at e
  by_cases c4 : a < 6 + C.T + 2 * C.S
  · rw [if_pos c4] at e; unfold resK at e; rw [if_pos rfl] at e
    rcases (show (a - 6 - C.T) % 2 = 0 ∨ (a - 6 - C.T) % 2 = 1 by omega) with q | q
    · rw [q] at e; exact .slot _ e (by unfold Cf.slot; omega) (by omega) (by omega)
    · rw [q] at e; exact .link _ e (by unfold Cf.slot; omega) (by omega) (by omega)
  rw [if_neg c4] at e
  by_cases c5 : a < 6 + C.T + 2 * C.S + 3 * C.C
  · rw [if_pos c5] at e; unfold resK at e; rw [if_neg (by decide), if_pos rfl] at e
    rcases (show (a - 6 - C.T - 2 * C.S) % 3 = 0 ∨ (a - 6 - C.T - 2 * C.S) % 3 = 1 ∨ (a - 6 - C.T - 2 * C.S) % 3 = 2 by omega) with q | q | q
    · rw [q] at e; exact .chunk _ e (by unfold Cf.chunk; omega) (by omega) (by omega)
    · rw [q] at e; exact .live _ e (by unfold Cf.chunk; omega) (by omega) (by omega)
    · rw [q] at e; exact .since _ e (by unfold Cf.chunk; omega) (by omega) (by omega)
  rw [if_neg c5, if_pos h1] at e
  unfold resK at e; rw [if_neg (by decide), if_neg (by decide), if_pos rfl] at e
  have x0 : 0 ≤ a - 6 - C.T - 2 * C.S - 3 * C.C := by omega
  have x1 : a - 6 - C.T - 2 * C.S - 3 * C.C < C.C * C.W := by rw [len_eq] at h1; have := Int.mul_comm C.C C.W; omega
  have x2 : a = 6 + C.T + 2 * C.S + 3 * C.C + (a - 6 - C.T - 2 * C.S - 3 * C.C) := by omega
  generalize a - 6 - C.T - 2 * C.S - 3 * C.C = x at *
  have em := Int.mul_ediv_add_emod x C.W
  have m0 := Int.emod_nonneg x (show C.W ≠ 0 by omega)
  have m1 := Int.emod_lt_of_pos x (show 0 < C.W by omega)
  have d0 := Int.ediv_nonneg x0 (show 0 ≤ C.W by omega)
  have d1 : x / C.W < C.C := Int.ediv_lt_of_lt_mul (by omega) x1
  have eb : C.base (x / C.W) = 6 + C.T + 2 * C.S + 3 * C.C + C.W * (x / C.W) := rfl
  exact .word _ _ e (by omega) d0 d1 m0 m1
theorem kind_out (hC : C.ok) {a : Int} (h : C.len ≤ a) : kindOf C a = (-1, 0, 0) := by
  have hl := len_bd hC
  have hch : C.chunk C.C = 6 + C.T + 2 * C.S + 3 * C.C := rfl
  have hT := hC.T
  have hS := hC.S
  have hCC := hC.C
  unfold kindOf
  rw [if_neg (by omega), if_neg (by omega), if_neg (by omega), if_neg (by omega), if_neg (by omega), if_neg (by omega), if_neg (by omega), if_neg (by omega)]

theorem cfgOf {a : Array Value} (w : FlatL [some .i64, some .i64, some .i64, some .i64, some .i64, some .i64, some .i64] a.toList) : ∃ C : Cf, Value.agg a = C.v ∧
    (-9223372036854775808 ≤ C.T ∧ C.T ≤ 9223372036854775807) ∧ (-9223372036854775808 ≤ C.S ∧ C.S ≤ 9223372036854775807) ∧ (-9223372036854775808 ≤ C.C ∧ C.C ≤ 9223372036854775807) ∧
    (-9223372036854775808 ≤ C.W ∧ C.W ≤ 9223372036854775807) ∧ (-9223372036854775808 ≤ C.G ∧ C.G ≤ 9223372036854775807) ∧ (-9223372036854775808 ≤ C.P ∧ C.P ≤ 9223372036854775807) ∧
    (-9223372036854775808 ≤ C.R ∧ C.R ≤ 9223372036854775807) := by
  obtain ⟨l⟩ := a
  have wf : ∀ n, (Lit.int .i64 n).wf = true → -9223372036854775808 ≤ n ∧ n ≤ 9223372036854775807 := by
    intro n h
    simpa [Lit.wf, IntKind.min, IntKind.max, IntKind.signed, IntKind.bits] using h
  cases w with | cons h1 w => cases w with | cons h2 w => cases w with | cons h3 w => cases w with | cons h4 w => cases w with | cons h5 w => cases w with | cons h6 w => cases w with | cons h7 w =>
  cases w
  obtain ⟨n1, rfl, h1⟩ := h1
  obtain ⟨n2, rfl, h2⟩ := h2
  obtain ⟨n3, rfl, h3⟩ := h3
  obtain ⟨n4, rfl, h4⟩ := h4
  obtain ⟨n5, rfl, h5⟩ := h5
  obtain ⟨n6, rfl, h6⟩ := h6
  obtain ⟨n7, rfl, h7⟩ := h7
  exact ⟨⟨n1, n2, n3, n4, n5, n6, n7⟩, rfl, wf _ h1, wf _ h2, wf _ h3, wf _ h4, wf _ h5, wf _ h6, wf _ h7⟩
/-- The form that a law makes of one that came in. -/
def cutC (C : Cf) : Cf := ⟨1 + C.T % 4, 1 + C.S % 16, 1 + C.C % 8, 17 + C.W % 32, 1 + C.G % 1024, ((C.P.tmod 1001 + 1001).tmod 1001), 1 + C.R % 4⟩
theorem tmod1001 (a : Int) : -1001 < a.tmod 1001 ∧ a.tmod 1001 < 1001 := by
  rcases Int.le_total 0 a with h | h
  · rw [Int.tmod_eq_emod_of_nonneg h]; omega
  · obtain ⟨b, rfl⟩ : ∃ b, a = -b := ⟨-a, by omega⟩
    rw [Int.neg_tmod, Int.tmod_eq_emod_of_nonneg (by omega)]; omega
theorem cutC_ok (C : Cf) : (cutC C).ok := by
  have := tmod1001 C.P
  have h2 : 0 ≤ (C.P.tmod 1001 + 1001).tmod 1001 ∧ (C.P.tmod 1001 + 1001).tmod 1001 ≤ 1000 := by rw [Int.tmod_eq_emod_of_nonneg (by omega)]; omega
  exact ⟨by simp only [cutC]; omega, by simp only [cutC]; omega, by simp only [cutC]; omega, by simp only [cutC]; omega, by simp only [cutC]; omega, by simp only [cutC]; omega, by simp only [cutC]; omega⟩
theorem gStoreC {k : Nat} : gStore 7 [.pointer (some ⟨k, 0, some 0⟩), C.v] [.int .i64 0, .int .i64 0, .int .i64 0, .int .i64 0, .int .i64 0, .int .i64 0, .int .i64 0] = some C.l := nr rfl
def ofC (C : Cf) (a : Int) : Int := if C.base 0 ≤ a ∧ a < C.len then (a - C.base 0) / C.W else -1
theorem c_Of (hC : C.ok) {a : Int} (ha : a < 9223372036854775808) : s_layout_Of [C.v, .int .i64 a] K σ = K (.int .i64 (ofC C a)) σ := by
  have hW := hC.W
  have hl := len_bd hC
  have hT := hC.T
  have hS := hC.S
  have hCC := hC.C
  have hb : C.base 0 = 6 + C.T + 2 * C.S + 3 * C.C := by unfold Cf.base; omega
  simp only [s_layout_Of, w_layout_Of, w_layout_Of_j1, w_layout_Of_j1b, c_Base hC (Int.le_refl 0) (by decide : (0 : Int) ≤ 65536), c_lLen hC, xMove, xPickT, xPickF, xNil, xFld, xExt0, xExt1, xExt30, xExt31, xExt32, xAdd, xSub, xMul, xEql, xNeq, xLss, xLeq, xGtr, xGeq, xEqPN, xEqNN, xNePN, xNeNN, xEqBB, xNeBB, xNot, xConv, xLen, xMin, xMax, xIfc, xIfT, xIfF, xIfD, xJoinE, xOs, xCs, xFldV, List.getD_cons_zero, List.getD_cons_succ, Nat.zero_add, Nat.reduceAdd, Mem.get_set_same, Mem.set_set, if_true, if_false, Bool.not_true, Bool.not_false, decide_true, decide_false, decide_eq_true_eq, decide_not, Bool.not_eq_true, Bool.false_eq_true, reduceIte, Int.reduceLT, Int.reduceLE, Int.reduceEq, Int.reduceNeg, Int.reduceAdd, Int.reduceSub, locP_e, gBox_a, gBox_i, gBox_b, gBox_p, gLoad_s, gAlloc_s, gStore_a, gStore_i, gStore_b, gStore_p, sub_z, sub_s, lay_z, lay_s, List.length_cons, List.length_nil, Nat.reduceLeDiff, Nat.le_refl, List.drop_zero, List.drop_succ_cons, List.take_succ_cons, List.take_zero, List.drop_nil, List.cons_append, List.nil_append, List.all_cons, List.all_nil, oneB_i, oneB_b, oneB_p, oneB_sl, Bool.and_true, Nat.reduceLT, Nat.lt_irrefl, Nat.zero_lt_one, gBoxE, gBoxC, subE, subEC, subE0, subE1, subE2, subE3, subE4, subE6, subE7, subE8, subC, subC0, subC1, subC2, subC3, subC4, subC5, subC6]
  unfold ofC
  by_cases c1 : a < C.base 0
  · simp only [c1, xMove, xPickT, xPickF, xNil, xFld, xExt0, xExt1, xExt30, xExt31, xExt32, xAdd, xSub, xMul, xEql, xNeq, xLss, xLeq, xGtr, xGeq, xEqPN, xEqNN, xNePN, xNeNN, xEqBB, xNeBB, xNot, xConv, xLen, xMin, xMax, xIfc, xIfT, xIfF, xIfD, xJoinE, xOs, xCs, xFldV, List.getD_cons_zero, List.getD_cons_succ, Nat.zero_add, Nat.reduceAdd, Mem.get_set_same, Mem.set_set, if_true, if_false, Bool.not_true, Bool.not_false, decide_true, decide_false, decide_eq_true_eq, decide_not, Bool.not_eq_true, Bool.false_eq_true, reduceIte, Int.reduceLT, Int.reduceLE, Int.reduceEq, Int.reduceNeg, Int.reduceAdd, Int.reduceSub, locP_e, gBox_a, gBox_i, gBox_b, gBox_p, gLoad_s, gAlloc_s, gStore_a, gStore_i, gStore_b, gStore_p, sub_z, sub_s, lay_z, lay_s, List.length_cons, List.length_nil, Nat.reduceLeDiff, Nat.le_refl, List.drop_zero, List.drop_succ_cons, List.take_succ_cons, List.take_zero, List.drop_nil, List.cons_append, List.nil_append, List.all_cons, List.all_nil, oneB_i, oneB_b, oneB_p, oneB_sl, Bool.and_true, Nat.reduceLT, Nat.lt_irrefl, Nat.zero_lt_one, gBoxE, gBoxC, subE, subEC, subE0, subE1, subE2, subE3, subE4, subE6, subE7, subE8, subC, subC0, subC1, subC2, subC3, subC4, subC5, subC6]
    rw [if_neg (by omega)]
  · by_cases c2 : C.len ≤ a
    · simp only [c1, c2, xMove, xPickT, xPickF, xNil, xFld, xExt0, xExt1, xExt30, xExt31, xExt32, xAdd, xSub, xMul, xEql, xNeq, xLss, xLeq, xGtr, xGeq, xEqPN, xEqNN, xNePN, xNeNN, xEqBB, xNeBB, xNot, xConv, xLen, xMin, xMax, xIfc, xIfT, xIfF, xIfD, xJoinE, xOs, xCs, xFldV, List.getD_cons_zero, List.getD_cons_succ, Nat.zero_add, Nat.reduceAdd, Mem.get_set_same, Mem.set_set, if_true, if_false, Bool.not_true, Bool.not_false, decide_true, decide_false, decide_eq_true_eq, decide_not, Bool.not_eq_true, Bool.false_eq_true, reduceIte, Int.reduceLT, Int.reduceLE, Int.reduceEq, Int.reduceNeg, Int.reduceAdd, Int.reduceSub, locP_e, gBox_a, gBox_i, gBox_b, gBox_p, gLoad_s, gAlloc_s, gStore_a, gStore_i, gStore_b, gStore_p, sub_z, sub_s, lay_z, lay_s, List.length_cons, List.length_nil, Nat.reduceLeDiff, Nat.le_refl, List.drop_zero, List.drop_succ_cons, List.take_succ_cons, List.take_zero, List.drop_nil, List.cons_append, List.nil_append, List.all_cons, List.all_nil, oneB_i, oneB_b, oneB_p, oneB_sl, Bool.and_true, Nat.reduceLT, Nat.lt_irrefl, Nat.zero_lt_one, gBoxE, gBoxC, subE, subEC, subE0, subE1, subE2, subE3, subE4, subE6, subE7, subE8, subC, subC0, subC1, subC2, subC3, subC4, subC5, subC6]
      rw [if_neg (by omega)]
    · simp only [c1, c2, xQuo (show C.W ≠ 0 by omega), xMove, xPickT, xPickF, xNil, xFld, xExt0, xExt1, xExt30, xExt31, xExt32, xAdd, xSub, xMul, xEql, xNeq, xLss, xLeq, xGtr, xGeq, xEqPN, xEqNN, xNePN, xNeNN, xEqBB, xNeBB, xNot, xConv, xLen, xMin, xMax, xIfc, xIfT, xIfF, xIfD, xJoinE, xOs, xCs, xFldV, List.getD_cons_zero, List.getD_cons_succ, Nat.zero_add, Nat.reduceAdd, Mem.get_set_same, Mem.set_set, if_true, if_false, Bool.not_true, Bool.not_false, decide_true, decide_false, decide_eq_true_eq, decide_not, Bool.not_eq_true, Bool.false_eq_true, reduceIte, Int.reduceLT, Int.reduceLE, Int.reduceEq, Int.reduceNeg, Int.reduceAdd, Int.reduceSub, locP_e, gBox_a, gBox_i, gBox_b, gBox_p, gLoad_s, gAlloc_s, gStore_a, gStore_i, gStore_b, gStore_p, sub_z, sub_s, lay_z, lay_s, List.length_cons, List.length_nil, Nat.reduceLeDiff, Nat.le_refl, List.drop_zero, List.drop_succ_cons, List.take_succ_cons, List.take_zero, List.drop_nil, List.cons_append, List.nil_append, List.all_cons, List.all_nil, oneB_i, oneB_b, oneB_p, oneB_sl, Bool.and_true, Nat.reduceLT, Nat.lt_irrefl, Nat.zero_lt_one, gBoxE, gBoxC, subE, subEC, subE0, subE1, subE2, subE3, subE4, subE6, subE7, subE8, subC, subC0, subC1, subC2, subC3, subC4, subC5, subC6]
      rw [if_pos (by omega), IntWalk.i64_in (a - C.base 0) (by omega), Int.tdiv_eq_ediv_of_nonneg (by omega)]
      have := Int.ediv_le_self C.W (show 0 ≤ a - C.base 0 by omega)
      have := Int.ediv_nonneg (show 0 ≤ a - C.base 0 by omega) (show 0 ≤ C.W by omega)
      rw [IntWalk.i64_in _ (by omega)]
theorem ofC_kind (hC : C.ok) (a : Int) : ofC C a = if (kindOf C a).1 = 9 then (kindOf C a).2.1 else -1 := by
  have hW := hC.W
  have hT := hC.T
  have hS := hC.S
  have hCC := hC.C
  have hl := len_bd hC
  have hb : C.base 0 = 6 + C.T + 2 * C.S + 3 * C.C := by unfold Cf.base; omega
  by_cases h0 : 0 ≤ a
  · by_cases h1 : a < C.len
    · unfold ofC
      cases kind_at hC h0 h1 with
      | epoch h e => rw [h, if_neg (by omega)]; rfl
      | top h e => rw [h, if_neg (by omega)]; rfl
      | «open» j h e => rw [h, if_neg (by omega)]; rfl
      | pin j h e => rw [h, if_neg (by omega)]; rfl
      | slot j h e => rw [h, if_neg (by unfold Cf.slot at e; omega)]; rfl
      | link j h e => rw [h, if_neg (by unfold Cf.slot at e; omega)]; rfl
      | chunk j h e => rw [h, if_neg (by unfold Cf.chunk at e; omega)]; rfl
      | live j h e => rw [h, if_neg (by unfold Cf.chunk at e; omega)]; rfl
      | since j h e => rw [h, if_neg (by unfold Cf.chunk at e; omega)]; rfl
      | word j k h e h0 h1 k0 k1 =>
        have q : a - C.base 0 = k + C.W * j := by rw [e]; unfold Cf.base; omega
        have p0 := Int.mul_nonneg (show 0 ≤ C.W by omega) h0
        rw [h, if_pos (by omega), if_pos rfl, q, Int.add_mul_ediv_left _ _ (show C.W ≠ 0 by omega), Int.ediv_eq_zero_of_lt k0 k1, Int.zero_add]
    · rw [kind_out hC (by omega)]
      unfold ofC; rw [if_neg (by omega)]; rfl
  · have : kindOf C a = (-1, 0, 0) := by unfold kindOf; rw [if_pos (by omega)]
    rw [this]
    unfold ofC; rw [if_neg (by omega)]; rfl

theorem rClass_round {J1 R1 : List Value → List (List Value) → Mem → Prop} {b : Nat} {L : List Value} {i : Nat} {x r : Int} (hi : i < 4) (g : σ.get b = some ⟨L, true⟩) (e : L[i]? = some (.int .i64 r))
    (hk : if x ≤ r then K (.int .i64 (i : Int)) σ else R1 [.int .i64 x, .slice (some ⟨b, 0, none⟩) 4 1, .int .i64 ((i + 1 : Nat) : Int)] [] σ) :
    w_ref04_Class_l6 K J1 R1 [.int .i64 x, .slice (some ⟨b, 0, none⟩) 4 1, .int .i64 (i : Int)] [] σ := by
  have h0 : (0 : Int) ≤ (i : Int) := by omega
  have h1 : (i : Int) < ((4 : Nat) : Int) := by omega
  have q : sub L i 1 false = some (.int .i64 r) := sub_one e
  simp only [w_ref04_Class_l6, w_ref04_Class_l6b, xMove, xPickT, xPickF, xNil, xFld, xExt0, xExt1, xExt30, xExt31, xExt32, xAdd, xSub, xMul, xEql, xNeq, xLss, xLeq, xGtr, xGeq, xEqPN, xEqNN, xNePN, xNeNN, xEqBB, xNeBB, xNot, xConv, xLen, xMin, xMax, xIfc, xIfT, xIfF, xIfD, xJoinE, xOs, xCs, xFldV, List.getD_cons_zero, List.getD_cons_succ, Nat.zero_add, Nat.reduceAdd, Mem.get_set_same, Mem.set_set, if_true, if_false, Bool.not_true, Bool.not_false, decide_true, decide_false, decide_eq_true_eq, decide_not, Bool.not_eq_true, Bool.false_eq_true, reduceIte, Int.reduceLT, Int.reduceLE, Int.reduceEq, Int.reduceNeg, Int.reduceAdd, Int.reduceSub, xIxS h0 h1, Int.toNat_natCast, Nat.mul_one, hLoad_eq g, q]
  rw [if_pos (by omega)]
  by_cases c : x ≤ r
  · rw [if_pos c] at hk ⊢; exact hk
  · rw [if_neg c] at hk ⊢
    rw [IntWalk.i64_in _ (by omega)]; exact hk
theorem c_rClass {n : Int} (hk : ∀ τ, Ext σ τ → K (.int .i64 (classOf n)) τ) : s_ref04_Class [.int .i64 n] K σ := by
  simp only [s_ref04_Class, w_ref04_Class, xMove, xPickT, xPickF, xNil, xFld, xExt0, xExt1, xExt30, xExt31, xExt32, xAdd, xSub, xMul, xEql, xNeq, xLss, xLeq, xGtr, xGeq, xEqPN, xEqNN, xNePN, xNeNN, xEqBB, xNeBB, xNot, xConv, xLen, xMin, xMax, xIfc, xIfT, xIfF, xIfD, xJoinE, xOs, xCs, xFldV, List.getD_cons_zero, List.getD_cons_succ, Nat.zero_add, Nat.reduceAdd, Mem.get_set_same, Mem.set_set, if_true, if_false, Bool.not_true, Bool.not_false, decide_true, decide_false, decide_eq_true_eq, decide_not, Bool.not_eq_true, Bool.false_eq_true, reduceIte, Int.reduceLT, Int.reduceLE, Int.reduceEq, Int.reduceNeg, Int.reduceAdd, Int.reduceSub]
  refine hBuildS_i [.int .i64 2, .int .i64 4, .int .i64 8, .int .i64 16] rfl fun b τ _ g x => ?_
  replace hk := hk τ x
  unfold classOf at hk
  by_cases c : n < 1
  · rw [if_pos c] at hk ⊢; exact hk
  rw [if_neg c] at hk ⊢
  refine xLoop_fold (rClass_round (i := 0) (by decide) g rfl ?_)
  by_cases c1 : n ≤ 2
  · rw [if_pos c1] at hk ⊢; exact hk
  rw [if_neg c1] at hk ⊢
  refine xLoop_fold (rClass_round (i := 1) (by decide) g rfl ?_)
  by_cases c1 : n ≤ 4
  · rw [if_pos c1] at hk ⊢; exact hk
  rw [if_neg c1] at hk ⊢
  refine xLoop_fold (rClass_round (i := 2) (by decide) g rfl ?_)
  by_cases c1 : n ≤ 8
  · rw [if_pos c1] at hk ⊢; exact hk
  rw [if_neg c1] at hk ⊢
  refine xLoop_fold (rClass_round (i := 3) (by decide) g rfl ?_)
  by_cases c1 : n ≤ 16
  · rw [if_pos c1] at hk ⊢; exact hk
  rw [if_neg c1] at hk ⊢
  refine xLoop_fold ?_
  simp only [w_ref04_Class_l6, w_ref04_Class_l6b, w_ref04_Class_j1, w_ref04_Class_j1b, xMove, xPickT, xPickF, xNil, xFld, xExt0, xExt1, xExt30, xExt31, xExt32, xAdd, xSub, xMul, xEql, xNeq, xLss, xLeq, xGtr, xGeq, xEqPN, xEqNN, xNePN, xNeNN, xEqBB, xNeBB, xNot, xConv, xLen, xMin, xMax, xIfc, xIfT, xIfF, xIfD, xJoinE, xOs, xCs, xFldV, List.getD_cons_zero, List.getD_cons_succ, Nat.zero_add, Nat.reduceAdd, Mem.get_set_same, Mem.set_set, if_true, if_false, Bool.not_true, Bool.not_false, decide_true, decide_false, decide_eq_true_eq, decide_not, Bool.not_eq_true, Bool.false_eq_true, reduceIte, Int.reduceLT, Int.reduceLE, Int.reduceEq, Int.reduceNeg, Int.reduceAdd, Int.reduceSub]
  exact hk
theorem c_rRoom {k : Int} (h0 : 0 ≤ k) (h1 : k ≤ 3) (hk : ∀ τ, Ext σ τ → K (.int .i64 (roomOf k)) τ) : s_ref04_Room [.int .i64 k] K σ := by
  simp only [s_ref04_Room, w_ref04_Room, xMove, xPickT, xPickF, xNil, xFld, xExt0, xExt1, xExt30, xExt31, xExt32, xAdd, xSub, xMul, xEql, xNeq, xLss, xLeq, xGtr, xGeq, xEqPN, xEqNN, xNePN, xNeNN, xEqBB, xNeBB, xNot, xConv, xLen, xMin, xMax, xIfc, xIfT, xIfF, xIfD, xJoinE, xOs, xCs, xFldV, List.getD_cons_zero, List.getD_cons_succ, Nat.zero_add, Nat.reduceAdd, Mem.get_set_same, Mem.set_set, if_true, if_false, Bool.not_true, Bool.not_false, decide_true, decide_false, decide_eq_true_eq, decide_not, Bool.not_eq_true, Bool.false_eq_true, reduceIte, Int.reduceLT, Int.reduceLE, Int.reduceEq, Int.reduceNeg, Int.reduceAdd, Int.reduceSub]
  refine hBuildS_i [.int .i64 3, .int .i64 5, .int .i64 9, .int .i64 17] rfl fun b τ _ g x => ?_
  replace hk := hk τ x
  have e : ([.int .i64 3, .int .i64 5, .int .i64 9, .int .i64 17] : List Value)[k.toNat]? = some (.int .i64 (roomOf k)) := by
    rcases (show k = 0 ∨ k = 1 ∨ k = 2 ∨ k = 3 by omega) with rfl | rfl | rfl | rfl <;> rfl
  rw [xIxS h0 (by omega)]
  simp only [Nat.zero_add, Nat.mul_one]
  rw [hLoad_eq g, sub_one e, xOs]; exact hk
theorem room_0 : roomOf 0 = 3 := rfl
theorem room_1 : roomOf 1 = 5 := rfl
theorem room_2 : roomOf 2 = 9 := rfl
theorem room_3 : roomOf 3 = 17 := rfl

end Go.Fl
