/- What the claim leans on, part 6: own readings of the program's functions, what they come to, laws of them. No condition. -/
import Derived.Test.YtdpojblcjobaoaaZAccessCounts5
namespace Go.Fl
open Go
set_option linter.unusedVariables false
set_option linter.unusedSimpArgs false
variable {N : Nm} {A B : Ar} {σ : Mem} {K : Value → Mem → Prop} {C : Cf} {who : Int}
def kdO (o : Int) : Int := if o < 0 then 1 else 3
def vO (o : Int) : Int := if o < 0 then 0 else o + 1
def oO (o : Int) : Int := if o < 0 then 0 else o
structure OnC (C : Cf) (n a W : Int) (L : Int → Bool) (M : Int → Ak) (old : Int → Int) (did bb : Int) (A : Ar) : Prop where
  ev : Ev C n false 1 a W bb A
  v : A.w (a + 1) = did ∧ 0 ≤ did ∧ did ≤ bb
  oldb : ∀ k, 0 ≤ k → k < 3 → -1 ≤ old k ∧ old k ≤ did
  each : ∀ k, 0 ≤ k → k < 3 → L k = true → Lo C n false 1 W (kdO (old k)) 0 (vO (old k)) (oO (old k)) (M k) ∧ ((M k).a.pc = 5 ∨ (M k).a.pc = 6 → 0 ≤ (M k).a.cell ∧ (M k).a.cell ≤ did)
theorem updX_self {α : Type} (f : Int → α) (i : Int) : updX f i (f i) = f := by funext j; unfold updX; split <;> simp_all
theorem OnC.step (hC : C.ok) {n a W did bb k : Int} {L : Int → Bool} {M : Int → Ak} {old : Int → Int} (h : OnC C n a W L M old did bb A) (k0 : 0 ≤ k) (k1 : k < 3) (hL : L k = true) (hb : bb < 1000000000) :
    (M k).fit C A ∧ ((((M k).step C who A).1 = false ∧ OnC C n a W L (updX M k ((M k).step C who A).2.1) old did (bb + 1) ((M k).step C who A).2.2) ∨
      (((M k).step C who A).1 = true ∧ ∃ did', (((M k).step C who A).2.1.a.oE = 0 ∧ old k < 0 ∧ did' = did ∨ ((M k).step C who A).2.1.a.oE = 0 ∧ 0 ≤ old k ∧ did' = did + 1 ∨ ((M k).step C who A).2.1.a.oE = 8 ∧ did' = did) ∧
        (0 ≤ ((M k).step C who A).2.1.a.oV ∧ ((M k).step C who A).2.1.a.oV ≤ did) ∧
        ∀ o', -1 ≤ o' → o' ≤ did' → OnC C n a W (updX L k false) (updX M k ((M k).step C who A).2.1) (updX old k o') did' (bb + 1) ((M k).step C who A).2.2)) := by
  obtain ⟨hLo, hcl⟩ := h.each k k0 k1 hL
  obtain ⟨f1, hR, hE, hs⟩ := h.ev.step (who := who) hC hLo (by omega)
  have hok := h.oldb k k0 k1
  obtain ⟨hv, hv0, hv1⟩ := h.v
  refine ⟨f1, ?_⟩
  generalize (M k).step C who A = r at *
  obtain ⟨d, m', A'⟩ := r
  dsimp only at *
  have same : A'.w = A.w → Lo C n false 1 W (kdO (old k)) 0 (vO (old k)) (oO (old k)) m' → (m'.a.pc = 5 ∨ m'.a.pc = 6 → 0 ≤ m'.a.cell ∧ m'.a.cell ≤ did) → OnC C n a W L (updX M k m') old did (bb + 1) A' := by
    intro e q1 q2
    refine ⟨hE, by rw [e]; omega, h.oldb, fun l l0 l1 hl => ?_⟩
    by_cases el : l = k
    · subst el; rw [updX_same]; exact ⟨q1, q2⟩
    · rw [updX_ne el]; exact h.each l l0 l1 hl
  have over : ∀ did', A'.w (a + 1) = did' → did ≤ did' → did' ≤ did + 1 → ∀ o', -1 ≤ o' → o' ≤ did' → OnC C n a W (updX L k false) (updX M k m') (updX old k o') did' (bb + 1) A' := by
    intro did' e q1 q2 o' o0 o1
    refine ⟨hE, ⟨e, by omega, by omega⟩, fun l l0 l1 => ?_, fun l l0 l1 hl => ?_⟩
    · by_cases el : l = k
      · subst el; rw [updX_same]; exact ⟨o0, o1⟩
      · rw [updX_ne el]; have := h.oldb l l0 l1; omega
    · have el : l ≠ k := by rintro rfl; rw [updX_same] at hl; cases hl
      rw [updX_ne el] at hl ⊢
      rw [updX_ne el]
      obtain ⟨q3, q4⟩ := h.each l l0 l1 hl
      exact ⟨q3, fun p => by have := q4 p; omega⟩
  have hz : a + 1 + 0 = a + 1 := by omega
  cases hR with
  | see p q e s => exact .inl ⟨rfl, same rfl q fun x => by omega⟩
  | head p q e s => exact .inl ⟨rfl, same rfl q fun x => by omega⟩
  | index p q => exact absurd ⟨by decide, by decide⟩ q
  | load p hi q e s e2 => exact .inl ⟨rfl, same rfl q fun x => by rw [e, hz, hv]; omega⟩
  | lay p hi hq e o =>
    obtain ⟨c0, c1⟩ := hcl (.inl p)
    have cv : ceV (M k).a.cell = (M k).a.cell := by unfold ceV; omega
    have hold : 0 ≤ old k ∧ old k = did := by
      by_cases x : old k < 0
      · exfalso; apply hq; left; unfold kdO; rw [if_pos x]
      · refine ⟨by omega, ?_⟩
        have : ¬ (ceV (M k).a.cell ≠ oO (old k)) := fun y => hq (.inr ⟨by unfold kdO; rw [if_neg x], y⟩)
        rw [cv] at this
        unfold oO at this
        rw [if_neg x] at this
        rw [hz, hv] at e
        omega
    refine .inr ⟨rfl, did + 1, .inr (.inl ⟨o.1, hold.1, rfl⟩), by rw [o.2.2.1, cv]; omega, over _ ?_ (by omega) (by omega)⟩
    show upd A.w (a + 1 + 0) (putCell (vO (old k)) false 0) (a + 1) = did + 1
    have : vO (old k) = did + 1 := by unfold vO; rw [if_neg (by omega), hold.2]
    rw [hz, upd_same, this, putCell_lay (by omega)]
  | again p hi hq e q e2 => exact .inl ⟨rfl, same rfl q fun x => by omega⟩
  | look p hi hq o =>
    obtain ⟨c0, c1⟩ := hcl (.inr p)
    have cv : ceV (M k).a.cell = (M k).a.cell := by unfold ceV; omega
    refine .inr ⟨rfl, did, ?_, by rw [o.2.2.1, cv]; omega, over _ hv (by omega) (by omega)⟩
    by_cases x : old k < 0
    · left; refine ⟨?_, x, rfl⟩
      rw [o.1]; unfold kdO; rw [if_pos x]; rfl
    · right; right; refine ⟨?_, rfl⟩
      rw [o.1]; unfold kdO; rw [if_neg x]; rfl
theorem OnC.more (hC : C.ok) {n a W did bb k : Int} {L : Int → Bool} {M : Int → Ak} {old : Int → Int} (h : OnC C n a W L M old did bb A) (k0 : 0 ≤ k) (k1 : k < 3) : OnC C n a W (updX L k true) (updX M k (Ak.new (kdO (old k)) n 0 (vO (old k)) (oO (old k)) false)) old did bb A := by
  refine ⟨h.ev, h.v, h.oldb, fun l l0 l1 hl => ?_⟩
  by_cases el : l = k
  · subst el; rw [updX_same]; exact ⟨Lo.new hC, fun x => by rcases x with x | x <;> cases x⟩
  · rw [updX_ne el] at hl ⊢; exact h.each l l0 l1 hl
theorem OnC.mono {n a W did bb b2 : Int} {L : Int → Bool} {M : Int → Ak} {old : Int → Int} (h : OnC C n a W L M old did bb A) (hb : bb ≤ b2) : OnC C n a W L M old did b2 A :=
  ⟨h.ev.mono hb, ⟨h.v.1, h.v.2.1, by have := h.v.2.2; omega⟩, h.oldb, h.each⟩
def pV (L : Int → Bool) (P : Int → Nat) (k : Int) : Value := if L k = true then .pointer (some ⟨P k, 0, none⟩) else .pointer none
theorem pV_off {L : Int → Bool} {P : Int → Nat} {k : Int} : updX (pV L P) k (.pointer none) = pV (updX L k false) P := by
  funext j; unfold pV updX; split <;> simp_all
theorem pV_on {L : Int → Bool} {P : Int → Nat} {k : Int} {p : Nat} : updX (pV L P) k (.pointer (some ⟨p, 0, none⟩)) = pV (updX L k true) (updX P k p) := by
  funext j; unfold pV updX; split <;> simp_all
theorem iV_upd {f : Int → Int} {k x : Int} : updX (fun j => Value.int .i64 (f j)) k (.int .i64 x) = fun j => Value.int .i64 (updX f k x j) := by
  funext j; unfold updX; split <;> rfl
def On3 (L : Int → Bool) (k : Int) : Prop := (0 ≤ k ∧ k < 3) ∧ L k = true
theorem law_AccessCounts (σ : Mem) (a0 : Int) (w0 : (Lit.int .i64 a0).wf = true) (s : Value) (len : Nat) (cs : List Value) (sl : Sl σ 1 len cs s) (hm : len ≤ maxLen) (hf : FlatL (List.replicate len [some .i64]).flatten cs) :
    s_law10_AccessCounts [.int .i64 a0, s] (fun v _ => v = .bool true) σ := by
  obtain ⟨g, hgA, _⟩ := sl.argI hf
  simp only [s_law10_AccessCounts, w_law10_AccessCounts, ruS, ruL, ruE, Nat.reduceAdd, reduceIte, Int.reduceLT, Int.reduceLE, Int.reduceEq, Int.reduceNeg, Int.reduceAdd, Int.reduceSub, Nat.reduceLeDiff, Nat.reduceLT]
  have hC : (cA 4 4 2 20).ok := cA_ok (by omega) (by omega) (by omega) (by omega)
  refine c_Arena (C := cA 4 4 2 20) hC rfl rfl rfl fun N A τ hN hF hA hE hfr => ?_
  have f0 : ∀ (x y z w : Value) (K : Value → Prop), xF (fFldV 0 1 false) [.agg #[x, y, z, w]] K = K x := fun _ _ _ _ K => nr rfl
  have f1 : ∀ (x y z w : Value) (K : Value → Prop), xF (fFldV 1 1 false) [.agg #[x, y, z, w]] K = K y := fun _ _ _ _ K => nr rfl
  have f2 : ∀ (x y z w : Value) (K : Value → Prop), xF (fFldV 2 1 false) [.agg #[x, y, z, w]] K = K z := fun _ _ _ _ K => nr rfl
  have gU : ∀ {k : Nat} {x y z w : Int}, gStore 4 [.pointer (some ⟨k, 0, some 0⟩), .agg #[.int .i64 x, .int .u64 y, .int .i64 z, .int .i64 w]] [.int .i64 0, .int .u64 0, .int .i64 0, .int .i64 0] = some [.int .i64 x, .int .u64 y, .int .i64 z, .int .i64 w] := fun {_ _ _ _ _} => rfl
  have g5 : ∀ {k : Nat} {x y z w u x' y' z' w' u' : Int}, gStore 5 [.pointer (some ⟨k, 0, some 0⟩), .agg #[.int .i64 x, .int .u64 y, .int .i64 z, .int .i64 w, .int .i64 u]] [.int .i64 x', .int .u64 y', .int .i64 z', .int .i64 w', .int .i64 u'] = some [.int .i64 x, .int .u64 y, .int .i64 z, .int .i64 w, .int .i64 u] := fun {_ _ _ _ _ _ _ _ _ _ _} => rfl
  have s5 : ∀ x y z u w : Value, sub [x, y, z, u, w] 0 5 true = some (.agg #[x, y, z, u, w]) := fun _ _ _ _ _ => rfl
  have bp : ∀ K : Value → Prop, xF (fBuild [(0, 1), (1, 1), (2, 1)] [.pointer none, .pointer none, .pointer none] []) [] K = K (.agg #[.pointer none, .pointer none, .pointer none]) := fun K => nr rfl
  have gp : gStore 3 [.pointer (some ⟨8, 0, some 0⟩), .agg #[.pointer none, .pointer none, .pointer none]] [.pointer none, .pointer none, .pointer none] = some (l3 (pV (fun _ => false) fun _ => 0)) := rfl
  have gb : gStore 3 [.pointer (some ⟨9, 0, some 0⟩), .agg #[.int .i64 (-1), .int .i64 (-1), .int .i64 (-1)]] [.int .i64 0, .int .i64 0, .int .i64 0] = some (l3 fun j => Value.int .i64 ((fun _ => -1) j)) := rfl
  have bo : ∀ K : Value → Prop, xF (fBuild [(0, 1), (1, 1), (2, 1)] [.int .i64 0, .int .i64 0, .int .i64 0] [0, 1, 2]) [.int .i64 (-1), .int .i64 (-1), .int .i64 (-1)] K = K (.agg #[.int .i64 (-1), .int .i64 (-1), .int .i64 (-1)]) := fun K => nr rfl
  have b3 : ∀ (x y : Int) (K : Value → Prop), xF (fBuild [(0, 1), (1, 1), (2, 1), (3, 1), (4, 1)] [.int .i64 0, .int .u64 0, .int .i64 0, .int .i64 0, .int .i64 0] [0, 1, 4, 3]) [.int .i64 3, .int .u64 65536, .int .i64 x, .int .i64 y] K = K (.agg #[.int .i64 3, .int .u64 65536, .int .i64 0, .int .i64 y, .int .i64 x]) := fun _ _ K => nr rfl
  have b1 : ∀ (K : Value → Prop), xF (fBuild [(0, 1), (1, 1), (2, 1), (3, 1), (4, 1)] [.int .i64 0, .int .u64 0, .int .i64 0, .int .i64 0, .int .i64 0] [0, 1]) [.int .i64 1, .int .u64 65536] K = K (.agg #[.int .i64 1, .int .u64 65536, .int .i64 0, .int .i64 0, .int .i64 0]) := fun K => nr rfl
  simp only [c_awake10, gStoreE, w_law10_AccessCounts_j1, w_law10_AccessCounts_j1b, ruS, ruL, ruE, Nat.reduceAdd, reduceIte, Int.reduceLT, Int.reduceLE, Int.reduceEq, Int.reduceNeg, Int.reduceAdd, Int.reduceSub, Nat.reduceLeDiff, Nat.reduceLT]
  generalize hCe : cA 4 4 2 20 = C at *
  refine c_First hN hC hA hF (by decide) fun oV oS A2 τ2 hfst hoS hA2 k2 => ?_
  have ext2 := hE.keep' k2 hfr.all
  have hev := hfst.ev hC
  have hz0 : A2.w (C.base 0 + 1) = 0 := by have := hfst.cz 0 (by decide) (by decide); rw [show C.base 0 + 1 + 0 = C.base 0 + 1 by omega] at this; exact this
  generalize C.base 0 = a at *
  generalize putSlot 1 a 1 0 = W at *
  clear hfst hF
  simp only [f1, bp, bo, gp, gb, w_law10_AccessCounts_j2, w_law10_AccessCounts_j2b, ruS, ruL, ruE, Nat.reduceAdd, reduceIte, Int.reduceLT, Int.reduceLE, Int.reduceEq, Int.reduceNeg, Int.reduceAdd, Int.reduceSub, Nat.reduceLeDiff, Nat.reduceLT]
  have on0 : OnC C 65536 a W (fun _ => false) (fun _ => Ak.new 0 0 0 0 0 false) (fun _ => -1) 0 1000000 A2 :=
    ⟨hev, ⟨hz0, Int.le_refl 0, by decide⟩, fun k _ _ => ⟨Int.le_refl _, (by decide : (-1 : Int) ≤ 0)⟩, fun k _ _ q => by cases q⟩
  have ho0 : Ho N σ (On3 fun _ => false) (fun _ => 0) (fun _ => []) (fun _ => Ak.new 0 0 0 0 0 false) τ2 := (Ho.nil ext2).less fun k q => by cases q.2
  -- the last part: one behind the other
  have part2 : ∀ L M P O old did A τ, isA N A τ → OnC C 65536 a W L M old did 2000000 A → Ho N σ (On3 L) P O M τ → w_law10_AccessCounts_j2 (fun v _ => v = .bool true) [.int .u64 65536, .int .i64 did] [N.el C 0, l3 (pV L P), l3 fun j => .int .i64 (old j)] τ := by
    intro L M P O old did A τ hA hOn hHo
    simp only [w_law10_AccessCounts_j2, w_law10_AccessCounts_j2b, ruS, ruL, ruE, Nat.reduceAdd, reduceIte, Int.reduceLT, Int.reduceLE, Int.reduceEq, Int.reduceNeg, Int.reduceAdd, Int.reduceSub, Nat.reduceLeDiff, Nat.reduceLT]
    refine xLoop_r (fun x ts ls τ => ∃ k L M P O did A, x = (3 - k).toNat ∧ ts = [.int .u64 65536, .int .i64 did, .int .i64 k] ∧ ls = [N.el C 0, l3 (pV L P), l3 fun j => .int .i64 (old j)] ∧ 0 ≤ k ∧ k ≤ 3 ∧ isA N A τ ∧ OnC C 65536 a W L M old did (2000000 + 100 * k) A ∧ Ho N σ (On3 L) P O M τ) ?_ (n := 3)
      ⟨0, L, M, P, O, did, A, rfl, rfl, rfl, Int.le_refl 0, by decide, hA, hOn.mono (by omega), hHo⟩
    rintro x ts ls τ1 ⟨k, L, M, P, O, did, A, rfl, rfl, rfl, k0, k1, hA, hOn, hHo⟩ R hR
    simp only [w_law10_AccessCounts_l28, w_law10_AccessCounts_l28b, ruS, ruL, ruE, Nat.reduceAdd, reduceIte, Int.reduceLT, Int.reduceLE, Int.reduceEq, Int.reduceNeg, Int.reduceAdd, Int.reduceSub, Nat.reduceLeDiff, Nat.reduceLT]
    by_cases hk : k < 3
    · simp only [hk, ruS, ruL, ruE, Nat.reduceAdd, reduceIte, Int.reduceLT, Int.reduceLE, Int.reduceEq, Int.reduceNeg, Int.reduceAdd, Int.reduceSub, Nat.reduceLeDiff, Nat.reduceLT]
      have fin : ∀ L M P O did A τ, isA N A τ → OnC C 65536 a W L M old did (2000000 + 100 * k + 60) A → Ho N σ (On3 L) P O M τ → w_law10_AccessCounts_j4 (fun v _ => v = .bool true) (w_law10_AccessCounts_j3 fun v _ => v = .bool true) R [.int .u64 65536, .int .i64 did, .int .i64 k] [N.el C 0, l3 (pV L P), l3 fun j => .int .i64 (old j)] τ := by
        intro L M P O did A τ h1 h2 h3
        simp only [w_law10_AccessCounts_j4, w_law10_AccessCounts_j4b, ruS, ruL, ruE, Nat.reduceAdd, reduceIte, Int.reduceLT, Int.reduceLE, Int.reduceEq, Int.reduceNeg, Int.reduceAdd, Int.reduceSub, Nat.reduceLeDiff, Nat.reduceLT]
        rw [IntWalk.i64_in (k + 1) (by omega)]
        exact hR (3 - (k + 1)).toNat _ _ _ (by omega) ⟨k + 1, L, M, P, O, did, A, rfl, rfl, rfl, by omega, by omega, h1, h2.mono (by omega), h3⟩
      refine xLoop_r (fun x ts ls τ => ∃ i L M P O did A, x = (60 - i).toNat ∧ ts = [.int .u64 65536, .int .i64 did, .int .i64 k, .int .i64 i] ∧ ls = [N.el C 0, l3 (pV L P), l3 fun j => .int .i64 (old j)] ∧ 0 ≤ i ∧ i ≤ 60 ∧ isA N A τ ∧ OnC C 65536 a W L M old did (2000000 + 100 * k + i) A ∧ Ho N σ (On3 L) P O M τ) ?_ (n := 60)
        ⟨0, L, M, P, O, did, A, rfl, rfl, rfl, Int.le_refl 0, by decide, hA, hOn.mono (by omega), hHo⟩
      rintro x ts ls τ2 ⟨i, L, M, P, O, did, A, rfl, rfl, rfl, i0, i1, hA, hOn, hHo⟩ R3 hR3
      have k3 : k < (3 : Nat) := by omega
      simp only [w_law10_AccessCounts_l31, w_law10_AccessCounts_l31b, ruS, ruL, ruE, Nat.reduceAdd, reduceIte, Int.reduceLT, Int.reduceLE, Int.reduceEq, Int.reduceNeg, Int.reduceAdd, Int.reduceSub, Nat.reduceLeDiff, Nat.reduceLT]
      by_cases hi : i < 60
      · cases hL : L k with
        | false =>
          have e1 : pV L P k = .pointer none := by unfold pV; rw [hL]; rfl
          simp only [hi, xIxA k0 k3, l3_sub k0 hk, e1, ruS, ruL, ruE, Nat.reduceAdd, reduceIte, Int.reduceLT, Int.reduceLE, Int.reduceEq, Int.reduceNeg, Int.reduceAdd, Int.reduceSub, Nat.reduceLeDiff, Nat.reduceLT]
          exact fin L M P O did A τ2 hA (hOn.mono (by omega)) hHo
        | true =>
          have e1 : pV L P k = .pointer (some ⟨P k, 0, none⟩) := by unfold pV; rw [hL]; rfl
          simp only [hi, xIxA k0 k3, l3_sub k0 hk, e1, w_law10_AccessCounts_j5, w_law10_AccessCounts_j5b, ruS, ruL, ruE, Nat.reduceAdd, reduceIte, Int.reduceLT, Int.reduceLE, Int.reduceEq, Int.reduceNeg, Int.reduceAdd, Int.reduceSub, Nat.reduceLeDiff, Nat.reduceLT]
          have nxt : ∀ L M P O did A τ, isA N A τ → OnC C 65536 a W L M old did (2000000 + 100 * k + i + 1) A → Ho N σ (On3 L) P O M τ → w_law10_AccessCounts_j6 (fun v _ => v = .bool true) (w_law10_AccessCounts_j3 fun v _ => v = .bool true) R (w_law10_AccessCounts_j4 (fun v _ => v = .bool true) (w_law10_AccessCounts_j3 fun v _ => v = .bool true) R) R3 [.int .u64 65536, .int .i64 did, .int .i64 k, .int .i64 i] [N.el C 0, l3 (pV L P), l3 fun j => .int .i64 (old j)] τ := by
            intro L M P O did A τ h1 h2 h3
            simp only [w_law10_AccessCounts_j6, w_law10_AccessCounts_j6b, ruS, ruL, ruE, Nat.reduceAdd, reduceIte, Int.reduceLT, Int.reduceLE, Int.reduceEq, Int.reduceNeg, Int.reduceAdd, Int.reduceSub, Nat.reduceLeDiff, Nat.reduceLT]
            rw [IntWalk.i64_in (i + 1) (by omega)]
            exact hR3 (60 - (i + 1)).toNat _ _ _ (by omega) ⟨i + 1, L, M, P, O, did, A, rfl, rfl, rfl, by omega, by omega, h1, by rw [show 2000000 + 100 * k + (i + 1) = 2000000 + 100 * k + i + 1 by omega]; exact h2, h3⟩
          obtain ⟨s1, s3⟩ := hOn.step (who := 0) hC k0 hk hL (by omega)
          have hdid := hOn.v
          refine c_Acc_Step hN hC hA (hHo.ob k ⟨⟨k0, hk⟩, hL⟩) hOn.ev.ok.w hOn.ev.n1 s1 fun O' τ6 hO' hA6 hO6 hK6 => ?_
          obtain ⟨O2, hHo6⟩ := hHo.step hfr ⟨⟨k0, hk⟩, hL⟩ hO' hO6 hK6
          generalize (M k).step C 0 A = r at *
          obtain ⟨dn, m', A6⟩ := r
          dsimp only at *
          rcases s3 with ⟨e, h'⟩ | ⟨e, did', hE, hV, h'⟩
          · subst e
            simp only [ruS, ruL, ruE, Nat.reduceAdd, reduceIte, Int.reduceLT, Int.reduceLE, Int.reduceEq, Int.reduceNeg, Int.reduceAdd, Int.reduceSub, Nat.reduceLeDiff, Nat.reduceLT]
            exact nxt _ _ _ _ _ _ _ hA6 h' hHo6
          · subst e
            have ho' := hOn.oldb k k0 hk
            have hoff : Ho N σ (On3 (updX L k false)) P O2 (updX M k m') τ6 := hHo6.less fun l q => ⟨q.1, by
              by_cases el : l = k
              · have := q.2; rw [el, updX_same] at this; cases this
              · have := q.2; rw [updX_ne el] at this; exact this⟩
            have h2 := h' (old k) ho'.1 (by omega)
            rw [updX_self] at h2
            have st : w_law10_AccessCounts_j7 (fun v _ => v = .bool true) (w_law10_AccessCounts_j3 fun v _ => v = .bool true) R (w_law10_AccessCounts_j4 (fun v _ => v = .bool true) (w_law10_AccessCounts_j3 fun v _ => v = .bool true) R) R3
                (w_law10_AccessCounts_j6 (fun v _ => v = .bool true) (w_law10_AccessCounts_j3 fun v _ => v = .bool true) R (w_law10_AccessCounts_j4 (fun v _ => v = .bool true) (w_law10_AccessCounts_j3 fun v _ => v = .bool true) R) R3) [.int .u64 65536, .int .i64 did', .int .i64 k, .int .i64 i] [N.el C 0, l3 (pV L P), l3 fun j => .int .i64 (old j)] τ6 := by
              simp only [w_law10_AccessCounts_j7, w_law10_AccessCounts_j7b, xIxA k0 k3, l3_set k0 hk (show cellsOf (.pointer none) 1 = some [.pointer none] from rfl) rfl, pV_off, ruS, ruL, ruE, Nat.reduceAdd, reduceIte, Int.reduceLT, Int.reduceLE, Int.reduceEq, Int.reduceNeg, Int.reduceAdd, Int.reduceSub, Nat.reduceLeDiff, Nat.reduceLT]
              exact nxt _ _ _ _ _ _ _ hA6 h2 hoff
            simp only [ruS, ruL, ruE, Nat.reduceAdd, reduceIte, Int.reduceLT, Int.reduceLE, Int.reduceEq, Int.reduceNeg, Int.reduceAdd, Int.reduceSub, Nat.reduceLeDiff, Nat.reduceLT]
            refine AOb.done hA6 hO6 ?_
            rcases hE with ⟨q1, q2, rfl⟩ | ⟨q1, q2, rfl⟩ | ⟨q1, rfl⟩
            · simp only [f0, q1, show ¬ 0 ≤ old k by omega, xIxA k0 k3, l3_sub k0 hk, w_law10_AccessCounts_j8, w_law10_AccessCounts_j8b, ruS, ruL, ruE, Nat.reduceAdd, reduceIte, Int.reduceLT, Int.reduceLE, Int.reduceEq, Int.reduceNeg, Int.reduceAdd, Int.reduceSub, Nat.reduceLeDiff, Nat.reduceLT]
              exact st
            · simp only [f0, q1, q2, xIxA k0 k3, l3_sub k0 hk, w_law10_AccessCounts_j8, w_law10_AccessCounts_j8b, ruS, ruL, ruE, Nat.reduceAdd, reduceIte, Int.reduceLT, Int.reduceLE, Int.reduceEq, Int.reduceNeg, Int.reduceAdd, Int.reduceSub, Nat.reduceLeDiff, Nat.reduceLT]
              rw [IntWalk.i64_in (did + 1) (by omega)]
              exact st
            · simp only [f0, q1, w_law10_AccessCounts_j8, w_law10_AccessCounts_j8b, ruS, ruL, ruE, Nat.reduceAdd, reduceIte, Int.reduceLT, Int.reduceLE, Int.reduceEq, Int.reduceNeg, Int.reduceAdd, Int.reduceSub, Nat.reduceLeDiff, Nat.reduceLT]
              exact st
      · simp only [hi, ruS, ruL, ruE, Nat.reduceAdd, reduceIte, Int.reduceLT, Int.reduceLE, Int.reduceEq, Int.reduceNeg, Int.reduceAdd, Int.reduceSub, Nat.reduceLeDiff, Nat.reduceLT]
        exact fin L M P O did A τ2 hA (hOn.mono (by omega)) hHo
    · simp only [hk, w_law10_AccessCounts_j3, w_law10_AccessCounts_j3b, b1, ruS, ruL, ruE, Nat.reduceAdd, reduceIte, Int.reduceLT, Int.reduceLE, Int.reduceEq, Int.reduceNeg, Int.reduceAdd, Int.reduceSub, Nat.reduceLeDiff, Nat.reduceLT]
      obtain ⟨hv, hv0, hv1⟩ := hOn.v
      refine c_AccL hN hC hA hOn.ev.ol hOn.ev.ok (by omega) hOn.ev.n1 hOn.ev.n2 fun m A7 τ7 hD hA7 hK7 => ?_
      have hval : m.a.oV = did := by
        rcases hD.r with ⟨q, _⟩ | ⟨_, _, q, _⟩
        · exact absurd ⟨by decide, by decide⟩ q
        · rw [q, show (a + 1 + (Ak.new 1 65536 0 0 0 false).a.ix) = a + 1 from by show a + 1 + 0 = a + 1; omega, hv]; unfold ceV; omega
      simp only [f2, hval, ruS, ruL, ruE, Nat.reduceAdd, reduceIte, Int.reduceLT, Int.reduceLE, Int.reduceEq, Int.reduceNeg, Int.reduceAdd, Int.reduceSub, Nat.reduceLeDiff, Nat.reduceLT]
  refine xLoop_r (fun x ts ls τ => ∃ i L M P O old did A, x = (500 - i).toNat ∧ ts = [s, .int .u64 65536, .int .i64 did, .int .i64 i] ∧ ls = [N.el C 0, l3 (pV L P), l3 fun j => .int .i64 (old j)] ∧ 0 ≤ i ∧ i ≤ 500 ∧ isA N A τ ∧ OnC C 65536 a W L M old did (1000000 + i) A ∧ Ho N σ (On3 L) P O M τ) ?_ (n := 500)
    ⟨0, fun _ => false, fun _ => Ak.new 0 0 0 0 0 false, fun _ => 0, fun _ => [], fun _ => -1, 0, A2, rfl, rfl, rfl, Int.le_refl 0, by decide, hA2, on0, ho0⟩
  rintro x ts ls τ5 ⟨t, L, M, P, O, old, did, A5, rfl, rfl, rfl, t0, t1, hA5, hOn, hHo⟩ R hR
  have hg5 := hgA.keep hHo.ext
  simp only [w_law10_AccessCounts_l8, w_law10_AccessCounts_l8b, hg5.len, ruS, ruL, ruE, Nat.reduceAdd, reduceIte, Int.reduceLT, Int.reduceLE, Int.reduceEq, Int.reduceNeg, Int.reduceAdd, Int.reduceSub, Nat.reduceLeDiff, Nat.reduceLT]
  by_cases c1 : t < len
  rotate_left
  · simp only [c1, ruS, ruL, ruE, Nat.reduceAdd, reduceIte, Int.reduceLT, Int.reduceLE, Int.reduceEq, Int.reduceNeg, Int.reduceAdd, Int.reduceSub, Nat.reduceLeDiff, Nat.reduceLT]; exact part2 L M P O old did A5 τ5 hA5 (hOn.mono (by omega)) hHo
  by_cases c2 : t < 500
  rotate_left
  · simp only [c1, c2, ruS, ruL, ruE, Nat.reduceAdd, reduceIte, Int.reduceLT, Int.reduceLE, Int.reduceEq, Int.reduceNeg, Int.reduceAdd, Int.reduceSub, Nat.reduceLeDiff, Nat.reduceLT]; exact part2 L M P O old did A5 τ5 hA5 (hOn.mono (by omega)) hHo
  simp only [c1, c2, w_law10_AccessCounts_j9, w_law10_AccessCounts_j9b, ruS, ruL, ruE, Nat.reduceAdd, reduceIte, Int.reduceLT, Int.reduceLE, Int.reduceEq, Int.reduceNeg, Int.reduceAdd, Int.reduceSub, Nat.reduceLeDiff, Nat.reduceLT]
  rw [hg5.ix t0 c1]
  obtain ⟨pk, k0, k1⟩ := pickN (g t) (show (0 : Int) < 3 by decide) (by decide)
  simp only [xRem (show (3 : Int) ≠ 0 by decide), pk, ruS, ruL, ruE, Nat.reduceAdd, reduceIte, Int.reduceLT, Int.reduceLE, Int.reduceEq, Int.reduceNeg, Int.reduceAdd, Int.reduceSub, Nat.reduceLeDiff, Nat.reduceLT]
  generalize ((g t).tmod 3 + 3).tmod 3 = k at *
  have k3 : k < (3 : Nat) := by omega
  have nxt : ∀ L M P O old did A τ, isA N A τ → OnC C 65536 a W L M old did (1000000 + t + 1) A → Ho N σ (On3 L) P O M τ → w_law10_AccessCounts_j10 (fun v _ => v = .bool true) (w_law10_AccessCounts_j2 fun v _ => v = .bool true) R [s, .int .u64 65536, .int .i64 did, .int .i64 t] [N.el C 0, l3 (pV L P), l3 fun j => .int .i64 (old j)] τ := by
    intro L M P O old did A τ h1 h2 h3
    simp only [w_law10_AccessCounts_j10, w_law10_AccessCounts_j10b, ruS, ruL, ruE, Nat.reduceAdd, reduceIte, Int.reduceLT, Int.reduceLE, Int.reduceEq, Int.reduceNeg, Int.reduceAdd, Int.reduceSub, Nat.reduceLeDiff, Nat.reduceLT]
    rw [IntWalk.i64_in (t + 1) (by omega)]
    exact hR (500 - (t + 1)).toNat _ _ _ (by omega) ⟨t + 1, L, M, P, O, old, did, A, rfl, rfl, rfl, by omega, by omega, h1, by rw [show 1000000 + (t + 1) = 1000000 + t + 1 by omega]; exact h2, h3⟩
  have go11 : ∀ L M P O A τ, L k = true → isA N A τ → OnC C 65536 a W L M old did (1000000 + t) A → Ho N σ (On3 L) P O M τ → w_law10_AccessCounts_j11 (fun v _ => v = .bool true) (w_law10_AccessCounts_j2 fun v _ => v = .bool true) R (w_law10_AccessCounts_j10 (fun v _ => v = .bool true) (w_law10_AccessCounts_j2 fun v _ => v = .bool true) R) [s, .int .u64 65536, .int .i64 did, .int .i64 t, .int .i64 k] [N.el C 0, l3 (pV L P), l3 fun j => .int .i64 (old j)] τ := by
    intro L M P O A τ hL hA hOn hHo
    have e1 : pV L P k = .pointer (some ⟨P k, 0, none⟩) := by unfold pV; rw [hL]; rfl
    simp only [w_law10_AccessCounts_j11, w_law10_AccessCounts_j11b, xIxA k0 k3, l3_sub k0 k1, e1, ruS, ruL, ruE, Nat.reduceAdd, reduceIte, Int.reduceLT, Int.reduceLE, Int.reduceEq, Int.reduceNeg, Int.reduceAdd, Int.reduceSub, Nat.reduceLeDiff, Nat.reduceLT]
    obtain ⟨s1, s3⟩ := hOn.step (who := 0) hC k0 k1 hL (by omega)
    have hdid := hOn.v
    refine c_Acc_Step hN hC hA (hHo.ob k ⟨⟨k0, k1⟩, hL⟩) hOn.ev.ok.w hOn.ev.n1 s1 fun O' τ6 hO' hA6 hO6 hK6 => ?_
    obtain ⟨O2, hHo6⟩ := hHo.step hfr ⟨⟨k0, k1⟩, hL⟩ hO' hO6 hK6
    generalize (M k).step C 0 A = r at *
    obtain ⟨dn, m', A6⟩ := r
    dsimp only at *
    rcases s3 with ⟨e, h'⟩ | ⟨e, did', hE, hV, h'⟩
    · subst e
      simp only [ruS, ruL, ruE, Nat.reduceAdd, reduceIte, Int.reduceLT, Int.reduceLE, Int.reduceEq, Int.reduceNeg, Int.reduceAdd, Int.reduceSub, Nat.reduceLeDiff, Nat.reduceLT]
      exact nxt _ _ _ _ _ _ _ _ hA6 h' hHo6
    · subst e
      have hoff : Ho N σ (On3 (updX L k false)) P O2 (updX M k m') τ6 := hHo6.less fun l q => ⟨q.1, by
        by_cases el : l = k
        · have := q.2; rw [el, updX_same] at this; cases this
        · have := q.2; rw [updX_ne el] at this; exact this⟩
      simp only [ruS, ruL, ruE, Nat.reduceAdd, reduceIte, Int.reduceLT, Int.reduceLE, Int.reduceEq, Int.reduceNeg, Int.reduceAdd, Int.reduceSub, Nat.reduceLeDiff, Nat.reduceLT]
      refine AOb.done hA6 hO6 ?_
      simp only [gU, xIxA k0 k3, l3_set k0 k1 (show cellsOf (.pointer none) 1 = some [.pointer none] from rfl) rfl, pV_off, ruS, ruL, ruE, Nat.reduceAdd, reduceIte, Int.reduceLT, Int.reduceLE, Int.reduceEq, Int.reduceNeg, Int.reduceAdd, Int.reduceSub, Nat.reduceLeDiff, Nat.reduceLT]
      have li : ∀ x : Int, gStore 1 [.pointer (some ⟨9, k.toNat * 1, some 0⟩), .int .i64 x] (l3 fun j => Value.int .i64 (old j)) = some (l3 fun j => Value.int .i64 (updX old k x j)) := fun x => by
        rw [l3_set k0 k1 (show cellsOf (.int .i64 x) 1 = some [.int .i64 x] from rfl) rfl, iV_upd]
      rcases hE with ⟨q1, q2, rfl⟩ | ⟨q1, q2, rfl⟩ | ⟨q1, rfl⟩
      · simp only [q1, show ¬ 0 ≤ old k by omega, xIxA k0 k3, l3_sub k0 k1, li, w_law10_AccessCounts_j12, w_law10_AccessCounts_j12b, ruS, ruL, ruE, Nat.reduceAdd, reduceIte, Int.reduceLT, Int.reduceLE, Int.reduceEq, Int.reduceNeg, Int.reduceAdd, Int.reduceSub, Nat.reduceLeDiff, Nat.reduceLT]
        exact nxt _ _ _ _ _ _ _ _ hA6 (h' _ (by omega) hV.2) hoff
      · simp only [q1, q2, xIxA k0 k3, l3_sub k0 k1, li, w_law10_AccessCounts_j12, w_law10_AccessCounts_j12b, ruS, ruL, ruE, Nat.reduceAdd, reduceIte, Int.reduceLT, Int.reduceLE, Int.reduceEq, Int.reduceNeg, Int.reduceAdd, Int.reduceSub, Nat.reduceLeDiff, Nat.reduceLT]
        rw [IntWalk.i64_in (did + 1) (by omega)]
        exact nxt _ _ _ _ _ _ _ _ hA6 (h' _ (by omega) (by omega)) hoff
      · simp only [q1, xIxA k0 k3, l3_sub k0 k1, li, w_law10_AccessCounts_j12, w_law10_AccessCounts_j12b, ruS, ruL, ruE, Nat.reduceAdd, reduceIte, Int.reduceLT, Int.reduceLE, Int.reduceEq, Int.reduceNeg, Int.reduceAdd, Int.reduceSub, Nat.reduceLeDiff, Nat.reduceLT]
        exact nxt _ _ _ _ _ _ _ _ hA6 (h' _ (by omega) hV.2) hoff
  cases hL : L k with
  | true =>
    have e1 : pV L P k = .pointer (some ⟨P k, 0, none⟩) := by unfold pV; rw [hL]; rfl
    simp only [xIxA k0 k3, l3_sub k0 k1, e1, ruS, ruL, ruE, Nat.reduceAdd, reduceIte, Int.reduceLT, Int.reduceLE, Int.reduceEq, Int.reduceNeg, Int.reduceAdd, Int.reduceSub, Nat.reduceLeDiff, Nat.reduceLT]
    exact go11 L M P O A5 τ5 hL hA5 hOn hHo
  | false =>
    have e1 : pV L P k = .pointer none := by unfold pV; rw [hL]; rfl
    have hok := hOn.oldb k k0 k1
    have hdid := hOn.v
    have mk : ∀ p τ', τ5.get p = none → AOb N p [p] (Ak.new (kdO (old k)) 65536 0 (vO (old k)) (oO (old k)) false) τ' → Ext τ5 τ' → w_law10_AccessCounts_j11 (fun v _ => v = .bool true) (w_law10_AccessCounts_j2 fun v _ => v = .bool true) R (w_law10_AccessCounts_j10 (fun v _ => v = .bool true) (w_law10_AccessCounts_j2 fun v _ => v = .bool true) R) [s, .int .u64 65536, .int .i64 did, .int .i64 t, .int .i64 k] [N.el C 0, l3 (pV (updX L k true) (updX P k p)), l3 fun j => .int .i64 (old j)] τ' := by
      intro p τ' hp hob x
      refine go11 _ _ _ _ A5 τ' updX_same (hA5.ext x) (hOn.more hC k0 k1) (((hHo.new (i := k) (fun q => by have := q.2; rw [hL] at this; cases this) hp hob x).less fun l q => ?_))
      by_cases el : l = k
      · exact .inr el
      · exact .inl ⟨q.1, by have := q.2; rw [updX_ne el] at this; exact this⟩
    simp only [xIxA k0 k3, l3_sub k0 k1, e1, b1, g5, ruS, ruL, ruE, Nat.reduceAdd, reduceIte, Int.reduceLT, Int.reduceLE, Int.reduceEq, Int.reduceNeg, Int.reduceAdd, Int.reduceSub, Nat.reduceLeDiff, Nat.reduceLT]
    by_cases ho : 0 ≤ old k
    · have k3' : kdO (old k) = 3 ∧ vO (old k) = old k + 1 ∧ oO (old k) = old k := by unfold kdO vO oO; rw [if_neg (by omega), if_neg (by omega), if_neg (by omega)]; exact ⟨rfl, rfl, rfl⟩
      rw [k3'.1, k3'.2.1, k3'.2.2] at mk
      simp only [ho, ruS, ruL, ruE, Nat.reduceAdd, reduceIte, Int.reduceLT, Int.reduceLE, Int.reduceEq, Int.reduceNeg, Int.reduceAdd, Int.reduceSub, Nat.reduceLeDiff, Nat.reduceLT]
      rw [IntWalk.i64_in (old k + 1) (by omega)]
      simp only [b3, g5, s5, w_law10_AccessCounts_j13, w_law10_AccessCounts_j13b, ruS, ruL, ruE, Nat.reduceAdd, reduceIte, Int.reduceLT, Int.reduceLE, Int.reduceEq, Int.reduceNeg, Int.reduceAdd, Int.reduceSub, Nat.reduceLeDiff, Nat.reduceLT]
      refine aob_new hA5 fun p τ' hp hob x => ?_
      simp only [xIxA k0 k3, l3_set k0 k1 (show cellsOf (.pointer (some ⟨p, 0, none⟩)) 1 = some [.pointer (some ⟨p, 0, none⟩)] from rfl) rfl, pV_on, ruS, ruL, ruE, Nat.reduceAdd, reduceIte, Int.reduceLT, Int.reduceLE, Int.reduceEq, Int.reduceNeg, Int.reduceAdd, Int.reduceSub, Nat.reduceLeDiff, Nat.reduceLT]
      exact mk p τ' hp hob x
    · have k3' : kdO (old k) = 1 ∧ vO (old k) = 0 ∧ oO (old k) = 0 := by unfold kdO vO oO; rw [if_pos (by omega), if_pos (by omega), if_pos (by omega)]; exact ⟨rfl, rfl, rfl⟩
      rw [k3'.1, k3'.2.1, k3'.2.2] at mk
      simp only [ho, s5, w_law10_AccessCounts_j13, w_law10_AccessCounts_j13b, ruS, ruL, ruE, Nat.reduceAdd, reduceIte, Int.reduceLT, Int.reduceLE, Int.reduceEq, Int.reduceNeg, Int.reduceAdd, Int.reduceSub, Nat.reduceLeDiff, Nat.reduceLT]
      refine aob_new hA5 fun p τ' hp hob x => ?_
      simp only [xIxA k0 k3, l3_set k0 k1 (show cellsOf (.pointer (some ⟨p, 0, none⟩)) 1 = some [.pointer (some ⟨p, 0, none⟩)] from rfl) rfl, pV_on, ruS, ruL, ruE, Nat.reduceAdd, reduceIte, Int.reduceLT, Int.reduceLE, Int.reduceEq, Int.reduceNeg, Int.reduceAdd, Int.reduceSub, Nat.reduceLeDiff, Nat.reduceLT]
      exact mk p τ' hp hob x
end Go.Fl
