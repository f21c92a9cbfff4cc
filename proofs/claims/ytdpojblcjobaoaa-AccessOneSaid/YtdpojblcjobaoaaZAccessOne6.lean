/- What the claim leans on, part 6: own readings of the program's functions, what they come to, laws of them. No condition. -/
import Derived.Test.YtdpojblcjobaoaaZAccessOne5
namespace Go.Fl
open Go
set_option linter.unusedVariables false
set_option linter.unusedSimpArgs false
variable {N : Nm} {A B : Ar} {σ : Mem} {K : Value → Mem → Prop} {C : Cf} {who : Int}
def rk (pc : Int) : Int := if pc = 0 then 0 else if pc = 1 then 1 else if pc = 2 then 2 else 3
structure On1 (C : Cf) (n a W num : Int) (M : Int → Ak) (D : Int → Bool) (c : Int → Int) (won val i bb : Int) (A : Ar) : Prop where
  ev : Ev C n false 1 a W bb A
  each : ∀ k, 0 ≤ k → k < num → D k = false → Lo C n false 1 W 3 0 (10 + k) 0 (M k) ∧ (won = 0 → ((M k).a.pc = 5 → (M k).a.cell = 0) ∧ (M k).a.pc ≠ 6 ∧ c k = rk (M k).a.pc ∧ i ≤ 150 + (k - 150) % num + num * c k)
  v : won = 0 ∧ A.w (a + 1) = 0 ∧ (∀ k, 0 ≤ k → k < num → D k = false) ∨ won = 1 ∧ A.w (a + 1) = val ∧ 10 ≤ val ∧ val ≤ 13
theorem On1.skip {n a W num won val i bb k : Int} {M : Int → Ak} {D : Int → Bool} {c : Int → Int} (h : On1 C n a W num M D c won val i bb A) (k0 : 0 ≤ k) (k1 : k < num) (hD : D k = true) : On1 C n a W num M D c won val (i + 1) bb A := by
  rcases h.v with ⟨_, _, h3⟩ | h3
  · rw [h3 k k0 k1] at hD; cases hD
  · exact ⟨h.ev, fun l l0 l1 hl => ⟨(h.each l l0 l1 hl).1, fun e => by omega⟩, .inr h3⟩
theorem On1.step (hC : C.ok) {n a W num won val i bb k : Int} {M : Int → Ak} {D : Int → Bool} {c : Int → Int} (h : On1 C n a W num M D c won val i bb A) (hn : 1 ≤ num ∧ num ≤ 4) (k0 : 0 ≤ k) (k1 : k < num) (hk : 150 ≤ i → k = i % num) (hD : D k = false) (hb : bb < 4611686018427387904) :
    (M k).fit C A ∧ ((((M k).step C who A).1 = false ∧ On1 C n a W num (updX M k ((M k).step C who A).2.1) D (updX c k (c k + 1)) won val (i + 1) (bb + 1) ((M k).step C who A).2.2) ∨
      (((M k).step C who A).1 = true ∧ (((M k).step C who A).2.1.a.oE = 0 ∧ won = 0 ∧ On1 C n a W num (updX M k ((M k).step C who A).2.1) (updX D k true) c 1 (10 + k) (i + 1) (bb + 1) ((M k).step C who A).2.2 ∨
        ((M k).step C who A).2.1.a.oE = 8 ∧ On1 C n a W num (updX M k ((M k).step C who A).2.1) (updX D k true) c won val (i + 1) (bb + 1) ((M k).step C who A).2.2))) := by
  obtain ⟨hLo, hc⟩ := h.each k k0 k1 hD
  obtain ⟨f1, hR, hE, _⟩ := h.ev.step (who := who) hC hLo hb
  refine ⟨f1, ?_⟩
  generalize (M k).step C who A = r at *
  obtain ⟨d, m', A'⟩ := r
  dsimp only at *
  -- a step that changes no word
  have same : A'.w = A.w → Lo C n false 1 W 3 0 (10 + k) 0 m' → (won = 0 → (m'.a.pc = 5 → m'.a.cell = 0) ∧ m'.a.pc ≠ 6 ∧ rk (M k).a.pc + 1 = rk m'.a.pc) → On1 C n a W num (updX M k m') D (updX c k (c k + 1)) won val (i + 1) (bb + 1) A' := by
    intro e q1 q2
    refine ⟨hE, fun l l0 l1 hl => ?_, by rw [e]; exact h.v⟩
    by_cases el : l = k
    · subst el
      rw [updX_same, updX_same]
      refine ⟨q1, fun w => ?_⟩
      obtain ⟨a1, a2, a3⟩ := q2 w
      obtain ⟨_, _, b3, b4⟩ := hc w
      exact ⟨a1, a2, by omega, rr1 hn b4⟩
    · rw [updX_ne el, updX_ne el]
      obtain ⟨b0, b1⟩ := h.each l l0 l1 hl
      refine ⟨b0, fun w => ?_⟩
      obtain ⟨b1, b2, b3, b4⟩ := b1 w
      refine ⟨b1, b2, b3, ?_⟩
      by_cases hi : 150 ≤ i
      · exact rr hn l0 l1 b4 hi (by rw [← hk hi]; exact fun q => el q.symm)
      · exact rr0 hn (by rw [b3]; unfold rk; (repeat' split) <;> decide) (by omega)
  have pcs : (won = 0 → (M k).a.pc ≠ 6) := fun w => (hc w).2.1
  have hz : a + 1 + 0 = a + 1 := by omega
  cases hR with
  | see p q e s => exact .inl ⟨rfl, same rfl q fun w => ⟨fun x => by omega, by omega, by rw [p, e]; decide⟩⟩
  | head p q e s => exact .inl ⟨rfl, same rfl q fun w => ⟨fun x => by omega, by omega, by rw [p, e]; decide⟩⟩
  | index p q => exact absurd ⟨by decide, by decide⟩ q
  | load p hi q e s e2 =>
    refine .inl ⟨rfl, same rfl q fun w => ?_⟩
    rcases h.v with ⟨_, hv, _⟩ | ⟨hw, _⟩
    · rw [hz, hv] at e
      rcases e2 with ⟨e2, _⟩ | ⟨e2, e3⟩
      · exact ⟨fun _ => e, by omega, by rw [p, e2]; decide⟩
      · rw [e] at e3; exact absurd e3 (by decide)
    · omega
  | lay p hi hq e o =>
    refine .inr ⟨rfl, .inl ⟨o.1, ?_⟩⟩
    rcases h.v with ⟨hw, hv, hDn⟩ | ⟨hw, hv, hv0, hv1⟩
    · refine ⟨hw, hE, fun l l0 l1 hl => ?_, .inr ⟨rfl, ?_, by omega, by omega⟩⟩
      · have el : l ≠ k := by rintro rfl; rw [updX_same] at hl; cases hl
        rw [updX_ne el] at hl ⊢
        exact ⟨(h.each l l0 l1 hl).1, fun w => by omega⟩
      · show upd A.w (a + 1 + 0) (putCell (10 + k) false 0) (a + 1) = 10 + k
        rw [hz, upd_same, putCell_lay (by omega)]
    · exfalso
      rw [hz, hv] at e
      apply hq
      rw [← e]
      refine .inr ⟨rfl, ?_⟩
      unfold ceV; omega
  | again p hi hq e q e2 =>
    refine .inl ⟨rfl, same rfl q fun w => ?_⟩
    rcases h.v with ⟨_, hv, _⟩ | ⟨hw, _⟩
    · rw [hz, hv, (hc w).1 p] at e; exact absurd rfl e
    · omega
  | look p hi hq o =>
    refine .inr ⟨rfl, .inr ⟨by rw [o.1]; rfl, ?_⟩⟩
    rcases h.v with ⟨hw, _⟩ | hv
    · exact absurd p (pcs hw)
    · refine ⟨hE, fun l l0 l1 hl => ?_, .inr hv⟩
      have el : l ≠ k := by rintro rfl; rw [updX_same] at hl; cases hl
      rw [updX_ne el] at hl ⊢
      exact ⟨(h.each l l0 l1 hl).1, fun w => by omega⟩
theorem law_AccessOne (σ : Mem) (a0 : Int) (w0 : (Lit.int .i64 a0).wf = true) (s : Value) (len : Nat) (cs : List Value) (sl : Sl σ 1 len cs s) (hm : len ≤ maxLen) (hf : FlatL (List.replicate len [some .i64]).flatten cs) :
    s_law10_AccessOne [.int .i64 a0, s] (fun v _ => v = .bool true) σ := by
  obtain ⟨g, hgA, _⟩ := sl.argI hf
  simp only [s_law10_AccessOne, w_law10_AccessOne, ruS, ruL, ruE, Nat.reduceAdd, reduceIte, Int.reduceLT, Int.reduceLE, Int.reduceEq, Int.reduceNeg, Int.reduceAdd, Int.reduceSub, Nat.reduceLeDiff, Nat.reduceLT]
  have hC : (cA 4 4 2 20).ok := cA_ok (by omega) (by omega) (by omega) (by omega)
  refine c_Arena (C := cA 4 4 2 20) hC rfl rfl rfl fun N A τ hN hF hA hE hfr => ?_
  have hn : 1 ≤ 1 + a0 % 4 ∧ 1 + a0 % 4 ≤ 4 := by omega
  have f1 : ∀ (x y z w : Value) (K : Value → Prop), xF (fFldV 1 1 false) [.agg #[x, y, z, w]] K = K y := fun _ _ _ _ K => nr rfl
  have f2 : ∀ (x y z w : Value) (K : Value → Prop), xF (fFldV 2 1 false) [.agg #[x, y, z, w]] K = K z := fun _ _ _ _ K => nr rfl
  have gU : ∀ {k : Nat} {x y z w : Int}, gStore 4 [.pointer (some ⟨k, 0, some 0⟩), .agg #[.int .i64 x, .int .u64 y, .int .i64 z, .int .i64 w]] [.int .i64 0, .int .u64 0, .int .i64 0, .int .i64 0] = some [.int .i64 x, .int .u64 y, .int .i64 z, .int .i64 w] := fun {_ _ _ _ _} => rfl
  simp only [c_awake10, gStoreE, w_law10_AccessOne_j1, w_law10_AccessOne_j1b, andI3, ruS, ruL, ruE, Nat.reduceAdd, reduceIte, Int.reduceLT, Int.reduceLE, Int.reduceEq, Int.reduceNeg, Int.reduceAdd, Int.reduceSub, Nat.reduceLeDiff, Nat.reduceLT]
  generalize 1 + a0 % 4 = n at hn
  rw [IntWalk.i64_in n (by omega)]
  generalize hCe : cA 4 4 2 20 = C at *
  refine c_First hN hC hA hF (by decide) fun oV oS A2 τ2 hfst hoS hA2 k2 => ?_
  have ext2 := hE.keep' k2 hfr.all
  have hev := hfst.ev hC
  have hz0 : A2.w (C.base 0 + 1) = 0 := by have := hfst.cz 0 (by decide) (by decide); rw [show C.base 0 + 1 + 0 = C.base 0 + 1 by omega] at this; exact this
  generalize C.base 0 = a at *
  generalize putSlot 1 a 1 0 = W at *
  clear hfst hF
  have bp : ∀ K : Value → Prop, xF (fBuild [(0, 1), (1, 1), (2, 1), (3, 1)] [.pointer none, .pointer none, .pointer none, .pointer none] []) [] K = K (.agg #[.pointer none, .pointer none, .pointer none, .pointer none]) := fun K => nr rfl
  have bb : ∀ K : Value → Prop, xF (fBuild [(0, 1), (1, 1), (2, 1), (3, 1)] [.bool false, .bool false, .bool false, .bool false] []) [] K = K (.agg #[.bool false, .bool false, .bool false, .bool false]) := fun K => nr rfl
  have gp : gStore 4 [.pointer (some ⟨9, 0, some 0⟩), .agg #[.pointer none, .pointer none, .pointer none, .pointer none]] [.pointer none, .pointer none, .pointer none, .pointer none] = some (l4 fun _ => .pointer none) := rfl
  have gb : gStore 4 [.pointer (some ⟨10, 0, some 0⟩), .agg #[.bool false, .bool false, .bool false, .bool false]] [.bool false, .bool false, .bool false, .bool false] = some (l4 fun _ => .bool false) := rfl
  have b3 : ∀ (x : Int) (K : Value → Prop), xF (fBuild [(0, 1), (1, 1), (2, 1), (3, 1), (4, 1)] [.int .i64 0, .int .u64 0, .int .i64 0, .int .i64 0, .int .i64 0] [0, 1, 3]) [.int .i64 3, .int .u64 65536, .int .i64 x] K = K (.agg #[.int .i64 3, .int .u64 65536, .int .i64 0, .int .i64 x, .int .i64 0]) := fun _ K => nr rfl
  have b1 : ∀ (K : Value → Prop), xF (fBuild [(0, 1), (1, 1), (2, 1), (3, 1), (4, 1)] [.int .i64 0, .int .u64 0, .int .i64 0, .int .i64 0, .int .i64 0] [0, 1]) [.int .i64 1, .int .u64 65536] K = K (.agg #[.int .i64 1, .int .u64 65536, .int .i64 0, .int .i64 0, .int .i64 0]) := fun K => nr rfl
  simp only [f1, bp, bb, gp, gb, w_law10_AccessOne_j2, w_law10_AccessOne_j2b, ruS, ruL, ruE, Nat.reduceAdd, reduceIte, Int.reduceLT, Int.reduceLE, Int.reduceEq, Int.reduceNeg, Int.reduceAdd, Int.reduceSub, Nat.reduceLeDiff, Nat.reduceLT]
  refine xLoop_r (fun x ts ls τ => ∃ i PV P O, x = (n - i).toNat ∧ ts = [s, .int .i64 n, .int .u64 65536, .int .i64 0, .int .i64 0, .int .i64 i] ∧ ls = [N.el C 0, l4 PV, l4 fun _ => .bool false] ∧ 0 ≤ i ∧ i ≤ n ∧ isA N A2 τ ∧ (∀ k, 0 ≤ k → k < i → PV k = .pointer (some ⟨P k, 0, none⟩)) ∧
      Ho N σ (fun k => 0 ≤ k ∧ k < i) P O (fun k => Ak.new 3 65536 0 (10 + k) 0 false) τ) ?_ (n := (n - 0).toNat)
    ⟨0, fun _ => .pointer none, fun _ => 0, fun _ => [], rfl, rfl, rfl, Int.le_refl 0, by omega, hA2, fun k _ _ => by omega, (Ho.nil ext2).less fun k q => by omega⟩
  rintro x ts ls τ3 ⟨i, PV, P, O, rfl, rfl, rfl, i0, i1, hA3, hPV, hHo⟩ R hR
  simp only [w_law10_AccessOne_l9, w_law10_AccessOne_l9b, ruS, ruL, ruE, Nat.reduceAdd, reduceIte, Int.reduceLT, Int.reduceLE, Int.reduceEq, Int.reduceNeg, Int.reduceAdd, Int.reduceSub, Nat.reduceLeDiff, Nat.reduceLT]
  by_cases hin : i < n
  · simp only [hin, ruS, ruL, ruE, Nat.reduceAdd, reduceIte, Int.reduceLT, Int.reduceLE, Int.reduceEq, Int.reduceNeg, Int.reduceAdd, Int.reduceSub, Nat.reduceLeDiff, Nat.reduceLT]
    rw [IntWalk.i64_in (10 + i) (by omega)]
    simp only [b3]
    refine aob_new hA3 fun p τ4 hp hob x4 => ?_
    simp only [xIxA i0 (show i < (4 : Nat) by omega), l4_set i0 (show i < 4 by omega) (show cellsOf (.pointer (some ⟨p, 0, none⟩)) 1 = some [.pointer (some ⟨p, 0, none⟩)] from rfl) rfl, ruS, ruL, ruE, Nat.reduceAdd, reduceIte, Int.reduceLT, Int.reduceLE, Int.reduceEq, Int.reduceNeg, Int.reduceAdd, Int.reduceSub, Nat.reduceLeDiff, Nat.reduceLT]
    rw [IntWalk.i64_in (i + 1) (by omega)]
    refine hR (n - (i + 1)).toNat _ _ _ (by omega) ⟨i + 1, _, updX P i p, updX O i [p], rfl, rfl, rfl, by omega, by omega, hA3.ext x4, fun k k0 k1 => ?_, ?_⟩
    · by_cases e : k = i
      · subst e; rw [updX_same, updX_same]
      · rw [updX_ne e, updX_ne e]; exact hPV k k0 (by omega)
    · refine ((hHo.new (i := i) (by omega) hp hob x4).less fun k q => ?_).congr fun k q => ?_
      · by_cases e : k = i
        · exact .inr e
        · exact .inl ⟨q.1, by omega⟩
      · by_cases e : k = i
        · subst e; rw [updX_same]
        · rw [updX_ne e]
  · have hin' : i = n := by omega
    subst hin'
    simp only [hin, w_law10_AccessOne_j2, w_law10_AccessOne_j2b, ruS, ruL, ruE, Nat.reduceAdd, reduceIte, Int.reduceLT, Int.reduceLE, Int.reduceEq, Int.reduceNeg, Int.reduceAdd, Int.reduceSub, Nat.reduceLeDiff, Nat.reduceLT]
    have on0 : On1 C 65536 a W i (fun k => Ak.new 3 65536 0 (10 + k) 0 false) (fun _ => false) (fun _ => 0) 0 0 0 1000000 A2 := by
      refine ⟨hev, fun k k0 k1 _ => ⟨Lo.new hC, fun _ => ⟨fun e => (by cases e), (by show (0 : Int) ≠ 6; decide), rfl, ?_⟩⟩, .inl ⟨rfl, hz0, fun _ _ _ => rfl⟩⟩
      have := Int.emod_nonneg (k - 150) (show i ≠ 0 by omega)
      omega
    refine xLoop_r (fun x ts ls τ => ∃ k M O D c won val A, x = (300 - k).toNat ∧ ts = [s, .int .i64 i, .int .u64 65536, .int .i64 won, .int .i64 val, .int .i64 k] ∧ ls = [N.el C 0, l4 PV, l4 fun j => .bool (D j)] ∧ 0 ≤ k ∧ k ≤ 300 ∧ isA N A τ ∧ On1 C 65536 a W i M D c won val k (1000000 + k) A ∧ Ho N σ (fun k => 0 ≤ k ∧ k < i) P O M τ) ?_ (n := 300)
      ⟨0, _, _, _, _, _, _, A2, by decide, rfl, rfl, Int.le_refl 0, by decide, hA3, on0, hHo⟩
    rintro x ts ls τ5 ⟨t, M, O, D, c, won, val, A5, rfl, rfl, rfl, t0, t1, hA5, hOn, hHo5⟩ R5 hR5
    simp only [w_law10_AccessOne_l13, w_law10_AccessOne_l13b, ruS, ruL, ruE, Nat.reduceAdd, reduceIte, Int.reduceLT, Int.reduceLE, Int.reduceEq, Int.reduceNeg, Int.reduceAdd, Int.reduceSub, Nat.reduceLeDiff, Nat.reduceLT]
    by_cases ht : t < 300
    · have hg5 := hgA.keep hHo5.ext
      have nxt : ∀ M O D c won val A τ, isA N A τ → On1 C 65536 a W i M D c won val (t + 1) (1000000 + t + 1) A → Ho N σ (fun k => 0 ≤ k ∧ k < i) P O M τ →
          w_law10_AccessOne_j4 (fun v _ => v = .bool true) (w_law10_AccessOne_j3 fun v _ => v = .bool true) R5 [s, .int .i64 i, .int .u64 65536, .int .i64 won, .int .i64 val, .int .i64 t] [N.el C 0, l4 PV, l4 fun j => .bool (D j)] τ := by
        intro M O D c won val A τ h1 h4 h5
        simp only [w_law10_AccessOne_j4, w_law10_AccessOne_j4b, ruS, ruL, ruE, Nat.reduceAdd, reduceIte, Int.reduceLT, Int.reduceLE, Int.reduceEq, Int.reduceNeg, Int.reduceAdd, Int.reduceSub, Nat.reduceLeDiff, Nat.reduceLT]
        rw [IntWalk.i64_in (t + 1) (by omega)]
        exact hR5 (300 - (t + 1)).toNat _ _ _ (by omega) ⟨t + 1, M, O, D, c, won, val, A, rfl, rfl, rfl, by omega, by omega, h1, by rw [show 1000000 + (t + 1) = 1000000 + t + 1 by omega]; exact h4, h5⟩
      have go5 : ∀ k, 0 ≤ k → k < i → (150 ≤ t → k = t % i) → w_law10_AccessOne_j5 (fun v _ => v = .bool true) (w_law10_AccessOne_j3 fun v _ => v = .bool true) R5 (w_law10_AccessOne_j4 (fun v _ => v = .bool true) (w_law10_AccessOne_j3 fun v _ => v = .bool true) R5)
          [s, .int .i64 i, .int .u64 65536, .int .i64 won, .int .i64 val, .int .i64 t, .int .i64 k] [N.el C 0, l4 PV, l4 fun j => .bool (D j)] τ5 := by
        intro k k0 k1 hk
        have k4 : k < (4 : Nat) := by omega
        simp only [w_law10_AccessOne_j5, w_law10_AccessOne_j5b, xIxA k0 k4, l4_sub k0 (show k < 4 by omega), ruS, ruL, ruE, Nat.reduceAdd, reduceIte, Int.reduceLT, Int.reduceLE, Int.reduceEq, Int.reduceNeg, Int.reduceAdd, Int.reduceSub, Nat.reduceLeDiff, Nat.reduceLT]
        cases hDk : D k with
        | true =>
          simp only [ruS, ruL, ruE, Nat.reduceAdd, reduceIte, Int.reduceLT, Int.reduceLE, Int.reduceEq, Int.reduceNeg, Int.reduceAdd, Int.reduceSub, Nat.reduceLeDiff, Nat.reduceLT]
          exact nxt M O D c won val A5 τ5 hA5 (by have := hOn.skip k0 k1 hDk; exact ⟨this.ev.mono (by omega), this.each, this.v⟩) hHo5
        | false =>
          obtain ⟨s1, s3⟩ := hOn.step (who := 0) hC hn k0 k1 hk hDk (by omega)
          simp only [hPV k k0 k1, ruS, ruL, ruE, Nat.reduceAdd, reduceIte, Int.reduceLT, Int.reduceLE, Int.reduceEq, Int.reduceNeg, Int.reduceAdd, Int.reduceSub, Nat.reduceLeDiff, Nat.reduceLT]
          refine c_Acc_Step hN hC hA5 (hHo5.ob k ⟨k0, k1⟩) hOn.ev.ok.w hOn.ev.n1 s1 fun O' τ6 hO' hA6 hO6 hK6 => ?_
          obtain ⟨O2, hHo6⟩ := hHo5.step hfr ⟨k0, k1⟩ hO' hO6 hK6
          generalize (M k).step C 0 A5 = r at *
          obtain ⟨dn, m', A6⟩ := r
          dsimp only at *
          rcases s3 with ⟨e, h'⟩ | ⟨e, hE⟩
          · subst e
            simp only [ruS, ruL, ruE, Nat.reduceAdd, reduceIte, Int.reduceLT, Int.reduceLE, Int.reduceEq, Int.reduceNeg, Int.reduceAdd, Int.reduceSub, Nat.reduceLeDiff, Nat.reduceLT]
            exact nxt _ O2 D _ won val A6 τ6 hA6 h' hHo6
          · subst e
            simp only [w_law10_AccessOne_j6, w_law10_AccessOne_j6b, xIxA k0 k4, l4_set k0 (show k < 4 by omega) (show cellsOf (.bool true) 1 = some [.bool true] from rfl) rfl, l4_sub k0 (show k < 4 by omega), l4_bool, hPV k k0 k1, ruS, ruL, ruE, Nat.reduceAdd, reduceIte, Int.reduceLT, Int.reduceLE, Int.reduceEq, Int.reduceNeg, Int.reduceAdd, Int.reduceSub, Nat.reduceLeDiff, Nat.reduceLT]
            refine AOb.done hA6 hO6 ?_
            simp only [gU, ruS, ruL, ruE, Nat.reduceAdd, reduceIte, Int.reduceLT, Int.reduceLE, Int.reduceEq, Int.reduceNeg, Int.reduceAdd, Int.reduceSub, Nat.reduceLeDiff, Nat.reduceLT]
            rcases hE with ⟨e1, e2, e3⟩ | ⟨e1, e3⟩
            · simp only [e1, e2, ruS, ruL, ruE, Nat.reduceAdd, reduceIte, Int.reduceLT, Int.reduceLE, Int.reduceEq, Int.reduceNeg, Int.reduceAdd, Int.reduceSub, Nat.reduceLeDiff, Nat.reduceLT]
              rw [IntWalk.i64_in 1 (by decide), IntWalk.i64_in (10 + k) (by omega)]
              exact nxt _ O2 _ c 1 (10 + k) A6 τ6 hA6 e3 hHo6
            · simp only [e1, ruS, ruL, ruE, Nat.reduceAdd, reduceIte, Int.reduceLT, Int.reduceLE, Int.reduceEq, Int.reduceNeg, Int.reduceAdd, Int.reduceSub, Nat.reduceLeDiff, Nat.reduceLT]
              exact nxt _ O2 _ c won val A6 τ6 hA6 e3 hHo6
      have hi0 : i ≠ 0 := by omega
      have hmod : t.tmod i = t % i := Int.tmod_eq_emod_of_nonneg t0
      have hm0 : 0 ≤ t % i := Int.emod_nonneg _ hi0
      have hm1 : t % i < i := Int.emod_lt_of_pos _ (by omega)
      simp only [ht, hg5.len, xRem hi0, hmod, ruS, ruL, ruE, Nat.reduceAdd, reduceIte, Int.reduceLT, Int.reduceLE, Int.reduceEq, Int.reduceNeg, Int.reduceAdd, Int.reduceSub, Nat.reduceLeDiff, Nat.reduceLT]
      by_cases c1 : t < len
      · by_cases c2 : t < 150
        · simp only [c1, c2, w_law10_AccessOne_j7, w_law10_AccessOne_j7b, ruS, ruL, ruE, Nat.reduceAdd, reduceIte, Int.reduceLT, Int.reduceLE, Int.reduceEq, Int.reduceNeg, Int.reduceAdd, Int.reduceSub, Nat.reduceLeDiff, Nat.reduceLT]
          rw [hg5.ix t0 c1]
          obtain ⟨q1, q2, q3⟩ := pickN (g t) (show 0 < i by omega) (by omega)
          simp only [xRem hi0, q1, ruS, ruL, ruE, Nat.reduceAdd, reduceIte, Int.reduceLT, Int.reduceLE, Int.reduceEq, Int.reduceNeg, Int.reduceAdd, Int.reduceSub, Nat.reduceLeDiff, Nat.reduceLT]
          exact go5 _ q2 q3 (fun q => by omega)
        · simp only [c1, c2, w_law10_AccessOne_j7, w_law10_AccessOne_j7b, ruS, ruL, ruE, Nat.reduceAdd, reduceIte, Int.reduceLT, Int.reduceLE, Int.reduceEq, Int.reduceNeg, Int.reduceAdd, Int.reduceSub, Nat.reduceLeDiff, Nat.reduceLT]
          exact go5 _ hm0 hm1 fun _ => rfl
      · simp only [c1, w_law10_AccessOne_j7, w_law10_AccessOne_j7b, ruS, ruL, ruE, Nat.reduceAdd, reduceIte, Int.reduceLT, Int.reduceLE, Int.reduceEq, Int.reduceNeg, Int.reduceAdd, Int.reduceSub, Nat.reduceLeDiff, Nat.reduceLT]
        exact go5 _ hm0 hm1 fun _ => rfl
    · have ht' : t = 300 := by omega
      subst ht'
      have hw : won = 1 ∧ A5.w (a + 1) = val ∧ 10 ≤ val ∧ val ≤ 13 := by
        rcases hOn.v with ⟨q1, _, q2⟩ | q
        · exfalso
          obtain ⟨_, q3⟩ := hOn.each 0 (Int.le_refl 0) (by omega) (q2 0 (Int.le_refl 0) (by omega))
          obtain ⟨_, _, q5, q6⟩ := q3 q1
          have : c 0 ≤ 3 := by rw [q5]; unfold rk; (repeat' split) <;> decide
          rcases (show i = 1 ∨ i = 2 ∨ i = 3 ∨ i = 4 by omega) with rfl | rfl | rfl | rfl <;> omega
        · exact q
      obtain ⟨hw1, hv, hv0, hv1⟩ := hw
      simp only [ht, w_law10_AccessOne_j3, w_law10_AccessOne_j3b, hw1, b1, ruS, ruL, ruE, Nat.reduceAdd, reduceIte, Int.reduceLT, Int.reduceLE, Int.reduceEq, Int.reduceNeg, Int.reduceAdd, Int.reduceSub, Nat.reduceLeDiff, Nat.reduceLT]
      refine c_AccL hN hC hA5 hOn.ev.ol hOn.ev.ok (by omega) hOn.ev.n1 hOn.ev.n2 fun m A6 τ6 hD hA6 hK6 => ?_
      have hval : m.a.oV = val := by
        rcases hD.r with ⟨q, _⟩ | ⟨_, _, q, _⟩
        · exact absurd ⟨by decide, by decide⟩ q
        · rw [q, show (a + 1 + (Ak.new 1 65536 0 0 0 false).a.ix) = a + 1 from by show a + 1 + 0 = a + 1; omega, hv]; unfold ceV; omega
      simp only [f2, hval, ruS, ruL, ruE, Nat.reduceAdd, reduceIte, Int.reduceLT, Int.reduceLE, Int.reduceEq, Int.reduceNeg, Int.reduceAdd, Int.reduceSub, Nat.reduceLeDiff, Nat.reduceLT]
end Go.Fl
