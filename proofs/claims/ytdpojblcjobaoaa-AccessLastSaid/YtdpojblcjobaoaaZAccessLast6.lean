/- What the claim leans on, part 6: own readings of the program's functions, what they come to, laws of them. No condition. -/
import Derived.Test.YtdpojblcjobaoaaZAccessLast5
namespace Go.Fl
open Go
set_option linter.unusedVariables false
set_option linter.unusedSimpArgs false
variable {N : Nm} {A B : Ar} {σ : Mem} {K : Value → Mem → Prop} {C : Cf} {who : Int}
def rk (pc : Int) : Int := if pc = 0 then 0 else if pc = 1 then 1 else if pc = 2 then 2 else 3
def b01 (b : Bool) : Int := if b = true then 1 else 0
def cnt (D : Int → Bool) : Int := b01 (D 0) + b01 (D 1) + b01 (D 2) + b01 (D 3)
theorem b01_bd (b : Bool) : 0 ≤ b01 b ∧ b01 b ≤ 1 := by cases b <;> decide
theorem cnt_le {D : Int → Bool} {k : Int} (k0 : 0 ≤ k) (k1 : k < 4) (h : D k = false) : 0 ≤ cnt D ∧ cnt D ≤ 3 := by
  have h0 := b01_bd (D 0); have h1 := b01_bd (D 1); have h2 := b01_bd (D 2); have h3 := b01_bd (D 3)
  have hf : b01 false = 0 := rfl
  unfold cnt
  rcases (show k = 0 ∨ k = 1 ∨ k = 2 ∨ k = 3 by omega) with rfl | rfl | rfl | rfl <;> rw [h, hf] <;> omega
theorem cnt_upd {D : Int → Bool} {k : Int} (k0 : 0 ≤ k) (k1 : k < 4) (h : D k = false) : cnt (updX D k true) = cnt D + 1 := by
  have hf : b01 false = 0 := rfl
  have ht : b01 true = 1 := rfl
  unfold cnt
  rcases (show k = 0 ∨ k = 1 ∨ k = 2 ∨ k = 3 by omega) with rfl | rfl | rfl | rfl
  · rw [updX_same, updX_ne (by decide), updX_ne (by decide), updX_ne (by decide), h, hf, ht]; omega
  · rw [updX_same, updX_ne (by decide), updX_ne (by decide), updX_ne (by decide), h, hf, ht]; omega
  · rw [updX_same, updX_ne (by decide), updX_ne (by decide), updX_ne (by decide), h, hf, ht]; omega
  · rw [updX_same, updX_ne (by decide), updX_ne (by decide), updX_ne (by decide), h, hf, ht]; omega
structure OnL (C : Cf) (n a W num : Int) (M : Int → Ak) (D : Int → Bool) (c : Int → Int) (last want i bb : Int) (A : Ar) : Prop where
  ev : Ev C n false 1 a W bb A
  each : ∀ k, 0 ≤ k → k < num → D k = false → Lo C n false 1 W 2 0 (10 + k) 0 (M k) ∧ 0 ≤ c k ∧ i ≤ 150 + (k - 150) % num + num * c k ∧ (M k).a.pc ≠ 6 ∧ ((M k).a.pc ≠ 5 → c k ≤ rk (M k).a.pc + 4 * cnt D) ∧ ((M k).a.pc = 5 → c k ≤ 3 + 4 * cnt D ∧ ((M k).a.cell ≠ A.w (a + 1) → c k ≤ 4 * cnt D - 1))
  v : A.w (a + 1) = want ∧ 0 ≤ want ∧ want ≤ 13
  last : 0 ≤ last ∧ last ≤ A.s
theorem OnL.skip {n a W num last want i bb k : Int} {M : Int → Ak} {D : Int → Bool} {c : Int → Int} (h : OnL C n a W num M D c last want i bb A) (hn : 1 ≤ num ∧ num ≤ 4) (hk : 150 ≤ i → k = i % num) (hD : D k = true) : OnL C n a W num M D c last want (i + 1) bb A := by
  refine ⟨h.ev, fun l l0 l1 hl => ?_, h.v, h.last⟩
  obtain ⟨q1, q2, q3, q4⟩ := h.each l l0 l1 hl
  refine ⟨q1, q2, ?_, q4⟩
  by_cases hi : 150 ≤ i
  · refine rr hn l0 l1 q3 hi ?_
    rw [← hk hi]
    rintro rfl
    rw [hD] at hl; cases hl
  · exact rr0 hn q2 (by omega)
theorem OnL.step (hC : C.ok) {n a W num last want i bb k : Int} {M : Int → Ak} {D : Int → Bool} {c : Int → Int} (h : OnL C n a W num M D c last want i bb A) (hn : 1 ≤ num ∧ num ≤ 4) (k0 : 0 ≤ k) (k1 : k < num) (hk : 150 ≤ i → k = i % num) (hD : D k = false) (hb : bb < 4611686018427387904) :
    (M k).fit C A ∧ ((((M k).step C who A).1 = false ∧ OnL C n a W num (updX M k ((M k).step C who A).2.1) D (updX c k (c k + 1)) last want (i + 1) (bb + 1) ((M k).step C who A).2.2) ∨
      (((M k).step C who A).1 = true ∧ ((M k).step C who A).2.1.a.oE = 0 ∧ last < ((M k).step C who A).2.1.a.oS ∧ OnL C n a W num (updX M k ((M k).step C who A).2.1) (updX D k true) c ((M k).step C who A).2.1.a.oS (10 + k) (i + 1) (bb + 1) ((M k).step C who A).2.2)) := by
  obtain ⟨hLo, hc0, hci, hn6, hc1, hc2⟩ := h.each k k0 k1 hD
  obtain ⟨f1, hR, hE, hs⟩ := h.ev.step (who := who) hC hLo hb
  have hla := h.last
  have hcnt := cnt_le k0 (by omega) hD
  refine ⟨f1, ?_⟩
  generalize (M k).step C who A = r at *
  obtain ⟨d, m', A'⟩ := r
  dsimp only at *
  have oth : ∀ l, 0 ≤ l → l < num → l ≠ k → 0 ≤ c l → i ≤ 150 + (l - 150) % num + num * c l → i + 1 ≤ 150 + (l - 150) % num + num * c l := fun l l0 l1 el b0 b4 => by
    by_cases hi : 150 ≤ i
    · exact rr hn l0 l1 b4 hi (by rw [← hk hi]; exact fun q => el q.symm)
    · exact rr0 hn b0 (by omega)
  -- a step that changes no word
  have same : A'.w = A.w → Lo C n false 1 W 2 0 (10 + k) 0 m' → m'.a.pc ≠ 6 ∧ (m'.a.pc ≠ 5 → c k + 1 ≤ rk m'.a.pc + 4 * cnt D) ∧ (m'.a.pc = 5 → c k + 1 ≤ 3 + 4 * cnt D ∧ m'.a.cell = A.w (a + 1)) → OnL C n a W num (updX M k m') D (updX c k (c k + 1)) last want (i + 1) (bb + 1) A' := by
    intro e q1 q2
    refine ⟨hE, fun l l0 l1 hl => ?_, by rw [e]; exact h.v, by omega⟩
    by_cases el : l = k
    · subst el
      rw [updX_same, updX_same]
      refine ⟨q1, by omega, rr1 hn hci, q2.1, q2.2.1, fun x => ⟨(q2.2.2 x).1, fun y => absurd (by rw [e]; exact (q2.2.2 x).2) y⟩⟩
    · rw [updX_ne el, updX_ne el]
      obtain ⟨b0, b1, b2, b3, b4, b5⟩ := h.each l l0 l1 hl
      exact ⟨b0, b1, oth l l0 l1 el b1 b2, b3, b4, by rw [e]; exact b5⟩
  have hz : a + 1 + 0 = a + 1 := by omega
  have r0 : rk 0 = 0 := rfl
  have r1 : rk 1 = 1 := rfl
  have r2 : rk 2 = 2 := rfl
  cases hR with
  | see p q e s => exact .inl ⟨rfl, same rfl q ⟨by omega, fun _ => by have := hc1 (by omega); rw [e, r1]; rw [p, r0] at this; omega, fun x => by omega⟩⟩
  | head p q e s => exact .inl ⟨rfl, same rfl q ⟨by omega, fun _ => by have := hc1 (by omega); rw [e, r2]; rw [p, r1] at this; omega, fun x => by omega⟩⟩
  | index p q => exact absurd ⟨by decide, by decide⟩ q
  | load p hi q e s e2 =>
    rw [hz] at e
    have := hc1 (by omega)
    rw [p, r2] at this
    rcases e2 with ⟨e2, _⟩ | ⟨_, e3⟩
    · exact .inl ⟨rfl, same rfl q ⟨by omega, fun x => absurd e2 x, fun _ => ⟨by omega, e⟩⟩⟩
    · rcases e3 with e3 | ⟨e3, _⟩ <;> cases e3
  | lay p hi hq e o =>
    have hcu := cnt_upd (D := D) k0 (by omega) hD
    refine .inr ⟨rfl, o.1, by rw [o.2.2.2]; omega, hE, fun l l0 l1 hl => ?_, ⟨?_, by omega, by omega⟩, by rw [o.2.2.2]; omega⟩
    · have el : l ≠ k := by rintro rfl; rw [updX_same] at hl; cases hl
      rw [updX_ne el] at hl ⊢
      obtain ⟨b0, b1, b2, b3, b4, b5⟩ := h.each l l0 l1 hl
      rw [hcu]
      refine ⟨b0, b1, oth l l0 l1 el b1 b2, b3, fun x => by have := b4 x; omega, fun x => ?_⟩
      have := b5 x
      exact ⟨by omega, fun _ => by omega⟩
    · show upd A.w (a + 1 + 0) (putCell (10 + k) false 0) (a + 1) = 10 + k
      rw [hz, upd_same, putCell_lay (by omega)]
  | again p hi hq e q e2 =>
    rw [hz] at e
    have := (hc2 p).2 (fun x => e x.symm)
    exact .inl ⟨rfl, same rfl q ⟨by omega, fun _ => by rw [e2, r0]; omega, fun x => by omega⟩⟩
  | look p hi hq o => exact absurd p hn6
theorem law_AccessLast (σ : Mem) (a0 : Int) (w0 : (Lit.int .i64 a0).wf = true) (s : Value) (len : Nat) (cs : List Value) (sl : Sl σ 1 len cs s) (hm : len ≤ maxLen) (hf : FlatL (List.replicate len [some .i64]).flatten cs) :
    s_law10_AccessLast [.int .i64 a0, s] (fun v _ => v = .bool true) σ := by
  obtain ⟨g, hgA, _⟩ := sl.argI hf
  simp only [s_law10_AccessLast, w_law10_AccessLast, ruS, ruL, ruE, Nat.reduceAdd, reduceIte, Int.reduceLT, Int.reduceLE, Int.reduceEq, Int.reduceNeg, Int.reduceAdd, Int.reduceSub, Nat.reduceLeDiff, Nat.reduceLT]
  have hC : (cA 4 4 2 20).ok := cA_ok (by omega) (by omega) (by omega) (by omega)
  refine c_Arena (C := cA 4 4 2 20) hC rfl rfl rfl fun N A τ hN hF hA hE hfr => ?_
  have hn : 1 ≤ 1 + a0 % 4 ∧ 1 + a0 % 4 ≤ 4 := by omega
  have f1 : ∀ (x y z w : Value) (K : Value → Prop), xF (fFldV 1 1 false) [.agg #[x, y, z, w]] K = K y := fun _ _ _ _ K => nr rfl
  have f2 : ∀ (x y z w : Value) (K : Value → Prop), xF (fFldV 2 1 false) [.agg #[x, y, z, w]] K = K z := fun _ _ _ _ K => nr rfl
  have gU : ∀ {k : Nat} {x y z w : Int}, gStore 4 [.pointer (some ⟨k, 0, some 0⟩), .agg #[.int .i64 x, .int .u64 y, .int .i64 z, .int .i64 w]] [.int .i64 0, .int .u64 0, .int .i64 0, .int .i64 0] = some [.int .i64 x, .int .u64 y, .int .i64 z, .int .i64 w] := fun {_ _ _ _ _} => rfl
  simp only [c_awake10, gStoreE, w_law10_AccessLast_j1, w_law10_AccessLast_j1b, andI3, ruS, ruL, ruE, Nat.reduceAdd, reduceIte, Int.reduceLT, Int.reduceLE, Int.reduceEq, Int.reduceNeg, Int.reduceAdd, Int.reduceSub, Nat.reduceLeDiff, Nat.reduceLT]
  generalize 1 + a0 % 4 = n at hn
  rw [IntWalk.i64_in n (by omega)]
  generalize hCe : cA 4 4 2 20 = C at *
  refine c_First hN hC hA hF (by decide) fun oV oS A2 τ2 hfst hoS hA2 k2 => ?_
  have ext2 := hE.keep' k2 hfr.all
  have hev := hfst.ev hC
  have hz0 : A2.w (C.base 0 + 1) = 0 := by have := hfst.cz 0 (by decide) (by decide); rw [show C.base 0 + 1 + 0 = C.base 0 + 1 by omega] at this; exact this
  generalize C.base 0 = a at *
  generalize putSlot 1 a 1 0 = W at *
  clear hfst hF
  have bp : ∀ K : Value → Prop, xF (fBuild [(0, 1), (1, 1), (2, 1), (3, 1)] [.pointer none, .pointer none, .pointer none, .pointer none] []) [] K = K (.agg #[.pointer none, .pointer none, .pointer none, .pointer none]) := fun K => nr rfl
  have bb : ∀ K : Value → Prop, xF (fBuild [(0, 1), (1, 1), (2, 1), (3, 1)] [.bool false, .bool false, .bool false, .bool false] []) [] K = K (.agg #[.bool false, .bool false, .bool false, .bool false]) := fun K => nr rfl
  have gp : gStore 4 [.pointer (some ⟨9, 0, some 0⟩), .agg #[.pointer none, .pointer none, .pointer none, .pointer none]] [.pointer none, .pointer none, .pointer none, .pointer none] = some (l4 fun _ => .pointer none) := rfl
  have gb : gStore 4 [.pointer (some ⟨10, 0, some 0⟩), .agg #[.bool false, .bool false, .bool false, .bool false]] [.bool false, .bool false, .bool false, .bool false] = some (l4 fun _ => .bool false) := rfl
  have b3 : ∀ (x : Int) (K : Value → Prop), xF (fBuild [(0, 1), (1, 1), (2, 1), (3, 1), (4, 1)] [.int .i64 0, .int .u64 0, .int .i64 0, .int .i64 0, .int .i64 0] [0, 1, 3]) [.int .i64 2, .int .u64 65536, .int .i64 x] K = K (.agg #[.int .i64 2, .int .u64 65536, .int .i64 0, .int .i64 x, .int .i64 0]) := fun _ K => nr rfl
  have b1 : ∀ (K : Value → Prop), xF (fBuild [(0, 1), (1, 1), (2, 1), (3, 1), (4, 1)] [.int .i64 0, .int .u64 0, .int .i64 0, .int .i64 0, .int .i64 0] [0, 1]) [.int .i64 1, .int .u64 65536] K = K (.agg #[.int .i64 1, .int .u64 65536, .int .i64 0, .int .i64 0, .int .i64 0]) := fun K => nr rfl
  simp only [f1, bp, bb, gp, gb, w_law10_AccessLast_j2, w_law10_AccessLast_j2b, ruS, ruL, ruE, Nat.reduceAdd, reduceIte, Int.reduceLT, Int.reduceLE, Int.reduceEq, Int.reduceNeg, Int.reduceAdd, Int.reduceSub, Nat.reduceLeDiff, Nat.reduceLT]
  refine xLoop_r (fun x ts ls τ => ∃ i PV P O, x = (n - i).toNat ∧ ts = [s, .int .i64 n, .int .u64 65536, .int .i64 0, .int .i64 0, .int .i64 i] ∧ ls = [N.el C 0, l4 PV, l4 fun _ => .bool false] ∧ 0 ≤ i ∧ i ≤ n ∧ isA N A2 τ ∧ (∀ k, 0 ≤ k → k < i → PV k = .pointer (some ⟨P k, 0, none⟩)) ∧
      Ho N σ (fun k => 0 ≤ k ∧ k < i) P O (fun k => Ak.new 2 65536 0 (10 + k) 0 false) τ) ?_ (n := (n - 0).toNat)
    ⟨0, fun _ => .pointer none, fun _ => 0, fun _ => [], rfl, rfl, rfl, Int.le_refl 0, by omega, hA2, fun k _ _ => by omega, (Ho.nil ext2).less fun k q => by omega⟩
  rintro x ts ls τ3 ⟨i, PV, P, O, rfl, rfl, rfl, i0, i1, hA3, hPV, hHo⟩ R hR
  simp only [w_law10_AccessLast_l9, w_law10_AccessLast_l9b, ruS, ruL, ruE, Nat.reduceAdd, reduceIte, Int.reduceLT, Int.reduceLE, Int.reduceEq, Int.reduceNeg, Int.reduceAdd, Int.reduceSub, Nat.reduceLeDiff, Nat.reduceLT]
  by_cases hin : i < n
  · simp only [hin, ruS, ruL, ruE, Nat.reduceAdd, reduceIte, Int.reduceLT, Int.reduceLE, Int.reduceEq, Int.reduceNeg, Int.reduceAdd, Int.reduceSub, Nat.reduceLeDiff, Nat.reduceLT]
    rw [IntWalk.i64_in (10 + i) (by omega)]
    simp only [b3]
    refine aob_new hA3 fun p τ4 hp hob x4 => ?_
    simp only [xIxA i0 (show i < (4 : Nat) by omega), l4_set i0 (show i < 4 by omega) (show cellsOf (.pointer (some ⟨p, 0, none⟩)) 1 = some [.pointer (some ⟨p, 0, none⟩)] from rfl) rfl, ruS, ruL, ruE, Nat.reduceAdd, reduceIte, Int.reduceLT, Int.reduceLE, Int.reduceEq, Int.reduceNeg, Int.reduceAdd, Int.reduceSub, Nat.reduceLeDiff, Nat.reduceLT]
    rw [IntWalk.i64_in (i + 1) (by omega)]
    refine hR (n - (i + 1)).toNat _ _ _ (by omega) ⟨i + 1, _, updX P i p, updX O i [p], rfl, rfl, rfl, by omega, by omega, hA3.ext x4, fun k k0 k1 => ?_, ?_⟩
    · by_cases e : k = i
      · subst e; rw [updX_same, updX_same]
      · rw [updX_ne e, updX_ne e]; exact hPV k k0 (by omega)
    · refine ((hHo.new (i := i) (by omega) hp hob x4).less fun k q => ?_).congr fun k q => ?_
      · by_cases e : k = i
        · exact .inr e
        · exact .inl ⟨q.1, by omega⟩
      · by_cases e : k = i
        · subst e; rw [updX_same]
        · rw [updX_ne e]
  · have hin' : i = n := by omega
    subst hin'
    simp only [hin, w_law10_AccessLast_j2, w_law10_AccessLast_j2b, ruS, ruL, ruE, Nat.reduceAdd, reduceIte, Int.reduceLT, Int.reduceLE, Int.reduceEq, Int.reduceNeg, Int.reduceAdd, Int.reduceSub, Nat.reduceLeDiff, Nat.reduceLT]
    have on0 : OnL C 65536 a W i (fun k => Ak.new 2 65536 0 (10 + k) 0 false) (fun _ => false) (fun _ => 0) 0 0 0 1000000 A2 := by
      refine ⟨hev, fun k k0 k1 _ => ⟨Lo.new hC, Int.le_refl 0, ?_, (by show (0 : Int) ≠ 6; decide), fun _ => by show (0 : Int) ≤ rk 0 + 4 * cnt fun _ => false; decide, fun e => (by cases e)⟩, ⟨hz0, Int.le_refl 0, by decide⟩, ⟨Int.le_refl 0, hev.ok.s.1⟩⟩
      have := Int.emod_nonneg (k - 150) (show i ≠ 0 by omega)
      omega
    refine xLoop_r (fun x ts ls τ => ∃ k M O D c last want A, x = (400 - k).toNat ∧ ts = [s, .int .i64 i, .int .u64 65536, .int .i64 last, .int .i64 want, .int .i64 k] ∧ ls = [N.el C 0, l4 PV, l4 fun j => .bool (D j)] ∧ 0 ≤ k ∧ k ≤ 400 ∧ isA N A τ ∧ OnL C 65536 a W i M D c last want k (1000000 + k) A ∧ Ho N σ (fun k => 0 ≤ k ∧ k < i) P O M τ) ?_ (n := 400)
      ⟨0, _, _, _, _, _, _, A2, by decide, rfl, rfl, Int.le_refl 0, by decide, hA3, on0, hHo⟩
    rintro x ts ls τ5 ⟨t, M, O, D, c, last, want, A5, rfl, rfl, rfl, t0, t1, hA5, hOn, hHo5⟩ R5 hR5
    simp only [w_law10_AccessLast_l13, w_law10_AccessLast_l13b, ruS, ruL, ruE, Nat.reduceAdd, reduceIte, Int.reduceLT, Int.reduceLE, Int.reduceEq, Int.reduceNeg, Int.reduceAdd, Int.reduceSub, Nat.reduceLeDiff, Nat.reduceLT]
    by_cases ht : t < 400
    · have hg5 := hgA.keep hHo5.ext
      have nxt : ∀ M O D c last want A τ, isA N A τ → OnL C 65536 a W i M D c last want (t + 1) (1000000 + t + 1) A → Ho N σ (fun k => 0 ≤ k ∧ k < i) P O M τ →
          w_law10_AccessLast_j5 (fun v _ => v = .bool true) (w_law10_AccessLast_j3 fun v _ => v = .bool true) R5 [s, .int .i64 i, .int .u64 65536, .int .i64 last, .int .i64 want, .int .i64 t] [N.el C 0, l4 PV, l4 fun j => .bool (D j)] τ := by
        intro M O D c last want A τ h1 h4 h5
        simp only [w_law10_AccessLast_j5, w_law10_AccessLast_j5b, ruS, ruL, ruE, Nat.reduceAdd, reduceIte, Int.reduceLT, Int.reduceLE, Int.reduceEq, Int.reduceNeg, Int.reduceAdd, Int.reduceSub, Nat.reduceLeDiff, Nat.reduceLT]
        rw [IntWalk.i64_in (t + 1) (by omega)]
        exact hR5 (400 - (t + 1)).toNat _ _ _ (by omega) ⟨t + 1, M, O, D, c, last, want, A, rfl, rfl, rfl, by omega, by omega, h1, by rw [show 1000000 + (t + 1) = 1000000 + t + 1 by omega]; exact h4, h5⟩
      have go5 : ∀ k, 0 ≤ k → k < i → (150 ≤ t → k = t % i) → w_law10_AccessLast_j6 (fun v _ => v = .bool true) (w_law10_AccessLast_j3 fun v _ => v = .bool true) R5 (w_law10_AccessLast_j5 (fun v _ => v = .bool true) (w_law10_AccessLast_j3 fun v _ => v = .bool true) R5)
          [s, .int .i64 i, .int .u64 65536, .int .i64 last, .int .i64 want, .int .i64 t, .int .i64 k] [N.el C 0, l4 PV, l4 fun j => .bool (D j)] τ5 := by
        intro k k0 k1 hk
        have k4 : k < (4 : Nat) := by omega
        simp only [w_law10_AccessLast_j6, w_law10_AccessLast_j6b, xIxA k0 k4, l4_sub k0 (show k < 4 by omega), ruS, ruL, ruE, Nat.reduceAdd, reduceIte, Int.reduceLT, Int.reduceLE, Int.reduceEq, Int.reduceNeg, Int.reduceAdd, Int.reduceSub, Nat.reduceLeDiff, Nat.reduceLT]
        cases hDk : D k with
        | true =>
          simp only [ruS, ruL, ruE, Nat.reduceAdd, reduceIte, Int.reduceLT, Int.reduceLE, Int.reduceEq, Int.reduceNeg, Int.reduceAdd, Int.reduceSub, Nat.reduceLeDiff, Nat.reduceLT]
          exact nxt M O D c last want A5 τ5 hA5 (by have := hOn.skip hn hk hDk; exact ⟨this.ev.mono (by omega), this.each, this.v, this.last⟩) hHo5
        | false =>
          obtain ⟨s1, s3⟩ := hOn.step (who := 0) hC hn k0 k1 hk hDk (by omega)
          simp only [hPV k k0 k1, ruS, ruL, ruE, Nat.reduceAdd, reduceIte, Int.reduceLT, Int.reduceLE, Int.reduceEq, Int.reduceNeg, Int.reduceAdd, Int.reduceSub, Nat.reduceLeDiff, Nat.reduceLT]
          refine c_Acc_Step hN hC hA5 (hHo5.ob k ⟨k0, k1⟩) hOn.ev.ok.w hOn.ev.n1 s1 fun O' τ6 hO' hA6 hO6 hK6 => ?_
          obtain ⟨O2, hHo6⟩ := hHo5.step hfr ⟨k0, k1⟩ hO' hO6 hK6
          generalize (M k).step C 0 A5 = r at *
          obtain ⟨dn, m', A6⟩ := r
          dsimp only at *
          rcases s3 with ⟨e, h'⟩ | ⟨e, e1, e2, h'⟩
          · subst e
            simp only [ruS, ruL, ruE, Nat.reduceAdd, reduceIte, Int.reduceLT, Int.reduceLE, Int.reduceEq, Int.reduceNeg, Int.reduceAdd, Int.reduceSub, Nat.reduceLeDiff, Nat.reduceLT]
            exact nxt _ O2 D _ last want A6 τ6 hA6 h' hHo6
          · subst e
            simp only [w_law10_AccessLast_j7, w_law10_AccessLast_j7b, xIxA k0 k4, l4_set k0 (show k < 4 by omega) (show cellsOf (.bool true) 1 = some [.bool true] from rfl) rfl, l4_sub k0 (show k < 4 by omega), l4_bool, hPV k k0 k1, ruS, ruL, ruE, Nat.reduceAdd, reduceIte, Int.reduceLT, Int.reduceLE, Int.reduceEq, Int.reduceNeg, Int.reduceAdd, Int.reduceSub, Nat.reduceLeDiff, Nat.reduceLT]
            refine AOb.done hA6 hO6 ?_
            have e3 : ¬ m'.a.oS = last := by omega
            simp only [gU, e1, e2, e3, w_law10_AccessLast_j8, w_law10_AccessLast_j8b, ruS, ruL, ruE, Nat.reduceAdd, reduceIte, Int.reduceLT, Int.reduceLE, Int.reduceEq, Int.reduceNeg, Int.reduceAdd, Int.reduceSub, Nat.reduceLeDiff, Nat.reduceLT]
            rw [IntWalk.i64_in (10 + k) (by omega)]
            exact nxt _ O2 _ c _ (10 + k) A6 τ6 hA6 h' hHo6
      have hi0 : i ≠ 0 := by omega
      have hmod : t.tmod i = t % i := Int.tmod_eq_emod_of_nonneg t0
      have hm0 : 0 ≤ t % i := Int.emod_nonneg _ hi0
      have hm1 : t % i < i := Int.emod_lt_of_pos _ (by omega)
      simp only [ht, hg5.len, xRem hi0, hmod, ruS, ruL, ruE, Nat.reduceAdd, reduceIte, Int.reduceLT, Int.reduceLE, Int.reduceEq, Int.reduceNeg, Int.reduceAdd, Int.reduceSub, Nat.reduceLeDiff, Nat.reduceLT]
      by_cases c1 : t < len
      · by_cases c2 : t < 150
        · simp only [c1, c2, w_law10_AccessLast_j9, w_law10_AccessLast_j9b, ruS, ruL, ruE, Nat.reduceAdd, reduceIte, Int.reduceLT, Int.reduceLE, Int.reduceEq, Int.reduceNeg, Int.reduceAdd, Int.reduceSub, Nat.reduceLeDiff, Nat.reduceLT]
          rw [hg5.ix t0 c1]
          obtain ⟨q1, q2, q3⟩ := pickN (g t) (show 0 < i by omega) (by omega)
          simp only [xRem hi0, q1, ruS, ruL, ruE, Nat.reduceAdd, reduceIte, Int.reduceLT, Int.reduceLE, Int.reduceEq, Int.reduceNeg, Int.reduceAdd, Int.reduceSub, Nat.reduceLeDiff, Nat.reduceLT]
          exact go5 _ q2 q3 (fun q => by omega)
        · simp only [c1, c2, w_law10_AccessLast_j9, w_law10_AccessLast_j9b, ruS, ruL, ruE, Nat.reduceAdd, reduceIte, Int.reduceLT, Int.reduceLE, Int.reduceEq, Int.reduceNeg, Int.reduceAdd, Int.reduceSub, Nat.reduceLeDiff, Nat.reduceLT]
          exact go5 _ hm0 hm1 fun _ => rfl
      · simp only [c1, w_law10_AccessLast_j9, w_law10_AccessLast_j9b, ruS, ruL, ruE, Nat.reduceAdd, reduceIte, Int.reduceLT, Int.reduceLE, Int.reduceEq, Int.reduceNeg, Int.reduceAdd, Int.reduceSub, Nat.reduceLeDiff, Nat.reduceLT]
        exact go5 _ hm0 hm1 fun _ => rfl
    · have ht' : t = 400 := by omega
      subst ht'
      have all : ∀ k, 0 ≤ k → k < i → D k = true := by
        intro k k0 k1
        cases hDk : D k with
        | true => rfl
        | false =>
          exfalso
          obtain ⟨_, q2, q3, _, q4, q5⟩ := hOn.each k k0 k1 hDk
          have hcn := cnt_le k0 (by omega) hDk
          have : c k ≤ 15 := by
            by_cases p : (M k).a.pc = 5
            · have := (q5 p).1; omega
            · have := q4 p
              have : rk (M k).a.pc ≤ 3 := by unfold rk; (repeat' split) <;> decide
              omega
          rcases (show i = 1 ∨ i = 2 ∨ i = 3 ∨ i = 4 by omega) with rfl | rfl | rfl | rfl <;> omega
      obtain ⟨hv, hv0, hv1⟩ := hOn.v
      simp only [ht, w_law10_AccessLast_j3, w_law10_AccessLast_j3b, ruS, ruL, ruE, Nat.reduceAdd, reduceIte, Int.reduceLT, Int.reduceLE, Int.reduceEq, Int.reduceNeg, Int.reduceAdd, Int.reduceSub, Nat.reduceLeDiff, Nat.reduceLT]
      refine xLoop_i (fun k => [.int .i64 i, .int .u64 65536, .int .i64 want, .int .i64 k]) [N.el C 0, l4 fun j => .bool (D j)] i (fun k τ => 0 ≤ k ∧ k ≤ i ∧ isA N A5 τ) ?_ ⟨Int.le_refl 0, by omega, hA5⟩
      rintro k τ6 ⟨k0, k1, hA6⟩ R6 hR6
      simp only [w_law10_AccessLast_l26, w_law10_AccessLast_l26b, ruS, ruL, ruE, Nat.reduceAdd, reduceIte, Int.reduceLT, Int.reduceLE, Int.reduceEq, Int.reduceNeg, Int.reduceAdd, Int.reduceSub, Nat.reduceLeDiff, Nat.reduceLT]
      by_cases hk : k < i
      · simp only [hk, xIxA k0 (show k < (4 : Nat) by omega), l4_sub k0 (show k < 4 by omega), all k k0 hk, ruS, ruL, ruE, Nat.reduceAdd, reduceIte, Int.reduceLT, Int.reduceLE, Int.reduceEq, Int.reduceNeg, Int.reduceAdd, Int.reduceSub, Nat.reduceLeDiff, Nat.reduceLT]
        rw [IntWalk.i64_in (k + 1) (by omega)]
        exact hR6 _ hk ⟨by omega, by omega, hA6⟩
      simp only [hk, w_law10_AccessLast_j4, w_law10_AccessLast_j4b, b1, ruS, ruL, ruE, Nat.reduceAdd, reduceIte, Int.reduceLT, Int.reduceLE, Int.reduceEq, Int.reduceNeg, Int.reduceAdd, Int.reduceSub, Nat.reduceLeDiff, Nat.reduceLT]
      refine c_AccL hN hC hA6 hOn.ev.ol hOn.ev.ok (by omega) hOn.ev.n1 hOn.ev.n2 fun m A7 τ7 hD hA7 hK7 => ?_
      have hval : m.a.oV = want := by
        rcases hD.r with ⟨q, _⟩ | ⟨_, _, q, _⟩
        · exact absurd ⟨by decide, by decide⟩ q
        · rw [q, show (a + 1 + (Ak.new 1 65536 0 0 0 false).a.ix) = a + 1 from by show a + 1 + 0 = a + 1; omega, hv]; unfold ceV; omega
      simp only [f2, hval, ruS, ruL, ruE, Nat.reduceAdd, reduceIte, Int.reduceLT, Int.reduceLE, Int.reduceEq, Int.reduceNeg, Int.reduceAdd, Int.reduceSub, Nat.reduceLeDiff, Nat.reduceLT]
end Go.Fl
