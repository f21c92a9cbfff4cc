/- What the claim leans on, part 5: own readings of the program's functions, what they come to, laws of them. No condition. -/
import Derived.Test.YtnkehalednommaaZAccessAlone4
namespace Go.Fl
open Go
set_option linter.unusedVariables false
set_option linter.unusedSimpArgs false
variable {N : Nm} {A B : Ar} {σ : Mem} {K : Value → Mem → Prop} {C : Cf} {who : Int}
theorem want5 {l : List Value} (h : FlatL [some .i64, some .u64, some .i64, some .i64, some .i64] l) : ∃ a b c d e, l = [.int .i64 a, .int .u64 b, .int .i64 c, .int .i64 d, .int .i64 e] ∧ 0 ≤ b ∧ b < 18446744073709551616 := by
 cases h with
 | cons h1 h => cases h with
  | cons h2 h => cases h with
   | cons h3 h => cases h with
    | cons h4 h => cases h with
     | cons h5 h => cases h with
      | nil =>
       obtain ⟨a, rfl, _⟩ := h1; obtain ⟨b, rfl, w⟩ := h2; obtain ⟨c, rfl, _⟩ := h3; obtain ⟨d, rfl, _⟩ := h4; obtain ⟨e, rfl, _⟩ := h5
       have : 0 ≤ b ∧ b ≤ 18446744073709551615 := by simpa [Lit.wf, IntKind.min, IntKind.max, IntKind.signed, IntKind.bits] using w
       exact ⟨a, b, c, d, e, rfl, by omega, by omega⟩
theorem c_value10 {n : Int} : s_a3 [.int .i64 n] K σ = K (.int .i64 (n % 1099511627776)) σ := by
 have e : ∀ (K : Value → Prop) (Q : EqK), xF (fBin .and Q) [.int .i64 n, .int .i64 1099511627775] K = K (.int .i64 (n % 1099511627776)) := fun K Q => by simpa using xAndI (K := K) (Q := Q) (k := 40) (a := n) (by decide)
 simp only [s_a3, w_a3, e, ruS, Nat.reduceAdd, reduceIte, Int.reduceLT, Int.reduceLE, Int.reduceEq, Int.reduceNeg, Int.reduceAdd, Int.reduceSub]
theorem law_AccessAlone (σ : Mem) (s : Value) (len : Nat) (cs : List Value) (sl : Sl σ 1 len cs s) (hm : len ≤ maxLen) (hf : FlatL (List.replicate len [some .i64]).flatten cs) (s2 : Value) (len2 : Nat) (cs2 : List Value) (sl2 : Sl σ 5 len2 cs2 s2) (hm2 : len2 ≤ maxLen) (hf2 : FlatL (List.replicate len2 [some .i64, some .u64, some .i64, some .i64, some .i64]).flatten cs2) :
  s_az [s, s2] (fun v _ => v = .bool true) σ := by
 obtain ⟨g, hg, _⟩ := sl.argI hf
 have hg2 := sl2.argS
 simp only [s_az, w_az, ruS, ruL, ruE, Nat.reduceAdd, reduceIte, Int.reduceLT, Int.reduceLE, Int.reduceEq, Int.reduceNeg, Int.reduceAdd, Int.reduceSub, Nat.reduceLeDiff, Nat.reduceLT]
 have hC : (cA 1 8 8 40).ok := cA_ok (by omega) (by omega) (by omega) (by omega)
 refine c_Arena (C := cA 1 8 8 40) hC rfl rfl rfl fun N A τ hN hF hA hE hfr => ?_
 simp only [c_awake10, gStoreE, w_az_j1, w_az_j1b, ruS, ruL, ruE, Nat.reduceAdd, reduceIte, Int.reduceLT, Int.reduceLE, Int.reduceEq, Int.reduceNeg, Int.reduceAdd, Int.reduceSub, Nat.reduceLeDiff, Nat.reduceLT]
 have hW := hF.wo hC
 have hP := hF.pa hC
 have hn := hF.n
 have hln := len_bd hC
 have hbb : 2 * (cA 1 8 8 40).S + 2 = 18 := rfl
 have hgen0 : ∀ s, 0 ≤ s → s < (cA 1 8 8 40).S → slG (A.w ((cA 1 8 8 40).slot s)) ≤ 1 + 0 := by
  intro s s0 s1
  have : A.w ((cA 1 8 8 40).slot s) = putSlot 0 0 1 0 := by
   rw [hF.w]
   have hT := hC.T
   unfold Cf.w0 Cf.fr
   rw [if_neg (by unfold Cf.slot; omega), if_neg (by unfold Cf.slot; omega), if_pos (by unfold Cf.slot; omega), if_pos (by unfold Cf.slot; omega)]
  rw [this]; decide
 rw [hbb] at hP
 generalize cA 1 8 8 40 = C at *
 generalize Bg.fr C = b at *
 clear hF
 refine hBuildS_i [] rfl fun p0 τ0 m0 h0 x0 => ?_
 refine hBuildS_i [] rfl fun p1 τ1 m1 h1 x1 => ?_
 have hA0 := hA.ext x0
 have hA1 := hA0.ext x1
 have e0 := hE.trans x0
 have e1 := e0.trans x1
 have r0 : Rw3 false N σ τ1 p0 p1 0 0 0 0 0 (fun _ => 0) (fun _ => 0) (fun _ => 0) (fun _ => true) (fun _ _ => 0) (fun _ => false) := by
  refine ⟨x1 _ _ h0, h1, fun q => (by cases q), fun k k0 k1 => by omega, ⟨hA.new m0, hE.none m0⟩, ⟨hA0.new m1, e0.none m1⟩, fun q => (by cases q), fun k k0 k1 => by omega, ⟨?_, fun q => (by cases q)⟩, fun k k0 k1 => by omega, fun k l k0 k1 => by omega⟩
  rintro rfl; rw [h0] at m1; cases m1
 have py0 : Py C 0 0 (fun _ => none) A.w (fun _ => 0) (fun _ => 0) (fun _ => true) (fun _ _ => 0) (fun _ => false) :=
  ⟨hgen0, fun k k0 k1 => by omega, fun k k0 k1 => by omega, fun k k0 k1 => by omega, fun k l k0 k1 => by omega, fun _ _ _ _ => rfl⟩
 have fin : ∀ τ, w_az_j3 (fun v _ => v = .bool true) [] [] τ := fun τ => by simp only [w_az_j3, w_az_j3b, ruS, ruL, ruE, Nat.reduceAdd, reduceIte, Int.reduceLT, Int.reduceLE, Int.reduceEq, Int.reduceNeg, Int.reduceAdd, Int.reduceSub, Nat.reduceLeDiff, Nat.reduceLT]
 refine xLoop_r (fun m ts ls τ => ∃ i n p0 p1 A b ob hh z q va, m = (6 - i).toNat ∧ ts = [s, s2, .slice (some ⟨p0, 0, none⟩) n 1, .slice (some ⟨p1, 0, none⟩) n 1, .int .i64 i] ∧ ls = [N.el C 0] ∧ 0 ≤ i ∧ i ≤ 6 ∧ (n : Int) ≤ i ∧
   isA N A τ ∧ Pa C A (18 + 110 * i) ∧ Wo C b ob (17 * i) A.w ∧ (A.n : Int) ≤ 200000000 ∧ Py C i n ob A.w hh z (fun _ => true) va (fun _ => false) ∧ Rw3 false N σ τ p0 p1 0 n n n 0 hh z q (fun _ => true) va (fun _ => false) ∧ Ext σ τ) ?_ (n := 6)
  ⟨0, 0, p0, p1, A, b, _, _, _, _, _, rfl, rfl, rfl, Int.le_refl 0, by decide, by decide, hA1, hP, hW, by omega, py0, r0, e1⟩
 clear r0 py0 hA0 hA1 e0 e1 m0 m1 h0 h1 x0 x1 hP hW hA hgen0 hn hln
 rintro m ts ls τ1 ⟨i, n, p0, p1, A1, b1, ob, hh, z, q, va, rfl, rfl, rfl, i0, i1, n1, hA1, hP1, hW1, hn1, hI, rw1, ext1⟩ R hR
 have hg1 := hg.keep ext1
 have fin2 : w_az_j2 (fun v _ => v = .bool true) [s2, .slice (some ⟨p0, 0, none⟩) n 1, .slice (some ⟨p1, 0, none⟩) n 1] [N.el C 0] τ1 := by
  simp only [w_az_j2, w_az_j2b, ruS, ruL, ruE, Nat.reduceAdd, reduceIte, Int.reduceLT, Int.reduceLE, Int.reduceEq, Int.reduceNeg, Int.reduceAdd, Int.reduceSub, Nat.reduceLeDiff, Nat.reduceLT]
  refine xLoop_r (fun m ts ls τ => ∃ i A va, m = (80 - i).toNat ∧ ts = [s2, .slice (some ⟨p0, 0, none⟩) n 1, .slice (some ⟨p1, 0, none⟩) n 1, .int .i64 i] ∧ ls = [N.el C 0] ∧ 0 ≤ i ∧ i ≤ 80 ∧
    isA N A τ ∧ Pa C A (10000 + 110 * i) ∧ Wo C b1 ob 200 A.w ∧ (A.n : Int) ≤ 200000000 ∧ Py C (10 + i) n ob A.w hh z (fun _ => true) va (fun _ => false) ∧ Rw3 false N σ τ p0 p1 0 n n n 0 hh z q (fun _ => true) va (fun _ => false) ∧ Ext σ τ) ?_ (n := 80)
   ⟨0, A1, va, rfl, rfl, rfl, Int.le_refl 0, by decide, hA1, hP1.mono (by omega), ⟨hW1.aw, hW1.lv.mono (by omega), hW1.gen, hW1.no, hW1.ok, hW1.ne, hW1.sm⟩, hn1, ⟨fun s s0 s1 => by have := hI.gen s s0 s1; omega, hI.u, hI.live, hI.dead, hI.ne, hI.nn⟩, rw1, ext1⟩
  have hnb : (n : Int) < 1000 := by omega
  clear hI rw1 ext1 hA1 hP1 hW1 hn1 i0 i1 n1 hR hg1 va
  rintro m ts ls τ1 ⟨i, A1, va, rfl, rfl, rfl, i0, i1, hA1, hP1, hW1, hn1, hI, rw1, ext1⟩ R hR
  have hg1 := hg2.keep ext1
  simp only [w_law10_AccessAlone_l14, w_law10_AccessAlone_l14b, hg1.len, xLen, ruS, ruL, ruE, Nat.reduceAdd, reduceIte, Int.reduceLT, Int.reduceLE, Int.reduceEq, Int.reduceNeg, Int.reduceAdd, Int.reduceSub, Nat.reduceLeDiff, Nat.reduceLT]
  by_cases c1 : i < len2
  rotate_left
  ·simp only [c1, ruS, ruL, ruE, Nat.reduceAdd, reduceIte, Int.reduceLT, Int.reduceLE, Int.reduceEq, Int.reduceNeg, Int.reduceAdd, Int.reduceSub, Nat.reduceLeDiff, Nat.reduceLT]; exact fin _
  by_cases c2 : i < 80
  rotate_left
  ·simp only [c1, c2, ruS, ruL, ruE, Nat.reduceAdd, reduceIte, Int.reduceLT, Int.reduceLE, Int.reduceEq, Int.reduceNeg, Int.reduceAdd, Int.reduceSub, Nat.reduceLeDiff, Nat.reduceLT]; exact fin _
  by_cases c3 : (0 : Int) < (n : Int)
  rotate_left
  ·simp only [c1, c2, c3, ruS, ruL, ruE, Nat.reduceAdd, reduceIte, Int.reduceLT, Int.reduceLE, Int.reduceEq, Int.reduceNeg, Int.reduceAdd, Int.reduceSub, Nat.reduceLeDiff, Nat.reduceLT]; exact fin _
  have hel := hf2.elem (i := i.toNat) (by omega)
  obtain ⟨kd, h, ix, v, old, hL, u0, u1⟩ := want5 hel
  simp only [c1, c2, c3, w_az_j4, w_az_j4b, ruS, ruL, ruE, Nat.reduceAdd, reduceIte, Int.reduceLT, Int.reduceLE, Int.reduceEq, Int.reduceNeg, Int.reduceAdd, Int.reduceSub, Nat.reduceLeDiff, Nat.reduceLT]
  rw [hg1.ix i0 c1]
  simp only [List.length_cons, List.length_nil, Nat.zero_add, Nat.reduceAdd] at hL
  rw [hL]
  have g5 : ∀ {k : Nat} {x y z w u x' y' z' w' u' : Int}, gStore 5 [.pointer (some ⟨k, 0, some 0⟩), .agg #[.int .i64 x, .int .u64 y, .int .i64 z, .int .i64 w, .int .i64 u]] [.int .i64 x', .int .u64 y', .int .i64 z', .int .i64 w', .int .i64 u'] = some [.int .i64 x, .int .u64 y, .int .i64 z, .int .i64 w, .int .i64 u] := fun {_ _ _ _ _ _ _ _ _ _ _} => rfl
  have q0 : ∀ {k : Nat} {x a b c d e : Int}, gStore 1 [.pointer (some ⟨k, 0, some 0⟩), .int .i64 x] [.int .i64 a, .int .u64 b, .int .i64 c, .int .i64 d, .int .i64 e] = some [.int .i64 x, .int .u64 b, .int .i64 c, .int .i64 d, .int .i64 e] := fun {_ _ _ _ _ _ _} => rfl
  have q1 : ∀ {k : Nat} {x a b c d e : Int}, gStore 1 [.pointer (some ⟨k, 1, some 0⟩), .int .u64 x] [.int .i64 a, .int .u64 b, .int .i64 c, .int .i64 d, .int .i64 e] = some [.int .i64 a, .int .u64 x, .int .i64 c, .int .i64 d, .int .i64 e] := fun {_ _ _ _ _ _ _} => rfl
  have q3 : ∀ {k : Nat} {x a b c d e : Int}, gStore 1 [.pointer (some ⟨k, 3, some 0⟩), .int .i64 x] [.int .i64 a, .int .u64 b, .int .i64 c, .int .i64 d, .int .i64 e] = some [.int .i64 a, .int .u64 b, .int .i64 c, .int .i64 x, .int .i64 e] := fun {_ _ _ _ _ _ _} => rfl
  have q4 : ∀ {k : Nat} {x a b c d e : Int}, gStore 1 [.pointer (some ⟨k, 4, some 0⟩), .int .i64 x] [.int .i64 a, .int .u64 b, .int .i64 c, .int .i64 d, .int .i64 e] = some [.int .i64 a, .int .u64 b, .int .i64 c, .int .i64 d, .int .i64 x] := fun {_ _ _ _ _ _ _} => rfl
  have s5 : ∀ x y z u w : Value, sub [x, y, z, u, w] 0 5 true = some (.agg #[x, y, z, u, w]) := fun _ _ _ _ _ => rfl
  have gU : ∀ {k : Nat} {x y z w : Int}, gStore 4 [.pointer (some ⟨k, 0, some 0⟩), .agg #[.int .i64 x, .int .u64 y, .int .i64 z, .int .i64 w]] [.int .i64 0, .int .u64 0, .int .i64 0, .int .i64 0] = some [.int .i64 x, .int .u64 y, .int .i64 z, .int .i64 w] := fun {_ _ _ _ _} => rfl
  have cn1 : (n : Int) ≠ 0 := by omega
  have hmn : 0 ≤ h.tmod n ∧ h.tmod n < n := by
   rw [Int.tmod_eq_emod_of_nonneg u0]
   exact ⟨Int.emod_nonneg _ cn1, Int.emod_lt_of_pos _ c3⟩
  simp only [g5, ruS, ruL, ruE, Nat.reduceAdd, reduceIte, Int.reduceLT, Int.reduceLE, Int.reduceEq, Int.reduceNeg, Int.reduceAdd, Int.reduceSub, Nat.reduceLeDiff, Nat.reduceLT]
  rw [IntWalk.u64_in (n : Int) (by omega), xRem cn1]
  simp only [ruS, ruL, ruE, Nat.reduceAdd, reduceIte, Int.reduceLT, Int.reduceLE, Int.reduceEq, Int.reduceNeg, Int.reduceAdd, Int.reduceSub, Nat.reduceLeDiff, Nat.reduceLT]
  rw [IntWalk.i64_in (h.tmod n) (by omega), xIxS hmn.1 hmn.2]
  simp only [Nat.zero_add]
  rw [ldCells rw1.g0 hmn.1 hmn.2]
  obtain ⟨pk1, kk0, kk1⟩ := pickN kd (show (0 : Int) < 3 by decide) (by decide)
  simp only [xRem (show (3 : Int) ≠ 0 by decide), pk1, c_value10, ruS, ruL, ruE, Nat.reduceAdd, reduceIte, Int.reduceLT, Int.reduceLE, Int.reduceEq, Int.reduceNeg, Int.reduceAdd, Int.reduceSub, Nat.reduceLeDiff, Nat.reduceLT]
  generalize (kd.tmod 3 + 3).tmod 3 = kq at *
  rw [IntWalk.i64_in (1 + kq) (by omega)]
  have hv : 0 ≤ v % 1099511627776 ∧ v % 1099511627776 ≤ 1099511627775 := by omega
  generalize v % 1099511627776 = v' at *
  generalize old % 1099511627776 = old' at *
  obtain ⟨k0, k1⟩ := hmn
  generalize h.tmod n = k at *
  simp only [q0, q1, q3, q4, s5, ruS, ruL, ruE, Nat.reduceAdd, reduceIte, Int.reduceLT, Int.reduceLE, Int.reduceEq, Int.reduceNeg, Int.reduceAdd, Int.reduceSub, Nat.reduceLeDiff, Nat.reduceLT]
  refine c_WoR hN hC hA1 hv (hI.u k k0 k1) hP1 (by omega) hn1 hW1 fun E V S A2 τ2 s0 s1 s2' v4 hr hgn hW2 hP2 hn2 hA2 k2 => ?_
  have ext2 := ext1.keep' k2 hfr.all
  have rw2 := rw1.keep k2
  have sA := hP1.ok.s
  simp only [gU, ruS, ruL, ruE, Nat.reduceAdd, reduceIte, Int.reduceLT, Int.reduceLE, Int.reduceEq, Int.reduceNeg, Int.reduceAdd, Int.reduceSub, Nat.reduceLeDiff, Nat.reduceLT]
  have nxt : ∀ va' τ', isA N A2 τ' → Py C (10 + i + 1) n ob A2.w hh z (fun _ => true) va' (fun _ => false) → Rw3 false N σ τ' p0 p1 0 n n n 0 hh z q (fun _ => true) va' (fun _ => false) → Ext σ τ' →
    w_az_j5 (fun v _ => v = .bool true) (w_az_j3 fun v _ => v = .bool true) R [s2, .slice (some ⟨p0, 0, none⟩) n 1, .slice (some ⟨p1, 0, none⟩) n 1, .int .i64 i] [N.el C 0] τ' := by
   intro va' τ' a1 a5 a6 a7
   simp only [w_az_j5, w_az_j5b, ruS, ruL, ruE, Nat.reduceAdd, reduceIte, Int.reduceLT, Int.reduceLE, Int.reduceEq, Int.reduceNeg, Int.reduceAdd, Int.reduceSub, Nat.reduceLeDiff, Nat.reduceLT]
   rw [IntWalk.i64_in (i + 1) (by omega)]
   exact hR (80 - (i + 1)).toNat _ _ _ (by omega) ⟨i + 1, A2, va', rfl, rfl, rfl, by omega, by omega, a1, hP2.mono (by omega), hW2, by omega, by rw [show 10 + (i + 1) = 10 + i + 1 by omega]; exact a5, a6, a7⟩
  obtain ⟨s', d, hs', t1, t2, t3, t4, t5⟩ := hI.live k k0 k1 rfl
  have hit : Hit C ob (hh k) false s' d := ⟨hs', t1, t2, t3⟩
  rcases hr with ⟨_, hm, _⟩ | ⟨s'', d'', hit', hr⟩
  ·exact absurd hit (hm s' d)
  obtain ⟨rfl, rfl⟩ : s'' = s' ∧ d'' = d := by
   have r1 := (hW1.ok s'' d'' hit'.1.1 hit'.1.2 hit'.2.1).2.1
   have r2 := (hW1.ok s' d hs'.1 hs'.2 t1).2.1
   have r3 : d''.s = d.s := by unfold Do.s; rw [hit'.2.2.1, t2]
   have e : s'' = s' := r1.symm.trans (r3.trans r2)
   subst e
   have := hit'.2.1.symm.trans t1
   cases this
   exact ⟨rfl, rfl⟩
  have ew : wv z q (fun _ => true) k = .slice (some ⟨q k, 0, none⟩) (z k).toNat 1 := by unfold wv; simp
  have zr := class_room' (hW1.ok s'' d'' hs'.1 hs'.2 t1).1.cl
  have ezn : ((z k).toNat : Int) = z k := by omega
  have st1 : ¬ S < 1 := by
   have : E ≠ 3 := by
    rcases hr with ⟨_, e, _⟩ | ⟨_, _, ⟨_, e, _⟩ | ⟨_, e, _⟩⟩
    ·omega
    ·rw [e]; split <;> decide
    ·omega
   have := s2' this; omega
  have st2 : ¬ A2.s < S := by omega
  rcases hr with ⟨r1, rfl, hsm⟩ | ⟨⟨x0, x1⟩, rV, hr⟩
  ·have go := nxt va τ2 hA2 (hI.same hsm hgn) rw2 ext2
   have eV := v4 rfl
   subst eV
   by_cases xn : ix < 0
   ·simp only [xn, w_az_j6, w_az_j6b, w_az_j7, w_az_j7b, ne_eq, not_true_eq_false, ruS, ruL, ruE, Nat.reduceAdd, reduceIte, Int.reduceLT, Int.reduceLE, Int.reduceEq, Int.reduceNeg, Int.reduceAdd, Int.reduceSub, Nat.reduceLeDiff, Nat.reduceLT]; exact go
   ·have xz : z k ≤ ix := by omega
    simp only [xn, ruS, ruL, ruE, Nat.reduceAdd, reduceIte, Int.reduceLT, Int.reduceLE, Int.reduceEq, Int.reduceNeg, Int.reduceAdd, Int.reduceSub, Nat.reduceLeDiff, Nat.reduceLT]
    rw [xIxS k0 k1]
    simp only [Nat.zero_add]
    rw [rw2.ld1 k0 k1]
    simp only [ew, xLen, ezn, xz, w_az_j6, w_az_j6b, w_az_j7, w_az_j7b, ne_eq, not_true_eq_false, ruS, ruL, ruE, Nat.reduceAdd, reduceIte, Int.reduceLT, Int.reduceLE, Int.reduceEq, Int.reduceNeg, Int.reduceAdd, Int.reduceSub, Nat.reduceLeDiff, Nat.reduceLT]; exact go
  ·have xn : ¬ ix < 0 := by omega
   have xz : ¬ z k ≤ ix := by omega
   rw [t4] at x1
   have eV : V = va k ix := by rw [rV, t5 ix x0 x1]
   simp only [xn, ruS, ruL, ruE, Nat.reduceAdd, reduceIte, Int.reduceLT, Int.reduceLE, Int.reduceEq, Int.reduceNeg, Int.reduceAdd, Int.reduceSub, Nat.reduceLeDiff, Nat.reduceLT]
   rw [xIxS k0 k1]
   simp only [Nat.zero_add]
   rw [rw2.ld1 k0 k1]
   simp only [ew, xLen, ezn, xz, w_az_j6, w_az_j6b, xIxS k0 k1, Nat.zero_add, ruS, ruL, ruE, Nat.reduceAdd, reduceIte, Int.reduceLT, Int.reduceLE, Int.reduceEq, Int.reduceNeg, Int.reduceAdd, Int.reduceSub, Nat.reduceLeDiff, Nat.reduceLT]
   rw [rw2.ld1 k0 k1]
   simp only [ew, ruS, ruL, ruE, Nat.reduceAdd, reduceIte, Int.reduceLT, Int.reduceLE, Int.reduceEq, Int.reduceNeg, Int.reduceAdd, Int.reduceSub, Nat.reduceLeDiff, Nat.reduceLT]
   rw [xIxS x0 (by omega)]
   simp only [Nat.zero_add]
   rw [rw2.ldq k0 k1 rfl x0 x1]
   simp only [← eV, ne_eq, ruS, ruL, ruE, Nat.reduceAdd, reduceIte, Int.reduceLT, Int.reduceLE, Int.reduceEq, Int.reduceNeg, Int.reduceAdd, Int.reduceSub, Nat.reduceLeDiff, Nat.reduceLT]
   have j8 : ∀ va' τ', isA N A2 τ' → Py C (10 + i + 1) n ob A2.w hh z (fun _ => true) va' (fun _ => false) → Rw3 false N σ τ' p0 p1 0 n n n 0 hh z q (fun _ => true) va' (fun _ => false) → Ext σ τ' →
     w_az_j8 (fun v _ => v = .bool true) (w_az_j3 fun v _ => v = .bool true) R (w_az_j5 (fun v _ => v = .bool true) (w_az_j3 fun v _ => v = .bool true) R) [s2, .slice (some ⟨p0, 0, none⟩) n 1, .slice (some ⟨p1, 0, none⟩) n 1, .int .i64 i, .int .i64 V, .int .i64 E] [N.el C 0, [.int .i64 E, .int .u64 0, .int .i64 V, .int .i64 S]] τ' := by
    intro va' τ' a1 a5 a6 a7
    simp only [w_az_j8, w_az_j8b, w_az_j9, w_az_j9b, ne_eq, not_true_eq_false, st1, st2, c_NowA a1, ruS, ruL, ruE, Nat.reduceAdd, reduceIte, Int.reduceLT, Int.reduceLE, Int.reduceEq, Int.reduceNeg, Int.reduceAdd, Int.reduceSub, Nat.reduceLeDiff, Nat.reduceLT]
    exact nxt va' τ' a1 a5 a6 a7
   rcases hr with ⟨r1, rfl, hsm⟩ | ⟨r1, rfl, hsm, hcc⟩
   ·have go := j8 va τ2 hA2 (hI.same hsm hgn) rw2 ext2
    rcases r1 with r1 | ⟨r1, r2⟩
    ·have : kq = 0 := by omega
     subst this
     simp only [w_az_j10, w_az_j10b, ne_eq, not_true_eq_false, ruS, ruL, ruE, Nat.reduceAdd, reduceIte, Int.reduceLT, Int.reduceLE, Int.reduceEq, Int.reduceNeg, Int.reduceAdd, Int.reduceSub, Nat.reduceLeDiff, Nat.reduceLT] at go ⊢; exact go
    ·have : kq = 2 := by omega
     subst this
     simp only [r2, w_az_j10, w_az_j10b, ne_eq, not_false_eq_true, ruS, ruL, ruE, Nat.reduceAdd, reduceIte, Int.reduceLT, Int.reduceLE, Int.reduceEq, Int.reduceNeg, Int.reduceAdd, Int.reduceSub, Nat.reduceLeDiff, Nat.reduceLT] at go ⊢; exact go
   ·have py2 := hI.lay hW1 (ix := ix) (v := v') k0 k1 rfl hs' t1 t2 hv hsm hgn hcc
    have j10 : w_az_j10 (fun v _ => v = .bool true) (w_az_j3 fun v _ => v = .bool true) R (w_az_j5 (fun v _ => v = .bool true) (w_az_j3 fun v _ => v = .bool true) R) (w_az_j8 (fun v _ => v = .bool true) (w_az_j3 fun v _ => v = .bool true) R (w_az_j5 (fun v _ => v = .bool true) (w_az_j3 fun v _ => v = .bool true) R)) [s2, .slice (some ⟨p0, 0, none⟩) n 1, .slice (some ⟨p1, 0, none⟩) n 1, .int .i64 i, .int .i64 k, .int .i64 V, .int .i64 0, .bool false] [N.el C 0, [.int .i64 (1 + kq), .int .u64 (hh k), .int .i64 ix, .int .i64 v', .int .i64 old'], [.int .i64 0, .int .u64 0, .int .i64 V, .int .i64 S]] τ2 := by
     have k1' : ¬ 1 + kq = 1 := fun e => r1 (.inl e)
     simp only [k1', w_az_j10, w_az_j10b, ne_eq, not_false_eq_true, ruS, ruL, ruE, Nat.reduceAdd, reduceIte, Int.reduceLT, Int.reduceLE, Int.reduceEq, Int.reduceNeg, Int.reduceAdd, Int.reduceSub, Nat.reduceLeDiff, Nat.reduceLT]
     rw [xIxS k0 k1]
     simp only [Nat.zero_add]
     rw [rw2.ld1 k0 k1]
     simp only [ew, ruS, ruL, ruE, Nat.reduceAdd, reduceIte, Int.reduceLT, Int.reduceLE, Int.reduceEq, Int.reduceNeg, Int.reduceAdd, Int.reduceSub, Nat.reduceLeDiff, Nat.reduceLT]
     rw [xIxS x0 (by omega)]
     simp only [Nat.zero_add]
     exact rw2.stq hA2 ext2 k0 k1 rfl x0 x1 fun τ3 hA3 ext3 rw3 => j8 _ τ3 hA3 py2 rw3 ext3
    by_cases k5 : 1 + kq = 3
    ·have r2 : V = old' := Classical.byContradiction fun q => r1 (.inr ⟨k5, q⟩)
     simp only [k5, r2, ne_eq, not_true_eq_false, ruS, ruL, ruE, Nat.reduceAdd, reduceIte, Int.reduceLT, Int.reduceLE, Int.reduceEq, Int.reduceNeg, Int.reduceAdd, Int.reduceSub, Nat.reduceLeDiff, Nat.reduceLT]
     rw [k5, r2] at j10; exact j10
    ·simp only [k5, ruS, ruL, ruE, Nat.reduceAdd, reduceIte, Int.reduceLT, Int.reduceLE, Int.reduceEq, Int.reduceNeg, Int.reduceAdd, Int.reduceSub, Nat.reduceLeDiff, Nat.reduceLT]; exact j10
 simp only [w_law10_AccessAlone_l7, w_law10_AccessAlone_l7b, hg1.len, ruS, ruL, ruE, Nat.reduceAdd, reduceIte, Int.reduceLT, Int.reduceLE, Int.reduceEq, Int.reduceNeg, Int.reduceAdd, Int.reduceSub, Nat.reduceLeDiff, Nat.reduceLT]
 by_cases c1 : i < len
 rotate_left
 ·simp only [c1, ruS, ruL, ruE, Nat.reduceAdd, reduceIte, Int.reduceLT, Int.reduceLE, Int.reduceEq, Int.reduceNeg, Int.reduceAdd, Int.reduceSub, Nat.reduceLeDiff, Nat.reduceLT]; exact fin2
 by_cases c2 : i < 6
 rotate_left
 ·simp only [c1, c2, ruS, ruL, ruE, Nat.reduceAdd, reduceIte, Int.reduceLT, Int.reduceLE, Int.reduceEq, Int.reduceNeg, Int.reduceAdd, Int.reduceSub, Nat.reduceLeDiff, Nat.reduceLT]; exact fin2
 simp only [c1, c2, w_az_j11, w_az_j11b, ruS, ruL, ruE, Nat.reduceAdd, reduceIte, Int.reduceLT, Int.reduceLE, Int.reduceEq, Int.reduceNeg, Int.reduceAdd, Int.reduceSub, Nat.reduceLeDiff, Nat.reduceLT]
 rw [hg1.ix i0 c1]
 simp only [andI15, ruS, ruL, ruE, Nat.reduceAdd, reduceIte, Int.reduceLT, Int.reduceLE, Int.reduceEq, Int.reduceNeg, Int.reduceAdd, Int.reduceSub, Nat.reduceLeDiff, Nat.reduceLT]
 have hz16 : 1 ≤ 1 + g i % 16 ∧ 1 + g i % 16 ≤ 16 := by omega
 rw [IntWalk.i64_in (1 + g i % 16) (by omega)]
 generalize 1 + g i % 16 = sz at hz16
 have hcl : 0 ≤ classOf sz := by unfold classOf; (repeat' split) <;> omega
 have gU : ∀ {k : Nat} {x y z w : Int}, gStore 4 [.pointer (some ⟨k, 0, some 0⟩), .agg #[.int .i64 x, .int .u64 y, .int .i64 z, .int .i64 w]] [.int .i64 0, .int .u64 0, .int .i64 0, .int .i64 0] = some [.int .i64 x, .int .u64 y, .int .i64 z, .int .i64 w] := fun {_ _ _ _ _} => rfl
 refine c_WoM hN hC hA1 hP1 (by omega) hW1 (by omega) hcl fun E H V S b2 ob2 A2 τ2 _ _ _ hr hW2 hP2 hn2 hA2 k2 => ?_
 have ext2 := ext1.keep' k2 hfr.all
 have rw2 := rw1.keep k2
 obtain ⟨hgn, hr⟩ := hr
 simp only [gU, ruS, ruL, ruE, Nat.reduceAdd, reduceIte, Int.reduceLT, Int.reduceLE, Int.reduceEq, Int.reduceNeg, Int.reduceAdd, Int.reduceSub, Nat.reduceLeDiff, Nat.reduceLT]
 have nxt : ∀ (n' p0' p1' : Nat) b' ob' hh' z' q' va' τ', (n' : Int) ≤ i + 1 → isA N A2 τ' → Wo C b' ob' (17 * i + 17) A2.w → Py C (i + 1) n' ob' A2.w hh' z' (fun _ => true) va' (fun _ => false) → Rw3 false N σ τ' p0' p1' 0 n' n' n' 0 hh' z' q' (fun _ => true) va' (fun _ => false) → Ext σ τ' →
   w_az_j12 (fun v _ => v = .bool true) (w_az_j2 fun v _ => v = .bool true) R [s, s2, .slice (some ⟨p0', 0, none⟩) n' 1, .slice (some ⟨p1', 0, none⟩) n' 1, .int .i64 i] [N.el C 0] τ' := by
  intro n' p0' p1' b' ob' hh' z' q' va' τ' a0 a1 a3 a5 a6 a7
  simp only [w_az_j12, w_az_j12b, ruS, ruL, ruE, Nat.reduceAdd, reduceIte, Int.reduceLT, Int.reduceLE, Int.reduceEq, Int.reduceNeg, Int.reduceAdd, Int.reduceSub, Nat.reduceLeDiff, Nat.reduceLT]
  rw [IntWalk.i64_in (i + 1) (by omega)]
  exact hR (6 - (i + 1)).toNat _ _ _ (by omega) ⟨i + 1, n', p0', p1', A2, b', ob', hh', z', q', va', rfl, rfl, rfl, by omega, by omega, a0, a1, hP2.mono (by omega), by rw [show 17 * (i + 1) = 17 * i + 17 by omega]; exact a3, by omega, a5, a6, a7⟩
 rcases hr with ⟨hE', _, hX, rfl, rfl, hsm⟩ | ⟨rfl, _, s', F, d, hs, obs, _, _, _, rfl, ⟨_, hdn, hH⟩, hdz, hdo, hds, hsm, hz0⟩
 ·simp only [hE', ruS, ruL, ruE, Nat.reduceAdd, reduceIte, Int.reduceLT, Int.reduceLE, Int.reduceEq, Int.reduceNeg, Int.reduceAdd, Int.reduceSub, Nat.reduceLeDiff, Nat.reduceLT]
  exact nxt n p0 p1 _ _ _ _ _ _ τ2 (by omega) hA2 hW2 (hI.same hsm hgn) rw2 ext2
 ·have py2 := hI.make hC hW1 hs obs hgn ⟨hdn, hH⟩ hdz hdo hds hsm hz0
  have eT : updB (fun _ => true) (n : Int) true = fun _ => true := by funext k; unfold updB; split <;> rfl
  have eF : updB (fun _ => false) (n : Int) false = fun _ => false := by funext k; unfold updB; split <;> rfl
  rw [eT, eF] at py2
  have bu : ∀ {x : Int}, gBuildS 1 1 [.int .u64 0] [0] [.int .u64 x] [] = some [.int .u64 x] := fun {_} => rfl
  have bs : ∀ {p c : Nat}, gBuildS 1 1 [.slice none 0 0] [0] [.slice (some ⟨p, 0, none⟩) c 1] [] = some [.slice (some ⟨p, 0, none⟩) c 1] := fun {_ _} => rfl
  have eH : ∀ k : Int, 0 ≤ k → k < n → upd hh n H k = hh k := fun k _ hk => upd_ne _ _ (by omega)
  have eW : ∀ id : Nat, Value.slice (some ⟨id, 0, none⟩) sz.toNat 1 = wv (upd z n sz) (fun k => if k = (n : Int) then id else q k) (fun _ => true) n := fun id => by unfold wv; simp only [if_true, upd_same]
  simp only [bu, ruS, ruL, ruE, Nat.reduceAdd, reduceIte, Int.reduceLT, Int.reduceLE, Int.reduceEq, Int.reduceNeg, Int.reduceAdd, Int.reduceSub, Nat.reduceLeDiff, Nat.reduceLT]
  refine ⟨?_, ?_⟩
  ·refine rw2.app0 hA2 ext2 (by omega) eH (upd_same _ _ _) fun id0 τ3 hA3 ext3 rw3 => ?_
   refine rw3.mk' (Nat.le_refl n) hA3 ext3 (by omega) (by omega) fun idq τ4 hA4 ext4 rw4 => ?_
   rw [eT] at rw4
   simp only [bs, ruS, ruL, ruE, Nat.reduceAdd, reduceIte, Int.reduceLT, Int.reduceLE, Int.reduceEq, Int.reduceNeg, Int.reduceAdd, Int.reduceSub, Nat.reduceLeDiff, Nat.reduceLT]
   refine rw4.app1 hA4 ext4 (by omega) (eW idq) fun id1 τ5 hA5 ext5 rw5 => ?_
   exact nxt (n + 1) id0 id1 _ _ _ _ _ _ τ5 (by omega) hA5 hW2 py2 rw5 ext5
  ·refine rw2.mk' (Nat.le_refl n) hA2 ext2 (by omega) (by omega) fun idq τ4 hA4 ext4 rw4 => ?_
   rw [eT] at rw4
   refine rw4.app0 hA4 ext4 (by omega) eH (upd_same _ _ _) fun id0 τ3 hA3 ext3 rw3 => ?_
   simp only [bs, ruS, ruL, ruE, Nat.reduceAdd, reduceIte, Int.reduceLT, Int.reduceLE, Int.reduceEq, Int.reduceNeg, Int.reduceAdd, Int.reduceSub, Nat.reduceLeDiff, Nat.reduceLT]
   refine rw3.app1 hA3 ext3 (by omega) (eW idq) fun id1 τ5 hA5 ext5 rw5 => ?_
   exact nxt (n + 1) id0 id1 _ _ _ _ _ _ τ5 (by omega) hA5 hW2 py2 rw5 ext5
end Go.Fl
