/- What the claim leans on, part 3: own readings of the program's functions, what they come to, laws of them. No condition. -/
import Derived.Test.YtnkehalednommaaZPlaceLeaves2
namespace Go.Fl
open Go
set_option linter.unusedVariables false
set_option linter.unusedSimpArgs false
variable {N : Nm} {A B : Ar} {σ : Mem} {K : Value → Mem → Prop} {C : Cf} {who : Int}
theorem room_bd {k : Int} (h0 : 0 ≤ k) (h1 : k ≤ 3) : 3 ≤ roomOf k ∧ roomOf k ≤ 17 := by
 rcases (show k = 0 ∨ k = 1 ∨ k = 2 ∨ k = 3 by omega) with rfl | rfl | rfl | rfl <;> decide
theorem chunk_bd (h : C.ok) {a : Int} (h0 : 0 ≤ a) (h1 : a < C.C) (hn : C.len ≤ A.n) : 0 ≤ C.chunk a ∧ C.chunk a < A.n := by
 have := len_bd h; have := h.T; have := h.S; have := h.C
 unfold Cf.chunk at *; omega
theorem base_bd (h : C.ok) {a : Int} (h0 : 0 ≤ a) (h1 : a < 65536) : 0 ≤ C.base a ∧ C.base a ≤ 1000000000 := by
 have := h.T; have := h.S; have := h.C
 have := mulW h h0 (by omega)
 unfold Cf.base; omega
theorem gStoreH {a b c d w x y z : Int} : gStore 4 [.pointer (some ⟨5, 0, none⟩), .agg #[.int .i64 a, .int .i64 b, .int .i64 c, .int .i64 d]] [.int .i64 w, .int .i64 x, .int .i64 y, .int .i64 z] = some [.int .i64 a, .int .i64 b, .int .i64 c, .int .i64 d] := rfl
theorem sub4 {a b c d : Value} : sub [a, b, c, d] 0 4 true = some (.agg #[a, b, c, d]) := rfl
theorem c_Place_Step (hN : N.ok) (hC : C.ok) (hA : isA N A σ) {p : Nat} {pre post : List Value} {t : Pl} (hp : σ.get p = some ⟨pre ++ t.l ++ post, true⟩) (hd : p ∉ N.l)
  (hw : ∀ i, 0 ≤ A.w i ∧ A.w i < 18446744073709551616) (hn : C.len ≤ A.n) (hf : t.fit C) (ho : A.w (2 + t.cls) ≤ C.C)
  (hk : ∀ τ, isA N (t.step C who A).2.2 τ → τ.get p = some ⟨pre ++ (t.step C who A).2.1.l ++ post, true⟩ → Keep (p :: N.l) σ τ → K (.bool (t.step C who A).1) τ) :
  s_a0 [.pointer (some ⟨p, pre.length, none⟩), N.env C who] K σ := by
 rw [hA.obj hp]
 have hl := len_bd hC
 have hT := hC.T
 have hS := hC.S
 have hCC := hC.C
 have hW := hC.W
 obtain ⟨f1, f2, f3, f4⟩ := hf
 have hch : C.chunk C.C = 6 + C.T + 2 * C.S + 3 * C.C := rfl
 have hcb := chunk_bd hC f3.1 f3.2 hn
 have hbb := base_bd hC f3.1 (by omega)
 have hrb := room_bd f1.1 f1.2
 have hwo := hw (2 + t.cls)
 have hwc := hw (C.chunk t.at')
 have hwr : IntKind.i64.wrap (A.w (2 + t.cls)) = A.w (2 + t.cls) := IntWalk.i64_in _ (by omega)
 simp only [s_a0, w_a0, w_a0_j1, w_a0_j1b, w_a0_j2, w_a0_j2b, Pl.l, ldO hd, ruS, ruL, ruE, Nat.reduceAdd, reduceIte, Int.reduceLT, Int.reduceLE, Int.reduceEq, Int.reduceNeg, Int.reduceAdd, Int.reduceSub, Nat.reduceLeDiff, Nat.reduceLT]
 by_cases c0 : t.pc = 0
 ·rw [if_pos c0, c_Open f1.1 (by omega), c_Load hN (by omega) (by omega)]
  simp only [stOi hd, stOb hd, ldO hd, ruS, ruL, ruE, Nat.reduceAdd, reduceIte, Int.reduceLT, Int.reduceLE, Int.reduceEq, Int.reduceNeg, Int.reduceAdd, Int.reduceSub, Nat.reduceLeDiff, Nat.reduceLT]
  rw [hwr, IntWalk.i64_in (A.w (2 + t.cls) - 1) (by omega)]
  simp only [Pl.step, if_pos c0, hwr] at hk
  by_cases q : A.w (2 + t.cls) - 1 < 0
  ·rw [if_pos q] at hk ⊢
   exact behind hN hd hk
  ·rw [if_neg q] at hk ⊢
   exact behind hN hd hk
 ·by_cases c1 : t.pc = 1
  ·rw [if_neg c0, if_pos c1, c_Chunk hC f3.1 (by omega), c_Load hN hcb.1 hcb.2]
   simp only [stOi hd, stOb hd, ldO hd, ruS, ruL, ruE, Nat.reduceAdd, reduceIte, Int.reduceLT, Int.reduceLE, Int.reduceEq, Int.reduceNeg, Int.reduceAdd, Int.reduceSub, Nat.reduceLeDiff, Nat.reduceLT]
   rw [c_wChunk hwc.1 hwc.2]
   simp only [stOi hd, ldO hd, gStoreH, Cf.v, Cf.l, ruS, ruL, ruE, Nat.reduceAdd, reduceIte, Int.reduceLT, Int.reduceLE, Int.reduceEq, Int.reduceNeg, Int.reduceAdd, Int.reduceSub, Nat.reduceLeDiff, Nat.reduceLT]
   simp only [Pl.step, if_neg c0, if_pos c1] at hk
   have hu := chU_bd (A.w (C.chunk t.at'))
   by_cases q1 : chS (A.w (C.chunk t.at')) = 1
   ·by_cases q2 : chC (A.w (C.chunk t.at')) = t.cls
    ·simp only [q1, q2, ruS, ruL, ruE, Nat.reduceAdd, reduceIte, Int.reduceLT, Int.reduceLE, Int.reduceEq, Int.reduceNeg, Int.reduceAdd, Int.reduceSub, Nat.reduceLeDiff, Nat.reduceLT]
     rw [c_Room f1.1 f1.2]
     simp only [ruS, ruL, ruE, Nat.reduceAdd, reduceIte, Int.reduceLT, Int.reduceLE, Int.reduceEq, Int.reduceNeg, Int.reduceAdd, Int.reduceSub, Nat.reduceLeDiff, Nat.reduceLT]
     rw [IntWalk.i64_in (chU (A.w (C.chunk t.at')) + roomOf t.cls) (by omega)]
     by_cases q3 : C.W < chU (A.w (C.chunk t.at')) + roomOf t.cls
     ·simp only [q3, stOi hd, ruS, ruL, ruE, Nat.reduceAdd, reduceIte, Int.reduceLT, Int.reduceLE, Int.reduceEq, Int.reduceNeg, Int.reduceAdd, Int.reduceSub, Nat.reduceLeDiff, Nat.reduceLT]
      rw [if_pos (.inr (.inr q3))] at hk
      exact behind hN hd hk
     ·simp only [q3, ruS, ruL, ruE, Nat.reduceAdd, reduceIte, Int.reduceLT, Int.reduceLE, Int.reduceEq, Int.reduceNeg, Int.reduceAdd, Int.reduceSub, Nat.reduceLeDiff, Nat.reduceLT]
      rw [if_neg (by rintro (h | h | h) <;> contradiction)] at hk
      exact behind hN hd hk
    ·simp only [q1, q2, ruS, ruL, ruE, Nat.reduceAdd, reduceIte, Int.reduceLT, Int.reduceLE, Int.reduceEq, Int.reduceNeg, Int.reduceAdd, Int.reduceSub, Nat.reduceLeDiff, Nat.reduceLT]
     rw [if_pos (.inr (.inl q2))] at hk
     exact behind hN hd hk
   ·simp only [q1, ruS, ruL, ruE, Nat.reduceAdd, reduceIte, Int.reduceLT, Int.reduceLE, Int.reduceEq, Int.reduceNeg, Int.reduceAdd, Int.reduceSub, Nat.reduceLeDiff, Nat.reduceLT]
    rw [if_pos (.inl q1)] at hk
    exact behind hN hd hk
  ·by_cases c2 : t.pc = 2
   ·rw [if_neg c0, if_neg c1, if_pos c2]
    simp only [Pl.step, if_neg c0, if_neg c1, if_pos c2] at hk
    simp only [s_a2, w_a2, ldO hd, ruS, ruL, ruE, Nat.reduceAdd, reduceIte, Int.reduceLT, Int.reduceLE, Int.reduceEq, Int.reduceNeg, Int.reduceAdd, Int.reduceSub, Nat.reduceLeDiff, Nat.reduceLT]
    rw [c_wChunk f4.1 f4.2]
    have hu := chU_bd t.w
    simp only [stOi hd, ldO hd, gStoreH, ruS, ruL, ruE, Nat.reduceAdd, reduceIte, Int.reduceLT, Int.reduceLE, Int.reduceEq, Int.reduceNeg, Int.reduceAdd, Int.reduceSub, Nat.reduceLeDiff, Nat.reduceLT]
    rw [c_Room f1.1 f1.2]
    simp only [ruS, ruL, ruE, Nat.reduceAdd, reduceIte, Int.reduceLT, Int.reduceLE, Int.reduceEq, Int.reduceNeg, Int.reduceAdd, Int.reduceSub, Nat.reduceLeDiff, Nat.reduceLT]
    rw [IntWalk.i64_in (chU t.w + roomOf t.cls) (by omega)]
    simp only [stOi hd, ldO hd, ruS, ruL, ruE, Nat.reduceAdd, reduceIte, Int.reduceLT, Int.reduceLE, Int.reduceEq, Int.reduceNeg, Int.reduceAdd, Int.reduceSub, Nat.reduceLeDiff, Nat.reduceLT]
    rw [c_Chunk hC f3.1 (by omega)]
    simp only [stOi hd, ldO hd, sub4, ruS, ruL, ruE, Nat.reduceAdd, reduceIte, Int.reduceLT, Int.reduceLE, Int.reduceEq, Int.reduceNeg, Int.reduceAdd, Int.reduceSub, Nat.reduceLeDiff, Nat.reduceLT]
    rw [c_PutChunk, c_Cas hN hcb.1 hcb.2]
    by_cases q : A.w (C.chunk t.at') = t.w
    ·have b : ∀ (a c : Int) (K : Value → Prop), xF (fBuild [(0, 1), (1, 1)] [.int .i64 0, .int .i64 0] [0, 1]) [.int .i64 a, .int .i64 c] K = K (.agg #[.int .i64 a, .int .i64 c]) := fun _ _ K => nr rfl
     simp only [q, ldO hd, ruS, ruL, ruE, Nat.reduceAdd, reduceIte, Int.reduceLT, Int.reduceLE, Int.reduceEq, Int.reduceNeg, Int.reduceAdd, Int.reduceSub, Nat.reduceLeDiff, Nat.reduceLT]
     rw [c_Base hC f3.1 (by omega)]
     simp only [ldO hd, ruS, ruL, ruE, Nat.reduceAdd, reduceIte, Int.reduceLT, Int.reduceLE, Int.reduceEq, Int.reduceNeg, Int.reduceAdd, Int.reduceSub, Nat.reduceLeDiff, Nat.reduceLT]
     rw [IntWalk.i64_in (C.base t.at' + chU t.w) (by omega), b]
     simp only [stOa hd, stOb hd, q, ruS, ruL, ruE, Nat.reduceAdd, reduceIte, Int.reduceLT, Int.reduceLE, Int.reduceEq, Int.reduceNeg, Int.reduceAdd, Int.reduceSub, Nat.reduceLeDiff, Nat.reduceLT] at hk ⊢
     exact behind hN hd hk
    ·simp only [q, ruS, ruL, ruE, Nat.reduceAdd, reduceIte, Int.reduceLT, Int.reduceLE, Int.reduceEq, Int.reduceNeg, Int.reduceAdd, Int.reduceSub, Nat.reduceLeDiff, Nat.reduceLT] at hk ⊢
     exact behind hN hd hk
   ·by_cases c3 : t.pc = 3
    ·rw [if_neg c0, if_neg c1, if_neg c2, if_pos c3, c_Chunk hC f3.1 (by omega), c_Load hN hcb.1 hcb.2]
     simp only [Pl.step, if_neg c0, if_neg c1, if_neg c2, if_pos c3] at hk
     simp only [stOi hd, stOb hd, ldO hd, ruS, ruL, ruE, Nat.reduceAdd, reduceIte, Int.reduceLT, Int.reduceLE, Int.reduceEq, Int.reduceNeg, Int.reduceAdd, Int.reduceSub, Nat.reduceLeDiff, Nat.reduceLT]
     rw [c_wChunk hwc.1 hwc.2]
     simp only [stOi hd, ldO hd, ruS, ruL, ruE, Nat.reduceAdd, reduceIte, Int.reduceLT, Int.reduceLE, Int.reduceEq, Int.reduceNeg, Int.reduceAdd, Int.reduceSub, Nat.reduceLeDiff, Nat.reduceLT]
     by_cases q : chS (A.w (C.chunk t.at')) = 0
     ·simp only [q, ruS, ruL, ruE, Nat.reduceAdd, reduceIte, Int.reduceLT, Int.reduceLE, Int.reduceEq, Int.reduceNeg, Int.reduceAdd, Int.reduceSub, Nat.reduceLeDiff, Nat.reduceLT]
      rw [if_neg (fun h => h q)] at hk
      exact behind hN hd hk
     ·simp only [q, ruS, ruL, ruE, Nat.reduceAdd, reduceIte, Int.reduceLT, Int.reduceLE, Int.reduceEq, Int.reduceNeg, Int.reduceAdd, Int.reduceSub, Nat.reduceLeDiff, Nat.reduceLT]
      rw [if_pos q] at hk
      exact Eq.mpr (c_on (K := K) (t := ⟨t.cls, t.pc, t.opn, t.at', A.w (C.chunk t.at'), t.sa, t.sc, t.ok⟩) hd ⟨f3.1, by dsimp only; omega⟩) (behind hN hd hk)
    ·by_cases c4 : t.pc = 4
     ·rw [if_neg c0, if_neg c1, if_neg c2, if_neg c3, if_pos c4, c_Chunk hC f3.1 (by omega)]
      simp only [Pl.step, if_neg c0, if_neg c1, if_neg c2, if_neg c3, if_pos c4] at hk
      simp only [stOi hd, stOb hd, ldO hd, ruS, ruL, ruE, Nat.reduceAdd, reduceIte, Int.reduceLT, Int.reduceLE, Int.reduceEq, Int.reduceNeg, Int.reduceAdd, Int.reduceSub, Nat.reduceLeDiff, Nat.reduceLT]
      refine Eq.mpr (c_fresh (t := t) hd f4) ?_
      rw [c_Cas hN hcb.1 hcb.2]
      by_cases q : A.w (C.chunk t.at') = t.w
      ·simp only [q, stOi hd, ldO hd, Pl.l, ruS, ruL, ruE, Nat.reduceAdd, reduceIte, Int.reduceLT, Int.reduceLE, Int.reduceEq, Int.reduceNeg, Int.reduceAdd, Int.reduceSub, Nat.reduceLeDiff, Nat.reduceLT] at hk ⊢
       exact behind hN hd hk
      ·simp only [q, ruS, ruL, ruE, Nat.reduceAdd, reduceIte, Int.reduceLT, Int.reduceLE, Int.reduceEq, Int.reduceNeg, Int.reduceAdd, Int.reduceSub, Nat.reduceLeDiff, Nat.reduceLT] at hk ⊢
       exact Eq.mpr (c_on (K := K) (t := t) hd ⟨f3.1, by omega⟩) (behind hN hd hk)
     ·by_cases c5 : t.pc = 5
      ·rw [if_neg c0, if_neg c1, if_neg c2, if_neg c3, if_neg c4, if_pos c5]
       simp only [Pl.step, if_neg c0, if_neg c1, if_neg c2, if_neg c3, if_neg c4, if_pos c5] at hk
       simp only [stOi hd, ldO hd, ruS, ruL, ruE, Nat.reduceAdd, reduceIte, Int.reduceLT, Int.reduceLE, Int.reduceEq, Int.reduceNeg, Int.reduceAdd, Int.reduceSub, Nat.reduceLeDiff, Nat.reduceLT]
       rw [c_Open f1.1 (by omega)]
       simp only [stOi hd, ldO hd, ruS, ruL, ruE, Nat.reduceAdd, reduceIte, Int.reduceLT, Int.reduceLE, Int.reduceEq, Int.reduceNeg, Int.reduceAdd, Int.reduceSub, Nat.reduceLeDiff, Nat.reduceLT]
       rw [IntWalk.i64_in (t.at' + 1) (by omega), show IntKind.u64.wrap (t.at' + 1) = t.at' + 1 from IntWalk.u64_in _ (by omega), c_Cas hN (by omega) (by omega)]
       by_cases q : A.w (2 + t.cls) = t.opn
       ·simp only [q, stOi hd, ldO hd, ruS, ruL, ruE, Nat.reduceAdd, reduceIte, Int.reduceLT, Int.reduceLE, Int.reduceEq, Int.reduceNeg, Int.reduceAdd, Int.reduceSub, Nat.reduceLeDiff, Nat.reduceLT] at hk ⊢
        exact behind hN hd hk
       ·simp only [q, ruS, ruL, ruE, Nat.reduceAdd, reduceIte, Int.reduceLT, Int.reduceLE, Int.reduceEq, Int.reduceNeg, Int.reduceAdd, Int.reduceSub, Nat.reduceLeDiff, Nat.reduceLT] at hk ⊢
        exact behind hN hd hk
      ·rw [if_neg c0, if_neg c1, if_neg c2, if_neg c3, if_neg c4, if_neg c5, c_wChunk f4.1 f4.2]
       simp only [Pl.step, if_neg c0, if_neg c1, if_neg c2, if_neg c3, if_neg c4, if_neg c5] at hk
       have hN := chN_bd t.w
       have b : ∀ (a : Int) (K : Value → Prop), xF (fBuild [(0, 1), (1, 1), (2, 1), (3, 1)] [.int .i64 0, .int .i64 0, .int .i64 0, .int .i64 0] [3]) [.int .i64 a] K = K (.agg #[.int .i64 0, .int .i64 0, .int .i64 0, .int .i64 a]) := fun _ K => nr rfl
       simp only [ruS, ruL, ruE, Nat.reduceAdd, reduceIte, Int.reduceLT, Int.reduceLE, Int.reduceEq, Int.reduceNeg, Int.reduceAdd, Int.reduceSub, Nat.reduceLeDiff, Nat.reduceLT]
       rw [IntWalk.i64_in (chN t.w + 2) (by omega), b, c_PutChunk]
       simp only [stOi hd, ldO hd, ruS, ruL, ruE, Nat.reduceAdd, reduceIte, Int.reduceLT, Int.reduceLE, Int.reduceEq, Int.reduceNeg, Int.reduceAdd, Int.reduceSub, Nat.reduceLeDiff, Nat.reduceLT]
       rw [c_Chunk hC f3.1 (by omega)]
       refine Eq.mpr (c_fresh (t := t) hd f4) ?_
       rw [c_Cas ‹N.ok› hcb.1 hcb.2]
       simp only [stOi hd, ldO hd, Pl.l, ruS, ruL, ruE, Nat.reduceAdd, reduceIte, Int.reduceLT, Int.reduceLE, Int.reduceEq, Int.reduceNeg, Int.reduceAdd, Int.reduceSub, Nat.reduceLeDiff, Nat.reduceLT] at hk ⊢
       exact behind ‹N.ok› hd hk
end Go.Fl
namespace Go.Fl
open Go
set_option linter.unusedVariables false
set_option linter.unusedSimpArgs false
variable {N : Nm} {A B : Ar} {σ : Mem} {K : Value → Mem → Prop} {C : Cf} {who : Int}
theorem c_rRoom {k : Int} (h0 : 0 ≤ k) (h1 : k ≤ 3) (hk : ∀ τ, Ext σ τ → K (.int .i64 (roomOf k)) τ) : s_a4 [.int .i64 k] K σ := by
 simp only [s_a4, w_a4, ruS, Nat.reduceAdd, reduceIte, Int.reduceLT, Int.reduceLE, Int.reduceEq, Int.reduceNeg, Int.reduceAdd, Int.reduceSub]
 refine hBuildS_i [.int .i64 3, .int .i64 5, .int .i64 9, .int .i64 17] rfl fun b τ _ g x => ?_
 replace hk := hk τ x
 have e : ([.int .i64 3, .int .i64 5, .int .i64 9, .int .i64 17] : List Value)[k.toNat]? = some (.int .i64 (roomOf k)) := by
  rcases (show k = 0 ∨ k = 1 ∨ k = 2 ∨ k = 3 by omega) with rfl | rfl | rfl | rfl <;> rfl
 rw [xIxS h0 (by omega)]
 simp only [Nat.zero_add, Nat.mul_one]
 rw [hLoad_eq g, sub_one e, xOs]; exact hk
end Go.Fl
namespace Go.Fl
open Go
set_option linter.unusedVariables false
set_option linter.unusedSimpArgs false
variable {N : Nm} {A B : Ar} {σ : Mem} {K : Value → Mem → Prop} {C : Cf} {who : Int}
theorem w0_open (hC : C.ok) {c : Int} (h0 : 0 ≤ c) (h1 : c ≤ 3) : C.w0 (2 + c) = 0 := by
 have := hC.T; have := hC.S
 unfold Cf.w0 Cf.fr Cf.slot
 rw [if_neg (by omega), if_neg (by omega), if_neg (by omega)]
theorem w0_chunk (hC : C.ok) {j : Int} (h0 : 0 ≤ j) : C.w0 (C.chunk j) = 0 := by
 have := hC.T; have := hC.S
 unfold Cf.w0 Cf.fr Cf.slot Cf.chunk
 rw [if_neg (by omega), if_neg (by omega), if_neg (by omega)]
structure Pa (C : Cf) (A : Ar) (b : Int) : Prop where
 ok : A.ok b
 n : C.len ≤ A.n
 op : ∀ c, 0 ≤ c → c ≤ 3 → A.w (2 + c) ≤ C.C
theorem Pa.mono {b b' : Int} (h : Pa C A b) (hb : b ≤ b') : Pa C A b' := ⟨⟨h.ok.w, ⟨h.ok.s.1, by have := h.ok.s.2; omega⟩, h.ok.t⟩, h.n, h.op⟩
structure Go1 (C : Cf) (A : Ar) (p : Pl) (r : Bool × Pl × Ar) (a : Int) : Prop where
 wh : a = 2 + p.cls ∨ a = C.chunk p.at'
 la : r.2.2.la = a
 s : r.2.2.s = A.s + 1
 n : r.2.2.n = A.n
 w : ∀ i, i ≠ a → r.2.2.w i = A.w i
 cls : r.2.1.cls = p.cls
theorem aw {w : Int → Int} {a v i : Int} {c : Prop} [Decidable c] (h : i ≠ a) : (if c then upd w a v else w) i = w i := by
 split
 ·exact upd_ne _ _ h
 ·rfl
theorem Pl.go (hC : C.ok) {b : Int} (hb : b < 4611686018427387904) (h : Pa C A b) {p : Pl} (hf : p.fit C) :
  Pa C (p.step C who A).2.2 (b + 1) ∧ ((p.step C who A).1 = false → (p.step C who A).2.1.fit C) ∧ ∃ a, Go1 C A p (p.step C who A) a := by
 obtain ⟨ok, n, op⟩ := h
 obtain ⟨f1, f2, f3, f4⟩ := hf
 have hC3 := hC.C
 have hT := hC.T
 have hS := hC.S
 have hcb := chunk_bd hC f3.1 f3.2 n
 have hwo := ok.w (2 + p.cls)
 have hwc := ok.w (C.chunk p.at')
 have hoo := op p.cls f1.1 f1.2
 have hwr : IntKind.i64.wrap (A.w (2 + p.cls)) = A.w (2 + p.cls) := IntWalk.i64_in _ (by omega)
 have hne : ∀ c, 0 ≤ c → c ≤ 3 → 2 + c ≠ C.chunk p.at' := fun c c0 c3 => by unfold Cf.chunk; omega
 have L : ∀ a, Pa C ((A.by who).load a) (b + 1) := fun a =>
  ⟨(aft_load ok (by omega)).ok (by decide) ok ok.w, n, op⟩
 have Cs : ∀ o v, 0 ≤ v ∧ v < 18446744073709551616 → Pa C ((A.by who).cas (C.chunk p.at') o v) (b + 1) := by
  intro o v hv
  have a1 := aft_cas (who := who) (a := C.chunk p.at') (o := o) (v := v) ok (by omega)
  refine ⟨a1.ok (by decide) ok (fun i => ?_), by rw [a1.n]; exact n, fun c c0 c3 => ?_⟩
  ·split
   ·exact upd_cases (P := fun x => 0 ≤ x ∧ x < 18446744073709551616) hv (ok.w i)
   ·exact ok.w i
  ·rw [a1.w, aw (hne c c0 c3)]; exact op c c0 c3
 have nx : ∀ q : Pl, 0 ≤ q.cls ∧ q.cls ≤ 3 → 0 ≤ q.opn ∧ q.opn < 18446744073709551616 → 0 ≤ q.at' → 0 ≤ q.w ∧ q.w < 18446744073709551616 → (q.next C).1 = false → (q.next C).2.fit C := by
  intro q a b c d e
  have e' : ¬ C.C ≤ q.at' + 1 := of_decide_eq_false e
  exact ⟨a, b, ⟨by show 0 ≤ q.at' + 1; omega, by show q.at' + 1 < C.C; omega⟩, d⟩
 unfold Pl.step
 by_cases c0 : p.pc = 0
 ·rw [if_pos c0]
  dsimp only
  rw [hwr]
  refine ⟨L _, fun _ => ?_, 2 + p.cls, ⟨.inl rfl, rfl, (aft_load (who := who) (a := 2 + p.cls) ok (by omega)).s, rfl, fun _ _ => rfl, ?_⟩⟩
  ·split
   ·exact ⟨f1, hwo, ⟨Int.le_refl 0, by show (0 : Int) < C.C; omega⟩, f4⟩
   ·exact ⟨f1, hwo, ⟨by dsimp only; omega, by dsimp only; omega⟩, f4⟩
  ·split <;> rfl
 rw [if_neg c0]
 by_cases c1 : p.pc = 1
 ·rw [if_pos c1]
  refine ⟨L _, fun _ => ?_, C.chunk p.at', ⟨.inr rfl, rfl, (aft_load (who := who) (a := C.chunk p.at') ok (by omega)).s, rfl, fun _ _ => rfl, ?_⟩⟩
  ·dsimp only
   split
   ·exact ⟨f1, f2, ⟨Int.le_refl 0, by show (0 : Int) < C.C; omega⟩, hwc⟩
   ·exact ⟨f1, f2, f3, hwc⟩
  ·dsimp only; split <;> rfl
 rw [if_neg c1]
 by_cases c2 : p.pc = 2
 ·rw [if_pos c2]
  have a1 := fun v => aft_cas (who := who) (a := C.chunk p.at') (o := p.w) (v := v) ok (by omega)
  refine ⟨Cs _ _ (putChunk_in _ _ _ _), fun _ => ?_, C.chunk p.at', ⟨.inr rfl, cas_la, (a1 _).s, (a1 _).n, fun i hi => by rw [(a1 _).w, aw hi], ?_⟩⟩
  ·dsimp only; split <;> exact ⟨f1, f2, f3, f4⟩
  ·dsimp only; split <;> rfl
 rw [if_neg c2]
 by_cases c3 : p.pc = 3
 ·rw [if_pos c3]
  dsimp only
  split
  ·exact ⟨L _, nx _ f1 f2 f3.1 hwc, C.chunk p.at', ⟨.inr rfl, rfl, (aft_load (who := who) (a := C.chunk p.at') ok (by omega)).s, rfl, fun _ _ => rfl, rfl⟩⟩
  ·exact ⟨L _, fun _ => ⟨f1, f2, f3, hwc⟩, C.chunk p.at', ⟨.inr rfl, rfl, (aft_load (who := who) (a := C.chunk p.at') ok (by omega)).s, rfl, fun _ _ => rfl, rfl⟩⟩
 rw [if_neg c3]
 by_cases c4 : p.pc = 4
 ·rw [if_pos c4]
  have a1 := fun v => aft_cas (who := who) (a := C.chunk p.at') (o := p.w) (v := v) ok (by omega)
  split
  ·exact ⟨Cs _ _ (putChunk_in _ _ _ _), fun _ => ⟨f1, f2, f3, f4⟩, C.chunk p.at', ⟨.inr rfl, cas_la, (a1 _).s, (a1 _).n, fun i hi => by rw [(a1 _).w, aw hi], rfl⟩⟩
  ·exact ⟨Cs _ _ (putChunk_in _ _ _ _), nx _ f1 f2 f3.1 f4, C.chunk p.at', ⟨.inr rfl, cas_la, (a1 _).s, (a1 _).n, fun i hi => by rw [(a1 _).w, aw hi], rfl⟩⟩
 rw [if_neg c4]
 by_cases c5 : p.pc = 5
 ·rw [if_pos c5]
  have a1 := fun v => aft_cas (who := who) (a := 2 + p.cls) (o := p.opn) (v := v) ok (by omega)
  refine ⟨⟨(a1 _).ok (by decide) ok (fun i => ?_), by rw [(a1 _).n]; exact n, fun c c0 c3 => ?_⟩, fun _ => ?_, 2 + p.cls, ⟨.inl rfl, cas_la, (a1 _).s, (a1 _).n, fun i hi => by rw [(a1 _).w, aw hi], ?_⟩⟩
  ·split
   ·exact upd_cases (P := fun x => 0 ≤ x ∧ x < 18446744073709551616) (by omega) (ok.w i)
   ·exact ok.w i
  ·rw [(a1 _).w]
   split
   ·exact upd_cases (P := fun x => x ≤ C.C) (by omega) (op c c0 c3)
   ·exact op c c0 c3
  ·dsimp only; split <;> exact ⟨f1, f2, f3, f4⟩
  ·dsimp only; split <;> rfl
 ·rw [if_neg c5]
  have a1 := fun v => aft_cas (who := who) (a := C.chunk p.at') (o := p.fresh) (v := v) ok (by omega)
  exact ⟨Cs _ _ (putChunk_in _ _ _ _), fun _ => ⟨f1, f2, f3, f4⟩, C.chunk p.at', ⟨.inr rfl, cas_la, (a1 _).s, (a1 _).n, fun i hi => by rw [(a1 _).w, aw hi], rfl⟩⟩
theorem Pl.new_fit (hC : C.ok) {c : Int} (h0 : 0 ≤ c) (h1 : c ≤ 3) : (Pl.new c).fit C := by
 have := hC.C
 exact ⟨⟨h0, h1⟩, ⟨Int.le_refl 0, by show (0 : Int) < 18446744073709551616; decide⟩, ⟨Int.le_refl 0, by show (0 : Int) < C.C; omega⟩, ⟨Int.le_refl 0, by show (0 : Int) < 18446744073709551616; decide⟩⟩
def Pl.spot (p : Pl) : Value := .tuple #[if p.ok = true then .agg #[.int .i64 p.sa, .int .i64 p.sc] else .agg #[.int .i64 0, .int .i64 0], .bool p.ok]
theorem c_awake7 : s_ac [] K σ = K (.bool true) σ := by unfold s_ac; exact nr rfl
end Go.Fl
namespace Go.Fl
open Go
set_option linter.unusedVariables false
set_option linter.unusedSimpArgs false
variable {N : Nm} {A B : Ar} {σ : Mem} {K : Value → Mem → Prop} {C : Cf} {who : Int}
theorem chunk_inj {i j : Int} (h : C.chunk i = C.chunk j) : i = j := by unfold Cf.chunk at h; omega
theorem chunk_ne (hC : C.ok) {i c : Int} (h0 : 0 ≤ i) (h1 : c ≤ 3) : C.chunk i ≠ 2 + c := by have := hC.T; have := hC.S; unfold Cf.chunk; omega
section
variable {p : Pl}
theorem Pl.s0a (h : p.pc = 0) (hn : IntKind.i64.wrap (A.w (2 + p.cls)) - 1 < 0) : p.step C who A = (false, { p with opn := A.w (2 + p.cls), at' := 0, pc := 3 }, (A.by who).load (2 + p.cls)) := by
 unfold Pl.step; rw [if_pos h]; dsimp only; rw [if_pos hn]
theorem Pl.s0b (h : p.pc = 0) (hn : ¬ IntKind.i64.wrap (A.w (2 + p.cls)) - 1 < 0) : p.step C who A = (false, { p with opn := A.w (2 + p.cls), at' := IntKind.i64.wrap (A.w (2 + p.cls)) - 1, pc := 1 }, (A.by who).load (2 + p.cls)) := by
 unfold Pl.step; rw [if_pos h]; dsimp only; rw [if_neg hn]
theorem Pl.s1a (h : p.pc = 1) (hn : chS (A.w (C.chunk p.at')) ≠ 1 ∨ chC (A.w (C.chunk p.at')) ≠ p.cls ∨ C.W < chU (A.w (C.chunk p.at')) + roomOf p.cls) :
  p.step C who A = (false, { p with w := A.w (C.chunk p.at'), at' := 0, pc := 3 }, (A.by who).load (C.chunk p.at')) := by
 unfold Pl.step; rw [if_neg (by omega), if_pos h]; dsimp only; rw [if_pos hn]
theorem Pl.s1b (h : p.pc = 1) (hn : ¬ (chS (A.w (C.chunk p.at')) ≠ 1 ∨ chC (A.w (C.chunk p.at')) ≠ p.cls ∨ C.W < chU (A.w (C.chunk p.at')) + roomOf p.cls)) :
  p.step C who A = (false, { p with w := A.w (C.chunk p.at'), pc := 2 }, (A.by who).load (C.chunk p.at')) := by
 unfold Pl.step; rw [if_neg (by omega), if_pos h]; dsimp only; rw [if_neg hn]
theorem Pl.s2a (h : p.pc = 2) (hn : A.w (C.chunk p.at') = p.w) :
  p.step C who A = (true, { p with pc := 0, sa := C.base p.at' + chU p.w, sc := p.at', ok := true }, (A.by who).cas (C.chunk p.at') p.w (putChunk (chS p.w) (chC p.w) (chU p.w + roomOf p.cls) (chN p.w))) := by
 unfold Pl.step; rw [if_neg (by omega), if_neg (by omega), if_pos h]; dsimp only; rw [if_pos hn, decide_eq_true hn]
theorem Pl.s2b (h : p.pc = 2) (hn : ¬ A.w (C.chunk p.at') = p.w) :
  p.step C who A = (false, { p with pc := 0 }, (A.by who).cas (C.chunk p.at') p.w (putChunk (chS p.w) (chC p.w) (chU p.w + roomOf p.cls) (chN p.w))) := by
 unfold Pl.step; rw [if_neg (by omega), if_neg (by omega), if_pos h]; dsimp only; rw [if_neg hn, decide_eq_false hn]
theorem Pl.s3a (h : p.pc = 3) (hn : chS (A.w (C.chunk p.at')) ≠ 0) :
  p.step C who A = (decide (C.C ≤ p.at' + 1), { p with w := A.w (C.chunk p.at'), at' := p.at' + 1, pc := 3 }, (A.by who).load (C.chunk p.at')) := by
 unfold Pl.step; rw [if_neg (by omega), if_neg (by omega), if_neg (by omega), if_pos h]; dsimp only; rw [if_pos hn]; rfl
theorem Pl.s3b (h : p.pc = 3) (hn : chS (A.w (C.chunk p.at')) = 0) :
  p.step C who A = (false, { p with w := A.w (C.chunk p.at'), pc := 4 }, (A.by who).load (C.chunk p.at')) := by
 unfold Pl.step; rw [if_neg (by omega), if_neg (by omega), if_neg (by omega), if_pos h]; dsimp only; rw [if_neg (fun q => q hn)]
theorem Pl.s4a (h : p.pc = 4) (hn : A.w (C.chunk p.at') = p.w) :
  p.step C who A = (false, { p with pc := 5 }, (A.by who).cas (C.chunk p.at') p.w p.fresh) := by
 unfold Pl.step; rw [if_neg (by omega), if_neg (by omega), if_neg (by omega), if_neg (by omega), if_pos h, if_pos hn]
theorem Pl.s4b (h : p.pc = 4) (hn : ¬ A.w (C.chunk p.at') = p.w) :
  p.step C who A = (decide (C.C ≤ p.at' + 1), { p with at' := p.at' + 1, pc := 3 }, (A.by who).cas (C.chunk p.at') p.w p.fresh) := by
 unfold Pl.step; rw [if_neg (by omega), if_neg (by omega), if_neg (by omega), if_neg (by omega), if_pos h, if_neg hn]; rfl
theorem Pl.s5a (h : p.pc = 5) (hn : A.w (2 + p.cls) = p.opn) :
  p.step C who A = (false, { p with pc := 0 }, (A.by who).cas (2 + p.cls) p.opn (p.at' + 1)) := by
 unfold Pl.step; rw [if_neg (by omega), if_neg (by omega), if_neg (by omega), if_neg (by omega), if_neg (by omega), if_pos h, if_pos hn]
theorem Pl.s5b (h : p.pc = 5) (hn : ¬ A.w (2 + p.cls) = p.opn) :
  p.step C who A = (false, { p with pc := 6 }, (A.by who).cas (2 + p.cls) p.opn (p.at' + 1)) := by
 unfold Pl.step; rw [if_neg (by omega), if_neg (by omega), if_neg (by omega), if_neg (by omega), if_neg (by omega), if_pos h, if_neg hn]
theorem Pl.s6 (h0 : p.pc ≠ 0) (h1 : p.pc ≠ 1) (h2 : p.pc ≠ 2) (h3 : p.pc ≠ 3) (h4 : p.pc ≠ 4) (h5 : p.pc ≠ 5) :
  p.step C who A = (false, { p with pc := 0 }, (A.by who).cas (C.chunk p.at') p.fresh (putChunk 0 0 0 (chN p.w + 2))) := by
 unfold Pl.step; rw [if_neg h0, if_neg h1, if_neg h2, if_neg h3, if_neg h4, if_neg h5]
end
end Go.Fl
namespace Go.Fl
open Go
set_option linter.unusedVariables false
set_option linter.unusedSimpArgs false
variable {C : Cf} {A : Ar} {who k t : Int}
def s6 (f : Int → Int) : Int := f 0 + f 1 + f 2 + f 3 + f 4 + f 5
def s3 (f : Int → Int) : Int := f 0 + f 1 + f 2
theorem s6_off {f g : Int → Int} {i : Int} (i0 : 0 ≤ i) (i1 : i < 6) (h : ∀ j, 0 ≤ j → j < 6 → j ≠ i → g j = f j) : s6 g = s6 f - f i + g i := by
 unfold s6
 rcases (show i = 0 ∨ i = 1 ∨ i = 2 ∨ i = 3 ∨ i = 4 ∨ i = 5 by omega) with rfl | rfl | rfl | rfl | rfl | rfl
 ·rw [h 1, h 2, h 3, h 4, h 5] <;> omega
 ·rw [h 0, h 2, h 3, h 4, h 5] <;> omega
 ·rw [h 0, h 1, h 3, h 4, h 5] <;> omega
 ·rw [h 0, h 1, h 2, h 4, h 5] <;> omega
 ·rw [h 0, h 1, h 2, h 3, h 5] <;> omega
 ·rw [h 0, h 1, h 2, h 3, h 4] <;> omega
theorem s3_off {f g : Int → Int} {i : Int} (i0 : 0 ≤ i) (i1 : i < 3) (h : ∀ j, 0 ≤ j → j < 3 → j ≠ i → g j = f j) : s3 g = s3 f - f i + g i := by
 unfold s3
 rcases (show i = 0 ∨ i = 1 ∨ i = 2 by omega) with rfl | rfl | rfl
 ·rw [h 1, h 2] <;> omega
 ·rw [h 0, h 2] <;> omega
 ·rw [h 0, h 1] <;> omega
structure Tm where
 hd : Int → Int
 u : Int → Int
 n : Int → Int
 o : Int
structure Tri where
 p : Int → Pl
 d : Int → Bool
 m : Tm
 I : Int
 L : Int
 a : Int
def Tm.cw (M : Tm) (k j : Int) : Int := if M.hd j = -1 then putChunk 0 0 0 (M.n j) else putChunk 1 k (M.u j) (M.n j)
def Tm.ful (M : Tm) (k x : Int) : Prop := x = 0 ∨ (1 ≤ x ∧ x ≤ 6) ∧ M.hd (x - 1) = 3 ∧ 20 < M.u (x - 1) + roomOf k
structure TmW (C : Cf) (k : Int) (M : Tm) (w : Int → Int) : Prop where
 o : w (2 + k) = M.o
 c : ∀ j, 0 ≤ j → j < 6 → w (C.chunk j) = M.cw k j
inductive Ph3 (k : Int) (M : Tm) (q : Int) (p : Pl) : Prop where
 | p0 (hp : p.pc = 0)
 | p1 (hp : p.pc = 1) (eo : p.opn = p.at' + 1) (ab : 0 ≤ p.at' ∧ p.at' < 6) (i : M.hd p.at' = 3)
 | p2 (hp : p.pc = 2) (eo : p.opn = p.at' + 1) (ab : 0 ≤ p.at' ∧ p.at' < 6) (i : M.hd p.at' = 3) (v : Int) (ew : p.w = putChunk 1 k v (M.n p.at')) (vb : 0 ≤ v ∧ v ≤ M.u p.at' ∧ v + roomOf k ≤ 20)
 | p3 (hp : p.pc = 3) (fu : M.ful k p.opn) (ab : 0 ≤ p.at' ∧ p.at' < 6) (vis : ∀ j, 0 ≤ j → j < p.at' → 0 < M.n j)
 | p4 (hp : p.pc = 4) (fu : M.ful k p.opn) (ab : 0 ≤ p.at' ∧ p.at' < 6) (vis : ∀ j, 0 ≤ j → j < p.at' → 0 < M.n j) (m : Int) (ew : p.w = putChunk 0 0 0 m) (mb : 0 ≤ m ∧ m ≤ M.n p.at')
 | p5 (hp : p.pc = 5 ∨ p.pc = 6 ∧ p.opn ≠ M.o) (fu : M.ful k p.opn) (ab : 0 ≤ p.at' ∧ p.at' < 6) (h : M.hd p.at' = q) (m : Int) (ew : p.w = putChunk 0 0 0 m) (mb : 0 ≤ m ∧ M.n p.at' = m + 1)
def Tri.stl (T : Tri) (q : Int) : Int := if T.d q = false ∧ (T.p q).pc ≠ 0 ∧ (T.p q).opn ≠ T.m.o then 1 else 0
def Tri.hb (T : Tri) (q : Int) : Int := if T.d q = false ∧ 5 ≤ (T.p q).pc then 1 else 0
structure TmOk (k t : Int) (M : Tm) : Prop where
 ob : 0 ≤ M.o ∧ M.o ≤ 6
 oi : 1 ≤ M.o → M.hd (M.o - 1) = 3
 hb : ∀ j, 0 ≤ j → j < 6 → -1 ≤ M.hd j ∧ M.hd j ≤ 3
 fl : ∀ j, 0 ≤ j → j < 6 → M.hd j = 3 → j + 1 ≠ M.o → 20 < M.u j + roomOf k
 ub : ∀ j, 0 ≤ j → j < 6 → (0 ≤ M.u j ∧ M.u j ≤ 20) ∧ (M.hd j ≠ 3 → M.u j = 0)
 nb : ∀ j, 0 ≤ j → j < 6 → (0 ≤ M.n j ∧ M.n j ≤ t) ∧ (M.hd j ≠ -1 → 1 ≤ M.n j)
 on : ∀ j, 0 ≤ j → j < 6 → M.hd j = 3 → 1 ≤ M.o
structure TriOk (k t : Int) (T : Tri) : Prop where
 m : TmOk k t T.m
 hq : ∀ j, 0 ≤ j → j < 6 → 0 ≤ T.m.hd j → T.m.hd j ≤ 2 → T.d (T.m.hd j) = false ∧ 5 ≤ (T.p (T.m.hd j)).pc ∧ (T.p (T.m.hd j)).at' = j
 ci : s6 (fun j => if T.m.hd j = 3 then 1 else 0) = T.I
 ia : T.I ≤ T.a ∨ T.I ≤ T.a + 1 ∧ 1 ≤ T.m.o ∧ T.m.u (T.m.o - 1) + roomOf k ≤ 20
 ad : s3 (fun q => if T.d q = true then 1 else 0) = T.a
 su : s6 T.m.u = roomOf k * T.a
 kk : s6 (fun j => if 0 < T.m.n j then 1 else 0) ≤ T.I + T.L + s3 T.hb
 ll : 0 ≤ T.L ∧ T.L + s3 T.stl ≤ 3 ∧ (T.I = 0 → T.L + s3 T.stl ≤ 0) ∧ (T.I = 1 → T.L + s3 T.stl ≤ 2)
 ph : ∀ q, 0 ≤ q → q < 3 → T.d q = false → (T.p q).cls = k ∧ Ph3 k T.m q (T.p q)
def setP (f : Int → Pl) (q : Int) (x : Pl) : Int → Pl := fun i => if i = q then x else f i
theorem setP_same {f : Int → Pl} {q : Int} {x : Pl} : setP f q x q = x := if_pos rfl
theorem setP_ne {f : Int → Pl} {q i : Int} {x : Pl} (h : i ≠ q) : setP f q x i = f i := if_neg h
def Tri.pot (k : Int) (T : Tri) (q : Int) : Int :=
 let b := 3 + 3 * (2 - T.a) + 16 * (3 - T.I)
 let s := if (T.p q).opn = T.m.o then 0 else 16
 if (T.p q).pc = 0 then b
 else if (T.p q).pc = 1 then b - 1 + s
 else if (T.p q).pc = 2 then (if (T.p q).w = T.m.cw k (T.p q).at' then b - 2 else b + 1)
 else if (T.p q).pc = 3 then b - 16 + s + 2 * (6 - (T.p q).at') + 2
 else if (T.p q).pc = 4 then b - 16 + s + 2 * (6 - (T.p q).at') + 1
 else if (T.p q).pc = 5 then b - 16 + s + 2
 else b + 1
theorem Ph3.mono {M M' : Tm} {q : Int} {p : Pl} (h : Ph3 k M q p) (hI : ∀ j, 0 ≤ j → j < 6 → M.hd j = 3 → M'.hd j = 3 ∧ M'.n j = M.n j ∧ M.u j ≤ M'.u j) (hq : ∀ j, 0 ≤ j → j < 6 → M.hd j = q → M'.hd j = q ∧ M'.n j = M.n j) (hn : ∀ j, 0 ≤ j → j < 6 → M.n j ≤ M'.n j) (ho : M'.o = M.o ∨ M.hd (M'.o - 1) ≠ 3 ∧ 1 ≤ M'.o) : Ph3 k M' q p := by
 have fu : ∀ {x}, M.ful k x → M'.ful k x := fun {x} hx => by
  rcases hx with e | ⟨a, b, c⟩
  ·exact .inl e
  ·have := hI (x - 1) (by omega) (by omega) b
   exact .inr ⟨a, this.1, by omega⟩
 have oo : ∀ {x}, M.ful k x → x ≠ M.o → x ≠ M'.o := fun {x} hx hne e => by
  rcases ho with q | ⟨q1, q2⟩
  ·omega
  ·rcases hx with e' | ⟨a, b, c⟩
   ·omega
   ·rw [← e] at q1; exact q1 b
 cases h with
 | p0 hp => exact .p0 hp
 | p1 hp eo ab i => exact .p1 hp eo ab (hI _ ab.1 ab.2 i).1
 | p2 hp eo ab i v ew vb =>
  have := hI _ ab.1 ab.2 i
  exact .p2 hp eo ab this.1 v (by rw [this.2.1]; exact ew) (by omega)
 | p3 hp f ab vis => exact .p3 hp (fu f) ab fun j j0 j1 => by have := vis j j0 j1; have := hn j j0 (by omega); omega
 | p4 hp f ab vis m ew mb => exact .p4 hp (fu f) ab (fun j j0 j1 => by have := vis j j0 j1; have := hn j j0 (by omega); omega) m ew (by have := hn _ ab.1 ab.2; omega)
 | p5 hp f ab h m ew mb =>
  have := hq _ ab.1 ab.2 h
  refine .p5 ?_ (fu f) ab this.1 m ew (by omega)
  rcases hp with e | ⟨e, e2⟩
  ·exact .inl e
  ·exact .inr ⟨e, oo f e2⟩
section
variable {T : Tri} {q : Int} {p' : Pl}
theorem TriOk.loc (h : TriOk k t T) (q0 : 0 ≤ q) (q1 : q < 3) (hd : T.d q = false) (hc : p'.cls = k) (hph : Ph3 k T.m q p') (hs : p'.pc ≠ 0 → p'.opn ≠ T.m.o → (T.p q).pc ≠ 0 ∧ (T.p q).opn ≠ T.m.o) (hh : 5 ≤ p'.pc ↔ 5 ≤ (T.p q).pc) (hat : 5 ≤ p'.pc → p'.at' = (T.p q).at') : TriOk k t { T with p := setP T.p q p' } := by
 have e1 : s3 (Tri.hb { T with p := setP T.p q p' }) = s3 T.hb := by
  rw [s3_off (f := T.hb) q0 q1 fun j j0 j1 ne => ?_]
  ·have : Tri.hb { T with p := setP T.p q p' } q = T.hb q := by
    unfold Tri.hb
    show (if T.d q = false ∧ 5 ≤ (setP T.p q p' q).pc then (1 : Int) else 0) = _
    rw [setP_same]
    by_cases e : 5 ≤ p'.pc
    ·rw [if_pos ⟨hd, e⟩, if_pos ⟨hd, hh.1 e⟩]
    ·rw [if_neg (fun x => e x.2), if_neg (fun x => e (hh.2 x.2))]
   omega
  ·unfold Tri.hb
   show (if T.d j = false ∧ 5 ≤ (setP T.p q p' j).pc then (1 : Int) else 0) = _
   rw [setP_ne ne]
 have e2 : s3 (Tri.stl { T with p := setP T.p q p' }) ≤ s3 T.stl := by
  rw [s3_off (f := T.stl) q0 q1 fun j j0 j1 ne => ?_]
  ·have : Tri.stl { T with p := setP T.p q p' } q ≤ T.stl q := by
    unfold Tri.stl
    show (if T.d q = false ∧ (setP T.p q p' q).pc ≠ 0 ∧ (setP T.p q p' q).opn ≠ T.m.o then (1 : Int) else 0) ≤ _
    rw [setP_same]
    by_cases e : p'.pc ≠ 0 ∧ p'.opn ≠ T.m.o
    ·rw [if_pos ⟨hd, e⟩, if_pos ⟨hd, hs e.1 e.2⟩]; exact Int.le_refl 1
    ·rw [if_neg (fun x => e x.2)]; split <;> omega
   omega
  ·unfold Tri.stl
   show (if T.d j = false ∧ (setP T.p q p' j).pc ≠ 0 ∧ (setP T.p q p' j).opn ≠ T.m.o then (1 : Int) else 0) = _
   rw [setP_ne ne]
 have hl := h.ll
 refine ⟨h.m, fun j j0 j1 a b => ?_, h.ci, h.ia, h.ad, h.su, by rw [e1]; exact h.kk, ?_, fun r r0 r1 hr => ?_⟩
 ·have := h.hq j j0 j1 a b
  show T.d (T.m.hd j) = false ∧ 5 ≤ (setP T.p q p' (T.m.hd j)).pc ∧ (setP T.p q p' (T.m.hd j)).at' = j
  by_cases e : T.m.hd j = q
  ·rw [e] at this ⊢
   rw [setP_same]
   have h5 := hh.2 this.2.1
   exact ⟨hd, h5, (hat h5).trans this.2.2⟩
  ·rw [setP_ne e]; exact this
 ·show 0 ≤ T.L ∧ T.L + s3 (Tri.stl { T with p := setP T.p q p' }) ≤ 3 ∧ (T.I = 0 → T.L + s3 (Tri.stl { T with p := setP T.p q p' }) ≤ 0) ∧ (T.I = 1 → T.L + s3 (Tri.stl { T with p := setP T.p q p' }) ≤ 2)
  omega
 ·show (setP T.p q p' r).cls = k ∧ Ph3 k T.m r (setP T.p q p' r)
  by_cases e : r = q
  ·subst e; rw [setP_same]; exact ⟨hc, hph⟩
  ·rw [setP_ne e]; exact h.ph r r0 r1 hr
theorem TriOk.mono {t' : Int} (h : TriOk k t T) (ht : t ≤ t') : TriOk k t' T := ⟨⟨h.m.ob, h.m.oi, h.m.hb, h.m.fl, h.m.ub, fun j j0 j1 => by have := h.m.nb j j0 j1; exact ⟨by omega, this.2⟩, h.m.on⟩, h.hq, h.ci, h.ia, h.ad, h.su, h.kk, h.ll, h.ph⟩
theorem TriOk.abd (h : TriOk k t T) (q0 : 0 ≤ q) (q1 : q < 3) (hd : T.d q = false) : 0 ≤ T.a ∧ T.a ≤ 2 := by
 have := h.ad
 have e : ∀ b : Bool, (if b = true then (1 : Int) else 0) = 0 ∨ (if b = true then (1 : Int) else 0) = 1 := fun b => by cases b <;> simp
 have a0 := e (T.d 0); have a1 := e (T.d 1); have a2 := e (T.d 2)
 dsimp only [s3] at this
 have hz : (if T.d q = true then (1 : Int) else 0) = 0 := by rw [hd]; rfl
 rcases (show q = 0 ∨ q = 1 ∨ q = 2 by omega) with rfl | rfl | rfl <;> omega
theorem TriOk.bad (hk : 3 ≤ roomOf k ∧ roomOf k ≤ 17) (h : TriOk k t T) (q0 : 0 ≤ q) (q1 : q < 3) (hd : T.d q = false) (hp : (T.p q).pc = 3 ∨ (T.p q).pc = 4) (fu : T.m.ful k (T.p q).opn) (ab : 0 ≤ (T.p q).at' ∧ (T.p q).at' < 6) (vis : ∀ j, 0 ≤ j → j ≤ (T.p q).at' → 0 < T.m.n j) : (T.p q).at' + 1 < 6 := by
 by_cases e5 : (T.p q).at' = 5
 ·exfalso
  have n : ∀ j, 0 ≤ j → j < 6 → (if 0 < T.m.n j then (1 : Int) else 0) = 1 := fun j j0 j1 => if_pos (vis j j0 (by omega))
  have kk := h.kk
  have e6 : s6 (fun j => if 0 < T.m.n j then (1 : Int) else 0) = 6 := by
   dsimp only [s6]
   rw [n 0 (by decide) (by decide), n 1 (by decide) (by decide), n 2 (by decide) (by decide), n 3 (by decide) (by decide), n 4 (by decide) (by decide), n 5 (by decide) (by decide)]; decide
  rw [e6] at kk
  have ab' := h.abd q0 q1 hd
  have hl := h.ll
  -- each of the three: done, stale, or holds when nothing is open
  have full : T.m.ful k T.m.o → T.I ≤ T.a := fun f => by
   rcases h.ia with i | ⟨i, o1, o2⟩
   ·exact i
   ·rcases f with f | ⟨_, _, f⟩ <;> omega
  have each : ∀ r, 0 ≤ r → r < 3 → (T.hb r = 0 ∨ T.hb r = 1) ∧ (T.stl r = 0 ∨ T.stl r = 1) ∧ (T.hb r + (if T.d r = true then (1 : Int) else 0) ≤ 1 ∧ T.stl r + (if T.d r = true then (1 : Int) else 0) ≤ 1) ∧ (T.hb r = 1 → T.stl r = 1 ∨ T.I ≤ T.a) := fun r r0 r1 => by
   unfold Tri.hb Tri.stl
   refine ⟨by split <;> simp, by split <;> simp, ?_, fun e => ?_⟩
   ·cases e : T.d r with
    | true => exact ⟨by rw [if_neg (fun x => by cases x.1)]; decide, by rw [if_neg (fun x => by cases x.1)]; decide⟩
    | false => simp only [Bool.false_eq_true, if_false]; constructor <;> split <;> omega
   ·by_cases c : T.d r = false ∧ 5 ≤ (T.p r).pc
    ·by_cases o : (T.p r).opn = T.m.o
     ·have hph := (h.ph r r0 r1 c.1).2
      right
      refine full ?_
      rw [← o]
      cases hph with
      | p5 _ f => exact f
      | p0 hp => omega
      | p1 hp => omega
      | p2 hp => omega
      | p3 hp => omega
      | p4 hp => omega
     ·left; exact if_pos ⟨c.1, by omega, o⟩
    ·rw [if_neg c] at e; exact absurd e (by decide)
  have hq : T.hb q = 0 := by unfold Tri.hb; exact if_neg (by omega)
  have sq : T.stl q = 1 ∨ T.I ≤ T.a := by
   by_cases o : (T.p q).opn = T.m.o
   ·right; exact full (by rw [← o]; exact fu)
   ·left; unfold Tri.stl; exact if_pos ⟨hd, by omega, o⟩
  have ha := h.ad
  have x0 := each 0 (by decide) (by decide); have x1 := each 1 (by decide) (by decide); have x2 := each 2 (by decide) (by decide)
  dsimp only [s3] at ha hl kk
  have hz : (if T.d q = true then (1 : Int) else 0) = 0 := by rw [hd]; rfl
  have iI : T.I ≤ T.a + 1 := by rcases h.ia with i | i <;> omega
  have I0 : T.I ≤ 3 := by omega
  clear vis n e6 full each fu h hp
  by_cases c : T.I ≤ T.a
  ·have hH : T.hb 0 + T.hb 1 + T.hb 2 ≤ 2 - T.a := by
    obtain ⟨_, _, ⟨y0, _⟩, _⟩ := x0
    obtain ⟨_, _, ⟨y1, _⟩, _⟩ := x1
    obtain ⟨_, _, ⟨y2, _⟩, _⟩ := x2
    rcases (show q = 0 ∨ q = 1 ∨ q = 2 by omega) with rfl | rfl | rfl <;> omega
   have sp : 0 ≤ T.stl 0 + T.stl 1 + T.stl 2 := by
    obtain ⟨_, y0, _, _⟩ := x0
    obtain ⟨_, y1, _, _⟩ := x1
    obtain ⟨_, y2, _, _⟩ := x2
    omega
   clear x0 x1 x2
   omega
  ·have hs : ∀ r, (T.hb r = 0 ∨ T.hb r = 1) → (T.stl r = 0 ∨ T.stl r = 1) → (T.hb r = 1 → T.stl r = 1 ∨ T.I ≤ T.a) → T.hb r ≤ T.stl r := fun r a1 a2 a3 => by
    rcases a1 with e | e
    ·omega
    ·rcases a3 e with f | f <;> omega
   have y0 := hs 0 x0.1 x0.2.1 x0.2.2.2
   have y1 := hs 1 x1.1 x1.2.1 x1.2.2.2
   have y2 := hs 2 x2.1 x2.2.1 x2.2.2.2
   have sq' : T.stl q = 1 := by rcases sq with e | e <;> omega
   clear x0 x1 x2 hs sq
   have hH : T.hb 0 + T.hb 1 + T.hb 2 + 1 ≤ T.stl 0 + T.stl 1 + T.stl 2 := by
    rcases (show q = 0 ∨ q = 1 ∨ q = 2 by omega) with rfl | rfl | rfl <;> omega
   omega
 ·omega
end
end Go.Fl
namespace Go.Fl
open Go
set_option linter.unusedVariables false
set_option linter.unusedSimpArgs false
variable {C : Cf} {A : Ar} {who k t : Int}
def setB (f : Int → Bool) (a : Int) (v : Bool) : Int → Bool := fun i => if i = a then v else f i
section
variable {T T' : Tri} {q r : Int} {p' : Pl}
theorem Tri.pot_le (hp : T'.p r = T.p r) (ha : T.a ≤ T'.a) (hI : T.I ≤ T'.I) (ho : T'.m.o = T.m.o ∨ T.I + 1 ≤ T'.I) (hc : (T.p r).pc = 2 → (T.p r).w = T.m.cw k (T.p r).at' → (T.p r).w = T'.m.cw k (T.p r).at' ∨ T.a + 1 ≤ T'.a) : T'.pot k r ≤ T.pot k r := by
 unfold Tri.pot
 dsimp only
 rw [hp]
 have hs : (if (T.p r).opn = T'.m.o then (0 : Int) else 16) + 16 * (3 - T'.I) ≤ (if (T.p r).opn = T.m.o then (0 : Int) else 16) + 16 * (3 - T.I) := by
  rcases ho with e | e
  ·rw [e]; omega
  ·split <;> split <;> omega
 generalize (if (T.p r).opn = T'.m.o then (0 : Int) else 16) = s' at hs ⊢
 generalize (if (T.p r).opn = T.m.o then (0 : Int) else 16) = s at hs ⊢
 by_cases c0 : (T.p r).pc = 0
 ·rw [if_pos c0, if_pos c0]; omega
 rw [if_neg c0, if_neg c0]
 by_cases c1 : (T.p r).pc = 1
 ·rw [if_pos c1, if_pos c1]; omega
 rw [if_neg c1, if_neg c1]
 by_cases c2 : (T.p r).pc = 2
 ·rw [if_pos c2, if_pos c2]
  by_cases f : (T.p r).w = T.m.cw k (T.p r).at'
  ·rw [if_pos f]
   rcases hc c2 f with g | g
   ·rw [if_pos g]; omega
   ·split <;> omega
  ·rw [if_neg f]; split <;> omega
 rw [if_neg c2, if_neg c2]
 by_cases c3 : (T.p r).pc = 3
 ·rw [if_pos c3, if_pos c3]; omega
 rw [if_neg c3, if_neg c3]
 by_cases c4 : (T.p r).pc = 4
 ·rw [if_pos c4, if_pos c4]; omega
 rw [if_neg c4, if_neg c4]
 by_cases c5 : (T.p r).pc = 5
 ·rw [if_pos c5, if_pos c5]; omega
 rw [if_neg c5, if_neg c5]; omega
def Tri.b (T : Tri) : Int := 3 + 3 * (2 - T.a) + 16 * (3 - T.I)
def Tri.s (T : Tri) (q : Int) : Int := if (T.p q).opn = T.m.o then 0 else 16
theorem Tri.pot0 (hp : (T.p q).pc = 0) : T.pot k q = T.b := by unfold Tri.pot Tri.b; dsimp only; rw [if_pos hp]
theorem Tri.pot1 (hp : (T.p q).pc = 1) : T.pot k q = T.b - 1 + T.s q := by unfold Tri.pot Tri.b Tri.s; dsimp only; rw [if_neg (by omega), if_pos hp]
theorem Tri.pot2 (hp : (T.p q).pc = 2) : T.pot k q = if (T.p q).w = T.m.cw k (T.p q).at' then T.b - 2 else T.b + 1 := by unfold Tri.pot Tri.b; dsimp only; rw [if_neg (by omega), if_neg (by omega), if_pos hp]
theorem Tri.pot3 (hp : (T.p q).pc = 3) : T.pot k q = T.b - 16 + T.s q + 2 * (6 - (T.p q).at') + 2 := by unfold Tri.pot Tri.b Tri.s; dsimp only; rw [if_neg (by omega), if_neg (by omega), if_neg (by omega), if_pos hp]
theorem Tri.pot4 (hp : (T.p q).pc = 4) : T.pot k q = T.b - 16 + T.s q + 2 * (6 - (T.p q).at') + 1 := by unfold Tri.pot Tri.b Tri.s; dsimp only; rw [if_neg (by omega), if_neg (by omega), if_neg (by omega), if_neg (by omega), if_pos hp]
theorem Tri.pot5 (hp : (T.p q).pc = 5) : T.pot k q = T.b - 16 + T.s q + 2 := by unfold Tri.pot Tri.b Tri.s; dsimp only; rw [if_neg (by omega), if_neg (by omega), if_neg (by omega), if_neg (by omega), if_neg (by omega), if_pos hp]
theorem Tri.pot6 (hp : (T.p q).pc = 6) : T.pot k q = T.b + 1 := by unfold Tri.pot Tri.b; dsimp only; rw [if_neg (by omega), if_neg (by omega), if_neg (by omega), if_neg (by omega), if_neg (by omega), if_neg (by omega)]
theorem TriOk.take (h : TriOk k t T) (q0 : 0 ≤ q) (q1 : q < 3) (hd : T.d q = false) (hp : (T.p q).pc = 4) (fu : T.m.ful k (T.p q).opn) (ab : 0 ≤ (T.p q).at' ∧ (T.p q).at' < 6) {m : Int} (ew : (T.p q).w = putChunk 0 0 0 m) (mb : 0 ≤ m ∧ m = T.m.n (T.p q).at') (hf : T.m.hd (T.p q).at' = -1) (hcl : (T.p q).cls = k) :
  TriOk k (t + 1) { T with p := setP T.p q { T.p q with pc := 5 }, m := { T.m with hd := upd T.m.hd (T.p q).at' q, n := upd T.m.n (T.p q).at' (m + 1) } } := by
 have hnq : ∀ j, 0 ≤ j → j < 6 → T.m.hd j ≠ q := fun j j0 j1 e => by have := h.hq j j0 j1 (by omega) (by omega); rw [e] at this; omega
 have hne : ∀ j, 0 ≤ j → j < 6 → T.m.hd j = 3 → j ≠ (T.p q).at' := fun j _ _ e e' => by rw [e', hf] at e; exact absurd e (by decide)
 obtain ⟨⟨ob, oi, hbd, fl, ub, nb, on⟩, hq, ci, ia, ad, su, kk, ll, ph⟩ := h
 generalize ea : (T.p q).at' = a at *
 refine ⟨⟨ob, fun o => ?_, fun j j0 j1 => ?_, fun j j0 j1 e ne => ?_, fun j j0 j1 => ⟨(ub j j0 j1).1, fun e => ?_⟩, fun j j0 j1 => ?_, fun j j0 j1 e => ?_⟩, fun j j0 j1 x0 x1 => ?_, ?_, ia, ad, su, ?_, ?_, fun r r0 r1 hr => ?_⟩
 ·have o' : 1 ≤ T.m.o := o
  have := oi o'
  exact (upd_ne _ _ (hne _ (by omega) (by omega) this)).trans this
 ·show -1 ≤ upd T.m.hd a q j ∧ upd T.m.hd a q j ≤ 3
  by_cases x : j = a
  ·rw [x, upd_same]; omega
  ·rw [upd_ne _ _ x]; exact hbd j j0 j1
 ·have e' : upd T.m.hd a q j = 3 := e
  by_cases x : j = a
  ·rw [x, upd_same] at e'; omega
  ·rw [upd_ne _ _ x] at e'; exact fl j j0 j1 e' ne
 ·have e' : upd T.m.hd a q j ≠ 3 := e
  show T.m.u j = 0
  by_cases x : j = a
  ·rw [x]; exact (ub a ab.1 ab.2).2 (by rw [hf]; decide)
  ·rw [upd_ne _ _ x] at e'; exact (ub j j0 j1).2 e'
 ·show (0 ≤ upd T.m.n a (m + 1) j ∧ upd T.m.n a (m + 1) j ≤ t + 1) ∧ (upd T.m.hd a q j ≠ -1 → 1 ≤ upd T.m.n a (m + 1) j)
  have := nb j j0 j1
  by_cases x : j = a
  ·subst x; rw [upd_same]; omega
  ·rw [upd_ne _ _ x, upd_ne _ _ x]; omega
 ·by_cases x : j = a
  ·have e' : upd T.m.hd a q j = 3 := e
   rw [x, upd_same] at e'; omega
  ·exact on j j0 j1 ((upd_ne _ _ x).symm.trans e)
 ·have x0' : 0 ≤ upd T.m.hd a q j := x0
  have x1' : upd T.m.hd a q j ≤ 2 := x1
  show T.d (upd T.m.hd a q j) = false ∧ 5 ≤ (setP T.p q _ (upd T.m.hd a q j)).pc ∧ (setP T.p q _ (upd T.m.hd a q j)).at' = j
  by_cases x : j = a
  ·rw [x, upd_same, setP_same]; exact ⟨hd, Int.le_refl 5, ea⟩
  ·rw [upd_ne _ _ x] at x0' x1' ⊢
   rw [setP_ne (hnq j j0 j1)]; exact hq j j0 j1 x0' x1'
 ·have := s6_off (f := fun j => if T.m.hd j = 3 then (1 : Int) else 0) (g := fun j => if upd T.m.hd a q j = 3 then (1 : Int) else 0) ab.1 ab.2 fun j _ _ ne => by simp only [upd_ne _ _ ne]
  rw [upd_same, hf, if_neg (by decide), if_neg (by omega)] at this
  show s6 (fun j => if upd T.m.hd a q j = 3 then (1 : Int) else 0) = T.I
  omega
 ·have e1 := s6_off (f := fun j => if 0 < T.m.n j then (1 : Int) else 0) (g := fun j => if 0 < upd T.m.n a (m + 1) j then (1 : Int) else 0) ab.1 ab.2 fun j _ _ ne => by simp only [upd_ne _ _ ne]
  rw [upd_same, if_pos (show 0 < m + 1 by omega)] at e1
  have e2 : 0 ≤ (if 0 < T.m.n a then (1 : Int) else 0) := by split <;> omega
  have e3 := s3_off (f := T.hb) (g := Tri.hb { T with p := setP T.p q { T.p q with pc := 5 }, m := { T.m with hd := upd T.m.hd a q, n := upd T.m.n a (m + 1) } }) q0 q1 fun j _ _ ne => by unfold Tri.hb; simp only [setP_ne ne]
  have e4 : T.hb q = 0 := by unfold Tri.hb; exact if_neg (by omega)
  have e5 : Tri.hb { T with p := setP T.p q { T.p q with pc := 5 }, m := { T.m with hd := upd T.m.hd a q, n := upd T.m.n a (m + 1) } } q = 1 := by unfold Tri.hb; simp only [setP_same]; exact if_pos ⟨hd, Int.le_refl 5⟩
  show s6 (fun j => if 0 < upd T.m.n a (m + 1) j then (1 : Int) else 0) ≤ T.I + T.L + s3 (Tri.hb { T with p := setP T.p q { T.p q with pc := 5 }, m := { T.m with hd := upd T.m.hd a q, n := upd T.m.n a (m + 1) } })
  omega
 ·have e3 := s3_off (f := T.stl) (g := Tri.stl { T with p := setP T.p q { T.p q with pc := 5 }, m := { T.m with hd := upd T.m.hd a q, n := upd T.m.n a (m + 1) } }) q0 q1 fun j _ _ ne => by unfold Tri.stl; simp only [setP_ne ne]
  have e4 : Tri.stl { T with p := setP T.p q { T.p q with pc := 5 }, m := { T.m with hd := upd T.m.hd a q, n := upd T.m.n a (m + 1) } } q = T.stl q := by
   unfold Tri.stl; simp only [setP_same]
   by_cases x : (T.p q).opn = T.m.o
   ·rw [if_neg (fun y => y.2.2 x), if_neg (fun y => y.2.2 x)]
   ·rw [if_pos ⟨hd, by decide, x⟩, if_pos ⟨hd, by omega, x⟩]
  rw [e4] at e3
  have e5 : s3 (Tri.stl { T with p := setP T.p q { T.p q with pc := 5 }, m := { T.m with hd := upd T.m.hd a q, n := upd T.m.n a (m + 1) } }) = s3 T.stl := by omega
  rw [e5]; exact ll
 ·show (setP T.p q _ r).cls = k ∧ Ph3 k _ r (setP T.p q _ r)
  by_cases x : r = q
  ·subst x; rw [setP_same]
   refine ⟨hcl, .p5 (.inl rfl) ?_ (by show 0 ≤ (T.p r).at' ∧ (T.p r).at' < 6; rw [ea]; exact ab) ?_ m ew ⟨mb.1, ?_⟩⟩
   ·rcases fu with e | ⟨u1, u2, u3⟩
    ·exact .inl e
    ·exact .inr ⟨u1, (upd_ne _ _ (hne _ (by omega) (by omega) u2)).trans u2, u3⟩
   ·show upd T.m.hd a r (T.p r).at' = r; rw [ea, upd_same]
   ·show upd T.m.n a (m + 1) (T.p r).at' = m + 1; rw [ea, upd_same]
  ·rw [setP_ne x]
   obtain ⟨c1, c2⟩ := ph r r0 r1 hr
   refine ⟨c1, c2.mono (fun j j0 j1 e => ?_) (fun j j0 j1 e => ?_) (fun j j0 j1 => ?_) (.inl rfl)⟩
   ·have := hne j j0 j1 e
    exact ⟨(upd_ne _ _ this).trans e, upd_ne _ _ this, Int.le_refl _⟩
   ·have : j ≠ a := fun e' => by rw [e', hf] at e; omega
    exact ⟨(upd_ne _ _ this).trans e, upd_ne _ _ this⟩
   ·show T.m.n j ≤ upd T.m.n a (m + 1) j
    by_cases e : j = a
    ·rw [e, upd_same]; omega
    ·rw [upd_ne _ _ e]; exact Int.le_refl _
theorem TriOk.inst (hk : 3 ≤ roomOf k ∧ roomOf k ≤ 17) (h : TriOk k t T) (q0 : 0 ≤ q) (q1 : q < 3) (hd : T.d q = false) (hp : (T.p q).pc = 5) (fu : T.m.ful k (T.p q).opn) (ab : 0 ≤ (T.p q).at' ∧ (T.p q).at' < 6) (hf : T.m.hd (T.p q).at' = q) (eo : (T.p q).opn = T.m.o) (hcl : (T.p q).cls = k) :
  TriOk k t { T with p := setP T.p q { T.p q with pc := 0 }, m := { T.m with hd := upd T.m.hd (T.p q).at' 3, o := (T.p q).at' + 1 }, I := T.I + 1 } ∧ T.I ≤ T.a := by
 have habd := h.abd q0 q1 hd
 have hnq : ∀ j, 0 ≤ j → j < 6 → T.m.hd j = q → j = (T.p q).at' := fun j j0 j1 e => by have := h.hq j j0 j1 (by omega) (by omega); rw [e] at this; omega
 have hne : ∀ j, 0 ≤ j → j < 6 → T.m.hd j = 3 → j ≠ (T.p q).at' := fun j _ _ e e' => by rw [e', hf] at e; omega
 obtain ⟨⟨ob, oi, hbd, fl, ub, nb, on⟩, hq, ci, ia, ad, su, kk, ll, ph⟩ := h
 have Ia : T.I ≤ T.a := by
  rcases ia with i | ⟨i, o1, o2⟩
  ·exact i
  ·rw [eo] at fu; rcases fu with f | ⟨_, _, f⟩ <;> omega
 have I0 : 0 ≤ T.I := by
  have : ∀ j, 0 ≤ (if T.m.hd j = 3 then (1 : Int) else 0) := fun j => by split <;> omega
  have y0 := this 0; have y1 := this 1; have y2 := this 2; have y3 := this 3; have y4 := this 4; have y5 := this 5
  dsimp only [s6] at ci; omega
 generalize ea : (T.p q).at' = a at *
 have u0 := (ub a ab.1 ab.2).2 (by rw [hf]; omega)
 refine ⟨⟨⟨by show 0 ≤ a + 1 ∧ a + 1 ≤ 6; omega, fun _ => by show upd T.m.hd a 3 (a + 1 - 1) = 3; rw [Int.add_sub_cancel, upd_same], fun j j0 j1 => ?_, fun j j0 j1 e ne => ?_, fun j j0 j1 => ⟨(ub j j0 j1).1, fun e => ?_⟩, fun j j0 j1 => ⟨(nb j j0 j1).1, fun e => ?_⟩, fun _ _ _ _ => by show 1 ≤ a + 1; omega⟩, fun j j0 j1 x0 x1 => ?_, ?_, .inr ⟨by show T.I + 1 ≤ T.a + 1; omega, by show 1 ≤ a + 1; omega, by show T.m.u (a + 1 - 1) + roomOf k ≤ 20; rw [Int.add_sub_cancel]; omega⟩, ad, su, ?_, ?_, fun r r0 r1 hr => ?_⟩, Ia⟩
 ·show -1 ≤ upd T.m.hd a 3 j ∧ upd T.m.hd a 3 j ≤ 3
  by_cases x : j = a
  ·rw [x, upd_same]; omega
  ·rw [upd_ne _ _ x]; exact hbd j j0 j1
 ·have e' : upd T.m.hd a 3 j = 3 := e
  have ne' : j + 1 ≠ a + 1 := ne
  rw [upd_ne _ _ (by omega)] at e'
  by_cases x : j + 1 = T.m.o
  ·rw [eo] at fu
   rcases fu with f | ⟨_, _, f⟩
   ·omega
   ·rw [← x, Int.add_sub_cancel] at f; exact f
  ·exact fl j j0 j1 e' x
 ·have e' : upd T.m.hd a 3 j ≠ 3 := e
  by_cases x : j = a
  ·rw [x, upd_same] at e'; exact absurd rfl e'
  ·rw [upd_ne _ _ x] at e'; exact (ub j j0 j1).2 e'
 ·have e' : upd T.m.hd a 3 j ≠ -1 := e
  by_cases x : j = a
  ·rw [x]; exact (nb a ab.1 ab.2).2 (by rw [hf]; omega)
  ·rw [upd_ne _ _ x] at e'; exact (nb j j0 j1).2 e'
 ·have x0' : 0 ≤ upd T.m.hd a 3 j := x0
  have x1' : upd T.m.hd a 3 j ≤ 2 := x1
  by_cases x : j = a
  ·rw [x, upd_same] at x1'; omega
  ·show T.d (upd T.m.hd a 3 j) = false ∧ 5 ≤ (setP T.p q _ (upd T.m.hd a 3 j)).pc ∧ (setP T.p q _ (upd T.m.hd a 3 j)).at' = j
   rw [upd_ne _ _ x] at x0' x1' ⊢
   rw [setP_ne (fun e => x (hnq j j0 j1 e))]; exact hq j j0 j1 x0' x1'
 ·have := s6_off (f := fun j => if T.m.hd j = 3 then (1 : Int) else 0) (g := fun j => if upd T.m.hd a 3 j = 3 then (1 : Int) else 0) ab.1 ab.2 fun j _ _ ne => by simp only [upd_ne _ _ ne]
  rw [upd_same, hf, if_neg (by omega), if_pos rfl] at this
  show s6 (fun j => if upd T.m.hd a 3 j = 3 then (1 : Int) else 0) = T.I + 1
  omega
 ·have e3 := s3_off (f := T.hb) (g := Tri.hb { T with p := setP T.p q { T.p q with pc := 0 }, m := { T.m with hd := upd T.m.hd a 3, o := a + 1 }, I := T.I + 1 }) q0 q1 fun j _ _ ne => by unfold Tri.hb; simp only [setP_ne ne]
  have e4 : T.hb q = 1 := by unfold Tri.hb; exact if_pos ⟨hd, by omega⟩
  have e5 : Tri.hb { T with p := setP T.p q { T.p q with pc := 0 }, m := { T.m with hd := upd T.m.hd a 3, o := a + 1 }, I := T.I + 1 } q = 0 := by unfold Tri.hb; simp only [setP_same]; exact if_neg (fun x => absurd x.2 (by decide))
  show s6 (fun j => if 0 < T.m.n j then (1 : Int) else 0) ≤ T.I + 1 + T.L + s3 (Tri.hb { T with p := setP T.p q { T.p q with pc := 0 }, m := { T.m with hd := upd T.m.hd a 3, o := a + 1 }, I := T.I + 1 })
  omega
 ·have key : s3 (Tri.stl { T with p := setP T.p q { T.p q with pc := 0 }, m := { T.m with hd := upd T.m.hd a 3, o := a + 1 }, I := T.I + 1 }) ≤ 2 - T.a := by
   generalize hg : Tri.stl { T with p := setP T.p q { T.p q with pc := 0 }, m := { T.m with hd := upd T.m.hd a 3, o := a + 1 }, I := T.I + 1 } = g
   have each : ∀ r, g r + (if T.d r = true then (1 : Int) else 0) ≤ 1 := fun r => by
    rw [← hg]; unfold Tri.stl
    cases e : T.d r with
    | true => rw [if_neg (by simp [e]), if_pos rfl]; decide
    | false => simp only [Bool.false_eq_true, if_false]; split <;> omega
   have own : g q = 0 := by rw [← hg]; unfold Tri.stl; simp only [setP_same]; exact if_neg (fun x => absurd rfl x.2.1)
   have hz : (if T.d q = true then (1 : Int) else 0) = 0 := by rw [hd]; rfl
   have a0 := each 0; have a1 := each 1; have a2 := each 2
   dsimp only [s3] at ad ⊢
   rcases (show q = 0 ∨ q = 1 ∨ q = 2 by omega) with rfl | rfl | rfl <;> omega
  have st0 : 0 ≤ s3 T.stl := by
   have : ∀ r, 0 ≤ T.stl r := fun r => by unfold Tri.stl; split <;> omega
   have y0 := this 0; have y1 := this 1; have y2 := this 2
   dsimp only [s3]; omega
  show 0 ≤ T.L ∧ T.L + s3 (Tri.stl { T with p := setP T.p q { T.p q with pc := 0 }, m := { T.m with hd := upd T.m.hd a 3, o := a + 1 }, I := T.I + 1 }) ≤ 3 ∧ (T.I + 1 = 0 → _) ∧ (T.I + 1 = 1 → T.L + s3 (Tri.stl { T with p := setP T.p q { T.p q with pc := 0 }, m := { T.m with hd := upd T.m.hd a 3, o := a + 1 }, I := T.I + 1 }) ≤ 2)
  exact ⟨ll.1, by omega, fun e => by omega, fun e => by omega⟩
 ·show (setP T.p q _ r).cls = k ∧ Ph3 k _ r (setP T.p q _ r)
  by_cases x : r = q
  ·subst x; rw [setP_same]; exact ⟨hcl, .p0 rfl⟩
  ·rw [setP_ne x]
   obtain ⟨c1, c2⟩ := ph r r0 r1 hr
   refine ⟨c1, c2.mono (fun j j0 j1 e => ?_) (fun j j0 j1 e => ?_) (fun j j0 j1 => Int.le_refl _) (.inr ⟨?_, by show 1 ≤ a + 1; omega⟩)⟩
   ·exact ⟨(upd_ne _ _ (hne j j0 j1 e)).trans e, rfl, Int.le_refl _⟩
   ·have : j ≠ a := fun e' => by rw [e', hf] at e; exact x e.symm
    exact ⟨(upd_ne _ _ this).trans e, rfl⟩
   ·show T.m.hd (a + 1 - 1) ≠ 3
    rw [Int.add_sub_cancel, hf]; omega
theorem TriOk.left (h : TriOk k t T) (q0 : 0 ≤ q) (q1 : q < 3) (hd : T.d q = false) (hp : (T.p q).pc = 6) (eo : (T.p q).opn ≠ T.m.o) (ab : 0 ≤ (T.p q).at' ∧ (T.p q).at' < 6) (hf : T.m.hd (T.p q).at' = q) {m : Int} (mb : 0 ≤ m ∧ T.m.n (T.p q).at' = m + 1) (hcl : (T.p q).cls = k) :
  TriOk k (t + 1) { T with p := setP T.p q { T.p q with pc := 0 }, m := { T.m with hd := upd T.m.hd (T.p q).at' (-1), n := upd T.m.n (T.p q).at' (m + 2) }, L := T.L + 1 } := by
 have hnq : ∀ j, 0 ≤ j → j < 6 → T.m.hd j = q → j = (T.p q).at' := fun j j0 j1 e => by have := h.hq j j0 j1 (by omega) (by omega); rw [e] at this; omega
 have hne : ∀ j, 0 ≤ j → j < 6 → T.m.hd j = 3 → j ≠ (T.p q).at' := fun j _ _ e e' => by rw [e', hf] at e; omega
 obtain ⟨⟨ob, oi, hbd, fl, ub, nb, on⟩, hq, ci, ia, ad, su, kk, ll, ph⟩ := h
 generalize ea : (T.p q).at' = a at *
 have u0 := (ub a ab.1 ab.2).2 (by rw [hf]; omega)
 refine ⟨⟨ob, fun o => ?_, fun j j0 j1 => ?_, fun j j0 j1 e ne => ?_, fun j j0 j1 => ⟨(ub j j0 j1).1, fun e => ?_⟩, fun j j0 j1 => ?_, fun j j0 j1 e => ?_⟩, fun j j0 j1 x0 x1 => ?_, ?_, ia, ad, su, ?_, ?_, fun r r0 r1 hr => ?_⟩
 ·have o' : 1 ≤ T.m.o := o
  have := oi o'
  exact (upd_ne _ _ (hne _ (by omega) (by omega) this)).trans this
 ·show -1 ≤ upd T.m.hd a (-1) j ∧ upd T.m.hd a (-1) j ≤ 3
  by_cases x : j = a
  ·rw [x, upd_same]; omega
  ·rw [upd_ne _ _ x]; exact hbd j j0 j1
 ·have e' : upd T.m.hd a (-1) j = 3 := e
  by_cases x : j = a
  ·rw [x, upd_same] at e'; exact absurd e' (by decide)
  ·rw [upd_ne _ _ x] at e'; exact fl j j0 j1 e' ne
 ·have e' : upd T.m.hd a (-1) j ≠ 3 := e
  show T.m.u j = 0
  by_cases x : j = a
  ·rw [x]; exact u0
  ·rw [upd_ne _ _ x] at e'; exact (ub j j0 j1).2 e'
 ·show (0 ≤ upd T.m.n a (m + 2) j ∧ upd T.m.n a (m + 2) j ≤ t + 1) ∧ (upd T.m.hd a (-1) j ≠ -1 → 1 ≤ upd T.m.n a (m + 2) j)
  have := nb j j0 j1
  by_cases x : j = a
  ·subst x; rw [upd_same]; omega
  ·rw [upd_ne _ _ x, upd_ne _ _ x]; omega
 ·by_cases x : j = a
  ·have e' : upd T.m.hd a (-1) j = 3 := e
   rw [x, upd_same] at e'; omega
  ·exact on j j0 j1 ((upd_ne _ _ x).symm.trans e)
 ·have x0' : 0 ≤ upd T.m.hd a (-1) j := x0
  have x1' : upd T.m.hd a (-1) j ≤ 2 := x1
  by_cases x : j = a
  ·rw [x, upd_same] at x0'; exact absurd x0' (by decide)
  ·show T.d (upd T.m.hd a (-1) j) = false ∧ 5 ≤ (setP T.p q _ (upd T.m.hd a (-1) j)).pc ∧ (setP T.p q _ (upd T.m.hd a (-1) j)).at' = j
   rw [upd_ne _ _ x] at x0' x1' ⊢
   rw [setP_ne (fun e => x (hnq j j0 j1 e))]; exact hq j j0 j1 x0' x1'
 ·have := s6_off (f := fun j => if T.m.hd j = 3 then (1 : Int) else 0) (g := fun j => if upd T.m.hd a (-1) j = 3 then (1 : Int) else 0) ab.1 ab.2 fun j _ _ ne => by simp only [upd_ne _ _ ne]
  rw [upd_same, hf, if_neg (by omega), if_neg (by decide)] at this
  show s6 (fun j => if upd T.m.hd a (-1) j = 3 then (1 : Int) else 0) = T.I
  omega
 ·have e1 := s6_off (f := fun j => if 0 < T.m.n j then (1 : Int) else 0) (g := fun j => if 0 < upd T.m.n a (m + 2) j then (1 : Int) else 0) ab.1 ab.2 fun j _ _ ne => by simp only [upd_ne _ _ ne]
  rw [upd_same, if_pos (show 0 < m + 2 by omega), if_pos (show 0 < T.m.n a by omega)] at e1
  have e3 := s3_off (f := T.hb) (g := Tri.hb { T with p := setP T.p q { T.p q with pc := 0 }, m := { T.m with hd := upd T.m.hd a (-1), n := upd T.m.n a (m + 2) }, L := T.L + 1 }) q0 q1 fun j _ _ ne => by unfold Tri.hb; simp only [setP_ne ne]
  have e4 : T.hb q = 1 := by unfold Tri.hb; exact if_pos ⟨hd, by omega⟩
  have e5 : Tri.hb { T with p := setP T.p q { T.p q with pc := 0 }, m := { T.m with hd := upd T.m.hd a (-1), n := upd T.m.n a (m + 2) }, L := T.L + 1 } q = 0 := by unfold Tri.hb; simp only [setP_same]; exact if_neg (fun x => absurd x.2 (by decide))
  show s6 (fun j => if 0 < upd T.m.n a (m + 2) j then (1 : Int) else 0) ≤ T.I + (T.L + 1) + s3 (Tri.hb { T with p := setP T.p q { T.p q with pc := 0 }, m := { T.m with hd := upd T.m.hd a (-1), n := upd T.m.n a (m + 2) }, L := T.L + 1 })
  omega
 ·have e3 := s3_off (f := T.stl) (g := Tri.stl { T with p := setP T.p q { T.p q with pc := 0 }, m := { T.m with hd := upd T.m.hd a (-1), n := upd T.m.n a (m + 2) }, L := T.L + 1 }) q0 q1 fun j _ _ ne => by unfold Tri.stl; simp only [setP_ne ne]
  have e4 : T.stl q = 1 := by unfold Tri.stl; exact if_pos ⟨hd, by omega, eo⟩
  have e5 : Tri.stl { T with p := setP T.p q { T.p q with pc := 0 }, m := { T.m with hd := upd T.m.hd a (-1), n := upd T.m.n a (m + 2) }, L := T.L + 1 } q = 0 := by unfold Tri.stl; simp only [setP_same]; exact if_neg (fun x => absurd rfl x.2.1)
  show 0 ≤ T.L + 1 ∧ T.L + 1 + s3 (Tri.stl { T with p := setP T.p q { T.p q with pc := 0 }, m := { T.m with hd := upd T.m.hd a (-1), n := upd T.m.n a (m + 2) }, L := T.L + 1 }) ≤ 3 ∧ (T.I = 0 → T.L + 1 + s3 (Tri.stl { T with p := setP T.p q { T.p q with pc := 0 }, m := { T.m with hd := upd T.m.hd a (-1), n := upd T.m.n a (m + 2) }, L := T.L + 1 }) ≤ 0) ∧ (T.I = 1 → T.L + 1 + s3 (Tri.stl { T with p := setP T.p q { T.p q with pc := 0 }, m := { T.m with hd := upd T.m.hd a (-1), n := upd T.m.n a (m + 2) }, L := T.L + 1 }) ≤ 2)
  omega
 ·show (setP T.p q _ r).cls = k ∧ Ph3 k _ r (setP T.p q _ r)
  by_cases x : r = q
  ·subst x; rw [setP_same]; exact ⟨hcl, .p0 rfl⟩
  ·rw [setP_ne x]
   obtain ⟨c1, c2⟩ := ph r r0 r1 hr
   refine ⟨c1, c2.mono (fun j j0 j1 e => ?_) (fun j j0 j1 e => ?_) (fun j j0 j1 => ?_) (.inl rfl)⟩
   ·have := hne j j0 j1 e
    exact ⟨(upd_ne _ _ this).trans e, upd_ne _ _ this, Int.le_refl _⟩
   ·have : j ≠ a := fun e' => by rw [e', hf] at e; exact x e.symm
    exact ⟨(upd_ne _ _ this).trans e, upd_ne _ _ this⟩
   ·show T.m.n j ≤ upd T.m.n a (m + 2) j
    by_cases e : j = a
    ·rw [e, upd_same]; omega
    ·rw [upd_ne _ _ e]; exact Int.le_refl _
theorem TriOk.gave (hk : 3 ≤ roomOf k ∧ roomOf k ≤ 17) (h : TriOk k t T) (q0 : 0 ≤ q) (q1 : q < 3) (hd : T.d q = false) (hp : (T.p q).pc = 2) (ab : 0 ≤ (T.p q).at' ∧ (T.p q).at' < 6) (hi : T.m.hd (T.p q).at' = 3) (hv : T.m.u (T.p q).at' + roomOf k ≤ 20) :
  TriOk k t { T with p := setP T.p q p', d := setB T.d q true, m := { T.m with u := upd T.m.u (T.p q).at' (T.m.u (T.p q).at' + roomOf k) }, a := T.a + 1 } := by
 have hnq : ∀ j, 0 ≤ j → j < 6 → T.m.hd j ≠ q := fun j j0 j1 e => by have := h.hq j j0 j1 (by omega) (by omega); rw [e] at this; omega
 obtain ⟨⟨ob, oi, hbd, fl, ub, nb, on⟩, hq, ci, ia, ad, su, kk, ll, ph⟩ := h
 generalize ea : (T.p q).at' = a at *
 have eo : a + 1 = T.m.o := by
  by_cases e : a + 1 = T.m.o
  ·exact e
  ·have := fl a ab.1 ab.2 hi e; omega
 have ua := ub a ab.1 ab.2
 have dq : ∀ r, r ≠ q → setB T.d q true r = T.d r := fun r e => if_neg e
 have dqq : setB T.d q true q = true := if_pos rfl
 refine ⟨⟨ob, oi, hbd, fun j j0 j1 e ne => ?_, fun j j0 j1 => ?_, nb, on⟩, fun j j0 j1 x0 x1 => ?_, ci, .inl (by show T.I ≤ T.a + 1; rcases ia with i | i <;> omega), ?_, ?_, ?_, ?_, fun r r0 r1 hr => ?_⟩
 ·show 20 < upd T.m.u a _ j + roomOf k
  have ne' : j + 1 ≠ T.m.o := ne
  rw [upd_ne _ _ (by omega)]; exact fl j j0 j1 e ne
 ·show (0 ≤ upd T.m.u a _ j ∧ upd T.m.u a _ j ≤ 20) ∧ (T.m.hd j ≠ 3 → upd T.m.u a _ j = 0)
  by_cases x : j = a
  ·subst x; rw [upd_same]; exact ⟨by omega, fun e => absurd hi e⟩
  ·rw [upd_ne _ _ x]; exact ub j j0 j1
 ·show setB T.d q true (T.m.hd j) = false ∧ 5 ≤ (setP T.p q _ (T.m.hd j)).pc ∧ (setP T.p q _ (T.m.hd j)).at' = j
  rw [setP_ne (hnq j j0 j1), dq _ (hnq j j0 j1)]; exact hq j j0 j1 x0 x1
 ·have := s3_off (f := fun r => if T.d r = true then (1 : Int) else 0) (g := fun r => if setB T.d q true r = true then (1 : Int) else 0) q0 q1 fun j _ _ ne => by simp only [dq _ ne]
  simp only [dqq, hd, Bool.false_eq_true, if_true, if_false] at this
  show s3 (fun r => if setB T.d q true r = true then (1 : Int) else 0) = T.a + 1
  omega
 ·have := s6_off (f := T.m.u) (g := upd T.m.u a (T.m.u a + roomOf k)) ab.1 ab.2 fun j _ _ ne => upd_ne _ _ ne
  rw [upd_same] at this
  show s6 (upd T.m.u a (T.m.u a + roomOf k)) = roomOf k * (T.a + 1)
  rw [Int.mul_add, Int.mul_one]; omega
 ·have e3 := s3_off (f := T.hb) (g := Tri.hb { T with p := setP T.p q p', d := setB T.d q true, m := { T.m with u := upd T.m.u a (T.m.u a + roomOf k) }, a := T.a + 1 }) q0 q1 fun j _ _ ne => by unfold Tri.hb; simp only [setP_ne ne, dq _ ne]
  have e4 : T.hb q = 0 := by unfold Tri.hb; exact if_neg (by omega)
  have e5 : Tri.hb { T with p := setP T.p q p', d := setB T.d q true, m := { T.m with u := upd T.m.u a (T.m.u a + roomOf k) }, a := T.a + 1 } q = 0 := by unfold Tri.hb; exact if_neg (fun x => by have y : setB T.d q true q = false := x.1; rw [dqq] at y; cases y)
  have e6 : s3 (Tri.hb { T with p := setP T.p q p', d := setB T.d q true, m := { T.m with u := upd T.m.u a (T.m.u a + roomOf k) }, a := T.a + 1 }) = s3 T.hb := by omega
  rw [e6]; exact kk
 ·have e3 := s3_off (f := T.stl) (g := Tri.stl { T with p := setP T.p q p', d := setB T.d q true, m := { T.m with u := upd T.m.u a (T.m.u a + roomOf k) }, a := T.a + 1 }) q0 q1 fun j _ _ ne => by unfold Tri.stl; simp only [setP_ne ne, dq _ ne]
  have e4 : 0 ≤ T.stl q := by unfold Tri.stl; split <;> omega
  have e5 : Tri.stl { T with p := setP T.p q p', d := setB T.d q true, m := { T.m with u := upd T.m.u a (T.m.u a + roomOf k) }, a := T.a + 1 } q = 0 := by unfold Tri.stl; exact if_neg (fun x => by have y : setB T.d q true q = false := x.1; rw [dqq] at y; cases y)
  show 0 ≤ T.L ∧ T.L + s3 (Tri.stl { T with p := setP T.p q p', d := setB T.d q true, m := { T.m with u := upd T.m.u a (T.m.u a + roomOf k) }, a := T.a + 1 }) ≤ 3 ∧ (T.I = 0 → T.L + s3 (Tri.stl { T with p := setP T.p q p', d := setB T.d q true, m := { T.m with u := upd T.m.u a (T.m.u a + roomOf k) }, a := T.a + 1 }) ≤ 0) ∧ (T.I = 1 → T.L + s3 (Tri.stl { T with p := setP T.p q p', d := setB T.d q true, m := { T.m with u := upd T.m.u a (T.m.u a + roomOf k) }, a := T.a + 1 }) ≤ 2)
  omega
 ·have hr' : setB T.d q true r = false := hr
  have x : r ≠ q := fun e => by rw [e, dqq] at hr'; cases hr'
  show (setP T.p q _ r).cls = k ∧ Ph3 k _ r (setP T.p q _ r)
  rw [setP_ne x]
  rw [dq r x] at hr'
  obtain ⟨c1, c2⟩ := ph r r0 r1 hr'
  refine ⟨c1, c2.mono (fun j j0 j1 e => ⟨e, rfl, ?_⟩) (fun j j0 j1 e => ⟨e, rfl⟩) (fun j j0 j1 => Int.le_refl _) (.inl rfl)⟩
  show T.m.u j ≤ upd T.m.u a (T.m.u a + roomOf k) j
  by_cases e : j = a
  ·rw [e, upd_same]; omega
  ·rw [upd_ne _ _ e]; exact Int.le_refl _
end
end Go.Fl
namespace Go.Fl
open Go
set_option linter.unusedVariables false
set_option linter.unusedSimpArgs false
variable {C : Cf} {A : Ar} {who k t : Int}
def Tri.st (C : Cf) (who : Int) (A : Ar) (T : Tri) (q : Int) : Bool × Pl × Ar := (T.p q).step C who A
def TriR (C : Cf) (k t : Int) (T : Tri) (q : Int) (r : Bool × Pl × Ar) : Prop :=
 ∃ T' : Tri, T'.p = setP T.p q r.2.1 ∧ T'.d = (if r.1 = true then setB T.d q true else T.d) ∧ TmW C k T'.m r.2.2.w ∧ TriOk k (t + 1) T' ∧ (r.1 = false → T'.pot k q + 1 ≤ T.pot k q) ∧ ∀ r', 0 ≤ r' → r' < 3 → r' ≠ q → T.d r' = false → T'.pot k r' ≤ T.pot k r'
section
variable {T : Tri} {q : Int}
theorem cw_free {M : Tm} {j : Int} (h : M.hd j = -1) : M.cw k j = putChunk 0 0 0 (M.n j) := if_pos h
theorem cw_not {M : Tm} {j : Int} (h : M.hd j ≠ -1) : M.cw k j = putChunk 1 k (M.u j) (M.n j) := if_neg h
theorem TmW.sets (hC : C.ok) (hk : 0 ≤ k ∧ k ≤ 3) {M M' : Tm} {w : Int → Int} (h : TmW C k M w) {a v : Int} (a0 : 0 ≤ a) (a1 : a < 6) (ho : M'.o = M.o) (hj : ∀ j, 0 ≤ j → j < 6 → j ≠ a → M'.cw k j = M.cw k j) (hv : v = M'.cw k a) : TmW C k M' (upd w (C.chunk a) v) := by
 refine ⟨?_, fun j j0 j1 => ?_⟩
 ·rw [upd_ne _ _ (Ne.symm (chunk_ne hC a0 hk.2)), ho]; exact h.o
 ·by_cases e : j = a
  ·rw [e, upd_same]; exact hv
  ·rw [upd_ne _ _ (fun x => e (chunk_inj x)), hj j j0 j1 e]; exact h.c j j0 j1
theorem TriR.loc (h : TriOk k t T) {w : Int → Int} (hw : TmW C k T.m w) {r : Bool × Pl × Ar} (hr : r.1 = false) (ew : r.2.2.w = w) (q0 : 0 ≤ q) (q1 : q < 3) (hd : T.d q = false) (hc : r.2.1.cls = k) (hph : Ph3 k T.m q r.2.1) (hs : r.2.1.pc ≠ 0 → r.2.1.opn ≠ T.m.o → (T.p q).pc ≠ 0 ∧ (T.p q).opn ≠ T.m.o) (hh : 5 ≤ r.2.1.pc ↔ 5 ≤ (T.p q).pc) (hat : 5 ≤ r.2.1.pc → r.2.1.at' = (T.p q).at')
  (hp : Tri.pot k { T with p := setP T.p q r.2.1 } q + 1 ≤ T.pot k q) : TriR C k t T q r :=
 ⟨{ T with p := setP T.p q r.2.1 }, rfl, by rw [hr]; rfl, by rw [ew]; exact hw, (h.loc q0 q1 hd hc hph hs hh hat).mono (by omega), fun _ => hp, fun r' _ _ ne _ => Tri.pot_le (setP_ne ne) (Int.le_refl _) (Int.le_refl _) (.inl rfl) fun _ x => .inl x⟩
theorem Tri.step (hC : C.ok) (h6 : C.C = 6) (hW : C.W = 20) (hk : 0 ≤ k ∧ k ≤ 3) (h : TriOk k t T) (ht : 0 ≤ t ∧ t ≤ 1000) (hw : TmW C k T.m A.w) (q0 : 0 ≤ q) (q1 : q < 3) (hd : T.d q = false) : TriR C k t T q ((T.p q).step C who A) := by
 obtain ⟨hcl, hph⟩ := h.ph q q0 q1 hd
 have hr := room_bd hk.1 hk.2
 have hm := h.m
 have chk : ∀ {u n : Int}, 0 ≤ u ∧ u ≤ 20 → 0 ≤ n ∧ n ≤ 2000 → chS (putChunk 1 k u n) = 1 ∧ chC (putChunk 1 k u n) = k ∧ chU (putChunk 1 k u n) = u ∧ chN (putChunk 1 k u n) = n := fun {u n} hu hn => ch_put (by decide) (by omega) (by omega) (by omega)
 have chf : ∀ {n : Int}, 0 ≤ n ∧ n ≤ 2000 → chS (putChunk 0 0 0 n) = 0 ∧ chN (putChunk 0 0 0 n) = n := fun {n} hn => by
  have := ch_put (st := 0) (c := 0) (us := 0) (sp := n) (by decide) (by decide) (by decide) (by omega)
  exact ⟨this.1, this.2.2.2⟩
 have bs : (Tri.b T) = (Tri.b T) := rfl
 cases hph with
 | p0 hp =>
  have eo : A.w (2 + (T.p q).cls) = T.m.o := by rw [hcl]; exact hw.o
  have ew : IntKind.i64.wrap T.m.o = T.m.o := IntWalk.i64_in _ (by have := hm.ob; omega)
  by_cases e : IntKind.i64.wrap (A.w (2 + (T.p q).cls)) - 1 < 0
  ·rw [Pl.s0a hp e]
   rw [eo, ew] at e
   have o0 : T.m.o = 0 := by have := hm.ob; omega
   refine TriR.loc h hw rfl rfl q0 q1 hd hcl (.p3 rfl (.inl (by rw [eo]; exact o0)) ⟨Int.le_refl 0, (by decide : (0 : Int) < 6)⟩ fun j j0 j1 => ?_) (fun _ x => absurd eo x) ?_ (fun x => absurd (show (5 : Int) ≤ 3 from x) (by decide)) ?_
   ·have j1' : j < 0 := j1
    omega
   ·show 5 ≤ (3 : Int) ↔ _; omega
   ·rw [Tri.pot0 hp, Tri.pot3 (by simp only [setP_same])]
    unfold Tri.s Tri.b
    simp only [setP_same]
    rw [if_pos eo]; omega
  ·rw [Pl.s0b hp e]
   rw [eo, ew] at e
   refine TriR.loc h hw rfl rfl q0 q1 hd hcl (.p1 rfl ?_ ?_ ?_) (fun _ x => absurd eo x) ?_ (fun x => absurd (show (5 : Int) ≤ 1 from x) (by decide)) ?_
   ·show A.w (2 + (T.p q).cls) = IntKind.i64.wrap (A.w (2 + (T.p q).cls)) - 1 + 1
    rw [eo, ew]; omega
   ·show 0 ≤ IntKind.i64.wrap (A.w (2 + (T.p q).cls)) - 1 ∧ IntKind.i64.wrap (A.w (2 + (T.p q).cls)) - 1 < 6
    rw [eo, ew]; have := hm.ob; omega
   ·show T.m.hd (IntKind.i64.wrap (A.w (2 + (T.p q).cls)) - 1) = 3
    rw [eo, ew]; exact hm.oi (by omega)
   ·show 5 ≤ (1 : Int) ↔ _; omega
   ·rw [Tri.pot0 hp, Tri.pot1 (by simp only [setP_same])]
    unfold Tri.s Tri.b
    simp only [setP_same]
    rw [if_pos eo]; omega
 | p1 hp eo ab i =>
  have ec := hw.c _ ab.1 ab.2
  rw [cw_not (by rw [i]; decide)] at ec
  have ub := hm.ub _ ab.1 ab.2
  have nb := hm.nb _ ab.1 ab.2
  obtain ⟨k1, k2, k3, k4⟩ := chk (u := T.m.u (T.p q).at') (n := T.m.n (T.p q).at') ub.1 (by omega)
  by_cases e : chS (A.w (C.chunk (T.p q).at')) ≠ 1 ∨ chC (A.w (C.chunk (T.p q).at')) ≠ (T.p q).cls ∨ C.W < chU (A.w (C.chunk (T.p q).at')) + roomOf (T.p q).cls
  ·rw [Pl.s1a hp e]
   rw [ec, k1, k2, k3, hcl, hW] at e
   have e' : 20 < T.m.u (T.p q).at' + roomOf k := by rcases e with e | e | e <;> omega
   refine TriR.loc h hw rfl rfl q0 q1 hd hcl (.p3 rfl (.inr ?_) ⟨Int.le_refl 0, (by decide : (0 : Int) < 6)⟩ fun j j0 j1 => ?_) (fun _ x => ⟨by omega, x⟩) ?_ (fun x => absurd (show (5 : Int) ≤ 3 from x) (by decide)) ?_
   ·show (1 ≤ (T.p q).opn ∧ (T.p q).opn ≤ 6) ∧ T.m.hd ((T.p q).opn - 1) = 3 ∧ 20 < T.m.u ((T.p q).opn - 1) + roomOf k
    rw [eo, Int.add_sub_cancel]; exact ⟨by omega, i, e'⟩
   ·have j1' : j < 0 := j1
    omega
   ·show 5 ≤ (3 : Int) ↔ _; omega
   ·rw [Tri.pot1 hp, Tri.pot3 (by simp only [setP_same])]
    unfold Tri.s Tri.b
    simp only [setP_same]
    omega
  ·rw [Pl.s1b hp e]
   rw [ec, k1, k2, k3, hcl, hW] at e
   have so : (T.p q).opn = T.m.o := by
    by_cases x : (T.p q).at' + 1 = T.m.o
    ·omega
    ·have := hm.fl _ ab.1 ab.2 i x; omega
   refine TriR.loc h hw rfl rfl q0 q1 hd hcl (.p2 rfl eo ab i _ ec ⟨ub.1.1, Int.le_refl _, by omega⟩) (fun _ x => ⟨by omega, x⟩) ?_ (fun x => absurd (show (5 : Int) ≤ 2 from x) (by decide)) ?_
   ·show 5 ≤ (2 : Int) ↔ _; omega
   ·rw [Tri.pot1 hp, Tri.pot2 (by simp only [setP_same])]
    simp only [setP_same]
    rw [if_pos (hw.c _ ab.1 ab.2)]
    unfold Tri.s Tri.b
    rw [if_pos so]
    show 3 + 3 * (2 - T.a) + 16 * (3 - T.I) - 2 + 1 ≤ _
    omega
 | p2 hp eo ab i v ewv vb =>
  have ec := hw.c _ ab.1 ab.2
  have ub := hm.ub _ ab.1 ab.2
  have nb := hm.nb _ ab.1 ab.2
  obtain ⟨k1, k2, k3, k4⟩ := chk (u := T.m.u (T.p q).at') (n := T.m.n (T.p q).at') ub.1 (by omega)
  obtain ⟨l1, l2, l3, l4⟩ := chk (u := v) (n := T.m.n (T.p q).at') (by omega) (by omega)
  by_cases e : A.w (C.chunk (T.p q).at') = (T.p q).w
  ·rw [Pl.s2a hp e]
   have ev : v = T.m.u (T.p q).at' := by
    rw [ec, cw_not (by rw [i]; decide), ewv] at e
    rw [← k3, e, l3]
   subst ev
   refine ⟨_, rfl, rfl, ?_, (h.gave hr q0 q1 hd hp ab i vb.2.2).mono (by omega), fun x => (by cases x), fun r' r0 r1 ne _ => Tri.pot_le (setP_ne ne) (by show T.a ≤ T.a + 1; omega) (Int.le_refl _) (.inl rfl) fun _ _ => .inr (Int.le_refl _)⟩
   show TmW C k _ ((A.by who).cas (C.chunk (T.p q).at') (T.p q).w _).w
   rw [cas_w, if_pos (by exact e)]
   refine hw.sets hC hk ab.1 ab.2 rfl (fun j j0 j1 ne => ?_) ?_
   ·unfold Tm.cw; simp only [upd_ne _ _ ne]
   ·rw [cw_not (by show T.m.hd _ ≠ -1; rw [i]; decide)]
    show _ = putChunk 1 k (upd T.m.u _ _ _) _
    rw [upd_same, ewv, l1, l2, l3, l4, hcl]
  ·rw [Pl.s2b hp e]
   refine TriR.loc h hw rfl ?_ q0 q1 hd hcl (.p0 rfl) (fun x => absurd rfl x) ?_ (fun x => absurd (show (5 : Int) ≤ 0 from x) (by decide)) ?_
   ·rw [cas_no (by exact e)]; rfl
   ·show 5 ≤ (0 : Int) ↔ _; omega
   ·rw [Tri.pot2 hp, if_neg (fun x => e (by rw [x]; exact ec)), Tri.pot0 (by simp only [setP_same])]
    exact Int.le_refl _
 | p3 hp fu ab vis =>
  have ec := hw.c _ ab.1 ab.2
  have nb := hm.nb _ ab.1 ab.2
  by_cases e : chS (A.w (C.chunk (T.p q).at')) = 0
  ·rw [Pl.s3b hp e]
   have hf : T.m.hd (T.p q).at' = -1 := by
    by_cases x : T.m.hd (T.p q).at' = -1
    ·exact x
    ·rw [ec, cw_not x, (chk (hm.ub _ ab.1 ab.2).1 (by omega)).1] at e; exact absurd e (by decide)
   refine TriR.loc h hw rfl rfl q0 q1 hd hcl (.p4 rfl fu ab vis (T.m.n (T.p q).at') ?_ ⟨nb.1.1, Int.le_refl _⟩) (fun _ x => ⟨by omega, x⟩) ?_ (fun x => absurd (show (5 : Int) ≤ 4 from x) (by decide)) ?_
   ·show A.w (C.chunk (T.p q).at') = _
    rw [ec, cw_free hf]
   ·show 5 ≤ (4 : Int) ↔ _; omega
   ·rw [Tri.pot3 hp, Tri.pot4 (by simp only [setP_same])]
    unfold Tri.s Tri.b
    simp only [setP_same]
    omega
  ·rw [Pl.s3a hp e]
   have hf : T.m.hd (T.p q).at' ≠ -1 := fun x => by
    rw [ec, cw_free x, (chf (by omega)).1] at e; exact e rfl
   have vis' : ∀ j, 0 ≤ j → j ≤ (T.p q).at' → 0 < T.m.n j := fun j j0 j1 => by
    by_cases x : j = (T.p q).at'
    ·have := nb.2 hf; rw [x]; omega
    ·exact vis j j0 (by omega)
   have hb := h.bad hr q0 q1 hd (.inl hp) fu ab vis'
   refine TriR.loc h hw (decide_eq_false (by omega)) rfl q0 q1 hd hcl (.p3 rfl fu ⟨by show 0 ≤ (T.p q).at' + 1; omega, hb⟩ fun j j0 j1 => vis' j j0 ?_) (fun _ x => ⟨by omega, x⟩) ?_ (fun x => absurd (show (5 : Int) ≤ 3 from x) (by decide)) ?_
   ·have j1' : j < (T.p q).at' + 1 := j1
    omega
   ·show 5 ≤ (3 : Int) ↔ _; omega
   ·rw [Tri.pot3 hp, Tri.pot3 (by simp only [setP_same])]
    unfold Tri.s Tri.b
    simp only [setP_same]
    omega
 | p4 hp fu ab vis m ewm mb =>
  have ec := hw.c _ ab.1 ab.2
  have nb := hm.nb _ ab.1 ab.2
  by_cases e : A.w (C.chunk (T.p q).at') = (T.p q).w
  ·rw [Pl.s4a hp e]
   have hf : T.m.hd (T.p q).at' = -1 := by
    by_cases x : T.m.hd (T.p q).at' = -1
    ·exact x
    ·have y : chS (A.w (C.chunk (T.p q).at')) = 0 := by rw [e, ewm]; exact (chf (by omega)).1
     rw [ec, cw_not x, (chk (hm.ub _ ab.1 ab.2).1 (by omega)).1] at y; exact absurd y (by decide)
   have en : m = T.m.n (T.p q).at' := by
    have y : chN (A.w (C.chunk (T.p q).at')) = m := by rw [e, ewm]; exact (chf (by omega)).2
    rw [ec, cw_free hf, (chf (by omega)).2] at y; exact y.symm
   refine ⟨{ T with p := setP T.p q { T.p q with pc := 5 }, m := { T.m with hd := upd T.m.hd (T.p q).at' q, n := upd T.m.n (T.p q).at' (m + 1) } }, rfl, rfl, ?_, h.take q0 q1 hd hp fu ab ewm ⟨mb.1, en⟩ hf hcl, fun _ => ?_, fun r' r0 r1 ne hr' => Tri.pot_le (setP_ne ne) (Int.le_refl _) (Int.le_refl _) (.inl rfl) fun e2 x => .inl ?_⟩
   ·show TmW C k _ ((A.by who).cas (C.chunk (T.p q).at') (T.p q).w _).w
    rw [cas_w, if_pos (by exact e)]
    refine hw.sets hC hk ab.1 ab.2 rfl (fun j j0 j1 ne => ?_) ?_
    ·unfold Tm.cw; simp only [upd_ne _ _ ne]
    ·rw [cw_not (by show upd T.m.hd _ _ _ ≠ -1; rw [upd_same]; omega)]
     show (T.p q).fresh = putChunk 1 k (T.m.u _) (upd T.m.n _ _ _)
     unfold Pl.fresh
     rw [upd_same, ewm, (chf (by omega)).2, hcl, (hm.ub _ ab.1 ab.2).2 (by rw [hf]; decide)]
   ·rw [Tri.pot4 hp, Tri.pot5 (by simp only [setP_same])]
    unfold Tri.s Tri.b
    simp only [setP_same]
    omega
   ·rw [x]
    have ph := (h.ph r' r0 r1 hr').2
    have i2 : T.m.hd (T.p r').at' = 3 := by
     cases ph with
     | p2 _ _ _ i => exact i
     | p0 hp => omega
     | p1 hp => omega
     | p3 hp => omega
     | p4 hp => omega
     | p5 hp => omega
    have ne2 : (T.p r').at' ≠ (T.p q).at' := fun y => by rw [y, hf] at i2; exact absurd i2 (by decide)
    unfold Tm.cw; simp only [upd_ne _ _ ne2]
  ·rw [Pl.s4b hp e]
   have vis' : ∀ j, 0 ≤ j → j ≤ (T.p q).at' → 0 < T.m.n j := fun j j0 j1 => by
    by_cases x : j = (T.p q).at'
    ·rw [x]
     by_cases y : T.m.hd (T.p q).at' = -1
     ·by_cases z : T.m.n (T.p q).at' = m
      ·exact absurd (by rw [ec, cw_free y, z, ewm]) e
      ·omega
     ·have := nb.2 y; omega
    ·exact vis j j0 (by omega)
   have hb := h.bad hr q0 q1 hd (.inr hp) fu ab vis'
   refine TriR.loc h hw (decide_eq_false (by omega)) (by rw [cas_no (by exact e)]; rfl) q0 q1 hd hcl (.p3 rfl fu ⟨by show 0 ≤ (T.p q).at' + 1; omega, hb⟩ fun j j0 j1 => vis' j j0 ?_) (fun _ x => ⟨by omega, x⟩) ?_ (fun x => absurd (show (5 : Int) ≤ 3 from x) (by decide)) ?_
   ·have j1' : j < (T.p q).at' + 1 := j1
    omega
   ·show 5 ≤ (3 : Int) ↔ _; omega
   ·rw [Tri.pot4 hp, Tri.pot3 (by simp only [setP_same])]
    unfold Tri.s Tri.b
    simp only [setP_same]
    omega
 | p5 hp fu ab hh m ewm mb =>
  have ec := hw.c _ ab.1 ab.2
  have nb := hm.nb _ ab.1 ab.2
  have notf : ∀ r', 0 ≤ r' → r' < 3 → T.d r' = false → (T.p r').pc = 2 → (T.p r').at' ≠ (T.p q).at' := fun r' r0 r1 hr' e2 y => by
   have ph := (h.ph r' r0 r1 hr').2
   have i2 : T.m.hd (T.p r').at' = 3 := by
    cases ph with
    | p2 _ _ _ i => exact i
    | p0 hp => omega
    | p1 hp => omega
    | p3 hp => omega
    | p4 hp => omega
    | p5 hp => omega
   rw [y, hh] at i2; omega
  rcases hp with hp | ⟨hp, hne⟩
  ·have eo : A.w (2 + (T.p q).cls) = T.m.o := by rw [hcl]; exact hw.o
   by_cases e : A.w (2 + (T.p q).cls) = (T.p q).opn
   ·rw [Pl.s5a hp e]
    have so : (T.p q).opn = T.m.o := by omega
    obtain ⟨hi, hI⟩ := h.inst hr q0 q1 hd hp fu ab hh so hcl
    have ha := (h.abd q0 q1 hd).2
    refine ⟨{ T with p := setP T.p q { T.p q with pc := 0 }, m := { T.m with hd := upd T.m.hd (T.p q).at' 3, o := (T.p q).at' + 1 }, I := T.I + 1 }, rfl, rfl, ?_, hi.mono (by omega), fun _ => ?_, fun r' r0 r1 ne hr' => Tri.pot_le (setP_ne ne) (Int.le_refl _) (by show T.I ≤ T.I + 1; omega) (.inr (Int.le_refl _)) fun e2 x => .inl ?_⟩
    ·show TmW C k _ ((A.by who).cas (2 + (T.p q).cls) (T.p q).opn ((T.p q).at' + 1)).w
     rw [cas_w, if_pos (by exact e), hcl]
     refine ⟨upd_same _ _ _, fun j j0 j1 => ?_⟩
     rw [upd_ne _ _ (chunk_ne hC j0 hk.2)]
     show A.w (C.chunk j) = _
     rw [hw.c j j0 j1]
     by_cases x : j = (T.p q).at'
     ·rw [x, cw_not (by rw [hh]; omega), cw_not (by show upd T.m.hd _ _ _ ≠ -1; rw [upd_same]; decide)]
     ·unfold Tm.cw; simp only [upd_ne _ _ x]
    ·rw [Tri.pot5 hp, Tri.pot0 (by simp only [setP_same])]
     unfold Tri.s Tri.b
     rw [if_pos so]
     show 3 + 3 * (2 - T.a) + 16 * (3 - (T.I + 1)) + 1 ≤ _
     omega
    ·rw [x]
     have := notf r' r0 r1 hr' e2
     unfold Tm.cw; simp only [upd_ne _ _ this]
   ·rw [Pl.s5b hp e]
    have so : (T.p q).opn ≠ T.m.o := fun x => e (by omega)
    refine TriR.loc h hw rfl (by rw [cas_no (by exact e)]; rfl) q0 q1 hd hcl (.p5 (.inr ⟨rfl, so⟩) fu ab hh m ewm mb) (fun _ x => ⟨by omega, x⟩) ?_ (fun _ => rfl) ?_
    ·show 5 ≤ (6 : Int) ↔ _; omega
    ·rw [Tri.pot5 hp, Tri.pot6 (by simp only [setP_same])]
     unfold Tri.s Tri.b
     rw [if_neg so]
     show 3 + 3 * (2 - T.a) + 16 * (3 - T.I) + 1 + 1 ≤ _
     omega
  ·rw [Pl.s6 (by omega) (by omega) (by omega) (by omega) (by omega) (by omega)]
   have hfr : (T.p q).fresh = A.w (C.chunk (T.p q).at') := by
    rw [ec, cw_not (by rw [hh]; omega)]
    unfold Pl.fresh
    rw [ewm, (chf (by omega)).2, hcl, (hm.ub _ ab.1 ab.2).2 (by rw [hh]; omega), mb.2]
   refine ⟨{ T with p := setP T.p q { T.p q with pc := 0 }, m := { T.m with hd := upd T.m.hd (T.p q).at' (-1), n := upd T.m.n (T.p q).at' (m + 2) }, L := T.L + 1 }, rfl, rfl, ?_, h.left q0 q1 hd hp hne ab hh mb hcl, fun _ => ?_, fun r' r0 r1 ne hr' => Tri.pot_le (setP_ne ne) (Int.le_refl _) (Int.le_refl _) (.inl rfl) fun e2 x => .inl ?_⟩
   ·show TmW C k _ ((A.by who).cas (C.chunk (T.p q).at') (T.p q).fresh _).w
    rw [cas_w, if_pos (by exact hfr.symm)]
    refine hw.sets hC hk ab.1 ab.2 rfl (fun j j0 j1 ne => ?_) ?_
    ·unfold Tm.cw; simp only [upd_ne _ _ ne]
    ·rw [cw_free (by show upd T.m.hd _ _ _ = -1; rw [upd_same])]
     show _ = putChunk 0 0 0 (upd T.m.n _ _ _)
     rw [upd_same, ewm, (chf (by omega)).2]
   ·rw [Tri.pot6 hp, Tri.pot0 (by simp only [setP_same])]
    exact Int.le_refl _
   ·rw [x]
    have := notf r' r0 r1 hr' e2
    unfold Tm.cw; simp only [upd_ne _ _ this]
end
end Go.Fl
namespace Go.Fl
open Go
set_option linter.unusedVariables false
set_option linter.unusedSimpArgs false
variable {N : Nm} {A B : Ar} {σ : Mem} {K : Value → Mem → Prop} {C : Cf} {who : Int}
def r3 (P : Int → Value) : List Value := [P 0, P 1, P 2]
def updV (f : Int → Value) (i : Int) (x : Value) : Int → Value := fun j => if j = i then x else f j
theorem r3_sub {P : Int → Value} {k : Int} (k0 : 0 ≤ k) (k3 : k < 3) : sub (r3 P) (k.toNat * 1) 1 false = some (P k) := by
 rcases (show k = 0 ∨ k = 1 ∨ k = 2 by omega) with rfl | rfl | rfl <;> rfl
theorem r3_set {P : Int → Value} {k : Int} {x : Value} {q : Nat} (k0 : 0 ≤ k) (k3 : k < 3) (h1 : cellsOf x 1 = some [x]) (h2 : oneB x = true) : gStore 1 [.pointer (some ⟨q, k.toNat * 1, some 0⟩), x] (r3 P) = some (r3 (updV P k x)) := by
 rw [gStore_1 h1 (by show k.toNat * 1 + 1 ≤ 3; omega) h2]
 rcases (show k = 0 ∨ k = 1 ∨ k = 2 by omega) with rfl | rfl | rfl <;> rfl
theorem r3_congr {P Q : Int → Value} (h : ∀ q, 0 ≤ q → q < 3 → P q = Q q) : r3 P = r3 Q := by
 unfold r3; rw [h 0 (by decide) (by decide), h 1 (by decide) (by decide), h 2 (by decide) (by decide)]
theorem tmod3 (a : Int) : -3 < a.tmod 3 ∧ a.tmod 3 < 3 := by
 rcases Int.le_total 0 a with h | h
 ·rw [Int.tmod_eq_emod_of_nonneg h]; omega
 ·obtain ⟨b, rfl⟩ : ∃ b, a = -b := ⟨-a, by omega⟩
  rw [Int.neg_tmod, Int.tmod_eq_emod_of_nonneg (by omega)]; omega
theorem pick3 (a : Int) : IntKind.i64.wrap (a.tmod 3 + 3) = a.tmod 3 + 3 ∧ 0 ≤ (a.tmod 3 + 3).tmod 3 ∧ (a.tmod 3 + 3).tmod 3 < 3 := by
 have := tmod3 a
 refine ⟨IntWalk.i64_in _ (by omega), ?_⟩
 rw [Int.tmod_eq_emod_of_nonneg (by omega)]; omega
def left3 (i q : Int) : Int := if i < 100 then 57 else 100 - (i - q + 2) / 3
structure H3 (N : Nm) (C : Cf) (σ0 : Mem) (pp : Int → Nat) (k i : Int) (T : Tri) (A : Ar) (τ : Mem) : Prop where
 isA : isA N A τ
 pa : Pa C A (1000 + i)
 ext : Ext σ0 τ
 tw : TmW C k T.m A.w
 ok : TriOk k i T
 each : ∀ q, 0 ≤ q → q < 3 → (pp q ∉ N.l ∧ σ0.get (pp q) = none) ∧ (T.d q = false → τ.get (pp q) = some ⟨[] ++ (T.p q).l ++ [], true⟩ ∧ (T.p q).fit C)
 apart : ∀ q r, 0 ≤ q → q < 3 → 0 ≤ r → r < 3 → q ≠ r → pp q ≠ pp r
 pot : ∀ q, 0 ≤ q → q < 3 → T.d q = false → T.pot k q ≤ left3 i q
theorem left3_on {i q : Int} (h : 100 ≤ i → q ≠ i % 3) (q0 : 0 ≤ q) (q1 : q < 3) (i0 : 0 ≤ i) : left3 i q ≤ left3 (i + 1) q := by
 unfold left3
 by_cases a : i < 100
 ·rw [if_pos a]; split <;> omega
 ·have := h (by omega)
  rw [if_neg a, if_neg (by omega)]; omega
theorem left3_me {i q : Int} (h : 100 ≤ i → q = i % 3) (q0 : 0 ≤ q) (q1 : q < 3) (i0 : 0 ≤ i) : left3 i q - 1 ≤ left3 (i + 1) q := by
 unfold left3
 by_cases a : i < 100
 ·rw [if_pos a]; split <;> omega
 ·have := h (by omega)
  rw [if_neg a, if_neg (by omega)]; omega
theorem Tri.pot_pos {k t : Int} {T : Tri} {q : Int} (h : TriOk k t T) (q0 : 0 ≤ q) (q1 : q < 3) (hd : T.d q = false) : 1 ≤ T.pot k q := by
 have ab := h.abd q0 q1 hd
 have ful : T.m.ful k T.m.o → T.I ≤ T.a := fun f => by
  rcases h.ia with i | ⟨i, o1, o2⟩
  ·exact i
  ·rcases f with f | ⟨_, _, f⟩ <;> omega
 have hI : T.I ≤ 3 := by rcases h.ia with i | i <;> omega
 have s0 : 0 ≤ T.s q := by unfold Tri.s; split <;> omega
 have hs : T.m.ful k (T.p q).opn → 16 ≤ T.s q + 16 * (3 - T.I) := fun f => by
  unfold Tri.s
  by_cases o : (T.p q).opn = T.m.o
  ·rw [if_pos o]; rw [o] at f; have := ful f; omega
  ·rw [if_neg o]; omega
 have hb : T.b = 3 + 3 * (2 - T.a) + 16 * (3 - T.I) := rfl
 cases (h.ph q q0 q1 hd).2 with
 | p0 hp => rw [Tri.pot0 hp]; omega
 | p1 hp => rw [Tri.pot1 hp]; omega
 | p2 hp => rw [Tri.pot2 hp]; split <;> omega
 | p3 hp fu ab => have := hs fu; rw [Tri.pot3 hp]; omega
 | p4 hp fu ab => have := hs fu; rw [Tri.pot4 hp]; omega
 | p5 hp fu ab =>
  have := hs fu
  rcases hp with hp | ⟨hp, _⟩
  ·rw [Tri.pot5 hp]; omega
  ·rw [Tri.pot6 hp]; omega
def Tri.new (k : Int) : Tri := ⟨fun _ => Pl.new k, fun _ => false, ⟨fun _ => -1, fun _ => 0, fun _ => 0, 0⟩, 0, 0, 0⟩
theorem Tri.new_ok {k : Int} : TriOk k 0 (Tri.new k) := by
 refine ⟨⟨⟨Int.le_refl 0, (by decide : (0 : Int) ≤ 6)⟩, fun e => absurd (show (1 : Int) ≤ 0 from e) (by decide), fun j _ _ => ⟨Int.le_refl _, (by decide : (-1 : Int) ≤ 3)⟩, fun j _ _ e => absurd (show (-1 : Int) = 3 from e) (by decide), fun j _ _ => ⟨⟨Int.le_refl 0, (by decide : (0 : Int) ≤ 20)⟩, fun _ => rfl⟩, fun j _ _ => ⟨⟨Int.le_refl 0, Int.le_refl 0⟩, fun e => absurd rfl e⟩, fun j _ _ e => absurd (show (-1 : Int) = 3 from e) (by decide)⟩, fun j _ _ e => absurd (show (0 : Int) ≤ -1 from e) (by decide), rfl, .inl (Int.le_refl 0), rfl, ?_, ?_, ?_, fun q _ _ _ => ⟨rfl, .p0 rfl⟩⟩
 ·show (0 : Int) + 0 + 0 + 0 + 0 + 0 = roomOf k * 0
  rw [Int.mul_zero]; decide
 ·show (0 : Int) + 0 + 0 + 0 + 0 + 0 ≤ 0 + 0 + (0 + 0 + 0); decide
 ·show (0 : Int) ≤ 0 ∧ 0 + ((0 : Int) + 0 + 0) ≤ 3 ∧ ((0 : Int) = 0 → 0 + ((0 : Int) + 0 + 0) ≤ 0) ∧ ((0 : Int) = 1 → 0 + ((0 : Int) + 0 + 0) ≤ 2); decide
def ps (f : Int → Int) : Nat → Int
 | 0 => 0
 | n + 1 => ps f n + f n
theorem ps_bd {f : Int → Int} (h : ∀ j, 0 ≤ j → j < 6 → 0 ≤ f j ∧ f j ≤ 20) : ∀ n : Nat, n ≤ 6 → 0 ≤ ps f n ∧ ps f n ≤ 20 * n := fun n => by
 induction n with
 | zero => intro _; exact ⟨Int.le_refl 0, (by decide : (0 : Int) ≤ 20 * 0)⟩
 | succ n ih =>
  intro hn
  have a := ih (by omega)
  have b := h n (by omega) (by omega)
  show 0 ≤ ps f n + f n ∧ ps f n + f n ≤ _
  omega
theorem law_PlaceLeaves (σ : Mem) (a0 : Int) (w0 : (Lit.int .i64 a0).wf = true) (s1 : Value) (len1 : Nat) (cs1 : List Value) (sl1 : Sl σ 1 len1 cs1 s1) (hm1 : len1 ≤ maxLen) (hf1 : FlatL (List.replicate len1 [some .i64]).flatten cs1) :
  s_ab [.int .i64 a0, s1] (fun v _ => v = .bool true) σ := by
 obtain ⟨g1, hg1, _⟩ := sl1.argI hf1
 simp only [s_ab, w_ab, ruS, ruL, ruE, Nat.reduceAdd, reduceIte, Int.reduceLT, Int.reduceLE, Int.reduceEq, Int.reduceNeg, Int.reduceAdd, Int.reduceSub, Nat.reduceLeDiff, Nat.reduceLT]
 have hC : (cA 4 1 6 20).ok := cA_ok (by omega) (by omega) (by omega) (by omega)
 refine c_Arena (C := cA 4 1 6 20) hC rfl rfl rfl fun N A τ hN hF hA hE hfr => ?_
 have h6 : (cA 4 1 6 20).C = 6 := rfl
 have hW : (cA 4 1 6 20).W = 20 := rfl
 have hT : (cA 4 1 6 20).T = 4 := rfl
 have hS : (cA 4 1 6 20).S = 1 := rfl
 have ok : A.ok 1000 := ⟨hF.ok.w, by have := hF.ok.s; omega, hF.ok.t⟩
 have hl := len_bd hC
 have hn4 : (cA 4 1 6 20).len ≤ A.n := by rw [hF.n]; omega
 have hP : Pa (cA 4 1 6 20) A 1000 := by
  refine ⟨ok, hn4, fun c c0 c3 => ?_⟩
  rw [hF.w, w0_open hC c0 c3]
  show (0 : Int) ≤ 6
  omega
 have hw0 : ∀ k, 0 ≤ k → k ≤ 3 → TmW (cA 4 1 6 20) k (Tri.new k).m A.w := fun k k0 k3 => ⟨by rw [hF.w, w0_open hC k0 k3]; rfl, fun j j0 j1 => by rw [hF.w, w0_chunk hC j0, cw_free rfl]; show (0 : Int) = putChunk 0 0 0 0; decide⟩
 generalize hCe : cA 4 1 6 20 = C at *
 clear hCe
 have bp : ∀ K : Value → Prop, xF (fBuild [(0, 1), (1, 1), (2, 1)] [.pointer none, .pointer none, .pointer none] []) [] K = K (.agg #[.pointer none, .pointer none, .pointer none]) := fun K => nr rfl
 have bi : ∀ K : Value → Prop, xF (fBuild [(0, 1), (1, 1), (2, 1)] [.bool false, .bool false, .bool false] []) [] K = K (.agg #[.bool false, .bool false, .bool false]) := fun K => nr rfl
 have gp : gStore 3 [.pointer (some ⟨8, 0, some 0⟩), .agg #[.pointer none, .pointer none, .pointer none]] [.pointer none, .pointer none, .pointer none] = some (r3 fun _ => .pointer none) := rfl
 have gi : gStore 3 [.pointer (some ⟨9, 0, some 0⟩), .agg #[.bool false, .bool false, .bool false]] [.bool false, .bool false, .bool false] = some (r3 fun _ => .bool false) := rfl
 simp only [c_awake7, gStoreE, w_ab_j1, w_ab_j1b, andI3, bp, bi, gp, gi, Bool.not_true, ruS, ruL, ruE, Nat.reduceAdd, reduceIte, Int.reduceLT, Int.reduceLE, Int.reduceEq, Int.reduceNeg, Int.reduceAdd, Int.reduceSub, Nat.reduceLeDiff, Nat.reduceLT]
 have hk : 0 ≤ a0 % 4 ∧ a0 % 4 ≤ 3 := by omega
 generalize a0 % 4 = k at hk
 have hr := room_bd hk.1 hk.2
 have hbe := base_bd hC (a := 0) (Int.le_refl 0) (by decide)
 have p7 : sub (N.el C 0) 7 1 false = some N.p := rfl
 have c7' : sub (N.el C 0) 0 7 true = some C.v := rfl
 have gs : ∀ x y z w : Int, gStore 4 [.pointer (some ⟨16, 0, some 0⟩), .agg #[.int .i64 x, .int .i64 y, .int .i64 z, .int .i64 w]] [.int .i64 0, .int .i64 0, .int .i64 0, .int .i64 0] = some [.int .i64 x, .int .i64 y, .int .i64 z, .int .i64 w] := fun _ _ _ _ => rfl
 -- all are done
 have fin : ∀ (T : Tri) (A : Ar) (pp : Int → Nat) (τ : Mem), H3 N C σ pp k 300 T A τ → w_ab_j3 (fun v _ => v = .bool true) [.int .i64 k] [N.el C 0, r3 fun q => .bool (T.d q)] τ := by
  intro T A pp τ h
  have hd : ∀ q, 0 ≤ q → q < 3 → T.d q = true := fun q q0 q1 => by
   cases e : T.d q with
   | true => rfl
   | false =>
    have p1 := Tri.pot_pos h.ok q0 q1 e
    have p2 := h.pot q q0 q1 e
    unfold left3 at p2
    rw [if_neg (by decide)] at p2
    omega
  have d0 := hd 0 (by decide) (by decide)
  have d1 := hd 1 (by decide) (by decide)
  have d2 := hd 2 (by decide) (by decide)
  have e0 := r3_sub (P := fun q => .bool (T.d q)) (k := 0) (by decide) (by decide)
  have e1 := r3_sub (P := fun q => .bool (T.d q)) (k := 1) (by decide) (by decide)
  have e2 := r3_sub (P := fun q => .bool (T.d q)) (k := 2) (by decide) (by decide)
  have ha : T.a = 3 := by
   have := h.ok.ad
   dsimp only [s3] at this
   rw [d0, d1, d2] at this
   simp only [if_true] at this
   omega
  have hhd : ∀ j, 0 ≤ j → j < 6 → T.m.hd j = -1 ∨ T.m.hd j = 3 := fun j j0 j1 => by
   have b := h.ok.m.hb j j0 j1
   by_cases x : 0 ≤ T.m.hd j ∧ T.m.hd j ≤ 2
   ·have := (h.ok.hq j j0 j1 x.1 x.2).1
    rw [hd _ x.1 (by omega)] at this; cases this
   ·omega
  have hsu := h.ok.su
  rw [ha] at hsu
  have ho : 1 ≤ T.m.o := by
   by_cases x : 1 ≤ T.m.o
   ·exact x
   ·exfalso
    have z : ∀ j, 0 ≤ j → j < 6 → T.m.u j = 0 := fun j j0 j1 => (h.ok.m.ub j j0 j1).2 fun e => x (h.ok.m.on j j0 j1 e)
    dsimp only [s6] at hsu
    rw [z 0 (by decide) (by decide), z 1 (by decide) (by decide), z 2 (by decide) (by decide), z 3 (by decide) (by decide), z 4 (by decide) (by decide), z 5 (by decide) (by decide)] at hsu
    omega
  have hob := h.ok.m.ob
  have hoi := h.ok.m.oi ho
  have hww := h.pa.ok.w
  have hn := h.pa.n
  have ho2 : 2 + k < A.n := by
   have : C.chunk C.C = 6 + C.T + 2 * C.S + 3 * C.C := rfl
   omega
  simp only [w_ab_j3, w_ab_j3b, xIxA (show (0 : Int) ≤ 0 by decide) (show (0 : Int) < (3 : Nat) by decide), xIxA (show (0 : Int) ≤ 1 by decide) (show (1 : Int) < (3 : Nat) by decide), xIxA (show (0 : Int) ≤ 2 by decide) (show (2 : Int) < (3 : Nat) by decide), Nat.zero_add, e0, e1, e2, d0, d1, d2, Bool.not_true, w_ab_j4, w_ab_j4b, p7, c_Open hk.1 (show k ≤ 65536 by omega), c_PeekA hN h.isA (show 0 ≤ 2 + k by omega) ho2, h.tw.o, ruS, ruL, ruE, Nat.reduceAdd, reduceIte, Int.reduceLT, Int.reduceLE, Int.reduceEq, Int.reduceNeg, Int.reduceAdd, Int.reduceSub, Nat.reduceLeDiff, Nat.reduceLT]
  rw [IntWalk.i64_in T.m.o (by omega), IntWalk.i64_in (T.m.o - 1) (by omega)]
  refine xLoop_r (fun x ts ls τ => ∃ i : Nat, x = 6 - i ∧ ts = [.int .i64 k, .int .i64 (T.m.o - 1), .int .i64 (ps T.m.u i), .int .i64 i] ∧ ls = [N.el C 0] ∧ i ≤ 6 ∧ isA N A τ) ?_ (n := 6) ⟨0, rfl, rfl, rfl, by omega, h.isA⟩
  rintro x ts ls τ2 ⟨i, rfl, rfl, rfl, i6, hA2⟩ R hR
  have hps := ps_bd (f := T.m.u) (fun j j0 j1 => (h.ok.m.ub j j0 j1).1) i i6
  simp only [w_law07_PlaceLeaves_l23, w_law07_PlaceLeaves_l23b, ruS, ruL, ruE, Nat.reduceAdd, reduceIte, Int.reduceLT, Int.reduceLE, Int.reduceEq, Int.reduceNeg, Int.reduceAdd, Int.reduceSub, Nat.reduceLeDiff, Nat.reduceLT]
  by_cases c6 : (i : Int) < 6
  rotate_left
  ·have e6 : i = 6 := by omega
   subst e6
   have eu : ps T.m.u 6 = 3 * roomOf k := by
    have : ps T.m.u 6 = s6 T.m.u := by
     show 0 + T.m.u 0 + T.m.u 1 + T.m.u 2 + T.m.u 3 + T.m.u 4 + T.m.u 5 = _
     dsimp only [s6]; omega
    rw [this, hsu]; omega
   have g0 : (0 : Int) ≤ T.m.o - 1 := by omega
   simp only [c6, w_ab_j5, w_ab_j5b, g0, ruS, ruL, ruE, Nat.reduceAdd, reduceIte, Int.reduceLT, Int.reduceLE, Int.reduceEq, Int.reduceNeg, Int.reduceAdd, Int.reduceSub, Nat.reduceLeDiff, Nat.reduceLT]
   refine c_rRoom hk.1 hk.2 fun τ3 x3 => ?_
   simp only [ruS, ruL, ruE, Nat.reduceAdd, reduceIte, Int.reduceLT, Int.reduceLE, Int.reduceEq, Int.reduceNeg, Int.reduceAdd, Int.reduceSub, Nat.reduceLeDiff, Nat.reduceLT]
   rw [IntWalk.i64_in (3 * roomOf k) (by omega), eu]
   simp only [ruS, ruL, ruE, Nat.reduceAdd, reduceIte, Int.reduceLT, Int.reduceLE, Int.reduceEq, Int.reduceNeg, Int.reduceAdd, Int.reduceSub, Nat.reduceLeDiff, Nat.reduceLT]
  have i0 : (0 : Int) ≤ i := by omega
  have hub := h.ok.m.ub i i0 c6
  have hnb := h.ok.m.nb i i0 c6
  have hcb := chunk_bd hC i0 (show (i : Int) < C.C by omega) hn
  have hcw := h.tw.c i i0 c6
  have on : ∀ τ3, isA N A τ3 → w_ab_j6 (fun v _ => v = .bool true) (w_ab_j5 fun v _ => v = .bool true) R [.int .i64 k, .int .i64 (T.m.o - 1), .int .i64 (ps T.m.u i + T.m.u i), .int .i64 i, .bool false] [N.el C 0] τ3 := fun τ3 hA3 => by
   simp only [w_ab_j6, w_ab_j6b, ruS, ruL, ruE, Nat.reduceAdd, reduceIte, Int.reduceLT, Int.reduceLE, Int.reduceEq, Int.reduceNeg, Int.reduceAdd, Int.reduceSub, Nat.reduceLeDiff, Nat.reduceLT]
   rw [IntWalk.i64_in ((i : Int) + 1) (by omega)]
   exact hR (6 - (i + 1)) _ _ _ (by omega) ⟨i + 1, rfl, rfl, rfl, by omega, hA3⟩
  simp only [c6, p7, c7', ruS, ruL, ruE, Nat.reduceAdd, reduceIte, Int.reduceLT, Int.reduceLE, Int.reduceEq, Int.reduceNeg, Int.reduceAdd, Int.reduceSub, Nat.reduceLeDiff, Nat.reduceLT]
  rw [c_Chunk hC i0 (by omega), c_PeekA hN hA2 hcb.1 hcb.2, c_wChunk (hww _).1 (hww _).2, hcw]
  rcases hhd i i0 c6 with f | f
  ·have hc := ch_put (st := 0) (c := 0) (us := 0) (sp := T.m.n i) (by decide) (by decide) (by decide) (by omega)
   have u0 : T.m.u i = 0 := hub.2 (by rw [f]; decide)
   have ne : ¬ (i : Int) = T.m.o - 1 := fun e => by rw [e, hoi] at f; exact absurd f (by decide)
   rw [u0] at on
   simp only [cw_free f, hc.1, hc.2.1, hc.2.2.1, gs, ne, ruS, ruL, ruE, Nat.reduceAdd, reduceIte, Int.reduceLT, Int.reduceLE, Int.reduceEq, Int.reduceNeg, Int.reduceAdd, Int.reduceSub, Nat.reduceLeDiff, Nat.reduceLT]
   rw [IntWalk.i64_in (ps T.m.u i + 0) (by omega)]
   exact on _ hA2
  ·have hc := ch_put (st := 1) (c := k) (us := T.m.u i) (sp := T.m.n i) (by decide) (by omega) (by omega) (by omega)
   simp only [cw_not (k := k) (show T.m.hd i ≠ -1 by rw [f]; decide), hc.1, hc.2.1, hc.2.2.1, gs, ruS, ruL, ruE, Nat.reduceAdd, reduceIte, Int.reduceLT, Int.reduceLE, Int.reduceEq, Int.reduceNeg, Int.reduceAdd, Int.reduceSub, Nat.reduceLeDiff, Nat.reduceLT]
   rw [IntWalk.i64_in (ps T.m.u i + T.m.u i) (by omega)]
   by_cases e : (i : Int) = T.m.o - 1
   ·have nk : ¬ k ≠ k := fun x => x rfl
    simp only [e, ruS, ruL, ruE, Nat.reduceAdd, reduceIte, Int.reduceLT, Int.reduceLE, Int.reduceEq, Int.reduceNeg, Int.reduceAdd, Int.reduceSub, Nat.reduceLeDiff, Nat.reduceLT]
    rw [e] at on
    exact on _ hA2
   ·have fu := h.ok.m.fl i i0 c6 f (by omega)
    have nle : ¬ T.m.u i + roomOf k ≤ 20 := by omega
    simp only [e, ruS, ruL, ruE, Nat.reduceAdd, reduceIte, Int.reduceLT, Int.reduceLE, Int.reduceEq, Int.reduceNeg, Int.reduceAdd, Int.reduceSub, Nat.reduceLeDiff, Nat.reduceLT]
    refine c_rRoom hk.1 hk.2 fun τ3 x3 => ?_
    simp only [ruS, ruL, ruE, Nat.reduceAdd, reduceIte, Int.reduceLT, Int.reduceLE, Int.reduceEq, Int.reduceNeg, Int.reduceAdd, Int.reduceSub, Nat.reduceLeDiff, Nat.reduceLT]
    rw [IntWalk.i64_in (T.m.u i + roomOf k) (by omega)]
    simp only [nle, ruS, ruL, ruE, Nat.reduceAdd, reduceIte, Int.reduceLT, Int.reduceLE, Int.reduceEq, Int.reduceNeg, Int.reduceAdd, Int.reduceSub, Nat.reduceLeDiff, Nat.reduceLT]
    exact on _ (hA2.ext x3)
 -- round by round
 have run : ∀ (pp : Int → Nat) (A : Ar) (τ : Mem), H3 N C σ pp k 0 (Tri.new k) A τ → w_ab_j2 (fun v _ => v = .bool true) [s1, .int .i64 k] [N.el C 0, r3 fun q => .pointer (some ⟨pp q, 0, none⟩), r3 fun _ => .bool false] τ := by
  intro pp A0 τ0 h0
  simp only [w_ab_j2, w_ab_j2b, ruS, ruL, ruE, Nat.reduceAdd, reduceIte, Int.reduceLT, Int.reduceLE, Int.reduceEq, Int.reduceNeg, Int.reduceAdd, Int.reduceSub, Nat.reduceLeDiff, Nat.reduceLT]
  refine xLoop_r (fun x ts ls τ => ∃ (i : Int) (T : Tri) (A : Ar), x = (300 - i).toNat ∧ ts = [s1, .int .i64 k, .int .i64 i] ∧ ls = [N.el C 0, r3 fun q => .pointer (some ⟨pp q, 0, none⟩), r3 fun q => .bool (T.d q)] ∧ (0 ≤ i ∧ i ≤ 300) ∧ H3 N C σ pp k i T A τ) ?_ (n := 300) ⟨0, Tri.new k, A0, rfl, rfl, rfl, ⟨Int.le_refl 0, by decide⟩, h0⟩
  clear h0
  rintro x ts ls τ ⟨i, T, A, rfl, rfl, rfl, ⟨i0, i3⟩, h⟩ R hR
  have hg := hg1.keep h.ext
  simp only [w_law07_PlaceLeaves_l12, w_law07_PlaceLeaves_l12b, ruS, ruL, ruE, Nat.reduceAdd, reduceIte, Int.reduceLT, Int.reduceLE, Int.reduceEq, Int.reduceNeg, Int.reduceAdd, Int.reduceSub, Nat.reduceLeDiff, Nat.reduceLT]
  by_cases c : i < 300
  rotate_left
  ·have e3 : i = 300 := by omega
   subst e3
   simp only [c, ruS, ruL, ruE, Nat.reduceAdd, reduceIte, Int.reduceLT, Int.reduceLE, Int.reduceEq, Int.reduceNeg, Int.reduceAdd, Int.reduceSub, Nat.reduceLeDiff, Nat.reduceLT]
   exact fin T A pp τ h
  -- the one who is picked
  have go : ∀ q, 0 ≤ q → q < 3 → (100 ≤ i → q = i % 3) → w_ab_j8 (fun v _ => v = .bool true) (w_ab_j3 fun v _ => v = .bool true) R (w_ab_j7 (fun v _ => v = .bool true) (w_ab_j3 fun v _ => v = .bool true) R) [s1, .int .i64 k, .int .i64 i, .int .i64 q] [N.el C 0, r3 fun q => .pointer (some ⟨pp q, 0, none⟩), r3 fun q => .bool (T.d q)] τ := by
   intro q q0 q1 hq
   have e9 := r3_sub (P := fun q => .bool (T.d q)) q0 q1
   have e8 := r3_sub (P := fun q => .pointer (some ⟨pp q, 0, none⟩)) q0 q1
   simp only [w_ab_j8, w_ab_j8b, xIxA q0 (show q < (3 : Nat) by omega), Nat.zero_add, e9, ruS, ruL, ruE, Nat.reduceAdd, reduceIte, Int.reduceLT, Int.reduceLE, Int.reduceEq, Int.reduceNeg, Int.reduceAdd, Int.reduceSub, Nat.reduceLeDiff, Nat.reduceLT]
   cases hd : T.d q with
   | true =>
    simp only [Bool.not_true, w_ab_j7, w_ab_j7b, ruS, ruL, ruE, Nat.reduceAdd, reduceIte, Int.reduceLT, Int.reduceLE, Int.reduceEq, Int.reduceNeg, Int.reduceAdd, Int.reduceSub, Nat.reduceLeDiff, Nat.reduceLT]
    rw [IntWalk.i64_in (i + 1) (by omega)]
    refine hR (300 - (i + 1)).toNat _ _ _ (by omega) ⟨i + 1, T, A, rfl, rfl, rfl, ⟨by omega, by omega⟩, h.isA, by rw [show 1000 + (i + 1) = 1000 + i + 1 by omega]; exact h.pa.mono (by omega), h.ext, h.tw, h.ok.mono (by omega), h.each, h.apart, fun r r0 r1 hr => ?_⟩
    have := h.pot r r0 r1 hr
    have l := left3_on (i := i) (q := r) (fun h1 e => by rw [e, ← hq h1, hd] at hr; cases hr) r0 r1 i0
    omega
   | false =>
    obtain ⟨⟨a1, a2⟩, a3⟩ := h.each q q0 q1
    obtain ⟨a3, a4⟩ := a3 hd
    have hcl := (h.ok.ph q q0 q1 hd).1
    simp only [Bool.not_false, xIxA q0 (show q < (3 : Nat) by omega), Nat.zero_add, e8, ruS, ruL, ruE, Nat.reduceAdd, reduceIte, Int.reduceLT, Int.reduceLE, Int.reduceEq, Int.reduceNeg, Int.reduceAdd, Int.reduceSub, Nat.reduceLeDiff, Nat.reduceLT]
    obtain ⟨T', t1, t2, t3, t4, t5, t6⟩ := Tri.step (who := 0) hC h6 hW hk h.ok ⟨by omega, by omega⟩ h.tw q0 q1 hd
    obtain ⟨g1, g2, _⟩ := Pl.go (who := 0) hC (b := 1000 + i) (by omega) h.pa a4
    refine c_Place_Step (pre := []) (post := []) hN hC h.isA a3 a1 h.pa.ok.w h.pa.n a4 (by rw [hcl]; exact h.pa.op k hk.1 hk.2) fun τ2 hA2 gp2 hK2 => ?_
    generalize (T.p q).step C 0 A = r at *
    have s9 := r3_set (P := fun q => .bool (T.d q)) (x := .bool r.1) (q := 9) q0 q1 rfl rfl
    have e10 : r3 (updV (fun q => .bool (T.d q)) q (.bool r.1)) = r3 fun q => .bool (T'.d q) := r3_congr fun j j0 j1 => by
     rw [t2]
     unfold updV
     by_cases e : j = q
     ·subst e
      rw [if_pos rfl]
      cases r.1 with
      | true => rw [if_pos rfl]; unfold setB; rw [if_pos rfl]
      | false => rw [if_neg (by decide), hd]
     ·rw [if_neg e]
      cases r.1 with
      | true => rw [if_pos rfl]; unfold setB; rw [if_neg e]
      | false => rw [if_neg (by decide)]
    simp only [xIxA q0 (show q < (3 : Nat) by omega), Nat.zero_add, s9, e10, w_ab_j7, w_ab_j7b, ruS, ruL, ruE, Nat.reduceAdd, reduceIte, Int.reduceLT, Int.reduceLE, Int.reduceEq, Int.reduceNeg, Int.reduceAdd, Int.reduceSub, Nat.reduceLeDiff, Nat.reduceLT]
    rw [IntWalk.i64_in (i + 1) (by omega)]
    have hdd : ∀ j, T'.d j = false → T.d j = false := fun j e => by
     rw [t2] at e
     cases x : r.1 with
     | true =>
      rw [x, if_pos rfl] at e
      unfold setB at e
      by_cases y : j = q
      ·rw [if_pos y] at e; cases e
      ·rw [if_neg y] at e; exact e
     | false => rw [x, if_neg (by decide)] at e; exact e
    have hdq : T'.d q = false → r.1 = false := fun e => by
     rw [t2] at e
     cases x : r.1 with
     | true => rw [x, if_pos rfl] at e; unfold setB at e; rw [if_pos rfl] at e; cases e
     | false => rfl
    refine hR (300 - (i + 1)).toNat _ _ _ (by omega) ⟨i + 1, T', r.2.2, rfl, rfl, rfl, ⟨by omega, by omega⟩, hA2, by rw [show 1000 + (i + 1) = 1000 + i + 1 by omega]; exact g1, h.ext.keep' hK2 fun y hy => ?_, t3, t4, fun j j0 j1 => ⟨(h.each j j0 j1).1, fun hj => ?_⟩, h.apart, fun j j0 j1 hj => ?_⟩
    ·rcases List.mem_cons.1 hy with u | u
     ·rw [u]; exact a2
     ·exact hfr.all y u
    ·rw [t1]
     by_cases e : j = q
     ·subst e; rw [setP_same]; exact ⟨gp2, g2 (hdq hj)⟩
     ·rw [setP_ne e]
      obtain ⟨⟨b1, b2⟩, b3⟩ := h.each j j0 j1
      obtain ⟨b3, b4⟩ := b3 (hdd j hj)
      refine ⟨hK2.get b3 ?_, b4⟩
      simp only [List.mem_cons, not_or]
      exact ⟨h.apart j q j0 j1 q0 q1 e, b1⟩
    ·by_cases e : j = q
     ·subst e
      have p1 := t5 (hdq hj)
      have p2 := h.pot j j0 j1 hd
      have l := left3_me hq j0 j1 i0
      omega
     ·have p1 := t6 j j0 j1 e (hdd j hj)
      have p2 := h.pot j j0 j1 (hdd j hj)
      have l := left3_on (i := i) (q := j) (fun h1 x => e (x.trans (hq h1).symm)) j0 j1 i0
      omega
  have m3 : i.tmod 3 = i % 3 := Int.tmod_eq_emod_of_nonneg i0
  have go0 := go (i % 3) (by omega) (by omega) fun _ => rfl
  simp only [c, xRem (show (3 : Int) ≠ 0 by decide), m3, w_ab_j9, w_ab_j9b, hg.len, ruS, ruL, ruE, Nat.reduceAdd, reduceIte, Int.reduceLT, Int.reduceLE, Int.reduceEq, Int.reduceNeg, Int.reduceAdd, Int.reduceSub, Nat.reduceLeDiff, Nat.reduceLT]
  by_cases c1 : i < len1
  rotate_left
  ·simp only [c1, ruS, ruL, ruE, Nat.reduceAdd, reduceIte, Int.reduceLT, Int.reduceLE, Int.reduceEq, Int.reduceNeg, Int.reduceAdd, Int.reduceSub, Nat.reduceLeDiff, Nat.reduceLT]; exact go0
  by_cases c2 : i < 100
  rotate_left
  ·simp only [c1, c2, ruS, ruL, ruE, Nat.reduceAdd, reduceIte, Int.reduceLT, Int.reduceLE, Int.reduceEq, Int.reduceNeg, Int.reduceAdd, Int.reduceSub, Nat.reduceLeDiff, Nat.reduceLT]; exact go0
  simp only [c1, c2, ruS, ruL, ruE, Nat.reduceAdd, reduceIte, Int.reduceLT, Int.reduceLE, Int.reduceEq, Int.reduceNeg, Int.reduceAdd, Int.reduceSub, Nat.reduceLeDiff, Nat.reduceLT]
  rw [hg.ix i0 c1]
  obtain ⟨p1, p2, p3⟩ := pick3 (g1 i)
  simp only [xRem (show (3 : Int) ≠ 0 by decide), p1, ruS, ruL, ruE, Nat.reduceAdd, reduceIte, Int.reduceLT, Int.reduceLE, Int.reduceEq, Int.reduceNeg, Int.reduceAdd, Int.reduceSub, Nat.reduceLeDiff, Nat.reduceLT]
  exact go _ p2 p3 fun x => by omega
 -- three are made
 refine xLoop_r (fun x ts ls τ => ∃ (j : Int) (pp : Int → Nat), x = (3 - j).toNat ∧ ts = [s1, .int .i64 k, .int .i64 j] ∧ ls = [N.el C 0, r3 fun q => if q < j then .pointer (some ⟨pp q, 0, none⟩) else .pointer none, r3 fun _ => .bool false] ∧ (0 ≤ j ∧ j ≤ 3) ∧ isA N A τ ∧ Ext σ τ ∧ (∀ q, 0 ≤ q → q < j → τ.get (pp q) = some ⟨(Pl.new k).l, true⟩ ∧ pp q ∉ N.l ∧ σ.get (pp q) = none) ∧ ∀ q r, 0 ≤ q → q < j → 0 ≤ r → r < j → q ≠ r → pp q ≠ pp r) ?_ (n := 3)
  ⟨0, fun _ => 0, rfl, rfl, by rw [r3_congr (P := fun q => if q < 0 then _ else _) (Q := fun _ => .pointer none) fun q q0 q1 => if_neg (by omega)], ⟨Int.le_refl 0, by decide⟩, hA, hE, fun q q0 q1 => by omega, fun q r q0 q1 => by omega⟩
 rintro x ts ls τ1 ⟨j, pp, rfl, rfl, rfl, ⟨j0, j3⟩, hA1, hE1, hpp, hap⟩ R hR
 simp only [w_law07_PlaceLeaves_l8, w_law07_PlaceLeaves_l8b, ruS, ruL, ruE, Nat.reduceAdd, reduceIte, Int.reduceLT, Int.reduceLE, Int.reduceEq, Int.reduceNeg, Int.reduceAdd, Int.reduceSub, Nat.reduceLeDiff, Nat.reduceLT]
 by_cases c : j < 3
 rotate_left
 ·have e3 : j = 3 := by omega
  subst e3
  simp only [c, ruS, ruL, ruE, Nat.reduceAdd, reduceIte, Int.reduceLT, Int.reduceLE, Int.reduceEq, Int.reduceNeg, Int.reduceAdd, Int.reduceSub, Nat.reduceLeDiff, Nat.reduceLT]
  rw [r3_congr (P := fun q => if q < 3 then _ else _) (Q := fun q => .pointer (some ⟨pp q, 0, none⟩)) fun q q0 q1 => if_pos q1]
  refine run pp A τ1 ⟨hA1, by simpa using hP, hE1, hw0 k hk.1 hk.2, Tri.new_ok, fun q q0 q1 => ⟨(hpp q q0 q1).2, fun _ => ⟨(hpp q q0 q1).1, Pl.new_fit hC hk.1 hk.2⟩⟩, fun q r q0 q1 r0 r1 ne => hap q r q0 q1 r0 r1 ne, fun q q0 q1 _ => ?_⟩
  rw [Tri.pot0 rfl]
  unfold left3
  rw [if_pos (by decide)]
  show (3 : Int) + 3 * (2 - 0) + 16 * (3 - 0) ≤ 57
  decide
 simp only [c, ruS, ruL, ruE, Nat.reduceAdd, reduceIte, Int.reduceLT, Int.reduceLE, Int.reduceEq, Int.reduceNeg, Int.reduceAdd, Int.reduceSub, Nat.reduceLeDiff, Nat.reduceLT]
 refine c_PlaceNew fun id τ2 hid gid x2 => ?_
 have s8 := r3_set (P := fun q => if q < j then .pointer (some ⟨pp q, 0, none⟩) else .pointer none) (x := .pointer (some ⟨id, 0, none⟩)) (q := 8) j0 c rfl rfl
 have e8 : r3 (updV (fun q => if q < j then .pointer (some ⟨pp q, 0, none⟩) else .pointer none) j (.pointer (some ⟨id, 0, none⟩))) = r3 fun q => if q < j + 1 then .pointer (some ⟨(if q = j then id else pp q), 0, none⟩) else .pointer none := r3_congr fun q q0 q1 => by
  unfold updV
  by_cases e : q = j
  ·rw [if_pos e, if_pos (by omega), if_pos e]
  ·rw [if_neg e, if_neg e]
   dsimp only
   by_cases e2 : q < j
   ·rw [if_pos e2, if_pos (by omega)]
   ·rw [if_neg e2, if_neg (by omega)]
 simp only [xIxA j0 (show j < (3 : Nat) by omega), Nat.zero_add, s8, e8, ruS, ruL, ruE, Nat.reduceAdd, reduceIte, Int.reduceLT, Int.reduceLE, Int.reduceEq, Int.reduceNeg, Int.reduceAdd, Int.reduceSub, Nat.reduceLeDiff, Nat.reduceLT]
 rw [IntWalk.i64_in (j + 1) (by omega)]
 refine hR (3 - (j + 1)).toNat _ _ _ (by omega) ⟨j + 1, fun q => if q = j then id else pp q, rfl, rfl, rfl, ⟨by omega, by omega⟩, hA1.ext x2, hE1.trans x2, fun q q0 q1 => ?_, fun q r q0 q1 r0 r1 ne => ?_⟩
 ·dsimp only
  by_cases e : q = j
  ·rw [if_pos e]; exact ⟨gid, hA1.new hid, hE1.none hid⟩
  ·rw [if_neg e]
   have := hpp q q0 (by omega)
   exact ⟨x2 _ _ this.1, this.2⟩
 ·dsimp only
  have nid : ∀ q, 0 ≤ q → q < j → pp q ≠ id := fun q q0 q1 e => by have := (hpp q q0 q1).1; rw [e, hid] at this; cases this
  by_cases e : q = j
  ·rw [if_pos e, if_neg (by omega)]; exact (nid r r0 (by omega)).symm
  ·rw [if_neg e]
   by_cases e2 : r = j
   ·rw [if_pos e2]; exact nid q q0 (by omega)
   ·rw [if_neg e2]; exact hap q r q0 (by omega) r0 (by omega) ne
end Go.Fl
