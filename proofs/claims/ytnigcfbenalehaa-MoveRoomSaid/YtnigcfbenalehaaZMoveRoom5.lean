/- What the claim leans on, part 5: own readings of the program's functions, what they come to, laws of them. No condition. -/
import Derived.Test.YtnigcfbenalehaaZMoveRoom4
namespace Go.Fl
open Go
set_option linter.unusedVariables false
set_option linter.unusedSimpArgs false
variable {N : Nm} {A B : Ar} {σ : Mem} {K : Value → Mem → Prop} {C : Cf} {who : Int}
theorem c_Mv0 (hN : N.ok) (hC : C.ok) (hA : isA N A σ) {p : Nat} {a : Mo} (hp : σ.get p = some ⟨a.l, true⟩) (hd : p ∉ N.l) (h : a.pc = 0) (hn : C.len ≤ A.n) (hw : ∀ i, 0 ≤ A.w i ∧ A.w i < 18446744073709551616) (h2 : 0 ≤ a.hs ∧ a.hs < C.S) (hcl : 0 ≤ classOf a.hz)
    (k1 : ∀ e, (slS (A.w (C.slot a.hs)) = 4 ∧ slG (A.w (C.slot a.hs)) = a.hg ∧ slA (A.w (C.slot a.hs)) = a.addr) ∧ e = 3 ∨ ¬ (slS (A.w (C.slot a.hs)) = 4 ∧ slG (A.w (C.slot a.hs)) = a.hg ∧ slA (A.w (C.slot a.hs)) = a.addr) ∧ ((slS (A.w (C.slot a.hs)) ≠ 1 ∨ slG (A.w (C.slot a.hs)) ≠ a.hg ∨ slA (A.w (C.slot a.hs)) ≠ a.addr) ∧ e = 2 ∨
        ¬ (slS (A.w (C.slot a.hs)) ≠ 1 ∨ slG (A.w (C.slot a.hs)) ≠ a.hg ∨ slA (A.w (C.slot a.hs)) ≠ a.addr) ∧ 4194302 ≤ slV (A.w (C.slot a.hs)) ∧ e = 3) → ∀ τ, isA N ((A.by who).load (C.slot a.hs)) τ → τ.get p = some ⟨(({ a with w := A.w (C.slot a.hs) } : Mo).endm e).l, true⟩ → Keep (p :: N.l) σ τ → K (.bool (!a.got)) τ)
    (k2 : ¬ (slS (A.w (C.slot a.hs)) ≠ 1 ∨ slG (A.w (C.slot a.hs)) ≠ a.hg ∨ slA (A.w (C.slot a.hs)) ≠ a.addr) → ¬ 4194302 ≤ slV (A.w (C.slot a.hs)) → a.got = true → ∀ τ, isA N ((A.by who).load (C.slot a.hs)) τ → τ.get p = some ⟨({ a with w := A.w (C.slot a.hs), pc := 3 } : Mo).l, true⟩ → Keep (p :: N.l) σ τ → K (.bool false) τ)
    (k3 : ¬ (slS (A.w (C.slot a.hs)) ≠ 1 ∨ slG (A.w (C.slot a.hs)) ≠ a.hg ∨ slA (A.w (C.slot a.hs)) ≠ a.addr) → ¬ 4194302 ≤ slV (A.w (C.slot a.hs)) → a.got = false → ∀ q τ, σ.get q = none → q ≠ p → isA N ((A.by who).load (C.slot a.hs)) τ → τ.get p = some ⟨({ a with w := A.w (C.slot a.hs), pc := 1, p := some q } : Mo).l, true⟩ → τ.get q = some ⟨(Pl.new (classOf a.hz)).l, true⟩ → Keep (p :: N.l) σ τ → K (.bool false) τ) :
    s_b5 [.pointer (some ⟨p, 0, none⟩), N.env C who] K σ := by
  have hT := hC.T; have hS := hC.S; have hC3 := hC.C; have hl := len_bd hC
  have hch : C.chunk C.C = 6 + C.T + 2 * C.S + 3 * C.C := rfl
  have hsb : 0 ≤ C.slot a.hs ∧ C.slot a.hs < A.n := by unfold Cf.slot; omega
  have g4 : ∀ {k : Nat} {x y z w : Int}, gStore 4 [.pointer (some ⟨k, 0, some 0⟩), .agg #[.int .i64 x, .int .i64 y, .int .i64 z, .int .i64 w]] [.int .i64 0, .int .i64 0, .int .i64 0, .int .i64 0] = some [.int .i64 x, .int .i64 y, .int .i64 z, .int .i64 w] := fun {_ _ _ _ _} => rfl
  have hW := hw (C.slot a.hs)
  rw [hA.obj hp]
  simp only [s_b5, w_b5, lM6 hd, h, s_ca, w_ca, ruS, ruL, ruE, Nat.reduceAdd, reduceIte, Int.reduceLT, Int.reduceLE, Int.reduceEq, Int.reduceNeg, Int.reduceAdd, Int.reduceSub, Nat.reduceLeDiff, Nat.reduceLT]
  rw [c_Mslot hC hd h2, c_Load hN hsb.1 hsb.2]
  generalize hWe : A.w (C.slot a.hs) = W at *
  simp only [sM7 hd, lM7 hd, ruS, ruL, ruE, Nat.reduceAdd, reduceIte, Int.reduceLT, Int.reduceLE, Int.reduceEq, Int.reduceNeg, Int.reduceAdd, Int.reduceSub, Nat.reduceLeDiff, Nat.reduceLT]
  rw [c_wSlot hW.1 hW.2]
  -- it ends
  have fin : ∀ e (K' : Value → Mem → Prop), (∀ v τ, K' v τ = K v τ) → ((slS W = 4 ∧ slG W = a.hg ∧ slA W = a.addr) ∧ e = 3 ∨ ¬ (slS W = 4 ∧ slG W = a.hg ∧ slA W = a.addr) ∧ ((slS W ≠ 1 ∨ slG W ≠ a.hg ∨ slA W ≠ a.addr) ∧ e = 2 ∨ ¬ (slS W ≠ 1 ∨ slG W ≠ a.hg ∨ slA W ≠ a.addr) ∧ 4194302 ≤ slV W ∧ e = 3)) →
      s_b9 [.pointer (some ⟨p, 0, none⟩), .int .i64 e] K' (putA N ((A.by who).load (C.slot a.hs)) (σ.set p ⟨({ a with w := W } : Mo).l, true⟩)) := by
    intro e K' hK hc
    rw [c_Mend (a := { a with w := W }) hd, hK]
    exact behind hN hd (k1 e hc)
  -- the second look
  have j3 : ¬ (slS W = 4 ∧ slG W = a.hg ∧ slA W = a.addr) → ∀ b : Bool, (b = true ↔ (slS W ≠ 1 ∨ slG W ≠ a.hg ∨ slA W ≠ a.addr)) → w_ca_j3 K (w_ca_j1 K) [.pointer (some ⟨p, 0, none⟩), .bool b] [[.int .i64 (slS W), .int .i64 (slA W), .int .i64 (slG W), .int .i64 (slV W)]] (putA N ((A.by who).load (C.slot a.hs)) (σ.set p ⟨({ a with w := W } : Mo).l, true⟩)) := by
    intro n1 b hb
    simp only [w_ca_j3, w_ca_j3b, ruS, ruL, ruE, Nat.reduceAdd, reduceIte, Int.reduceLT, Int.reduceLE, Int.reduceEq, Int.reduceNeg, Int.reduceAdd, Int.reduceSub, Nat.reduceLeDiff, Nat.reduceLT]
    cases b with
    | true =>
      simp only [ruS, ruL, ruE, Nat.reduceAdd, reduceIte, Int.reduceLT, Int.reduceLE, Int.reduceEq, Int.reduceNeg, Int.reduceAdd, Int.reduceSub, Nat.reduceLeDiff, Nat.reduceLT]
      exact fin 2 _ (fun _ _ => rfl) (.inr ⟨n1, .inl ⟨hb.1 rfl, rfl⟩⟩)
    | false =>
      have n2 : ¬ (slS W ≠ 1 ∨ slG W ≠ a.hg ∨ slA W ≠ a.addr) := fun q => by have := hb.2 q; cases this
      by_cases c3 : 4194302 ≤ slV W
      · simp only [c3, ruS, ruL, ruE, Nat.reduceAdd, reduceIte, Int.reduceLT, Int.reduceLE, Int.reduceEq, Int.reduceNeg, Int.reduceAdd, Int.reduceSub, Nat.reduceLeDiff, Nat.reduceLT]
        exact fin 3 _ (fun _ _ => rfl) (.inr ⟨n1, .inr ⟨n2, c3, rfl⟩⟩)
      · cases e : a.got with
        | true =>
          simp only [c3, lM11 hd, e, sM6 hd, w_ca_j1, w_ca_j1b, ruS, ruL, ruE, Nat.reduceAdd, reduceIte, Int.reduceLT, Int.reduceLE, Int.reduceEq, Int.reduceNeg, Int.reduceAdd, Int.reduceSub, Nat.reduceLeDiff, Nat.reduceLT]
          have := k2 n2 c3 e
          obtain ⟨addr, hk, hz, hs, hg, ho, pc, w, p', sa, sc, got, i, cell, nn, out⟩ := a
          dsimp only at *
          subst e
          exact behind hN hd this
        | false =>
          have k3' := k3 n2 c3 e
          obtain ⟨addr, hk, hz, hs, hg, ho, pc, w, p', sa, sc, got, i, cell, nn, out⟩ := a
          dsimp only at *
          subst e
          simp only [c3, lM11 hd, lM2 hd, ruS, ruL, ruE, Nat.reduceAdd, reduceIte, Int.reduceLT, Int.reduceLE, Int.reduceEq, Int.reduceNeg, Int.reduceAdd, Int.reduceSub, Nat.reduceLeDiff, Nat.reduceLT]
          refine c_Class ?_
          refine behind (K := fun _ σ => s_ce [.int .i64 (classOf hz)] _ σ) (v := undef) hN hd fun υ u1 u2 u3 => ?_
          refine c_PlaceNew fun id ω hid gid x => ?_
          have hx1 := u1.ext x
          have hx2 := x _ _ u2
          have ip : id ≠ p := by rintro rfl; rw [u2] at hid; cases hid
          have inn := u1.new hid
          have ids : σ.get id = none := by
            cases e : σ.get id with
            | none => rfl
            | some b => rw [u3 id b e (by simp only [List.mem_cons, not_or]; exact ⟨ip, inn⟩)] at hid; cases hid
          rw [hx1.obj hx2]
          simp only [sM8 hd, sM6 hd, w_ca_j1, w_ca_j1b, ruS, ruL, ruE, Nat.reduceAdd, reduceIte, Int.reduceLT, Int.reduceLE, Int.reduceEq, Int.reduceNeg, Int.reduceAdd, Int.reduceSub, Nat.reduceLeDiff, Nat.reduceLT]
          refine behind hN hd fun ρ r1 r2 r3 => k3' id ρ ids ip r1 r2 ?_ ((u3.trans x.keep).trans r3)
          exact r3 id _ gid (by simp only [List.mem_cons, not_or]; exact ⟨ip, inn⟩)
  have j2f : ¬ (slS W = 4 ∧ slG W = a.hg ∧ slA W = a.addr) → w_ca_j2 K (w_ca_j1 K) [.pointer (some ⟨p, 0, none⟩), .bool false] [[.int .i64 (slS W), .int .i64 (slA W), .int .i64 (slG W), .int .i64 (slV W)]] (putA N ((A.by who).load (C.slot a.hs)) (σ.set p ⟨({ a with w := W } : Mo).l, true⟩)) := by
    intro n1
    simp only [w_ca_j2, w_ca_j2b, ruS, ruL, ruE, Nat.reduceAdd, reduceIte, Int.reduceLT, Int.reduceLE, Int.reduceEq, Int.reduceNeg, Int.reduceAdd, Int.reduceSub, Nat.reduceLeDiff, Nat.reduceLT]
    by_cases s1 : slS W = 1
    · by_cases s2 : slG W = a.hg
      · by_cases s3 : slA W = a.addr
        · simp only [s1, s2, s3, lM4 hd, lM0 hd, ne_eq, not_true_eq_false, ruS, ruL, ruE, Nat.reduceAdd, reduceIte, Int.reduceLT, Int.reduceLE, Int.reduceEq, Int.reduceNeg, Int.reduceAdd, Int.reduceSub, Nat.reduceLeDiff, Nat.reduceLT]
          have := j3 n1 false ⟨fun q => (by cases q), fun q => by rcases q with q | q | q <;> exact absurd (by assumption) q⟩
          simpa only [s1, s2, s3] using this
        · simp only [s1, s2, s3, lM4 hd, lM0 hd, ne_eq, not_true_eq_false, not_false_eq_true, ruS, ruL, ruE, Nat.reduceAdd, reduceIte, Int.reduceLT, Int.reduceLE, Int.reduceEq, Int.reduceNeg, Int.reduceAdd, Int.reduceSub, Nat.reduceLeDiff, Nat.reduceLT]
          have := j3 n1 true ⟨fun _ => .inr (.inr s3), fun _ => rfl⟩
          simpa only [s1, s2, s3] using this
      · simp only [s1, s2, lM4 hd, ne_eq, not_true_eq_false, not_false_eq_true, ruS, ruL, ruE, Nat.reduceAdd, reduceIte, Int.reduceLT, Int.reduceLE, Int.reduceEq, Int.reduceNeg, Int.reduceAdd, Int.reduceSub, Nat.reduceLeDiff, Nat.reduceLT]
        have := j3 n1 true ⟨fun _ => .inr (.inl s2), fun _ => rfl⟩
        simpa only [s1, s2] using this
    · simp only [s1, ne_eq, not_false_eq_true, ruS, ruL, ruE, Nat.reduceAdd, reduceIte, Int.reduceLT, Int.reduceLE, Int.reduceEq, Int.reduceNeg, Int.reduceAdd, Int.reduceSub, Nat.reduceLeDiff, Nat.reduceLT]
      exact j3 n1 true ⟨fun _ => .inl s1, fun _ => rfl⟩
  by_cases s1 : slS W = 4
  · by_cases s2 : slG W = a.hg
    · by_cases s3 : slA W = a.addr
      · simp only [g4, s1, s2, s3, lM4 hd, lM0 hd, w_ca_j2, w_ca_j2b, ruS, ruL, ruE, Nat.reduceAdd, reduceIte, Int.reduceLT, Int.reduceLE, Int.reduceEq, Int.reduceNeg, Int.reduceAdd, Int.reduceSub, Nat.reduceLeDiff, Nat.reduceLT]
        exact fin 3 _ (fun _ _ => rfl) (.inl ⟨⟨s1, s2, s3⟩, rfl⟩)
      · simp only [g4, s1, s2, s3, lM4 hd, lM0 hd, ruS, ruL, ruE, Nat.reduceAdd, reduceIte, Int.reduceLT, Int.reduceLE, Int.reduceEq, Int.reduceNeg, Int.reduceAdd, Int.reduceSub, Nat.reduceLeDiff, Nat.reduceLT]
        have := j2f (fun q => s3 q.2.2)
        simpa only [s1, s2, s3] using this
    · simp only [g4, s1, s2, lM4 hd, ruS, ruL, ruE, Nat.reduceAdd, reduceIte, Int.reduceLT, Int.reduceLE, Int.reduceEq, Int.reduceNeg, Int.reduceAdd, Int.reduceSub, Nat.reduceLeDiff, Nat.reduceLT]
      have := j2f (fun q => s2 q.2.1)
      simpa only [s1, s2] using this
  · simp only [g4, s1, ruS, ruL, ruE, Nat.reduceAdd, reduceIte, Int.reduceLT, Int.reduceLE, Int.reduceEq, Int.reduceNeg, Int.reduceAdd, Int.reduceSub, Nat.reduceLeDiff, Nat.reduceLT]
    exact j2f (fun q => s1 q.1)
theorem c_Mv7 (hN : N.ok) (hC : C.ok) (hA : isA N A σ) {p : Nat} {a : Mo} (hp : σ.get p = some ⟨a.l, true⟩) (hd : p ∉ N.l) (h : a.pc = 7) (hn : C.len ≤ A.n) (h2 : 0 ≤ a.hs ∧ a.hs < C.S) (h3 : 0 ≤ a.w ∧ a.w < 18446744073709551616) (hnn : 0 ≤ a.nn ∧ a.nn ≤ 65536)
    (k1 : A.w (C.slot a.hs) = a.as 2 a.addr 0 → ∀ τ, isA N ((A.by who).cas (C.slot a.hs) (a.as 2 a.addr 0) (a.as 1 a.sa 1)) τ → τ.get p = some ⟨({ a with pc := 8 } : Mo).l, true⟩ → Keep (p :: N.l) σ τ → K (.bool false) τ)
    (k2 : A.w (C.slot a.hs) ≠ a.as 2 a.addr 0 → C.R ≤ a.nn + 1 → ∀ τ, isA N ((A.by who).cas (C.slot a.hs) (a.as 2 a.addr 0) (a.as 1 a.sa 1)) τ → τ.get p = some ⟨(({ a with pc := 0, nn := a.nn + 1 } : Mo).endm 3).l, true⟩ → Keep (p :: N.l) σ τ → K (.bool (!a.got)) τ)
    (k3 : A.w (C.slot a.hs) ≠ a.as 2 a.addr 0 → ¬ C.R ≤ a.nn + 1 → ∀ τ, isA N ((A.by who).cas (C.slot a.hs) (a.as 2 a.addr 0) (a.as 1 a.sa 1)) τ → τ.get p = some ⟨({ a with pc := 0, nn := a.nn + 1 } : Mo).l, true⟩ → Keep (p :: N.l) σ τ → K (.bool false) τ) :
    s_b5 [.pointer (some ⟨p, 0, none⟩), N.env C who] K σ := by
  have hT := hC.T; have hS := hC.S; have hC3 := hC.C; have hl := len_bd hC
  have hch : C.chunk C.C = 6 + C.T + 2 * C.S + 3 * C.C := rfl
  have hsb : 0 ≤ C.slot a.hs ∧ C.slot a.hs < A.n := by unfold Cf.slot; omega
  rw [hA.obj hp]
  simp only [s_b5, w_b5, lM6 hd, h, s_cb, w_cb, ruS, ruL, ruE, Nat.reduceAdd, reduceIte, Int.reduceLT, Int.reduceLE, Int.reduceEq, Int.reduceNeg, Int.reduceAdd, Int.reduceSub, Nat.reduceLeDiff, Nat.reduceLT]
  rw [c_Mslot hC hd h2]
  simp only [lM0 hd, ruS, ruL, ruE, Nat.reduceAdd, reduceIte, Int.reduceLT, Int.reduceLE, Int.reduceEq, Int.reduceNeg, Int.reduceAdd, Int.reduceSub, Nat.reduceLeDiff, Nat.reduceLT]
  rw [c_Mas hd h3 (by decide)]
  simp only [lM9 hd, ruS, ruL, ruE, Nat.reduceAdd, reduceIte, Int.reduceLT, Int.reduceLE, Int.reduceEq, Int.reduceNeg, Int.reduceAdd, Int.reduceSub, Nat.reduceLeDiff, Nat.reduceLT]
  rw [c_Mas hd h3 (by decide), c_Cas hN hsb.1 hsb.2]
  by_cases c : A.w (C.slot a.hs) = a.as 2 a.addr 0
  · simp only [c, sM6 hd, ruS, ruL, ruE, Nat.reduceAdd, reduceIte, Int.reduceLT, Int.reduceLE, Int.reduceEq, Int.reduceNeg, Int.reduceAdd, Int.reduceSub, Nat.reduceLeDiff, Nat.reduceLT]
    exact behind hN hd (k1 c)
  · simp only [c, sM6 hd, lM14 hd, sM14 hd, ruS, ruL, ruE, Nat.reduceAdd, reduceIte, Int.reduceLT, Int.reduceLE, Int.reduceEq, Int.reduceNeg, Int.reduceAdd, Int.reduceSub, Nat.reduceLeDiff, Nat.reduceLT]
    rw [IntWalk.i64_in (a.nn + 1) (by omega)]
    by_cases c2 : C.R ≤ a.nn + 1
    · simp only [c2, ruS, ruL, ruE, Nat.reduceAdd, reduceIte, Int.reduceLT, Int.reduceLE, Int.reduceEq, Int.reduceNeg, Int.reduceAdd, Int.reduceSub, Nat.reduceLeDiff, Nat.reduceLT]
      rw [c_Mend (a := { a with pc := 0, nn := a.nn + 1 }) hd]
      exact behind hN hd (k2 c c2)
    · simp only [c2, ruS, ruL, ruE, Nat.reduceAdd, reduceIte, Int.reduceLT, Int.reduceLE, Int.reduceEq, Int.reduceNeg, Int.reduceAdd, Int.reduceSub, Nat.reduceLeDiff, Nat.reduceLT]
      exact behind hN hd (k3 c c2)
theorem c_Mv8 (hN : N.ok) (hC : C.ok) (hA : isA N A σ) {p : Nat} {a : Mo} (hp : σ.get p = some ⟨a.l, true⟩) (hd : p ∉ N.l) (h : a.pc = 8) (h1 : 0 ≤ a.sa ∧ a.sa < A.n) (hcl : 0 ≤ classOf a.hz)
    (hk : ∀ τ, isA N ((A.by who).store a.sa (a.hd 2)) τ → τ.get p = some ⟨({ a with pc := 9 } : Mo).l, true⟩ → Keep (p :: N.l) σ τ → K (.bool false) τ) : s_b5 [.pointer (some ⟨p, 0, none⟩), N.env C who] K σ := by
  have hc3 := (class_bd a.hz).2
  rw [hA.obj hp]
  simp only [s_b5, w_b5, lM6 hd, h, s_b7, w_b7, lM2 hd, ruS, ruL, ruE, Nat.reduceAdd, reduceIte, Int.reduceLT, Int.reduceLE, Int.reduceEq, Int.reduceNeg, Int.reduceAdd, Int.reduceSub, Nat.reduceLeDiff, Nat.reduceLT]
  refine c_Class ?_
  rw [c_Room hcl hc3]
  simp only [lM6 hd, h, lM9 hd, c_Mcopied hd, c_Store hN h1.1 h1.2, sM6 hd, w_b7_j1, w_b7_j1b, ruS, ruL, ruE, Nat.reduceAdd, reduceIte, Int.reduceLT, Int.reduceLE, Int.reduceEq, Int.reduceNeg, Int.reduceAdd, Int.reduceSub, Nat.reduceLeDiff, Nat.reduceLT]
  exact behind hN hd hk
theorem c_Mv11 (hN : N.ok) (hC : C.ok) (hA : isA N A σ) {p : Nat} {a : Mo} (hp : σ.get p = some ⟨a.l, true⟩) (hd : p ∉ N.l) (h : a.pc = 11) (h1 : 0 ≤ a.sa ∧ a.sa < A.n) (hcl : 0 ≤ classOf a.hz)
    (hk : ∀ τ, isA N ((A.by who).store a.sa (a.hd 3)) τ → τ.get p = some ⟨a.l, true⟩ → Keep (p :: N.l) σ τ → K (.bool true) τ) : s_b5 [.pointer (some ⟨p, 0, none⟩), N.env C who] K σ := by
  have hc3 := (class_bd a.hz).2
  rw [hA.obj hp]
  simp only [s_b5, w_b5, lM6 hd, h, s_b7, w_b7, lM2 hd, ruS, ruL, ruE, Nat.reduceAdd, reduceIte, Int.reduceLT, Int.reduceLE, Int.reduceEq, Int.reduceNeg, Int.reduceAdd, Int.reduceSub, Nat.reduceLeDiff, Nat.reduceLT]
  refine c_Class ?_
  rw [c_Room hcl hc3]
  simp only [lM6 hd, h, lM9 hd, c_Mcopied hd, c_Store hN h1.1 h1.2, ruS, ruL, ruE, Nat.reduceAdd, reduceIte, Int.reduceLT, Int.reduceLE, Int.reduceEq, Int.reduceNeg, Int.reduceAdd, Int.reduceSub, Nat.reduceLeDiff, Nat.reduceLT]
  exact behind hN hd hk
theorem c_Mv9 (hN : N.ok) (hC : C.ok) (hA : isA N A σ) {p : Nat} {a : Mo} (hp : σ.get p = some ⟨a.l, true⟩) (hd : p ∉ N.l) (h : a.pc = 9) (hn : C.len ≤ A.n) (h1 : 0 ≤ a.sc ∧ a.sc < C.C) (hcl : 0 ≤ classOf a.hz)
    (hk : ∀ τ, isA N ((A.by who).add (C.chunk a.sc + 1) (IntKind.u64.wrap (roomOf (classOf a.hz)))) τ → τ.get p = some ⟨({ a with pc := 10 } : Mo).l, true⟩ → Keep (p :: N.l) σ τ → K (.bool false) τ) : s_b5 [.pointer (some ⟨p, 0, none⟩), N.env C who] K σ := by
  have hc3 := (class_bd a.hz).2
  have hT := hC.T; have hS := hC.S; have hC3 := hC.C; have hl := len_bd hC
  have hch : C.chunk C.C = 6 + C.T + 2 * C.S + 3 * C.C := rfl
  have hcj : C.chunk a.sc = 6 + C.T + 2 * C.S + 3 * a.sc := rfl
  rw [hA.obj hp]
  simp only [s_b5, w_b5, lM6 hd, h, s_b7, w_b7, lM2 hd, ruS, ruL, ruE, Nat.reduceAdd, reduceIte, Int.reduceLT, Int.reduceLE, Int.reduceEq, Int.reduceNeg, Int.reduceAdd, Int.reduceSub, Nat.reduceLeDiff, Nat.reduceLT]
  refine c_Class ?_
  rw [c_Room hcl hc3]
  simp only [lM6 hd, h, lM10 hd, ruS, ruL, ruE, Nat.reduceAdd, reduceIte, Int.reduceLT, Int.reduceLE, Int.reduceEq, Int.reduceNeg, Int.reduceAdd, Int.reduceSub, Nat.reduceLeDiff, Nat.reduceLT]
  rw [c_Chunk hC h1.1 (by omega)]
  simp only [ruS, ruL, ruE, Nat.reduceAdd, reduceIte, Int.reduceLT, Int.reduceLE, Int.reduceEq, Int.reduceNeg, Int.reduceAdd, Int.reduceSub, Nat.reduceLeDiff, Nat.reduceLT]
  rw [IntWalk.i64_in (C.chunk a.sc + 1) (by omega), c_Add hN (by omega) (by omega)]
  simp only [sM6 hd, w_b7_j1, w_b7_j1b, ruS, ruL, ruE, Nat.reduceAdd, reduceIte, Int.reduceLT, Int.reduceLE, Int.reduceEq, Int.reduceNeg, Int.reduceAdd, Int.reduceSub, Nat.reduceLeDiff, Nat.reduceLT]
  exact behind hN hd hk
theorem c_Mv10 (hN : N.ok) (hC : C.ok) (hA : isA N A σ) {p : Nat} {a : Mo} (hp : σ.get p = some ⟨a.l, true⟩) (hd : p ∉ N.l) (h : a.pc = 10) (hn : C.len ≤ A.n) (h1 : a.addr < 9223372036854775808 ∧ 0 ≤ ofC C a.addr ∧ ofC C a.addr < C.C) (hcl : 0 ≤ classOf a.hz)
    (hk : ∀ τ, isA N ((A.by who).add (C.chunk (ofC C a.addr) + 1) (IntKind.u64.wrap (-roomOf (classOf a.hz)))) τ → τ.get p = some ⟨({ a with out := 1 } : Mo).l, true⟩ → Keep (p :: N.l) σ τ → K (.bool true) τ) : s_b5 [.pointer (some ⟨p, 0, none⟩), N.env C who] K σ := by
  have hc3 := (class_bd a.hz).2
  have hr := room_bd hcl hc3
  have hT := hC.T; have hS := hC.S; have hC3 := hC.C; have hl := len_bd hC
  have hch : C.chunk C.C = 6 + C.T + 2 * C.S + 3 * C.C := rfl
  have hcj : C.chunk (ofC C a.addr) = 6 + C.T + 2 * C.S + 3 * ofC C a.addr := rfl
  rw [hA.obj hp]
  simp only [s_b5, w_b5, lM6 hd, h, s_b7, w_b7, lM2 hd, ruS, ruL, ruE, Nat.reduceAdd, reduceIte, Int.reduceLT, Int.reduceLE, Int.reduceEq, Int.reduceNeg, Int.reduceAdd, Int.reduceSub, Nat.reduceLeDiff, Nat.reduceLT]
  refine c_Class ?_
  rw [c_Room hcl hc3]
  simp only [lM6 hd, h, lM0 hd, ruS, ruL, ruE, Nat.reduceAdd, reduceIte, Int.reduceLT, Int.reduceLE, Int.reduceEq, Int.reduceNeg, Int.reduceAdd, Int.reduceSub, Nat.reduceLeDiff, Nat.reduceLT]
  rw [c_Of hC h1.1]
  simp only [xMove, c_Chunk hC h1.2.1 (show ofC C a.addr ≤ 65536 by omega)]
  simp only [ruS, ruL, ruE, Nat.reduceAdd, reduceIte, Int.reduceLT, Int.reduceLE, Int.reduceEq, Int.reduceNeg, Int.reduceAdd, Int.reduceSub, Nat.reduceLeDiff, Nat.reduceLT]
  rw [IntWalk.i64_in (C.chunk (ofC C a.addr) + 1) (by omega), xNeg]
  rw [IntWalk.i64_in (-roomOf (classOf a.hz)) (by omega), c_Add hN (by omega) (by omega)]
  simp only [sM15 hd, ruS, ruL, ruE, Nat.reduceAdd, reduceIte, Int.reduceLT, Int.reduceLE, Int.reduceEq, Int.reduceNeg, Int.reduceAdd, Int.reduceSub, Nat.reduceLeDiff, Nat.reduceLT]
  exact behind hN hd hk
theorem c_Mv1 (hN : N.ok) (hC : C.ok) (hA : isA N A σ) {p q : Nat} {a : Mo} {t : Pl} (hp : σ.get p = some ⟨a.l, true⟩) (hd : p ∉ N.l) (hq : σ.get q = some ⟨[] ++ t.l ++ [], true⟩) (hqd : q ∉ N.l) (hqp : q ≠ p)
    (hw : ∀ i, 0 ≤ A.w i ∧ A.w i < 18446744073709551616) (hn : C.len ≤ A.n) (h : a.pc = 1) (ha : a.p = some q) (hf : t.fit C) (ho : A.w (2 + t.cls) ≤ C.C)
    (k0 : (t.step C who A).1 = false → ∀ τ, isA N (t.step C who A).2.2 τ → τ.get p = some ⟨a.l, true⟩ → τ.get q = some ⟨[] ++ (t.step C who A).2.1.l ++ [], true⟩ → Keep (q :: p :: N.l) σ τ → K (.bool false) τ)
    (k1 : (t.step C who A).1 = true → (t.step C who A).2.1.ok = true → ∀ τ, isA N (t.step C who A).2.2 τ → τ.get p = some ⟨({ a with sa := (t.step C who A).2.1.sa, sc := (t.step C who A).2.1.sc, got := true, pc := 2 } : Mo).l, true⟩ → Keep (q :: p :: N.l) σ τ → K (.bool false) τ)
    (k2 : (t.step C who A).1 = true → (t.step C who A).2.1.ok = false → ∀ τ, isA N (t.step C who A).2.2 τ → τ.get p = some ⟨(({ a with sa := 0, sc := 0, got := false, pc := 2 } : Mo).endm 4).l, true⟩ → Keep (q :: p :: N.l) σ τ → K (.bool true) τ) :
    s_b5 [.pointer (some ⟨p, 0, none⟩), N.env C who] K σ := by
  rw [hA.obj hp]
  simp only [s_b5, w_b5, lM6 hd, h, lM8 hd, ha, obP_s, ruS, ruL, ruE, Nat.reduceAdd, reduceIte, Int.reduceLT, Int.reduceLE, Int.reduceEq, Int.reduceNeg, Int.reduceAdd, Int.reduceSub, Nat.reduceLeDiff, Nat.reduceLT]
  rw [← hA.obj hp]
  refine c_Place_Step hN hC hA (t := t) (pre := []) (post := []) hq hqd hw hn hf ho fun τ hA' hq' hK => ?_
  generalize t.step C who A = r at *
  obtain ⟨d, t', A'⟩ := r
  dsimp only at *
  have hp' : τ.get p = some ⟨a.l, true⟩ := hK.get hp (by simp only [List.mem_cons, not_or]; exact ⟨fun e => hqp e.symm, hd⟩)
  have hK2 : Keep (q :: p :: N.l) σ τ := hK.mono (by intro i hi; rcases List.mem_cons.1 hi with rfl | hi <;> simp [*])
  have hpL : ∀ i ∈ p :: N.l, i ∈ q :: p :: N.l := fun i hi => List.mem_cons_of_mem _ hi
  cases d with
  | false =>
    simp only [w_b5_j1, w_b5_j1b, ruS, ruL, ruE, Nat.reduceAdd, reduceIte, Int.reduceLT, Int.reduceLE, Int.reduceEq, Int.reduceNeg, Int.reduceAdd, Int.reduceSub, Nat.reduceLeDiff, Nat.reduceLT]; exact k0 rfl τ hA' hp' hq' hK2
  | true =>
    simp only [ruS, ruL, ruE, Nat.reduceAdd, reduceIte, Int.reduceLT, Int.reduceLE, Int.reduceEq, Int.reduceNeg, Int.reduceAdd, Int.reduceSub, Nat.reduceLeDiff, Nat.reduceLT]
    rw [hA'.obj hp']
    simp only [lM8 hd, ha, obP_s]
    rw [← hA'.obj hp']
    refine c_Place_Spot hA' (pre := []) (post := []) hq' hqd ?_
    rw [hA'.obj hp']
    cases o : t'.ok with
    | true =>
      simp only [o, sM9 hd, sM11 hd, sM6 hd, lM11 hd, w_b5_j1, w_b5_j1b, ruS, ruL, ruE, Nat.reduceAdd, reduceIte, Int.reduceLT, Int.reduceLE, Int.reduceEq, Int.reduceNeg, Int.reduceAdd, Int.reduceSub, Nat.reduceLeDiff, Nat.reduceLT]
      exact behind hN hd fun υ u1 u2 u3 => k1 rfl o υ u1 u2 (hK2.trans (u3.mono hpL))
    | false =>
      simp only [o, sM9 hd, sM11 hd, sM6 hd, lM11 hd, ruS, ruL, ruE, Nat.reduceAdd, reduceIte, Int.reduceLT, Int.reduceLE, Int.reduceEq, Int.reduceNeg, Int.reduceAdd, Int.reduceSub, Nat.reduceLeDiff, Nat.reduceLT]
      rw [c_Mend (a := { a with sa := 0, sc := 0, got := false, pc := 2 }) hd]
      exact behind hN hd fun υ u1 u2 u3 => k2 rfl o υ u1 u2 (hK2.trans (u3.mono hpL))
end Go.Fl
namespace Go.Fl
open Go
set_option linter.unusedVariables false
set_option linter.unusedSimpArgs false
variable {N : Nm} {A B : Ar} {σ : Mem} {K : Value → Mem → Prop} {C : Cf} {who : Int}
def Mo.wp (a : Mo) (x : Option Nat) : Mo := { a with p := x }
structure MOb (N : Nm) (p : Nat) (O : List Nat) (m : Mv) (τ : Mem) : Prop where
  obj : ∃ x, τ.get p = some ⟨(m.a.wp x).l, true⟩ ∧ (m.a.pc = 1 → ∃ q, x = some q ∧ q ∈ O ∧ q ≠ p ∧ τ.get q = some ⟨[] ++ m.t.l ++ [], true⟩)
  own : ∀ i ∈ O, i ∉ N.l
  p : p ∈ O
theorem MOb.ext {p : Nat} {O : List Nat} {m : Mv} {τ : Mem} (h : MOb N p O m σ) (x : Ext σ τ) : MOb N p O m τ := by
  obtain ⟨⟨a, h1, h2⟩, h4, h5⟩ := h
  refine ⟨⟨a, x _ _ h1, fun e => ?_⟩, h4, h5⟩
  obtain ⟨q, q1, q2, q3, q4⟩ := h2 e; exact ⟨q, q1, q2, q3, x _ _ q4⟩
theorem MOb.keep {p : Nat} {O L : List Nat} {m : Mv} {τ : Mem} (h : MOb N p O m σ) (x : Keep L σ τ) (hL : ∀ i ∈ O, i ∉ L) : MOb N p O m τ := by
  obtain ⟨⟨a, h1, h2⟩, h4, h5⟩ := h
  refine ⟨⟨a, x.get h1 (hL p h5), fun e => ?_⟩, h4, h5⟩
  obtain ⟨q, q1, q2, q3, q4⟩ := h2 e; exact ⟨q, q1, q2, q3, x.get q4 (hL q q2)⟩
theorem MOb.out {p : Nat} {O : List Nat} {m : Mv} (h : MOb N p O m σ) : ∃ a : Mo, σ.get p = some ⟨a.l, true⟩ ∧ a.out = m.a.out ∧ a.got = m.a.got ∧ a.sa = m.a.sa ∧ a.sc = m.a.sc := by
  obtain ⟨⟨x, h1, _⟩, _⟩ := h; exact ⟨_, h1, rfl, rfl, rfl, rfl⟩
theorem endm_pc {a : Mo} {e : Int} (h : a.pc ≠ 1) : (a.endm e).pc ≠ 1 := by unfold Mo.endm; dsimp only; split <;> omega
theorem c_Mv_Step (hN : N.ok) (hC : C.ok) (hA : isA N A σ) {p : Nat} {O : List Nat} {m : Mv} (hO : MOb N p O m σ) (hw : ∀ i, 0 ≤ A.w i ∧ A.w i < 18446744073709551616) (hn : C.len ≤ A.n) (hf : m.fit C A)
    (hk : ∀ O' τ, (∀ i ∈ O', i ∈ O ∨ σ.get i = none) → isA N (m.step C who A).2.2 τ → MOb N p O' (m.step C who A).2.1 τ → Keep (O ++ N.l) σ τ → K (.bool (m.step C who A).1) τ) : s_b5 [.pointer (some ⟨p, 0, none⟩), N.env C who] K σ := by
  obtain ⟨⟨x, hp, h3⟩, own, pO⟩ := hO
  have hd := own p pO
  have k1 : ∀ {τ : Mem}, Keep (p :: N.l) σ τ → Keep (O ++ N.l) σ τ := fun k => k.mono fun i hi => by
    rcases List.mem_cons.1 hi with rfl | hi
    · exact List.mem_append_left _ pO
    · exact List.mem_append_right _ hi
  have same : ∀ i ∈ O, i ∈ O ∨ σ.get i = none := fun i hi => .inl hi
  have cons : ∀ {q : Nat}, σ.get q = none → ∀ i ∈ q :: O, i ∈ O ∨ σ.get i = none := fun h i hi => by rcases List.mem_cons.1 hi with rfl | hi; exact .inr h; exact .inl hi
  have ownc : ∀ {q : Nat}, q ∉ N.l → ∀ i ∈ q :: O, i ∉ N.l := fun h i hi => by rcases List.mem_cons.1 hi with rfl | hi; exact h; exact own i hi
  have hpc := hf.pc
  unfold Mv.step at hk
  by_cases c0 : m.a.pc = 0
  · simp only [if_pos c0] at hk
    refine c_Mv0 hN hC hA (a := m.a.wp x) hp hd c0 hn hw hf.hs hf.cl (fun e he τ u1 u2 u3 => ?_) (fun n1 n2 g τ u1 u2 u3 => ?_) (fun n1 n2 g q τ q1 q2 u1 u2 u3 u4 => ?_)
    · have np : (({ m.a with w := A.w (C.slot m.a.hs) } : Mo).endm e).pc ≠ 1 := endm_pc (by show m.a.pc ≠ 1; omega)
      rcases he with ⟨c, rfl⟩ | ⟨n, ⟨c, rfl⟩ | ⟨n2, c, rfl⟩⟩
      · rw [if_pos (show slS (A.w (C.slot m.a.hs)) = 4 ∧ slG (A.w (C.slot m.a.hs)) = m.a.hg ∧ slA (A.w (C.slot m.a.hs)) = m.a.addr from c)] at hk
        exact hk O τ same u1 ⟨⟨x, u2, fun q => absurd q np⟩, own, pO⟩ (k1 u3)
      · rw [if_neg (show ¬ (slS (A.w (C.slot m.a.hs)) = 4 ∧ slG (A.w (C.slot m.a.hs)) = m.a.hg ∧ slA (A.w (C.slot m.a.hs)) = m.a.addr) from n), if_pos (show slS (A.w (C.slot m.a.hs)) ≠ 1 ∨ slG (A.w (C.slot m.a.hs)) ≠ m.a.hg ∨ slA (A.w (C.slot m.a.hs)) ≠ m.a.addr from c)] at hk
        exact hk O τ same u1 ⟨⟨x, u2, fun q => absurd q np⟩, own, pO⟩ (k1 u3)
      · rw [if_neg (show ¬ (slS (A.w (C.slot m.a.hs)) = 4 ∧ slG (A.w (C.slot m.a.hs)) = m.a.hg ∧ slA (A.w (C.slot m.a.hs)) = m.a.addr) from n), if_neg (show ¬ (slS (A.w (C.slot m.a.hs)) ≠ 1 ∨ slG (A.w (C.slot m.a.hs)) ≠ m.a.hg ∨ slA (A.w (C.slot m.a.hs)) ≠ m.a.addr) from n2),
          if_pos (show 4194302 ≤ slV (A.w (C.slot m.a.hs)) from c)] at hk
        exact hk O τ same u1 ⟨⟨x, u2, fun q => absurd q np⟩, own, pO⟩ (k1 u3)
    · have n3 : ¬ (slS (A.w (C.slot m.a.hs)) = 4 ∧ slG (A.w (C.slot m.a.hs)) = m.a.hg ∧ slA (A.w (C.slot m.a.hs)) = m.a.addr) := fun q => n1 (.inl (by show slS (A.w (C.slot m.a.hs)) ≠ 1; omega))
      rw [if_neg n3, if_neg (show ¬ (slS (A.w (C.slot m.a.hs)) ≠ 1 ∨ slG (A.w (C.slot m.a.hs)) ≠ m.a.hg ∨ slA (A.w (C.slot m.a.hs)) ≠ m.a.addr) from n1), if_neg (show ¬ 4194302 ≤ slV (A.w (C.slot m.a.hs)) from n2), if_pos (show m.a.got = true from g)] at hk
      exact hk O τ same u1 ⟨⟨x, u2, fun q => by cases q⟩, own, pO⟩ (k1 u3)
    · have n3 : ¬ (slS (A.w (C.slot m.a.hs)) = 4 ∧ slG (A.w (C.slot m.a.hs)) = m.a.hg ∧ slA (A.w (C.slot m.a.hs)) = m.a.addr) := fun q => n1 (.inl (by show slS (A.w (C.slot m.a.hs)) ≠ 1; omega))
      rw [if_neg n3, if_neg (show ¬ (slS (A.w (C.slot m.a.hs)) ≠ 1 ∨ slG (A.w (C.slot m.a.hs)) ≠ m.a.hg ∨ slA (A.w (C.slot m.a.hs)) ≠ m.a.addr) from n1), if_neg (show ¬ 4194302 ≤ slV (A.w (C.slot m.a.hs)) from n2), if_neg (show ¬ m.a.got = true by rw [show m.a.got = false from g]; decide)] at hk
      exact hk (q :: O) τ (cons q1) u1 ⟨⟨some q, u2, fun _ => ⟨q, rfl, List.mem_cons_self .., q2, by rw [List.nil_append, List.append_nil]; exact u3⟩⟩, ownc (hA.new q1), List.mem_cons_of_mem _ pO⟩ (k1 u4)
  by_cases c1 : m.a.pc = 1
  · simp only [if_neg c0, if_pos c1] at hk
    obtain ⟨q, rfl, qO, qp, gq⟩ := h3 c1
    obtain ⟨f1, f2⟩ := hf.pl c1
    have k2 : ∀ {τ : Mem}, Keep (q :: p :: N.l) σ τ → Keep (O ++ N.l) σ τ := fun k => k.mono fun i hi => by
      rcases List.mem_cons.1 hi with rfl | hi
      · exact List.mem_append_left _ qO
      · rcases List.mem_cons.1 hi with rfl | hi
        · exact List.mem_append_left _ pO
        · exact List.mem_append_right _ hi
    refine c_Mv1 hN hC hA (a := m.a.wp (some q)) (t := m.t) hp hd gq (own q qO) qp hw hn c1 rfl f1 f2 (fun d τ u1 u2 u3 u4 => ?_) (fun d o τ u1 u2 u3 => ?_) (fun d o τ u1 u2 u3 => ?_)
    · rw [if_pos d] at hk
      exact hk O τ same u1 ⟨⟨some q, u2, fun _ => ⟨q, rfl, qO, qp, u3⟩⟩, own, pO⟩ (k2 u4)
    · rw [if_neg (by rw [d]; decide), if_pos o] at hk
      exact hk O τ same u1 ⟨⟨some q, u2, fun e => by cases e⟩, own, pO⟩ (k2 u3)
    · rw [if_neg (by rw [d]; decide), if_neg (by rw [o]; decide)] at hk
      exact hk O τ same u1 ⟨⟨some q, u2, fun e => absurd e (endm_pc (by decide : (2 : Int) ≠ 1))⟩, own, pO⟩ (k2 u3)
  by_cases c2 : m.a.pc = 2
  · simp only [if_neg c0, if_neg c1, if_pos c2] at hk
    exact c_Mv2 hN hA (a := m.a.wp x) hp hd c2 (hf.sa (.inl c2)) fun τ u1 u2 u3 => hk O τ same u1 ⟨⟨x, u2, fun e => by cases e⟩, own, pO⟩ (k1 u3)
  by_cases c3 : m.a.pc = 3
  · simp only [if_neg c0, if_neg c1, if_neg c2, if_pos c3] at hk
    exact c_Mv3 hN hC hA (a := m.a.wp x) hp hd c3 hn hf.hs hf.w fun τ u1 u2 u3 => hk O τ same u1 ⟨⟨x, u2, fun e => by dsimp only at e; split at e <;> cases e⟩, own, pO⟩ (k1 u3)
  by_cases c4 : m.a.pc = 4
  · simp only [if_neg c0, if_neg c1, if_neg c2, if_neg c3, if_pos c4] at hk
    exact c_Mv4 hN hA (a := m.a.wp x) hp hd c4 hw hf.n2 hf.w hf.i.1 (hf.at' (.inl c4)) fun τ u1 u2 u3 => hk O τ same u1 ⟨⟨x, u2, fun e => by dsimp only at e; split at e <;> cases e⟩, own, pO⟩ (k1 u3)
  by_cases c5 : m.a.pc = 5
  · simp only [if_neg c0, if_neg c1, if_neg c2, if_neg c3, if_neg c4, if_pos c5] at hk
    exact c_Mv5 hN hA (a := m.a.wp x) hp hd c5 hf.n2 hf.w hf.cell hf.i.1 (hf.at' (.inr c5)) fun τ u1 u2 u3 => hk O τ same u1 ⟨⟨x, u2, fun e => by dsimp only at e; split at e <;> cases e⟩, own, pO⟩ (k1 u3)
  by_cases c6 : m.a.pc = 6
  · simp only [if_neg c0, if_neg c1, if_neg c2, if_neg c3, if_neg c4, if_neg c5, if_pos c6] at hk
    exact c_Mv6 hN hA (a := m.a.wp x) hp hd c6 hf.n2 hf.cell hf.i (hf.c6 c6) fun τ u1 u2 u3 => hk O τ same u1 ⟨⟨x, u2, fun e => by dsimp only at e; split at e <;> cases e⟩, own, pO⟩ (k1 u3)
  by_cases c7 : m.a.pc = 7
  · simp only [if_neg c0, if_neg c1, if_neg c2, if_neg c3, if_neg c4, if_neg c5, if_neg c6, if_pos c7] at hk
    refine c_Mv7 hN hC hA (a := m.a.wp x) hp hd c7 hn hf.hs hf.w hf.nn (fun c τ u1 u2 u3 => ?_) (fun c d τ u1 u2 u3 => ?_) (fun c d τ u1 u2 u3 => ?_)
    · rw [if_pos (show A.w (C.slot m.a.hs) = m.a.as 2 m.a.addr 0 from c)] at hk
      exact hk O τ same u1 ⟨⟨x, u2, fun e => by cases e⟩, own, pO⟩ (k1 u3)
    · rw [if_neg (show ¬ A.w (C.slot m.a.hs) = m.a.as 2 m.a.addr 0 from c), if_pos (show C.R ≤ m.a.nn + 1 from d)] at hk
      exact hk O τ same u1 ⟨⟨x, u2, fun e => absurd e (endm_pc (by decide : (0 : Int) ≠ 1))⟩, own, pO⟩ (k1 u3)
    · rw [if_neg (show ¬ A.w (C.slot m.a.hs) = m.a.as 2 m.a.addr 0 from c), if_neg (show ¬ C.R ≤ m.a.nn + 1 from d)] at hk
      exact hk O τ same u1 ⟨⟨x, u2, fun e => by cases e⟩, own, pO⟩ (k1 u3)
  by_cases c8 : m.a.pc = 8
  · simp only [if_neg c0, if_neg c1, if_neg c2, if_neg c3, if_neg c4, if_neg c5, if_neg c6, if_neg c7, if_pos c8] at hk
    exact c_Mv8 hN hC hA (a := m.a.wp x) hp hd c8 (hf.sa (.inr (.inl c8))) hf.cl fun τ u1 u2 u3 => hk O τ same u1 ⟨⟨x, u2, fun e => by cases e⟩, own, pO⟩ (k1 u3)
  by_cases c9 : m.a.pc = 9
  · simp only [if_neg c0, if_neg c1, if_neg c2, if_neg c3, if_neg c4, if_neg c5, if_neg c6, if_neg c7, if_neg c8, if_pos c9] at hk
    exact c_Mv9 hN hC hA (a := m.a.wp x) hp hd c9 hn (hf.c9 c9) hf.cl fun τ u1 u2 u3 => hk O τ same u1 ⟨⟨x, u2, fun e => by cases e⟩, own, pO⟩ (k1 u3)
  by_cases c10 : m.a.pc = 10
  · simp only [if_neg c0, if_neg c1, if_neg c2, if_neg c3, if_neg c4, if_neg c5, if_neg c6, if_neg c7, if_neg c8, if_neg c9, if_pos c10] at hk
    exact c_Mv10 hN hC hA (a := m.a.wp x) hp hd c10 hn (hf.c10 c10) hf.cl fun τ u1 u2 u3 => hk O τ same u1 ⟨⟨x, u2, fun e => absurd (show m.a.pc = 1 from e) c1⟩, own, pO⟩ (k1 u3)
  have c11 : m.a.pc = 11 := by omega
  simp only [if_neg c0, if_neg c1, if_neg c2, if_neg c3, if_neg c4, if_neg c5, if_neg c6, if_neg c7, if_neg c8, if_neg c9, if_neg c10] at hk
  exact c_Mv11 hN hC hA (a := m.a.wp x) hp hd c11 (hf.sa (.inr (.inr c11))) hf.cl fun τ u1 u2 u3 => hk O τ same u1 ⟨⟨x, u2, fun e => absurd e c1⟩, own, pO⟩ (k1 u3)
theorem mob_new {ad k z s g : Int} {o : Bool} (hA : isA N A σ) (hk : ∀ p τ, σ.get p = none → MOb N p [p] (Mv.new ad k z s g o) τ → Ext σ τ → K (.pointer (some ⟨p, 0, none⟩)) τ) : s_cd [.int .i64 ad, .agg #[.int .i64 k, .int .i64 z, .int .i64 s, .int .i64 g, .bool o]] K σ := by
  refine c_MoveNew fun p τ hp gp x => hk p τ hp ⟨⟨none, gp, (fun e => by cases e)⟩, fun i hi => ?_, List.mem_singleton.2 rfl⟩ x
  rw [List.mem_singleton.1 hi]; exact hA.new hp
end Go.Fl
namespace Go.Fl
open Go
set_option linter.unusedVariables false
set_option linter.unusedSimpArgs false
variable {N : Nm} {A B : Ar} {σ : Mem} {K : Value → Mem → Prop} {C : Cf} {who : Int}
structure Ac where
  kd : Int
  n : Int
  ix : Int
  v : Int
  old : Int
  own : Bool
  hs : Int
  hg : Int
  pc : Int
  w : Int
  cell : Int
  seen : Int
  rd : Int
  size : Int
  help : Option Nat
  oE : Int
  oH : Int
  oV : Int
  oS : Int
def Ac.l (a : Ac) : List Value := [.int .i64 a.kd, .int .u64 a.n, .int .i64 a.ix, .int .i64 a.v, .int .i64 a.old, .bool a.own, .int .i64 a.hs, .int .i64 a.hg, .int .i64 a.pc, .int .u64 a.w, .int .u64 a.cell, .int .i64 a.seen, .int .i64 a.rd, .int .i64 a.size, obP a.help, .int .i64 a.oE, .int .u64 a.oH, .int .i64 a.oV, .int .i64 a.oS]
def Ac.new (kd n ix v old : Int) (own : Bool) : Ac := ⟨kd, n, ix, v, old, own, 0, 0, 0, 0, 0, 0, 0, 0, none, 0, 0, 0, 0⟩
def Ac.nxt (a : Ac) : Int :=
  if a.kd = 1 ∨ a.kd = 3 ∧ ceV a.cell ≠ a.old then 6 else if slS a.w = 4 then 4 else if ceF a.cell = false ∨ ceN a.cell < slV a.w then 5 else if ceN a.cell = slV a.w ∧ slS a.w = 2 then 3 else 0
def Ac.at' (a : Ac) : Int := slA a.w + 1 + a.ix
def Ac.fin (a : Ac) (e v s : Int) : Ac := { a with oE := e, oH := 0, oV := v, oS := s }
theorem ldAx {p k sz : Nat} {ag : Bool} {a : Ac} {v : Value} (hd : p ∉ N.l) (h : sub a.l k sz ag = some v) : hLoad sz ag [.pointer (some ⟨p, k, none⟩)] K (putA N A (σ.set p ⟨a.l, true⟩)) = K v (putA N A (σ.set p ⟨a.l, true⟩)) := by
  rw [hLoad_eq ((putA_get hd).trans (Mem.get_set_same _ _ _)), h, xOs]
theorem stAx {p k : Nat} {a : Ac} (a' : Ac) {x : Value} (hd : p ∉ N.l) (hx : cellsOf x 1 = some [x]) (ho : oneB x = true) (hk : k + 1 ≤ 19) (e : lay a.l k [x] = a'.l) :
    hStore 1 [.pointer (some ⟨p, k, none⟩), x] K (putA N A (σ.set p ⟨a.l, true⟩)) = K undef (putA N A (σ.set p ⟨a'.l, true⟩)) := by
  have := stO (K := K) (N := N) (A := A) (σ := σ) (p := p) (pre := []) (L := a.l) (post := []) (k := k) (sz := 1) (x := x) (c := [x]) hd hx rfl hk (by simp [ho])
  rw [e] at this
  simpa only [List.nil_append, List.append_nil, List.length_nil, Nat.zero_add] using this
theorem stAxa {p k sz : Nat} {a : Ac} (a' : Ac) {c : List Value} (hd : p ∉ N.l) (hl : c.length = sz) (ho : c.all oneB = true) (hk : k + sz ≤ 19) (e : lay a.l k c = a'.l) :
    hStore sz [.pointer (some ⟨p, k, none⟩), .agg c.toArray] K (putA N A (σ.set p ⟨a.l, true⟩)) = K undef (putA N A (σ.set p ⟨a'.l, true⟩)) := by
  have := stOa (K := K) (N := N) (A := A) (σ := σ) (p := p) (pre := []) (L := a.l) (post := []) (k := k) (sz := sz) (c := c) hd hl hk ho
  rw [e] at this
  simpa only [List.nil_append, List.append_nil, List.length_nil, Nat.zero_add] using this
theorem c_AccNew {kd n ix v old : Int} {o : Bool} (hk : ∀ id τ, σ.get id = none → τ.get id = some ⟨(Ac.new kd n ix v old o).l, true⟩ → Ext σ τ → K (.pointer (some ⟨id, 0, none⟩)) τ) :
    s_ag [.agg #[.int .i64 kd, .int .u64 n, .int .i64 ix, .int .i64 v, .int .i64 old], .bool o] K σ := by
  have b : ∀ K : Value → Prop, xF (fBuild [(0, 5), (5, 1), (6, 2), (8, 1), (9, 1), (10, 1), (11, 1), (12, 1), (13, 1), (14, 1), (15, 4)] [.int .i64 0, .int .u64 0, .int .i64 0, .int .i64 0, .int .i64 0, .bool false, .int .i64 0, .int .i64 0, .int .i64 0, .int .u64 0, .int .u64 0, .int .i64 0, .int .i64 0, .int .i64 0, .pointer none, .int .i64 0, .int .u64 0, .int .i64 0, .int .i64 0] [0, 1]) [.agg #[.int .i64 kd, .int .u64 n, .int .i64 ix, .int .i64 v, .int .i64 old], .bool o] K =
      K (.agg (Ac.new kd n ix v old o).l.toArray) := fun K => nr rfl
  have g : gBox 5 [.agg #[.int .i64 kd, .int .u64 n, .int .i64 ix, .int .i64 v, .int .i64 old]] [] = some [.int .i64 kd, .int .u64 n, .int .i64 ix, .int .i64 v, .int .i64 old] := rfl
  have s5 : ∀ x y z u w : Value, gLoad 5 true [.pointer (some ⟨2, 0, some 0⟩)] [x, y, z, u, w] = some (.agg #[x, y, z, u, w]) := fun _ _ _ _ _ => rfl
  simp only [s_ag, w_ag, g, s5, locP, b, xCs, xOs, ruS, Nat.reduceAdd, reduceIte, Int.reduceLT, Int.reduceLE, Int.reduceEq, Int.reduceNeg, Int.reduceAdd, Int.reduceSub]
  exact hBox_i (cs := (Ac.new kd n ix v old o).l) rfl hk
theorem c_AccDone (hA : isA N A σ) {p : Nat} {a : Ac} (hp : σ.get p = some ⟨a.l, true⟩) (hk : K (.agg #[.int .i64 a.oE, .int .u64 a.oH, .int .i64 a.oV, .int .i64 a.oS]) σ) : s_aa [.pointer (some ⟨p, 0, none⟩)] K σ := by
  have gs : ∀ x y z w : Int, gStore 4 [.pointer (some ⟨2, 0, some 0⟩), .agg #[.int .i64 x, .int .u64 y, .int .i64 z, .int .i64 w]] [.int .i64 0, .int .u64 0, .int .i64 0, .int .i64 0] = some [.int .i64 x, .int .u64 y, .int .i64 z, .int .i64 w] := fun _ _ _ _ => rfl
  simp only [s_aa, w_aa, ruS, ruL, ruE, Nat.reduceAdd, reduceIte, Int.reduceLT, Int.reduceLE, Int.reduceEq, Int.reduceNeg, Int.reduceAdd, Int.reduceSub, Nat.reduceLeDiff, Nat.reduceLT]
  rw [ldG hp (show sub a.l 15 4 true = some (.agg #[.int .i64 a.oE, .int .u64 a.oH, .int .i64 a.oV, .int .i64 a.oS]) from rfl)]
  simp only [gs, sub4, ruS, ruL, ruE, Nat.reduceAdd, reduceIte, Int.reduceLT, Int.reduceLE, Int.reduceEq, Int.reduceNeg, Int.reduceAdd, Int.reduceSub, Nat.reduceLeDiff, Nat.reduceLT]
  exact hk
theorem c_Aend {p : Nat} {a : Ac} {e v s : Int} (hd : p ∉ N.l) : s_ae [.pointer (some ⟨p, 0, none⟩), .int .i64 e, .int .i64 v, .int .i64 s] K (putA N A (σ.set p ⟨a.l, true⟩)) = K (.bool true) (putA N A (σ.set p ⟨(a.fin e v s).l, true⟩)) := by
  have b : ∀ (K : Value → Prop), xF (fBuild [(0, 1), (1, 1), (2, 1), (3, 1)] [.int .i64 0, .int .u64 0, .int .i64 0, .int .i64 0] [0, 2, 3]) [.int .i64 e, .int .i64 v, .int .i64 s] K = K (.agg #[.int .i64 e, .int .u64 0, .int .i64 v, .int .i64 s]) := fun K => nr rfl
  simp only [s_ae, w_ae, b, ruS, ruL, ruE, Nat.reduceAdd, reduceIte, Int.reduceLT, Int.reduceLE, Int.reduceEq, Int.reduceNeg, Int.reduceAdd, Int.reduceSub, Nat.reduceLeDiff, Nat.reduceLT]
  have := stAxa (K := fun _ σ => K (.bool true) σ) (N := N) (A := A) (σ := σ) (p := p) (a := a) (a.fin e v s) (c := [.int .i64 e, .int .u64 0, .int .i64 v, .int .i64 s]) (sz := 4) (k := 15) hd rfl rfl (by decide) rfl
  exact this
theorem c_Aat {p : Nat} {a : Ac} (hd : p ∉ N.l) (h3 : 0 ≤ a.w ∧ a.w < 18446744073709551616) (h : 0 ≤ a.at' ∧ a.at' < 9223372036854775807) : s_ac [.pointer (some ⟨p, 0, none⟩)] K (putA N A (σ.set p ⟨a.l, true⟩)) = K (.int .i64 a.at') (putA N A (σ.set p ⟨a.l, true⟩)) := by
  have hA1 := slA_bd a.w
  simp only [s_ac, w_ac, ruS, ruL, ruE, Nat.reduceAdd, reduceIte, Int.reduceLT, Int.reduceLE, Int.reduceEq, Int.reduceNeg, Int.reduceAdd, Int.reduceSub, Nat.reduceLeDiff, Nat.reduceLT]
  rw [ldAx hd (show sub _ 9 1 false = some (.int .u64 a.w) from rfl), c_wSlot h3.1 h3.2]
  simp only [xFldV, List.toList_toArray, ruS, ruL, ruE, Nat.reduceAdd, reduceIte, Int.reduceLT, Int.reduceLE, Int.reduceEq, Int.reduceNeg, Int.reduceAdd, Int.reduceSub, Nat.reduceLeDiff, Nat.reduceLT]
  rw [ldAx hd (show sub _ 2 1 false = some (.int .i64 a.ix) from rfl), IntWalk.i64_in (slA a.w + 1) (by omega)]
  simp only [ruS, ruL, ruE, Nat.reduceAdd, reduceIte, Int.reduceLT, Int.reduceLE, Int.reduceEq, Int.reduceNeg, Int.reduceAdd, Int.reduceSub, Nat.reduceLeDiff, Nat.reduceLT]
  rw [show slA a.w + 1 + a.ix = a.at' from rfl, IntWalk.i64_in _ (by omega)]
theorem c_Anext {p : Nat} {a : Ac} (hd : p ∉ N.l) (h3 : 0 ≤ a.w ∧ a.w < 18446744073709551616) (h4 : 0 ≤ a.cell ∧ a.cell < 18446744073709551616) : s_af [.pointer (some ⟨p, 0, none⟩)] K (putA N A (σ.set p ⟨a.l, true⟩)) = K (.int .i64 a.nxt) (putA N A (σ.set p ⟨a.l, true⟩)) := by
  have g4 : ∀ (k : Nat) (x y z w x' y' z' w' : Int), gStore 4 [.pointer (some ⟨k, 0, some 0⟩), .agg #[.int .i64 x, .int .i64 y, .int .i64 z, .int .i64 w]] [.int .i64 x', .int .i64 y', .int .i64 z', .int .i64 w'] = some [.int .i64 x, .int .i64 y, .int .i64 z, .int .i64 w] := fun _ _ _ _ _ _ _ _ _ => rfl
  have g3 : ∀ (k : Nat) (x z : Int) (y : Bool) (x' z' : Int) (y' : Bool), gStore 3 [.pointer (some ⟨k, 0, some 0⟩), .agg #[.int .i64 x, .bool y, .int .i64 z]] [.int .i64 x', .bool y', .int .i64 z'] = some [.int .i64 x, .bool y, .int .i64 z] := fun _ _ _ _ _ _ _ => rfl
  simp only [s_af, w_af, ruS, ruL, ruE, Nat.reduceAdd, reduceIte, Int.reduceLT, Int.reduceLE, Int.reduceEq, Int.reduceNeg, Int.reduceAdd, Int.reduceSub, Nat.reduceLeDiff, Nat.reduceLT]
  rw [ldAx hd (show sub _ 10 1 false = some (.int .u64 a.cell) from rfl), c_wCell h4.1 h4.2]
  simp only [ruS, ruL, ruE, Nat.reduceAdd, reduceIte, Int.reduceLT, Int.reduceLE, Int.reduceEq, Int.reduceNeg, Int.reduceAdd, Int.reduceSub, Nat.reduceLeDiff, Nat.reduceLT]
  rw [ldAx hd (show sub _ 9 1 false = some (.int .u64 a.w) from rfl), c_wSlot h3.1 h3.2]
  simp only [g3, g4, ruS, ruL, ruE, Nat.reduceAdd, reduceIte, Int.reduceLT, Int.reduceLE, Int.reduceEq, Int.reduceNeg, Int.reduceAdd, Int.reduceSub, Nat.reduceLeDiff, Nat.reduceLT]
  rw [ldAx hd (show sub _ 0 1 false = some (.int .i64 a.kd) from rfl)]
  have rest : ∀ b : Bool, (b = true ↔ a.kd = 1 ∨ a.kd = 3 ∧ ceV a.cell ≠ a.old) → w_af_j1 K [.bool b] [[.int .i64 (ceV a.cell), .bool (ceF a.cell), .int .i64 (ceN a.cell)], [.int .i64 (slS a.w), .int .i64 (slA a.w), .int .i64 (slG a.w), .int .i64 (slV a.w)]] (putA N A (σ.set p ⟨a.l, true⟩)) = K (.int .i64 a.nxt) (putA N A (σ.set p ⟨a.l, true⟩)) := by
    intro b hb
    unfold Ac.nxt
    simp only [← hb]
    simp only [w_af_j1, w_af_j1b, ruS, ruL, ruE, Nat.reduceAdd, reduceIte, Int.reduceLT, Int.reduceLE, Int.reduceEq, Int.reduceNeg, Int.reduceAdd, Int.reduceSub, Nat.reduceLeDiff, Nat.reduceLT]
    cases b with
    | true => simp only [ruS, ruL, ruE, Nat.reduceAdd, reduceIte, Int.reduceLT, Int.reduceLE, Int.reduceEq, Int.reduceNeg, Int.reduceAdd, Int.reduceSub, Nat.reduceLeDiff, Nat.reduceLT]
    | false =>
      simp only [Bool.false_eq_true, if_false, ruS, ruL, ruE, Nat.reduceAdd, reduceIte, Int.reduceLT, Int.reduceLE, Int.reduceEq, Int.reduceNeg, Int.reduceAdd, Int.reduceSub, Nat.reduceLeDiff, Nat.reduceLT]
      by_cases c1 : slS a.w = 4
      · simp only [c1, ruS, ruL, ruE, Nat.reduceAdd, reduceIte, Int.reduceLT, Int.reduceLE, Int.reduceEq, Int.reduceNeg, Int.reduceAdd, Int.reduceSub, Nat.reduceLeDiff, Nat.reduceLT]
      · simp only [c1, ruS, ruL, ruE, Nat.reduceAdd, reduceIte, Int.reduceLT, Int.reduceLE, Int.reduceEq, Int.reduceNeg, Int.reduceAdd, Int.reduceSub, Nat.reduceLeDiff, Nat.reduceLT]
        cases c2 : ceF a.cell with
        | false => simp only [w_af_j2, w_af_j2b, true_or, ruS, ruL, ruE, Nat.reduceAdd, reduceIte, Int.reduceLT, Int.reduceLE, Int.reduceEq, Int.reduceNeg, Int.reduceAdd, Int.reduceSub, Nat.reduceLeDiff, Nat.reduceLT]
        | true =>
          by_cases c3 : ceN a.cell < slV a.w
          · simp only [c3, w_af_j2, w_af_j2b, or_true, ruS, ruL, ruE, Nat.reduceAdd, reduceIte, Int.reduceLT, Int.reduceLE, Int.reduceEq, Int.reduceNeg, Int.reduceAdd, Int.reduceSub, Nat.reduceLeDiff, Nat.reduceLT]
          · by_cases c4 : ceN a.cell = slV a.w
            · by_cases c5 : slS a.w = 2
              · simp only [c3, c4, c5, Int.lt_irrefl, w_af_j2, w_af_j2b, w_af_j3, w_af_j3b, Bool.true_eq_false, or_self, and_self, ruS, ruL, ruE, Nat.reduceAdd, reduceIte, Int.reduceLT, Int.reduceLE, Int.reduceEq, Int.reduceNeg, Int.reduceAdd, Int.reduceSub, Nat.reduceLeDiff, Nat.reduceLT]
              · simp only [c3, c4, c5, Int.lt_irrefl, w_af_j2, w_af_j2b, w_af_j3, w_af_j3b, Bool.true_eq_false, or_self, and_false, ruS, ruL, ruE, Nat.reduceAdd, reduceIte, Int.reduceLT, Int.reduceLE, Int.reduceEq, Int.reduceNeg, Int.reduceAdd, Int.reduceSub, Nat.reduceLeDiff, Nat.reduceLT]
            · simp only [c3, c4, w_af_j2, w_af_j2b, w_af_j3, w_af_j3b, Bool.true_eq_false, or_self, false_and, ruS, ruL, ruE, Nat.reduceAdd, reduceIte, Int.reduceLT, Int.reduceLE, Int.reduceEq, Int.reduceNeg, Int.reduceAdd, Int.reduceSub, Nat.reduceLeDiff, Nat.reduceLT]
  by_cases c1 : a.kd = 1
  · simp only [c1, ruS, ruL, ruE, Nat.reduceAdd, reduceIte, Int.reduceLT, Int.reduceLE, Int.reduceEq, Int.reduceNeg, Int.reduceAdd, Int.reduceSub, Nat.reduceLeDiff, Nat.reduceLT]
    exact rest true (by simp [c1])
  · simp only [c1, ruS, ruL, ruE, Nat.reduceAdd, reduceIte, Int.reduceLT, Int.reduceLE, Int.reduceEq, Int.reduceNeg, Int.reduceAdd, Int.reduceSub, Nat.reduceLeDiff, Nat.reduceLT]
    rw [ldAx hd (show sub _ 0 1 false = some (.int .i64 a.kd) from rfl)]
    by_cases c3 : a.kd = 3
    · simp only [c3, ruS, ruL, ruE, Nat.reduceAdd, reduceIte, Int.reduceLT, Int.reduceLE, Int.reduceEq, Int.reduceNeg, Int.reduceAdd, Int.reduceSub, Nat.reduceLeDiff, Nat.reduceLT]
      rw [ldAx hd (show sub _ 4 1 false = some (.int .i64 a.old) from rfl)]
      by_cases c4 : ceV a.cell = a.old
      · simp only [c4, ne_eq, not_true_eq_false, ruS, ruL, ruE, Nat.reduceAdd, reduceIte, Int.reduceLT, Int.reduceLE, Int.reduceEq, Int.reduceNeg, Int.reduceAdd, Int.reduceSub, Nat.reduceLeDiff, Nat.reduceLT]
        rw [← c4]
        exact rest false (by simp [c1, c4])
      · simp only [c4, ne_eq, not_false_eq_true, ruS, ruL, ruE, Nat.reduceAdd, reduceIte, Int.reduceLT, Int.reduceLE, Int.reduceEq, Int.reduceNeg, Int.reduceAdd, Int.reduceSub, Nat.reduceLeDiff, Nat.reduceLT]
        exact rest true (by simp [c3, c4])
    · simp only [c3, ruS, ruL, ruE, Nat.reduceAdd, reduceIte, Int.reduceLT, Int.reduceLE, Int.reduceEq, Int.reduceNeg, Int.reduceAdd, Int.reduceSub, Nat.reduceLeDiff, Nat.reduceLT]
      exact rest false (by simp [c1, c3])
end Go.Fl
namespace Go.Fl
open Go
set_option linter.unusedVariables false
set_option linter.unusedSimpArgs false
variable {N : Nm} {A B : Ar} {σ : Mem} {K : Value → Mem → Prop} {C : Cf} {who : Int}
def Ac.step (C : Cf) (who : Int) (A : Ar) (a : Ac) : Bool × Ac × Ar :=
  if a.pc = 0 then
    if hdOk a.n = false ∨ C.S ≤ hdSl a.n then (true, ({ a with hs := hdSl a.n, hg := hdGe a.n } : Ac).fin 3 0 A.s, A)
    else if lives (A.w (C.slot (hdSl a.n))) (hdGe a.n) then (false, { a with hs := hdSl a.n, hg := hdGe a.n, w := A.w (C.slot (hdSl a.n)), seen := ((A.by who).load (C.slot (hdSl a.n))).s, pc := 1 }, (A.by who).load (C.slot (hdSl a.n)))
    else (true, ({ a with hs := hdSl a.n, hg := hdGe a.n, w := A.w (C.slot (hdSl a.n)), seen := ((A.by who).load (C.slot (hdSl a.n))).s, pc := 1 } : Ac).fin 3 0 ((A.by who).load (C.slot (hdSl a.n))).s, (A.by who).load (C.slot (hdSl a.n)))
  else if a.pc = 1 then
    if hdO (A.w (slA a.w)) ≠ a.own then (true, ({ a with size := hdS (A.w (slA a.w)), pc := 2 } : Ac).fin 3 0 ((A.by who).load (slA a.w)).s, (A.by who).load (slA a.w))
    else if a.ix < 0 ∨ hdS (A.w (slA a.w)) ≤ a.ix then (true, ({ a with size := hdS (A.w (slA a.w)), pc := 2 } : Ac).fin 4 0 a.seen, (A.by who).load (slA a.w))
    else (false, { a with size := hdS (A.w (slA a.w)), pc := 2 }, (A.by who).load (slA a.w))
  else if a.pc = 2 then
    (false, { a with cell := A.w a.at', rd := ((A.by who).load a.at').s, pc := ({ a with cell := A.w a.at' } : Ac).nxt }, (A.by who).load a.at')
  else if a.pc = 3 then
    (false, { a with pc := 0 }, (A.by who).cas (C.slot a.hs) a.w (putSlot 1 (slA a.w) (slG a.w) (slV a.w + 1)))
  else if a.pc = 5 then
    if A.w a.at' = a.cell then (true, ({ a with pc := 0 } : Ac).fin 0 (ceV a.cell) ((A.by who).cas a.at' a.cell (putCell a.v false 0)).s, (A.by who).cas a.at' a.cell (putCell a.v false 0))
    else (false, { a with pc := 0 }, (A.by who).cas a.at' a.cell (putCell a.v false 0))
  else
    if lives (A.w (C.slot a.hs)) a.hg then
      if slA (A.w (C.slot a.hs)) = slA a.w then (true, a.fin (if a.kd = 3 then 8 else 0) (ceV a.cell) a.rd, (A.by who).load (C.slot a.hs))
      else (false, { a with pc := 0 }, (A.by who).load (C.slot a.hs))
    else (true, a.fin 3 0 ((A.by who).load (C.slot a.hs)).s, (A.by who).load (C.slot a.hs))
structure Ac.fit (C : Cf) (A : Ar) (a : Ac) : Prop where
  pc : 0 ≤ a.pc ∧ a.pc ≤ 6
  n : 0 ≤ a.n ∧ a.n < 18446744073709551616
  hs : 0 ≤ a.hs ∧ a.hs < C.S
  w : 0 ≤ a.w ∧ a.w < 18446744073709551616
  cell : 0 ≤ a.cell ∧ a.cell < 18446744073709551616
  a1 : a.pc = 1 → slA a.w < A.n
  a2 : a.pc = 2 ∨ a.pc = 5 → 0 ≤ a.at' ∧ a.at' < A.n
  bd : (A.n : Int) ≤ 200000000
theorem c_Ac0 (hN : N.ok) (hC : C.ok) (hA : isA N A σ) {p : Nat} {a : Ac} (hp : σ.get p = some ⟨a.l, true⟩) (hd : p ∉ N.l) (hw : ∀ i, 0 ≤ A.w i ∧ A.w i < 18446744073709551616) (hn : C.len ≤ A.n) (hf : a.fit C A) (h : a.pc = 0)
    (hk : ∀ τ, isA N (a.step C who A).2.2 τ → τ.get p = some ⟨(a.step C who A).2.1.l, true⟩ → Keep (p :: N.l) σ τ → K (.bool (a.step C who A).1) τ) :
    s_ab [.pointer (some ⟨p, 0, none⟩), N.env C who] K σ := by
  have hT := hC.T; have hS := hC.S; have hC3 := hC.C; have hl := len_bd hC
  have hch : C.chunk C.C = 6 + C.T + 2 * C.S + 3 * C.C := rfl
  have h1 := hf.n
  obtain ⟨b1, b2⟩ := hdSl_bd h1.1
  rw [hA.obj hp]
  have g2 : ∀ (k : Nat) (x y : Int), gStore 2 [.pointer (some ⟨k, 0, some 0⟩), .agg #[.int .i64 x, .int .i64 y]] [.int .i64 0, .int .i64 0] = some [.int .i64 x, .int .i64 y] := fun _ _ _ => rfl
  have s2 : ∀ x y : Value, sub [x, y] 0 2 true = some (.agg #[x, y]) := fun _ _ => rfl
  unfold Ac.step at hk
  rw [if_pos h] at hk
  simp only [s_ab, w_ab, ruS, ruL, ruE, Nat.reduceAdd, reduceIte, Int.reduceLT, Int.reduceLE, Int.reduceEq, Int.reduceNeg, Int.reduceAdd, Int.reduceSub, Nat.reduceLeDiff, Nat.reduceLT]
  rw [ldAx hd (show sub _ 8 1 false = some (.int .i64 a.pc) from rfl)]
  simp only [h, ruS, ruL, ruE, Nat.reduceAdd, reduceIte, Int.reduceLT, Int.reduceLE, Int.reduceEq, Int.reduceNeg, Int.reduceAdd, Int.reduceSub, Nat.reduceLeDiff, Nat.reduceLT]
  rw [ldAx hd (show sub _ 1 1 false = some (.int .u64 a.n) from rfl), c_wHandleG h1.1 h1.2]
  simp only [g2, s2, ruS, ruL, ruE, Nat.reduceAdd, reduceIte, Int.reduceLT, Int.reduceLE, Int.reduceEq, Int.reduceNeg, Int.reduceAdd, Int.reduceSub, Nat.reduceLeDiff, Nat.reduceLT]
  have st2 : ∀ K : Value → Mem → Prop, hStore 2 [.pointer (some ⟨p, 6, none⟩), .agg #[.int .i64 (hdSl a.n), .int .i64 (hdGe a.n)]] K (putA N A (σ.set p ⟨a.l, true⟩)) = K undef (putA N A (σ.set p ⟨({ a with hs := hdSl a.n, hg := hdGe a.n } : Ac).l, true⟩)) :=
    fun K => stAxa (a := a) { a with hs := hdSl a.n, hg := hdGe a.n } (c := [.int .i64 (hdSl a.n), .int .i64 (hdGe a.n)]) (sz := 2) (k := 6) hd rfl rfl (by decide) rfl
  rw [st2]
  cases hO : hdOk a.n with
  | false =>
    rw [if_pos (.inl hO)] at hk
    simp only [w_ab_j2, w_ab_j2b, ruS, ruL, ruE, Nat.reduceAdd, reduceIte, Int.reduceLT, Int.reduceLE, Int.reduceEq, Int.reduceNeg, Int.reduceAdd, Int.reduceSub, Nat.reduceLeDiff, Nat.reduceLT]
    rw [c_Now, c_Aend hd]
    exact behind hN hd hk
  | true =>
    by_cases hs : C.S ≤ hdSl a.n
    · rw [if_pos (.inr hs)] at hk
      simp only [hs, w_ab_j2, w_ab_j2b, ruS, ruL, ruE, Nat.reduceAdd, reduceIte, Int.reduceLT, Int.reduceLE, Int.reduceEq, Int.reduceNeg, Int.reduceAdd, Int.reduceSub, Nat.reduceLeDiff, Nat.reduceLT]
      rw [c_Now, c_Aend hd]
      exact behind hN hd hk
    · rw [if_neg (fun q => by rcases q with q | q; rw [hO] at q; cases q; exact hs q)] at hk
      have hsb : 0 ≤ C.slot (hdSl a.n) ∧ C.slot (hdSl a.n) < A.n := by unfold Cf.slot; omega
      have hwa := hw (C.slot (hdSl a.n))
      simp only [hs, w_ab_j2, w_ab_j2b, ruS, ruL, ruE, Nat.reduceAdd, reduceIte, Int.reduceLT, Int.reduceLE, Int.reduceEq, Int.reduceNeg, Int.reduceAdd, Int.reduceSub, Nat.reduceLeDiff, Nat.reduceLT]
      rw [c_Slot hC b1.1 (by omega), c_Load hN hsb.1 hsb.2, stAx { a with hs := hdSl a.n, hg := hdGe a.n, w := A.w (C.slot (hdSl a.n)) } hd rfl rfl (by decide) rfl]
      rw [c_Now]
      rw [stAx { a with hs := hdSl a.n, hg := hdGe a.n, w := A.w (C.slot (hdSl a.n)), seen := ((A.by who).load (C.slot (hdSl a.n))).s } hd rfl rfl (by decide) rfl]
      rw [stAx { a with hs := hdSl a.n, hg := hdGe a.n, w := A.w (C.slot (hdSl a.n)), seen := ((A.by who).load (C.slot (hdSl a.n))).s, pc := 1 } hd rfl rfl (by decide) rfl]
      rw [ldAx (a := { a with hs := hdSl a.n, hg := hdGe a.n, w := A.w (C.slot (hdSl a.n)), seen := ((A.by who).load (C.slot (hdSl a.n))).s, pc := 1 }) hd (show sub _ 9 1 false = some (.int .u64 (A.w (C.slot (hdSl a.n)))) from rfl), c_wSlot hwa.1 hwa.2]
      simp only [s2, ruS, ruL, ruE, Nat.reduceAdd, reduceIte, Int.reduceLT, Int.reduceLE, Int.reduceEq, Int.reduceNeg, Int.reduceAdd, Int.reduceSub, Nat.reduceLeDiff, Nat.reduceLT]
      rw [c_Live]
      by_cases hl' : lives (A.w (C.slot (hdSl a.n))) (hdGe a.n)
      · have e : decide ((slS (A.w (C.slot (hdSl a.n))) = 1 ∨ slS (A.w (C.slot (hdSl a.n))) = 2 ∨ slS (A.w (C.slot (hdSl a.n))) = 4) ∧ slG (A.w (C.slot (hdSl a.n))) = hdGe a.n) = true := decide_eq_true hl'
        rw [if_pos hl'] at hk
        simp only [e, w_ab_j1, w_ab_j1b, ruS, ruL, ruE, Nat.reduceAdd, reduceIte, Int.reduceLT, Int.reduceLE, Int.reduceEq, Int.reduceNeg, Int.reduceAdd, Int.reduceSub, Nat.reduceLeDiff, Nat.reduceLT]
        exact behind hN hd hk
      · have e : decide ((slS (A.w (C.slot (hdSl a.n))) = 1 ∨ slS (A.w (C.slot (hdSl a.n))) = 2 ∨ slS (A.w (C.slot (hdSl a.n))) = 4) ∧ slG (A.w (C.slot (hdSl a.n))) = hdGe a.n) = false := decide_eq_false hl'
        rw [if_neg hl'] at hk
        simp only [e, ruS, ruL, ruE, Nat.reduceAdd, reduceIte, Int.reduceLT, Int.reduceLE, Int.reduceEq, Int.reduceNeg, Int.reduceAdd, Int.reduceSub, Nat.reduceLeDiff, Nat.reduceLT]
        rw [c_Now, c_Aend hd]
        exact behind hN hd hk
theorem c_Ac1 (hN : N.ok) (hC : C.ok) (hA : isA N A σ) {p : Nat} {a : Ac} (hp : σ.get p = some ⟨a.l, true⟩) (hd : p ∉ N.l) (hw : ∀ i, 0 ≤ A.w i ∧ A.w i < 18446744073709551616) (hf : a.fit C A) (h : a.pc = 1)
    (hk : ∀ τ, isA N (a.step C who A).2.2 τ → τ.get p = some ⟨(a.step C who A).2.1.l, true⟩ → Keep (p :: N.l) σ τ → K (.bool (a.step C who A).1) τ) :
    s_ab [.pointer (some ⟨p, 0, none⟩), N.env C who] K σ := by
  have hb := slA_bd a.w
  have hwa := hw (slA a.w)
  have h3 := hf.w
  have h4 := hf.a1 h
  rw [hA.obj hp]
  have g5 : ∀ (k : Nat) (x y z w : Int) (b : Bool), gStore 5 [.pointer (some ⟨k, 0, some 0⟩), .agg #[.int .i64 x, .int .i64 y, .int .i64 z, .int .i64 w, .bool b]] [.int .i64 0, .int .i64 0, .int .i64 0, .int .i64 0, .bool false] = some [.int .i64 x, .int .i64 y, .int .i64 z, .int .i64 w, .bool b] := fun _ _ _ _ _ _ => rfl
  unfold Ac.step at hk
  rw [if_neg (by omega), if_pos h] at hk
  simp only [s_ab, w_ab, ruS, ruL, ruE, Nat.reduceAdd, reduceIte, Int.reduceLT, Int.reduceLE, Int.reduceEq, Int.reduceNeg, Int.reduceAdd, Int.reduceSub, Nat.reduceLeDiff, Nat.reduceLT]
  rw [ldAx hd (show sub _ 8 1 false = some (.int .i64 a.pc) from rfl)]
  simp only [h, ruS, ruL, ruE, Nat.reduceAdd, reduceIte, Int.reduceLT, Int.reduceLE, Int.reduceEq, Int.reduceNeg, Int.reduceAdd, Int.reduceSub, Nat.reduceLeDiff, Nat.reduceLT]
  rw [ldAx hd (show sub _ 9 1 false = some (.int .u64 a.w) from rfl), c_wSlot h3.1 h3.2]
  simp only [xFldV, List.toList_toArray, ruS, ruL, ruE, Nat.reduceAdd, reduceIte, Int.reduceLT, Int.reduceLE, Int.reduceEq, Int.reduceNeg, Int.reduceAdd, Int.reduceSub, Nat.reduceLeDiff, Nat.reduceLT]
  rw [c_Load hN hb.1 h4, c_wHead hwa.1 hwa.2]
  simp only [g5, ruS, ruL, ruE, Nat.reduceAdd, reduceIte, Int.reduceLT, Int.reduceLE, Int.reduceEq, Int.reduceNeg, Int.reduceAdd, Int.reduceSub, Nat.reduceLeDiff, Nat.reduceLT]
  rw [stAx { a with size := hdS (A.w (slA a.w)) } hd rfl rfl (by decide) rfl, stAx { a with size := hdS (A.w (slA a.w)), pc := 2 } hd rfl rfl (by decide) rfl,
    ldAx (a := { a with size := hdS (A.w (slA a.w)), pc := 2 }) hd (show sub _ 5 1 false = some (.bool a.own) from rfl)]
  by_cases e : hdO (A.w (slA a.w)) = a.own
  · rw [if_neg (fun q => q e)] at hk
    simp only [e, xNeBB, beq_self_eq_true, ruS, ruL, ruE, Nat.reduceAdd, reduceIte, Int.reduceLT, Int.reduceLE, Int.reduceEq, Int.reduceNeg, Int.reduceAdd, Int.reduceSub, Nat.reduceLeDiff, Nat.reduceLT]
    rw [ldAx (a := { a with size := hdS (A.w (slA a.w)), pc := 2 }) hd (show sub _ 2 1 false = some (.int .i64 a.ix) from rfl)]
    by_cases c1 : a.ix < 0
    · rw [if_pos (.inl c1)] at hk
      simp only [c1, w_ab_j3, w_ab_j3b, ruS, ruL, ruE, Nat.reduceAdd, reduceIte, Int.reduceLT, Int.reduceLE, Int.reduceEq, Int.reduceNeg, Int.reduceAdd, Int.reduceSub, Nat.reduceLeDiff, Nat.reduceLT]
      rw [ldAx (a := { a with size := hdS (A.w (slA a.w)), pc := 2 }) hd (show sub _ 11 1 false = some (.int .i64 a.seen) from rfl), c_Aend hd]
      exact behind hN hd hk
    · simp only [c1, ruS, ruL, ruE, Nat.reduceAdd, reduceIte, Int.reduceLT, Int.reduceLE, Int.reduceEq, Int.reduceNeg, Int.reduceAdd, Int.reduceSub, Nat.reduceLeDiff, Nat.reduceLT]
      rw [ldAx (a := { a with size := hdS (A.w (slA a.w)), pc := 2 }) hd (show sub _ 2 1 false = some (.int .i64 a.ix) from rfl)]
      by_cases c2 : hdS (A.w (slA a.w)) ≤ a.ix
      · rw [if_pos (.inr c2)] at hk
        simp only [c2, w_ab_j3, w_ab_j3b, ruS, ruL, ruE, Nat.reduceAdd, reduceIte, Int.reduceLT, Int.reduceLE, Int.reduceEq, Int.reduceNeg, Int.reduceAdd, Int.reduceSub, Nat.reduceLeDiff, Nat.reduceLT]
        rw [ldAx (a := { a with size := hdS (A.w (slA a.w)), pc := 2 }) hd (show sub _ 11 1 false = some (.int .i64 a.seen) from rfl), c_Aend hd]
        exact behind hN hd hk
      · rw [if_neg (by rintro (q | q); exact c1 q; exact c2 q)] at hk
        simp only [c2, w_ab_j3, w_ab_j3b, w_ab_j1, w_ab_j1b, ruS, ruL, ruE, Nat.reduceAdd, reduceIte, Int.reduceLT, Int.reduceLE, Int.reduceEq, Int.reduceNeg, Int.reduceAdd, Int.reduceSub, Nat.reduceLeDiff, Nat.reduceLT]
        exact behind hN hd hk
  · rw [if_pos e] at hk
    have e' : (hdO (A.w (slA a.w)) == a.own) = false := by simpa using e
    simp only [e', xNeBB, ruS, ruL, ruE, Nat.reduceAdd, reduceIte, Int.reduceLT, Int.reduceLE, Int.reduceEq, Int.reduceNeg, Int.reduceAdd, Int.reduceSub, Nat.reduceLeDiff, Nat.reduceLT]
    rw [c_Now, c_Aend hd]
    exact behind hN hd hk
end Go.Fl
namespace Go.Fl
open Go
set_option linter.unusedVariables false
set_option linter.unusedSimpArgs false
variable {N : Nm} {A B : Ar} {σ : Mem} {K : Value → Mem → Prop} {C : Cf} {who : Int}
theorem c_Ac2 (hN : N.ok) (hC : C.ok) (hA : isA N A σ) {p : Nat} {a : Ac} (hp : σ.get p = some ⟨a.l, true⟩) (hd : p ∉ N.l) (hw : ∀ i, 0 ≤ A.w i ∧ A.w i < 18446744073709551616) (hf : a.fit C A) (h : a.pc = 2)
    (k0 : (a.step C who A).2.1.pc ≠ 4 → ∀ τ, isA N (a.step C who A).2.2 τ → τ.get p = some ⟨(a.step C who A).2.1.l, true⟩ → Keep (p :: N.l) σ τ → K (.bool (a.step C who A).1) τ)
    (k1 : (a.step C who A).2.1.pc = 4 → ∀ q τ, σ.get q = none → q ≠ p → isA N (a.step C who A).2.2 τ → τ.get p = some ⟨({ (a.step C who A).2.1 with help := some q } : Ac).l, true⟩ → τ.get q = some ⟨(Hl.new a.hs a.w a.size).l, true⟩ → Keep (p :: N.l) σ τ → K (.bool (a.step C who A).1) τ) :
    s_ab [.pointer (some ⟨p, 0, none⟩), N.env C who] K σ := by
  have hbd := hf.bd
  have h2 := hf.a2 (.inl h)
  have h3 := hf.w
  have hwa := hw a.at'
  rw [hA.obj hp]
  unfold Ac.step at k0 k1
  rw [if_neg (by omega), if_neg (by omega), if_pos h] at k0 k1
  simp only [s_ab, w_ab, ruS, ruL, ruE, Nat.reduceAdd, reduceIte, Int.reduceLT, Int.reduceLE, Int.reduceEq, Int.reduceNeg, Int.reduceAdd, Int.reduceSub, Nat.reduceLeDiff, Nat.reduceLT]
  rw [ldAx hd (show sub _ 8 1 false = some (.int .i64 a.pc) from rfl)]
  simp only [h, ruS, ruL, ruE, Nat.reduceAdd, reduceIte, Int.reduceLT, Int.reduceLE, Int.reduceEq, Int.reduceNeg, Int.reduceAdd, Int.reduceSub, Nat.reduceLeDiff, Nat.reduceLT]
  rw [c_Aat hd h3 (by omega), c_Load hN h2.1 h2.2, stAx { a with cell := A.w a.at' } hd rfl rfl (by decide) rfl, c_Now, c_Anext (a := { a with cell := A.w a.at' }) hd h3 hwa]
  rw [stAx { a with cell := A.w a.at', rd := ((A.by who).load a.at').s } hd rfl rfl (by decide) rfl]
  rw [stAx { a with cell := A.w a.at', rd := ((A.by who).load a.at').s, pc := ({ a with cell := A.w a.at' } : Ac).nxt } hd rfl rfl (by decide) rfl]
  rw [ldAx (a := { a with cell := A.w a.at', rd := ((A.by who).load a.at').s, pc := ({ a with cell := A.w a.at' } : Ac).nxt }) hd (show sub _ 8 1 false = some (.int .i64 ({ a with cell := A.w a.at' } : Ac).nxt) from rfl)]
  by_cases e : ({ a with cell := A.w a.at' } : Ac).nxt = 4
  · replace k1 := k1 e
    simp only [e, ruS, ruL, ruE, Nat.reduceAdd, reduceIte, Int.reduceLT, Int.reduceLE, Int.reduceEq, Int.reduceNeg, Int.reduceAdd, Int.reduceSub, Nat.reduceLeDiff, Nat.reduceLT]
    rw [e] at k1
    rw [ldAx (a := { a with cell := A.w a.at', rd := ((A.by who).load a.at').s, pc := 4 }) hd (show sub _ 6 1 false = some (.int .i64 a.hs) from rfl), ldAx (a := { a with cell := A.w a.at', rd := ((A.by who).load a.at').s, pc := 4 }) hd (show sub _ 9 1 false = some (.int .u64 a.w) from rfl),
      ldAx (a := { a with cell := A.w a.at', rd := ((A.by who).load a.at').s, pc := 4 }) hd (show sub _ 13 1 false = some (.int .i64 a.size) from rfl)]
    refine behind (K := fun _ σ => s_au [.int .i64 a.hs, .int .u64 a.w, .int .i64 a.size] _ σ) (v := undef) hN hd fun υ u1 u2 u3 => ?_
    refine c_NewHelp fun id ω hid gid x => ?_
    have hx1 := u1.ext x
    have hx2 := x _ _ u2
    have ip : id ≠ p := by rintro rfl; rw [u2] at hid; cases hid
    have inn := u1.new hid
    have ids : σ.get id = none := by
      cases e : σ.get id with
      | none => rfl
      | some b => rw [u3 id b e (by simp only [List.mem_cons, not_or]; exact ⟨ip, inn⟩)] at hid; cases hid
    rw [hx1.obj hx2, stAx { a with cell := A.w a.at', rd := ((A.by who).load a.at').s, pc := 4, help := some id } hd rfl rfl (by decide) rfl]
    simp only [w_ab_j1, w_ab_j1b, ruS, ruL, ruE, Nat.reduceAdd, reduceIte, Int.reduceLT, Int.reduceLE, Int.reduceEq, Int.reduceNeg, Int.reduceAdd, Int.reduceSub, Nat.reduceLeDiff, Nat.reduceLT]
    refine behind hN hd fun ρ r1 r2 r3 => k1 id ρ ids ip r1 r2 ?_ ((u3.trans x.keep).trans r3)
    exact r3 id _ gid (by simp only [List.mem_cons, not_or]; exact ⟨ip, inn⟩)
  · replace k0 := k0 e
    simp only [e, w_ab_j1, w_ab_j1b, ruS, ruL, ruE, Nat.reduceAdd, reduceIte, Int.reduceLT, Int.reduceLE, Int.reduceEq, Int.reduceNeg, Int.reduceAdd, Int.reduceSub, Nat.reduceLeDiff, Nat.reduceLT]
    exact behind hN hd k0
theorem c_Ac3 (hN : N.ok) (hC : C.ok) (hA : isA N A σ) {p : Nat} {a : Ac} (hp : σ.get p = some ⟨a.l, true⟩) (hd : p ∉ N.l) (hn : C.len ≤ A.n) (hf : a.fit C A) (h : a.pc = 3)
    (hk : ∀ τ, isA N (a.step C who A).2.2 τ → τ.get p = some ⟨(a.step C who A).2.1.l, true⟩ → Keep (p :: N.l) σ τ → K (.bool (a.step C who A).1) τ) :
    s_ab [.pointer (some ⟨p, 0, none⟩), N.env C who] K σ := by
  have hT := hC.T; have hS := hC.S; have hC3 := hC.C; have hl := len_bd hC
  have hch : C.chunk C.C = 6 + C.T + 2 * C.S + 3 * C.C := rfl
  have h3 := hf.w
  have h2 := hf.hs
  have hV := slV_bd a.w
  have hsb : 0 ≤ C.slot a.hs ∧ C.slot a.hs < A.n := by unfold Cf.slot; omega
  have g4 : ∀ (k : Nat) (x y z w x' y' z' w' : Int), gStore 4 [.pointer (some ⟨k, 0, some 0⟩), .agg #[.int .i64 x, .int .i64 y, .int .i64 z, .int .i64 w]] [.int .i64 x', .int .i64 y', .int .i64 z', .int .i64 w'] = some [.int .i64 x, .int .i64 y, .int .i64 z, .int .i64 w] := fun _ _ _ _ _ _ _ _ _ => rfl
  have g0 : ∀ (k : Nat) (v x' y' z' w' : Int), gStore 1 [.pointer (some ⟨k, 0, some 0⟩), .int .i64 v] [.int .i64 x', .int .i64 y', .int .i64 z', .int .i64 w'] = some [.int .i64 v, .int .i64 y', .int .i64 z', .int .i64 w'] := fun _ _ _ _ _ _ => rfl
  have g3 : ∀ (k : Nat) (v x' y' z' w' : Int), gStore 1 [.pointer (some ⟨k, 3, some 0⟩), .int .i64 v] [.int .i64 x', .int .i64 y', .int .i64 z', .int .i64 w'] = some [.int .i64 x', .int .i64 y', .int .i64 z', .int .i64 v] := fun _ _ _ _ _ _ => rfl
  rw [hA.obj hp]
  unfold Ac.step at hk
  rw [if_neg (by omega), if_neg (by omega), if_neg (by omega), if_pos h] at hk
  simp only [s_ab, w_ab, ruS, ruL, ruE, Nat.reduceAdd, reduceIte, Int.reduceLT, Int.reduceLE, Int.reduceEq, Int.reduceNeg, Int.reduceAdd, Int.reduceSub, Nat.reduceLeDiff, Nat.reduceLT]
  rw [ldAx hd (show sub _ 8 1 false = some (.int .i64 a.pc) from rfl)]
  simp only [h, ruS, ruL, ruE, Nat.reduceAdd, reduceIte, Int.reduceLT, Int.reduceLE, Int.reduceEq, Int.reduceNeg, Int.reduceAdd, Int.reduceSub, Nat.reduceLeDiff, Nat.reduceLT]
  rw [ldAx hd (show sub _ 9 1 false = some (.int .u64 a.w) from rfl), c_wSlot h3.1 h3.2]
  simp only [g4, g0, g3, ruS, ruL, ruE, Nat.reduceAdd, reduceIte, Int.reduceLT, Int.reduceLE, Int.reduceEq, Int.reduceNeg, Int.reduceAdd, Int.reduceSub, Nat.reduceLeDiff, Nat.reduceLT]
  rw [IntWalk.i64_in (slV a.w + 1) (by omega)]
  rw [ldAx hd (show sub _ 6 1 false = some (.int .i64 a.hs) from rfl), c_Slot hC h2.1 (by omega), ldAx hd (show sub _ 9 1 false = some (.int .u64 a.w) from rfl)]
  simp only [sub4, ruS, ruL, ruE, Nat.reduceAdd, reduceIte, Int.reduceLT, Int.reduceLE, Int.reduceEq, Int.reduceNeg, Int.reduceAdd, Int.reduceSub, Nat.reduceLeDiff, Nat.reduceLT]
  rw [c_PutSlot, c_Cas hN hsb.1 hsb.2, stAx { a with pc := 0 } hd rfl rfl (by decide) rfl]
  simp only [w_ab_j1, w_ab_j1b, ruS, ruL, ruE, Nat.reduceAdd, reduceIte, Int.reduceLT, Int.reduceLE, Int.reduceEq, Int.reduceNeg, Int.reduceAdd, Int.reduceSub, Nat.reduceLeDiff, Nat.reduceLT]
  exact behind hN hd hk
theorem c_Ac4 (hN : N.ok) (hC : C.ok) (hA : isA N A σ) {p q : Nat} {a : Ac} {t : Hl} (hp : σ.get p = some ⟨a.l, true⟩) (hd : p ∉ N.l) (hq : σ.get q = some ⟨[] ++ t.l ++ [], true⟩) (hqd : q ∉ N.l) (hqp : q ≠ p) (hw : ∀ i, 0 ≤ A.w i ∧ A.w i < 18446744073709551616) (hn : C.len ≤ A.n)
    (h : a.pc = 4) (ha : a.help = some q) (hf : t.fit C)
    (k0 : (t.step C who A).1 = false → ∀ τ, isA N (t.step C who A).2.2 τ → τ.get p = some ⟨a.l, true⟩ → τ.get q = some ⟨[] ++ (t.step C who A).2.1.l ++ [], true⟩ → Keep (q :: p :: N.l) σ τ → K (.bool false) τ)
    (k2 : (t.step C who A).1 = true → ∀ τ, isA N (t.step C who A).2.2 τ → τ.get p = some ⟨({ a with pc := 0 } : Ac).l, true⟩ → Keep (q :: p :: N.l) σ τ → K (.bool false) τ) :
    s_ab [.pointer (some ⟨p, 0, none⟩), N.env C who] K σ := by
  have hpL : ∀ i ∈ p :: N.l, i ∈ q :: p :: N.l := fun i hi => List.mem_cons_of_mem _ hi
  have hqL : ∀ i ∈ q :: N.l, i ∈ q :: p :: N.l := fun i hi => by rcases List.mem_cons.1 hi with rfl | hi <;> simp [*]
  rw [hA.obj hp]
  simp only [s_ab, w_ab, ruS, ruL, ruE, Nat.reduceAdd, reduceIte, Int.reduceLT, Int.reduceLE, Int.reduceEq, Int.reduceNeg, Int.reduceAdd, Int.reduceSub, Nat.reduceLeDiff, Nat.reduceLT]
  rw [ldAx hd (show sub _ 8 1 false = some (.int .i64 a.pc) from rfl)]
  simp only [h, ruS, ruL, ruE, Nat.reduceAdd, reduceIte, Int.reduceLT, Int.reduceLE, Int.reduceEq, Int.reduceNeg, Int.reduceAdd, Int.reduceSub, Nat.reduceLeDiff, Nat.reduceLT]
  rw [ldAx hd (show sub _ 14 1 false = some (obP a.help) from rfl), ha, obP_s, ← hA.obj hp]
  refine c_Help_Step hN hC hA (t := t) (pre := []) (post := []) hq hqd hw hn hf fun τ hA' hq' hK => ?_
  have hp' : τ.get p = some ⟨a.l, true⟩ := hK.get hp (by simp only [List.mem_cons, not_or]; exact ⟨fun e => hqp e.symm, hd⟩)
  have hK2 := hK.mono hqL
  generalize t.step C who A = r at *
  obtain ⟨d, t', A'⟩ := r
  dsimp only at *
  cases d with
  | false => simp only [w_ab_j1, w_ab_j1b, ruS, ruL, ruE, Nat.reduceAdd, reduceIte, Int.reduceLT, Int.reduceLE, Int.reduceEq, Int.reduceNeg, Int.reduceAdd, Int.reduceSub, Nat.reduceLeDiff, Nat.reduceLT]; exact k0 rfl τ hA' hp' hq' hK2
  | true =>
    simp only [ruS, ruL, ruE, Nat.reduceAdd, reduceIte, Int.reduceLT, Int.reduceLE, Int.reduceEq, Int.reduceNeg, Int.reduceAdd, Int.reduceSub, Nat.reduceLeDiff, Nat.reduceLT]
    rw [hA'.obj hp', stAx { a with pc := 0 } hd rfl rfl (by decide) rfl]
    simp only [w_ab_j1, w_ab_j1b, ruS, ruL, ruE, Nat.reduceAdd, reduceIte, Int.reduceLT, Int.reduceLE, Int.reduceEq, Int.reduceNeg, Int.reduceAdd, Int.reduceSub, Nat.reduceLeDiff, Nat.reduceLT]
    exact behind hN hd fun υ u1 u2 u3 => k2 rfl υ u1 u2 (hK2.trans (u3.mono hpL))
theorem c_Ac5 (hN : N.ok) (hC : C.ok) (hA : isA N A σ) {p : Nat} {a : Ac} (hp : σ.get p = some ⟨a.l, true⟩) (hd : p ∉ N.l) (hf : a.fit C A) (h : a.pc = 5)
    (hk : ∀ τ, isA N (a.step C who A).2.2 τ → τ.get p = some ⟨(a.step C who A).2.1.l, true⟩ → Keep (p :: N.l) σ τ → K (.bool (a.step C who A).1) τ) :
    s_ab [.pointer (some ⟨p, 0, none⟩), N.env C who] K σ := by
  have hbd := hf.bd
  have h2 := hf.a2 (.inr h)
  have h3 := hf.w
  have h4 := hf.cell
  have b3 : ∀ (x : Int) (K : Value → Prop), xF (fBuild [(0, 1), (1, 1), (2, 1)] [.int .i64 0, .bool false, .int .i64 0] [0]) [.int .i64 x] K = K (.agg #[.int .i64 x, .bool false, .int .i64 0]) := fun _ K => nr rfl
  rw [hA.obj hp]
  unfold Ac.step at hk
  rw [if_neg (by omega), if_neg (by omega), if_neg (by omega), if_neg (by omega), if_pos h] at hk
  simp only [s_ab, w_ab, ruS, ruL, ruE, Nat.reduceAdd, reduceIte, Int.reduceLT, Int.reduceLE, Int.reduceEq, Int.reduceNeg, Int.reduceAdd, Int.reduceSub, Nat.reduceLeDiff, Nat.reduceLT]
  rw [ldAx hd (show sub _ 8 1 false = some (.int .i64 a.pc) from rfl)]
  simp only [h, ruS, ruL, ruE, Nat.reduceAdd, reduceIte, Int.reduceLT, Int.reduceLE, Int.reduceEq, Int.reduceNeg, Int.reduceAdd, Int.reduceSub, Nat.reduceLeDiff, Nat.reduceLT]
  rw [stAx { a with pc := 0 } hd rfl rfl (by decide) rfl, c_Aat (a := { a with pc := 0 }) hd h3 (by show 0 ≤ a.at' ∧ a.at' < _; omega)]
  rw [ldAx (a := { a with pc := 0 }) hd (show sub _ 10 1 false = some (.int .u64 a.cell) from rfl), ldAx (a := { a with pc := 0 }) hd (show sub _ 3 1 false = some (.int .i64 a.v) from rfl), b3, c_PutCell]
  rw [show ({ a with pc := 0 } : Ac).at' = a.at' from rfl, c_Cas hN h2.1 h2.2]
  by_cases e : A.w a.at' = a.cell
  · rw [if_pos e] at hk
    simp only [e, ruS, ruL, ruE, Nat.reduceAdd, reduceIte, Int.reduceLT, Int.reduceLE, Int.reduceEq, Int.reduceNeg, Int.reduceAdd, Int.reduceSub, Nat.reduceLeDiff, Nat.reduceLT]
    rw [ldAx (a := { a with pc := 0 }) hd (show sub _ 10 1 false = some (.int .u64 a.cell) from rfl), c_wCell h4.1 h4.2]
    simp only [xFldV, List.toList_toArray, ruS, ruL, ruE, Nat.reduceAdd, reduceIte, Int.reduceLT, Int.reduceLE, Int.reduceEq, Int.reduceNeg, Int.reduceAdd, Int.reduceSub, Nat.reduceLeDiff, Nat.reduceLT]
    rw [c_Now, c_Aend hd]
    exact behind hN hd hk
  · rw [if_neg e] at hk
    simp only [e, w_ab_j1, w_ab_j1b, ruS, ruL, ruE, Nat.reduceAdd, reduceIte, Int.reduceLT, Int.reduceLE, Int.reduceEq, Int.reduceNeg, Int.reduceAdd, Int.reduceSub, Nat.reduceLeDiff, Nat.reduceLT]
    exact behind hN hd hk
theorem c_Ac6 (hN : N.ok) (hC : C.ok) (hA : isA N A σ) {p : Nat} {a : Ac} (hp : σ.get p = some ⟨a.l, true⟩) (hd : p ∉ N.l) (hw : ∀ i, 0 ≤ A.w i ∧ A.w i < 18446744073709551616) (hn : C.len ≤ A.n) (hf : a.fit C A) (h : a.pc = 6)
    (hk : ∀ τ, isA N (a.step C who A).2.2 τ → τ.get p = some ⟨(a.step C who A).2.1.l, true⟩ → Keep (p :: N.l) σ τ → K (.bool (a.step C who A).1) τ) :
    s_ab [.pointer (some ⟨p, 0, none⟩), N.env C who] K σ := by
  have hT := hC.T; have hS := hC.S; have hC3 := hC.C; have hl := len_bd hC
  have hch : C.chunk C.C = 6 + C.T + 2 * C.S + 3 * C.C := rfl
  have h2 := hf.hs
  have h3 := hf.w
  have h4 := hf.cell
  have hsb : 0 ≤ C.slot a.hs ∧ C.slot a.hs < A.n := by unfold Cf.slot; omega
  have hwa := hw (C.slot a.hs)
  have g4 : ∀ (k : Nat) (x y z w x' y' z' w' : Int), gStore 4 [.pointer (some ⟨k, 0, some 0⟩), .agg #[.int .i64 x, .int .i64 y, .int .i64 z, .int .i64 w]] [.int .i64 x', .int .i64 y', .int .i64 z', .int .i64 w'] = some [.int .i64 x, .int .i64 y, .int .i64 z, .int .i64 w] := fun _ _ _ _ _ _ _ _ _ => rfl
  rw [hA.obj hp]
  unfold Ac.step at hk
  rw [if_neg (by omega), if_neg (by omega), if_neg (by omega), if_neg (by omega), if_neg (by omega)] at hk
  simp only [s_ab, w_ab, ruS, ruL, ruE, Nat.reduceAdd, reduceIte, Int.reduceLT, Int.reduceLE, Int.reduceEq, Int.reduceNeg, Int.reduceAdd, Int.reduceSub, Nat.reduceLeDiff, Nat.reduceLT]
  rw [ldAx hd (show sub _ 8 1 false = some (.int .i64 a.pc) from rfl)]
  simp only [h, s_ad, w_ad, ruS, ruL, ruE, Nat.reduceAdd, reduceIte, Int.reduceLT, Int.reduceLE, Int.reduceEq, Int.reduceNeg, Int.reduceAdd, Int.reduceSub, Nat.reduceLeDiff, Nat.reduceLT]
  rw [ldAx hd (show sub _ 6 1 false = some (.int .i64 a.hs) from rfl), c_Slot hC h2.1 (by omega), c_Load hN hsb.1 hsb.2, c_wSlot hwa.1 hwa.2]
  simp only [g4, ruS, ruL, ruE, Nat.reduceAdd, reduceIte, Int.reduceLT, Int.reduceLE, Int.reduceEq, Int.reduceNeg, Int.reduceAdd, Int.reduceSub, Nat.reduceLeDiff, Nat.reduceLT]
  rw [ldAx hd (show sub _ 10 1 false = some (.int .u64 a.cell) from rfl), c_wCell h4.1 h4.2]
  simp only [xFldV, List.toList_toArray, sub4, ruS, ruL, ruE, Nat.reduceAdd, reduceIte, Int.reduceLT, Int.reduceLE, Int.reduceEq, Int.reduceNeg, Int.reduceAdd, Int.reduceSub, Nat.reduceLeDiff, Nat.reduceLT]
  rw [ldAx hd (show sub _ 6 2 true = some (.agg #[.int .i64 a.hs, .int .i64 a.hg]) from rfl), c_Live]
  by_cases hl' : lives (A.w (C.slot a.hs)) a.hg
  · have e : decide ((slS (A.w (C.slot a.hs)) = 1 ∨ slS (A.w (C.slot a.hs)) = 2 ∨ slS (A.w (C.slot a.hs)) = 4) ∧ slG (A.w (C.slot a.hs)) = a.hg) = true := decide_eq_true hl'
    rw [if_pos hl'] at hk
    simp only [e, ruS, ruL, ruE, Nat.reduceAdd, reduceIte, Int.reduceLT, Int.reduceLE, Int.reduceEq, Int.reduceNeg, Int.reduceAdd, Int.reduceSub, Nat.reduceLeDiff, Nat.reduceLT]
    rw [ldAx hd (show sub _ 9 1 false = some (.int .u64 a.w) from rfl), c_wSlot h3.1 h3.2]
    simp only [xFldV, List.toList_toArray, ruS, ruL, ruE, Nat.reduceAdd, reduceIte, Int.reduceLT, Int.reduceLE, Int.reduceEq, Int.reduceNeg, Int.reduceAdd, Int.reduceSub, Nat.reduceLeDiff, Nat.reduceLT]
    by_cases c1 : slA (A.w (C.slot a.hs)) = slA a.w
    · rw [if_pos c1] at hk
      simp only [c1, ne_eq, not_true_eq_false, ruS, ruL, ruE, Nat.reduceAdd, reduceIte, Int.reduceLT, Int.reduceLE, Int.reduceEq, Int.reduceNeg, Int.reduceAdd, Int.reduceSub, Nat.reduceLeDiff, Nat.reduceLT]
      rw [ldAx hd (show sub _ 0 1 false = some (.int .i64 a.kd) from rfl)]
      by_cases c2 : a.kd = 3
      · rw [if_pos c2] at hk
        simp only [c2, ruS, ruL, ruE, Nat.reduceAdd, reduceIte, Int.reduceLT, Int.reduceLE, Int.reduceEq, Int.reduceNeg, Int.reduceAdd, Int.reduceSub, Nat.reduceLeDiff, Nat.reduceLT]
        rw [ldAx hd (show sub _ 12 1 false = some (.int .i64 a.rd) from rfl), c_Aend hd]
        exact behind hN hd hk
      · rw [if_neg c2] at hk
        simp only [c2, ruS, ruL, ruE, Nat.reduceAdd, reduceIte, Int.reduceLT, Int.reduceLE, Int.reduceEq, Int.reduceNeg, Int.reduceAdd, Int.reduceSub, Nat.reduceLeDiff, Nat.reduceLT]
        rw [ldAx hd (show sub _ 12 1 false = some (.int .i64 a.rd) from rfl), c_Aend hd]
        exact behind hN hd hk
    · rw [if_neg c1] at hk
      simp only [c1, ne_eq, not_false_eq_true, ruS, ruL, ruE, Nat.reduceAdd, reduceIte, Int.reduceLT, Int.reduceLE, Int.reduceEq, Int.reduceNeg, Int.reduceAdd, Int.reduceSub, Nat.reduceLeDiff, Nat.reduceLT]
      rw [stAx { a with pc := 0 } hd rfl rfl (by decide) rfl]
      exact behind hN hd hk
  · have e : decide ((slS (A.w (C.slot a.hs)) = 1 ∨ slS (A.w (C.slot a.hs)) = 2 ∨ slS (A.w (C.slot a.hs)) = 4) ∧ slG (A.w (C.slot a.hs)) = a.hg) = false := decide_eq_false hl'
    rw [if_neg hl'] at hk
    simp only [e, ruS, ruL, ruE, Nat.reduceAdd, reduceIte, Int.reduceLT, Int.reduceLE, Int.reduceEq, Int.reduceNeg, Int.reduceAdd, Int.reduceSub, Nat.reduceLeDiff, Nat.reduceLT]
    rw [c_Now, c_Aend hd]
    exact behind hN hd hk
end Go.Fl
namespace Go.Fl
open Go
set_option linter.unusedVariables false
set_option linter.unusedSimpArgs false
variable {N : Nm} {A B : Ar} {σ : Mem} {K : Value → Mem → Prop} {C : Cf} {who : Int}
structure Ak where
  a : Ac
  h : Hl
def Ak.new (kd n ix v old : Int) (own : Bool) : Ak := ⟨Ac.new kd n ix v old own, Hl.new 0 0 0⟩
def Ak.step (C : Cf) (who : Int) (A : Ar) (m : Ak) : Bool × Ak × Ar :=
  if m.a.pc = 4 then
    if (m.h.step C who A).1 = true then (false, { m with a := { m.a with pc := 0 } }, (m.h.step C who A).2.2) else (false, { m with h := (m.h.step C who A).2.1 }, (m.h.step C who A).2.2)
  else ((m.a.step C who A).1, ⟨(m.a.step C who A).2.1, if m.a.pc = 2 then Hl.new m.a.hs m.a.w m.a.size else m.h⟩, (m.a.step C who A).2.2)
structure Ak.fit (C : Cf) (A : Ar) (m : Ak) : Prop where
  a : m.a.fit C A
  h : m.a.pc = 4 → m.h.fit C
def Ac.wh (a : Ac) (x : Option Nat) : Ac := { a with help := x }
theorem Ac.step_help {a : Ac} {x : Option Nat} : (a.wh x).step C who A = ((a.step C who A).1, (a.step C who A).2.1.wh x, (a.step C who A).2.2) := by
  obtain ⟨kd, n, ix, v, old, own, hs, hg, pc, w, cell, seen, rd, size, help, oE, oH, oV, oS⟩ := a
  unfold Ac.step Ac.wh Ac.at' Ac.fin Ac.nxt
  dsimp only
  repeat' split
  all_goals rfl
theorem Ac.step_pc {a : Ac} (h2 : a.pc ≠ 2) (h4 : a.pc ≠ 4) : (a.step C who A).2.1.pc ≠ 4 := by
  unfold Ac.step Ac.fin
  repeat' split
  all_goals (dsimp only; omega)
structure AOb (N : Nm) (p : Nat) (O : List Nat) (m : Ak) (τ : Mem) : Prop where
  obj : ∃ x, τ.get p = some ⟨(m.a.wh x).l, true⟩ ∧ (m.a.pc = 4 → ∃ q, x = some q ∧ q ∈ O ∧ q ≠ p ∧ τ.get q = some ⟨[] ++ m.h.l ++ [], true⟩)
  own : ∀ i ∈ O, i ∉ N.l
  p : p ∈ O
theorem AOb.ext {p : Nat} {O : List Nat} {m : Ak} {τ : Mem} (h : AOb N p O m σ) (x : Ext σ τ) : AOb N p O m τ := by
  obtain ⟨⟨a, h1, h2⟩, h4, h5⟩ := h
  refine ⟨⟨a, x _ _ h1, fun e => ?_⟩, h4, h5⟩
  obtain ⟨q, q1, q2, q3, q4⟩ := h2 e; exact ⟨q, q1, q2, q3, x _ _ q4⟩
theorem AOb.keep {p : Nat} {O L : List Nat} {m : Ak} {τ : Mem} (h : AOb N p O m σ) (x : Keep L σ τ) (hL : ∀ i ∈ O, i ∉ L) : AOb N p O m τ := by
  obtain ⟨⟨a, h1, h2⟩, h4, h5⟩ := h
  refine ⟨⟨a, x.get h1 (hL p h5), fun e => ?_⟩, h4, h5⟩
  obtain ⟨q, q1, q2, q3, q4⟩ := h2 e; exact ⟨q, q1, q2, q3, x.get q4 (hL q q2)⟩
theorem c_Acc_Step (hN : N.ok) (hC : C.ok) (hA : isA N A σ) {p : Nat} {O : List Nat} {m : Ak} (hO : AOb N p O m σ) (hw : ∀ i, 0 ≤ A.w i ∧ A.w i < 18446744073709551616) (hn : C.len ≤ A.n) (hf : m.fit C A)
    (hk : ∀ O' τ, (∀ i ∈ O', i ∈ O ∨ σ.get i = none) → isA N (m.step C who A).2.2 τ → AOb N p O' (m.step C who A).2.1 τ → Keep (O ++ N.l) σ τ → K (.bool (m.step C who A).1) τ) : s_ab [.pointer (some ⟨p, 0, none⟩), N.env C who] K σ := by
  obtain ⟨⟨x, hp, h3⟩, own, pO⟩ := hO
  have hd := own p pO
  have k1 : ∀ {τ : Mem}, Keep (p :: N.l) σ τ → Keep (O ++ N.l) σ τ := fun k => k.mono fun i hi => by
    rcases List.mem_cons.1 hi with rfl | hi
    · exact List.mem_append_left _ pO
    · exact List.mem_append_right _ hi
  have same : ∀ i ∈ O, i ∈ O ∨ σ.get i = none := fun i hi => .inl hi
  have cons : ∀ {q : Nat}, σ.get q = none → ∀ i ∈ q :: O, i ∈ O ∨ σ.get i = none := fun h i hi => by rcases List.mem_cons.1 hi with rfl | hi; exact .inr h; exact .inl hi
  have ownc : ∀ {q : Nat}, q ∉ N.l → ∀ i ∈ q :: O, i ∉ N.l := fun h i hi => by rcases List.mem_cons.1 hi with rfl | hi; exact h; exact own i hi
  have hpc := hf.a.pc
  have hfx : (m.a.wh x).fit C A := ⟨hf.a.pc, hf.a.n, hf.a.hs, hf.a.w, hf.a.cell, hf.a.a1, hf.a.a2, hf.a.bd⟩
  have hpx : (m.a.wh x).pc = m.a.pc := rfl
  by_cases c4 : m.a.pc = 4
  · unfold Ak.step at hk
    rw [if_pos c4] at hk
    obtain ⟨q, rfl, qO, qp, gq⟩ := h3 c4
    have k2 : ∀ {τ : Mem}, Keep (q :: p :: N.l) σ τ → Keep (O ++ N.l) σ τ := fun k => k.mono fun i hi => by
      rcases List.mem_cons.1 hi with rfl | hi
      · exact List.mem_append_left _ qO
      · rcases List.mem_cons.1 hi with rfl | hi
        · exact List.mem_append_left _ pO
        · exact List.mem_append_right _ hi
    refine c_Ac4 hN hC hA (a := m.a.wh (some q)) (t := m.h) hp hd gq (own q qO) qp hw hn c4 rfl (hf.h c4) (fun d τ u1 u2 u3 u4 => ?_) (fun d τ u1 u2 u3 => ?_)
    · rw [if_neg (by rw [d]; decide)] at hk
      exact hk O τ same u1 ⟨⟨some q, u2, fun _ => ⟨q, rfl, qO, qp, u3⟩⟩, own, pO⟩ (k2 u4)
    · rw [if_pos d] at hk
      exact hk O τ same u1 ⟨⟨some q, u2, fun e => by dsimp only at e; omega⟩, own, pO⟩ (k2 u3)
  unfold Ak.step at hk
  rw [if_neg c4] at hk
  by_cases c2 : m.a.pc = 2
  · rw [if_pos c2] at hk
    have e := Ac.step_help (C := C) (who := who) (A := A) (a := m.a) (x := x)
    refine c_Ac2 hN hC hA (a := m.a.wh x) (who := who) hp hd hw hfx c2 ?_ ?_
    · rw [e]
      intro c τ u1 u2 u3
      exact hk O τ same u1 ⟨⟨x, u2, fun q => absurd q c⟩, own, pO⟩ (k1 u3)
    · rw [e]
      intro c q τ q1 q2 u1 u2 u3 u4
      exact hk (q :: O) τ (cons q1) u1 ⟨⟨some q, u2, fun _ => ⟨q, rfl, List.mem_cons_self .., q2, by rw [List.nil_append, List.append_nil]; exact u3⟩⟩, ownc (hA.new q1), List.mem_cons_of_mem _ pO⟩ (k1 u4)
  rw [if_neg c2] at hk
  have np := Ac.step_pc (C := C) (who := who) (A := A) c2 c4
  have hk' : ∀ τ, isA N ((m.a.wh x).step C who A).2.2 τ → τ.get p = some ⟨((m.a.wh x).step C who A).2.1.l, true⟩ → Keep (p :: N.l) σ τ → K (.bool ((m.a.wh x).step C who A).1) τ := by
    rw [Ac.step_help]
    intro τ u1 u2 u3
    exact hk O τ same u1 ⟨⟨x, u2, fun q => absurd q np⟩, own, pO⟩ (k1 u3)
  rcases (show m.a.pc = 0 ∨ m.a.pc = 1 ∨ m.a.pc = 3 ∨ m.a.pc = 5 ∨ m.a.pc = 6 by omega) with c | c | c | c | c
  · exact c_Ac0 hN hC hA hp hd hw hn hfx c hk'
  · exact c_Ac1 hN hC hA hp hd hw hfx c hk'
  · exact c_Ac3 hN hC hA hp hd hn hfx c hk'
  · exact c_Ac5 hN hC hA hp hd hfx c hk'
  · exact c_Ac6 hN hC hA hp hd hw hn hfx c hk'
theorem AOb.done {p : Nat} {O : List Nat} {m : Ak} (hA : isA N A σ) (h : AOb N p O m σ) (hk : K (.agg #[.int .i64 m.a.oE, .int .u64 m.a.oH, .int .i64 m.a.oV, .int .i64 m.a.oS]) σ) : s_aa [.pointer (some ⟨p, 0, none⟩)] K σ := by
  obtain ⟨⟨x, hp, _⟩, own, pO⟩ := h
  exact c_AccDone hA (a := m.a.wh x) hp hk
theorem aob_new {kd n ix v old : Int} {o : Bool} (hA : isA N A σ) (hk : ∀ p τ, σ.get p = none → AOb N p [p] (Ak.new kd n ix v old o) τ → Ext σ τ → K (.pointer (some ⟨p, 0, none⟩)) τ) : s_ag [.agg #[.int .i64 kd, .int .u64 n, .int .i64 ix, .int .i64 v, .int .i64 old], .bool o] K σ := by
  refine c_AccNew fun p τ hp gp x => hk p τ hp ⟨⟨none, gp, (fun e => by cases e)⟩, fun i hi => ?_, List.mem_singleton.2 rfl⟩ x
  rw [List.mem_singleton.1 hi]; exact hA.new hp
theorem c_Acc (hN : N.ok) (hC : C.ok) (hA : isA N A σ) {kd n ix v old : Int} {o : Bool} (I : Int → Ak → Ar → Prop) (D : Ak → Ar → Prop) (h0 : I 0 (Ak.new kd n ix v old o) A)
    (hs : ∀ k m A, 0 ≤ k → k < 200 → I k m A → m.fit C A ∧ (∀ i, 0 ≤ A.w i ∧ A.w i < 18446744073709551616) ∧ C.len ≤ A.n ∧ if (m.step C who A).1 = true then D (m.step C who A).2.1 (m.step C who A).2.2 else I (k + 1) (m.step C who A).2.1 (m.step C who A).2.2)
    (he : ∀ m A, I 200 m A → D m A) (hk : ∀ m A' τ, D m A' → isA N A' τ → Keep N.l σ τ → K (.agg #[.int .i64 m.a.oE, .int .u64 m.a.oH, .int .i64 m.a.oV, .int .i64 m.a.oS]) τ) :
    s_ay [N.env C who, .agg #[.int .i64 kd, .int .u64 n, .int .i64 ix, .int .i64 v, .int .i64 old], .bool o] K σ := by
  have gs : ∀ x y z w : Int, gStore 4 [.pointer (some ⟨6, 0, some 0⟩), .agg #[.int .i64 x, .int .u64 y, .int .i64 z, .int .i64 w]] [.int .i64 0, .int .u64 0, .int .i64 0, .int .i64 0] = some [.int .i64 x, .int .u64 y, .int .i64 z, .int .i64 w] := fun _ _ _ _ => rfl
  have g : gBox 5 [.agg #[.int .i64 kd, .int .u64 n, .int .i64 ix, .int .i64 v, .int .i64 old]] [] = some [.int .i64 kd, .int .u64 n, .int .i64 ix, .int .i64 v, .int .i64 old] := rfl
  have s5 : ∀ x y z u w : Value, sub [x, y, z, u, w] 0 5 true = some (.agg #[x, y, z, u, w]) := fun _ _ _ _ _ => rfl
  simp only [s_ay, w_ay, g, s5, ruS, ruL, ruE, Nat.reduceAdd, reduceIte, Int.reduceLT, Int.reduceLE, Int.reduceEq, Int.reduceNeg, Int.reduceAdd, Int.reduceSub, Nat.reduceLeDiff, Nat.reduceLT]
  refine aob_new hA fun p τ0 hp ho x0 => ?_
  have fin : ∀ m A' τ, D m A' → isA N A' τ → (∃ O, AOb N p O m τ) → Keep N.l σ τ → w_ay_j1 K [.pointer (some ⟨p, 0, none⟩)] [[.int .i64 0, .int .u64 0, .int .i64 0, .int .i64 0]] τ := by
    rintro m A' τ hD hA' ⟨O, hO⟩ hK
    simp only [w_ay_j1, w_ay_j1b, ruS, ruL, ruE, Nat.reduceAdd, reduceIte, Int.reduceLT, Int.reduceLE, Int.reduceEq, Int.reduceNeg, Int.reduceAdd, Int.reduceSub, Nat.reduceLeDiff, Nat.reduceLT]
    refine AOb.done hA' hO ?_
    simp only [gs, sub4, ruS, ruL, ruE, Nat.reduceAdd, reduceIte, Int.reduceLT, Int.reduceLE, Int.reduceEq, Int.reduceNeg, Int.reduceAdd, Int.reduceSub, Nat.reduceLeDiff, Nat.reduceLT]
    exact hk m A' τ hD hA' hK
  refine xLoop_i (fun i => [.pointer (some ⟨p, 0, none⟩), .int .i64 i]) [N.el C who, [.int .i64 0, .int .u64 0, .int .i64 0, .int .i64 0]] 200
    (fun i τ => ∃ m A' O, 0 ≤ i ∧ i ≤ 200 ∧ isA N A' τ ∧ I i m A' ∧ AOb N p O m τ ∧ (∀ j ∈ O, σ.get j = none) ∧ Keep N.l σ τ) ?_ ⟨_, A, [p], by omega, by omega, hA.ext x0, h0, ho, fun j hj => by rw [List.mem_singleton.1 hj]; exact hp, x0.keep⟩
  rintro i τ ⟨m, A', O, i0, i1, hA', hI, hO, hOn, hK⟩ R hR
  simp only [w_law10_Do_l4, w_law10_Do_l4b, ruS, ruL, ruE, Nat.reduceAdd, reduceIte, Int.reduceLT, Int.reduceLE, Int.reduceEq, Int.reduceNeg, Int.reduceAdd, Int.reduceSub, Nat.reduceLeDiff, Nat.reduceLT]
  by_cases ci : i < 200
  · simp only [ci, ruS, ruL, ruE, Nat.reduceAdd, reduceIte, Int.reduceLT, Int.reduceLE, Int.reduceEq, Int.reduceNeg, Int.reduceAdd, Int.reduceSub, Nat.reduceLeDiff, Nat.reduceLT]
    obtain ⟨hf, hw, hn, hst⟩ := hs i m A' i0 ci hI
    refine c_Acc_Step hN hC hA' hO hw hn hf fun O' τ' hO' hA2 hO2 hK2 => ?_
    have hK3 : Keep N.l σ τ' := by
      intro j b hj hn'
      refine hK2 j b (hK j b hj hn') fun hm => ?_
      rcases List.mem_append.1 hm with h | h
      · rw [hOn j h] at hj; cases hj
      · exact hn' h
    have hOn' : ∀ j ∈ O', σ.get j = none := by
      intro j hj
      rcases hO' j hj with h | h
      · exact hOn j h
      · cases e : σ.get j with
        | none => rfl
        | some b => rw [hK j b e (hA'.new h)] at h; cases h
    generalize m.step C who A' = r at *
    obtain ⟨d, m', A2⟩ := r
    dsimp only at *
    cases d with
    | true =>
      simp only [ruS, ruL, ruE, Nat.reduceAdd, reduceIte, Int.reduceLT, Int.reduceLE, Int.reduceEq, Int.reduceNeg, Int.reduceAdd, Int.reduceSub, Nat.reduceLeDiff, Nat.reduceLT] at hst ⊢
      exact fin m' A2 τ' hst hA2 ⟨O', hO2⟩ hK3
    | false =>
      simp only [ruS, ruL, ruE, Nat.reduceAdd, reduceIte, Int.reduceLT, Int.reduceLE, Int.reduceEq, Int.reduceNeg, Int.reduceAdd, Int.reduceSub, Nat.reduceLeDiff, Nat.reduceLT] at hst ⊢
      rw [IntWalk.i64_in (i + 1) (by omega)]
      exact hR _ ci ⟨m', A2, O', by omega, by omega, hA2, hst, hO2, hOn', hK3⟩
  · simp only [ci, ruS, ruL, ruE, Nat.reduceAdd, reduceIte, Int.reduceLT, Int.reduceLE, Int.reduceEq, Int.reduceNeg, Int.reduceAdd, Int.reduceSub, Nat.reduceLeDiff, Nat.reduceLT]
    have : i = 200 := by omega
    subst this
    exact fin m A' τ (he _ _ hI) hA' ⟨O, hO⟩ hK
end Go.Fl
namespace Go.Fl
open Go
set_option linter.unusedVariables false
set_option linter.unusedSimpArgs false
variable {N : Nm} {A B : Ar} {σ : Mem} {K : Value → Mem → Prop} {C : Cf} {who : Int}
theorem Ak.new_fit (hC : C.ok) {kd n ix v old : Int} {o : Bool} (hn : 0 ≤ n ∧ n < 18446744073709551616) (hb : (A.n : Int) ≤ 200000000) : (Ak.new kd n ix v old o).fit C A := by
  have hS := hC.S
  exact ⟨⟨⟨Int.le_refl 0, (by decide : (0 : Int) ≤ 6)⟩, hn, ⟨Int.le_refl 0, by show (0 : Int) < C.S; omega⟩, ⟨Int.le_refl 0, (by decide : (0 : Int) < 18446744073709551616)⟩, ⟨Int.le_refl 0, (by decide : (0 : Int) < 18446744073709551616)⟩, fun e => (by cases e), fun e => (by rcases e with e | e <;> cases e), hb⟩, fun e => (by cases e)⟩
end Go.Fl
namespace Go.Fl
open Go
set_option linter.unusedVariables false
set_option linter.unusedSimpArgs false
variable {N : Nm} {A B : Ar} {σ : Mem} {K : Value → Mem → Prop} {C : Cf} {who : Int}
structure Ol (C : Cf) (w : Int → Int) (n : Int) (own : Bool) (z a : Int) : Prop where
  nb : 0 ≤ n ∧ n < 18446744073709551616
  ok : hdOk n = true
  s : hdSl n < C.S
  st : slS (w (C.slot (hdSl n))) = 1
  ad : slA (w (C.slot (hdSl n))) = a
  ge : slG (w (C.slot (hdSl n))) = hdGe n
  hd : hdO (w a) = own ∧ hdS (w a) = z
  bd : C.base 0 ≤ a ∧ a + z < C.len
  z1 : 1 ≤ z
  cl : ∀ x, 0 ≤ x → x < z → ceF (w (a + 1 + x)) = false
def Looks (m : Ak) (c : Int) : Prop := m.a.kd = 1 ∨ m.a.kd = 3 ∧ ceV c ≠ m.a.old
def LvI (C : Cf) (A0 : Ar) (m0 : Ak) (z a k : Int) (m : Ak) (A : Ar) : Prop :=
  k = 0 ∧ m = m0 ∧ A = A0 ∨
  (A.w = A0.w ∧ A.s = A0.s + k ∧ A.n = A0.n ∧ (∀ bb, A0.ok bb → A.ok (bb + k))) ∧
    (m.a.kd = m0.a.kd ∧ m.a.n = m0.a.n ∧ m.a.ix = m0.a.ix ∧ m.a.v = m0.a.v ∧ m.a.old = m0.a.old ∧ m.a.own = m0.a.own ∧ m.a.hs = hdSl m0.a.n ∧ m.a.hg = hdGe m0.a.n ∧ m.a.w = A0.w (C.slot (hdSl m0.a.n))) ∧
    (k = 1 ∧ m.a.pc = 1 ∧ m.a.cell = 0 ∧ m.a.seen = A0.s + 1 ∨ (0 ≤ m0.a.ix ∧ m0.a.ix < z) ∧ (k = 2 ∧ m.a.pc = 2 ∧ m.a.cell = 0 ∨
      k = 3 ∧ m.a.cell = A0.w (a + 1 + m0.a.ix) ∧ m.a.rd = A0.s + 3 ∧ (m.a.pc = 5 ∧ ¬ Looks m0 m.a.cell ∨ m.a.pc = 6 ∧ Looks m0 m.a.cell)))
structure LvD (C : Cf) (A0 : Ar) (m0 : Ak) (z a : Int) (m : Ak) (A : Ar) : Prop where
  r : ¬ (0 ≤ m0.a.ix ∧ m0.a.ix < z) ∧ m.a.oE = 4 ∧ m.a.oV = 0 ∧ m.a.oS = A0.s + 1 ∧ A.s = A0.s + 2 ∧ A.w = A0.w ∨
    (0 ≤ m0.a.ix ∧ m0.a.ix < z) ∧ A.s = A0.s + 4 ∧ m.a.oV = ceV (A0.w (a + 1 + m0.a.ix)) ∧
      (Looks m0 (A0.w (a + 1 + m0.a.ix)) ∧ m.a.oE = (if m0.a.kd = 3 then 8 else 0) ∧ m.a.oS = A0.s + 3 ∧ A.w = A0.w ∨
       ¬ Looks m0 (A0.w (a + 1 + m0.a.ix)) ∧ m.a.oE = 0 ∧ m.a.oS = A0.s + 4 ∧ A.w = upd A0.w (a + 1 + m0.a.ix) (putCell m0.a.v false 0))
  h : m.a.oH = 0
  n : A.n = A0.n
  ok : ∀ bb, A0.ok bb → A.ok (bb + 4)
theorem LvI.step (hC : C.ok) {A0 : Ar} {k bb z a kd n ix v old : Int} {own : Bool} {m : Ak} (h : LvI C A0 (Ak.new kd n ix v old own) z a k m A) (ho : Ol C A0.w n own z a) (ok : A0.ok bb) (hb : bb < 4611686018427387904) (hl : C.len ≤ A0.n) (hb2 : (A0.n : Int) ≤ 200000000) :
    m.fit C A ∧ ((∀ i, 0 ≤ A.w i ∧ A.w i < 18446744073709551616) ∧ C.len ≤ A.n) ∧
    (((m.step C who A).1 = false ∧ LvI C A0 (Ak.new kd n ix v old own) z a (k + 1) (m.step C who A).2.1 (m.step C who A).2.2) ∨ ((m.step C who A).1 = true ∧ LvD C A0 (Ak.new kd n ix v old own) z a (m.step C who A).2.1 (m.step C who A).2.2)) := by
  have hT := hC.T
  have hS := hC.S
  have hCC := hC.C
  have hll := len_bd hC
  have hsl := hdSl_bd ho.nb.1
  have hos := ho.s
  have hbd := ho.bd
  have hz1 := ho.z1
  have hb0 : C.base 0 = 6 + C.T + 2 * C.S + 3 * C.C := by unfold Cf.base; omega
  have hsb : 0 ≤ C.slot (hdSl n) ∧ C.slot (hdSl n) < C.base 0 := by unfold Cf.slot; omega
  have hlv : lives (A0.w (C.slot (hdSl n))) (hdGe n) := ⟨.inl ho.st, ho.ge⟩
  have hn0 : (Ak.new kd n ix v old own).a.n = n := rfl
  have hk0 : (Ak.new kd n ix v old own).a.kd = kd := rfl
  have hi0 : (Ak.new kd n ix v old own).a.ix = ix := rfl
  have hv0 : (Ak.new kd n ix v old own).a.v = v := rfl
  have hd0 : (Ak.new kd n ix v old own).a.old = old := rfl
  have hw0 : (Ak.new kd n ix v old own).a.own = own := rfl
  rcases h with ⟨rfl, rfl, rfl⟩ | ⟨⟨ew, es, en, eo⟩, ⟨f1, f2, f3, f4, f5, f6, f7, f8, f9⟩, h⟩
  · refine ⟨Ak.new_fit hC ho.nb hb2, ⟨ok.w, hl⟩, ?_⟩
    have p0 : (Ak.new kd n ix v old own).a.pc = 0 := rfl
    have a1 := aft_load (who := who) (A := A) (a := C.slot (hdSl n)) ok (by omega)
    have e0 : (Ak.new kd n ix v old own).step C who A = (((Ak.new kd n ix v old own).a.step C who A).1, ⟨((Ak.new kd n ix v old own).a.step C who A).2.1, (Ak.new kd n ix v old own).h⟩, ((Ak.new kd n ix v old own).a.step C who A).2.2) := by
      unfold Ak.step; rw [if_neg (by rw [p0]; decide), if_neg (by rw [p0]; decide)]
    have e : (Ak.new kd n ix v old own).a.step C who A = (false, { (Ak.new kd n ix v old own).a with hs := hdSl n, hg := hdGe n, w := A.w (C.slot (hdSl n)), seen := ((A.by who).load (C.slot (hdSl n))).s, pc := 1 }, (A.by who).load (C.slot (hdSl n))) := by
      unfold Ac.step; rw [if_pos p0, if_neg (by rw [hn0]; rintro (q | q); rw [ho.ok] at q; cases q; omega), if_pos (by rw [hn0]; exact hlv)]; rfl
    rw [e0, e]
    exact .inl ⟨rfl, .inr ⟨⟨rfl, a1.s, rfl, fun b2 o2 => a1.ok (by decide) o2 o2.w⟩, ⟨rfl, rfl, rfl, rfl, rfl, rfl, rfl, rfl, rfl⟩, .inl ⟨rfl, rfl, rfl, a1.s⟩⟩⟩
  rw [hk0] at f1; rw [hn0] at f2 f7 f8 f9; rw [hi0] at f3 h; rw [hv0] at f4; rw [hd0] at f5; rw [hw0] at f6
  have ok' := eo bb ok
  have hkk : 0 ≤ k ∧ k ≤ 3 := by rcases h with ⟨h, _⟩ | ⟨_, ⟨h, _⟩ | ⟨h, _⟩⟩ <;> omega
  have esa : slA m.a.w = a := by rw [f9]; exact ho.ad
  have eat : m.a.at' = a + 1 + ix := by unfold Ac.at'; rw [esa, f3]
  have hcell : 0 ≤ m.a.cell ∧ m.a.cell < 18446744073709551616 := by
    rcases h with ⟨_, _, h, _⟩ | ⟨_, ⟨_, _, h⟩ | ⟨_, h, _⟩⟩
    · rw [h]; decide
    · rw [h]; decide
    · rw [h]; exact ok.w _
  have hfit : m.fit C A := by
    refine ⟨⟨?_, by rw [f2]; exact ho.nb, by rw [f7]; exact ⟨hsl.1.1, hos⟩, by rw [f9]; exact ok.w _, hcell, fun _ => by omega, fun e => ?_, by omega⟩, fun e => ?_⟩
    · rcases h with ⟨_, h, _⟩ | ⟨_, ⟨_, h, _⟩ | ⟨_, _, _, ⟨h, _⟩ | ⟨h, _⟩⟩⟩ <;> omega
    · rw [eat]
      rcases h with ⟨_, h, _⟩ | ⟨hi, _⟩ <;> omega
    · rcases h with ⟨_, h, _⟩ | ⟨_, ⟨_, h, _⟩ | ⟨_, _, _, ⟨h, _⟩ | ⟨h, _⟩⟩⟩ <;> omega
  refine ⟨hfit, ⟨ok'.w, by omega⟩, ?_⟩
  rcases h with ⟨rfl, h1, h2, h3⟩ | ⟨hi, ⟨rfl, h1, h2⟩ | ⟨rfl, h1, h2, h3⟩⟩
  · have a1 := aft_load (who := who) (A := A) (a := slA m.a.w) ok' (by omega)
    have e0 : m.step C who A = ((m.a.step C who A).1, ⟨(m.a.step C who A).2.1, m.h⟩, (m.a.step C who A).2.2) := by
      unfold Ak.step; rw [if_neg (by omega), if_neg (by omega)]
    have own' : ¬ hdO (A.w (slA m.a.w)) ≠ m.a.own := by rw [esa, ew, f6, ho.hd.1]; simp
    by_cases c : m.a.ix < 0 ∨ hdS (A.w (slA m.a.w)) ≤ m.a.ix
    · have e : m.a.step C who A = (true, ({ m.a with size := hdS (A.w (slA m.a.w)), pc := 2 } : Ac).fin 4 0 m.a.seen, (A.by who).load (slA m.a.w)) := by
        unfold Ac.step; rw [if_neg (by omega), if_pos h1, if_neg own', if_pos c]
      rw [e0, e]
      rw [esa, ew, ho.hd.2, f3] at c
      exact .inr ⟨rfl, ⟨.inl ⟨by rw [hi0]; omega, rfl, rfl, h3, by have := a1.s; show ((A.by who).load (slA m.a.w)).s = _; omega, ew⟩, rfl, en, fun b2 o2 => ok_mono (a1.ok (by decide) (eo b2 o2) (eo b2 o2).w) (by omega)⟩⟩
    · have e : m.a.step C who A = (false, { m.a with size := hdS (A.w (slA m.a.w)), pc := 2 }, (A.by who).load (slA m.a.w)) := by
        unfold Ac.step; rw [if_neg (by omega), if_pos h1, if_neg own', if_neg c]
      rw [e0, e]
      rw [esa, ew, ho.hd.2, f3] at c
      exact .inl ⟨rfl, .inr ⟨⟨ew, by have := a1.s; show ((A.by who).load (slA m.a.w)).s = _; omega, en, fun b2 o2 => by rw [show b2 + (1 + 1) = b2 + 1 + 1 by omega]; exact a1.ok (by decide) (eo b2 o2) (eo b2 o2).w⟩, ⟨f1, f2, f3, f4, f5, f6, f7, f8, f9⟩, .inr ⟨by rw [hi0]; omega, .inl ⟨rfl, rfl, h2⟩⟩⟩⟩
  · have a1 := aft_load (who := who) (A := A) (a := m.a.at') ok' (by omega)
    have e0 : m.step C who A = ((m.a.step C who A).1, ⟨(m.a.step C who A).2.1, Hl.new m.a.hs m.a.w m.a.size⟩, (m.a.step C who A).2.2) := by
      unfold Ak.step; rw [if_neg (by omega), if_pos h1]
    have e : m.a.step C who A = (false, { m.a with cell := A.w m.a.at', rd := ((A.by who).load m.a.at').s, pc := ({ m.a with cell := A.w m.a.at' } : Ac).nxt }, (A.by who).load m.a.at') := by
      unfold Ac.step; rw [if_neg (by omega), if_neg (by omega), if_pos h1]
    rw [e0, e]
    have ecl : A.w m.a.at' = A0.w (a + 1 + ix) := by rw [eat, ew]
    have hce := ho.cl ix hi.1 hi.2
    have nx : ({ m.a with cell := A.w m.a.at' } : Ac).nxt = if m.a.kd = 1 ∨ m.a.kd = 3 ∧ ceV (A.w m.a.at') ≠ m.a.old then 6 else 5 := by
      unfold Ac.nxt
      dsimp only
      have hs1 : ¬ slS m.a.w = 4 := by rw [f9, ho.st]; decide
      rw [if_neg hs1, if_pos (show ceF (A.w m.a.at') = false ∨ ceN (A.w m.a.at') < slV m.a.w from .inl (by rw [ecl]; exact hce))]
    refine .inl ⟨rfl, .inr ⟨⟨ew, by have := a1.s; show ((A.by who).load m.a.at').s = _; omega, en, fun b2 o2 => by rw [show b2 + (2 + 1) = b2 + 2 + 1 by omega]; exact a1.ok (by decide) (eo b2 o2) (eo b2 o2).w⟩, ⟨f1, f2, f3, f4, f5, f6, f7, f8, f9⟩, .inr ⟨hi, .inr ⟨rfl, ecl, by have := a1.s; show ((A.by who).load m.a.at').s = _; omega, ?_⟩⟩⟩⟩
    show ({ m.a with cell := A.w m.a.at' } : Ac).nxt = 5 ∧ ¬ Looks _ (A.w m.a.at') ∨ ({ m.a with cell := A.w m.a.at' } : Ac).nxt = 6 ∧ Looks _ (A.w m.a.at')
    rw [nx, f1, f5]
    unfold Looks
    rw [hk0, hd0]
    by_cases c : kd = 1 ∨ kd = 3 ∧ ceV (A.w m.a.at') ≠ old
    · rw [if_pos c]; exact .inr ⟨rfl, c⟩
    · rw [if_neg c]; exact .inl ⟨rfl, c⟩
  · have e0 : m.step C who A = ((m.a.step C who A).1, ⟨(m.a.step C who A).2.1, m.h⟩, (m.a.step C who A).2.2) := by
      unfold Ak.step; rw [if_neg (by rcases h3 with ⟨h, _⟩ | ⟨h, _⟩ <;> omega), if_neg (by rcases h3 with ⟨h, _⟩ | ⟨h, _⟩ <;> omega)]
    rcases h3 with ⟨hp, hq⟩ | ⟨hp, hq⟩
    · have a1 := aft_cas (who := who) (A := A) (a := m.a.at') (o := m.a.cell) (v := putCell m.a.v false 0) ok' (by omega)
      have ec : A.w m.a.at' = m.a.cell := by rw [eat, ew, h1]
      rw [if_pos ec] at a1
      have e : m.a.step C who A = (true, ({ m.a with pc := 0 } : Ac).fin 0 (ceV m.a.cell) ((A.by who).cas m.a.at' m.a.cell (putCell m.a.v false 0)).s, (A.by who).cas m.a.at' m.a.cell (putCell m.a.v false 0)) := by
        unfold Ac.step; rw [if_neg (by omega), if_neg (by omega), if_neg (by omega), if_neg (by omega), if_pos hp, if_pos ec]
      rw [e0, e]
      refine .inr ⟨rfl, ⟨.inr ⟨hi, by have := a1.s; show ((A.by who).cas _ _ _).s = _; omega, by show ceV m.a.cell = _; rw [h1, hi0], .inr ⟨by rw [hi0, ← h1]; exact hq, rfl, by have := a1.s; show ((A.by who).cas _ _ _).s = _; omega, ?_⟩⟩, rfl, by show ((A.by who).cas _ _ _).n = _; rw [a1.n, en], fun b2 o2 => ?_⟩⟩
      · show ((A.by who).cas _ _ _).w = _; rw [a1.w, ew, eat, hi0, hv0, f4]
      · rw [show b2 + 4 = b2 + 3 + 1 by omega]
        exact a1.ok (by decide) (eo b2 o2) fun i => upd_cases (P := fun x => 0 ≤ x ∧ x < 18446744073709551616) (putCell_in _ _ _) (ok'.w i)
    · have a1 := aft_load (who := who) (A := A) (a := C.slot m.a.hs) ok' (by omega)
      have l1 : lives (A.w (C.slot m.a.hs)) m.a.hg := by rw [f7, f8, ew]; exact hlv
      have l2 : slA (A.w (C.slot m.a.hs)) = slA m.a.w := by rw [f7, f9, ew]
      have e : m.a.step C who A = (true, m.a.fin (if m.a.kd = 3 then 8 else 0) (ceV m.a.cell) m.a.rd, (A.by who).load (C.slot m.a.hs)) := by
        unfold Ac.step; rw [if_neg (by omega), if_neg (by omega), if_neg (by omega), if_neg (by omega), if_neg (by omega), if_pos l1, if_pos l2]
      rw [e0, e]
      exact .inr ⟨rfl, ⟨.inr ⟨hi, by have := a1.s; show ((A.by who).load _).s = _; omega, by show ceV m.a.cell = _; rw [h1, hi0], .inl ⟨by rw [hi0, ← h1]; exact hq, by show (if m.a.kd = 3 then 8 else 0) = _; rw [f1, hk0], h2, ew⟩⟩, rfl, en, fun b2 o2 => by rw [show b2 + 4 = b2 + 3 + 1 by omega]; exact a1.ok (by decide) (eo b2 o2) (eo b2 o2).w⟩⟩
theorem c_AccL (hN : N.ok) (hC : C.ok) (hA : isA N A σ) {n bb z a kd ix v old : Int} {own : Bool} (ho : Ol C A.w n own z a) (ok : A.ok bb) (hb : bb < 4611686018427387904) (hl : C.len ≤ A.n) (hb2 : (A.n : Int) ≤ 200000000)
    (hk : ∀ m A' τ, LvD C A (Ak.new kd n ix v old own) z a m A' → isA N A' τ → Keep N.l σ τ → K (.agg #[.int .i64 m.a.oE, .int .u64 0, .int .i64 m.a.oV, .int .i64 m.a.oS]) τ) :
    s_ay [N.env C who, .agg #[.int .i64 kd, .int .u64 n, .int .i64 ix, .int .i64 v, .int .i64 old], .bool own] K σ := by
  refine c_Acc hN hC hA (LvI C A (Ak.new kd n ix v old own) z a) (LvD C A (Ak.new kd n ix v old own) z a) (.inl ⟨rfl, rfl, rfl⟩) (fun k m A' k0 k1 h => ?_) (fun m A' h => ?_) (fun m A' τ hD hA' hK => ?_)
  · obtain ⟨q1, q2, q3⟩ := h.step (who := who) hC ho ok hb hl hb2
    refine ⟨q1, q2.1, q2.2, ?_⟩
    rcases q3 with ⟨d, h'⟩ | ⟨d, h'⟩
    · rw [if_neg (by rw [d]; decide)]; exact h'
    · rw [if_pos d]; exact h'
  · rcases h with ⟨h, _⟩ | ⟨_, _, ⟨h, _⟩ | ⟨_, ⟨h, _⟩ | ⟨h, _⟩⟩⟩ <;> omega
  · rw [hD.h]; exact hk m A' τ hD hA' hK
end Go.Fl
namespace Go.Fl
open Go
set_option linter.unusedVariables false
set_option linter.unusedSimpArgs false
variable {N : Nm} {A B : Ar} {σ : Mem} {K : Value → Mem → Prop} {C : Cf} {who : Int}
theorem ceF_lay {v : Int} : ceF (putCell v false 0) = false := decide_eq_false (by unfold putCell cl; simp only [Bool.false_eq_true, if_false]; omega)
theorem putCell_lay {v : Int} (h : 0 ≤ v ∧ v ≤ 1099511627775) : putCell v false 0 = v := by unfold putCell; simp only [Bool.false_eq_true, if_false]; exact cl_in h.1 h.2
def Lk (kd old c : Int) : Prop := kd = 1 ∨ kd = 3 ∧ ceV c ≠ old
instance {kd old c : Int} : Decidable (Lk kd old c) := by unfold Lk; infer_instance
structure Lo (C : Cf) (n : Int) (own : Bool) (z W kd ix v old : Int) (m : Ak) : Prop where
  f : m.a.kd = kd ∧ m.a.n = n ∧ m.a.ix = ix ∧ m.a.v = v ∧ m.a.old = old ∧ m.a.own = own
  hs : 0 ≤ m.a.hs ∧ m.a.hs < C.S
  w : 0 ≤ m.a.w ∧ m.a.w < 18446744073709551616
  cell : 0 ≤ m.a.cell ∧ m.a.cell < 18446744073709551616
  at' : m.a.pc = 0 ∨ (m.a.hs = hdSl n ∧ m.a.hg = hdGe n ∧ m.a.w = W) ∧ (m.a.pc = 1 ∨ (0 ≤ ix ∧ ix < z) ∧ (m.a.pc = 2 ∨ ceF m.a.cell = false ∧ (m.a.pc = 5 ∧ ¬ Lk kd old m.a.cell ∨ m.a.pc = 6 ∧ Lk kd old m.a.cell)))
theorem Lo.new (hC : C.ok) {n z W kd ix v old : Int} {own : Bool} : Lo C n own z W kd ix v old (Ak.new kd n ix v old own) := by
  have hS := hC.S
  exact ⟨⟨rfl, rfl, rfl, rfl, rfl, rfl⟩, ⟨Int.le_refl 0, by show (0 : Int) < C.S; omega⟩, ⟨Int.le_refl 0, (by decide : (0 : Int) < 18446744073709551616)⟩, ⟨Int.le_refl 0, (by decide : (0 : Int) < 18446744073709551616)⟩, .inl rfl⟩
inductive LoR (C : Cf) (who n : Int) (own : Bool) (z a W kd ix v old : Int) (A : Ar) (m : Ak) : Bool → Ak → Ar → Prop
  | see {m' : Ak} : m.a.pc = 0 → Lo C n own z W kd ix v old m' → m'.a.pc = 1 → m'.a.seen = A.s + 1 → LoR C who n own z a W kd ix v old A m false m' ((A.by who).load (C.slot (hdSl n)))
  | head {m' : Ak} : m.a.pc = 1 → Lo C n own z W kd ix v old m' → m'.a.pc = 2 → 0 ≤ ix ∧ ix < z → LoR C who n own z a W kd ix v old A m false m' ((A.by who).load a)
  | index {m' : Ak} : m.a.pc = 1 → ¬ (0 ≤ ix ∧ ix < z) → m'.a.oE = 4 ∧ m'.a.oH = 0 ∧ m'.a.oV = 0 ∧ m'.a.oS = m.a.seen → LoR C who n own z a W kd ix v old A m true m' ((A.by who).load a)
  | load {m' : Ak} : m.a.pc = 2 → 0 ≤ ix ∧ ix < z → Lo C n own z W kd ix v old m' → m'.a.cell = A.w (a + 1 + ix) → m'.a.rd = A.s + 1 → (m'.a.pc = 5 ∧ ¬ Lk kd old m'.a.cell ∨ m'.a.pc = 6 ∧ Lk kd old m'.a.cell) → LoR C who n own z a W kd ix v old A m false m' ((A.by who).load (a + 1 + ix))
  | lay {m' : Ak} : m.a.pc = 5 → 0 ≤ ix ∧ ix < z → ¬ Lk kd old m.a.cell → A.w (a + 1 + ix) = m.a.cell → m'.a.oE = 0 ∧ m'.a.oH = 0 ∧ m'.a.oV = ceV m.a.cell ∧ m'.a.oS = A.s + 1 → LoR C who n own z a W kd ix v old A m true m' ((A.by who).store (a + 1 + ix) (putCell v false 0))
  | again {m' : Ak} : m.a.pc = 5 → 0 ≤ ix ∧ ix < z → ¬ Lk kd old m.a.cell → A.w (a + 1 + ix) ≠ m.a.cell → Lo C n own z W kd ix v old m' → m'.a.pc = 0 → LoR C who n own z a W kd ix v old A m false m' ((A.by who).load (a + 1 + ix))
  | look {m' : Ak} : m.a.pc = 6 → 0 ≤ ix ∧ ix < z → Lk kd old m.a.cell → m'.a.oE = (if kd = 3 then 8 else 0) ∧ m'.a.oH = 0 ∧ m'.a.oV = ceV m.a.cell ∧ m'.a.oS = m.a.rd → LoR C who n own z a W kd ix v old A m true m' ((A.by who).load (C.slot (hdSl n)))
theorem Lo.step (hC : C.ok) {bb n z a W kd ix v old : Int} {own : Bool} {m : Ak} (h : Lo C n own z W kd ix v old m) (ho : Ol C A.w n own z a) (hW : A.w (C.slot (hdSl n)) = W) (ok : A.ok bb) (hb : bb < 4611686018427387904) (hl : C.len ≤ A.n) (hb2 : (A.n : Int) ≤ 200000000) :
    m.fit C A ∧ LoR C who n own z a W kd ix v old A m (m.step C who A).1 (m.step C who A).2.1 (m.step C who A).2.2 := by
  have hT := hC.T
  have hS := hC.S
  have hCC := hC.C
  have hll := len_bd hC
  have hsl := hdSl_bd ho.nb.1
  have hos := ho.s
  have hbd := ho.bd
  have hz1 := ho.z1
  have hb0 : C.base 0 = 6 + C.T + 2 * C.S + 3 * C.C := by unfold Cf.base; omega
  have hsb : 0 ≤ C.slot (hdSl n) ∧ C.slot (hdSl n) < C.base 0 := by unfold Cf.slot; omega
  have hWl : slS W = 1 ∧ slA W = a ∧ slG W = hdGe n := by rw [← hW]; exact ⟨ho.st, ho.ad, ho.ge⟩
  have hlv : lives W (hdGe n) := ⟨.inl hWl.1, hWl.2.2⟩
  obtain ⟨⟨f1, f2, f3, f4, f5, f6⟩, g1, g2, g3, h⟩ := h
  have hat : m.a.w = W → m.a.at' = a + 1 + ix := fun e => by unfold Ac.at'; rw [e, hWl.2.1, f3]
  have hfit : m.fit C A := by
    refine ⟨⟨?_, by rw [f2]; exact ho.nb, g1, g2, g3, fun e => ?_, fun e => ?_, by omega⟩, fun e => ?_⟩
    · rcases h with h | ⟨_, h | ⟨_, h | ⟨_, ⟨h, _⟩ | ⟨h, _⟩⟩⟩⟩ <;> omega
    · rcases h with h | ⟨⟨_, _, q⟩, _⟩
      · omega
      · rw [q, hWl.2.1]; omega
    · rcases h with h | ⟨⟨_, _, q⟩, h | ⟨hi, _⟩⟩
      · omega
      · omega
      · rw [hat q]; omega
    · rcases h with h | ⟨_, h | ⟨_, h | ⟨_, ⟨h, _⟩ | ⟨h, _⟩⟩⟩⟩ <;> omega
  refine ⟨hfit, ?_⟩
  have hs1 := ok.s1 (by omega)
  have ls : ∀ x, ((A.by who).load x).s = A.s + 1 := fun x => (aft_load (who := who) (A := A) (a := x) ok (by omega)).s
  have n4 : m.a.pc ≠ 4 := by rcases h with h | ⟨_, h | ⟨_, h | ⟨_, ⟨h, _⟩ | ⟨h, _⟩⟩⟩⟩ <;> omega
  have e0 : m.step C who A = ((m.a.step C who A).1, ⟨(m.a.step C who A).2.1, if m.a.pc = 2 then Hl.new m.a.hs m.a.w m.a.size else m.h⟩, (m.a.step C who A).2.2) := by
    unfold Ak.step; rw [if_neg n4]
  rw [e0]
  rcases h with hp | ⟨⟨q1, q2, q3⟩, h⟩
  · have e : m.a.step C who A = (false, { m.a with hs := hdSl m.a.n, hg := hdGe m.a.n, w := A.w (C.slot (hdSl m.a.n)), seen := ((A.by who).load (C.slot (hdSl m.a.n))).s, pc := 1 }, (A.by who).load (C.slot (hdSl m.a.n))) := by
      unfold Ac.step; rw [if_pos hp, if_neg (by rw [f2]; rintro (q | q); rw [ho.ok] at q; cases q; omega), if_pos (by rw [f2, hW]; exact hlv)]
    rw [e, f2]
    exact .see hp ⟨⟨f1, by first | rfl | exact f2, f3, f4, f5, f6⟩, ⟨hsl.1.1, hos⟩, ok.w (C.slot (hdSl n)), g3, .inr ⟨⟨rfl, rfl, hW⟩, .inl rfl⟩⟩ rfl (ls (C.slot (hdSl n)))
  rcases h with hp | ⟨hi, h⟩
  · have own' : ¬ hdO (A.w (slA m.a.w)) ≠ m.a.own := by rw [q3, hWl.2.1, f6, ho.hd.1]; simp
    by_cases c : ix < 0 ∨ hdS (A.w a) ≤ ix
    · have e : m.a.step C who A = (true, ({ m.a with size := hdS (A.w (slA m.a.w)), pc := 2 } : Ac).fin 4 0 m.a.seen, (A.by who).load (slA m.a.w)) := by
        unfold Ac.step; rw [if_neg (by omega), if_pos hp, if_neg own', if_pos (by rw [q3, hWl.2.1, f3]; exact c)]
      rw [e, q3, hWl.2.1]
      rw [ho.hd.2] at c
      exact .index hp (by omega) ⟨rfl, rfl, rfl, rfl⟩
    · have e : m.a.step C who A = (false, { m.a with size := hdS (A.w (slA m.a.w)), pc := 2 }, (A.by who).load (slA m.a.w)) := by
        unfold Ac.step; rw [if_neg (by omega), if_pos hp, if_neg own', if_neg (by rw [q3, hWl.2.1, f3]; exact c)]
      rw [e, q3, hWl.2.1]
      rw [ho.hd.2] at c
      have hi : 0 ≤ ix ∧ ix < z := by omega
      exact .head hp ⟨⟨f1, f2, f3, f4, f5, f6⟩, g1, g2, g3, .inr ⟨⟨q1, q2, q3⟩, .inr ⟨hi, .inl rfl⟩⟩⟩ rfl hi
  rcases h with hp | ⟨hc, h⟩
  · have e : m.a.step C who A = (false, { m.a with cell := A.w m.a.at', rd := ((A.by who).load m.a.at').s, pc := ({ m.a with cell := A.w m.a.at' } : Ac).nxt }, (A.by who).load m.a.at') := by
      unfold Ac.step; rw [if_neg (by omega), if_neg (by omega), if_pos hp]
    have hce := ho.cl ix hi.1 hi.2
    have nx : ({ m.a with cell := A.w m.a.at' } : Ac).nxt = if Lk kd old (A.w m.a.at') then 6 else 5 := by
      unfold Ac.nxt Lk
      dsimp only
      have hs1 : ¬ slS m.a.w = 4 := by rw [q3, hWl.1]; decide
      rw [if_neg hs1, if_pos (show ceF (A.w m.a.at') = false ∨ ceN (A.w m.a.at') < slV m.a.w from .inl (by rw [hat q3]; exact hce)), f1, f5]
    rw [e, nx, hat q3]
    have hpc : (if Lk kd old (A.w (a + 1 + ix)) then (6 : Int) else 5) = 5 ∧ ¬ Lk kd old (A.w (a + 1 + ix)) ∨ (if Lk kd old (A.w (a + 1 + ix)) then (6 : Int) else 5) = 6 ∧ Lk kd old (A.w (a + 1 + ix)) := by
      by_cases c : Lk kd old (A.w (a + 1 + ix))
      · rw [if_pos c]; exact .inr ⟨rfl, c⟩
      · rw [if_neg c]; exact .inl ⟨rfl, c⟩
    exact .load hp hi ⟨⟨f1, f2, f3, f4, f5, f6⟩, g1, g2, ok.w (a + 1 + ix), .inr ⟨⟨q1, q2, q3⟩, .inr ⟨hi, .inr ⟨hce, hpc⟩⟩⟩⟩ rfl (ls (a + 1 + ix)) hpc
  rcases h with ⟨hp, hq⟩ | ⟨hp, hq⟩
  · by_cases c : A.w (a + 1 + ix) = m.a.cell
    · have e : m.a.step C who A = (true, ({ m.a with pc := 0 } : Ac).fin 0 (ceV m.a.cell) ((A.by who).cas m.a.at' m.a.cell (putCell m.a.v false 0)).s, (A.by who).cas m.a.at' m.a.cell (putCell m.a.v false 0)) := by
        unfold Ac.step; rw [if_neg (by omega), if_neg (by omega), if_neg (by omega), if_neg (by omega), if_pos hp, if_pos (by rw [hat q3]; exact c)]
      rw [e, hat q3, cas_yes (show (A.by who).w (a + 1 + ix) = m.a.cell from c), f4]
      exact .lay hp hi hq c ⟨rfl, rfl, rfl, (aft_store (who := who) (A := A) (a := a + 1 + ix) (v := putCell v false 0) ok (by omega)).s⟩
    · have e : m.a.step C who A = (false, { m.a with pc := 0 }, (A.by who).cas m.a.at' m.a.cell (putCell m.a.v false 0)) := by
        unfold Ac.step; rw [if_neg (by omega), if_neg (by omega), if_neg (by omega), if_neg (by omega), if_pos hp, if_neg (by rw [hat q3]; exact c)]
      rw [e, hat q3, cas_no (show (A.by who).w (a + 1 + ix) ≠ m.a.cell from c)]
      exact .again hp hi hq c ⟨⟨f1, f2, f3, f4, f5, f6⟩, g1, g2, g3, .inl rfl⟩ rfl
  · have l1 : lives (A.w (C.slot m.a.hs)) m.a.hg := by rw [q1, q2, hW]; exact hlv
    have l2 : slA (A.w (C.slot m.a.hs)) = slA m.a.w := by rw [q1, q3, hW]
    have e : m.a.step C who A = (true, m.a.fin (if m.a.kd = 3 then 8 else 0) (ceV m.a.cell) m.a.rd, (A.by who).load (C.slot m.a.hs)) := by
      unfold Ac.step; rw [if_neg (by omega), if_neg (by omega), if_neg (by omega), if_neg (by omega), if_neg (by omega), if_pos l1, if_pos l2]
    rw [e, q1, f1]
    exact .look hp hi hq ⟨rfl, rfl, rfl, rfl⟩
theorem Ol.lay (hC : C.ok) {w : Int → Int} {n z a x v : Int} {own : Bool} (h : Ol C w n own z a) (x0 : 0 ≤ x) (x1 : x < z) : Ol C (upd w (a + 1 + x) (putCell v false 0)) n own z a := by
  have hT := hC.T
  have hS := hC.S
  have hCC := hC.C
  have hsl := hdSl_bd h.nb.1
  have hos := h.s
  have hbd := h.bd
  have hb0 : C.base 0 = 6 + C.T + 2 * C.S + 3 * C.C := by unfold Cf.base; omega
  have e1 : upd w (a + 1 + x) (putCell v false 0) (C.slot (hdSl n)) = w (C.slot (hdSl n)) := upd_ne _ _ (by unfold Cf.slot; omega)
  have e2 : upd w (a + 1 + x) (putCell v false 0) a = w a := upd_ne _ _ (by omega)
  refine ⟨h.nb, h.ok, h.s, by rw [e1]; exact h.st, by rw [e1]; exact h.ad, by rw [e1]; exact h.ge, by rw [e2]; exact h.hd, h.bd, h.z1, fun y y0 y1 => ?_⟩
  by_cases c : y = x
  · subst c; rw [upd_same]; exact ceF_lay
  · rw [upd_ne _ _ (by omega)]; exact h.cl y y0 y1
theorem Ol.slot_ne (hC : C.ok) {w : Int → Int} {n z a x : Int} {own : Bool} (h : Ol C w n own z a) (x0 : 0 ≤ x) : C.slot (hdSl n) ≠ a + 1 + x := by
  have hT := hC.T
  have hS := hC.S
  have hCC := hC.C
  have hsl := hdSl_bd h.nb.1
  have hos := h.s
  have hbd := h.bd
  have hb0 : C.base 0 = 6 + C.T + 2 * C.S + 3 * C.C := by unfold Cf.base; omega
  unfold Cf.slot; omega
structure LoK (C : Cf) (n : Int) (own : Bool) (z a W bb : Int) (A A' : Ar) : Prop where
  ol : Ol C A'.w n own z a
  W : A'.w (C.slot (hdSl n)) = W
  ok : A'.ok (bb + 1)
  n : A'.n = A.n
  s : A'.s = A.s + 1
  la : 0 ≤ A'.la ∧ A'.la < C.len
theorem LoR.keep (hC : C.ok) {bb n z a W kd ix v old : Int} {own d : Bool} {m m' : Ak} {A' : Ar} (h : LoR C who n own z a W kd ix v old A m d m' A') (ho : Ol C A.w n own z a) (hW : A.w (C.slot (hdSl n)) = W) (ok : A.ok bb) (hb : bb < 4611686018427387904) : LoK C n own z a W bb A A' := by
  have hT := hC.T
  have hS := hC.S
  have hCC := hC.C
  have hll := len_bd hC
  have hsl := hdSl_bd ho.nb.1
  have hos := ho.s
  have hbd := ho.bd
  have hz1 := ho.z1
  have hb0 : C.base 0 = 6 + C.T + 2 * C.S + 3 * C.C := by unfold Cf.base; omega
  have hsb : 0 ≤ C.slot (hdSl n) ∧ C.slot (hdSl n) < C.base 0 := by unfold Cf.slot; omega
  have ld : ∀ x, 0 ≤ x → x < C.len → LoK C n own z a W bb A ((A.by who).load x) := fun x x0 x1 => by
    have a1 := aft_load (who := who) (A := A) (a := x) ok (by omega)
    exact ⟨ho, hW, a1.ok (by decide) ok ok.w, rfl, a1.s, x0, x1⟩
  cases h with
  | see => exact ld _ (by omega) (by omega)
  | head => exact ld _ (by omega) (by omega)
  | index => exact ld _ (by omega) (by omega)
  | load _ hi => exact ld _ (by omega) (by omega)
  | lay _ hi =>
    have a1 := aft_store (who := who) (A := A) (a := a + 1 + ix) (v := putCell v false 0) ok (by omega)
    refine ⟨by rw [a1.w]; exact ho.lay hC hi.1 hi.2, by rw [a1.w, upd_ne _ _ (ho.slot_ne hC hi.1)]; exact hW, a1.ok (by decide) ok fun i => upd_cases (P := fun x => 0 ≤ x ∧ x < 18446744073709551616) (putCell_in _ _ _) (ok.w i), a1.n, a1.s, ?_⟩
    show 0 ≤ a + 1 + ix ∧ a + 1 + ix < C.len
    omega
  | again _ hi => exact ld _ (by omega) (by omega)
  | look => exact ld _ (by omega) (by omega)
end Go.Fl
namespace Go.Fl
open Go
set_option linter.unusedVariables false
set_option linter.unusedSimpArgs false
variable {N : Nm} {A B : Ar} {σ : Mem} {K : Value → Mem → Prop} {C : Cf} {who : Int}
theorem Ol.made (hC : C.ok) {w : Int → Int} {s ge z a : Int} {own : Bool} (s0 : 0 ≤ s ∧ s < C.S) (g0 : 1 ≤ ge ∧ ge ≤ 65535) (hz : 0 ≤ classOf z) (hbd : C.base 0 ≤ a ∧ a + z < C.len) (h1 : w (C.slot s) = putSlot 1 a ge 0) (h2 : w a = putHead 2 z s ge own)
    (h3 : ∀ x, 0 ≤ x → x < z → w (a + 1 + x) = 0) : Ol C w (putHandle s ge) own z a := by
  have hS := hC.S
  have hT := hC.T
  have hCC := hC.C
  have hl := len_bd hC
  obtain ⟨sz, szr⟩ := class_room' hz
  obtain ⟨u0, u1, u2, u3, u4⟩ := hd_handle (s := s) (g := ge) (by omega) g0
  have hb0 : C.base 0 = 6 + C.T + 2 * C.S + 3 * C.C := by unfold Cf.base; omega
  obtain ⟨p1, p2, p3, p4⟩ := sl_put (st := 1) (ad := a) (ge := ge) (ve := 0) (by decide) (by omega) (by omega) (by decide)
  obtain ⟨q1, q2, q3, q4, q5⟩ := hd_put (k := 2) (s := z) (t := s) (g := ge) (o := own) (by decide) (by omega) (by omega) (by omega)
  exact ⟨u0, u1, by rw [u2]; exact s0.2, by rw [u2, h1]; exact p1, by rw [u2, h1]; exact p2, by rw [u2, u3, h1]; exact p3, ⟨by rw [h2]; exact q5, by rw [h2]; exact q2⟩, hbd, by omega, fun x x0 x1 => by rw [h3 x x0 x1]; rfl⟩
structure Fst (C : Cf) (own : Bool) (z : Int) (A' : Ar) (a : Int) : Prop where
  ol : Ol C A'.w 65536 own z a
  sl : hdSl 65536 = 0 ∧ hdGe 65536 = 1
  W : A'.w (C.slot 0) = putSlot 1 a 1 0
  hd : A'.w a = putHead 2 z 0 1 own
  cz : ∀ x, 0 ≤ x → x < z → A'.w (a + 1 + x) = 0
  at' : a = C.base 0
  aw : Bg.aw ⟨(upL 0 C.S.toNat).tail, upd (fun _ => -1) (classOf z) 0, upd (fun _ => 0) 0 (roomOf (classOf z)), upd (fun _ => 0) 0 (roomOf (classOf z)), 1⟩ C A'.w
  slots : ∀ t, 1 ≤ t → t < C.S → A'.w (C.slot t) = putSlot 0 0 1 0
  s : 2 * C.S + 2 < A'.s ∧ A'.s ≤ 2 * C.S + 102
  pa : Pa C A' 1000000
  n : A'.n = C.len.toNat
  la : A'.la < C.len
theorem upL_head {S : Int} (h : 1 ≤ S) : upL 0 S.toNat = 0 :: (upL 0 S.toNat).tail := by
  obtain ⟨k, e⟩ : ∃ k, S.toNat = k + 1 := ⟨S.toNat - 1, by omega⟩
  rw [e]; rfl
theorem c_First (hN : N.ok) (hC : C.ok) (hA : isA N A σ) (hF : Frsh N C A) {z : Int} {own : Bool} (hz : 0 ≤ classOf z)
    (hk : ∀ oV oS A' τ, Fst C own z A' (C.base 0) → (2 * C.S + 2 < oS ∧ oS ≤ A'.s) → isA N A' τ → Keep N.l σ τ → K (.agg #[.int .i64 0, .int .u64 65536, .int .i64 oV, .int .i64 oS]) τ) :
    s_aw [N.env C who, .int .i64 z, .bool own] K σ := by
  have hS := hC.S
  have hT := hC.T
  have hCC := hC.C
  have hW := hC.W
  have hl := len_bd hC
  have hAw0 := hF.aw hC
  have hb0 : C.base 0 = 6 + C.T + 2 * C.S + 3 * C.C := by unfold Cf.base; omega
  have hP := (hF.pa hC).mono (show 2 * C.S + 2 ≤ 200000 by omega)
  have hFF : (Bg.fr C).F = 0 :: (upL 0 C.S.toNat).tail := upL_head hS.1
  have hnx0 : (Bg.fr C).nx = 0 := rfl
  have hw0 : ∀ s, 0 ≤ s → s < C.S → A.w (C.slot s) = putSlot 0 0 1 0 := by
    intro s s0 s1
    rw [hF.w]
    unfold Cf.w0 Cf.fr
    rw [if_neg (by unfold Cf.slot; omega), if_neg (by unfold Cf.slot; omega), if_pos (by unfold Cf.slot; omega), if_pos (by unfold Cf.slot; omega)]
  have hge : slG (A.w (C.slot 0)) = 1 := by rw [hw0 0 (by omega) (by omega)]; decide
  have hngood : ∀ c, ¬ good C (Bg.fr C).o (Bg.fr C).u c := fun c h => absurd h.1 (by decide : ¬ (0 : Int) ≤ -1)
  have hss := hF.s
  have hla := hF.la
  refine c_MakeN hN hC hA hP (by omega) hAw0 (fr_lv.ok (by decide)) hz fun m A2 τ2 hD hP2 hn2 hA2 k2 => ?_
  obtain ⟨e0, hs1, j, b', hg, hj, hu, eH, hAw, w1', w2, w3⟩ := hD.r.ok hFF (.inr (by omega))
  rw [hge] at eH w1' w2
  have hj0 : j = 0 ∧ b' = ⟨(upL 0 C.S.toNat).tail, upd (fun _ => -1) (classOf z) 0, upd (fun _ => 0) 0 (roomOf (classOf z)), fun _ => 0, 1⟩ := by
    rcases hg with ⟨q, _⟩ | ⟨_, _, q1, q2⟩
    · exact absurd q (hngood _)
    · refine ⟨q1, q2.trans ?_⟩
      rw [q1]; show (⟨_, upd (fun _ => -1) (classOf z) 0, upd (fun _ => 0) 0 (0 + roomOf (classOf z)), fun _ => 0, 0 + 1⟩ : Bg) = _
      rw [Int.zero_add]; rfl
  obtain ⟨rfl, rfl⟩ := hj0
  have hu0 : (Bg.fr C).u 0 = 0 := rfl
  rw [hu0] at w1' w2 w3 hu
  simp only [Int.add_zero, Int.zero_add] at w1' w2 w3 hu
  have hc3 := (class_bd z).2
  have hr := room_bd hz hc3
  obtain ⟨sz, szr⟩ := class_room' hz
  have hbase : C.base 0 + z < C.len := by
    have := base_of hC (j := 0) (i := z) (by omega) (by omega) (by omega) (by omega)
    omega
  have cl0 : ∀ x, 0 ≤ x → x < z → A2.w (C.base 0 + 1 + x) = 0 := fun x x0 x1 => by
    have := w3 (1 + x) (by omega) (by omega)
    rw [show C.base 0 + 1 + x = C.base 0 + (1 + x) by omega]; exact this
  have hol := Ol.made hC (s := 0) (ge := 1) (z := z) (a := C.base 0) (own := own) (w := A2.w) ⟨Int.le_refl 0, by omega⟩ (by decide) hz ⟨Int.le_refl _, hbase⟩ w1' w2 cl0
  have hh : putHandle 0 1 = 65536 := by decide
  rw [hh] at hol eH
  rw [e0, eH]
  refine hk m.a.oV m.a.oS A2 τ2 ⟨hol, by decide, w1', w2, cl0, rfl, ?_, fun t t0 t1 => ?_, by have := hD.n; omega, hP2.mono (by omega), hn2.1.trans hF.n, hn2.2 (by omega)⟩ ⟨by omega, hD.n.1.2⟩ hA2 k2
  · have : (Bg.count ⟨(upL 0 C.S.toNat).tail, upd (fun _ => -1) (classOf z) 0, upd (fun _ => 0) 0 (roomOf (classOf z)), fun _ => 0, 1⟩ 0 (roomOf (classOf z))) = ⟨(upL 0 C.S.toNat).tail, upd (fun _ => -1) (classOf z) 0, upd (fun _ => 0) 0 (roomOf (classOf z)), upd (fun _ => 0) 0 (roomOf (classOf z)), 1⟩ := by
      show (⟨_, _, _, upd (fun _ => 0) 0 (0 + roomOf (classOf z)), 1⟩ : Bg) = _
      rw [Int.zero_add]
    rw [this] at hAw; exact hAw
  · rw [hD.fw.slot t (by omega) t1 fun _ F q => by rw [hFF] at q; injection q with q _; omega]
    exact hw0 t (by omega) t1
end Go.Fl
namespace Go.Fl
open Go
set_option linter.unusedVariables false
set_option linter.unusedSimpArgs false
variable {N : Nm} {A B : Ar} {σ : Mem} {K : Value → Mem → Prop} {C : Cf} {who : Int}
structure Cw (C : Cf) (c : Int) (w w0 : Int → Int) : Prop where
  o : w (2 + c) = w0 (2 + c)
  k : ∀ j, 0 ≤ j → j < C.C → w (C.chunk j) = w0 (C.chunk j)
theorem Cw.refl {c : Int} {w : Int → Int} : Cw C c w w := ⟨rfl, fun _ _ _ => rfl⟩
theorem Cw.trans {c : Int} {w w1 w2 : Int → Int} (h : Cw C c w w1) (k : Cw C c w1 w2) : Cw C c w w2 := ⟨h.o.trans k.o, fun j j0 j1 => (h.k j j0 j1).trans (k.k j j0 j1)⟩
theorem Cw.upd {c a v : Int} {w w0 : Int → Int} (h : Cw C c w w0) (ho : a ≠ 2 + c) (hk : ∀ j, 0 ≤ j → j < C.C → a ≠ C.chunk j) : Cw C c (upd w a v) w0 :=
  ⟨by rw [upd_ne _ _ (Ne.symm ho)]; exact h.o, fun j j0 j1 => by rw [upd_ne _ _ (Ne.symm (hk j j0 j1))]; exact h.k j j0 j1⟩
theorem Cw.both {c a v : Int} {w w0 : Int → Int} (h : Cw C c w w0) : Cw C c (Go.Fl.upd w a v) (Go.Fl.upd w0 a v) := by
  refine ⟨?_, fun j j0 j1 => ?_⟩
  · unfold Go.Fl.upd; split
    · rfl
    · exact h.o
  · unfold Go.Fl.upd; split
    · rfl
    · exact h.k j j0 j1
structure Tb (C : Cf) (c : Int) (w0 : Int → Int) : Prop where
  cb : 0 ≤ c ∧ c ≤ 3
  o : 0 ≤ w0 (2 + c) ∧ w0 (2 + c) ≤ C.C
  w : ∀ j, 0 ≤ j → j < C.C → 0 ≤ w0 (C.chunk j) ∧ w0 (C.chunk j) < 18446744073709551616
  n : ∀ j, 0 ≤ j → j < C.C → chS (w0 (C.chunk j)) = 0 → chN (w0 (C.chunk j)) < 68719476735
def gdT (C : Cf) (c : Int) (w0 : Int → Int) : Prop := 1 ≤ w0 (2 + c) ∧ chS (w0 (C.chunk (w0 (2 + c) - 1))) = 1 ∧ chC (w0 (C.chunk (w0 (2 + c) - 1))) = c ∧ chU (w0 (C.chunk (w0 (2 + c) - 1))) + roomOf c ≤ C.W
def ffT (C : Cf) (w0 : Int → Int) (f : Int) : Prop := (0 ≤ f ∧ f < C.C) ∧ chS (w0 (C.chunk f)) = 0 ∧ chN (w0 (C.chunk f)) < 68719476735 ∧ ∀ j, 0 ≤ j → j < f → chS (w0 (C.chunk j)) ≠ 0
def frT (c n : Int) : Int := putChunk 1 c 0 (n + 1)
def t1 (C : Cf) (c f : Int) (w0 : Int → Int) : Int → Int := upd w0 (C.chunk f) (frT c (chN (w0 (C.chunk f))))
def t2 (C : Cf) (c f : Int) (w0 : Int → Int) : Int → Int := upd (t1 C c f w0) (2 + c) (f + 1)
def PlG (C : Cf) (c : Int) (w0 : Int → Int) (k : Int) (t : Pl) (w : Int → Int) : Prop :=
  (t.cls = c ∧ t.ok = false) ∧ (
    Cw C c w w0 ∧ (
      t.pc = 0 ∧ t = Pl.new c ∧ k = 0 ∨
      t.pc = 1 ∧ 1 ≤ w0 (2 + c) ∧ t.opn = w0 (2 + c) ∧ t.at' = w0 (2 + c) - 1 ∧ (0 ≤ t.w ∧ t.w < 18446744073709551616) ∧ k = 1 ∨
      t.pc = 2 ∧ gdT C c w0 ∧ (0 ≤ t.opn ∧ t.opn < 18446744073709551616) ∧ t.at' = w0 (2 + c) - 1 ∧ t.w = w0 (C.chunk t.at') ∧ k = 2 ∨
      ¬ gdT C c w0 ∧ t.opn = w0 (2 + c) ∧ (0 ≤ t.at' ∧ t.at' < C.C) ∧ (∀ j, 0 ≤ j → j < t.at' → chS (w0 (C.chunk j)) ≠ 0) ∧ k ≤ 3 + t.at' ∧ (t.pc = 3 ∧ (0 ≤ t.w ∧ t.w < 18446744073709551616) ∨ t.pc = 4 ∧ ffT C w0 t.at' ∧ t.w = w0 (C.chunk t.at')) ∧ (t.pc = 3 → k ≤ 2 + t.at')) ∨
    ¬ gdT C c w0 ∧ ∃ f, ffT C w0 f ∧ (
      t.pc = 5 ∧ Cw C c w (t1 C c f w0) ∧ t.opn = w0 (2 + c) ∧ t.at' = f ∧ (0 ≤ t.w ∧ t.w < 18446744073709551616) ∧ k ≤ 5 + f ∨
      Cw C c w (t2 C c f w0) ∧ (t.pc = 0 ∧ (0 ≤ t.opn ∧ t.opn < 18446744073709551616) ∧ (0 ≤ t.at' ∧ t.at' < C.C) ∧ (0 ≤ t.w ∧ t.w < 18446744073709551616) ∧ k ≤ 6 + f ∨
        t.pc = 1 ∧ (0 ≤ t.opn ∧ t.opn < 18446744073709551616) ∧ t.at' = f ∧ (0 ≤ t.w ∧ t.w < 18446744073709551616) ∧ k ≤ 7 + f ∨
        t.pc = 2 ∧ (0 ≤ t.opn ∧ t.opn < 18446744073709551616) ∧ t.at' = f ∧ t.w = frT c (chN (w0 (C.chunk f))) ∧ k ≤ 8 + f)))
def PlD (C : Cf) (c : Int) (w0 : Int → Int) (t : Pl) (w : Int → Int) : Prop :=
  t.cls = c ∧ (
    gdT C c w0 ∧ t.ok = true ∧ t.sc = w0 (2 + c) - 1 ∧ t.sa = C.base t.sc + chU (w0 (C.chunk t.sc)) ∧ Cw C c w (upd w0 (C.chunk t.sc) (putChunk 1 c (chU (w0 (C.chunk t.sc)) + roomOf c) (chN (w0 (C.chunk t.sc))))) ∨
    ¬ gdT C c w0 ∧ (∃ f, ffT C w0 f ∧ t.ok = true ∧ t.sc = f ∧ t.sa = C.base f ∧ Cw C c w (upd (t2 C c f w0) (C.chunk f) (putChunk 1 c (roomOf c) (chN (w0 (C.chunk f)) + 1)))) ∨
    ¬ gdT C c w0 ∧ t.ok = false ∧ Cw C c w w0 ∧ ∀ j, 0 ≤ j → j < C.C → chS (w0 (C.chunk j)) ≠ 0)
theorem PlG.new {c : Int} {w : Int → Int} : PlG C c w 0 (Pl.new c) w := ⟨⟨rfl, rfl⟩, .inl ⟨Cw.refl, .inl ⟨rfl, rfl, rfl⟩⟩⟩
theorem PlG.keep {c k : Int} {w0 w w' : Int → Int} {t : Pl} (h : PlG C c w0 k t w) (x : Cw C c w' w) : PlG C c w0 k t w' := by
  obtain ⟨h1, ⟨h2, h3⟩ | ⟨h2, f, h3, ⟨h4, h5, h6⟩ | ⟨h4, h5⟩⟩⟩ := h
  · exact ⟨h1, .inl ⟨x.trans h2, h3⟩⟩
  · exact ⟨h1, .inr ⟨h2, f, h3, .inl ⟨h4, x.trans h5, h6⟩⟩⟩
  · exact ⟨h1, .inr ⟨h2, f, h3, .inr ⟨x.trans h4, h5⟩⟩⟩
theorem PlD.keep {c : Int} {w0 w w' : Int → Int} {t : Pl} (h : PlD C c w0 t w) (x : Cw C c w' w) : PlD C c w0 t w' := by
  obtain ⟨h0, ⟨h1, h2, h3, h4, h5⟩ | ⟨h1, f, h2, h3, h4, h5, h6⟩ | ⟨h1, h2, h3, h4⟩⟩ := h
  · exact ⟨h0, .inl ⟨h1, h2, h3, h4, x.trans h5⟩⟩
  · exact ⟨h0, .inr (.inl ⟨h1, f, h2, h3, h4, h5, x.trans h6⟩)⟩
  · exact ⟨h0, .inr (.inr ⟨h1, h2, x.trans h3, h4⟩)⟩
theorem PlG.kle (hC : C.ok) {c k : Int} {w0 w : Int → Int} {t : Pl} (h : PlG C c w0 k t w) : k ≤ 8 + C.C := by
  have := hC.C
  obtain ⟨h1, ⟨h2, ⟨_, _, h⟩ | ⟨_, _, _, _, _, h⟩ | ⟨_, _, _, _, _, h⟩ | ⟨_, _, h3, _, h, _⟩⟩ | ⟨h2, f, h3, ⟨h4, _, _, _, _, h⟩ | ⟨h4, ⟨_, _, _, _, h⟩ | ⟨_, _, _, _, h⟩ | ⟨_, _, _, _, h⟩⟩⟩⟩ := h
  · omega
  · omega
  · omega
  · omega
  all_goals (have := h3.1; omega)
theorem PlG.fit (hC : C.ok) {c k : Int} {w0 w : Int → Int} {t : Pl} (h : PlG C c w0 k t w) (hT : Tb C c w0) : t.fit C ∧ w (2 + t.cls) ≤ C.C := by
  have hCC := hC.C
  have h0 := hT.cb
  have ho := hT.o
  obtain ⟨⟨hc, _⟩, h⟩ := h
  refine ⟨⟨by rw [hc]; exact h0, ?_, ?_, ?_⟩, ?_⟩
  · rcases h with ⟨h2, ⟨_, e, h⟩ | ⟨_, _, e, _, _, h⟩ | ⟨_, _, e, _, _, h⟩ | ⟨_, e, h3, _, h, _⟩⟩ | ⟨h2, f, h3, ⟨h4, _, e, _, _, h⟩ | ⟨h4, ⟨_, e, _, _, h⟩ | ⟨_, e, _, _, h⟩ | ⟨_, e, _, _, h⟩⟩⟩
    · rw [e]; exact ⟨Int.le_refl 0, (by decide : (0 : Int) < 18446744073709551616)⟩
    · omega
    · exact e
    · omega
    · omega
    · exact e
    · exact e
    · exact e
  · rcases h with ⟨h2, ⟨_, e, h⟩ | ⟨_, _, _, e, _, h⟩ | ⟨_, g, _, e, _, h⟩ | ⟨_, _, e, _, h, _⟩⟩ | ⟨h2, f, h3, ⟨h4, _, _, e, _, h⟩ | ⟨h4, ⟨_, _, e, _, h⟩ | ⟨_, _, e, _, h⟩ | ⟨_, _, e, _, h⟩⟩⟩
    · rw [e]; exact ⟨Int.le_refl 0, by show (0 : Int) < C.C; omega⟩
    · omega
    · have := g.1; omega
    · exact e
    · rw [e]; exact h3.1
    · exact e
    · rw [e]; exact h3.1
    · rw [e]; exact h3.1
  · rcases h with ⟨h2, ⟨_, e, h⟩ | ⟨_, _, _, _, e, h⟩ | ⟨_, g, _, e1, e, h⟩ | ⟨_, _, e1, _, _, ⟨_, e⟩ | ⟨_, _, e⟩, _⟩⟩ | ⟨h2, f, h3, ⟨h4, _, _, _, e, h⟩ | ⟨h4, ⟨_, _, _, e, h⟩ | ⟨_, _, _, e, h⟩ | ⟨_, _, _, e, h⟩⟩⟩
    · rw [e]; exact ⟨Int.le_refl 0, (by decide : (0 : Int) < 18446744073709551616)⟩
    · exact e
    · rw [e]; exact hT.w _ (by have := g.1; omega) (by omega)
    · exact e
    · rw [e]; exact hT.w _ e1.1 e1.2
    · exact e
    · exact e
    · exact e
    · rw [e]; exact putChunk_in _ _ _ _
  · rw [hc]
    rcases h with ⟨h2, _⟩ | ⟨h2, f, h3, ⟨_, h4, _⟩ | ⟨h4, _⟩⟩
    · rw [h2.o]; exact ho.2
    · rw [h4.o]; unfold t1; rw [upd_ne _ _ (by have := hC.T; have := hC.S; have := h3.1; unfold Cf.chunk; omega)]; exact ho.2
    · rw [h4.o]; unfold t2; rw [upd_same]; have := h3.1; omega
def PlA (C : Cf) (c a : Int) : Prop := a = 2 + c ∨ ∃ j, 0 ≤ j ∧ j < C.C ∧ a = C.chunk j
structure PlT (C : Cf) (who c : Int) (A A' : Ar) : Prop where
  ex : ∃ a, PlA C c a ∧ (A' = (A.by who).load a ∨ ∃ v, (0 ≤ v ∧ v < 18446744073709551616) ∧ A' = (A.by who).store a v)
theorem PlG.step (hC : C.ok) {c k : Int} {w0 : Int → Int} {t : Pl} (h : PlG C c w0 k t A.w) (hT : Tb C c w0) :
    PlT C who c A (t.step C who A).2.2 ∧ ((t.step C who A).1 = false ∧ PlG C c w0 (k + 1) (t.step C who A).2.1 (t.step C who A).2.2.w ∨ (t.step C who A).1 = true ∧ PlD C c w0 (t.step C who A).2.1 (t.step C who A).2.2.w) := by
  have hCC := hC.C
  have h0 := hT.cb
  have ho := hT.o
  have hW := hC.W
  have hTT := hC.T
  have hSS := hC.S
  have hr := room_bd h0.1 h0.2
  have ne1 : ∀ j, 0 ≤ j → C.chunk j ≠ 2 + c := fun j j0 => by unfold Cf.chunk; omega
  have inj : ∀ i j, C.chunk i = C.chunk j → i = j := fun i j e => by unfold Cf.chunk at e; omega
  have ld : ∀ a, PlA C c a → PlT C who c A ((A.by who).load a) := fun a ha => ⟨a, ha, .inl rfl⟩
  have pk : ∀ j, 0 ≤ j → j < C.C → PlA C c (C.chunk j) := fun j j0 j1 => .inr ⟨j, j0, j1, rfl⟩
  have po : PlA C c (2 + c) := .inl rfl
  have lw : ∀ a, ((A.by who).load a).w = A.w := fun _ => rfl
  obtain ⟨⟨hc, hok⟩, h⟩ := h
  rcases h with ⟨h2, ⟨p, e, hk⟩ | ⟨p, e1, e2, e3, e4, hk⟩ | ⟨p, g, e1, e2, e3, hk⟩ | ⟨g, e1, e2, e3, hk, hp, hk4⟩⟩ | ⟨g, f, hf, ⟨p, h2, e1, e2, e3, hk⟩ | ⟨h2, ⟨p, e1, e2, e3, hk⟩ | ⟨p, e1, e2, e3, hk⟩ | ⟨p, e1, e2, e3, hk⟩⟩⟩
  · -- look
    have hw1 : IntKind.i64.wrap (A.w (2 + t.cls)) = A.w (2 + t.cls) := IntWalk.i64_in _ (by rw [hc, h2.o]; omega)
    have es : t.step C who A = (false, (if A.w (2 + t.cls) - 1 < 0 then { t with opn := A.w (2 + t.cls), at' := 0, pc := 3 } else { t with opn := A.w (2 + t.cls), at' := A.w (2 + t.cls) - 1, pc := 1 }), (A.by who).load (2 + t.cls)) := by
      unfold Pl.step; rw [if_pos p]; dsimp only; rw [hw1]
    have tw : 0 ≤ t.w ∧ t.w < 18446744073709551616 := by rw [e]; exact ⟨Int.le_refl 0, (by decide : (0 : Int) < 18446744073709551616)⟩
    rw [es, hc]
    refine ⟨ld _ po, .inl ⟨rfl, ?_⟩⟩
    rw [h2.o]
    by_cases q : w0 (2 + c) - 1 < 0
    · rw [if_pos q]
      exact ⟨⟨by first | exact hc | rfl, hok⟩, .inl ⟨h2, .inr (.inr (.inr ⟨fun x => by have := x.1; omega, rfl, ⟨Int.le_refl 0, by show (0 : Int) < C.C; omega⟩, fun j j0 j1 => (by have : j < 0 := j1; omega), by show k + 1 ≤ 3 + 0; omega, .inl ⟨rfl, tw⟩, fun _ => by show k + 1 ≤ 2 + 0; omega⟩))⟩⟩
    · rw [if_neg q]
      exact ⟨⟨by first | exact hc | rfl, hok⟩, .inl ⟨h2, .inr (.inl ⟨rfl, by omega, rfl, rfl, tw, by omega⟩)⟩⟩
  · -- see
    have hat : 0 ≤ t.at' ∧ t.at' < C.C := by omega
    have ew : A.w (C.chunk t.at') = w0 (C.chunk t.at') := h2.k _ hat.1 hat.2
    have es : t.step C who A = (false, (if chS (A.w (C.chunk t.at')) ≠ 1 ∨ chC (A.w (C.chunk t.at')) ≠ t.cls ∨ C.W < chU (A.w (C.chunk t.at')) + roomOf t.cls then { t with w := A.w (C.chunk t.at'), at' := 0, pc := 3 } else { t with w := A.w (C.chunk t.at'), pc := 2 }), (A.by who).load (C.chunk t.at')) := by
      unfold Pl.step; rw [if_neg (by omega), if_pos p]
    have tw := hT.w _ hat.1 hat.2
    rw [es]
    refine ⟨ld _ (pk _ hat.1 hat.2), .inl ⟨rfl, ?_⟩⟩
    rw [ew, hc]
    by_cases q : chS (w0 (C.chunk t.at')) ≠ 1 ∨ chC (w0 (C.chunk t.at')) ≠ c ∨ C.W < chU (w0 (C.chunk t.at')) + roomOf c
    · rw [if_pos q]
      exact ⟨⟨by first | exact hc | rfl, hok⟩, .inl ⟨h2, .inr (.inr (.inr ⟨fun x => by obtain ⟨_, x1, x2, x3⟩ := x; rw [← e3] at x1 x2 x3; omega, e2, ⟨Int.le_refl 0, by show (0 : Int) < C.C; omega⟩, fun j j0 j1 => (by have : j < 0 := j1; omega), by show k + 1 ≤ 3 + 0; omega, .inl ⟨rfl, tw⟩, fun _ => by show k + 1 ≤ 2 + 0; omega⟩))⟩⟩
    · rw [if_neg q]
      exact ⟨⟨by first | exact hc | rfl, hok⟩, .inl ⟨h2, .inr (.inr (.inl ⟨rfl, ⟨by omega, by rw [← e3]; omega, by rw [← e3]; omega, by rw [← e3]; omega⟩, by show 0 ≤ t.opn ∧ t.opn < _; omega, e3, rfl, by omega⟩))⟩⟩
  · -- get
    have hat : 0 ≤ t.at' ∧ t.at' < C.C := by have := g.1; omega
    have ew : A.w (C.chunk t.at') = t.w := by rw [h2.k _ hat.1 hat.2, e3]
    have es : t.step C who A = (true, { t with pc := 0, sa := C.base t.at' + chU t.w, sc := t.at', ok := true }, (A.by who).store (C.chunk t.at') (putChunk (chS t.w) (chC t.w) (chU t.w + roomOf t.cls) (chN t.w))) := by
      unfold Pl.step; rw [if_neg (by omega), if_neg (by omega), if_pos p]
      dsimp only
      rw [if_pos ew, cas_yes (show (A.by who).w _ = _ from ew), decide_eq_true ew]
    rw [es]
    refine ⟨⟨_, pk _ hat.1 hat.2, .inr ⟨_, putChunk_in _ _ _ _, rfl⟩⟩, .inr ⟨rfl, hc, .inl ⟨g, rfl, e2, by dsimp only; rw [e3], ?_⟩⟩⟩
    obtain ⟨g1, g2, g3, g4⟩ := g
    rw [← e2, ← e3] at g2 g3
    dsimp only
    rw [store_w, g2, g3, hc, e3]
    exact h2.both
  · rcases hp with ⟨p, tw⟩ | ⟨p, hf, e4⟩
    · -- scan
      have ew : A.w (C.chunk t.at') = w0 (C.chunk t.at') := h2.k _ e2.1 e2.2
      have tw2 := hT.w _ e2.1 e2.2
      by_cases q : chS (A.w (C.chunk t.at')) ≠ 0
      · have es : t.step C who A = (decide (C.C ≤ t.at' + 1), { t with w := A.w (C.chunk t.at'), at' := t.at' + 1, pc := 3 }, (A.by who).load (C.chunk t.at')) := by
          unfold Pl.step; rw [if_neg (by omega), if_neg (by omega), if_neg (by omega), if_pos p]
          dsimp only
          rw [if_pos q]; rfl
        have all : ∀ j, 0 ≤ j → j < t.at' + 1 → chS (w0 (C.chunk j)) ≠ 0 := fun j j0 j1 => by
          by_cases ej : j = t.at'
          · rw [ej, ← ew]; exact q
          · exact e3 j j0 (by omega)
        rw [es]
        refine ⟨ld _ (pk _ e2.1 e2.2), ?_⟩
        by_cases q2 : C.C ≤ t.at' + 1
        · exact .inr ⟨decide_eq_true q2, hc, .inr (.inr ⟨g, hok, h2, fun j j0 j1 => all j j0 (by omega)⟩)⟩
        · exact .inl ⟨decide_eq_false q2, ⟨by first | exact hc | rfl, hok⟩, .inl ⟨h2, .inr (.inr (.inr ⟨g, e1, ⟨by dsimp only; omega, by dsimp only; omega⟩, all, by dsimp only; omega, .inl ⟨by first | rfl | exact p, by dsimp only; rw [ew]; exact tw2⟩, fun _ => by have := hk4 p; dsimp only; omega⟩))⟩⟩
      · have es : t.step C who A = (false, { t with w := A.w (C.chunk t.at'), pc := 4 }, (A.by who).load (C.chunk t.at')) := by
          unfold Pl.step; rw [if_neg (by omega), if_neg (by omega), if_neg (by omega), if_pos p]
          dsimp only
          rw [if_neg q]
        rw [es]
        have q' : chS (w0 (C.chunk t.at')) = 0 := by rw [← ew]; omega
        exact ⟨ld _ (pk _ e2.1 e2.2), .inl ⟨rfl, ⟨by first | exact hc | rfl, hok⟩, .inl ⟨h2, .inr (.inr (.inr ⟨g, e1, e2, e3, by have := hk4 p; dsimp only; omega, .inr ⟨rfl, ⟨e2, q', hT.n _ e2.1 e2.2 q', e3⟩, ew⟩, fun x => by have x' : (4 : Int) = 3 := x; omega⟩))⟩⟩⟩
    · -- take
      have ew : A.w (C.chunk t.at') = t.w := by rw [h2.k _ e2.1 e2.2, e4]
      have es : t.step C who A = (false, { t with pc := 5 }, (A.by who).store (C.chunk t.at') t.fresh) := by
        unfold Pl.step; rw [if_neg (by omega), if_neg (by omega), if_neg (by omega), if_neg (by omega), if_pos p, if_pos ew, cas_yes (show (A.by who).w _ = _ from ew)]
      have efr : t.fresh = frT c (chN (w0 (C.chunk t.at'))) := by unfold Pl.fresh frT; rw [hc, e4]
      have tw := hT.w _ e2.1 e2.2
      rw [es]
      refine ⟨⟨_, pk _ e2.1 e2.2, .inr ⟨_, putChunk_in _ _ _ _, rfl⟩⟩, .inl ⟨rfl, ⟨by first | exact hc | rfl, hok⟩, .inr ⟨g, t.at', hf, .inl ⟨rfl, ?_, e1, rfl, by show 0 ≤ t.w ∧ t.w < _; rw [e4]; exact tw, by omega⟩⟩⟩⟩
      dsimp only
      rw [store_w, efr]
      exact h2.both
  · -- open
    have ew : A.w (2 + t.cls) = t.opn := by
      rw [hc, h2.o, e1]; unfold t1; rw [upd_ne _ _ (Ne.symm (ne1 _ hf.1.1))]
    have es : t.step C who A = (false, { t with pc := 0 }, (A.by who).store (2 + t.cls) (t.at' + 1)) := by
      unfold Pl.step; rw [if_neg (by omega), if_neg (by omega), if_neg (by omega), if_neg (by omega), if_neg (by omega), if_pos p, if_pos ew, cas_yes (show (A.by who).w _ = _ from ew)]
    have hf1 := hf.1
    rw [es, hc, e2]
    refine ⟨⟨_, po, .inr ⟨_, by omega, rfl⟩⟩, .inl ⟨rfl, ⟨by first | exact hc | rfl, hok⟩, .inr ⟨g, f, hf, .inr ⟨?_, .inl ⟨rfl, by show 0 ≤ t.opn ∧ t.opn < _; omega, by dsimp only; omega, e3, by omega⟩⟩⟩⟩⟩
    dsimp only
    rw [store_w]
    exact h2.both
  · -- look
    have hf1 := hf.1
    have ew : A.w (2 + t.cls) = f + 1 := by rw [hc, h2.o]; unfold t2; rw [upd_same]
    have hw1 : IntKind.i64.wrap (f + 1) = f + 1 := IntWalk.i64_in _ (by omega)
    have es : t.step C who A = (false, { t with opn := f + 1, at' := f, pc := 1 }, (A.by who).load (2 + t.cls)) := by
      unfold Pl.step; rw [if_pos p]; dsimp only; rw [ew, hw1, if_neg (by omega), show f + 1 - 1 = f by omega]
    rw [es, hc]
    exact ⟨ld _ po, .inl ⟨rfl, ⟨by first | exact hc | rfl, hok⟩, .inr ⟨g, f, hf, .inr ⟨h2, .inr (.inl ⟨rfl, by dsimp only; omega, rfl, e3, by omega⟩)⟩⟩⟩⟩
  · -- see
    have hf1 := hf.1
    have ew : A.w (C.chunk t.at') = frT c (chN (w0 (C.chunk f))) := by
      rw [e2, h2.k _ hf1.1 hf1.2]; unfold t2; rw [upd_ne _ _ (ne1 _ hf1.1)]; unfold t1; rw [upd_same]
    have hN := chN_bd (w0 (C.chunk f))
    have hf2 := hf.2.2.1
    obtain ⟨z1, z2, z3, z4⟩ := ch_put (st := 1) (c := c) (us := 0) (sp := chN (w0 (C.chunk f)) + 1) (by decide) (by omega) (by decide) (by omega)
    have es : t.step C who A = (false, { t with w := frT c (chN (w0 (C.chunk f))), pc := 2 }, (A.by who).load (C.chunk t.at')) := by
      unfold Pl.step; rw [if_neg (by omega), if_pos p]
      dsimp only
      rw [ew, if_neg]
      unfold frT; rw [z1, z2, z3, hc]; omega
    rw [es, e2]
    exact ⟨ld _ (pk _ hf1.1 hf1.2), .inl ⟨rfl, ⟨by first | exact hc | rfl, hok⟩, .inr ⟨g, f, hf, .inr ⟨h2, .inr (.inr ⟨rfl, e1, by first | exact e2 | rfl, rfl, by omega⟩)⟩⟩⟩⟩
  · -- get
    have hf1 := hf.1
    have ew : A.w (C.chunk t.at') = t.w := by
      rw [e2, e3, h2.k _ hf1.1 hf1.2]; unfold t2; rw [upd_ne _ _ (ne1 _ hf1.1)]; unfold t1; rw [upd_same]
    have hN := chN_bd (w0 (C.chunk f))
    have hf2 := hf.2.2.1
    obtain ⟨z1, z2, z3, z4⟩ := ch_put (st := 1) (c := c) (us := 0) (sp := chN (w0 (C.chunk f)) + 1) (by decide) (by omega) (by decide) (by omega)
    have es : t.step C who A = (true, { t with pc := 0, sa := C.base t.at' + chU t.w, sc := t.at', ok := true }, (A.by who).store (C.chunk t.at') (putChunk (chS t.w) (chC t.w) (chU t.w + roomOf t.cls) (chN t.w))) := by
      unfold Pl.step; rw [if_neg (by omega), if_neg (by omega), if_pos p]
      dsimp only
      rw [if_pos ew, cas_yes (show (A.by who).w _ = _ from ew), decide_eq_true ew]
    rw [es, e3, e2]
    unfold frT
    rw [z1, z2, z3, z4, hc]
    refine ⟨⟨_, pk _ hf1.1 hf1.2, .inr ⟨_, putChunk_in _ _ _ _, rfl⟩⟩, .inr ⟨rfl, by first | exact hc | rfl, .inr (.inl ⟨g, f, hf, rfl, rfl, by dsimp only; omega, ?_⟩)⟩⟩
    dsimp only
    rw [store_w, show 0 + roomOf c = roomOf c by omega]
    exact h2.both
end Go.Fl
namespace Go.Fl
open Go
set_option linter.unusedVariables false
set_option linter.unusedSimpArgs false
variable {N : Nm} {A B : Ar} {σ : Mem} {K : Value → Mem → Prop} {C : Cf} {who : Int}
theorem h65 : hdSl 65536 = 0 ∧ hdGe 65536 = 1 ∧ hdOk 65536 = true := by decide
theorem xExt50 {x y z u v : Value} {K : Value → Prop} : xF (fExt 0) [.tuple #[x, y, z, u, v]] K = K x := nr rfl
theorem xExt51 {x y z u v : Value} {K : Value → Prop} : xF (fExt 1) [.tuple #[x, y, z, u, v]] K = K y := nr rfl
theorem xExt52 {x y z u v : Value} {K : Value → Prop} : xF (fExt 2) [.tuple #[x, y, z, u, v]] K = K z := nr rfl
theorem xExt53 {x y z u v : Value} {K : Value → Prop} : xF (fExt 3) [.tuple #[x, y, z, u, v]] K = K u := nr rfl
theorem xExt54 {x y z u v : Value} {K : Value → Prop} : xF (fExt 4) [.tuple #[x, y, z, u, v]] K = K v := nr rfl
structure Bgn (C : Cf) (z c V : Int) (L : Int → Int) (A : Ar) : Prop where
  sl : A.w (C.slot 0) = putSlot 1 (C.base c) 1 V
  hd : A.w (C.base c) = putHead 2 z 0 1 false
  cl : ∀ x, 0 ≤ x → x < z → A.w (C.base c + 1 + x) = L x ∧ 0 ≤ L x ∧ L x ≤ 65535
  o : A.w (2 + classOf z) = c + 1
  ev : ∀ j, 0 ≤ j → j ≤ c → chS (A.w (C.chunk j)) = 2
  ch : ∀ j, c + 1 ≤ j → j < C.C → A.w (C.chunk j) = 0
  ok : A.ok 2000000
  n : A.n = C.len.toNat
structure BgL (C : Cf) (z : Int) (A : Ar) : Prop where
  nil : ∀ j i, 1 ≤ j → j < C.C → 0 ≤ i → i < C.W → A.w (C.base j + i) = 0
  lv0 : A.w (C.chunk 0 + 1) = roomOf (classOf z)
  lv : ∀ j, 1 ≤ j → j < C.C → A.w (C.chunk j + 1) = 0
  fre : Fre C A.w (upL 0 C.S.toNat).tail
  ok1 : A.ok 1500000
def valW (g : Int → Int) (len : Nat) (x : Int) : Int := if x < len then g x % 65536 else 0
theorem c_begun (hC : (cA 4 8 4 20).ok) {a0 : Int} {s : Value} {len : Nat} {g : Int → Int} (hg : ArgI .i64 σ s len g)
    (hk : ∀ N A τ, N.ok → isA N A τ → Ext σ τ → N.fr σ → Bgn (cA 4 8 4 20) (1 + a0 % 16) 0 0 (valW g len) A → BgL (cA 4 8 4 20) (1 + a0 % 16) A →
      K (.tuple #[N.env (cA 4 8 4 20) 0, .int .u64 65536, .int .i64 ((cA 4 8 4 20).base 0), .agg #[.int .i64 2, .int .i64 (1 + a0 % 16), .int .i64 0, .int .i64 1, .bool false], .bool true]) τ) : s_a8 [.int .i64 a0, s] K σ := by
  have hz : 1 ≤ 1 + a0 % 16 ∧ 1 + a0 % 16 ≤ 16 := by omega
  have g4 : ∀ {k : Nat} {x y z w : Int}, gStore 4 [.pointer (some ⟨k, 0, some 0⟩), .agg #[.int .i64 x, .int .i64 y, .int .i64 z, .int .i64 w]] [.int .i64 0, .int .i64 0, .int .i64 0, .int .i64 0] = some [.int .i64 x, .int .i64 y, .int .i64 z, .int .i64 w] := fun {_ _ _ _ _} => rfl
  have gU : ∀ {k : Nat} {x y z w : Int}, gStore 4 [.pointer (some ⟨k, 0, some 0⟩), .agg #[.int .i64 x, .int .u64 y, .int .i64 z, .int .i64 w]] [.int .i64 0, .int .u64 0, .int .i64 0, .int .i64 0] = some [.int .i64 x, .int .u64 y, .int .i64 z, .int .i64 w] := fun {_ _ _ _ _} => rfl
  have g2 : ∀ {k : Nat} {x y : Int}, gStore 2 [.pointer (some ⟨k, 0, some 0⟩), .agg #[.int .i64 x, .int .i64 y]] [.int .i64 0, .int .i64 0] = some [.int .i64 x, .int .i64 y] := fun {_ _ _} => rfl
  have p0 : ∀ {k : Nat} {x a b c d : Int}, gStore 1 [.pointer (some ⟨k, 0, some 0⟩), .int .i64 x] [.int .i64 a, .int .i64 b, .int .i64 c, .int .i64 d] = some [.int .i64 x, .int .i64 b, .int .i64 c, .int .i64 d] := fun {_ _ _ _ _ _} => rfl
  have p3 : ∀ {k : Nat} {x a b c d : Int}, gStore 1 [.pointer (some ⟨k, 3, some 0⟩), .int .i64 x] [.int .i64 a, .int .i64 b, .int .i64 c, .int .i64 d] = some [.int .i64 a, .int .i64 b, .int .i64 c, .int .i64 x] := fun {_ _ _ _ _ _} => rfl
  have g5 : ∀ {k : Nat} {x y z w : Int} {u : Bool}, gStore 5 [.pointer (some ⟨k, 0, some 0⟩), .agg #[.int .i64 x, .int .i64 y, .int .i64 z, .int .i64 w, .bool u]] [.int .i64 0, .int .i64 0, .int .i64 0, .int .i64 0, .bool false] = some [.int .i64 x, .int .i64 y, .int .i64 z, .int .i64 w, .bool u] := fun {_ _ _ _ _ _} => rfl
  have s5 : ∀ x y z u w : Value, sub [x, y, z, u, w] 0 5 true = some (.agg #[x, y, z, u, w]) := fun _ _ _ _ _ => rfl
  have f1 : ∀ (x y z w : Value) (K : Value → Prop), xF (fFldV 1 1 false) [.agg #[x, y, z, w]] K = K y := fun _ _ _ _ K => nr rfl
  have b5 : ∀ (x y : Int) (K : Value → Prop), xF (fBuild [(0, 1), (1, 1), (2, 1), (3, 1), (4, 1)] [.int .i64 0, .int .u64 0, .int .i64 0, .int .i64 0, .int .i64 0] [0, 1, 2, 3]) [.int .i64 2, .int .u64 65536, .int .i64 x, .int .i64 y] K = K (.agg #[.int .i64 2, .int .u64 65536, .int .i64 x, .int .i64 y, .int .i64 0]) := fun _ _ K => nr rfl
  simp only [s_a8, w_a8, ruS, ruL, ruE, Nat.reduceAdd, reduceIte, Int.reduceLT, Int.reduceLE, Int.reduceEq, Int.reduceNeg, Int.reduceAdd, Int.reduceSub, Nat.reduceLeDiff, Nat.reduceLT]
  refine c_Arena (C := cA 4 8 4 20) hC rfl rfl rfl fun N A τ hN hF hA hE hfr => ?_
  have hCC : (cA 4 8 4 20).C = 4 := rfl
  have hCS : (cA 4 8 4 20).S = 8 := rfl
  have hCT : (cA 4 8 4 20).T = 4 := rfl
  simp only [gStoreE, andI15, ruS, ruL, ruE, Nat.reduceAdd, reduceIte, Int.reduceLT, Int.reduceLE, Int.reduceEq, Int.reduceNeg, Int.reduceAdd, Int.reduceSub, Nat.reduceLeDiff, Nat.reduceLT]
  rw [IntWalk.i64_in (1 + a0 % 16) (by omega)]
  generalize 1 + a0 % 16 = z at *
  generalize hCe : cA 4 8 4 20 = C at *
  have hcl : 0 ≤ classOf z := by unfold classOf; (repeat' split) <;> omega
  have hc3 := (class_bd z).2
  have hr := room_bd hcl hc3
  obtain ⟨sz, szr⟩ := class_room' hcl
  refine c_First hN hC hA hF hcl fun oV oS A2 τ2 hfst hoS hA2 k2 => ?_
  have ext2 := hE.keep' k2 hfr.all
  have hll := len_bd hC
  have hb0 : C.base 0 = 6 + C.T + 2 * C.S + 3 * C.C := by unfold Cf.base; omega
  have hW := hC.W
  simp only [gU, w_a8_j1, w_a8_j1b, ruS, ruL, ruE, Nat.reduceAdd, reduceIte, Int.reduceLT, Int.reduceLE, Int.reduceEq, Int.reduceNeg, Int.reduceAdd, Int.reduceSub, Nat.reduceLeDiff, Nat.reduceLT]
  refine xLoop_i (fun i => [s, .int .i64 z, .int .i64 i]) [N.el C 0, [.int .i64 0, .int .i64 0, .int .i64 0, .int .i64 0, .bool false], [.int .i64 0, .int .u64 65536, .int .i64 oV, .int .i64 oS]] z
    (fun i τ => ∃ A, 0 ≤ i ∧ i ≤ z ∧ i ≤ len ∧ isA N A τ ∧ Ol C A.w 65536 false z (C.base 0) ∧ A.ok (1000000 + 10 * i) ∧ A.n = C.len.toNat ∧ (∀ y, ¬ (C.base 0 + 1 ≤ y ∧ y ≤ C.base 0 + z) → A.w y = A2.w y) ∧
      (∀ x, 0 ≤ x → x < z → A.w (C.base 0 + 1 + x) = if x < i then g x % 65536 else 0) ∧ Ext σ τ) ?_
    ⟨A2, Int.le_refl 0, by omega, by omega, hA2, hfst.ol, by simpa using hfst.pa.ok, hfst.n, fun _ _ => rfl, fun x x0 x1 => by rw [if_neg (by omega)]; exact hfst.cz x x0 x1, ext2⟩
  rintro i τ3 ⟨A3, i0, i1, i2, hA3, hol, hok, hn3, hsame, hcell, ext3⟩ R hR
  have hg3 := hg.keep ext3
  simp only [w_law11_begun_l8, w_law11_begun_l8b, hg3.len, ruS, ruL, ruE, Nat.reduceAdd, reduceIte, Int.reduceLT, Int.reduceLE, Int.reduceEq, Int.reduceNeg, Int.reduceAdd, Int.reduceSub, Nat.reduceLeDiff, Nat.reduceLT]
  -- behind the words
  have fin : (i = z ∨ i = len) → w_a8_j2 K [] [N.el C 0, [.int .i64 0, .int .i64 0, .int .i64 0, .int .i64 0, .bool false], [.int .i64 0, .int .u64 65536, .int .i64 oV, .int .i64 oS]] τ3 := by
    intro hi
    have hT := hC.T
    have esl : C.slot 0 = 6 + C.T := by unfold Cf.slot; omega
    have ech : C.chunk 0 = 6 + C.T + 2 * C.S := by unfold Cf.chunk; omega
    have habd := hol.bd
    have sl3 : A3.w (C.slot 0) = putSlot 1 (C.base 0) 1 0 := by rw [hsame _ (by omega)]; exact hfst.W
    have hd3 : A3.w (C.base 0) = putHead 2 z 0 1 false := by rw [hsame _ (by omega)]; exact hfst.hd
    have hsb : 0 ≤ C.slot 0 ∧ C.slot 0 < A3.n := by omega
    have hcb : 0 ≤ C.chunk 0 ∧ C.chunk 0 < A3.n := by omega
    obtain ⟨p1, p2, p3', p4⟩ := sl_put (st := 1) (ad := C.base 0) (ge := 1) (ve := 0) (by decide) (by omega) (by decide) (by decide)
    have hof : ofC C (C.base 0) = 0 := by
      have := (base_of hC (j := 0) (i := 0) (by omega) (by omega) (by omega) (by omega)).1
      rw [Int.add_zero] at this; exact this
    have hwc := hok.w (C.chunk 0)
    have hN3 := chN_bd (A3.w (C.chunk 0))
    simp only [w_a8_j2, w_a8_j2b, ruS, ruL, ruE, Nat.reduceAdd, reduceIte, Int.reduceLT, Int.reduceLE, Int.reduceEq, Int.reduceNeg, Int.reduceAdd, Int.reduceSub, Nat.reduceLeDiff, Nat.reduceLT]
    rw [c_wHandleG (by decide) (by decide)]
    simp only [g2, h65.1, h65.2.1, h65.2.2, c_Slot hC (Int.le_refl 0) (by decide), c_PeekA hN hA3 hsb.1 hsb.2, sl3, c_wSlot (putSlot_in _ _ _ _).1 (putSlot_in _ _ _ _).2, p1, p2, p3', p4, f1, ruS, ruL, ruE, Nat.reduceAdd, reduceIte, Int.reduceLT, Int.reduceLE, Int.reduceEq, Int.reduceNeg, Int.reduceAdd, Int.reduceSub, Nat.reduceLeDiff, Nat.reduceLT]
    rw [c_Of hC (show C.base 0 < 9223372036854775808 by omega), hof]
    simp only [c_Chunk hC (Int.le_refl 0) (by decide), c_PeekA hN hA3 hcb.1 hcb.2, c_wChunk hwc.1 hwc.2, g4, p0, p3, ruS, ruL, ruE, Nat.reduceAdd, reduceIte, Int.reduceLT, Int.reduceLE, Int.reduceEq, Int.reduceNeg, Int.reduceAdd, Int.reduceSub, Nat.reduceLeDiff, Nat.reduceLT]
    rw [IntWalk.i64_in (chN (A3.w (C.chunk 0)) + 1) (by omega)]
    simp only [p0, p3, sub4, c_PutChunk, ruS, ruL, ruE, Nat.reduceAdd, reduceIte, Int.reduceLT, Int.reduceLE, Int.reduceEq, Int.reduceNeg, Int.reduceAdd, Int.reduceSub, Nat.reduceLeDiff, Nat.reduceLT]
    refine c_StoreA hN hA3 hcb.1 hcb.2 hok (by omega) (putChunk_in _ _ _ _) fun A4 τ4 aft ok4 hA4 k4 => ?_
    have ext4 := ext3.keep' k4 hfr.all
    have ew : A4.w = upd A3.w (C.chunk 0) (putChunk 2 (chC (A3.w (C.chunk 0))) (chU (A3.w (C.chunk 0))) (chN (A3.w (C.chunk 0)) + 1)) := aft.w
    have hd4 : A4.w (C.base 0) = putHead 2 z 0 1 false := by rw [ew, upd_ne _ _ (by omega)]; exact hd3
    have hn4 : A4.n = A3.n := aft.n
    have hbb : 0 ≤ C.base 0 ∧ C.base 0 < A4.n := by omega
    obtain ⟨q1, q2, q3, q4, q5⟩ := hd_put (k := 2) (s := z) (t := 0) (g := 1) (o := false) (by decide) (by omega) (by decide) (by decide)
    simp only [c_PeekA hN hA4 hbb.1 hbb.2, hd4, c_wHead (putHead_in _ _ _ _ _).1 (putHead_in _ _ _ _ _).2, q1, q2, q3, q4, q5, gStoreE, g5, s5, ruS, ruL, ruE, Nat.reduceAdd, reduceIte, Int.reduceLT, Int.reduceLE, Int.reduceEq, Int.reduceNeg, Int.reduceAdd, Int.reduceSub, Nat.reduceLeDiff, Nat.reduceLT]
    have haw := hfst.aw
    have cs : ∀ c, 0 ≤ c → A4.w (C.base 0 + 1 + c) = A3.w (C.base 0 + 1 + c) := fun c c0 => by rw [ew, upd_ne _ _ (by omega)]
    have cl : chS (putChunk 2 (chC (A3.w (C.chunk 0))) (chU (A3.w (C.chunk 0))) (chN (A3.w (C.chunk 0)) + 1)) = 2 := by unfold chS putChunk cl; omega
    have elo : ∀ y, y < C.base 0 → y ≠ C.chunk 0 → A4.w y = A2.w y := fun y y0 y1 => by rw [ew, upd_ne _ _ y1]; exact hsame y (by omega)
    have ek : ∀ j, C.chunk j = C.chunk 0 + 3 * j := fun j => by unfold Cf.chunk; omega
    have u1 : ∀ j, 1 ≤ j → upd (fun _ => (0 : Int)) 0 (roomOf (classOf z)) j = 0 := fun j j1 => upd_ne _ _ (by omega)
    refine hk N A4 τ4 hN hA4 ext4 hfr ⟨by rw [elo _ (by omega) (by omega)]; exact hfst.W, hd4, fun x x0 x1 => ?_, ?_, fun j j0 j1 => ?_, fun j j0 j1 => ?_, ok_mono ok4 (by omega), hn4.trans hn3⟩ ⟨fun j k j0 j1 k0 k1 => ?_, ?_, fun j j0 j1 => ?_, ?_, ok_mono ok4 (by omega)⟩
    · rw [cs x x0, hcell x x0 x1]
      unfold valW
      by_cases c : x < i
      · rw [if_pos c, if_pos (by omega)]; omega
      · rw [if_neg c, if_neg (by omega)]; omega
    · rw [elo _ (by omega) (by omega)]
      have := (haw.alo.op (classOf z) hcl hc3).1
      rw [this]; show upd (fun _ => (-1 : Int)) (classOf z) 0 (classOf z) + 1 = 0 + 1; rw [upd_same]
    · rw [show j = 0 by omega, ew, upd_same]; exact cl
    · rw [elo _ (by rw [ek]; omega) (by rw [ek]; omega)]; exact (haw.alo.new j (by show (1 : Int) ≤ j; omega) j1).1
    · have hm := mulW hC (k := j) (by omega) (by omega)
      have hbj : C.base j = C.base 0 + C.W * j := by unfold Cf.base; omega
      have hmj : C.W * 1 ≤ C.W * j := Int.mul_le_mul_of_nonneg_left (by omega) (by omega)
      rw [ew, upd_ne _ _ (by omega), hsame _ (by omega)]
      exact haw.nil j k (by omega) j1 (by show upd (fun _ => (0 : Int)) 0 _ j ≤ k; rw [u1 j j0]; exact k0) k1
    · rw [elo _ (by omega) (by omega), haw.live 0 (by omega) (by omega)]; exact upd_same (fun _ => 0) 0 _
    · rw [elo _ (by rw [ek]; omega) (by rw [ek]; omega), haw.live j (by omega) j1]; exact u1 j j0
    · refine haw.fre.congr (elo 1 (by omega) (by omega)) fun s s0 s1 => elo _ (by unfold Cf.slot; omega) (by unfold Cf.slot; omega)
  by_cases c1 : i < z
  · by_cases c2 : i < len
    · simp only [c1, c2, w_a8_j3, w_a8_j3b, ruS, ruL, ruE, Nat.reduceAdd, reduceIte, Int.reduceLT, Int.reduceLE, Int.reduceEq, Int.reduceNeg, Int.reduceAdd, Int.reduceSub, Nat.reduceLeDiff, Nat.reduceLT]
      rw [hg3.ix i0 c2]
      simp only [andI65535, b5, ruS, ruL, ruE, Nat.reduceAdd, reduceIte, Int.reduceLT, Int.reduceLE, Int.reduceEq, Int.reduceNeg, Int.reduceAdd, Int.reduceSub, Nat.reduceLeDiff, Nat.reduceLT]
      refine c_AccL hN hC hA3 hol hok (by omega) (by omega) (by omega) fun m A4 τ4 hD hA4 k4 => ?_
      have ext4 := ext3.keep' k4 hfr.all
      rw [IntWalk.i64_in (i + 1) (by omega)]
      have hv : 0 ≤ g i % 65536 ∧ g i % 65536 ≤ 65535 := by omega
      have ew : A4.w = upd A3.w (C.base 0 + 1 + i) (g i % 65536) := by
        rcases hD.r with ⟨q, _⟩ | ⟨_, _, _, ⟨q, _⟩ | ⟨_, _, _, q⟩⟩
        · exact absurd ⟨i0, c1⟩ q
        · rcases q with q | ⟨q, _⟩ <;> cases q
        · rw [q]
          show upd A3.w (C.base 0 + 1 + i) (putCell (g i % 65536) false 0) = _
          rw [putCell_lay (by omega)]
      refine hR _ c1 ⟨A4, by omega, by omega, by omega, hA4, ?_, ok_mono (hD.ok _ hok) (by omega), hD.n.trans hn3, fun y hy => ?_, fun x x0 x1 => ?_, ext4⟩
      · rw [ew, ← putCell_lay (v := g i % 65536) (by omega)]; exact hol.lay hC i0 c1
      · rw [ew, upd_ne _ _ (by omega)]; exact hsame y hy
      · rw [ew]
        by_cases e : x = i
        · subst e; rw [upd_same, if_pos (by omega)]
        · rw [upd_ne _ _ (by omega), hcell x x0 x1]
          by_cases c : x < i
          · rw [if_pos c, if_pos (by omega)]
          · rw [if_neg c, if_neg (by omega)]
    · simp only [c1, c2, ruS, ruL, ruE, Nat.reduceAdd, reduceIte, Int.reduceLT, Int.reduceLE, Int.reduceEq, Int.reduceNeg, Int.reduceAdd, Int.reduceSub, Nat.reduceLeDiff, Nat.reduceLT]
      exact fin (.inr (by omega))
  · simp only [c1, ruS, ruL, ruE, Nat.reduceAdd, reduceIte, Int.reduceLT, Int.reduceLE, Int.reduceEq, Int.reduceNeg, Int.reduceAdd, Int.reduceSub, Nat.reduceLeDiff, Nat.reduceLT]
    exact fin (.inl (by omega))
theorem c_awake11 : s_a6 [] K σ = K (.bool true) σ := by unfold s_a6; exact nr rfl
theorem c_where (hN : N.ok) (hC : C.ok) (hA : isA N A σ) (hn : C.len ≤ A.n) (hw : 0 ≤ A.w (C.slot 0) ∧ A.w (C.slot 0) < 18446744073709551616) : s_ba [N.env C who, .int .u64 65536] K σ = K (.agg #[.int .i64 (slS (A.w (C.slot 0))), .int .i64 (slA (A.w (C.slot 0))), .int .i64 (slG (A.w (C.slot 0))), .int .i64 (slV (A.w (C.slot 0)))]) σ := by
  have g4 : ∀ {k : Nat} {x y z w : Int}, gStore 4 [.pointer (some ⟨k, 0, some 0⟩), .agg #[.int .i64 x, .int .i64 y, .int .i64 z, .int .i64 w]] [.int .i64 0, .int .i64 0, .int .i64 0, .int .i64 0] = some [.int .i64 x, .int .i64 y, .int .i64 z, .int .i64 w] := fun {_ _ _ _ _} => rfl
  have g2 : ∀ {k : Nat} {x y : Int}, gStore 2 [.pointer (some ⟨k, 0, some 0⟩), .agg #[.int .i64 x, .int .i64 y]] [.int .i64 0, .int .i64 0] = some [.int .i64 x, .int .i64 y] := fun {_ _ _} => rfl
  have hT := hC.T; have hS := hC.S; have hC3 := hC.C; have hl := len_bd hC
  have hch : C.chunk C.C = 6 + C.T + 2 * C.S + 3 * C.C := rfl
  have hsb : 0 ≤ C.slot 0 ∧ C.slot 0 < A.n := by unfold Cf.slot; omega
  simp only [s_ba, w_ba, ruS, ruL, ruE, Nat.reduceAdd, reduceIte, Int.reduceLT, Int.reduceLE, Int.reduceEq, Int.reduceNeg, Int.reduceAdd, Int.reduceSub, Nat.reduceLeDiff, Nat.reduceLT]
  rw [c_wHandleG (by decide) (by decide)]
  simp only [g2, h65.1, h65.2.1, h65.2.2, c_Slot hC (Int.le_refl 0) (by decide), c_PeekA hN hA hsb.1 hsb.2, c_wSlot hw.1 hw.2, g4, sub4, ruS, ruL, ruE, Nat.reduceAdd, reduceIte, Int.reduceLT, Int.reduceLE, Int.reduceEq, Int.reduceNeg, Int.reduceAdd, Int.reduceSub, Nat.reduceLeDiff, Nat.reduceLT]
end Go.Fl
namespace Go.Fl
open Go
set_option linter.unusedVariables false
set_option linter.unusedSimpArgs false
variable {N : Nm} {A B : Ar} {σ : Mem} {K : Value → Mem → Prop} {C : Cf} {who : Int}
structure Geo (C : Cf) (z c : Int) : Prop where
  hC : C.ok
  hz : 0 ≤ classOf z
  hc : 0 ≤ c ∧ c + 1 < C.C
  hR : C.R = 3
structure Geq (C : Cf) (z c : Int) : Prop where
  zb : 1 ≤ z ∧ z ≤ 16
  kb : 0 ≤ classOf z ∧ classOf z ≤ 3
  rb : z + 1 ≤ roomOf (classOf z) ∧ roomOf (classOf z) ≤ 17
  nb : C.base (c + 1) = C.base c + C.W
  Wb : 17 ≤ C.W
  b0 : 6 + C.T + 2 * C.S + 3 * C.C ≤ C.base c ∧ C.base 0 = 6 + C.T + 2 * C.S + 3 * C.C
  l1 : C.base c + 2 * C.W ≤ C.len
  l2 : C.len ≤ 200000
  s : C.slot 0 = 6 + C.T
  ch : ∀ j, C.chunk j = 6 + C.T + 2 * C.S + 3 * j
  Tb : 1 ≤ C.T ∧ C.T ≤ 8
  Sb : 1 ≤ C.S ∧ C.S ≤ 65536
  Cb : 1 ≤ C.C ∧ C.C ≤ 64
  of : ofC C (C.base c) = c
theorem Geo.eq {z c : Int} (g : Geo C z c) : Geq C z c := by
  have hC := g.hC
  have hz := class_room' g.hz
  have h3 := (class_bd z).2
  have hr := room_bd g.hz h3
  have hT := hC.T; have hS := hC.S; have hCC := hC.C; have hW := hC.W; have hl := len_bd hC
  have hc := g.hc
  have hm := mulW hC hc.1 (by omega)
  have hb : C.base (c + 1) = C.base c + C.W := by unfold Cf.base; rw [Int.mul_add]; omega
  have hlen : C.base (c + 1) + (C.W - 1) < C.len := (base_of hC (j := c + 1) (i := C.W - 1) (by omega) (by omega) (by omega) (by omega)).2.2
  have hof := (base_of hC (j := c) (i := 0) hc.1 (by omega) (by omega) (by omega)).1
  rw [Int.add_zero] at hof
  exact ⟨hz.1, ⟨g.hz, h3⟩, by omega, hb, hW.1, ⟨by unfold Cf.base; omega, by unfold Cf.base; omega⟩, by omega, hl.2, by unfold Cf.slot; omega, fun j => rfl, hT, hS, hCC, hof⟩
structure TbM (C : Cf) (z c : Int) (T : Int → Int) : Prop where
  tb : Tb C (classOf z) T
  o : T (2 + classOf z) = c + 1
  ev : ∀ j, 0 ≤ j → j ≤ c → chS (T (C.chunk j)) = 2
  nx : T (C.chunk (c + 1)) = 0
end Go.Fl
namespace Go.Fl
open Go
set_option linter.unusedVariables false
set_option linter.unusedSimpArgs false
variable {N : Nm} {A B : Ar} {σ : Mem} {K : Value → Mem → Prop} {C : Cf} {who : Int}
theorem AOb.min {p : Nat} {O : List Nat} {m : Ak} (h : AOb N p O m σ) : ∃ O', AOb N p O' m σ ∧ (∀ i ∈ O', i ∈ O) ∧ ∀ i ∈ O', σ.get i ≠ none := by
  obtain ⟨⟨a, g1, g2⟩, own, pO⟩ := h
  by_cases c4 : m.a.pc = 4
  · obtain ⟨q, rfl, qO, qp, gq⟩ := g2 c4
    refine ⟨[p, q], ⟨⟨some q, g1, fun _ => ⟨q, rfl, by simp, qp, gq⟩⟩, fun i hi => ?_, by simp⟩, fun i hi => ?_, fun i hi => ?_⟩ <;>
    · simp only [List.mem_cons, List.not_mem_nil, or_false] at hi
      rcases hi with rfl | rfl <;> first | exact own _ pO | exact own _ qO | exact pO | exact qO | (rw [g1]; simp) | (rw [gq]; simp)
  · refine ⟨[p], ⟨⟨a, g1, fun e => absurd e c4⟩, fun i hi => ?_, by simp⟩, fun i hi => ?_, fun i hi => ?_⟩ <;>
    · rw [List.mem_singleton] at hi
      subst hi
      first | exact own _ pO | exact pO | (rw [g1]; simp)
structure Ev (C : Cf) (n : Int) (own : Bool) (z a W bb : Int) (A : Ar) : Prop where
  ol : Ol C A.w n own z a
  W : A.w (C.slot (hdSl n)) = W
  ok : A.ok bb
  n1 : C.len ≤ A.n
  n2 : (A.n : Int) ≤ 200000000
theorem Ev.step (hC : C.ok) {n z a W bb kd ix v old : Int} {own : Bool} {m : Ak} (h : Ev C n own z a W bb A) (hm : Lo C n own z W kd ix v old m) (hb : bb < 4611686018427387904) :
    m.fit C A ∧ LoR C who n own z a W kd ix v old A m (m.step C who A).1 (m.step C who A).2.1 (m.step C who A).2.2 ∧ Ev C n own z a W (bb + 1) (m.step C who A).2.2 ∧ (m.step C who A).2.2.s = A.s + 1 := by
  obtain ⟨h1, h2⟩ := hm.step (who := who) hC h.ol h.W h.ok hb h.n1 h.n2
  have h3 := h2.keep hC h.ol h.W h.ok hb
  exact ⟨h1, h2, ⟨h3.ol, h3.W, h3.ok, by rw [h3.n]; exact h.n1, by rw [h3.n]; exact h.n2⟩, h3.s⟩
theorem Ev.mono {n z a W bb b2 : Int} {own : Bool} (h : Ev C n own z a W bb A) (hb : bb ≤ b2) : Ev C n own z a W b2 A := ⟨h.ol, h.W, ok_mono h.ok hb, h.n1, h.n2⟩
theorem Fst.ev (hC : C.ok) {own : Bool} {z a : Int} (h : Fst C own z A a) : Ev C 65536 own z a (putSlot 1 a 1 0) 1000000 A := by
  have hl := len_bd hC
  have := h.n
  exact ⟨h.ol, by rw [h.sl.1]; exact h.W, h.pa.ok, h.pa.n, by omega⟩
end Go.Fl
namespace Go.Fl
open Go
set_option linter.unusedVariables false
set_option linter.unusedSimpArgs false
variable {N : Nm} {A B : Ar} {σ : Mem} {K : Value → Mem → Prop} {C : Cf} {who : Int}
theorem Bgn.tb {z c V : Int} {L : Int → Int} (g : Geo C z c) (h : Bgn C z c V L A) : TbM C z c A.w := by
  have hc := g.hc
  refine ⟨⟨⟨g.hz, (class_bd z).2⟩, by rw [h.o]; omega, fun j _ _ => h.ok.w _, fun j j0 j1 hj => ?_⟩, h.o, h.ev, h.ch _ (Int.le_refl _) hc.2⟩
  by_cases e : j ≤ c
  · rw [h.ev j j0 e] at hj; omega
  · rw [h.ch j (by omega) j1]; decide
theorem Ol.of (hC : C.ok) {w : Int → Int} {z a V k : Int} (hz : 1 ≤ z ∧ z ≤ 16) (hV : 0 ≤ V ∧ V ≤ 4194303) (ha : C.base 0 ≤ a ∧ a + z < C.len) (hk : 0 ≤ k ∧ k ≤ 3) (h1 : w (C.slot 0) = putSlot 1 a 1 V) (h2 : w a = putHead k z 0 1 false)
    (h3 : ∀ x, 0 ≤ x → x < z → ceF (w (a + 1 + x)) = false) : Ol C w 65536 false z a := by
  have hS := hC.S
  have hl := len_bd hC
  have hb0 : 0 ≤ C.base 0 := by have := hC.T; have := hC.C; unfold Cf.base; omega
  obtain ⟨p1, p2, p3, p4⟩ := sl_put (st := 1) (ad := a) (ge := 1) (ve := V) (by decide) (by omega) (by decide) hV
  obtain ⟨q1, q2, q3, q4, q5⟩ := hd_put (k := k) (s := z) (t := 0) (g := 1) (o := false) hk (by omega) (by decide) (by decide)
  exact ⟨by decide, h65.2.2, by rw [h65.1]; omega, by rw [h65.1, h1]; exact p1, by rw [h65.1, h1]; exact p2, by rw [h65.1, h65.2.1, h1]; exact p3, ⟨by rw [h2]; exact q5, by rw [h2]; exact q2⟩, ha, hz.1, h3⟩
theorem Mv.see2 {m : Mv} (p : m.a.pc = 0) (h1 : slS (A.w (C.slot m.a.hs)) = 1) (h2 : slG (A.w (C.slot m.a.hs)) ≠ m.a.hg) :
    m.step C who A = (!m.a.got, { m with a := ({ m.a with w := A.w (C.slot m.a.hs) } : Mo).endm 2 }, (A.by who).load (C.slot m.a.hs)) := by
  unfold Mv.step; rw [if_pos p, if_neg (by rw [h1]; omega), if_pos (.inr (.inl h2))]
theorem Bgn.ol {z c V : Int} {L : Int → Int} (hC : C.ok) (h : Bgn C z c V L A) (hz : 1 ≤ z ∧ z ≤ 16) (hV : 0 ≤ V ∧ V ≤ 4194303) (ha : C.base 0 ≤ C.base c ∧ C.base c + z < C.len) : Ol C A.w 65536 false z (C.base c) ∧ ∀ x, 0 ≤ x → x < z → ceV (A.w (C.base c + 1 + x)) = L x := by
  refine ⟨Ol.of hC hz hV ha (by decide) h.sl h.hd fun x x0 x1 => ?_, fun x x0 x1 => ?_⟩
  · obtain ⟨r1, r2, r3⟩ := h.cl x x0 x1
    rw [r1]; exact decide_eq_false (by omega)
  · obtain ⟨r1, r2, r3⟩ := h.cl x x0 x1
    rw [r1]; unfold ceV; omega
end Go.Fl
namespace Go.Fl
open Go
set_option linter.unusedVariables false
set_option linter.unusedSimpArgs false
variable {N : Nm} {A B : Ar} {σ : Mem} {K : Value → Mem → Prop} {C : Cf} {who : Int}
structure RmI (C : Cf) (z : Int) (T : Int → Int) (k : Int) (m : Mv) (A : Ar) : Prop where
  c : m.a.addr = C.base 0 ∧ m.a.hz = z ∧ m.a.hs = 0 ∧ m.a.hg = 1 ∧ m.a.got = false ∧ m.a.nn = 0 ∧ m.a.i = 0 ∧ m.a.cell = 0
  wb : 0 ≤ m.a.w ∧ m.a.w < 18446744073709551616
  sl : A.w (C.slot 0) = putSlot 1 (C.base 0) 1 0
  p : m.a.pc = 0 ∧ Cw C (classOf z) A.w T ∧ k = 0 ∨ m.a.pc = 1 ∧ 1 ≤ k ∧ PlG C (classOf z) T (k - 1) m.t A.w
structure RmT (C : Cf) (z : Int) (T : Int → Int) : Prop where
  tb : Tb C (classOf z) T
  no : ∀ j, 0 ≤ j → j < C.C → chS (T (C.chunk j)) ≠ 0
  nd : ¬ gdT C (classOf z) T
theorem RmI.step {z k bb : Int} {T : Int → Int} {m : Mv} (g : Geo C z 0) (h : RmI C z T k m A) (hT : RmT C z T) (ok : A.ok bb) (hb : bb < 4611686018427387904) (hn : C.len ≤ A.n) (hn2 : (A.n : Int) ≤ 200000000) :
    m.fit C A ∧ k ≤ 73 ∧ (m.step C who A).2.2.n = A.n ∧ (m.step C who A).2.2.ok (bb + 1) ∧ ((m.step C who A).1 = false ∧ RmI C z T (k + 1) (m.step C who A).2.1 (m.step C who A).2.2 ∨
      (m.step C who A).1 = true ∧ (m.step C who A).2.1.a.out = 4 ∧ (m.step C who A).2.1.a.got = false ∧ (m.step C who A).2.2.w (C.slot 0) = putSlot 1 (C.base 0) 1 0) := by
  have e := g.eq
  have ez := e.zb; have ek := e.kb; have eb0 := e.b0; have el := e.l1; have el2 := e.l2; have eC := e.Cb; have eS := e.Sb; have eT := e.Tb; have es := e.s; have eW := e.Wb
  obtain ⟨c1, c2, c3, c4, c5, c6, c7, c8⟩ := h.c
  have hwb := h.wb
  have hsl := h.sl
  have tl : ∀ x, ((A.by who).load x).n = A.n ∧ ((A.by who).load x).ok (bb + 1) := fun x => by
    have a1 := aft_load (who := who) (A := A) (a := x) ok (by omega)
    exact ⟨rfl, a1.ok (by omega) ok ok.w⟩
  have ts : ∀ y v, (0 ≤ v ∧ v < 18446744073709551616) → ((A.by who).store y v).n = A.n ∧ ((A.by who).store y v).ok (bb + 1) := fun y v hv => by
    have a1 := aft_store (who := who) (A := A) (a := y) (v := v) ok (by omega)
    exact ⟨a1.n, a1.ok (by omega) ok fun i => upd_cases (P := fun x => 0 ≤ x ∧ x < 18446744073709551616) hv (ok.w i)⟩
  obtain ⟨q1, q2, q3, q4⟩ := sl_put (st := 1) (ad := C.base 0) (ge := 1) (ve := 0) (by decide) (by omega) (by decide) (by decide)
  have cls0 : 0 ≤ classOf m.a.hz := by rw [c2]; exact g.hz
  rcases h.p with ⟨p, hcw, hk⟩ | ⟨p, hk, hg⟩
  · have es1 : m.step C who A = (false, ⟨{ m.a with w := A.w (C.slot m.a.hs), pc := 1 }, Pl.new (classOf m.a.hz)⟩, (A.by who).load (C.slot m.a.hs)) := by
      unfold Mv.step; rw [if_pos p, c3, hsl, q1, q2, q3, q4, if_neg (by omega), if_neg (by rw [c1, c4]; simp), if_neg (by omega), if_neg (by rw [c5]; decide)]
    rw [es1]
    refine ⟨⟨by omega, by rw [c3]; omega, hwb, by rw [c8]; decide, cls0, by rw [c7]; decide, by rw [c6]; decide, hn2, fun x => by omega, fun x => by omega, fun x => by omega, fun x => by omega, fun x => by omega, fun x => by omega⟩, by omega, (tl _).1, (tl _).2, .inl ⟨rfl, ⟨c1, c2, c3, c4, c5, c6, c7, c8⟩, ok.w _, hsl, .inr ⟨rfl, by omega, ?_⟩⟩⟩
    have : k + 1 - 1 = 0 := by omega
    rw [this]
    show PlG C (classOf z) T 0 (Pl.new (classOf m.a.hz)) A.w
    rw [c2]
    exact ⟨⟨rfl, rfl⟩, .inl ⟨hcw, .inl ⟨rfl, rfl, rfl⟩⟩⟩
  · have hkl := hg.kle g.hC
    have fit : m.fit C A := ⟨by omega, by rw [c3]; omega, hwb, by rw [c8]; decide, cls0, by rw [c7]; decide, by rw [c6]; decide, hn2, fun _ => hg.fit g.hC hT.tb, fun x => by omega, fun x => by omega, fun x => by omega, fun x => by omega, fun x => by omega⟩
    obtain ⟨⟨x, hx, hxx⟩, hst⟩ := hg.step (who := who) g.hC hT.tb
    have hxn : x ≠ C.slot 0 := by
      rcases hx with q | ⟨j, j0, j1, q⟩
      · omega
      · have := e.ch j; omega
    have hnn : (m.t.step C who A).2.2.n = A.n ∧ (m.t.step C who A).2.2.ok (bb + 1) ∧ (m.t.step C who A).2.2.w (C.slot 0) = putSlot 1 (C.base 0) 1 0 := by
      rcases hxx with q | ⟨v, hv, q⟩
      · rw [q]; exact ⟨(tl _).1, (tl _).2, hsl⟩
      · rw [q]; exact ⟨(ts _ _ hv).1, (ts _ _ hv).2, by rw [store_w, upd_ne _ _ (Ne.symm hxn)]; exact hsl⟩
    obtain ⟨n1, n2, n3⟩ := hnn
    rcases hst with ⟨d, hst⟩ | ⟨d, hst⟩
    · have es1 : m.step C who A = (false, { m with t := (m.t.step C who A).2.1 }, (m.t.step C who A).2.2) := by
        unfold Mv.step; rw [if_neg (by omega), if_pos p, if_pos d]
      rw [es1]
      exact ⟨fit, by omega, n1, n2, .inl ⟨rfl, ⟨c1, c2, c3, c4, c5, c6, c7, c8⟩, hwb, n3, .inr ⟨p, by omega, by rw [show k + 1 - 1 = k - 1 + 1 by omega]; exact hst⟩⟩⟩
    · obtain ⟨hcc, ⟨q1, _⟩ | ⟨_, f, hf, _⟩ | ⟨_, o1, o2, _⟩⟩ := hst
      · exact absurd q1 hT.nd
      · exact absurd hf.2.1 (hT.no f hf.1.1 hf.1.2)
      · have es1 : m.step C who A = (true, ⟨({ m.a with sa := 0, sc := 0, got := false, pc := 2 } : Mo).endm 4, (m.t.step C who A).2.1⟩, (m.t.step C who A).2.2) := by
          unfold Mv.step; rw [if_neg (by omega), if_pos p, if_neg (by rw [d]; decide), if_neg (by rw [o1]; decide)]
        rw [es1]
        exact ⟨fit, by omega, n1, n2, .inr ⟨rfl, rfl, rfl, n3⟩⟩
theorem law_MoveRoom (σ : Mem) (a0 : Int) (w0 : (Lit.int .i64 a0).wf = true) (s : Value) (len : Nat) (cs : List Value) (sl : Sl σ 1 len cs s) (hm : len ≤ maxLen) (hf : FlatL (List.replicate len [some .i64]).flatten cs) (wr : Bool) :
    s_a3 [.int .i64 a0, s, .bool wr] (fun v _ => v = .bool true) σ := by
  obtain ⟨g, hgA, _⟩ := sl.argI hf
  have hC : (cA 4 8 4 20).ok := cA_ok (by omega) (by omega) (by omega) (by omega)
  have gE : ∀ {k : Nat} {x y z w : Int} {u : Bool}, gStore 5 [.pointer (some ⟨k, 0, some 0⟩), .agg #[.int .i64 x, .int .i64 y, .int .i64 z, .int .i64 w, .bool u]] [.int .i64 0, .int .i64 0, .int .i64 0, .int .i64 0, .bool false] = some [.int .i64 x, .int .i64 y, .int .i64 z, .int .i64 w, .bool u] := fun {_ _ _ _ _ _} => rfl
  have gL3 : ∀ {x y : Int} {u : Bool}, gStore 3 [.pointer (some ⟨14, 0, some 0⟩), .agg #[.int .i64 x, .int .i64 y, .bool u]] [.int .i64 0, .int .i64 0, .bool false] = some [.int .i64 x, .int .i64 y, .bool u] := fun {_ _ _} => rfl
  have s5 : ∀ x y z u w : Value, sub [x, y, z, u, w] 0 5 true = some (.agg #[x, y, z, u, w]) := fun _ _ _ _ _ => rfl
  have g2 : ∀ {k : Nat} {x y : Int}, gStore 2 [.pointer (some ⟨k, 0, some 0⟩), .agg #[.int .i64 x, .int .i64 y]] [.int .i64 0, .int .i64 0] = some [.int .i64 x, .int .i64 y] := fun {_ _ _} => rfl
  have g4 : ∀ {k : Nat} {x y z w : Int}, gStore 4 [.pointer (some ⟨k, 0, some 0⟩), .agg #[.int .i64 x, .int .i64 y, .int .i64 z, .int .i64 w]] [.int .i64 0, .int .i64 0, .int .i64 0, .int .i64 0] = some [.int .i64 x, .int .i64 y, .int .i64 z, .int .i64 w] := fun {_ _ _ _ _} => rfl
  have gU : ∀ {k : Nat} {x y z w : Int}, gStore 4 [.pointer (some ⟨k, 0, some 0⟩), .agg #[.int .i64 x, .int .u64 y, .int .i64 z, .int .i64 w]] [.int .i64 0, .int .u64 0, .int .i64 0, .int .i64 0] = some [.int .i64 x, .int .u64 y, .int .i64 z, .int .i64 w] := fun {_ _ _ _ _} => rfl
  have b4 : ∀ (x y z w : Int) (K : Value → Prop), xF (fBuild [(0, 1), (1, 1), (2, 1), (3, 1)] [.int .i64 0, .int .i64 0, .int .i64 0, .int .i64 0] [0, 1, 2, 3]) [.int .i64 x, .int .i64 y, .int .i64 z, .int .i64 w] K = K (.agg #[.int .i64 x, .int .i64 y, .int .i64 z, .int .i64 w]) := fun _ _ _ _ K => nr rfl
  have f1 : ∀ (x y z w : Value) (K : Value → Prop), xF (fFldV 1 1 false) [.agg #[x, y, z, w]] K = K y := fun _ _ _ _ K => nr rfl
  have p0 : ∀ {k : Nat} {x a b c d : Int}, gStore 1 [.pointer (some ⟨k, 0, some 0⟩), .int .i64 x] [.int .i64 a, .int .i64 b, .int .i64 c, .int .i64 d] = some [.int .i64 x, .int .i64 b, .int .i64 c, .int .i64 d] := fun {_ _ _ _ _ _} => rfl
  have p3 : ∀ {k : Nat} {x a b c d : Int}, gStore 1 [.pointer (some ⟨k, 3, some 0⟩), .int .i64 x] [.int .i64 a, .int .i64 b, .int .i64 c, .int .i64 d] = some [.int .i64 a, .int .i64 b, .int .i64 c, .int .i64 x] := fun {_ _ _ _ _ _} => rfl
  have f3 : ∀ (x y z w : Value) (K : Value → Prop), xF (fFldV 3 1 false) [.agg #[x, y, z, w]] K = K w := fun _ _ _ _ K => nr rfl
  have p0 : ∀ {k : Nat} {x a b c d : Int}, gStore 1 [.pointer (some ⟨k, 0, some 0⟩), .int .i64 x] [.int .i64 a, .int .i64 b, .int .i64 c, .int .i64 d] = some [.int .i64 x, .int .i64 b, .int .i64 c, .int .i64 d] := fun {_ _ _ _ _ _} => rfl
  have p35 : ∀ {k : Nat} {x a b c d : Int} {e : Bool}, gStore 1 [.pointer (some ⟨k, 3, some 0⟩), .int .i64 x] [.int .i64 a, .int .i64 b, .int .i64 c, .int .i64 d, .bool e] = some [.int .i64 a, .int .i64 b, .int .i64 c, .int .i64 x, .bool e] := fun {_ _ _ _ _ _ _} => rfl
  have w11 : IntKind.i64.wrap (1 + 1) = 2 := by decide
  simp only [s_a3, w_a3, ruS, ruL, ruE, Nat.reduceAdd, reduceIte, Int.reduceLT, Int.reduceLE, Int.reduceEq, Int.reduceNeg, Int.reduceAdd, Int.reduceSub, Nat.reduceLeDiff, Nat.reduceLT]
  refine c_begun hC hgA fun N A0 τ hN hA0 hE hfr hB0 hBL => ?_
  have hCC : (cA 4 8 4 20).C = 4 := rfl
  have hCR : (cA 4 8 4 20).R = 3 := rfl
  have hz : 1 ≤ 1 + a0 % 16 ∧ 1 + a0 % 16 ≤ 16 := by omega
  simp only [xExt50, xExt51, xExt52, xExt53, xExt54, gStoreE, gE, c_awake11, w_a3_j1, w_a3_j1b, s5, ruS, ruL, ruE, Nat.reduceAdd, reduceIte, Int.reduceLT, Int.reduceLE, Int.reduceEq, Int.reduceNeg, Int.reduceAdd, Int.reduceSub, Nat.reduceLeDiff, Nat.reduceLT]
  generalize 1 + a0 % 16 = z at *
  generalize hCe : cA 4 8 4 20 = C at *
  have hcl : 0 ≤ classOf z := by unfold classOf; (repeat' split) <;> omega
  have g0 : Geo C z 0 := ⟨hC, hcl, by omega, hCR⟩
  have ge := g0.eq
  have el := ge.l1; have el2 := ge.l2; have eb0 := ge.b0; have eW := ge.Wb; have es := ge.s; have eT := ge.Tb; have eS := ge.Sb; have eC := ge.Cb; have ek := ge.kb; have ez := ge.zb
  have hln := len_bd hC
  obtain ⟨q1, q2, q3, q4⟩ := sl_put (st := 1) (ad := C.base 0) (ge := 1) (ve := 0) (by decide) (by omega) (by decide) (by decide)
  have hn0 := hB0.n
  have eC2 : sub (N.el C 0) 2 1 false = some (.int .i64 C.C) := rfl
  -- behind the chunks
  have part2 : ∀ (gx wt : Int), (gx = 2 ∧ wt = 2 ∨ gx = 1 ∧ wt = 4) → w_a3_j2 (fun v _ => v = .bool true) [.int .u64 65536, .int .i64 (C.base 0), .int .i64 wt] [N.el C 0, [.int .i64 2, .int .i64 z, .int .i64 0, .int .i64 gx, .bool false]] τ := by
    intro gx wt hgx
    simp only [w_a3_j2, w_a3_j2b, ruS, ruL, ruE, Nat.reduceAdd, reduceIte, Int.reduceLT, Int.reduceLE, Int.reduceEq, Int.reduceNeg, Int.reduceAdd, Int.reduceSub, Nat.reduceLeDiff, Nat.reduceLT]
    refine xLoop_i (fun i => [.int .u64 65536, .int .i64 (C.base 0), .int .i64 wt, .int .i64 i]) [N.el C 0, [.int .i64 2, .int .i64 z, .int .i64 0, .int .i64 gx, .bool false]] 4
      (fun i τ => ∃ A, 0 ≤ i ∧ i ≤ 4 ∧ isA N A τ ∧ A.n = A0.n ∧ A.ok (2000000 + i) ∧ A.w (C.chunk 0) = A0.w (C.chunk 0) ∧ (∀ j, 0 ≤ j → j < i → chS (A.w (C.chunk j)) ≠ 0) ∧ (∀ y, (∀ j, 0 ≤ j → j < 4 → y ≠ C.chunk j) → A.w y = A0.w y) ∧ Ext σ τ) ?_
      ⟨A0, Int.le_refl 0, by decide, hA0, rfl, by simpa using hB0.ok, rfl, fun j _ _ => by omega, fun _ _ => rfl, hE⟩
    rintro i τ0 ⟨A, i0, i1, hA, hn, hok, hc0, hcs, hsame, ext0⟩ R hR
    simp only [w_law11_MoveRoom_l9, w_law11_MoveRoom_l9b, eC2, hCC, ruS, ruL, ruE, Nat.reduceAdd, reduceIte, Int.reduceLT, Int.reduceLE, Int.reduceEq, Int.reduceNeg, Int.reduceAdd, Int.reduceSub, Nat.reduceLeDiff, Nat.reduceLT]
    by_cases ci : i < 4
    · have hci := ge.ch i
      have hwc := hok.w (C.chunk i)
      have hcb : 0 ≤ C.chunk i ∧ C.chunk i < A.n := by omega
      have nxt : ∀ A4 τ4, isA N A4 τ4 → A4.n = A.n → A4.ok (2000000 + i + 1) → (∀ y, y ≠ C.chunk i → A4.w y = A.w y) → A4.w (C.chunk 0) = A.w (C.chunk 0) → chS (A4.w (C.chunk i)) ≠ 0 → Ext σ τ4 →
          w_a3_j6 (fun v _ => v = .bool true) (w_a3_j3 fun v _ => v = .bool true) R [.int .u64 65536, .int .i64 (C.base 0), .int .i64 wt, .int .i64 i] [N.el C 0, [.int .i64 2, .int .i64 z, .int .i64 0, .int .i64 gx, .bool false]] τ4 := by
        intro A4 τ4 hA4 hn4 ok4 hs4 h04 hc4 ext4
        simp only [w_a3_j6, w_a3_j6b, ruS, ruL, ruE, Nat.reduceAdd, reduceIte, Int.reduceLT, Int.reduceLE, Int.reduceEq, Int.reduceNeg, Int.reduceAdd, Int.reduceSub, Nat.reduceLeDiff, Nat.reduceLT]
        rw [IntWalk.i64_in (i + 1) (by omega)]
        refine hR _ ci ⟨A4, by omega, by omega, hA4, hn4.trans hn, by rw [show 2000000 + (i + 1) = 2000000 + i + 1 by omega]; exact ok4, h04.trans hc0, fun j j0 j1 => ?_, fun y hy => (hs4 y (hy i i0 ci)).trans (hsame y hy), ext4⟩
        by_cases e : j = i
        · rw [e]; exact hc4
        · have := ge.ch j
          rw [hs4 _ (by omega)]; exact hcs j j0 (by omega)
      simp only [ci, c_Chunk hC i0 (show i ≤ 65536 by omega), c_PeekA hN hA hcb.1 hcb.2, c_wChunk hwc.1 hwc.2, g4, ruS, ruL, ruE, Nat.reduceAdd, reduceIte, Int.reduceLT, Int.reduceLE, Int.reduceEq, Int.reduceNeg, Int.reduceAdd, Int.reduceSub, Nat.reduceLeDiff, Nat.reduceLT]
      by_cases hs0 : chS (A.w (C.chunk i)) = 0
      · simp only [hs0, p0, sub4, c_PutChunk, ruS, ruL, ruE, Nat.reduceAdd, reduceIte, Int.reduceLT, Int.reduceLE, Int.reduceEq, Int.reduceNeg, Int.reduceAdd, Int.reduceSub, Nat.reduceLeDiff, Nat.reduceLT]
        refine c_StoreA hN hA hcb.1 hcb.2 hok (by omega) (putChunk_in _ _ _ _) fun A4 τ4 aft ok4 hA4 k4 => ?_
        have hi0 : i ≠ 0 := fun q => by
          rw [q, hc0, hB0.ev 0 (Int.le_refl 0) (Int.le_refl 0)] at hs0; omega
        have h00 := ge.ch 0
        refine nxt A4 τ4 hA4 aft.n ok4 (fun y hy => by rw [aft.w, upd_ne _ _ hy]) (by rw [aft.w, upd_ne _ _ (by omega)]) ?_ (ext0.keep' k4 hfr.all)
        rw [aft.w, upd_same]
        unfold chS putChunk cl; omega
      · simp only [hs0, ruS, ruL, ruE, Nat.reduceAdd, reduceIte, Int.reduceLT, Int.reduceLE, Int.reduceEq, Int.reduceNeg, Int.reduceAdd, Int.reduceSub, Nat.reduceLeDiff, Nat.reduceLT]
        exact nxt A τ0 hA rfl (ok_mono hok (by omega)) (fun _ _ => rfl) rfl hs0 ext0
    · have hi : i = 4 := by omega
      subst hi
      have sl0 : A.w (C.slot 0) = putSlot 1 (C.base 0) 1 0 := by
        rw [hsame _ fun j j0 j1 => by have := ge.ch j; omega]; exact hB0.sl
      simp only [ci, w_a3_j3, w_a3_j3b, ruS, ruL, ruE, Nat.reduceAdd, reduceIte, Int.reduceLT, Int.reduceLE, Int.reduceEq, Int.reduceNeg, Int.reduceAdd, Int.reduceSub, Nat.reduceLeDiff, Nat.reduceLT]
      rw [c_where hN hC hA (by omega) (hok.w _), sl0, q1, q2, q3, q4]
      simp only [g4, s5, ruS, ruL, ruE, Nat.reduceAdd, reduceIte, Int.reduceLT, Int.reduceLE, Int.reduceEq, Int.reduceNeg, Int.reduceAdd, Int.reduceSub, Nat.reduceLeDiff, Nat.reduceLT]
      refine mob_new hA fun p τ1 hp hob x1 => ?_
      have ext1 := ext0.trans x1
      have hA1 := hA.ext x1
      have fin : ∀ m A τ O, m.a.out = wt → m.a.got = false → A.w (C.slot 0) = putSlot 1 (C.base 0) 1 0 → C.len ≤ A.n → isA N A τ → (0 ≤ A.w (C.slot 0) ∧ A.w (C.slot 0) < 18446744073709551616) → MOb N p O m τ → w_a3_j4 (fun v _ => v = .bool true) [.int .u64 65536, .int .i64 wt, .pointer (some ⟨p, 0, none⟩)] [N.el C 0, [.int .i64 1, .int .i64 (C.base 0), .int .i64 1, .int .i64 0]] τ := by
        intro m A τ O h1 h2 h3 h4 hA hw hO
        obtain ⟨a, ap, ao, ag, asa, asc⟩ := hO.out
        simp only [w_a3_j4, w_a3_j4b, ruS, ruL, ruE, Nat.reduceAdd, reduceIte, Int.reduceLT, Int.reduceLE, Int.reduceEq, Int.reduceNeg, Int.reduceAdd, Int.reduceSub, Nat.reduceLeDiff, Nat.reduceLT]
        refine c_MoveSpot ap ?_
        simp only [ag, h2, Bool.false_eq_true, if_false, g2, ruS, ruL, ruE, Nat.reduceAdd, reduceIte, Int.reduceLT, Int.reduceLE, Int.reduceEq, Int.reduceNeg, Int.reduceAdd, Int.reduceSub, Nat.reduceLeDiff, Nat.reduceLT]
        refine c_MoveSpotN ?_
        simp only [g2, ruS, ruL, ruE, Nat.reduceAdd, reduceIte, Int.reduceLT, Int.reduceLE, Int.reduceEq, Int.reduceNeg, Int.reduceAdd, Int.reduceSub, Nat.reduceLeDiff, Nat.reduceLT]
        refine c_MoveOut ap ?_
        rw [ao, h1]
        simp only [ruS, ruL, ruE, Nat.reduceAdd, reduceIte, Int.reduceLT, Int.reduceLE, Int.reduceEq, Int.reduceNeg, Int.reduceAdd, Int.reduceSub, Nat.reduceLeDiff, Nat.reduceLT]
        rw [c_where hN hC hA h4 hw, h3, q1, q2, q3, q4]
        simp only [sub4, eqFlat4, ruS, ruL, ruE, Nat.reduceAdd, reduceIte, Int.reduceLT, Int.reduceLE, Int.reduceEq, Int.reduceNeg, Int.reduceAdd, Int.reduceSub, Nat.reduceLeDiff, Nat.reduceLT]
        refine c_MoveOutN ?_
        simp only [ruS, ruL, ruE, Nat.reduceAdd, reduceIte, Int.reduceLT, Int.reduceLE, Int.reduceEq, Int.reduceNeg, Int.reduceAdd, Int.reduceSub, Nat.reduceLeDiff, Nat.reduceLT]
      rcases hgx with ⟨rfl, rfl⟩ | ⟨rfl, rfl⟩
      · -- it does not live there
        refine xLoop_r (fun x ts ls τ => x = 1 ∧ ts = [.int .u64 65536, .int .i64 2, .pointer (some ⟨p, 0, none⟩), .int .i64 0] ∧ ls = [N.el C 0, [.int .i64 1, .int .i64 (C.base 0), .int .i64 1, .int .i64 0]] ∧ τ = τ1) ?_ (n := 1) ⟨rfl, rfl, rfl, rfl⟩
        rintro x ts ls τ2 ⟨rfl, rfl, rfl, rfl⟩ R hR
        have hfit : (Mv.new (C.base 0) 2 z 0 2 false).fit C A := ⟨⟨Int.le_refl 0, by show (0 : Int) ≤ 11; decide⟩, ⟨Int.le_refl 0, by show (0 : Int) < C.S; omega⟩, ⟨Int.le_refl 0, by show (0 : Int) < 18446744073709551616; decide⟩, ⟨Int.le_refl 0, by show (0 : Int) < 18446744073709551616; decide⟩, hcl, ⟨Int.le_refl 0, by show (0 : Int) ≤ 65536; decide⟩, ⟨Int.le_refl 0, by show (0 : Int) ≤ 65536; decide⟩, by omega, fun x => (by cases x), fun x => (by rcases x with x | x | x <;> cases x), fun x => (by rcases x with x | x <;> cases x), fun x => (by cases x), fun x => (by cases x), fun x => (by cases x)⟩
        have es1 : (Mv.new (C.base 0) 2 z 0 2 false).step C 0 A = (true, { (Mv.new (C.base 0) 2 z 0 2 false) with a := ({ (Mv.new (C.base 0) 2 z 0 2 false).a with w := A.w (C.slot 0) } : Mo).endm 2 }, (A.by 0).load (C.slot 0)) :=
          Mv.see2 rfl (by show slS (A.w (C.slot 0)) = 1; rw [sl0, q1]) (by show slG (A.w (C.slot 0)) ≠ 2; rw [sl0, q3]; decide)
        simp only [w_law11_MoveRoom_l19, w_law11_MoveRoom_l19b, w_a3_j5, ruS, ruL, ruE, Nat.reduceAdd, reduceIte, Int.reduceLT, Int.reduceLE, Int.reduceEq, Int.reduceNeg, Int.reduceAdd, Int.reduceSub, Nat.reduceLeDiff, Nat.reduceLT]
        refine c_Mv_Step hN hC hA1 hob hok.w (by omega) hfit fun O' τ3 hO' hA3 hO3 hK3 => ?_
        rw [es1] at *
        dsimp only at *
        simp only [ruS, ruL, ruE, Nat.reduceAdd, reduceIte, Int.reduceLT, Int.reduceLE, Int.reduceEq, Int.reduceNeg, Int.reduceAdd, Int.reduceSub, Nat.reduceLeDiff, Nat.reduceLT]
        exact fin _ ((A.by 0).load (C.slot 0)) τ3 O' rfl rfl sl0 (by show C.len ≤ A.n; omega) hA3 (hok.w _) hO3
      · -- there is no room
        have hcw : ∀ j, 0 ≤ j → j < C.C → chS (A.w (C.chunk j)) ≠ 0 := fun j j0 j1 => hcs j j0 (by omega)
        have ho : A.w (2 + classOf z) = 1 := by
          rw [hsame _ fun j j0 j1 => by have := ge.ch j; omega, hB0.o]; rfl
        have hT : RmT C z A.w := ⟨⟨⟨hcl, (class_bd z).2⟩, by rw [ho]; omega, fun j _ _ => hok.w _, fun j j0 j1 hj => absurd hj (hcw j j0 j1)⟩, hcw, fun ⟨_, h1, _⟩ => by
          rw [ho, show (1 : Int) - 1 = 0 from rfl, hc0, hB0.ev 0 (Int.le_refl 0) (Int.le_refl 0)] at h1; omega⟩
        have hI : RmI C z A.w 0 (Mv.new (C.base 0) 2 z 0 1 false) A := ⟨⟨rfl, rfl, rfl, rfl, rfl, rfl, rfl, rfl⟩, ⟨Int.le_refl 0, by show (0 : Int) < 18446744073709551616; decide⟩, sl0, .inl ⟨rfl, Cw.refl, rfl⟩⟩
        generalize A.w = T at hT hI
        refine xLoop_r (fun x ts ls τ => ∃ k m A1 O, x = (100 - k).toNat ∧ ts = [.int .u64 65536, .int .i64 4, .pointer (some ⟨p, 0, none⟩), .int .i64 k] ∧ ls = [N.el C 0, [.int .i64 1, .int .i64 (C.base 0), .int .i64 1, .int .i64 0]] ∧ 0 ≤ k ∧ isA N A1 τ ∧ RmI C z T k m A1 ∧ A1.ok (2000100 + k) ∧ A1.n = A0.n ∧ MOb N p O m τ ∧ (∀ j ∈ O, σ.get j = none) ∧ Ext σ τ) ?_ (n := 100)
          ⟨0, _, A, [p], by decide, rfl, rfl, Int.le_refl 0, hA1, hI, ok_mono hok (by decide), hn, hob, fun j hj => by rw [List.mem_singleton.1 hj]; exact ext0.none hp, ext1⟩
        rintro x ts ls τ2 ⟨k, m, A2, O, rfl, rfl, rfl, k0, hA2, hI2, hok2, hn2, hO2, hOn, ext2⟩ R hR
        obtain ⟨hfit, hk73, hnn, hok', hst⟩ := hI2.step (who := 0) g0 hT hok2 (by have := hI2.p; rcases this with ⟨_, _, q⟩ | ⟨_, _, q⟩ <;> first | omega | (have := q.kle hC; omega)) (by omega) (by omega)
        have k100 : k < 100 := by omega
        simp only [w_law11_MoveRoom_l19, w_law11_MoveRoom_l19b, k100, ruS, ruL, ruE, Nat.reduceAdd, reduceIte, Int.reduceLT, Int.reduceLE, Int.reduceEq, Int.reduceNeg, Int.reduceAdd, Int.reduceSub, Nat.reduceLeDiff, Nat.reduceLT]
        refine c_Mv_Step hN hC hA2 hO2 hok2.w (by omega) hfit fun O' τ3 hO' hA3 hO3 hK3 => ?_
        have hOn' : ∀ j ∈ O', σ.get j = none := fun j hj => by
          rcases hO' j hj with h | h
          · exact hOn j h
          · exact ext2.none h
        have ext3 : Ext σ τ3 := ext2.keep' hK3 fun j hj => by
          rcases List.mem_append.1 hj with h | h
          · exact hOn j h
          · exact hfr.all j h
        generalize m.step C 0 A2 = r at *
        obtain ⟨d, m', A3⟩ := r
        dsimp only at *
        rcases hst with ⟨rfl, h'⟩ | ⟨rfl, h1, h2, h3⟩
        · simp only [w_a3_j5, w_a3_j5b, ruS, ruL, ruE, Nat.reduceAdd, reduceIte, Int.reduceLT, Int.reduceLE, Int.reduceEq, Int.reduceNeg, Int.reduceAdd, Int.reduceSub, Nat.reduceLeDiff, Nat.reduceLT]
          rw [IntWalk.i64_in (k + 1) (by omega)]
          exact hR (100 - (k + 1)).toNat _ _ _ (by omega) ⟨k + 1, m', A3, O', rfl, rfl, rfl, by omega, hA3, h', by rw [show 2000100 + (k + 1) = 2000100 + k + 1 by omega]; exact hok', hnn.trans hn2, hO3, hOn', ext3⟩
        · simp only [ruS, ruL, ruE, Nat.reduceAdd, reduceIte, Int.reduceLT, Int.reduceLE, Int.reduceEq, Int.reduceNeg, Int.reduceAdd, Int.reduceSub, Nat.reduceLeDiff, Nat.reduceLT]
          exact fin m' A3 τ3 O' h1 h2 h3 (by omega) hA3 (hok'.w _) hO3
  cases wr with
  | true =>
    simp only [p35, w11, ruS, ruL, ruE, Nat.reduceAdd, reduceIte, Int.reduceLT, Int.reduceLE, Int.reduceEq, Int.reduceNeg, Int.reduceAdd, Int.reduceSub, Nat.reduceLeDiff, Nat.reduceLT]
    exact part2 2 2 (.inl ⟨rfl, rfl⟩)
  | false =>
    simp only [ruS, ruL, ruE, Nat.reduceAdd, reduceIte, Int.reduceLT, Int.reduceLE, Int.reduceEq, Int.reduceNeg, Int.reduceAdd, Int.reduceSub, Nat.reduceLeDiff, Nat.reduceLT]
    exact part2 1 4 (.inr ⟨rfl, rfl⟩)
end Go.Fl
