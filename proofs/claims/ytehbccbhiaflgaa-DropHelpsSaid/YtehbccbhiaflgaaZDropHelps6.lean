/- What the claim leans on, part 6: own readings of the program's functions, what they come to, laws of them. No condition. -/
import Derived.Test.YtehbccbhiaflgaaZDropHelps5
namespace Go.Fl
open Go
set_option linter.unusedVariables false
set_option linter.unusedSimpArgs false
variable {N : Nm} {A B : Ar} {σ : Mem} {K : Value → Mem → Prop} {C : Cf} {who : Int}
theorem DOb.keep {p : Nat} {O L : List Nat} {m : Dm} {τ : Mem} (h : DOb N p O m σ) (k : Keep L σ τ) (hL : ∀ i ∈ O, i ∉ L) : DOb N p O m τ := by
  obtain ⟨⟨a, b, h1, h2, h3⟩, h4, h5⟩ := h
  refine ⟨⟨a, b, k _ _ h1 (hL p h5), fun e => ?_, fun e => ?_⟩, h4, h5⟩
  · obtain ⟨q, q1, q2, q3, q4⟩ := h2 e; exact ⟨q, q1, q2, q3, k _ _ q4 (hL q q2)⟩
  · obtain ⟨q, q1, q2, q3, q4⟩ := h3 e; exact ⟨q, q1, q2, q3, k _ _ q4 (hL q q2)⟩
theorem DOb.small {p : Nat} {O : List Nat} {m : Dm} (h : DOb N p O m σ) (h3 : m.d.pc = 3) : ∃ O', DOb N p O' m σ ∧ ∀ i ∈ O', σ.get i ≠ none := by
  obtain ⟨⟨a, b, g1, g2, g3⟩, own, pO⟩ := h
  obtain ⟨q, rfl, qO, qp, gq⟩ := g2 (.inl h3)
  refine ⟨[p, q], ⟨⟨some q, b, g1, fun _ => ⟨q, rfl, by simp, qp, gq⟩, fun e => absurd (h3.symm.trans e) (by decide)⟩, fun i hi => ?_, by simp⟩, fun i hi => ?_⟩
  · simp only [List.mem_cons, List.not_mem_nil, or_false] at hi
    rcases hi with rfl | rfl
    · exact own _ pO
    · exact own _ qO
  · simp only [List.mem_cons, List.not_mem_nil, or_false] at hi
    rcases hi with rfl | rfl
    · rw [g1]; simp
    · rw [gq]; simp
abbrev KT : Value → Mem → Prop := fun v _ => v = .bool true
theorem c_Won {p : Nat} {t : Hl} {b : Bool} (hp : σ.get p = some ⟨t.l, b⟩) : s_drop_Help_Won [.pointer (some ⟨p, 0, none⟩)] K σ = K (.bool t.won) σ := by
  simp only [s_drop_Help_Won, w_drop_Help_Won, ruS, ruL, ruE, Nat.reduceAdd, reduceIte, Int.reduceLT, Int.reduceLE, Int.reduceEq, Int.reduceNeg, Int.reduceAdd, Int.reduceSub, Nat.reduceLeDiff, Nat.reduceLT]
  rw [hLoad_eq hp, show sub t.l 6 1 false = some (.bool t.won) from rfl]
  simp only [ruS, ruL, ruE, Nat.reduceAdd, reduceIte, Int.reduceLT, Int.reduceLE, Int.reduceEq, Int.reduceNeg, Int.reduceAdd, Int.reduceSub, Nat.reduceLeDiff, Nat.reduceLT]
theorem c_WonN : s_drop_Help_Won [.pointer none] K σ = K (.bool false) σ := by
  simp only [s_drop_Help_Won, w_drop_Help_Won, ruS, ruL, ruE, Nat.reduceAdd, reduceIte, Int.reduceLT, Int.reduceLE, Int.reduceEq, Int.reduceNeg, Int.reduceAdd, Int.reduceSub, Nat.reduceLeDiff, Nat.reduceLT]
theorem dh_end (hN : N.ok) (hC : C.ok) {b : Bg} {d : Do} {w1 : Int → Int} {p : Nat} {st : Prop} (hd : d.ok C b w1) (hAw : ∃ w, b.aw C w) (hng : ¬ C.G ≤ d.ge) (hws : 0 ≤ d.ws ∧ d.ws < 18446744073709551616) (hj : d.j = 0) {oE : Int} (hoE : (st → oE = 0) ∧ (¬ st → oE = 3))
    {A : Ar} {τ : Mem} {m : Dm} {O : List Nat} {done : Bool} (hA : isA N A τ) (ok : A.ok 10000) (hn : C.len ≤ A.n) (hO : DOb N p O m τ) (h : done = false ∧ CnI C b d st 0 m A ∨ done = true ∧ CnD C d st m A) :
    xLoop (w_law09_DropHelps_l27 KT (w_law09_DropHelps_j4 KT)) [.pointer (some ⟨p, 0, none⟩), .bool done, .int .i64 oE, .int .i64 0] [N.el C 0] τ := by
  have av := d.av hC hd hAw
  have hT := hC.T
  have hS := hC.S
  have hCC := hC.C
  have hlen := len_bd hC
  have hch : C.chunk C.C = 6 + C.T + 2 * C.S + 3 * C.C := rfl
  have hc0 : C.chunk 0 = 6 + C.T + 2 * C.S + 3 * 0 := rfl
  have f0 : ∀ (x y z w : Value) (K : Value → Prop), xF (fFldV 0 1 false) [.agg #[x, y, z, w]] K = K x := fun _ _ _ _ K => nr rfl
  refine xLoop_r (fun n ts ls τ => ∃ k m A O done, n = (200 - k).toNat ∧ ts = [.pointer (some ⟨p, 0, none⟩), .bool done, .int .i64 oE, .int .i64 k] ∧ ls = [N.el C 0] ∧ 0 ≤ k ∧ k ≤ 100 ∧ isA N A τ ∧ A.ok (10000 + k) ∧ C.len ≤ A.n ∧ DOb N p O m τ ∧ (done = false ∧ CnI C b d st k m A ∨ done = true ∧ CnD C d st m A)) ?_ (n := 200)
    ⟨0, m, A, O, done, by decide, rfl, rfl, Int.le_refl 0, by decide, hA, by simpa using ok, hn, hO, h⟩
  rintro n ts ls υ ⟨k, m, A, O, done, rfl, rfl, rfl, k0, k1, hA, ok, hn, hO, h⟩ R hR
  have hk : k < 200 := by omega
  simp only [w_law09_DropHelps_l27, w_law09_DropHelps_l27b, hk, ruS, ruL, ruE, Nat.reduceAdd, reduceIte, Int.reduceLT, Int.reduceLE, Int.reduceEq, Int.reduceNeg, Int.reduceAdd, Int.reduceSub, Nat.reduceLeDiff, Nat.reduceLT]
  rcases h with ⟨e, h⟩ | ⟨e, h⟩
  · subst e
    have hkl := h.kle av.2.2.1
    simp only [w_law09_DropHelps_j5, w_law09_DropHelps_j5b, ruS, ruL, ruE, Nat.reduceAdd, reduceIte, Int.reduceLT, Int.reduceLE, Int.reduceEq, Int.reduceNeg, Int.reduceAdd, Int.reduceSub, Nat.reduceLeDiff, Nat.reduceLT]
    refine c_Drop_Step hN hC hA hO ok.w hn (h.fit hC hd hAw ok.w hws hn) fun O' τ' _ hA' hO' _ => ?_
    obtain ⟨⟨o1, o2⟩, h'⟩ := h.step (who := 0) hC hd hAw hng hws ok (by omega)
    generalize m.step C 0 A = r at *
    obtain ⟨dn, m', A'⟩ := r
    dsimp only at *
    rw [IntWalk.i64_in (k + 1) (by omega)]
    exact hR (200 - (k + 1)).toNat _ _ _ (by omega) ⟨k + 1, m', A', O', dn, rfl, rfl, rfl, by omega, by omega, hA', by rw [show 10000 + (k + 1) = 10000 + k + 1 by omega]; exact o1, by rw [o2]; exact hn, hO', h'⟩
  · subst e
    have hl := h.live
    rw [hj] at hl
    simp only [w_law09_DropHelps_j4, w_law09_DropHelps_j4b, ruS, ruL, ruE, Nat.reduceAdd, reduceIte, Int.reduceLT, Int.reduceLE, Int.reduceEq, Int.reduceNeg, Int.reduceAdd, Int.reduceSub, Nat.reduceLeDiff, Nat.reduceLT]
    refine DOb.done hA hO ?_
    by_cases hst : st
    · have e1 := h.e.1 hst
      have e2 := hoE.1 hst
      subst e2
      simp only [e1, f0, c_WonN, c_Chunk hC (Int.le_refl 0) (by decide), IntWalk.i64_in (C.chunk 0 + 1) (by omega), c_PeekA hN hA (show 0 ≤ C.chunk 0 + 1 by omega) (show C.chunk 0 + 1 < A.n by omega), hl, ruS, ruL, ruE, Nat.reduceAdd, reduceIte, Int.reduceLT, Int.reduceLE, Int.reduceEq, Int.reduceNeg, Int.reduceAdd, Int.reduceSub, Nat.reduceLeDiff, Nat.reduceLT]
      try trivial
    · have e1 := h.e.2 hst
      have e2 := hoE.2 hst
      subst e2
      simp only [e1, f0, c_WonN, c_Chunk hC (Int.le_refl 0) (by decide), IntWalk.i64_in (C.chunk 0 + 1) (by omega), c_PeekA hN hA (show 0 ≤ C.chunk 0 + 1 by omega) (show C.chunk 0 + 1 < A.n by omega), hl, ruS, ruL, ruE, Nat.reduceAdd, reduceIte, Int.reduceLT, Int.reduceLE, Int.reduceEq, Int.reduceNeg, Int.reduceAdd, Int.reduceSub, Nat.reduceLeDiff, Nat.reduceLT]
      try trivial
theorem dh_j3 (hN : N.ok) (hC : C.ok) {b : Bg} {d : Do} {w1 : Int → Int} {p : Nat} (hd : d.ok C b w1) (hAw : b.aw C w1) (hng : ¬ C.G ≤ d.ge) (hws : 0 ≤ d.ws ∧ d.ws < 18446744073709551616) (hj : d.j = 0) (hown : d.own = false) (hlv : b.lv d.j = roomOf (classOf d.z))
    {A : Ar} {τ : Mem} {m : Dm} {O : List Nat} {done : Bool} (hA : isA N A τ) (ok : A.ok 8000) (hn : C.len ≤ A.n) (hO : DOb N p O m τ)
    (h : done = false ∧ A.w = w1 ∧ (m.d.n = d.n ∧ m.d.own = d.own) ∧ (m.d.pc = 0 ∧ m.d.hs = 0 ∧ m.d.w = 0 ∨ m.d.hs = d.s ∧ m.d.w = d.ws ∧ (m.d.pc = 1 ∨ m.d.pc = 2)) ∨ A.w (C.slot d.s) = d.nx C ∧ (done = false ∧ CnI C b d False 0 m A ∨ done = true ∧ CnD C d False m A)) :
    w_law09_DropHelps_j3 KT [.int .u64 d.n, .pointer (some ⟨p, 0, none⟩), .bool done] [N.el C 0] τ := by
  have av := d.av hC hd ⟨_, hAw⟩
  have hS := hC.S
  have hT := hC.T
  have hCC := hC.C
  have hG := hC.G
  have hs := hd.s
  have hjj := hd.j
  have hb0 : C.base 0 = 6 + C.T + 2 * C.S + 3 * C.C := by unfold Cf.base; omega
  have esl : C.slot d.s = 6 + C.T + 2 * d.s := rfl
  have ech : C.chunk d.j = 6 + C.T + 2 * C.S + 3 * d.j := rfl
  have f0 : ∀ (x y z w : Value) (K : Value → Prop), xF (fFldV 0 1 false) [.agg #[x, y, z, w]] K = K x := fun _ _ _ _ K => nr rfl
  simp only [w_law09_DropHelps_j3, w_law09_DropHelps_j3b, ruS, ruL, ruE, Nat.reduceAdd, reduceIte, Int.reduceLT, Int.reduceLE, Int.reduceEq, Int.reduceNeg, Int.reduceAdd, Int.reduceSub, Nat.reduceLeDiff, Nat.reduceLT]
  rcases h with ⟨e, ew, en, h⟩ | ⟨hsl, h⟩
  · subst e
    have hAw' : b.aw C A.w := by rw [ew]; exact hAw
    have hd' : d.ok C b A.w := by rw [ew]; exact hd
    have := room_bd hd.cl (class_bd d.z).2
    rw [← hown]
    refine c_DropA (d := d) hN hC hA (Bg.aw.pa hC hAw' ok hn) (by decide) hAw' hd' (by omega) fun m' A' τ' hD hP' _ hA' hK => ?_
    simp only [f0, ruS, ruL, ruE, Nat.reduceAdd, reduceIte, Int.reduceLT, Int.reduceLE, Int.reduceEq, Int.reduceNeg, Int.reduceAdd, Int.reduceSub, Nat.reduceLeDiff, Nat.reduceLT]
    rw [hown]
    refine dh_end (st := True) hN hC hd ⟨_, hAw⟩ hng hws hj ⟨fun _ => rfl, fun q => absurd trivial q⟩ hA' (ok_mono hP'.ok (by decide)) hP'.n (hO.keep hK hO.own) (.inl ⟨rfl, hD.sl, en, .inl ⟨trivial, ?_, ?_, ?_⟩⟩)
    · rw [hD.fr _ (by omega) (by omega) (by omega) (by omega) (by omega), ew]; exact hd.hd.2
    · have := hD.aw.live d.j hjj.1 hjj.2
      rw [this]
      show upd b.lv d.j (b.lv d.j - roomOf (classOf d.z)) d.j = 0
      rw [upd_same, hlv]; omega
    · rcases h with ⟨h1, h2, h3⟩ | ⟨h1, h2, h3⟩
      · exact .inl ⟨h1, by decide, by rw [h2]; omega, by rw [h3]; decide⟩
      · exact .inr ⟨h1, h2, by rcases h3 with q | q; exact .inl ⟨q, by decide⟩; exact .inr ⟨q, by decide⟩⟩
  · refine c_DropNo hN hC hA hd.n ok (by decide) hn (.inr ⟨⟨hd.hok, hs.2⟩, .inl ?_⟩) fun oS A' τ' _ ew en ok' hA' hK => ?_
    · rw [show C.slot (hdSl d.n) = C.slot d.s from rfl, hsl]; exact d.nx_not hd.ge hG.2 _
    · simp only [f0, ruS, ruL, ruE, Nat.reduceAdd, reduceIte, Int.reduceLT, Int.reduceLE, Int.reduceEq, Int.reduceNeg, Int.reduceAdd, Int.reduceSub, Nat.reduceLeDiff, Nat.reduceLT]
      refine dh_end (st := False) hN hC hd ⟨_, hAw⟩ hng hws hj ⟨fun q => q.elim, fun _ => rfl⟩ hA' (ok_mono ok' (by decide)) (by rw [en]; exact hn) (hO.keep hK hO.own) ?_
      rcases h with ⟨e, h1, h2, h3⟩ | ⟨e, h⟩
      · refine .inl ⟨e, by rw [ew]; exact h1, h2, ?_⟩
        rcases h3 with ⟨q, _⟩ | ⟨q, q1, q2, q3, q4, q5, h3⟩
        · exact q.elim
        · refine .inr ⟨q, q1, q2, q3, q4, q5, ?_⟩
          rcases h3 with ⟨h3, w0, hh⟩ | ⟨h3, h4⟩
          · refine .inl ⟨h3, w0, ?_⟩
            obtain ⟨g1, g2, g3, g4, g5, g6, g7⟩ := hh
            refine ⟨by unfold Bg.aw; rw [ew]; exact g1, by rw [ew]; exact g2, g3, g4, g5, fun a ha => by rw [ew]; exact g6 a ha, ?_⟩
            rw [ew]; exact g7
          · refine .inr ⟨h3, ?_⟩
            rw [ew]; exact h4
      · exact .inr ⟨e, by rw [ew]; exact h.live, h.e⟩
theorem law_DropHelps (σ : Mem) (a0 : Int) (w0 : (Lit.int .i64 a0).wf = true) (a1 : Int) (w1 : (Lit.int .i64 a1).wf = true) :
    s_law09_DropHelps [.int .i64 a0, .int .i64 a1] (fun v _ => v = .bool true) σ := by
  simp only [s_law09_DropHelps, w_law09_DropHelps, ruS, ruL, ruE, Nat.reduceAdd, reduceIte, Int.reduceLT, Int.reduceLE, Int.reduceEq, Int.reduceNeg, Int.reduceAdd, Int.reduceSub, Nat.reduceLeDiff, Nat.reduceLT]
  have hC : (cA 2 4 4 20).ok := cA_ok (by omega) (by omega) (by omega) (by omega)
  refine c_Arena (C := cA 2 4 4 20) hC rfl rfl rfl fun N A τ hN hF hA hE hf => ?_
  have hz : 1 ≤ 1 + a0 % 16 ∧ 1 + a0 % 16 ≤ 16 := by omega
  have f1 : ∀ (x y z w : Value) (K : Value → Prop), xF (fFldV 1 1 false) [.agg #[x, y, z, w]] K = K y := fun _ _ _ _ K => nr rfl
  simp only [c_awake9, gStoreE, w_law09_DropHelps_j1, w_law09_DropHelps_j1b, andI15, ruS, ruL, ruE, Nat.reduceAdd, reduceIte, Int.reduceLT, Int.reduceLE, Int.reduceEq, Int.reduceNeg, Int.reduceAdd, Int.reduceSub, Nat.reduceLeDiff, Nat.reduceLT]
  generalize 1 + a0 % 16 = z at hz
  rw [IntWalk.i64_in z (by omega)]
  have hP := (hF.pa hC).mono (show 2 * (cA 2 4 4 20).S + 2 ≤ 200 by decide)
  have hAw0 := hF.aw hC
  have hS : (cA 2 4 4 20).S = 4 := rfl
  have hCC : (cA 2 4 4 20).C = 4 := rfl
  have hG : (cA 2 4 4 20).G = 100 := rfl
  have hFF : (Bg.fr (cA 2 4 4 20)).F = [0, 1, 2, 3] := rfl
  have hlv0 : ∀ j, (Bg.fr (cA 2 4 4 20)).lv j = 0 := fun _ => rfl
  have hnx0 : (Bg.fr (cA 2 4 4 20)).nx = 0 := rfl
  have ho0 : ∀ c, (Bg.fr (cA 2 4 4 20)).o c = -1 := fun _ => rfl
  have hge : slG (A.w ((cA 2 4 4 20).slot 0)) = 1 := by rw [hF.w]; decide
  generalize hCe : cA 2 4 4 20 = C at *
  clear hF
  have hcl : 0 ≤ classOf z := by unfold classOf; (repeat' split) <;> omega
  refine c_MakeA hN hC hA hP (by omega) hAw0 (fr_lv.ok (by decide)) hcl fun m A2 τ2 hD hP2 hA2 _ => ?_
  obtain ⟨e0, _, j, b', hg, hj, hu, eH, hAw, w1', w2, w3⟩ := hD.r.ok hFF (.inr (by omega))
  rw [hge] at eH w1' w2
  have hd := hg.do (own := false) hC hcl (by omega : (0 : Int) ≤ 0 ∧ 0 < C.S) (by simp) (by decide) ⟨_, hAw0.alo⟩ (by rw [hlv0]; decide) w1' w2
  have hj0 : j = 0 := by
    rcases hg with ⟨g, _⟩ | ⟨_, _, e, _⟩
    · have := g.1; rw [ho0] at this; omega
    · rw [e, hnx0]
  obtain ⟨u0, u1, u2, u3, u4⟩ := hd_handle (s := 0) (g := 1) (by decide) (by decide)
  have hlv : (b'.count j (roomOf (classOf z))).lv j = roomOf (classOf z) := by rw [(hg.cnt hC).2.1, upd_same, hlv0]; omega
  have hdj : (Do.mk' C (Bg.fr C) 0 1 z false j).j = 0 := hj0
  have hds : (Do.mk' C (Bg.fr C) 0 1 z false j).s = 0 := u2
  have hdg : (Do.mk' C (Bg.fr C) 0 1 z false j).ge = 1 := u3
  have hdn : (Do.mk' C (Bg.fr C) 0 1 z false j).n = m.a.oH := eH.symm
  have hdz : (Do.mk' C (Bg.fr C) 0 1 z false j).z = z := rfl
  have hdo : (Do.mk' C (Bg.fr C) 0 1 z false j).own = false := rfl
  have hws : 0 ≤ (Do.mk' C (Bg.fr C) 0 1 z false j).ws ∧ (Do.mk' C (Bg.fr C) 0 1 z false j).ws < 18446744073709551616 := putSlot_in _ _ _ _
  have hlv' : (b'.count j (roomOf (classOf z))).lv (Do.mk' C (Bg.fr C) 0 1 z false j).j = roomOf (classOf (Do.mk' C (Bg.fr C) 0 1 z false j).z) := hlv
  generalize Do.mk' C (Bg.fr C) 0 1 z false j = d at *
  generalize b'.count j (roomOf (classOf z)) = b at *
  have hng : ¬ C.G ≤ d.ge := by rw [hdg]; omega
  have av := d.av hC hd ⟨_, hAw⟩
  have vp := d.vp hC hd ⟨_, hAw⟩
  have hnxp := d.nxp hd.ge hC.G.2
  have hT := hC.T
  have hlen := len_bd hC
  have hch : C.chunk C.C = 6 + C.T + 2 * C.S + 3 * C.C := rfl
  have es0 : C.slot 0 = 6 + C.T + 2 * 0 := rfl
  have hnx : d.nx C = putSlot 0 0 2 0 := by unfold Do.nx; rw [if_neg hng, hdg]; rfl
  simp only [f1, ruS, ruL, ruE, Nat.reduceAdd, reduceIte, Int.reduceLT, Int.reduceLE, Int.reduceEq, Int.reduceNeg, Int.reduceAdd, Int.reduceSub, Nat.reduceLeDiff, Nat.reduceLT]
  rw [← hdn]
  refine dob_new hA2 fun p τ3 hp hob x3 => ?_
  have hA3 := hA2.ext x3
  refine xLoop_r (fun n ts ls τ => ∃ k m A O done, n = (64 - k).toNat ∧ ts = [.int .i64 a1, .int .i64 z, .int .u64 d.n, .pointer (some ⟨p, 0, none⟩), .bool done, .int .i64 k] ∧ ls = [N.el C 0] ∧ 0 ≤ k ∧ k ≤ 64 ∧ isA N A τ ∧ A.ok (1000 + k) ∧ C.len ≤ A.n ∧ DOb N p O m τ ∧ A2.s ≤ A.s ∧
      (done = false ∧ DrI C b d A2.w A2.s k m A ∨ done = true ∧ DnD C b d A2.w A2.s m A)) ?_ (n := 64)
    ⟨0, Dm.new d.n false, A2, [p], false, by decide, rfl, rfl, Int.le_refl 0, by decide, hA3, ok_mono hP2.ok (by decide), hP2.n, hob, Int.le_refl _, .inl ⟨rfl, rfl, hdo.symm, .inl ⟨rfl, Int.le_refl 0, rfl, rfl, rfl⟩⟩⟩
  rintro n ts ls υ ⟨k, m3, A3, O, done, rfl, rfl, rfl, k0, k1, hA3, ok3, hn3, hO, hs3, h⟩ R hR
  have go : w_law09_DropHelps_j2 (fun v _ => v = .bool true) [.int .i64 z, .int .u64 d.n, .pointer (some ⟨p, 0, none⟩), .bool done] [N.el C 0] υ := by
    have okj : A3.ok 8000 := ok_mono ok3 (by omega)
    have hsb : 0 ≤ C.slot 0 ∧ C.slot 0 < A3.n := by omega
    have hwb := ok3.w (C.slot 0)
    have g14 : ∀ {x y z w : Int}, gStore 4 [.pointer (some ⟨14, 0, some 0⟩), .agg #[.int .i64 x, .int .i64 y, .int .i64 z, .int .i64 w]] [.int .i64 0, .int .i64 0, .int .i64 0, .int .i64 0] = some [.int .i64 x, .int .i64 y, .int .i64 z, .int .i64 w] := fun {_ _ _ _} => rfl
    have j3 := fun {A : Ar} {τ : Mem} {m : Dm} {O : List Nat} {done : Bool} => dh_j3 (A := A) (τ := τ) (m := m) (O := O) (done := done) (p := p) hN hC hd hAw hng hws hdj hdo hlv'
    simp only [w_law09_DropHelps_j2, w_law09_DropHelps_j2b, c_Slot hC (Int.le_refl 0) (by decide), c_PeekA hN hA3 hsb.1 hsb.2, c_wSlot hwb.1 hwb.2, g14, ruS, ruL, ruE, Nat.reduceAdd, reduceIte, Int.reduceLT, Int.reduceLE, Int.reduceEq, Int.reduceNeg, Int.reduceAdd, Int.reduceSub, Nat.reduceLeDiff, Nat.reduceLT]
    have nx4 : A3.w (C.slot d.s) = d.nx C → ¬ slS (A3.w (C.slot 0)) = 4 := by
      intro e
      rw [hds] at e
      rw [e]; omega
    rcases h with ⟨e, e1, e2, h⟩ | ⟨e, h⟩
    · subst e
      rcases h with ⟨h, _, ew, h1, h2⟩ | ⟨h1, hgg, h2, ⟨h, _, ew⟩ | ⟨hzz, ⟨h, _, ew⟩ | ⟨fr, ⟨h, haw, hsl, ⟨h3a, h3b, h3c⟩, h4, h5, h6⟩ | ⟨hsl, oE, oS, ⟨h, haw, _⟩ | ⟨h, _, kk, hgv, hk0, _⟩⟩⟩⟩⟩
      · have n4 : ¬ slS (A3.w (C.slot 0)) = 4 := by have q := hd.ws; rw [hds] at q; rw [ew, q]; have := hd.st; omega
        simp only [n4, ruS, ruL, ruE, Nat.reduceAdd, reduceIte, Int.reduceLT, Int.reduceLE, Int.reduceEq, Int.reduceNeg, Int.reduceAdd, Int.reduceSub, Nat.reduceLeDiff, Nat.reduceLT]
        exact j3 hA3 okj hn3 hO (.inl ⟨rfl, ew, ⟨e1, e2⟩, .inl ⟨h, h1, h2⟩⟩)
      · have n4 : ¬ slS (A3.w (C.slot 0)) = 4 := by have q := hd.ws; rw [hds] at q; rw [ew, q]; have := hd.st; omega
        simp only [n4, ruS, ruL, ruE, Nat.reduceAdd, reduceIte, Int.reduceLT, Int.reduceLE, Int.reduceEq, Int.reduceNeg, Int.reduceAdd, Int.reduceSub, Nat.reduceLeDiff, Nat.reduceLT]
        exact j3 hA3 okj hn3 hO (.inl ⟨rfl, ew, ⟨e1, e2⟩, .inr ⟨h1, h2, .inl h⟩⟩)
      · have n4 : ¬ slS (A3.w (C.slot 0)) = 4 := by have q := hd.ws; rw [hds] at q; rw [ew, q]; have := hd.st; omega
        simp only [n4, ruS, ruL, ruE, Nat.reduceAdd, reduceIte, Int.reduceLT, Int.reduceLE, Int.reduceEq, Int.reduceNeg, Int.reduceAdd, Int.reduceSub, Nat.reduceLeDiff, Nat.reduceLT]
        exact j3 hA3 okj hn3 hO (.inl ⟨rfl, ew, ⟨e1, e2⟩, .inr ⟨h1, h2, .inr h⟩⟩)
      · have hv : A3.w (C.slot 0) = d.v C := by rw [← hds]; exact hsl
        have n4 : slS (A3.w (C.slot 0)) = 4 := by rw [hv]; exact vp.1
        have hne : ¬ d.nx C = d.v C := by intro q; rw [q, vp.1] at hnxp; omega
        obtain ⟨O2, hO2, hOn⟩ := hO.small h
        simp only [n4, ruS, ruL, ruE, Nat.reduceAdd, reduceIte, Int.reduceLT, Int.reduceLE, Int.reduceEq, Int.reduceNeg, Int.reduceAdd, Int.reduceSub, Nat.reduceLeDiff, Nat.reduceLT]
        rw [hv]
        refine c_NewHelp fun x υ1 hx gx xx => ?_
        have hA4 := hA3.ext xx
        refine c_NewHelp fun y υ2 hy gy xy => ?_
        have hA5 := hA4.ext xy
        have gx2 := xy _ _ gx
        have hO5 := (hO2.ext xx).ext xy
        have xn := hA3.new hx
        have yn := hA4.new hy
        have yx : y ≠ x := by rintro rfl; rw [gx] at hy; cases hy
        have xO : ∀ i ∈ O2, i ∉ x :: N.l := fun i hi => by
          simp only [List.mem_cons, not_or]
          exact ⟨by rintro rfl; exact hOn _ hi hx, hO2.own i hi⟩
        have yO : ∀ i ∈ O2, i ∉ y :: N.l := fun i hi => by
          simp only [List.mem_cons, not_or]
          refine ⟨?_, hO2.own i hi⟩
          rintro rfl
          cases e : υ.get i with
          | none => exact hOn _ hi e
          | some bl => rw [xx _ _ e] at hy; cases hy
        have ev : Hl.new 0 (d.v C) z = Hl.new d.s (d.v C) d.z := by rw [hds, hdz]
        have gl : (Hl.new 0 (d.v C) z).l = [] ++ (Hl.new d.s (d.v C) d.z).l ++ [] := by rw [ev]; simp
        rw [gl] at gx2 gy
        have st0 : ∀ (A : Ar) (w0 : Int → Int) (X : Int), b.aw C A.w → A.w (C.slot d.s) = X → A.w = w0 → HlI C b d w0 X 0 (Hl.new d.s (d.v C) d.z) A := fun A w0 X h1 h2 h3 =>
          ⟨h1, h2, ⟨rfl, rfl, rfl⟩, ⟨Int.le_refl 0, by show (0 : Int) ≤ d.z; omega⟩, (by decide : (0 : Int) ≤ 0 ∧ (0 : Int) < 18446744073709551616), fun a _ => by rw [h3], .inl ⟨Int.le_refl 0, fun q => by cases q⟩⟩
        refine xLoop_r (fun n ts ls τ => ∃ k t A, n = (80 - k).toNat ∧ ts = [.int .u64 d.n, .pointer (some ⟨p, 0, none⟩), .bool false, .int .i64 (C.slot 0), .pointer (some ⟨x, 0, none⟩), .pointer (some ⟨y, 0, none⟩), .int .i64 k] ∧ ls = [N.el C 0] ∧ 0 ≤ k ∧ isA N A τ ∧ A.ok (2000 + k) ∧ C.len ≤ A.n ∧
          HlI C b d A3.w (d.v C) k t A ∧ τ.get x = some ⟨[] ++ t.l ++ [], true⟩ ∧ τ.get y = some ⟨[] ++ (Hl.new d.s (d.v C) d.z).l ++ [], true⟩ ∧ DOb N p O2 m3 τ) ?_ (n := 80)
          ⟨0, _, A3, by decide, rfl, rfl, Int.le_refl 0, hA5, ok_mono ok3 (by omega), hn3, st0 A3 A3.w _ haw hsl rfl, gx2, gy, hO5⟩
        rintro n ts ls τ6 ⟨k6, t, A6, rfl, rfl, rfl, k60, hA6, ok6, hn6, hI6, gx6, gy6, hO6⟩ R6 hR6
        have hkl := hI6.kle (by omega)
        have hk80 : k6 < 80 := by omega
        simp only [w_law09_DropHelps_l18, w_law09_DropHelps_l18b, hk80, ruS, ruL, ruE, Nat.reduceAdd, reduceIte, Int.reduceLT, Int.reduceLE, Int.reduceEq, Int.reduceNeg, Int.reduceAdd, Int.reduceSub, Nat.reduceLeDiff, Nat.reduceLT]
        refine c_Help_Step hN hC hA6 (t := t) (pre := []) (post := []) gx6 xn ok6.w hn6 (hI6.fit hC hd) fun τ7 hA7 gx7 k7 => ?_
        obtain ⟨⟨o1, o2, _⟩, h'⟩ := hI6.step (who := 0) hC hd ok6 (by omega)
        have gy7 := k7.get gy6 (by simp only [List.mem_cons, not_or]; exact ⟨yx, yn⟩)
        have hO7 := hO6.keep k7 xO
        generalize t.step C 0 A6 = r at *
        obtain ⟨dn, t7, A7⟩ := r
        dsimp only at *
        rcases h' with ⟨e, h'⟩ | ⟨e, hwon, hw7⟩
        · subst e
          simp only [w_law09_DropHelps_j10, w_law09_DropHelps_j10b, ruS, ruL, ruE, Nat.reduceAdd, reduceIte, Int.reduceLT, Int.reduceLE, Int.reduceEq, Int.reduceNeg, Int.reduceAdd, Int.reduceSub, Nat.reduceLeDiff, Nat.reduceLT]
          rw [IntWalk.i64_in (k6 + 1) (by omega)]
          exact hR6 (80 - (k6 + 1)).toNat _ _ _ (by omega) ⟨k6 + 1, t7, A7, rfl, rfl, rfl, by omega, hA7, by rw [show 2000 + (k6 + 1) = 2000 + k6 + 1 by omega]; exact o1, by omega, h', gx7, gy7, hO7⟩
        · subst e
          simp only [decide_true] at hwon
          rw [if_pos rfl] at hw7
          simp only [w_law09_DropHelps_j6, w_law09_DropHelps_j6b, ruS, ruL, ruE, Nat.reduceAdd, reduceIte, Int.reduceLT, Int.reduceLE, Int.reduceEq, Int.reduceNeg, Int.reduceAdd, Int.reduceSub, Nat.reduceLeDiff, Nat.reduceLT]
          have aw7 : b.aw C A7.w := by unfold Bg.aw; rw [hw7]; exact Aw.slotw hC hI6.1 hd.s.1 hd.s.2
          have sl7 : A7.w (C.slot d.s) = d.nx C := by rw [hw7, upd_same]
          refine xLoop_r (fun n ts ls τ => ∃ k t A, n = (80 - k).toNat ∧ ts = [.int .u64 d.n, .pointer (some ⟨p, 0, none⟩), .bool false, .int .i64 (C.slot 0), .pointer (some ⟨x, 0, none⟩), .pointer (some ⟨y, 0, none⟩), .int .i64 k] ∧ ls = [N.el C 0] ∧ 0 ≤ k ∧ isA N A τ ∧ A.ok (3000 + k) ∧ C.len ≤ A.n ∧
            HlI C b d A7.w (d.nx C) k t A ∧ τ.get x = some ⟨[] ++ t7.l ++ [], true⟩ ∧ τ.get y = some ⟨[] ++ t.l ++ [], true⟩ ∧ DOb N p O2 m3 τ) ?_ (n := 80)
            ⟨0, _, A7, by decide, rfl, rfl, Int.le_refl 0, hA7, ok_mono o1 (by omega), by omega, st0 A7 A7.w _ aw7 sl7 rfl, gx7, gy7, hO7⟩
          rintro n ts ls τ8 ⟨k8, t8, A8, rfl, rfl, rfl, k80, hA8, ok8, hn8, hI8, gx8, gy8, hO8⟩ R8 hR8
          have hkl8 := hI8.kle (by omega)
          have hk880 : k8 < 80 := by omega
          simp only [w_law09_DropHelps_l21, w_law09_DropHelps_l21b, hk880, ruS, ruL, ruE, Nat.reduceAdd, reduceIte, Int.reduceLT, Int.reduceLE, Int.reduceEq, Int.reduceNeg, Int.reduceAdd, Int.reduceSub, Nat.reduceLeDiff, Nat.reduceLT]
          refine c_Help_Step hN hC hA8 (t := t8) (pre := []) (post := []) gy8 yn ok8.w hn8 (hI8.fit hC hd) fun τ9 hA9 gy9 k9 => ?_
          obtain ⟨⟨o3, o4, _⟩, h'⟩ := hI8.step (who := 0) hC hd ok8 (by omega)
          have gx9 := k9.get gx8 (by simp only [List.mem_cons, not_or]; exact ⟨fun q => yx q.symm, xn⟩)
          have hO9 := hO8.keep k9 yO
          generalize t8.step C 0 A8 = r at *
          obtain ⟨dn, t9, A9⟩ := r
          dsimp only at *
          rcases h' with ⟨e, h'⟩ | ⟨e, hwon9, hw9⟩
          · subst e
            simp only [w_law09_DropHelps_j9, w_law09_DropHelps_j9b, ruS, ruL, ruE, Nat.reduceAdd, reduceIte, Int.reduceLT, Int.reduceLE, Int.reduceEq, Int.reduceNeg, Int.reduceAdd, Int.reduceSub, Nat.reduceLeDiff, Nat.reduceLT]
            rw [IntWalk.i64_in (k8 + 1) (by omega)]
            exact hR8 (80 - (k8 + 1)).toNat _ _ _ (by omega) ⟨k8 + 1, t9, A9, rfl, rfl, rfl, by omega, hA9, by rw [show 3000 + (k8 + 1) = 3000 + k8 + 1 by omega]; exact o3, by omega, h', gx9, gy9, hO9⟩
          · subst e
            rw [decide_eq_false hne] at hwon9
            rw [if_neg hne] at hw9
            have sl9 : A9.w (C.slot 0) = putSlot 0 0 2 0 := by rw [hw9, ← hnx, ← hds]; exact hI8.2.1
            have b02 : ∀ (x y : Int) (K : Value → Prop), xF (fBuild [(0, 1), (1, 1), (2, 1), (3, 1)] [.int .i64 0, .int .i64 0, .int .i64 0, .int .i64 0] [0, 2]) [.int .i64 x, .int .i64 y] K = K (.agg #[.int .i64 x, .int .i64 0, .int .i64 y, .int .i64 0]) := fun _ _ K => nr rfl
            obtain ⟨r1, r2, r3, r4⟩ := sl_put (st := 0) (ad := 0) (ge := 2) (ve := 0) (by decide) (by decide) (by decide) (by decide)
            have gx9' : τ9.get x = some ⟨t7.l, true⟩ := by simpa using gx9
            have gy9' : τ9.get y = some ⟨t9.l, true⟩ := by simpa using gy9
            have hsb9 : C.slot 0 < A9.n := by omega
            simp only [w_law09_DropHelps_j7, w_law09_DropHelps_j7b, c_Won gx9', c_Won gy9', hwon, hwon9, c_PeekA hN hA9 hsb.1 hsb9, sl9, c_wSlot (putSlot_in _ _ _ _).1 (putSlot_in _ _ _ _).2, r1, r2, r3, r4, b02, neFlat4, w_law09_DropHelps_j8, w_law09_DropHelps_j8b, ruS, ruL, ruE, Nat.reduceAdd, reduceIte, Int.reduceLT, Int.reduceLE, Int.reduceEq, Int.reduceNeg, Int.reduceAdd, Int.reduceSub, Nat.reduceLeDiff, Nat.reduceLT]
            have sl9' : A9.w (C.slot d.s) = d.nx C := by rw [hds, hnx]; exact sl9
            have aw9 : b.aw C A9.w := by unfold Bg.aw; rw [hw9]; exact hI8.1
            refine j3 hA9 (ok_mono o3 (by omega)) (by omega) hO9 (.inr ⟨sl9', .inl ⟨rfl, sl9', ⟨e1, e2⟩, .inr ⟨id, h1, hgg, h2, hzz, hlv', .inl ⟨h, A9.w, aw9, sl9', ⟨h3a, h3b, h3c⟩, h4, h5, fun _ _ => rfl, .inl ⟨Int.le_refl 0, fun q => ?_⟩⟩⟩⟩⟩)
            rcases h6 with ⟨h6, _⟩ | ⟨_, h6, _⟩
            · rw [h6] at q; cases q
            · exact h6
      · have n4 := nx4 hsl
        simp only [n4, ruS, ruL, ruE, Nat.reduceAdd, reduceIte, Int.reduceLT, Int.reduceLE, Int.reduceEq, Int.reduceNeg, Int.reduceAdd, Int.reduceSub, Nat.reduceLeDiff, Nat.reduceLT]
        refine j3 hA3 okj hn3 hO (.inr ⟨hsl, .inl ⟨rfl, hsl, ⟨e1, e2⟩, .inr ⟨id, h1, hgg, h2, hzz, hlv', .inr ⟨oE, .inl ⟨h, haw, by decide⟩⟩⟩⟩⟩)
      · have n4 := nx4 hsl
        simp only [n4, ruS, ruL, ruE, Nat.reduceAdd, reduceIte, Int.reduceLT, Int.reduceLE, Int.reduceEq, Int.reduceNeg, Int.reduceAdd, Int.reduceSub, Nat.reduceLeDiff, Nat.reduceLT]
        have e0 : b.lv d.j - roomOf (classOf d.z) = 0 := by rw [hlv']; omega
        rw [e0] at hgv
        refine j3 hA3 okj hn3 hO (.inr ⟨hsl, .inl ⟨rfl, hsl, ⟨e1, e2⟩, .inr ⟨id, h1, hgg, h2, hzz, hlv', .inr ⟨oE, .inr ⟨h, kk, hgv, hk0, by omega⟩⟩⟩⟩⟩)
    · subst e
      have n4 := nx4 h.sl
      simp only [n4, ruS, ruL, ruE, Nat.reduceAdd, reduceIte, Int.reduceLT, Int.reduceLE, Int.reduceEq, Int.reduceNeg, Int.reduceAdd, Int.reduceSub, Nat.reduceLeDiff, Nat.reduceLT]
      refine j3 hA3 okj hn3 hO (.inr ⟨h.sl, .inr ⟨rfl, ?_, fun q => q.elim, fun _ => h.e⟩⟩)
      have := h.aw.live d.j hd.j.1 hd.j.2
      rw [this]
      show upd b.lv d.j (b.lv d.j - roomOf (classOf d.z)) d.j = 0
      rw [upd_same, hlv']; omega
  simp only [w_law09_DropHelps_l9, w_law09_DropHelps_l9b, andI63, ruS, ruL, ruE, Nat.reduceAdd, reduceIte, Int.reduceLT, Int.reduceLE, Int.reduceEq, Int.reduceNeg, Int.reduceAdd, Int.reduceSub, Nat.reduceLeDiff, Nat.reduceLT]
  by_cases hk : k < a1 % 64
  · rcases h with ⟨e, h⟩ | ⟨e, h⟩
    · subst e
      simp only [hk, w_law09_DropHelps_j11, w_law09_DropHelps_j11b, ruS, ruL, ruE, Nat.reduceAdd, reduceIte, Int.reduceLT, Int.reduceLE, Int.reduceEq, Int.reduceNeg, Int.reduceAdd, Int.reduceSub, Nat.reduceLeDiff, Nat.reduceLT]
      refine c_Drop_Step hN hC hA3 hO ok3.w hn3 (h.fit hC hd hAw ok3.w hP2.ok.w hn3) fun O' τ' _ hA' hO' _ => ?_
      obtain ⟨td, h'⟩ := h.step (who := 0) hC hd hAw ok3 (by omega) hs3 (by have := room_bd hd.cl (class_bd d.z).2; omega)
      have t1 := td.s
      have t2 := td.n
      have t3 := td.ok _ ok3
      generalize m3.step C 0 A3 = r at *
      obtain ⟨dn, m', A'⟩ := r
      dsimp only at *
      rw [IntWalk.i64_in (k + 1) (by omega)]
      exact hR (64 - (k + 1)).toNat _ _ _ (by omega) ⟨k + 1, m', A', O', dn, rfl, rfl, rfl, by omega, by omega, hA', by rw [show 1000 + (k + 1) = 1000 + k + 1 by omega]; exact t3, by omega, hO', by omega, h'⟩
    · subst e
      simp only [hk, ruS, ruL, ruE, Nat.reduceAdd, reduceIte, Int.reduceLT, Int.reduceLE, Int.reduceEq, Int.reduceNeg, Int.reduceAdd, Int.reduceSub, Nat.reduceLeDiff, Nat.reduceLT]
      exact go
  · simp only [hk, ruS, ruL, ruE, Nat.reduceAdd, reduceIte, Int.reduceLT, Int.reduceLE, Int.reduceEq, Int.reduceNeg, Int.reduceAdd, Int.reduceSub, Nat.reduceLeDiff, Nat.reduceLT]
    exact go
end Go.Fl
