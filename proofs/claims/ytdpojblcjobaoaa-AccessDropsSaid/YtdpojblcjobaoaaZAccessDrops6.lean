/- What the claim leans on, part 6: own readings of the program's functions, what they come to, laws of them. No condition. -/
import Derived.Test.YtdpojblcjobaoaaZAccessDrops5
namespace Go.Fl
open Go
set_option linter.unusedVariables false
set_option linter.unusedSimpArgs false
variable {N : Nm} {A B : Ar} {σ : Mem} {K : Value → Mem → Prop} {C : Cf} {who : Int}
theorem PhM.kle (hC : C.ok) {b : Bg} {size s0 k : Int} {own : Bool} {w0 : Int → Int} {m : Am} (h : PhM C b size own w0 s0 k m A) : k ≤ C.C + 19 := by
  have hCC := hC.C
  rcases h with ⟨_, _, _, _, h⟩ | ⟨s, F, hb, ⟨_, _, _, h⟩ | ⟨kk, ⟨_, _, _, _, h1, h2⟩, h⟩ | ⟨j, b', _, _, _, h⟩ | ⟨_, _, _, _, _, _, kk, ⟨_, _, _, h1⟩, h⟩⟩
  · omega
  · omega
  · have := h1.kle hC; omega
  · omega
  · omega
theorem PhM.spot (hC : C.ok) {b : Bg} {size s0 k : Int} {own : Bool} {w0 w : Int → Int} {m : Am} (h : PhM C b size own w0 s0 k m A) (hal : Alo C b.o b.u b.nx w) (hcl : 0 ≤ classOf size) (hcl3 : classOf size ≤ 3) (h3 : 3 ≤ m.a.pc) (h6 : m.a.pc ≤ 6) :
    ∃ s F j, b.F = s :: F ∧ m.a.at' = s ∧ m.a.sa = C.base j + b.u j ∧ (0 ≤ j ∧ j < C.C) ∧ 0 ≤ b.u j ∧ b.u j + roomOf (classOf size) ≤ C.W := by
  rcases h with ⟨_, _, _, h, _⟩ | ⟨s, F, hb, ⟨h, _⟩ | ⟨kk, ⟨_, _, h, _⟩, _⟩ | ⟨j, b', hg, hp, _⟩ | ⟨_, _, _, _, _, _, kk, ⟨h, _⟩, _⟩⟩
  · omega
  · omega
  · omega
  · obtain ⟨d1, d2, d3, d4⟩ := hg.bd hC hal hcl hcl3
    exact ⟨s, F, j, hb, hp.has.at', hp.sa, d1, by omega, by omega⟩
  · omega
theorem Fw.mono {b : Bg} {c c' : Prop} {w0 w : Int → Int} (h : Fw C b c w0 w) (hc : c → c') : Fw C b c' w0 w := ⟨fun t t0 t1 ht => h.slot t t0 t1 fun q => ht (hc q), h.word⟩
theorem PhM.fw (hC : C.ok) {b : Bg} {size s0 k a : Int} {own : Bool} {w0 w : Int → Int} {m : Am} {r : Bool × Am × Ar} (hM : PhM C b size own w0 s0 k m A) (hfit : m.fit C A) (hal : Alo C b.o b.u b.nx w) (hcl : 0 ≤ classOf size) (hcl3 : classOf size ≤ 3)
    (ht : Tch C A m r a) (hf : Fw C b (m.a.pc = 6) w0 A.w) {ch : Prop} (hch : m.a.pc = 5 ∨ m.a.pc = 6 → ch) : Fw C b ch w0 r.2.2.w := by
  have hT := hC.T
  have hS := hC.S
  have hCC := hC.C
  have hr := room_bd hcl hcl3
  have low : a < C.base 0 ∨ (m.a.pc = 4 ∨ m.a.pc = 6) ∧ a = m.a.sa := by
    have hb0 : C.base 0 = 6 + C.T + 2 * C.S + 3 * C.C := by unfold Cf.base; omega
    rcases ht.kind with ⟨_, h | ⟨s, s0, s1, h⟩⟩ | ⟨h1, h, _⟩ | ⟨h1, h⟩ | ⟨h1, h⟩ | ⟨h1, h⟩ | ⟨h1, h⟩
    · left; omega
    · left; unfold Cf.slot at h; omega
    · have := hfit.at' (by omega); left; unfold Cf.slot at h; omega
    · have := (hfit.pl h1).1.at'; have := (hfit.pl h1).1.cls; left; unfold Cf.chunk at h; omega
    · have := (hfit.spot (by omega) (by omega)).1; left; unfold Cf.chunk at h; omega
    · exact .inr ⟨h1, h⟩
    · have := hfit.at' (by omega); left; unfold Cf.slot at h; omega
  refine ⟨fun t t0 t1 hx => ?_, fun j i j0 j1 i0 i1 i2 => ?_⟩
  · have hold : A.w (C.slot t) = w0 (C.slot t) := hf.slot t t0 t1 fun q => hx (hch (.inr q))
    by_cases e : C.slot t = a
    · rcases ht.kind with ⟨_, h | ⟨s, s0, s1, h⟩⟩ | ⟨h1, h, h2⟩ | ⟨h1, h⟩ | ⟨h1, h⟩ | ⟨h1, h⟩ | ⟨h1, h⟩
      · unfold Cf.slot at e; omega
      · unfold Cf.slot at e h; omega
      · rw [h2]; exact hold
      · have := (hfit.pl h1).1.at'; have := (hfit.pl h1).1.cls; unfold Cf.chunk at h; unfold Cf.slot at e; omega
      · have := (hfit.spot (by omega) (by omega)).1; unfold Cf.chunk at h; unfold Cf.slot at e; omega
      · obtain ⟨s, F, j, q1, q2, q3, q4, q5, q6⟩ := hM.spot hC hal hcl hcl3 (by omega) (by omega)
        exact absurd (by rw [e, h, q3]) ((addr_ne hC q4.1 q4.2 q5).1 t t1).symm
      · obtain ⟨s, F, j, q1, q2, q3, q4, q5, q6⟩ := hM.spot hC hal hcl hcl3 (by omega) (by omega)
        have : t = s := by rw [h, q2] at e; unfold Cf.slot at e; omega
        subst this
        exact absurd q1 (hx (hch (.inl h1)) F)
    · rw [ht.w _ e]; exact hold
  · have hge : C.base 0 ≤ C.base j + i := by have := mulW hC j0 (by omega); unfold Cf.base; omega
    rw [ht.w _ ?_]
    · exact hf.word j i j0 j1 i0 i1 i2
    · rcases low with q | ⟨q, e⟩
      · omega
      · obtain ⟨s, F, jj, q1, q2, q3, q4, q5, q6⟩ := hM.spot hC hal hcl hcl3 (by omega) (by omega)
        rw [e, q3]
        intro q7
        obtain ⟨rfl, q8⟩ := base_inj hC j0 j1 i0 i2 q4.1 q4.2 q5 (by omega) q7
        omega
theorem class_bd (n : Int) : -1 ≤ classOf n ∧ classOf n ≤ 3 := by unfold classOf; (repeat' split) <;> omega
theorem Tch.bd (hC : C.ok) {m : Am} {r : Bool × Am × Ar} {a : Int} (h : Tch C A m r a) (hf : m.fit C A) (hs : m.a.pc = 4 ∨ m.a.pc = 6 → C.base 0 ≤ m.a.sa ∧ m.a.sa < C.len) :
    (0 ≤ a ∧ a < C.len) ∧ (C.base 0 ≤ a → (m.a.pc = 4 ∨ m.a.pc = 6) ∧ a = m.a.sa) := by
  have hl := len_bd hC
  have hT := hC.T
  have hS := hC.S
  have hCC := hC.C
  have hb0 : C.base 0 = 6 + C.T + 2 * C.S + 3 * C.C := by unfold Cf.base; omega
  have hch : C.chunk C.C = 6 + C.T + 2 * C.S + 3 * C.C := rfl
  rcases h.kind with ⟨_, h | ⟨s, s0, s1, h⟩⟩ | ⟨h1, h, _⟩ | ⟨h1, h⟩ | ⟨h1, h⟩ | ⟨h1, h⟩ | ⟨h1, h⟩
  · omega
  · unfold Cf.slot at h; omega
  · have := hf.at' (by omega); unfold Cf.slot at h; omega
  · have := (hf.pl h1).1.at'; have := (hf.pl h1).1.cls; unfold Cf.chunk at *; omega
  · have := (hf.spot (by omega) (by omega)).1; unfold Cf.chunk at *; omega
  · have := hs h1
    exact ⟨by omega, fun _ => ⟨h1, h⟩⟩
  · have := hf.at' (by omega); unfold Cf.slot at h; omega
structure Mkr (C : Cf) (b : Bg) (size : Int) (own : Bool) (A0 : Ar) (bb k : Int) (m : Am) (A : Ar) : Prop where
  ph : PhM C b size own A0.w A0.s k m A
  pa : Pa C A (bb + k)
  fw : Fw C b (m.a.pc = 6) A0.w A.w
  s : A.s = A0.s + k
  n : A.n = A0.n
  la : A0.la < C.len → A.la < C.len
theorem Mkr.new {b : Bg} {size bb : Int} {own : Bool} (hP : Pa C A bb) (hAw : b.aw C A.w) : Mkr C b size own A bb 0 (Am.new size own) A :=
  ⟨.inl (PhT.new hAw), by simpa using hP, ⟨fun _ _ _ _ => rfl, fun _ _ _ _ _ _ _ => rfl⟩, by omega, rfl, id⟩
theorem Mkr.fit (hC : C.ok) {b : Bg} {size bb k : Int} {own : Bool} {A0 : Ar} {m : Am} (h : Mkr C b size own A0 bb k m A) (hAw : b.aw C A0.w) (hcl : 0 ≤ classOf size) : m.fit C A :=
  h.ph.fit hC h.pa hcl fun s hs => hAw.fre.c.mem s hs
theorem Mkr.step (hC : C.ok) {b : Bg} {size bb k : Int} {own : Bool} {A0 : Ar} {m : Am} (h : Mkr C b size own A0 bb k m A) (hb : bb < 2305843009213693952) (hAw : b.aw C A0.w) (hlv : b.lvok C) (hcl : 0 ≤ classOf size) (k0 : 0 ≤ k) :
    ((∃ a, Tch C A m (m.step C who A) a) ∧ (m.step C who A).2.2.la < C.len) ∧ (((m.step C who A).1 = false ∧ Mkr C b size own A0 bb (k + 1) (m.step C who A).2.1 (m.step C who A).2.2) ∨
      ((m.step C who A).1 = true ∧ DnM C b size own A0.w A0.s (m.step C who A).2.1 (m.step C who A).2.2 ∧ Pa C (m.step C who A).2.2 (bb + k + 1))) := by
  obtain ⟨h, hP', hf, hs, hnn, hla⟩ := h
  have hcl3 := (class_bd size).2
  have hCC := hC.C
  have hF : ∀ s ∈ b.F, 0 ≤ s ∧ s < C.S := fun s hs => hAw.fre.c.mem s hs
  have hnd := hAw.fre.nd
  have hu : ∀ j, 0 ≤ j → j < C.C → 0 ≤ b.u j := fun j j0 j1 => Aw.u0 hAw j0 j1
  have hfit := h.fit hC hP' hcl hF
  have hkl := h.kle hC
  have hcz : ¬ (m.a.pc = 0 ∧ classOf m.a.size < 0) := by
    rintro ⟨q0, q⟩
    rcases h with ⟨_, e, _⟩ | ⟨s, F, hb, ⟨h, _⟩ | ⟨kk, ⟨_, _, h, _⟩, _⟩ | ⟨j, b', hg, hp, _, h⟩ | ⟨_, _, _, _, _, _, kk, ⟨h, _⟩, _⟩⟩
    · rw [e] at q; omega
    all_goals omega
  obtain ⟨g1, a, g2⟩ := Am.go (who := who) hC (by omega) hP' hfit hcz (fun q => by
    obtain ⟨s, F, j, q1, q2, q3, q4, q5, q6⟩ := h.spot hC hAw.alo hcl hcl3 (by omega) (by omega)
    have := mulW hC q4.1 (by have := hC.C; omega)
    rw [q3]; unfold Cf.base; omega)
  have hst := h.step (who := who) hC hP' (by omega) hcl hcl3 hF hnd hlv hu (fun q t t0 t1 => hf.slot t t0 t1 fun e => by omega) (by omega) g2.s ⟨_, hAw.alo⟩
  have hpc : m.a.pc = 5 ∨ m.a.pc = 6 → (m.step C who A).2.1.a.pc = 6 ∧ ((m.step C who A).1 = true → (m.step C who A).2.1.a.oE = 0) := by
    intro q
    rcases q with q | q
    · have e : m.step C who A = (false, { m with a := { m.a with pc := 6, oE := 0, oH := putHandle m.a.at' m.a.gen, oV := 0, oS := ((A.by who).store (C.slot m.a.at') (putSlot 1 m.a.sa m.a.gen 0)).s } }, (A.by who).store (C.slot m.a.at') (putSlot 1 m.a.sa m.a.gen 0)) := by
        unfold Am.step; rw [if_neg (by omega), if_neg (by omega), if_neg (by omega), if_neg (by omega), if_neg (by omega), if_pos q]
      rw [e]; exact ⟨rfl, fun x => by cases x⟩
    · have e : m.step C who A = (true, m, (A.by who).store m.a.sa (putHead 2 m.a.size m.a.at' m.a.gen m.a.own)) := by
        unfold Am.step; rw [if_neg (by omega), if_neg (by omega), if_neg (by omega), if_neg (by omega), if_neg (by omega), if_neg (by omega), if_pos q]
      rw [e]
      refine ⟨q, fun _ => ?_⟩
      rcases h with ⟨_, _, _, h, _⟩ | ⟨s, F, hb, ⟨h, _⟩ | ⟨kk, ⟨_, _, h, _⟩, _⟩ | ⟨j, b', hg, hp, _, h⟩ | ⟨_, _, _, _, _, _, kk, ⟨h, _⟩, _⟩⟩
      · omega
      · omega
      · omega
      · rcases h with ⟨h, _⟩ | ⟨_, ⟨h, _⟩ | ⟨_, ⟨h, _⟩ | ⟨_, _, h, _⟩⟩⟩
        · omega
        · omega
        · omega
        · exact h
      · omega
  have hla' : (m.step C who A).2.2.la < C.len := by
    rw [g2.la]
    refine (g2.bd hC hfit fun q => ?_).1.2
    obtain ⟨s, F, j, u1, u2, u3, u4, u5, u6⟩ := h.spot hC hAw.alo hcl hcl3 (by omega) (by omega)
    have hr := room_bd hcl hcl3
    have h1 := base_of hC u4.1 u4.2 u5 (by omega)
    have h2 := base_ge hC u4.1 u4.2 u5
    have hb0 : C.base 0 = 6 + C.T + 2 * C.S + 3 * C.C := by unfold Cf.base; omega
    rw [u3]; exact ⟨by omega, h1.2.2⟩
  have hg2s := g2.s
  refine ⟨⟨⟨a, g2⟩, hla'⟩, ?_⟩
  rcases hst with ⟨d, hst⟩ | ⟨d, hS, hst⟩
  · exact .inl ⟨d, hst, by rw [show bb + (k + 1) = bb + k + 1 by omega]; exact g1, h.fw hC hfit hAw.alo hcl hcl3 g2 hf fun q => (hpc q).1, by omega, g2.n.trans hnn, fun _ => hla'⟩
  · exact .inr ⟨d, ⟨⟨hS, by omega⟩, h.fw hC hfit hAw.alo hcl hcl3 g2 hf fun q => (hpc q).2 d, hst⟩, g1⟩
theorem c_MakeN (hN : N.ok) (hC : C.ok) (hA : isA N A σ) {b : Bg} {size bb : Int} {own : Bool} (hP : Pa C A bb) (hb : bb < 2305843009213693952) (hAw : b.aw C A.w) (hlv : b.lvok C) (hcl : 0 ≤ classOf size)
    (hk : ∀ m A' τ, DnM C b size own A.w A.s m A' → Pa C A' (bb + 100) → (A'.n = A.n ∧ (A.la < C.len → A'.la < C.len)) → isA N A' τ → Keep N.l σ τ → K (.agg #[.int .i64 m.a.oE, .int .u64 m.a.oH, .int .i64 m.a.oV, .int .i64 m.a.oS]) τ) :
    s_law08_Make [N.env C who, .int .i64 size, .bool own] K σ := by
  have hCC := hC.C
  refine c_Make hN hC hA (Mkr C b size own A bb) (fun m A' => DnM C b size own A.w A.s m A' ∧ Pa C A' (bb + 100) ∧ A'.n = A.n ∧ (A.la < C.len → A'.la < C.len)) (.new hP hAw) ?_ (fun m A' h => by have := h.ph.kle hC; omega) fun m A' τ h => hk m A' τ h.1 h.2.1 h.2.2
  intro k m A' k0 k1 h
  refine ⟨h.fit hC hAw hcl, h.pa.ok.w, h.pa.n, ?_⟩
  have hkl := h.ph.kle hC
  obtain ⟨⟨⟨a, ht⟩, hla⟩, h2⟩ := h.step (who := who) hC hb hAw hlv hcl k0
  rcases h2 with ⟨d, h'⟩ | ⟨d, h', hP'⟩
  · rw [if_neg (by rw [d]; decide)]; exact h'
  · rw [if_pos d]; exact ⟨h', hP'.mono (by omega), ht.n.trans h.n, fun _ => hla⟩
end Go.Fl
namespace Go.Fl
open Go
set_option linter.unusedVariables false
set_option linter.unusedSimpArgs false
variable {N : Nm} {A B : Ar} {σ : Mem} {K : Value → Mem → Prop} {C : Cf} {who : Int}
def Bg.fr (C : Cf) : Bg := ⟨upL 0 C.S.toNat, fun _ => -1, fun _ => 0, fun _ => 0, 0⟩
theorem w0_high (hC : C.ok) {a : Int} (h : C.chunk 0 ≤ a) : C.w0 a = 0 := by
  have := hC.T; have := hC.S
  unfold Cf.chunk at h
  unfold Cf.w0 Cf.fr Cf.slot
  rw [if_neg (by omega), if_neg (by omega), if_neg (by omega)]
theorem fr_aw (hC : C.ok) : (Bg.fr C).aw C C.w0 := by
  have hT := hC.T
  have hS := hC.S
  have hCC := hC.C
  have hW := hC.W
  have hb0 : C.base 0 = 6 + C.T + 2 * C.S + 3 * C.C := by unfold Cf.base; omega
  have hc0 : C.chunk 0 = 6 + C.T + 2 * C.S := by unfold Cf.chunk; omega
  refine ⟨fre0 hC, ⟨⟨(by decide : (0 : Int) ≤ 0), by show (0 : Int) ≤ C.C; omega⟩, fun c c0 c3 => ⟨w0_open hC c0 c3, (by decide : (-1 : Int) ≤ -1), (by decide : (-1 : Int) < 0)⟩, fun c _ _ h => absurd h (by decide : ¬ (0 : Int) ≤ -1), fun j j0 j1 => ?_, fun j j0 j1 => ⟨w0_chunk hC j0, rfl⟩⟩, fun j j0 j1 => ?_, fun j i j0 j1 i0 i1 => ?_⟩
  · have : j < 0 := j1
    omega
  · exact w0_high hC (by unfold Cf.chunk at *; omega)
  · have : (0 : Int) ≤ i := i0
    have := mulW hC j0 (by omega)
    exact w0_high hC (by rw [hc0]; unfold Cf.base; omega)
theorem Frsh.pa (hC : C.ok) (h : Frsh N C A) : Pa C A (2 * C.S + 2) := by
  have hl := len_bd hC
  have hCC := hC.C
  refine ⟨h.ok, ?_, fun c c0 c3 => ?_⟩
  · rw [h.n]; omega
  · rw [h.w, w0_open hC c0 c3]; omega
theorem Frsh.aw (hC : C.ok) (h : Frsh N C A) : (Bg.fr C).aw C A.w := by rw [h.w]; exact fr_aw hC
structure Bg.lvM (b : Bg) (C : Cf) (M : Int) : Prop where
  lv : ∀ j, 0 ≤ j → j < C.C → 0 ≤ b.lv j ∧ b.lv j ≤ M
theorem Bg.lvM.ok {b : Bg} {M : Int} (h : b.lvM C M) (hM : M ≤ 1000000000) : b.lvok C := ⟨fun j j0 j1 => by have := h.lv j j0 j1; omega⟩
theorem Bg.lvM.mono {b : Bg} {M M' : Int} (h : b.lvM C M) (hM : M ≤ M') : b.lvM C M' := ⟨fun j j0 j1 => by have := h.lv j j0 j1; omega⟩
theorem fr_lv : (Bg.fr C).lvM C 0 := ⟨fun _ _ _ => ⟨Int.le_refl 0, Int.le_refl 0⟩⟩
theorem Bg.lvM.count {b b' : Bg} {F : List Int} {M c j : Int} (hC : C.ok) (h : b.lvM C M) (hg : Got C b F c j b') (c0 : 0 ≤ c) (c3 : c ≤ 3) : (b'.count j (roomOf c)).lvM C (M + 17) := by
  have hr := room_bd c0 c3
  refine ⟨fun i i0 i1 => ?_⟩
  have e : (b'.count j (roomOf c)).lv = upd b.lv j (b.lv j + roomOf c) := by
    show upd b'.lv j (b'.lv j + roomOf c) = _
    rw [(hg.has hC).2]
  have := h.lv i i0 i1
  rw [e]
  unfold upd
  split
  · rename_i q; subst q; omega
  · omega
theorem Fin.ok {b : Bg} {size s0 s : Int} {own : Bool} {w0 : Int → Int} {m : Am} {F : List Int} (h : Fin C b size own w0 s0 m A) (hF : b.F = s :: F) (hr : good C b.o b.u (classOf size) ∨ b.nx ≠ C.C) :
    m.a.oE = 0 ∧ s0 < m.a.oS ∧ ∃ j b', Got C b F (classOf size) j b' ∧ (0 ≤ j ∧ j < C.C) ∧ (0 ≤ b.u j ∧ b.u j + roomOf (classOf size) ≤ b'.u j ∧ b'.u j ≤ C.W) ∧ m.a.oH = putHandle s (slG (w0 (C.slot s))) ∧ (b'.count j (roomOf (classOf size))).aw C A.w ∧
      A.w (C.slot s) = putSlot 1 (C.base j + b.u j) (slG (w0 (C.slot s))) 0 ∧ A.w (C.base j + b.u j) = putHead 2 size s (slG (w0 (C.slot s))) own ∧ ∀ x, 1 ≤ x → x < roomOf (classOf size) → A.w (C.base j + (b.u j + x)) = 0 := by
  rcases h with ⟨_, _, h, _⟩ | ⟨s', F', h, ⟨_, _, h1, h2, _⟩ | h'⟩
  · rw [hF] at h; cases h
  · rcases hr with q | q
    · exact absurd q h1
    · exact absurd h2 q
  · rw [hF] at h
    cases h
    exact h'
theorem Ob.ext {p : Nat} {O : List Nat} {m : Am} {τ : Mem} (h : Ob N p O m σ) (x : Ext σ τ) : Ob N p O m τ := by
  obtain ⟨⟨a, b, h1, h2, h3⟩, h4, h5⟩ := h
  refine ⟨⟨a, b, x _ _ h1, fun e => ?_, fun e => ?_⟩, h4, h5⟩
  · obtain ⟨q, q1, q2, q3, q4⟩ := h2 e; exact ⟨q, q1, q2, q3, x _ _ q4⟩
  · obtain ⟨q, q1, q2, q3, q4⟩ := h3 e; exact ⟨q, q1, q2, q3, x _ _ q4⟩
end Go.Fl
namespace Go.Fl
open Go
set_option linter.unusedVariables false
set_option linter.unusedSimpArgs false
variable {N : Nm} {A B : Ar} {σ : Mem} {K : Value → Mem → Prop} {C : Cf} {who : Int}
def GvP (C : Cf) (F : List Int) (o u lv : Int → Int) (nx s : Int) (k : Int) (g : Gv) (w : Int → Int) : Prop :=
  (0 ≤ s ∧ s < C.S) ∧ s ∉ F ∧ (g = ⟨0, s, 0⟩ ∧ k = 0 ∧ Aw C F o u lv nx w ∨ g = ⟨1, s, w 1⟩ ∧ k = 1 ∧ Aw C F o u lv nx w ∨
    g = ⟨2, s, w 1⟩ ∧ k = 2 ∧ ∃ w0, Aw C F o u lv nx w0 ∧ w0 1 = w 1 ∧ w = upd w0 (C.slot s + 1) (putTop (topS (w0 1)) 0))
theorem GvP.step (hC : C.ok) {F : List Int} {o u lv : Int → Int} {nx s k bb : Int} {g : Gv} (h : GvP C F o u lv nx s k g A.w) (ok : A.ok bb) (hb : bb < 4611686018427387904) :
    ((∀ a, a ≠ 1 → a ≠ C.slot s + 1 → (g.step C who A).2.2.w a = A.w a) ∧ (g.step C who A).2.2.s = A.s + 1 ∧ (g.step C who A).2.2.n = A.n ∧ (g.step C who A).2.2.ok (bb + 1) ∧ ((g.step C who A).2.2.la = 1 ∨ (g.step C who A).2.2.la = C.slot s + 1)) ∧
    (((g.step C who A).1 = false ∧ GvP C F o u lv nx s (k + 1) (g.step C who A).2.1 (g.step C who A).2.2.w) ∨ ((g.step C who A).1 = true ∧ Aw C (s :: F) o u lv nx (g.step C who A).2.2.w)) := by
  obtain ⟨s0, hn, h⟩ := h
  have hT := hC.T
  have hS := hC.S
  rcases h with ⟨q, hk, hA⟩ | ⟨q, hk, hA⟩ | ⟨q, hk, w0, hA, e1, e2⟩
  · rw [q, Gv.step0]
    have a1 := aft_load (who := who) (A := A) (a := 1) ok (by omega)
    exact ⟨⟨fun a _ _ => rfl, a1.s, rfl, a1.ok (by decide) ok ok.w, .inl rfl⟩, .inl ⟨rfl, s0, hn, .inr (.inl ⟨rfl, by omega, hA⟩)⟩⟩
  · rw [q, Gv.step1]
    have a1 := aft_store (who := who) (A := A) (a := C.slot s + 1) (v := putTop (topS (A.w 1)) 0) ok (by omega)
    have n1 : upd A.w (C.slot s + 1) (putTop (topS (A.w 1)) 0) 1 = A.w 1 := upd_ne _ _ (by unfold Cf.slot; omega)
    refine ⟨⟨fun a _ h2 => by rw [a1.w]; exact upd_ne _ _ h2, a1.s, a1.n, a1.ok (by decide) ok (fun i => upd_cases (P := fun x => 0 ≤ x ∧ x < 18446744073709551616) (putTop_in _ _) (ok.w i)), .inr rfl⟩, .inl ⟨rfl, s0, hn, .inr (.inr ⟨?_, by omega, A.w, hA, ?_, a1.w⟩)⟩⟩
    · show Gv.mk 2 s (A.w 1) = ⟨2, s, _⟩; rw [a1.w, n1]
    · rw [a1.w, n1]
  · rw [q, Gv.step2]
    have a1 := aft_cas (who := who) (A := A) (a := 1) (o := A.w 1) (v := putTop s (topN (A.w 1) + 1)) ok (by omega)
    rw [if_pos rfl] at a1
    refine ⟨⟨fun a h1 _ => by rw [a1.w]; exact upd_ne _ _ h1, a1.s, a1.n, a1.ok (by decide) ok (fun i => upd_cases (P := fun x => 0 ≤ x ∧ x < 18446744073709551616) (putTop_in _ _) (ok.w i)), .inl cas_la⟩, .inr ⟨decide_eq_true rfl, ?_⟩⟩
    show Aw C (s :: F) o u lv nx ((A.by who).cas 1 (A.w 1) (putTop s (topN (A.w 1) + 1))).w
    have := hA.gave hC s0 hn
    unfold gaveW at this
    rw [a1.w, e2, upd_ne _ _ (by unfold Cf.slot; omega)]
    exact this
structure Do where
  n : Int
  ws : Int
  z : Int
  own : Bool
  j : Int
  i : Int
def Do.s (d : Do) : Int := hdSl d.n
def Do.ge (d : Do) : Int := hdGe d.n
def Do.a (d : Do) (C : Cf) : Int := C.base d.j + d.i
def Do.v (d : Do) (C : Cf) : Int := putSlot 4 (d.a C) d.ge (slV d.ws + 1)
def Do.nx (d : Do) (C : Cf) : Int := if C.G ≤ d.ge then putSlot 3 0 d.ge 0 else putSlot 0 0 (d.ge + 1) 0
structure Do.ok (d : Do) (C : Cf) (b : Bg) (w : Int → Int) : Prop where
  n : 0 ≤ d.n ∧ d.n < 18446744073709551616
  hok : hdOk d.n = true
  s : 0 ≤ d.s ∧ d.s < C.S
  sF : d.s ∉ b.F
  ge : 0 ≤ d.ge ∧ d.ge ≤ 65535
  ws : w (C.slot d.s) = d.ws
  st : slS d.ws = 1 ∨ slS d.ws = 2
  sa : slA d.ws = d.a C
  sg : slG d.ws = d.ge
  hd : hdS (w (d.a C)) = d.z ∧ hdO (w (d.a C)) = d.own
  cl : 0 ≤ classOf d.z
  j : 0 ≤ d.j ∧ d.j < C.C
  i : 0 ≤ d.i ∧ d.i + roomOf (classOf d.z) ≤ b.u d.j
  z : d.z + 1 ≤ roomOf (classOf d.z)
  lv : roomOf (classOf d.z) ≤ b.lv d.j
def Do.fr (d : Do) (C : Cf) (w0 w : Int → Int) : Prop := ∀ a, a ≠ C.slot d.s → a ≠ 1 → a ≠ C.slot d.s + 1 → a ≠ C.chunk d.j + 1 → ¬ (d.a C < a ∧ a ≤ d.a C + d.z) → w a = w0 a
def Bg.less (b : Bg) (j n : Int) : Bg := { b with lv := upd b.lv j (b.lv j - n) }
def DrI (C : Cf) (b : Bg) (d : Do) (w0 : Int → Int) (s0 k : Int) (m : Dm) (A : Ar) : Prop :=
  m.d.n = d.n ∧ m.d.own = d.own ∧ (
    (m.d.pc = 0 ∧ k ≤ 0 ∧ A.w = w0 ∧ m.d.hs = 0 ∧ m.d.w = 0) ∨
    (m.d.hs = d.s ∧ m.d.hg = d.ge ∧ m.d.w = d.ws ∧ (
      (m.d.pc = 1 ∧ k ≤ 1 ∧ A.w = w0) ∨
      (m.d.size = d.z ∧ (
        (m.d.pc = 2 ∧ k ≤ 2 ∧ A.w = w0) ∨
        (d.fr C w0 A.w ∧ (
          (m.d.pc = 3 ∧ b.aw C A.w ∧ A.w (C.slot d.s) = d.v C ∧ (m.h.slot = d.s ∧ m.h.w = d.v C ∧ m.h.size = d.z) ∧ (0 ≤ m.h.i ∧ m.h.i ≤ d.z) ∧ (0 ≤ m.h.cell ∧ m.h.cell < 18446744073709551616) ∧
            (m.h.read = false ∧ k ≤ 3 + 2 * m.h.i ∨ m.h.read = true ∧ m.h.i < d.z ∧ A.w m.h.a = m.h.cell ∧ k ≤ 4 + 2 * m.h.i)) ∨
          (A.w (C.slot d.s) = d.nx C ∧ m.d.oE = 0 ∧ (s0 < m.d.oS ∧ m.d.oS ≤ A.s) ∧ (
            (m.d.pc = 5 ∧ b.aw C A.w ∧ k ≤ 4 + 2 * d.z) ∨
            (m.d.pc = 6 ∧ ¬ C.G ≤ d.ge ∧ ∃ kk, GvP C b.F b.o b.u (upd b.lv d.j (b.lv d.j - roomOf (classOf d.z))) b.nx d.s kk m.g A.w ∧ 0 ≤ kk ∧ k ≤ 5 + 2 * d.z + kk))))))))))
structure DnD (C : Cf) (b : Bg) (d : Do) (w0 : Int → Int) (s0 : Int) (m : Dm) (A : Ar) : Prop where
  e : m.d.oE = 0
  st : s0 < m.d.oS ∧ m.d.oS ≤ A.s
  fr : d.fr C w0 A.w
  sl : A.w (C.slot d.s) = d.nx C
  aw : Bg.aw { b.less d.j (roomOf (classOf d.z)) with F := if C.G ≤ d.ge then b.F else d.s :: b.F } C A.w
theorem Do.av (d : Do) (hC : C.ok) {b : Bg} {w : Int → Int} (h : d.ok C b w) (hA : ∃ w, b.aw C w) : (0 ≤ d.a C ∧ d.a C + d.z < C.len ∧ d.a C ≤ 1048575 ∧ C.base 0 ≤ d.a C) ∧ 1 ≤ d.z ∧ d.z ≤ 16 ∧ d.i + d.z < C.W ∧ d.i + d.z < b.u d.j := by
  obtain ⟨w', hA⟩ := hA
  have hr := room_bd h.cl (class_bd d.z).2
  have hz : 1 ≤ d.z ∧ d.z ≤ 16 := by have := h.cl; unfold classOf at this; (repeat' split at this) <;> omega
  have hj := h.j
  have hi := h.i
  have hzz := h.z
  have hu : b.u d.j ≤ C.W := by
    have hW := hC.W
    by_cases e : d.j < b.nx
    · exact (hA.alo.old _ hj.1 e).2.2.2
    · have := (hA.alo.new _ (by omega) hj.2).2; omega
  have h1 := base_of hC hj.1 hj.2 hi.1 (by omega)
  have h2 := base_of hC hj.1 hj.2 (i := d.i + d.z) (by omega) (by omega)
  have h3 := base_ge hC hj.1 hj.2 hi.1
  have hl := len_bd hC
  have hb0 : C.base 0 = 6 + C.T + 2 * C.S + 3 * C.C := by unfold Cf.base; omega
  have ea : d.a C = C.base d.j + d.i := rfl
  refine ⟨⟨by omega, by omega, by omega, by omega⟩, hz.1, hz.2, by omega, by omega⟩
theorem DrI.kle {b : Bg} {d : Do} {w0 : Int → Int} {s0 k : Int} {m : Dm} (h : DrI C b d w0 s0 k m A) (hz : d.z ≤ 16) : k ≤ 40 := by
  obtain ⟨_, _, ⟨_, h, _⟩ | ⟨_, _, _, ⟨_, h, _⟩ | ⟨_, ⟨_, h, _⟩ | ⟨_, ⟨_, _, _, _, h1, _, h⟩ | ⟨_, _, _, ⟨_, _, h⟩ | ⟨_, _, kk, ⟨_, _, h1⟩, h2, h⟩⟩⟩⟩⟩⟩ := h
  · omega
  · omega
  · omega
  · omega
  · omega
  · omega
theorem sl_put' {st ad ge ve : Int} (h1 : 0 ≤ st ∧ st ≤ 7) (h2 : 0 ≤ ad ∧ ad ≤ 1048575) (h3 : 0 ≤ ge ∧ ge ≤ 65535) :
    slS (putSlot st ad ge ve) = st ∧ slA (putSlot st ad ge ve) = ad ∧ slG (putSlot st ad ge ve) = ge := by
  have e : putSlot st ad ge ve = putSlot st ad ge (cl ve 4194303) := by
    unfold putSlot; rw [cl_in (n := cl ve 4194303) (cl_nn (by decide)) cl_le]
  have := sl_put (ve := cl ve 4194303) h1 h2 h3 ⟨cl_nn (by decide), cl_le⟩
  rw [e]; exact ⟨this.1, this.2.1, this.2.2.1⟩
theorem Do.vp (d : Do) (hC : C.ok) {b : Bg} {w : Int → Int} (h : d.ok C b w) (hA : ∃ w, b.aw C w) : slS (d.v C) = 4 ∧ slA (d.v C) = d.a C ∧ slG (d.v C) = d.ge := by
  have := d.av hC h hA
  exact sl_put' (by decide) ⟨this.1.1, this.1.2.2.1⟩ h.ge
theorem Do.nxp (d : Do) (hge : 0 ≤ d.ge ∧ d.ge ≤ 65535) (hG : C.G ≤ 65535) : slS (d.nx C) = 3 ∨ slS (d.nx C) = 0 := by
  unfold Do.nx; split
  · exact .inl (sl_put' (by decide) (by decide) hge).1
  · exact .inr (sl_put' (by decide) (by decide) (by omega)).1
theorem cas_t {b a o v : Int} (h : A.ok b) (hb : b < 9223372036854775807) (e : A.w a = o) (hv : o ≠ v) : ((A.by who).cas a o v).t a = A.s + 1 := by
  rw [cas_yes (by exact e), store_t, by_s, h.s1 hb, by_w, if_pos (by rw [e]; exact hv), upd_same]
theorem DrI.fit (hC : C.ok) {b : Bg} {d : Do} {w0 : Int → Int} {s0 k : Int} {m : Dm} (h : DrI C b d w0 s0 k m A) (hd : d.ok C b w0) (hA : b.aw C w0) (hw : ∀ i, 0 ≤ A.w i ∧ A.w i < 18446744073709551616) (hw0 : ∀ i, 0 ≤ w0 i ∧ w0 i < 18446744073709551616) (hn : C.len ≤ A.n) : m.fit C A := by
  have hS := hC.S
  have hs := hd.s
  obtain ⟨av1, av2⟩ := d.av hC hd ⟨_, hA⟩
  obtain ⟨v1, v2, v3⟩ := d.vp hC hd ⟨_, hA⟩
  have hws : 0 ≤ d.ws ∧ d.ws < 18446744073709551616 := by rw [← hd.ws]; exact hw0 _
  have hofc : ofC C (d.a C) = d.j := (base_of hC hd.j.1 hd.j.2 hd.i.1 (by omega)).1
  obtain ⟨e1, e2, ⟨h, _, _, h1, h2⟩ | ⟨h1, _, h2, ⟨h, _⟩ | ⟨hz, ⟨h, _⟩ | ⟨_, ⟨h, _, _, h3, h4, h5, _⟩ | ⟨_, _, _, ⟨h, _⟩ | ⟨h, _, kk, ⟨h3, h4, h5⟩, _⟩⟩⟩⟩⟩⟩ := h
  · exact ⟨by omega, by rw [e1]; exact hd.n, by rw [h1]; omega, by rw [h2]; decide, fun q => by omega, fun q => by omega, fun q => by omega, fun q => by omega⟩
  · exact ⟨by omega, by rw [e1]; exact hd.n, by rw [h1]; exact hs, by rw [h2]; exact hws, fun q => by rw [h2, hd.sa]; omega, fun q => by omega, fun q => by omega, fun q => by omega⟩
  · exact ⟨by omega, by rw [e1]; exact hd.n, by rw [h1]; exact hs, by rw [h2]; exact hws, fun q => by omega, fun q => by omega, fun q => by omega, fun q => by omega⟩
  · refine ⟨by omega, by rw [e1]; exact hd.n, by rw [h1]; exact hs, by rw [h2]; exact hws, fun q => by omega, fun _ => ?_, fun q => by omega, fun q => by omega⟩
    exact ⟨by rw [h3.1]; exact hs, by rw [h3.2.1]; exact putSlot_in _ _ _ _, h5, by omega, by omega, fun q => by rw [h3.2.1, v2]; omega⟩
  · exact ⟨by omega, by rw [e1]; exact hd.n, by rw [h1]; exact hs, by rw [h2]; exact hws, fun q => by omega, fun q => by omega, fun _ => ⟨by rw [hz]; exact hd.cl, by rw [h2, hd.sa, hofc]; exact hd.j⟩, fun q => by omega⟩
  · refine ⟨by omega, by rw [e1]; exact hd.n, by rw [h1]; exact hs, by rw [h2]; exact hws, fun q => by omega, fun q => by omega, fun q => by omega, fun _ => ?_⟩
    have w1 := hw 1
    rcases h5 with ⟨q, _⟩ | ⟨q, _⟩ | ⟨q, _⟩
    · rw [q]; exact ⟨⟨Int.le_refl 0, (by decide : (0 : Int) < 18446744073709551616)⟩, h3⟩
    · rw [q]; exact ⟨w1, h3⟩
    · rw [q]; exact ⟨w1, h3⟩
structure Td (C : Cf) (A A' : Ar) (d : Do) : Prop where
  s : A'.s = A.s + 1
  n : A'.n = A.n
  ok : ∀ bb, A.ok bb → A'.ok (bb + 1)
  la : A'.la = C.slot d.s ∨ A'.la = d.a C ∨ A'.la = 1 ∨ A'.la = C.slot d.s + 1 ∨ A'.la = C.chunk d.j + 1 ∨ d.a C < A'.la ∧ A'.la ≤ d.a C + d.z
  hd : A'.la = d.a C → A'.lc = false
theorem DrI.step (hC : C.ok) {b : Bg} {d : Do} {w0 : Int → Int} {s0 k bb : Int} {m : Dm} (h : DrI C b d w0 s0 k m A) (hd : d.ok C b w0) (hA : b.aw C w0) (ok : A.ok bb) (hb : bb < 4611686018427387904) (hs0 : s0 ≤ A.s) (hlv : b.lv d.j < 18446744073709551616) :
    Td C A (m.step C who A).2.2 d ∧
    (((m.step C who A).1 = false ∧ DrI C b d w0 s0 (k + 1) (m.step C who A).2.1 (m.step C who A).2.2) ∨ ((m.step C who A).1 = true ∧ DnD C b d w0 s0 (m.step C who A).2.1 (m.step C who A).2.2)) := by
  have hT := hC.T
  have hS := hC.S
  have hCC := hC.C
  have hs := hd.s
  have hj := hd.j
  have hG := hC.G
  have hr := room_bd hd.cl (class_bd d.z).2
  obtain ⟨av1, av2⟩ := d.av hC hd ⟨_, hA⟩
  obtain ⟨v1, v2, v3⟩ := d.vp hC hd ⟨_, hA⟩
  have hofc : ofC C (d.a C) = d.j := (base_of hC hd.j.1 hd.j.2 hd.i.1 (by omega)).1
  have hb0 : C.base 0 = 6 + C.T + 2 * C.S + 3 * C.C := by unfold Cf.base; omega
  have esl : C.slot d.s = 6 + C.T + 2 * d.s := rfl
  have ech : C.chunk d.j = 6 + C.T + 2 * C.S + 3 * d.j := rfl
  have fr0 : d.fr C w0 w0 := fun _ _ _ _ _ _ => rfl
  have ld : ∀ a, a = C.slot d.s ∨ a = d.a C ∨ d.a C < a ∧ a ≤ d.a C + d.z → Td C A ((A.by who).load a) d := fun a ha =>
    ⟨(aft_load ok (by omega)).s, rfl, fun b2 o2 => by
      have := ok.s; have := o2.s
      have a1 := aft_load (who := who) (A := A) (a := a) ok (by omega)
      exact a1.ok (by decide) o2 o2.w, by rcases ha with h | h | h; exact .inl h; exact .inr (.inl h); exact .inr (.inr (.inr (.inr (.inr h)))), fun _ => rfl⟩
  have cs : ∀ a o v, 0 ≤ v ∧ v < 18446744073709551616 → (a = C.slot d.s ∨ d.a C < a ∧ a ≤ d.a C + d.z) → Td C A ((A.by who).cas a o v) d := fun a o v hv ha => by
    have a1 := aft_cas (who := who) (A := A) (a := a) (o := o) (v := v) ok (by omega)
    refine ⟨a1.s, a1.n, fun b2 o2 => a1.ok (by decide) o2 fun i => ?_, ?_, fun q => ?_⟩
    · split
      · exact upd_cases (P := fun x => 0 ≤ x ∧ x < 18446744073709551616) hv (ok.w i)
      · exact ok.w i
    · rw [cas_la]; rcases ha with h | h; exact .inl h; exact .inr (.inr (.inr (.inr (.inr h))))
    · rw [cas_la] at q; omega
  obtain ⟨e1, e2, ⟨h, hk, ew, h1, h2⟩ | ⟨h1, hge, h2, ⟨h, hk, ew⟩ | ⟨hz, ⟨h, hk, ew⟩ | ⟨fr, ⟨h, haw, hsl, ⟨h3a, h3b, h3c⟩, h4, h5, h6⟩ | ⟨hsl, oE, oS, ⟨h, haw, hk⟩ | ⟨h, hng, kk, hg, hk0, hk⟩⟩⟩⟩⟩⟩ := h
  · have hl : lives (A.w (C.slot (hdSl m.d.n))) (hdGe m.d.n) := by
      rw [e1, ew]
      have := hd.ws; have h3 := hd.st
      exact ⟨by rw [show C.slot (hdSl d.n) = C.slot d.s from rfl, this]; omega, by rw [show C.slot (hdSl d.n) = C.slot d.s from rfl, this]; exact hd.sg⟩
    have e : m.step C who A = (false, { m with d := { m.d with hs := hdSl m.d.n, hg := hdGe m.d.n, w := A.w (C.slot (hdSl m.d.n)), pc := 1 } }, (A.by who).load (C.slot (hdSl m.d.n))) := by
      unfold Dm.step; rw [if_pos h, if_neg ?_, if_pos hl]
      rintro (q | q)
      · rw [e1, hd.hok] at q; cases q
      · rw [e1] at q; exact absurd hs.2 (by show ¬ hdSl d.n < C.S; omega)
    rw [e]
    exact ⟨ld _ (.inl (by rw [e1]; rfl)), .inl ⟨rfl, e1, e2, .inr ⟨by show hdSl m.d.n = _; rw [e1]; rfl, by show hdGe m.d.n = _; rw [e1]; rfl, by show A.w (C.slot (hdSl m.d.n)) = _; rw [e1, ew]; exact hd.ws, .inl ⟨rfl, by omega, ew⟩⟩⟩⟩
  · have e : m.step C who A = (false, { m with d := { m.d with size := hdS (A.w (slA m.d.w)), pc := 2 } }, (A.by who).load (slA m.d.w)) := by
      have := hd.st
      unfold Dm.step; rw [if_neg (by omega), if_pos h, if_neg (by rw [h2, hd.sa, ew, hd.hd.2, e2]; simp), if_neg (by rw [h2]; omega)]
    rw [e]
    exact ⟨ld _ (.inr (.inl (by rw [h2]; exact hd.sa))), .inl ⟨rfl, e1, e2, .inr ⟨h1, hge, h2, .inr ⟨by show hdS (A.w (slA m.d.w)) = _; rw [h2, hd.sa, ew]; exact hd.hd.1, .inl ⟨rfl, by omega, ew⟩⟩⟩⟩⟩
  · have ev : putSlot 4 (slA m.d.w) (slG m.d.w) (slV m.d.w + 1) = d.v C := by rw [h2, hd.sa, hd.sg]; rfl
    have eq : A.w (C.slot m.d.hs) = m.d.w := by rw [h1, h2, ew]; exact hd.ws
    have e : m.step C who A = (false, { m with d := { m.d with pc := 3 }, h := Hl.new m.d.hs (d.v C) m.d.size }, (A.by who).cas (C.slot m.d.hs) m.d.w (d.v C)) := by
      unfold Dm.step; rw [if_neg (by omega), if_neg (by omega), if_pos h, if_pos eq, ev]
    have a1 := aft_cas (who := who) (A := A) (a := C.slot m.d.hs) (o := m.d.w) (v := d.v C) ok (by omega)
    rw [if_pos eq, h1, ew] at a1
    rw [e, h1]
    refine ⟨cs _ _ _ (putSlot_in _ _ _ _) (.inl rfl), .inl ⟨rfl, e1, e2, .inr ⟨h1, hge, h2, .inr ⟨hz, .inr ⟨fun a n1 _ _ _ _ => by rw [a1.w]; exact upd_ne _ _ n1, .inl ⟨rfl, ?_, by rw [a1.w, upd_same], ⟨rfl, rfl, hz⟩, ⟨Int.le_refl 0, by show (0 : Int) ≤ d.z; omega⟩, (by decide : (0 : Int) ≤ 0 ∧ (0 : Int) < 18446744073709551616), .inl ⟨rfl, by show k + 1 ≤ 3 + 2 * 0; omega⟩⟩⟩⟩⟩⟩⟩
    rw [a1.w]; exact hA.slotw hC hs.1 hs.2
  · have hha : m.h.a = d.a C + 1 + m.h.i := by unfold Hl.a; rw [h3b, v2]
    have e : m.step C who A = (if (m.h.step C who A).1 = true then (false, { m with d := { m.d with oE := 0, oH := 0, oV := 0, oS := (m.h.step C who A).2.2.t (C.slot m.d.hs), pc := 5 } }, (m.h.step C who A).2.2) else (false, { m with h := (m.h.step C who A).2.1 }, (m.h.step C who A).2.2)) := by
      unfold Dm.step; rw [if_neg (by omega), if_neg (by omega), if_neg (by omega), if_pos h]
    rw [e]
    by_cases ci : m.h.size ≤ m.h.i
    · have enx : m.h.next C = d.nx C := by unfold Hl.next Do.nx; rw [h3b, v3]
      have eq : A.w (C.slot m.h.slot) = m.h.w := by rw [h3a, h3b]; exact hsl
      have eh : m.h.step C who A = (true, { m.h with won := decide (A.w (C.slot m.h.slot) = m.h.w) }, (A.by who).cas (C.slot m.h.slot) m.h.w (m.h.next C)) := by unfold Hl.step; rw [if_pos ci]
      have a1 := aft_cas (who := who) (A := A) (a := C.slot m.h.slot) (o := m.h.w) (v := m.h.next C) ok (by omega)
      rw [if_pos eq, h3a, h3b, enx] at a1
      have hne : m.h.w ≠ d.nx C := by
        intro q
        have := d.nxp hd.ge hG.2
        rw [← q, h3b, v1] at this; omega
      have ht := cas_t (who := who) (v := m.h.next C) ok (by omega) eq (by rw [enx]; exact hne)
      rw [eh, if_pos rfl]
      dsimp only
      rw [enx] at ht ⊢
      rw [h3a] at ht ⊢
      rw [h1, ht]
      refine ⟨cs _ _ _ (by unfold Do.nx; split <;> exact putSlot_in _ _ _ _) (.inl rfl), .inl ⟨rfl, e1, e2, .inr ⟨by first | exact h1 | rfl, hge, h2, .inr ⟨hz, .inr ⟨fun a n1 n2 n3 n4 n5 => ?_, .inr ⟨?_, rfl, ?_, .inl ⟨rfl, ?_, ?_⟩⟩⟩⟩⟩⟩⟩
      · rw [h3b, a1.w, upd_ne _ _ n1]; exact fr a n1 n2 n3 n4 n5
      · rw [h3b, a1.w, upd_same]
      · have := a1.s; rw [h3b, this]; dsimp only; omega
      · unfold Bg.aw; rw [h3b, a1.w]; exact Aw.slotw hC haw hs.1 hs.2
      · omega
    · have hiz : m.h.i < d.z := by omega
      have hcell : d.a C < m.h.a ∧ m.h.a ≤ d.a C + d.z := by omega
      rcases h6 with ⟨hr0, hk⟩ | ⟨hr1, _, hc, hk⟩
      · by_cases q : ceF (A.w m.h.a) = true ∧ ceN (A.w m.h.a) = slV m.h.w
        · have eh : m.h.step C who A = (false, { m.h with cell := A.w m.h.a, read := false, i := m.h.i + 1 }, (A.by who).load m.h.a) := by unfold Hl.step; rw [if_neg ci, if_pos hr0, if_pos q]
          rw [eh, if_neg (show ¬ (false = true) from Bool.false_ne_true)]
          exact ⟨ld _ (.inr (.inr hcell)), .inl ⟨rfl, e1, e2, .inr ⟨h1, hge, h2, .inr ⟨hz, .inr ⟨fr, .inl ⟨h, haw, hsl, ⟨h3a, h3b, h3c⟩, ⟨by dsimp only; omega, by dsimp only; omega⟩, ok.w _, .inl ⟨rfl, by dsimp only; omega⟩⟩⟩⟩⟩⟩⟩
        · have eh : m.h.step C who A = (false, { m.h with cell := A.w m.h.a, read := true }, (A.by who).load m.h.a) := by unfold Hl.step; rw [if_neg ci, if_pos hr0, if_neg q]
          rw [eh, if_neg (show ¬ (false = true) from Bool.false_ne_true)]
          exact ⟨ld _ (.inr (.inr hcell)), .inl ⟨rfl, e1, e2, .inr ⟨h1, hge, h2, .inr ⟨hz, .inr ⟨fr, .inl ⟨h, haw, hsl, ⟨h3a, h3b, h3c⟩, h4, ok.w _, .inr ⟨rfl, hiz, rfl, by dsimp only; omega⟩⟩⟩⟩⟩⟩⟩
      · have eh : m.h.step C who A = (false, { m.h with read := false, i := m.h.i + 1 }, (A.by who).cas m.h.a m.h.cell (putCell (ceV m.h.cell) true (slV m.h.w))) := by unfold Hl.step; rw [if_neg ci, if_neg (by rw [hr1]; decide), if_pos hc]
        have a1 := aft_cas (who := who) (A := A) (a := m.h.a) (o := m.h.cell) (v := putCell (ceV m.h.cell) true (slV m.h.w)) ok (by omega)
        rw [if_pos hc] at a1
        rw [eh, if_neg (show ¬ (false = true) from Bool.false_ne_true)]
        refine ⟨cs _ _ _ (putCell_in _ _ _) (.inr hcell), .inl ⟨rfl, e1, e2, .inr ⟨h1, hge, h2, .inr ⟨hz, .inr ⟨fun a n1 n2 n3 n4 n5 => ?_, .inl ⟨h, ?_, ?_, ⟨h3a, h3b, h3c⟩, ⟨by dsimp only; omega, by dsimp only; omega⟩, h5, .inl ⟨rfl, by dsimp only; omega⟩⟩⟩⟩⟩⟩⟩
        · rw [a1.w, upd_ne _ _ (by rintro rfl; exact n5 hcell)]; exact fr a n1 n2 n3 n4 n5
        · have e3 : m.h.a = C.base d.j + (d.i + 1 + m.h.i) := by rw [hha]; unfold Do.a; omega
          have hi := hd.i
          rw [a1.w, e3]
          exact Aw.word hC haw hj.1 hj.2 (by omega) (by omega) (by omega)
        · rw [a1.w, upd_ne _ _ (by omega)]; exact hsl
  · have e : m.step C who A = (decide (C.G ≤ m.d.hg), { m with d := { m.d with pc := 6 }, g := ⟨0, m.d.hs, 0⟩ }, (A.by who).add (C.chunk d.j + 1) (IntKind.u64.wrap (-roomOf (classOf d.z)))) := by
      unfold Dm.step; rw [if_neg (by omega), if_neg (by omega), if_neg (by omega), if_neg (by omega), if_neg (by omega), if_pos h, h2, hd.sa, hofc, hz]
    have hl := haw.live d.j hj.1 hj.2
    have hlr := hd.lv
    have ew : IntKind.u64.wrap (A.w (C.chunk d.j + 1) + IntKind.u64.wrap (-roomOf (classOf d.z))) = b.lv d.j - roomOf (classOf d.z) := by
      rw [hl, IntKind.wrap_u64, IntKind.wrap_u64]; omega
    have a1 := aft_store (who := who) (A := A) (a := C.chunk d.j + 1) (v := b.lv d.j - roomOf (classOf d.z)) ok (by omega)
    have ea : (A.by who).add (C.chunk d.j + 1) (IntKind.u64.wrap (-roomOf (classOf d.z))) = (A.by who).store (C.chunk d.j + 1) (b.lv d.j - roomOf (classOf d.z)) := by rw [add_eq, by_w, ew]
    have aw' : (b.less d.j (roomOf (classOf d.z))).aw C ((A.by who).store (C.chunk d.j + 1) (b.lv d.j - roomOf (classOf d.z))).w := by
      unfold Bg.aw; rw [a1.w]; exact Aw.lives hC haw hj.1 hj.2
    have fr' : d.fr C w0 ((A.by who).store (C.chunk d.j + 1) (b.lv d.j - roomOf (classOf d.z))).w := fun a n1 n2 n3 n4 n5 => by rw [a1.w, upd_ne _ _ n4]; exact fr a n1 n2 n3 n4 n5
    have sl' : ((A.by who).store (C.chunk d.j + 1) (b.lv d.j - roomOf (classOf d.z))).w (C.slot d.s) = d.nx C := by rw [a1.w, upd_ne _ _ (by omega)]; exact hsl
    have td : Td C A ((A.by who).store (C.chunk d.j + 1) (b.lv d.j - roomOf (classOf d.z))) d :=
      ⟨a1.s, a1.n, fun b2 o2 => a1.ok (by decide) o2 fun i => upd_cases (P := fun x => 0 ≤ x ∧ x < 18446744073709551616) (by omega) (ok.w i), .inr (.inr (.inr (.inr (.inl rfl)))), fun q => by
        have q' : C.chunk d.j + 1 = d.a C := q
        omega⟩
    have oS' : s0 < m.d.oS ∧ m.d.oS ≤ ((A.by who).store (C.chunk d.j + 1) (b.lv d.j - roomOf (classOf d.z))).s := by rw [a1.s]; omega
    rw [e, ea]
    refine ⟨td, ?_⟩
    by_cases g : C.G ≤ d.ge
    · refine .inr ⟨decide_eq_true (by rw [hge]; exact g), oE, oS', fr', sl', ?_⟩
      rw [if_pos g]; exact aw'
    · refine .inl ⟨decide_eq_false (by rw [hge]; exact g), e1, e2, .inr ⟨h1, hge, h2, .inr ⟨hz, .inr ⟨fr', .inr ⟨sl', oE, oS', .inr ⟨rfl, g, 0, ⟨hs, hd.sF, .inl ⟨by rw [h1], rfl, aw'⟩⟩, Int.le_refl 0, by omega⟩⟩⟩⟩⟩⟩
  · have e : m.step C who A = ((m.g.step C who A).1, { m with g := (m.g.step C who A).2.1 }, (m.g.step C who A).2.2) := by
      unfold Dm.step; rw [if_neg (by omega), if_neg (by omega), if_neg (by omega), if_neg (by omega), if_neg (by omega), if_neg (by omega)]
    obtain ⟨⟨q1, q2, q3, q4, q5⟩, q⟩ := hg.step (who := who) hC ok hb
    rw [e]
    have td : Td C A (m.g.step C who A).2.2 d := ⟨q2, q3, fun b2 o2 => ?_, by rcases q5 with q | q; exact .inr (.inr (.inl q)); exact .inr (.inr (.inr (.inl q))), fun q => by
      rcases q5 with q5 | q5 <;> (rw [q5] at q; omega)⟩
    rotate_left
    · have := o2.s; have := q4.s; have h5 := q4.t
      exact ⟨q4.w, ⟨by omega, by omega⟩, h5⟩
    have fr' : d.fr C w0 (m.g.step C who A).2.2.w := fun a n1 n2 n3 n4 n5 => by rw [q1 a n2 n3]; exact fr a n1 n2 n3 n4 n5
    have sl' : (m.g.step C who A).2.2.w (C.slot d.s) = d.nx C := by rw [q1 _ (by omega) (by omega)]; exact hsl
    have oS' : s0 < m.d.oS ∧ m.d.oS ≤ (m.g.step C who A).2.2.s := by rw [q2]; omega
    refine ⟨td, ?_⟩
    rcases q with ⟨q, h'⟩ | ⟨q, h'⟩
    · exact .inl ⟨q, e1, e2, .inr ⟨h1, hge, h2, .inr ⟨hz, .inr ⟨fr', .inr ⟨sl', oE, oS', .inr ⟨h, hng, kk + 1, h', by omega, by omega⟩⟩⟩⟩⟩⟩
    · refine .inr ⟨q, oE, oS', fr', sl', ?_⟩
      rw [if_neg hng]; exact h'
end Go.Fl
namespace Go.Fl
open Go
set_option linter.unusedVariables false
set_option linter.unusedSimpArgs false
variable {N : Nm} {A B : Ar} {σ : Mem} {K : Value → Mem → Prop} {C : Cf} {who : Int}
theorem Bg.aw.pa {b : Bg} {bb : Int} (hC : C.ok) (h : b.aw C A.w) (ok : A.ok bb) (hn : C.len ≤ A.n) : Pa C A bb := by
  refine ⟨ok, hn, fun c c0 c3 => ?_⟩
  have := h.alo.op c c0 c3
  have := h.alo.bd
  omega
theorem Dm.new_fit (hC : C.ok) {n : Int} {o : Bool} (hn : 0 ≤ n ∧ n < 18446744073709551616) : (Dm.new n o).fit C A := by
  have hS := hC.S
  exact ⟨⟨Int.le_refl 0, (by decide : (0 : Int) ≤ 6)⟩, hn, ⟨Int.le_refl 0, by show (0 : Int) < C.S; omega⟩, ⟨Int.le_refl 0, (by decide : (0 : Int) < 18446744073709551616)⟩, fun e => (by cases e), fun e => (by rcases e with e | e <;> cases e), fun e => (by cases e), fun e => (by cases e)⟩
theorem ok_mono {bb b' : Int} (h : A.ok bb) (hb : bb ≤ b') : A.ok b' := ⟨h.w, ⟨h.s.1, by have := h.s.2; omega⟩, h.t⟩
end Go.Fl
namespace Go.Fl
open Go
set_option linter.unusedVariables false
set_option linter.unusedSimpArgs false
variable {N : Nm} {A B : Ar} {σ : Mem} {K : Value → Mem → Prop} {C : Cf} {who : Int}
theorem Ak.new_fit (hC : C.ok) {kd n ix v old : Int} {o : Bool} (hn : 0 ≤ n ∧ n < 18446744073709551616) (hb : (A.n : Int) ≤ 200000000) : (Ak.new kd n ix v old o).fit C A := by
  have hS := hC.S
  exact ⟨⟨⟨Int.le_refl 0, (by decide : (0 : Int) ≤ 6)⟩, hn, ⟨Int.le_refl 0, by show (0 : Int) < C.S; omega⟩, ⟨Int.le_refl 0, (by decide : (0 : Int) < 18446744073709551616)⟩, ⟨Int.le_refl 0, (by decide : (0 : Int) < 18446744073709551616)⟩, fun e => (by cases e), fun e => (by rcases e with e | e <;> cases e), hb⟩, fun e => (by cases e)⟩
end Go.Fl
namespace Go.Fl
open Go
set_option linter.unusedVariables false
set_option linter.unusedSimpArgs false
variable {N : Nm} {A B : Ar} {σ : Mem} {K : Value → Mem → Prop} {C : Cf} {who : Int}
structure Ol (C : Cf) (w : Int → Int) (n : Int) (own : Bool) (z a : Int) : Prop where
  nb : 0 ≤ n ∧ n < 18446744073709551616
  ok : hdOk n = true
  s : hdSl n < C.S
  st : slS (w (C.slot (hdSl n))) = 1
  ad : slA (w (C.slot (hdSl n))) = a
  ge : slG (w (C.slot (hdSl n))) = hdGe n
  hd : hdO (w a) = own ∧ hdS (w a) = z
  bd : C.base 0 ≤ a ∧ a + z < C.len
  z1 : 1 ≤ z
  cl : ∀ x, 0 ≤ x → x < z → ceF (w (a + 1 + x)) = false
end Go.Fl
namespace Go.Fl
open Go
set_option linter.unusedVariables false
set_option linter.unusedSimpArgs false
variable {N : Nm} {A B : Ar} {σ : Mem} {K : Value → Mem → Prop} {C : Cf} {who : Int}
theorem ceF_lay {v : Int} : ceF (putCell v false 0) = false := decide_eq_false (by unfold putCell cl; simp only [Bool.false_eq_true, if_false]; omega)
def Lk (kd old c : Int) : Prop := kd = 1 ∨ kd = 3 ∧ ceV c ≠ old
instance {kd old c : Int} : Decidable (Lk kd old c) := by unfold Lk; infer_instance
structure Lo (C : Cf) (n : Int) (own : Bool) (z W kd ix v old : Int) (m : Ak) : Prop where
  f : m.a.kd = kd ∧ m.a.n = n ∧ m.a.ix = ix ∧ m.a.v = v ∧ m.a.old = old ∧ m.a.own = own
  hs : 0 ≤ m.a.hs ∧ m.a.hs < C.S
  w : 0 ≤ m.a.w ∧ m.a.w < 18446744073709551616
  cell : 0 ≤ m.a.cell ∧ m.a.cell < 18446744073709551616
  at' : m.a.pc = 0 ∨ (m.a.hs = hdSl n ∧ m.a.hg = hdGe n ∧ m.a.w = W) ∧ (m.a.pc = 1 ∨ (0 ≤ ix ∧ ix < z) ∧ (m.a.pc = 2 ∨ ceF m.a.cell = false ∧ (m.a.pc = 5 ∧ ¬ Lk kd old m.a.cell ∨ m.a.pc = 6 ∧ Lk kd old m.a.cell)))
theorem Lo.new (hC : C.ok) {n z W kd ix v old : Int} {own : Bool} : Lo C n own z W kd ix v old (Ak.new kd n ix v old own) := by
  have hS := hC.S
  exact ⟨⟨rfl, rfl, rfl, rfl, rfl, rfl⟩, ⟨Int.le_refl 0, by show (0 : Int) < C.S; omega⟩, ⟨Int.le_refl 0, (by decide : (0 : Int) < 18446744073709551616)⟩, ⟨Int.le_refl 0, (by decide : (0 : Int) < 18446744073709551616)⟩, .inl rfl⟩
inductive LoR (C : Cf) (who n : Int) (own : Bool) (z a W kd ix v old : Int) (A : Ar) (m : Ak) : Bool → Ak → Ar → Prop
  | see {m' : Ak} : m.a.pc = 0 → Lo C n own z W kd ix v old m' → m'.a.pc = 1 → m'.a.seen = A.s + 1 → LoR C who n own z a W kd ix v old A m false m' ((A.by who).load (C.slot (hdSl n)))
  | head {m' : Ak} : m.a.pc = 1 → Lo C n own z W kd ix v old m' → m'.a.pc = 2 → 0 ≤ ix ∧ ix < z → LoR C who n own z a W kd ix v old A m false m' ((A.by who).load a)
  | index {m' : Ak} : m.a.pc = 1 → ¬ (0 ≤ ix ∧ ix < z) → m'.a.oE = 4 ∧ m'.a.oH = 0 ∧ m'.a.oV = 0 ∧ m'.a.oS = m.a.seen → LoR C who n own z a W kd ix v old A m true m' ((A.by who).load a)
  | load {m' : Ak} : m.a.pc = 2 → 0 ≤ ix ∧ ix < z → Lo C n own z W kd ix v old m' → m'.a.cell = A.w (a + 1 + ix) → m'.a.rd = A.s + 1 → (m'.a.pc = 5 ∧ ¬ Lk kd old m'.a.cell ∨ m'.a.pc = 6 ∧ Lk kd old m'.a.cell) → LoR C who n own z a W kd ix v old A m false m' ((A.by who).load (a + 1 + ix))
  | lay {m' : Ak} : m.a.pc = 5 → 0 ≤ ix ∧ ix < z → ¬ Lk kd old m.a.cell → A.w (a + 1 + ix) = m.a.cell → m'.a.oE = 0 ∧ m'.a.oH = 0 ∧ m'.a.oV = ceV m.a.cell ∧ m'.a.oS = A.s + 1 → LoR C who n own z a W kd ix v old A m true m' ((A.by who).store (a + 1 + ix) (putCell v false 0))
  | again {m' : Ak} : m.a.pc = 5 → 0 ≤ ix ∧ ix < z → ¬ Lk kd old m.a.cell → A.w (a + 1 + ix) ≠ m.a.cell → Lo C n own z W kd ix v old m' → m'.a.pc = 0 → LoR C who n own z a W kd ix v old A m false m' ((A.by who).load (a + 1 + ix))
  | look {m' : Ak} : m.a.pc = 6 → 0 ≤ ix ∧ ix < z → Lk kd old m.a.cell → m'.a.oE = (if kd = 3 then 8 else 0) ∧ m'.a.oH = 0 ∧ m'.a.oV = ceV m.a.cell ∧ m'.a.oS = m.a.rd → LoR C who n own z a W kd ix v old A m true m' ((A.by who).load (C.slot (hdSl n)))
theorem Lo.step (hC : C.ok) {bb n z a W kd ix v old : Int} {own : Bool} {m : Ak} (h : Lo C n own z W kd ix v old m) (ho : Ol C A.w n own z a) (hW : A.w (C.slot (hdSl n)) = W) (ok : A.ok bb) (hb : bb < 4611686018427387904) (hl : C.len ≤ A.n) (hb2 : (A.n : Int) ≤ 200000000) :
    m.fit C A ∧ LoR C who n own z a W kd ix v old A m (m.step C who A).1 (m.step C who A).2.1 (m.step C who A).2.2 := by
  have hT := hC.T
  have hS := hC.S
  have hCC := hC.C
  have hll := len_bd hC
  have hsl := hdSl_bd ho.nb.1
  have hos := ho.s
  have hbd := ho.bd
  have hz1 := ho.z1
  have hb0 : C.base 0 = 6 + C.T + 2 * C.S + 3 * C.C := by unfold Cf.base; omega
  have hsb : 0 ≤ C.slot (hdSl n) ∧ C.slot (hdSl n) < C.base 0 := by unfold Cf.slot; omega
  have hWl : slS W = 1 ∧ slA W = a ∧ slG W = hdGe n := by rw [← hW]; exact ⟨ho.st, ho.ad, ho.ge⟩
  have hlv : lives W (hdGe n) := ⟨.inl hWl.1, hWl.2.2⟩
  obtain ⟨⟨f1, f2, f3, f4, f5, f6⟩, g1, g2, g3, h⟩ := h
  have hat : m.a.w = W → m.a.at' = a + 1 + ix := fun e => by unfold Ac.at'; rw [e, hWl.2.1, f3]
  have hfit : m.fit C A := by
    refine ⟨⟨?_, by rw [f2]; exact ho.nb, g1, g2, g3, fun e => ?_, fun e => ?_, by omega⟩, fun e => ?_⟩
    · rcases h with h | ⟨_, h | ⟨_, h | ⟨_, ⟨h, _⟩ | ⟨h, _⟩⟩⟩⟩ <;> omega
    · rcases h with h | ⟨⟨_, _, q⟩, _⟩
      · omega
      · rw [q, hWl.2.1]; omega
    · rcases h with h | ⟨⟨_, _, q⟩, h | ⟨hi, _⟩⟩
      · omega
      · omega
      · rw [hat q]; omega
    · rcases h with h | ⟨_, h | ⟨_, h | ⟨_, ⟨h, _⟩ | ⟨h, _⟩⟩⟩⟩ <;> omega
  refine ⟨hfit, ?_⟩
  have hs1 := ok.s1 (by omega)
  have ls : ∀ x, ((A.by who).load x).s = A.s + 1 := fun x => (aft_load (who := who) (A := A) (a := x) ok (by omega)).s
  have n4 : m.a.pc ≠ 4 := by rcases h with h | ⟨_, h | ⟨_, h | ⟨_, ⟨h, _⟩ | ⟨h, _⟩⟩⟩⟩ <;> omega
  have e0 : m.step C who A = ((m.a.step C who A).1, ⟨(m.a.step C who A).2.1, if m.a.pc = 2 then Hl.new m.a.hs m.a.w m.a.size else m.h⟩, (m.a.step C who A).2.2) := by
    unfold Ak.step; rw [if_neg n4]
  rw [e0]
  rcases h with hp | ⟨⟨q1, q2, q3⟩, h⟩
  · have e : m.a.step C who A = (false, { m.a with hs := hdSl m.a.n, hg := hdGe m.a.n, w := A.w (C.slot (hdSl m.a.n)), seen := ((A.by who).load (C.slot (hdSl m.a.n))).s, pc := 1 }, (A.by who).load (C.slot (hdSl m.a.n))) := by
      unfold Ac.step; rw [if_pos hp, if_neg (by rw [f2]; rintro (q | q); rw [ho.ok] at q; cases q; omega), if_pos (by rw [f2, hW]; exact hlv)]
    rw [e, f2]
    exact .see hp ⟨⟨f1, by first | rfl | exact f2, f3, f4, f5, f6⟩, ⟨hsl.1.1, hos⟩, ok.w (C.slot (hdSl n)), g3, .inr ⟨⟨rfl, rfl, hW⟩, .inl rfl⟩⟩ rfl (ls (C.slot (hdSl n)))
  rcases h with hp | ⟨hi, h⟩
  · have own' : ¬ hdO (A.w (slA m.a.w)) ≠ m.a.own := by rw [q3, hWl.2.1, f6, ho.hd.1]; simp
    by_cases c : ix < 0 ∨ hdS (A.w a) ≤ ix
    · have e : m.a.step C who A = (true, ({ m.a with size := hdS (A.w (slA m.a.w)), pc := 2 } : Ac).fin 4 0 m.a.seen, (A.by who).load (slA m.a.w)) := by
        unfold Ac.step; rw [if_neg (by omega), if_pos hp, if_neg own', if_pos (by rw [q3, hWl.2.1, f3]; exact c)]
      rw [e, q3, hWl.2.1]
      rw [ho.hd.2] at c
      exact .index hp (by omega) ⟨rfl, rfl, rfl, rfl⟩
    · have e : m.a.step C who A = (false, { m.a with size := hdS (A.w (slA m.a.w)), pc := 2 }, (A.by who).load (slA m.a.w)) := by
        unfold Ac.step; rw [if_neg (by omega), if_pos hp, if_neg own', if_neg (by rw [q3, hWl.2.1, f3]; exact c)]
      rw [e, q3, hWl.2.1]
      rw [ho.hd.2] at c
      have hi : 0 ≤ ix ∧ ix < z := by omega
      exact .head hp ⟨⟨f1, f2, f3, f4, f5, f6⟩, g1, g2, g3, .inr ⟨⟨q1, q2, q3⟩, .inr ⟨hi, .inl rfl⟩⟩⟩ rfl hi
  rcases h with hp | ⟨hc, h⟩
  · have e : m.a.step C who A = (false, { m.a with cell := A.w m.a.at', rd := ((A.by who).load m.a.at').s, pc := ({ m.a with cell := A.w m.a.at' } : Ac).nxt }, (A.by who).load m.a.at') := by
      unfold Ac.step; rw [if_neg (by omega), if_neg (by omega), if_pos hp]
    have hce := ho.cl ix hi.1 hi.2
    have nx : ({ m.a with cell := A.w m.a.at' } : Ac).nxt = if Lk kd old (A.w m.a.at') then 6 else 5 := by
      unfold Ac.nxt Lk
      dsimp only
      have hs1 : ¬ slS m.a.w = 4 := by rw [q3, hWl.1]; decide
      rw [if_neg hs1, if_pos (show ceF (A.w m.a.at') = false ∨ ceN (A.w m.a.at') < slV m.a.w from .inl (by rw [hat q3]; exact hce)), f1, f5]
    rw [e, nx, hat q3]
    have hpc : (if Lk kd old (A.w (a + 1 + ix)) then (6 : Int) else 5) = 5 ∧ ¬ Lk kd old (A.w (a + 1 + ix)) ∨ (if Lk kd old (A.w (a + 1 + ix)) then (6 : Int) else 5) = 6 ∧ Lk kd old (A.w (a + 1 + ix)) := by
      by_cases c : Lk kd old (A.w (a + 1 + ix))
      · rw [if_pos c]; exact .inr ⟨rfl, c⟩
      · rw [if_neg c]; exact .inl ⟨rfl, c⟩
    exact .load hp hi ⟨⟨f1, f2, f3, f4, f5, f6⟩, g1, g2, ok.w (a + 1 + ix), .inr ⟨⟨q1, q2, q3⟩, .inr ⟨hi, .inr ⟨hce, hpc⟩⟩⟩⟩ rfl (ls (a + 1 + ix)) hpc
  rcases h with ⟨hp, hq⟩ | ⟨hp, hq⟩
  · by_cases c : A.w (a + 1 + ix) = m.a.cell
    · have e : m.a.step C who A = (true, ({ m.a with pc := 0 } : Ac).fin 0 (ceV m.a.cell) ((A.by who).cas m.a.at' m.a.cell (putCell m.a.v false 0)).s, (A.by who).cas m.a.at' m.a.cell (putCell m.a.v false 0)) := by
        unfold Ac.step; rw [if_neg (by omega), if_neg (by omega), if_neg (by omega), if_neg (by omega), if_pos hp, if_pos (by rw [hat q3]; exact c)]
      rw [e, hat q3, cas_yes (show (A.by who).w (a + 1 + ix) = m.a.cell from c), f4]
      exact .lay hp hi hq c ⟨rfl, rfl, rfl, (aft_store (who := who) (A := A) (a := a + 1 + ix) (v := putCell v false 0) ok (by omega)).s⟩
    · have e : m.a.step C who A = (false, { m.a with pc := 0 }, (A.by who).cas m.a.at' m.a.cell (putCell m.a.v false 0)) := by
        unfold Ac.step; rw [if_neg (by omega), if_neg (by omega), if_neg (by omega), if_neg (by omega), if_pos hp, if_neg (by rw [hat q3]; exact c)]
      rw [e, hat q3, cas_no (show (A.by who).w (a + 1 + ix) ≠ m.a.cell from c)]
      exact .again hp hi hq c ⟨⟨f1, f2, f3, f4, f5, f6⟩, g1, g2, g3, .inl rfl⟩ rfl
  · have l1 : lives (A.w (C.slot m.a.hs)) m.a.hg := by rw [q1, q2, hW]; exact hlv
    have l2 : slA (A.w (C.slot m.a.hs)) = slA m.a.w := by rw [q1, q3, hW]
    have e : m.a.step C who A = (true, m.a.fin (if m.a.kd = 3 then 8 else 0) (ceV m.a.cell) m.a.rd, (A.by who).load (C.slot m.a.hs)) := by
      unfold Ac.step; rw [if_neg (by omega), if_neg (by omega), if_neg (by omega), if_neg (by omega), if_neg (by omega), if_pos l1, if_pos l2]
    rw [e, q1, f1]
    exact .look hp hi hq ⟨rfl, rfl, rfl, rfl⟩
theorem Ol.lay (hC : C.ok) {w : Int → Int} {n z a x v : Int} {own : Bool} (h : Ol C w n own z a) (x0 : 0 ≤ x) (x1 : x < z) : Ol C (upd w (a + 1 + x) (putCell v false 0)) n own z a := by
  have hT := hC.T
  have hS := hC.S
  have hCC := hC.C
  have hsl := hdSl_bd h.nb.1
  have hos := h.s
  have hbd := h.bd
  have hb0 : C.base 0 = 6 + C.T + 2 * C.S + 3 * C.C := by unfold Cf.base; omega
  have e1 : upd w (a + 1 + x) (putCell v false 0) (C.slot (hdSl n)) = w (C.slot (hdSl n)) := upd_ne _ _ (by unfold Cf.slot; omega)
  have e2 : upd w (a + 1 + x) (putCell v false 0) a = w a := upd_ne _ _ (by omega)
  refine ⟨h.nb, h.ok, h.s, by rw [e1]; exact h.st, by rw [e1]; exact h.ad, by rw [e1]; exact h.ge, by rw [e2]; exact h.hd, h.bd, h.z1, fun y y0 y1 => ?_⟩
  by_cases c : y = x
  · subst c; rw [upd_same]; exact ceF_lay
  · rw [upd_ne _ _ (by omega)]; exact h.cl y y0 y1
theorem Ol.slot_ne (hC : C.ok) {w : Int → Int} {n z a x : Int} {own : Bool} (h : Ol C w n own z a) (x0 : 0 ≤ x) : C.slot (hdSl n) ≠ a + 1 + x := by
  have hT := hC.T
  have hS := hC.S
  have hCC := hC.C
  have hsl := hdSl_bd h.nb.1
  have hos := h.s
  have hbd := h.bd
  have hb0 : C.base 0 = 6 + C.T + 2 * C.S + 3 * C.C := by unfold Cf.base; omega
  unfold Cf.slot; omega
structure LoK (C : Cf) (n : Int) (own : Bool) (z a W bb : Int) (A A' : Ar) : Prop where
  ol : Ol C A'.w n own z a
  W : A'.w (C.slot (hdSl n)) = W
  ok : A'.ok (bb + 1)
  n : A'.n = A.n
  s : A'.s = A.s + 1
  la : 0 ≤ A'.la ∧ A'.la < C.len
theorem LoR.keep (hC : C.ok) {bb n z a W kd ix v old : Int} {own d : Bool} {m m' : Ak} {A' : Ar} (h : LoR C who n own z a W kd ix v old A m d m' A') (ho : Ol C A.w n own z a) (hW : A.w (C.slot (hdSl n)) = W) (ok : A.ok bb) (hb : bb < 4611686018427387904) : LoK C n own z a W bb A A' := by
  have hT := hC.T
  have hS := hC.S
  have hCC := hC.C
  have hll := len_bd hC
  have hsl := hdSl_bd ho.nb.1
  have hos := ho.s
  have hbd := ho.bd
  have hz1 := ho.z1
  have hb0 : C.base 0 = 6 + C.T + 2 * C.S + 3 * C.C := by unfold Cf.base; omega
  have hsb : 0 ≤ C.slot (hdSl n) ∧ C.slot (hdSl n) < C.base 0 := by unfold Cf.slot; omega
  have ld : ∀ x, 0 ≤ x → x < C.len → LoK C n own z a W bb A ((A.by who).load x) := fun x x0 x1 => by
    have a1 := aft_load (who := who) (A := A) (a := x) ok (by omega)
    exact ⟨ho, hW, a1.ok (by decide) ok ok.w, rfl, a1.s, x0, x1⟩
  cases h with
  | see => exact ld _ (by omega) (by omega)
  | head => exact ld _ (by omega) (by omega)
  | index => exact ld _ (by omega) (by omega)
  | load _ hi => exact ld _ (by omega) (by omega)
  | lay _ hi =>
    have a1 := aft_store (who := who) (A := A) (a := a + 1 + ix) (v := putCell v false 0) ok (by omega)
    refine ⟨by rw [a1.w]; exact ho.lay hC hi.1 hi.2, by rw [a1.w, upd_ne _ _ (ho.slot_ne hC hi.1)]; exact hW, a1.ok (by decide) ok fun i => upd_cases (P := fun x => 0 ≤ x ∧ x < 18446744073709551616) (putCell_in _ _ _) (ok.w i), a1.n, a1.s, ?_⟩
    show 0 ≤ a + 1 + ix ∧ a + 1 + ix < C.len
    omega
  | again _ hi => exact ld _ (by omega) (by omega)
  | look => exact ld _ (by omega) (by omega)
end Go.Fl
namespace Go.Fl
open Go
set_option linter.unusedVariables false
set_option linter.unusedSimpArgs false
variable {N : Nm} {A B : Ar} {σ : Mem} {K : Value → Mem → Prop} {C : Cf} {who : Int}
theorem hd_handle {s g : Int} (s0 : 0 ≤ s ∧ s ≤ 65535) (g0 : 1 ≤ g ∧ g ≤ 65535) : (0 ≤ putHandle s g ∧ putHandle s g < 18446744073709551616) ∧ hdOk (putHandle s g) = true ∧ hdSl (putHandle s g) = s ∧ hdGe (putHandle s g) = g ∧ putHandle s g = s + g * 65536 := by
  have e : putHandle s g = s + g * 65536 := by unfold putHandle; rw [cl_in s0.1 s0.2, cl_in (by omega) g0.2]
  have ho : hdOk (putHandle s g) = true := decide_eq_true (by rw [e]; omega)
  refine ⟨by rw [e]; omega, ho, ?_, ?_, e⟩
  · unfold hdSl; rw [ho, e]; simp only [if_true]; omega
  · unfold hdGe; rw [ho, e]; simp only [if_true]; omega
theorem class_room' {n : Int} (h : 0 ≤ classOf n) : (1 ≤ n ∧ n ≤ 16) ∧ n + 1 ≤ roomOf (classOf n) := by
  unfold classOf at *
  split at h
  · omega
  · rename_i h1; rw [if_neg h1]
    split at h
    · rename_i h2; rw [if_pos h2]; refine ⟨by omega, ?_⟩; show n + 1 ≤ 3; omega
    · rename_i h2; rw [if_neg h2]
      split at h
      · rename_i h3; rw [if_pos h3]; refine ⟨by omega, ?_⟩; show n + 1 ≤ 5; omega
      · rename_i h3; rw [if_neg h3]
        split at h
        · rename_i h4; rw [if_pos h4]; refine ⟨by omega, ?_⟩; show n + 1 ≤ 9; omega
        · rename_i h4; rw [if_neg h4]
          split at h
          · rename_i h5; rw [if_pos h5]; refine ⟨by omega, ?_⟩; show n + 1 ≤ 17; omega
          · omega
def Do.mk' (C : Cf) (b : Bg) (s ge z : Int) (own : Bool) (j : Int) : Do := ⟨putHandle s ge, putSlot 1 (C.base j + b.u j) ge 0, z, own, j, b.u j⟩
theorem Got.cnt (hC : C.ok) {b b' : Bg} {F : List Int} {c j n : Int} (hg : Got C b F c j b') : (b'.count j n).F = F ∧ (b'.count j n).lv = upd b.lv j (b.lv j + n) ∧ (b'.count j n).u = upd b.u j (b.u j + roomOf c) := by
  obtain ⟨h1, h2⟩ := hg.has hC
  refine ⟨h1, ?_, ?_⟩
  · show upd b'.lv j (b'.lv j + n) = _; rw [h2]
  · show b'.u = _
    rcases hg with ⟨_, _, q⟩ | ⟨_, _, _, q⟩ <;> rw [q]
theorem Got.do (hC : C.ok) {b b' : Bg} {F : List Int} {z s j ge : Int} {own : Bool} {w : Int → Int} (hc : 0 ≤ classOf z) (s0 : 0 ≤ s ∧ s < C.S) (sF : s ∉ F) (g0 : 1 ≤ ge ∧ ge ≤ 65535) (hg : Got C b F (classOf z) j b') (hal : ∃ w, Alo C b.o b.u b.nx w) (hlv : 0 ≤ b.lv j)
    (h1 : w (C.slot s) = putSlot 1 (C.base j + b.u j) ge 0) (h2 : w (C.base j + b.u j) = putHead 2 z s ge own) : (Do.mk' C b s ge z own j).ok C (b'.count j (roomOf (classOf z))) w := by
  have hS := hC.S
  have hc3 := (class_bd z).2
  obtain ⟨wA, hal⟩ := hal
  obtain ⟨d1, d2, d3, d4⟩ := hg.bd hC hal hc hc3
  obtain ⟨sz, szr⟩ := class_room' hc
  obtain ⟨c1, c2, c3⟩ := hg.cnt hC (n := roomOf (classOf z))
  obtain ⟨u0, u1, u2, u3, u4⟩ := hd_handle (s := s) (g := ge) (by omega) g0
  have hb1 := base_of hC d1.1 d1.2 d2.1 (by omega)
  have hb2 := base_ge hC d1.1 d1.2 d2.1
  have hl := len_bd hC
  obtain ⟨p1, p2, p3, p4⟩ := sl_put (st := 1) (ad := C.base j + b.u j) (ge := ge) (ve := 0) (by decide) (by omega) (by omega) (by decide)
  obtain ⟨q1, q2, q3, q4, q5⟩ := hd_put (k := 2) (s := z) (t := s) (g := ge) (o := own) (by decide) (by omega) (by omega) (by omega)
  have es : (Do.mk' C b s ge z own j).s = s := u2
  have eg : (Do.mk' C b s ge z own j).ge = ge := u3
  exact ⟨u0, u1, by rw [es]; exact s0, by rw [es, c1]; exact sF, by rw [eg]; omega, by rw [es]; exact h1, .inl p1, p2, by rw [eg]; exact p3, ⟨by show hdS (w (C.base j + b.u j)) = z; rw [h2]; exact q2, by show hdO (w (C.base j + b.u j)) = own; rw [h2]; exact q5⟩, hc, d1,
    ⟨d2.1, by show b.u j + roomOf (classOf z) ≤ (b'.count j (roomOf (classOf z))).u j; rw [c3, upd_same]; exact Int.le_refl _⟩, szr, by show roomOf (classOf z) ≤ (b'.count j (roomOf (classOf z))).lv j; rw [c2, upd_same]; omega⟩
theorem Do.ok.keep {d : Do} {b b' : Bg} {w w' : Int → Int} (h : d.ok C b w) (sF : d.s ∉ b'.F) (h1 : w' (C.slot d.s) = w (C.slot d.s)) (h2 : w' (d.a C) = w (d.a C)) (hu : b.u d.j ≤ b'.u d.j) (hlv : roomOf (classOf d.z) ≤ b'.lv d.j) : d.ok C b' w' :=
  ⟨h.n, h.hok, h.s, sF, h.ge, by rw [h1]; exact h.ws, h.st, h.sa, h.sg, by rw [h2]; exact h.hd, h.cl, h.j, ⟨h.i.1, by have := h.i.2; omega⟩, h.z, hlv⟩
theorem Do.ok.word {d : Do} {b : Bg} {w : Int → Int} {v : Int} (hC : C.ok) (h : d.ok C b w) (ha : C.base 0 ≤ d.a C) (h1 : slS v = 1 ∨ slS v = 2) (h2 : slA v = d.a C) (h3 : slG v = d.ge) : ({ d with ws := v } : Do).ok C b (upd w (C.slot d.s) v) := by
  have hb0 : C.base 0 = 6 + C.T + 2 * C.S + 3 * C.C := by unfold Cf.base; omega
  have hs := h.s
  have hCC := hC.C
  have ne : d.a C ≠ C.slot d.s := by unfold Cf.slot; omega
  refine ⟨h.n, h.hok, h.s, h.sF, h.ge, upd_same _ _ _, h1, h2, h3, ?_, h.cl, h.j, h.i, h.z, h.lv⟩
  show hdS (upd w (C.slot d.s) v (d.a C)) = d.z ∧ hdO (upd w (C.slot d.s) v (d.a C)) = d.own
  rw [upd_ne _ _ ne]; exact h.hd
end Go.Fl
namespace Go.Fl
open Go
set_option linter.unusedVariables false
set_option linter.unusedSimpArgs false
variable {N : Nm} {A B : Ar} {σ : Mem} {K : Value → Mem → Prop} {C : Cf} {who : Int}
theorem Ol.made (hC : C.ok) {w : Int → Int} {s ge z a : Int} {own : Bool} (s0 : 0 ≤ s ∧ s < C.S) (g0 : 1 ≤ ge ∧ ge ≤ 65535) (hz : 0 ≤ classOf z) (hbd : C.base 0 ≤ a ∧ a + z < C.len) (h1 : w (C.slot s) = putSlot 1 a ge 0) (h2 : w a = putHead 2 z s ge own)
    (h3 : ∀ x, 0 ≤ x → x < z → w (a + 1 + x) = 0) : Ol C w (putHandle s ge) own z a := by
  have hS := hC.S
  have hT := hC.T
  have hCC := hC.C
  have hl := len_bd hC
  obtain ⟨sz, szr⟩ := class_room' hz
  obtain ⟨u0, u1, u2, u3, u4⟩ := hd_handle (s := s) (g := ge) (by omega) g0
  have hb0 : C.base 0 = 6 + C.T + 2 * C.S + 3 * C.C := by unfold Cf.base; omega
  obtain ⟨p1, p2, p3, p4⟩ := sl_put (st := 1) (ad := a) (ge := ge) (ve := 0) (by decide) (by omega) (by omega) (by decide)
  obtain ⟨q1, q2, q3, q4, q5⟩ := hd_put (k := 2) (s := z) (t := s) (g := ge) (o := own) (by decide) (by omega) (by omega) (by omega)
  exact ⟨u0, u1, by rw [u2]; exact s0.2, by rw [u2, h1]; exact p1, by rw [u2, h1]; exact p2, by rw [u2, u3, h1]; exact p3, ⟨by rw [h2]; exact q5, by rw [h2]; exact q2⟩, hbd, by omega, fun x x0 x1 => by rw [h3 x x0 x1]; rfl⟩
structure Fst (C : Cf) (own : Bool) (z : Int) (A' : Ar) (a : Int) : Prop where
  ol : Ol C A'.w 65536 own z a
  sl : hdSl 65536 = 0 ∧ hdGe 65536 = 1
  W : A'.w (C.slot 0) = putSlot 1 a 1 0
  hd : A'.w a = putHead 2 z 0 1 own
  cz : ∀ x, 0 ≤ x → x < z → A'.w (a + 1 + x) = 0
  at' : a = C.base 0
  aw : Bg.aw ⟨(upL 0 C.S.toNat).tail, upd (fun _ => -1) (classOf z) 0, upd (fun _ => 0) 0 (roomOf (classOf z)), upd (fun _ => 0) 0 (roomOf (classOf z)), 1⟩ C A'.w
  slots : ∀ t, 1 ≤ t → t < C.S → A'.w (C.slot t) = putSlot 0 0 1 0
  s : 2 * C.S + 2 < A'.s ∧ A'.s ≤ 2 * C.S + 102
  pa : Pa C A' 1000000
  n : A'.n = C.len.toNat
  la : A'.la < C.len
theorem upL_head {S : Int} (h : 1 ≤ S) : upL 0 S.toNat = 0 :: (upL 0 S.toNat).tail := by
  obtain ⟨k, e⟩ : ∃ k, S.toNat = k + 1 := ⟨S.toNat - 1, by omega⟩
  rw [e]; rfl
theorem c_First (hN : N.ok) (hC : C.ok) (hA : isA N A σ) (hF : Frsh N C A) {z : Int} {own : Bool} (hz : 0 ≤ classOf z)
    (hk : ∀ oV oS A' τ, Fst C own z A' (C.base 0) → (2 * C.S + 2 < oS ∧ oS ≤ A'.s) → isA N A' τ → Keep N.l σ τ → K (.agg #[.int .i64 0, .int .u64 65536, .int .i64 oV, .int .i64 oS]) τ) :
    s_law08_Make [N.env C who, .int .i64 z, .bool own] K σ := by
  have hS := hC.S
  have hT := hC.T
  have hCC := hC.C
  have hW := hC.W
  have hl := len_bd hC
  have hAw0 := hF.aw hC
  have hb0 : C.base 0 = 6 + C.T + 2 * C.S + 3 * C.C := by unfold Cf.base; omega
  have hP := (hF.pa hC).mono (show 2 * C.S + 2 ≤ 200000 by omega)
  have hFF : (Bg.fr C).F = 0 :: (upL 0 C.S.toNat).tail := upL_head hS.1
  have hnx0 : (Bg.fr C).nx = 0 := rfl
  have hw0 : ∀ s, 0 ≤ s → s < C.S → A.w (C.slot s) = putSlot 0 0 1 0 := by
    intro s s0 s1
    rw [hF.w]
    unfold Cf.w0 Cf.fr
    rw [if_neg (by unfold Cf.slot; omega), if_neg (by unfold Cf.slot; omega), if_pos (by unfold Cf.slot; omega), if_pos (by unfold Cf.slot; omega)]
  have hge : slG (A.w (C.slot 0)) = 1 := by rw [hw0 0 (by omega) (by omega)]; decide
  have hngood : ∀ c, ¬ good C (Bg.fr C).o (Bg.fr C).u c := fun c h => absurd h.1 (by decide : ¬ (0 : Int) ≤ -1)
  have hss := hF.s
  have hla := hF.la
  refine c_MakeN hN hC hA hP (by omega) hAw0 (fr_lv.ok (by decide)) hz fun m A2 τ2 hD hP2 hn2 hA2 k2 => ?_
  obtain ⟨e0, hs1, j, b', hg, hj, hu, eH, hAw, w1', w2, w3⟩ := hD.r.ok hFF (.inr (by omega))
  rw [hge] at eH w1' w2
  have hj0 : j = 0 ∧ b' = ⟨(upL 0 C.S.toNat).tail, upd (fun _ => -1) (classOf z) 0, upd (fun _ => 0) 0 (roomOf (classOf z)), fun _ => 0, 1⟩ := by
    rcases hg with ⟨q, _⟩ | ⟨_, _, q1, q2⟩
    · exact absurd q (hngood _)
    · refine ⟨q1, q2.trans ?_⟩
      rw [q1]; show (⟨_, upd (fun _ => -1) (classOf z) 0, upd (fun _ => 0) 0 (0 + roomOf (classOf z)), fun _ => 0, 0 + 1⟩ : Bg) = _
      rw [Int.zero_add]; rfl
  obtain ⟨rfl, rfl⟩ := hj0
  have hu0 : (Bg.fr C).u 0 = 0 := rfl
  rw [hu0] at w1' w2 w3 hu
  simp only [Int.add_zero, Int.zero_add] at w1' w2 w3 hu
  have hc3 := (class_bd z).2
  have hr := room_bd hz hc3
  obtain ⟨sz, szr⟩ := class_room' hz
  have hbase : C.base 0 + z < C.len := by
    have := base_of hC (j := 0) (i := z) (by omega) (by omega) (by omega) (by omega)
    omega
  have cl0 : ∀ x, 0 ≤ x → x < z → A2.w (C.base 0 + 1 + x) = 0 := fun x x0 x1 => by
    have := w3 (1 + x) (by omega) (by omega)
    rw [show C.base 0 + 1 + x = C.base 0 + (1 + x) by omega]; exact this
  have hol := Ol.made hC (s := 0) (ge := 1) (z := z) (a := C.base 0) (own := own) (w := A2.w) ⟨Int.le_refl 0, by omega⟩ (by decide) hz ⟨Int.le_refl _, hbase⟩ w1' w2 cl0
  have hh : putHandle 0 1 = 65536 := by decide
  rw [hh] at hol eH
  rw [e0, eH]
  refine hk m.a.oV m.a.oS A2 τ2 ⟨hol, by decide, w1', w2, cl0, rfl, ?_, fun t t0 t1 => ?_, by have := hD.n; omega, hP2.mono (by omega), hn2.1.trans hF.n, hn2.2 (by omega)⟩ ⟨by omega, hD.n.1.2⟩ hA2 k2
  · have : (Bg.count ⟨(upL 0 C.S.toNat).tail, upd (fun _ => -1) (classOf z) 0, upd (fun _ => 0) 0 (roomOf (classOf z)), fun _ => 0, 1⟩ 0 (roomOf (classOf z))) = ⟨(upL 0 C.S.toNat).tail, upd (fun _ => -1) (classOf z) 0, upd (fun _ => 0) 0 (roomOf (classOf z)), upd (fun _ => 0) 0 (roomOf (classOf z)), 1⟩ := by
      show (⟨_, _, _, upd (fun _ => 0) 0 (0 + roomOf (classOf z)), 1⟩ : Bg) = _
      rw [Int.zero_add]
    rw [this] at hAw; exact hAw
  · rw [hD.fw.slot t (by omega) t1 fun _ F q => by rw [hFF] at q; injection q with q _; omega]
    exact hw0 t (by omega) t1
end Go.Fl
namespace Go.Fl
open Go
set_option linter.unusedVariables false
set_option linter.unusedSimpArgs false
variable {N : Nm} {A B : Ar} {σ : Mem} {K : Value → Mem → Prop} {C : Cf} {who : Int}
structure Lg (C : Cf) (n : Int) (own : Bool) (kd ix v old : Int) (m : Ak) : Prop where
  f : m.a.kd = kd ∧ m.a.n = n ∧ m.a.ix = ix ∧ m.a.v = v ∧ m.a.old = old ∧ m.a.own = own
  hs : 0 ≤ m.a.hs ∧ m.a.hs < C.S
  w : 0 ≤ m.a.w ∧ m.a.w < 18446744073709551616
  cell : 0 ≤ m.a.cell ∧ m.a.cell < 18446744073709551616
  at' : m.a.pc = 0 ∨ (m.a.hs = hdSl n ∧ m.a.hg = hdGe n ∧ lives m.a.w (hdGe n) ∧ slS m.a.w ≠ 4) ∧ (m.a.pc = 1 ∨ m.a.pc = 2 ∨ m.a.pc = 3 ∧ ¬ Lk kd old m.a.cell ∧ slS m.a.w = 2 ∧ ceF m.a.cell = true ∧ ceN m.a.cell = slV m.a.w ∨
    m.a.pc = 5 ∧ ¬ Lk kd old m.a.cell ∧ (ceF m.a.cell = false ∨ ceN m.a.cell < slV m.a.w) ∨ m.a.pc = 6 ∧ Lk kd old m.a.cell)
theorem Lg.new (hC : C.ok) {n kd ix v old : Int} {own : Bool} : Lg C n own kd ix v old (Ak.new kd n ix v old own) := by
  have hS := hC.S
  exact ⟨⟨rfl, rfl, rfl, rfl, rfl, rfl⟩, ⟨Int.le_refl 0, by show (0 : Int) < C.S; omega⟩, ⟨Int.le_refl 0, (by decide : (0 : Int) < 18446744073709551616)⟩, ⟨Int.le_refl 0, (by decide : (0 : Int) < 18446744073709551616)⟩, .inl rfl⟩
structure LgE (C : Cf) (n : Int) (own : Bool) (z ix : Int) (A : Ar) (m : Ak) : Prop where
  nb : 0 ≤ n ∧ n < 18446744073709551616
  ok : hdOk n = true
  s : hdSl n < C.S
  dr : lives (A.w (C.slot (hdSl n))) (hdGe n) → slS (A.w (C.slot (hdSl n))) ≠ 4
  ix : 0 ≤ ix ∧ ix < z
  hd : m.a.pc = 1 → hdO (A.w (slA m.a.w)) = own ∧ hdS (A.w (slA m.a.w)) = z
  bd : m.a.pc ≠ 0 → C.base 0 ≤ slA m.a.w ∧ slA m.a.w + z < C.len
  n : C.len ≤ A.n
  n2 : (A.n : Int) ≤ 200000000
inductive LgR (C : Cf) (who n : Int) (own : Bool) (kd ix v old : Int) (A : Ar) (m : Ak) : Bool → Ak → Ar → Prop
  | see {m' : Ak} : m.a.pc = 0 → lives (A.w (C.slot (hdSl n))) (hdGe n) → Lg C n own kd ix v old m' → m'.a.pc = 1 → m'.a.w = A.w (C.slot (hdSl n)) → m'.a.seen = A.s + 1 → LgR C who n own kd ix v old A m false m' ((A.by who).load (C.slot (hdSl n)))
  | gone {m' : Ak} : m.a.pc = 0 ∨ m.a.pc = 6 → ¬ lives (A.w (C.slot (hdSl n))) (hdGe n) → m'.a.oE = 3 ∧ m'.a.oH = 0 ∧ m'.a.oV = 0 ∧ m'.a.oS = A.s + 1 → LgR C who n own kd ix v old A m true m' ((A.by who).load (C.slot (hdSl n)))
  | head {m' : Ak} : m.a.pc = 1 → Lg C n own kd ix v old m' → m'.a.pc = 2 → m'.a.w = m.a.w → LgR C who n own kd ix v old A m false m' ((A.by who).load (slA m.a.w))
  | load {m' : Ak} : m.a.pc = 2 → Lg C n own kd ix v old m' → m'.a.w = m.a.w → m'.a.cell = A.w (slA m.a.w + 1 + ix) → m'.a.rd = A.s + 1 → (m'.a.pc = 6 ∧ Lk kd old m'.a.cell ∨ ¬ Lk kd old m'.a.cell ∧ (m'.a.pc = 5 ∧ (ceF m'.a.cell = false ∨ ceN m'.a.cell < slV m.a.w) ∨
      ¬ (ceF m'.a.cell = false ∨ ceN m'.a.cell < slV m.a.w) ∧ (m'.a.pc = 3 ∧ ceN m'.a.cell = slV m.a.w ∧ slS m.a.w = 2 ∨ m'.a.pc = 0 ∧ ¬ (ceN m'.a.cell = slV m.a.w ∧ slS m.a.w = 2)))) → LgR C who n own kd ix v old A m false m' ((A.by who).load (slA m.a.w + 1 + ix))
  | stop {m' : Ak} : m.a.pc = 3 → slS m.a.w = 2 → Lg C n own kd ix v old m' → m'.a.pc = 0 → LgR C who n own kd ix v old A m false m' ((A.by who).cas (C.slot (hdSl n)) m.a.w (putSlot 1 (slA m.a.w) (slG m.a.w) (slV m.a.w + 1)))
  | lay {m' : Ak} : m.a.pc = 5 → ¬ Lk kd old m.a.cell → (ceF m.a.cell = false ∨ ceN m.a.cell < slV m.a.w) → A.w (slA m.a.w + 1 + ix) = m.a.cell → m'.a.oE = 0 ∧ m'.a.oH = 0 ∧ m'.a.oV = ceV m.a.cell ∧ m'.a.oS = A.s + 1 → LgR C who n own kd ix v old A m true m' ((A.by who).store (slA m.a.w + 1 + ix) (putCell v false 0))
  | again {m' : Ak} : m.a.pc = 5 → A.w (slA m.a.w + 1 + ix) ≠ m.a.cell → Lg C n own kd ix v old m' → m'.a.pc = 0 → LgR C who n own kd ix v old A m false m' ((A.by who).load (slA m.a.w + 1 + ix))
  | look {m' : Ak} : m.a.pc = 6 → Lk kd old m.a.cell → lives (A.w (C.slot (hdSl n))) (hdGe n) → slA (A.w (C.slot (hdSl n))) = slA m.a.w → m'.a.oE = (if kd = 3 then 8 else 0) ∧ m'.a.oH = 0 ∧ m'.a.oV = ceV m.a.cell ∧ m'.a.oS = m.a.rd → LgR C who n own kd ix v old A m true m' ((A.by who).load (C.slot (hdSl n)))
  | else' {m' : Ak} : m.a.pc = 6 → lives (A.w (C.slot (hdSl n))) (hdGe n) → slA (A.w (C.slot (hdSl n))) ≠ slA m.a.w → Lg C n own kd ix v old m' → m'.a.pc = 0 → LgR C who n own kd ix v old A m false m' ((A.by who).load (C.slot (hdSl n)))
theorem Lg.step (hC : C.ok) {bb n z kd ix v old : Int} {own : Bool} {m : Ak} (h : Lg C n own kd ix v old m) (ho : LgE C n own z ix A m) (ok : A.ok bb) (hb : bb < 4611686018427387904) :
    m.fit C A ∧ LgR C who n own kd ix v old A m (m.step C who A).1 (m.step C who A).2.1 (m.step C who A).2.2 := by
  have hT := hC.T
  have hS := hC.S
  have hCC := hC.C
  have hll := len_bd hC
  have hsl := hdSl_bd ho.nb.1
  have hos := ho.s
  have hi := ho.ix
  have hn := ho.n
  have hb0 : C.base 0 = 6 + C.T + 2 * C.S + 3 * C.C := by unfold Cf.base; omega
  obtain ⟨⟨f1, f2, f3, f4, f5, f6⟩, g1, g2, g3, h⟩ := h
  have hat : m.a.at' = slA m.a.w + 1 + ix := by unfold Ac.at'; rw [f3]
  have hpc : 0 ≤ m.a.pc ∧ m.a.pc ≤ 6 ∧ m.a.pc ≠ 4 := by rcases h with h | ⟨_, h | h | ⟨h, _⟩ | ⟨h, _⟩ | ⟨h, _⟩⟩ <;> omega
  have hfit : m.fit C A := by
    refine ⟨⟨⟨hpc.1, hpc.2.1⟩, by rw [f2]; exact ho.nb, g1, g2, g3, fun e => ?_, fun e => ?_, ho.n2⟩, fun e => absurd e hpc.2.2⟩
    · have := ho.bd (by omega); omega
    · have := ho.bd (by omega); rw [hat]; omega
  refine ⟨hfit, ?_⟩
  have hs1 := ok.s1 (by omega)
  have ls : ∀ x, ((A.by who).load x).s = A.s + 1 := fun x => (aft_load (who := who) (A := A) (a := x) ok (by omega)).s
  have e0 : m.step C who A = ((m.a.step C who A).1, ⟨(m.a.step C who A).2.1, if m.a.pc = 2 then Hl.new m.a.hs m.a.w m.a.size else m.h⟩, (m.a.step C who A).2.2) := by
    unfold Ak.step; rw [if_neg hpc.2.2]
  rw [e0]
  rcases h with hp | ⟨⟨q1, q2, q3, q4⟩, h⟩
  · by_cases hl : lives (A.w (C.slot (hdSl n))) (hdGe n)
    · have e : m.a.step C who A = (false, { m.a with hs := hdSl m.a.n, hg := hdGe m.a.n, w := A.w (C.slot (hdSl m.a.n)), seen := ((A.by who).load (C.slot (hdSl m.a.n))).s, pc := 1 }, (A.by who).load (C.slot (hdSl m.a.n))) := by
        unfold Ac.step; rw [if_pos hp, if_neg (by rw [f2]; rintro (q | q); rw [ho.ok] at q; cases q; omega), if_pos (by rw [f2]; exact hl)]
      rw [e, f2]
      exact .see hp hl ⟨⟨f1, by first | rfl | exact f2, f3, f4, f5, f6⟩, ⟨hsl.1.1, hos⟩, ok.w (C.slot (hdSl n)), g3, .inr ⟨⟨rfl, rfl, hl, ho.dr hl⟩, .inl rfl⟩⟩ rfl rfl (ls (C.slot (hdSl n)))
    · have e : m.a.step C who A = (true, ({ m.a with hs := hdSl m.a.n, hg := hdGe m.a.n, w := A.w (C.slot (hdSl m.a.n)), seen := ((A.by who).load (C.slot (hdSl m.a.n))).s, pc := 1 } : Ac).fin 3 0 ((A.by who).load (C.slot (hdSl m.a.n))).s, (A.by who).load (C.slot (hdSl m.a.n))) := by
        unfold Ac.step; rw [if_pos hp, if_neg (by rw [f2]; rintro (q | q); rw [ho.ok] at q; cases q; omega), if_neg (by rw [f2]; exact hl)]
      rw [e, f2]
      exact .gone (.inl hp) hl ⟨rfl, rfl, rfl, ls (C.slot (hdSl n))⟩
  rcases h with hp | h
  · obtain ⟨h1, h2⟩ := ho.hd hp
    have own' : ¬ hdO (A.w (slA m.a.w)) ≠ m.a.own := by rw [f6, h1]; simp
    have c : ¬ (m.a.ix < 0 ∨ hdS (A.w (slA m.a.w)) ≤ m.a.ix) := by rw [h2, f3]; omega
    have e : m.a.step C who A = (false, { m.a with size := hdS (A.w (slA m.a.w)), pc := 2 }, (A.by who).load (slA m.a.w)) := by
      unfold Ac.step; rw [if_neg (by omega), if_pos hp, if_neg own', if_neg c]
    rw [e]
    exact .head hp ⟨⟨f1, f2, f3, f4, f5, f6⟩, g1, g2, g3, .inr ⟨⟨q1, q2, q3, q4⟩, .inr (.inl rfl)⟩⟩ rfl rfl
  rcases h with hp | h
  · have e : m.a.step C who A = (false, { m.a with cell := A.w m.a.at', rd := ((A.by who).load m.a.at').s, pc := ({ m.a with cell := A.w m.a.at' } : Ac).nxt }, (A.by who).load m.a.at') := by
      unfold Ac.step; rw [if_neg (by omega), if_neg (by omega), if_pos hp]
    have nx : ∀ c, ({ m.a with cell := c } : Ac).nxt = if Lk kd old c then 6 else if ceF c = false ∨ ceN c < slV m.a.w then 5 else if ceN c = slV m.a.w ∧ slS m.a.w = 2 then 3 else 0 := by
      intro c
      unfold Ac.nxt Lk
      dsimp only
      rw [if_neg q4, f1, f5]
    rw [e, nx, hat]
    generalize hcc : A.w (slA m.a.w + 1 + ix) = c
    have hcb : 0 ≤ c ∧ c < 18446744073709551616 := by rw [← hcc]; exact ok.w _
    by_cases c1 : Lk kd old c
    · rw [if_pos c1]
      exact .load hp ⟨⟨f1, f2, f3, f4, f5, f6⟩, g1, g2, hcb, .inr ⟨⟨q1, q2, q3, q4⟩, .inr (.inr (.inr (.inr ⟨rfl, c1⟩)))⟩⟩ rfl hcc.symm (ls (slA m.a.w + 1 + ix)) (.inl ⟨rfl, c1⟩)
    rw [if_neg c1]
    by_cases c2 : ceF c = false ∨ ceN c < slV m.a.w
    · rw [if_pos c2]
      exact .load hp ⟨⟨f1, f2, f3, f4, f5, f6⟩, g1, g2, hcb, .inr ⟨⟨q1, q2, q3, q4⟩, .inr (.inr (.inr (.inl ⟨rfl, c1, c2⟩)))⟩⟩ rfl hcc.symm (ls (slA m.a.w + 1 + ix)) (.inr ⟨c1, .inl ⟨rfl, c2⟩⟩)
    rw [if_neg c2]
    by_cases c3 : ceN c = slV m.a.w ∧ slS m.a.w = 2
    · rw [if_pos c3]
      exact .load hp ⟨⟨f1, f2, f3, f4, f5, f6⟩, g1, g2, hcb, .inr ⟨⟨q1, q2, q3, q4⟩, .inr (.inr (.inl ⟨rfl, c1, c3.2, by cases x : ceF c; exact absurd (.inl x) c2; rfl, c3.1⟩))⟩⟩ rfl hcc.symm (ls (slA m.a.w + 1 + ix)) (.inr ⟨c1, .inr ⟨c2, .inl ⟨rfl, c3⟩⟩⟩)
    · rw [if_neg c3]
      exact .load hp ⟨⟨f1, f2, f3, f4, f5, f6⟩, g1, g2, hcb, .inl rfl⟩ rfl hcc.symm (ls (slA m.a.w + 1 + ix)) (.inr ⟨c1, .inr ⟨c2, .inr ⟨rfl, c3⟩⟩⟩)
  rcases h with ⟨hp, hk, h2, hF, hN⟩ | h
  · have e : m.a.step C who A = (false, { m.a with pc := 0 }, (A.by who).cas (C.slot m.a.hs) m.a.w (putSlot 1 (slA m.a.w) (slG m.a.w) (slV m.a.w + 1))) := by
      unfold Ac.step; rw [if_neg (by omega), if_neg (by omega), if_neg (by omega), if_pos hp]
    rw [e, q1]
    exact .stop hp h2 ⟨⟨f1, f2, f3, f4, f5, f6⟩, g1, g2, g3, .inl rfl⟩ rfl
  rcases h with ⟨hp, hk, h2⟩ | ⟨hp, hk⟩
  · by_cases c : A.w (slA m.a.w + 1 + ix) = m.a.cell
    · have e : m.a.step C who A = (true, ({ m.a with pc := 0 } : Ac).fin 0 (ceV m.a.cell) ((A.by who).cas m.a.at' m.a.cell (putCell m.a.v false 0)).s, (A.by who).cas m.a.at' m.a.cell (putCell m.a.v false 0)) := by
        unfold Ac.step; rw [if_neg (by omega), if_neg (by omega), if_neg (by omega), if_neg (by omega), if_pos hp, if_pos (by rw [hat]; exact c)]
      rw [e, hat, cas_yes (show (A.by who).w (slA m.a.w + 1 + ix) = m.a.cell from c), f4]
      exact .lay hp hk h2 c ⟨rfl, rfl, rfl, (aft_store (who := who) (A := A) (a := slA m.a.w + 1 + ix) (v := putCell v false 0) ok (by omega)).s⟩
    · have e : m.a.step C who A = (false, { m.a with pc := 0 }, (A.by who).cas m.a.at' m.a.cell (putCell m.a.v false 0)) := by
        unfold Ac.step; rw [if_neg (by omega), if_neg (by omega), if_neg (by omega), if_neg (by omega), if_pos hp, if_neg (by rw [hat]; exact c)]
      rw [e, hat, cas_no (show (A.by who).w (slA m.a.w + 1 + ix) ≠ m.a.cell from c)]
      exact .again hp c ⟨⟨f1, f2, f3, f4, f5, f6⟩, g1, g2, g3, .inl rfl⟩ rfl
  · by_cases hl : lives (A.w (C.slot (hdSl n))) (hdGe n)
    · have l1 : lives (A.w (C.slot m.a.hs)) m.a.hg := by rw [q1, q2]; exact hl
      by_cases l2 : slA (A.w (C.slot (hdSl n))) = slA m.a.w
      · have e : m.a.step C who A = (true, m.a.fin (if m.a.kd = 3 then 8 else 0) (ceV m.a.cell) m.a.rd, (A.by who).load (C.slot m.a.hs)) := by
          unfold Ac.step; rw [if_neg (by omega), if_neg (by omega), if_neg (by omega), if_neg (by omega), if_neg (by omega), if_pos l1, if_pos (by rw [q1]; exact l2)]
        rw [e, q1, f1]
        exact .look hp hk hl l2 ⟨rfl, rfl, rfl, rfl⟩
      · have e : m.a.step C who A = (false, { m.a with pc := 0 }, (A.by who).load (C.slot m.a.hs)) := by
          unfold Ac.step; rw [if_neg (by omega), if_neg (by omega), if_neg (by omega), if_neg (by omega), if_neg (by omega), if_pos l1, if_neg (by rw [q1]; exact l2)]
        rw [e, q1]
        exact .else' hp hl l2 ⟨⟨f1, f2, f3, f4, f5, f6⟩, g1, g2, g3, .inl rfl⟩ rfl
    · have l1 : ¬ lives (A.w (C.slot m.a.hs)) m.a.hg := by rw [q1, q2]; exact hl
      have e : m.a.step C who A = (true, m.a.fin 3 0 ((A.by who).load (C.slot m.a.hs)).s, (A.by who).load (C.slot m.a.hs)) := by
        unfold Ac.step; rw [if_neg (by omega), if_neg (by omega), if_neg (by omega), if_neg (by omega), if_neg (by omega), if_neg l1]
      rw [e, q1]
      exact .gone (.inr hp) hl ⟨rfl, rfl, rfl, ls (C.slot (hdSl n))⟩
end Go.Fl
namespace Go.Fl
open Go
set_option linter.unusedVariables false
set_option linter.unusedSimpArgs false
variable {N : Nm} {A B : Ar} {σ : Mem} {K : Value → Mem → Prop} {C : Cf} {who : Int}
theorem AOb.min {p : Nat} {O : List Nat} {m : Ak} (h : AOb N p O m σ) : ∃ O', AOb N p O' m σ ∧ (∀ i ∈ O', i ∈ O) ∧ ∀ i ∈ O', σ.get i ≠ none := by
  obtain ⟨⟨a, g1, g2⟩, own, pO⟩ := h
  by_cases c4 : m.a.pc = 4
  · obtain ⟨q, rfl, qO, qp, gq⟩ := g2 c4
    refine ⟨[p, q], ⟨⟨some q, g1, fun _ => ⟨q, rfl, by simp, qp, gq⟩⟩, fun i hi => ?_, by simp⟩, fun i hi => ?_, fun i hi => ?_⟩ <;>
    · simp only [List.mem_cons, List.not_mem_nil, or_false] at hi
      rcases hi with rfl | rfl <;> first | exact own _ pO | exact own _ qO | exact pO | exact qO | (rw [g1]; simp) | (rw [gq]; simp)
  · refine ⟨[p], ⟨⟨a, g1, fun e => absurd e c4⟩, fun i hi => ?_, by simp⟩, fun i hi => ?_, fun i hi => ?_⟩ <;>
    · rw [List.mem_singleton] at hi
      subst hi
      first | exact own _ pO | exact pO | (rw [g1]; simp)
structure Ev (C : Cf) (n : Int) (own : Bool) (z a W bb : Int) (A : Ar) : Prop where
  ol : Ol C A.w n own z a
  W : A.w (C.slot (hdSl n)) = W
  ok : A.ok bb
  n1 : C.len ≤ A.n
  n2 : (A.n : Int) ≤ 200000000
theorem Ev.step (hC : C.ok) {n z a W bb kd ix v old : Int} {own : Bool} {m : Ak} (h : Ev C n own z a W bb A) (hm : Lo C n own z W kd ix v old m) (hb : bb < 4611686018427387904) :
    m.fit C A ∧ LoR C who n own z a W kd ix v old A m (m.step C who A).1 (m.step C who A).2.1 (m.step C who A).2.2 ∧ Ev C n own z a W (bb + 1) (m.step C who A).2.2 ∧ (m.step C who A).2.2.s = A.s + 1 := by
  obtain ⟨h1, h2⟩ := hm.step (who := who) hC h.ol h.W h.ok hb h.n1 h.n2
  have h3 := h2.keep hC h.ol h.W h.ok hb
  exact ⟨h1, h2, ⟨h3.ol, h3.W, h3.ok, by rw [h3.n]; exact h.n1, by rw [h3.n]; exact h.n2⟩, h3.s⟩
theorem Ev.mono {n z a W bb b2 : Int} {own : Bool} (h : Ev C n own z a W bb A) (hb : bb ≤ b2) : Ev C n own z a W b2 A := ⟨h.ol, h.W, ok_mono h.ok hb, h.n1, h.n2⟩
theorem Fst.ev (hC : C.ok) {own : Bool} {z a : Int} (h : Fst C own z A a) : Ev C 65536 own z a (putSlot 1 a 1 0) 1000000 A := by
  have hl := len_bd hC
  have := h.n
  exact ⟨h.ol, by rw [h.sl.1]; exact h.W, h.pa.ok, h.pa.n, by omega⟩
end Go.Fl
namespace Go.Fl
open Go
set_option linter.unusedVariables false
set_option linter.unusedSimpArgs false
variable {N : Nm} {A B : Ar} {σ : Mem} {K : Value → Mem → Prop} {C : Cf} {who : Int}
def Fzd (v x : Int) : Prop := ceF x = true ∧ ceN x = v
theorem Fzd.put {v n : Int} (hn : 0 ≤ n ∧ n ≤ 4194303) : Fzd n (putCell (ceV v) true n) := by
  obtain ⟨_, h2, h3⟩ := ce_put (v := ceV v) (f := true) (n := n) (ceV_bd v) hn
  exact ⟨h2, h3⟩
structure FzI (C : Cf) (d : Do) (m : Dm) (w : Int → Int) : Prop where
  a : m.d.pc = 3 → ∀ x, 0 ≤ x → x < m.h.i → Fzd (slV (d.v C)) (w (d.a C + 1 + x))
  b : m.d.pc = 5 ∨ m.d.pc = 6 → ∀ x, 0 ≤ x → x < d.z → Fzd (slV (d.v C)) (w (d.a C + 1 + x))
theorem DrI.frozen (hC : C.ok) {b : Bg} {d : Do} {w0 : Int → Int} {s0 k bb : Int} {m : Dm} (h : DrI C b d w0 s0 k m A) (hz : FzI C d m A.w) (hd : d.ok C b w0) (hA : b.aw C w0) (ok : A.ok bb) (hb : bb < 4611686018427387904) :
    FzI C d (m.step C who A).2.1 (m.step C who A).2.2.w ∧ ((m.step C who A).1 = true → (m.step C who A).2.1.d.pc = 6 ∨ m.d.pc < 3) := by
  have hT := hC.T
  have hS := hC.S
  have hCC := hC.C
  have hs := hd.s
  have hj := hd.j
  obtain ⟨av1, av2⟩ := d.av hC hd ⟨_, hA⟩
  obtain ⟨v1, v2, v3⟩ := d.vp hC hd ⟨_, hA⟩
  have hb0 : C.base 0 = 6 + C.T + 2 * C.S + 3 * C.C := by unfold Cf.base; omega
  have esl : C.slot d.s = 6 + C.T + 2 * d.s := rfl
  have ech : C.chunk d.j = 6 + C.T + 2 * C.S + 3 * d.j := rfl
  have hofc : ofC C (d.a C) = d.j := (base_of hC hd.j.1 hd.j.2 hd.i.1 (by omega)).1
  obtain ⟨e1, e2, ⟨h, hk, ew, h1, h2⟩ | ⟨h1, hge, h2, ⟨h, hk, ew⟩ | ⟨hz', ⟨h, hk, ew⟩ | ⟨fr, ⟨h, haw, hsl, ⟨h3a, h3b, h3c⟩, h4, h5, h6⟩ | ⟨hsl, oE, oS, ⟨h, haw, hk⟩ | ⟨h, hng, kk, hg, hk0, hk⟩⟩⟩⟩⟩⟩ := h
  · have : (m.step C who A).2.1.d.pc = 0 ∨ (m.step C who A).2.1.d.pc = 1 := by
      unfold Dm.step; rw [if_pos h]
      repeat' split
      · exact .inl h
      · exact .inr rfl
      · exact .inl h
    exact ⟨⟨fun x => by omega, fun x => by omega⟩, fun _ => .inr (by omega)⟩
  · have : (m.step C who A).2.1.d.pc = 1 ∨ (m.step C who A).2.1.d.pc = 2 ∨ (m.step C who A).2.1.d.pc = 4 := by
      unfold Dm.step; rw [if_neg (by omega), if_pos h]
      repeat' split
      · exact .inl h
      · exact .inr (.inr rfl)
      · exact .inr (.inl rfl)
    exact ⟨⟨fun x => by omega, fun x => by omega⟩, fun _ => .inr (by omega)⟩
  · have : (m.step C who A).2.1.d.pc = 3 ∧ (m.step C who A).2.1.h.i = 0 ∨ (m.step C who A).2.1.d.pc = 0 := by
      unfold Dm.step; rw [if_neg (by omega), if_neg (by omega), if_pos h]
      split
      · exact .inl ⟨rfl, rfl⟩
      · exact .inr rfl
    exact ⟨⟨fun x y y0 y1 => by omega, fun x => by omega⟩, fun _ => .inr (by omega)⟩
  · have hha : m.h.a = d.a C + 1 + m.h.i := by unfold Hl.a; rw [h3b, v2]
    have e : m.step C who A = (if (m.h.step C who A).1 = true then (false, { m with d := { m.d with oE := 0, oH := 0, oV := 0, oS := (m.h.step C who A).2.2.t (C.slot m.d.hs), pc := 5 } }, (m.h.step C who A).2.2) else (false, { m with h := (m.h.step C who A).2.1 }, (m.h.step C who A).2.2)) := by
      unfold Dm.step; rw [if_neg (by omega), if_neg (by omega), if_neg (by omega), if_pos h]
    rw [e]
    have hza := hz.a h
    by_cases ci : m.h.size ≤ m.h.i
    · have eh : m.h.step C who A = (true, { m.h with won := decide (A.w (C.slot m.h.slot) = m.h.w) }, (A.by who).cas (C.slot m.h.slot) m.h.w (m.h.next C)) := by unfold Hl.step; rw [if_pos ci]
      have a1 := aft_cas (who := who) (A := A) (a := C.slot m.h.slot) (o := m.h.w) (v := m.h.next C) ok (by omega)
      rw [eh, if_pos rfl]
      refine ⟨⟨fun x => (by cases x), fun _ x x0 x1 => ?_⟩, fun x => by cases x⟩
      dsimp only
      rw [a1.w]
      have := hza x x0 (by omega)
      split
      · rw [upd_ne _ _ (by rw [h3a]; omega)]; exact this
      · exact this
    · have hsv := slV_bd (d.v C)
      by_cases hr : m.h.read = false
      · by_cases q : ceF (A.w m.h.a) = true ∧ ceN (A.w m.h.a) = slV m.h.w
        · have eh : m.h.step C who A = (false, { m.h with cell := A.w m.h.a, read := false, i := m.h.i + 1 }, (A.by who).load m.h.a) := by unfold Hl.step; rw [if_neg ci, if_pos hr, if_pos q]
          rw [eh, if_neg (show ¬ (false = true) from Bool.false_ne_true)]
          refine ⟨⟨fun _ x x0 x1 => ?_, fun x => by have : m.d.pc = 5 ∨ m.d.pc = 6 := x; omega⟩, fun x => by cases x⟩
          have x1' : x < m.h.i + 1 := x1
          show Fzd (slV (d.v C)) (A.w (d.a C + 1 + x))
          by_cases ex : x = m.h.i
          · rw [ex, ← hha, ← h3b]; exact q
          · exact hza x x0 (by omega)
        · have eh : m.h.step C who A = (false, { m.h with cell := A.w m.h.a, read := true }, (A.by who).load m.h.a) := by unfold Hl.step; rw [if_neg ci, if_pos hr, if_neg q]
          rw [eh, if_neg (show ¬ (false = true) from Bool.false_ne_true)]
          exact ⟨⟨fun _ x x0 x1 => hza x x0 x1, fun x => by have : m.d.pc = 5 ∨ m.d.pc = 6 := x; omega⟩, fun x => by cases x⟩
      · have hc : A.w m.h.a = m.h.cell := by
          rcases h6 with ⟨q, _⟩ | ⟨_, _, q, _⟩
          · exact absurd q hr
          · exact q
        have eh : m.h.step C who A = (false, { m.h with read := false, i := m.h.i + 1 }, (A.by who).cas m.h.a m.h.cell (putCell (ceV m.h.cell) true (slV m.h.w))) := by unfold Hl.step; rw [if_neg ci, if_neg hr, if_pos hc]
        have a1 := aft_cas (who := who) (A := A) (a := m.h.a) (o := m.h.cell) (v := putCell (ceV m.h.cell) true (slV m.h.w)) ok (by omega)
        rw [if_pos hc] at a1
        rw [eh, if_neg (show ¬ (false = true) from Bool.false_ne_true)]
        refine ⟨⟨fun _ x x0 x1 => ?_, fun x => by have : m.d.pc = 5 ∨ m.d.pc = 6 := x; omega⟩, fun x => by cases x⟩
        have x1' : x < m.h.i + 1 := x1
        show Fzd (slV (d.v C)) (((A.by who).cas m.h.a m.h.cell (putCell (ceV m.h.cell) true (slV m.h.w))).w (d.a C + 1 + x))
        rw [a1.w]
        by_cases ex : x = m.h.i
        · rw [ex, ← hha, upd_same, h3b]; exact Fzd.put hsv
        · rw [upd_ne _ _ (by omega)]; exact hza x x0 (by omega)
  · have e : m.step C who A = (decide (C.G ≤ m.d.hg), { m with d := { m.d with pc := 6 }, g := ⟨0, m.d.hs, 0⟩ }, (A.by who).add (C.chunk d.j + 1) (IntKind.u64.wrap (-roomOf (classOf m.d.size)))) := by
      unfold Dm.step; rw [if_neg (by omega), if_neg (by omega), if_neg (by omega), if_neg (by omega), if_neg (by omega), if_pos h, h2, hd.sa, hofc]
    rw [e]
    refine ⟨⟨fun x => (by cases x), fun _ x x0 x1 => ?_⟩, fun _ => .inl rfl⟩
    dsimp only
    rw [add_eq, store_w, upd_ne _ _ (by omega)]
    exact hz.b (.inl h) x x0 x1
  · obtain ⟨⟨g1, _⟩, _⟩ := hg.step (who := who) hC ok hb
    have e : m.step C who A = ((m.g.step C who A).1, { m with g := (m.g.step C who A).2.1 }, (m.g.step C who A).2.2) := by
      unfold Dm.step; rw [if_neg (by omega), if_neg (by omega), if_neg (by omega), if_neg (by omega), if_neg (by omega), if_neg (by omega)]
    rw [e]
    refine ⟨⟨fun x => by have : m.d.pc = 3 := x; omega, fun _ x x0 x1 => ?_⟩, fun _ => .inl h⟩
    dsimp only
    rw [g1 _ (by omega) (by omega)]
    exact hz.b (.inr h) x x0 x1
theorem c_DropZ (hN : N.ok) (hC : C.ok) (hA : isA N A σ) {b : Bg} {d : Do} {bb : Int} (hP : Pa C A bb) (hb : bb < 2305843009213693952) (hAw : b.aw C A.w) (hd : d.ok C b A.w) (hlv : b.lv d.j < 18446744073709551616)
    (hk : ∀ m A' τ, DnD C b d A.w A.s m A' → (∀ x, 0 ≤ x → x < d.z → Fzd (slV (d.v C)) (A'.w (d.a C + 1 + x))) → Pa C A' (bb + 60) → A'.s ≤ A.s + 60 → A'.n = A.n → isA N A' τ → Keep N.l σ τ → K (.agg #[.int .i64 0, .int .u64 m.d.oH, .int .i64 m.d.oV, .int .i64 m.d.oS]) τ) :
    s_law09_Drop [N.env C who, .int .u64 d.n, .bool d.own] K σ := by
  have av := d.av hC hd ⟨_, hAw⟩
  refine c_Drop hN hC hA (fun k m A' => DrI C b d A.w A.s k m A' ∧ FzI C d m A'.w ∧ A'.ok (bb + k) ∧ A'.n = A.n ∧ A'.s = A.s + k) (fun m A' => DnD C b d A.w A.s m A' ∧ (∀ x, 0 ≤ x → x < d.z → Fzd (slV (d.v C)) (A'.w (d.a C + 1 + x))) ∧ A'.ok (bb + 60) ∧ A'.n = A.n ∧ A'.s ≤ A.s + 60)
    ⟨⟨rfl, rfl, .inl ⟨rfl, Int.le_refl 0, rfl, rfl, rfl⟩⟩, ⟨fun x => (by cases x), fun x => (by rcases x with x | x <;> cases x)⟩, by simpa using hP.ok, rfl, by omega⟩ ?_ (fun m A' h => by have := h.1.kle av.2.2.1; omega) ?_
  · rintro k m A' k0 k1 ⟨h, hz, ok, en, es⟩
    have hkl := h.kle av.2.2.1
    have hnn := hP.n
    refine ⟨h.fit hC hd hAw ok.w hP.ok.w (by omega), ok.w, by omega, ?_⟩
    obtain ⟨td, h'⟩ := h.step (who := who) hC hd hAw ok (by omega) (by omega) hlv
    obtain ⟨z1, z2⟩ := h.frozen (who := who) hC hz hd hAw ok (by omega)
    have t1 := td.s
    have t2 := td.n
    have t3 := td.ok _ ok
    rcases h' with ⟨e, h'⟩ | ⟨e, h'⟩
    · rw [if_neg (by rw [e]; decide)]
      exact ⟨h', z1, by rw [show bb + (k + 1) = bb + k + 1 by omega]; exact t3, by omega, by omega⟩
    · rw [if_pos e]
      refine ⟨h', ?_, ok_mono t3 (by omega), by omega, by omega⟩
      rcases z2 e with q | q
      · exact z1.b (.inr q)
      · exfalso
        -- what is done ahead of the claim lets nothing go
        have hsl := h'.sl
        have hwz : (m.step C who A').2.2.w (C.slot d.s) = A'.w (C.slot d.s) ∨ (m.step C who A').1 = false := by
          by_cases p0 : m.d.pc = 0
          · unfold Dm.step; rw [if_pos p0]; repeat' split
            · exact .inl rfl
            · exact .inr rfl
            · exact .inl rfl
          · by_cases p1 : m.d.pc = 1
            · unfold Dm.step; rw [if_neg p0, if_pos p1]; repeat' split
              · exact .inl rfl
              · exact .inr rfl
              · exact .inr rfl
            · have p2 : m.d.pc = 2 := by have := (h.fit hC hd hAw ok.w hP.ok.w (by omega)).pc; omega
              unfold Dm.step; rw [if_neg p0, if_neg p1, if_pos p2]; split
              · exact .inr rfl
              · exact .inr rfl
        have ha0 : A'.w (C.slot d.s) = d.ws := by
          obtain ⟨_, _, ⟨_, _, ew, _⟩ | ⟨_, _, _, ⟨_, _, ew⟩ | ⟨_, ⟨_, _, ew⟩ | ⟨_, ⟨p, _⟩ | ⟨_, _, _, ⟨p, _⟩ | ⟨p, _⟩⟩⟩⟩⟩⟩ := h
          · rw [ew]; exact hd.ws
          · rw [ew]; exact hd.ws
          · rw [ew]; exact hd.ws
          · omega
          · omega
          · omega
        rcases hwz with q2 | q2
        · rw [q2, ha0] at hsl
          have := d.nxp hd.ge hC.G.2
          rw [← hsl] at this
          have := hd.st
          omega
        · rw [q2] at e; cases e
  · rintro m A' τ ⟨hD, hz, ok, en, es⟩ hA' hK
    rw [hD.e]
    have := hP.n
    refine hk m A' τ hD hz (Bg.aw.pa hC hD.aw ok (by omega)) es en hA' hK
end Go.Fl
namespace Go.Fl
open Go
set_option linter.unusedVariables false
set_option linter.unusedSimpArgs false
variable {N : Nm} {A B : Ar} {σ : Mem} {K : Value → Mem → Prop} {C : Cf} {who : Int}
def Bg.one (C : Cf) (z : Int) : Bg := ⟨(upL 0 C.S.toNat).tail, upd (fun _ => -1) (classOf z) 0, upd (fun _ => 0) 0 (roomOf (classOf z)), upd (fun _ => 0) 0 (roomOf (classOf z)), 1⟩
def Do.one (C : Cf) (z : Int) (own : Bool) : Do := ⟨65536, putSlot 1 (C.base 0) 1 0, z, own, 0, 0⟩
theorem Do.one_a {z : Int} {own : Bool} : (Do.one C z own).a C = C.base 0 := by show C.base 0 + 0 = _; omega
theorem Do.one_s {z : Int} {own : Bool} : (Do.one C z own).s = 0 := (by decide : hdSl 65536 = 0)
theorem Do.one_ge {z : Int} {own : Bool} : (Do.one C z own).ge = 1 := (by decide : hdGe 65536 = 1)
theorem Fst.ok' (hC : C.ok) {own : Bool} {z : Int} (hz : 0 ≤ classOf z) (h : Fst C own z A (C.base 0)) : (Do.one C z own).ok C (Bg.one C z) A.w := by
  have hS := hC.S
  have hCC := hC.C
  have hl := len_bd hC
  obtain ⟨sz, szr⟩ := class_room' hz
  have hbd := h.ol.bd
  obtain ⟨p1, p2, p3, p4⟩ := sl_put (st := 1) (ad := C.base 0) (ge := 1) (ve := 0) (by decide) (by have := hC.T; unfold Cf.base at *; omega) (by decide) (by decide)
  have nd : (0 : Int) ∉ (upL 0 C.S.toNat).tail := by
    have := (fr_aw hC).fre.nd
    have e : (Bg.fr C).F = 0 :: (upL 0 C.S.toNat).tail := upL_head hS.1
    have h2 : ((Bg.fr C).F).Nodup := this
    rw [e] at h2
    exact (List.nodup_cons.1 h2).1
  have hr : (Bg.one C z).u 0 = roomOf (classOf z) ∧ (Bg.one C z).lv 0 = roomOf (classOf z) := ⟨upd_same (fun _ => 0) 0 _, upd_same (fun _ => 0) 0 _⟩
  exact ⟨(by decide : (0 : Int) ≤ 65536 ∧ (65536 : Int) < 18446744073709551616), (by decide : hdOk 65536 = true), by rw [Do.one_s]; omega, by rw [Do.one_s]; exact nd, by rw [Do.one_ge]; decide, by rw [Do.one_s]; exact h.W, .inl p1, by rw [Do.one_a]; exact p2, by rw [Do.one_ge]; exact p3,
    by rw [Do.one_a]; exact ⟨h.ol.hd.2, h.ol.hd.1⟩, hz, ⟨Int.le_refl 0, by show (0 : Int) < C.C; omega⟩, ⟨Int.le_refl 0, by show 0 + roomOf (classOf z) ≤ (Bg.one C z).u 0; rw [hr.1]; omega⟩, szr, by show roomOf (classOf z) ≤ (Bg.one C z).lv 0; rw [hr.2]; omega⟩
theorem Fst.aw' {own : Bool} {z a : Int} (h : Fst C own z A a) : (Bg.one C z).aw C A.w := h.aw
end Go.Fl
namespace Go.Fl
open Go
set_option linter.unusedVariables false
set_option linter.unusedSimpArgs false
variable {N : Nm} {A B : Ar} {σ : Mem} {K : Value → Mem → Prop} {C : Cf} {who : Int}
def rk (pc : Int) : Int := if pc = 0 then 0 else if pc = 1 then 1 else if pc = 2 then 2 else 3
theorem rk_bd (pc : Int) : 0 ≤ rk pc ∧ rk pc ≤ 3 := by unfold rk; (repeat' split) <;> decide
def rem' (pc : Int) : Int := if pc = 0 then 1 else if pc = 1 then 3 else if pc = 2 then 2 else if pc = 5 then 2 else 1
structure Rd (C : Cf) (bb : Int) (A : Ar) : Prop where
  aw : (Bg.one C 2).aw C A.w
  d : (Do.one C 2 false).ok C (Bg.one C 2) A.w
  pa : Pa C A bb
  n2 : (A.n : Int) ≤ 200000000
structure Gn (C : Cf) (g bb : Int) (A : Ar) : Prop where
  sl : ¬ lives (A.w (C.slot 0)) 1
  hd : hdO (A.w (C.base 0)) = false ∧ hdS (A.w (C.base 0)) = 2
  c : Fzd 1 (A.w (C.base 0 + 1))
  g : g ≤ A.s
  ok : A.ok bb
  n1 : C.len ≤ A.n
  n2 : (A.n : Int) ≤ 200000000
structure AtD (C : Cf) (kd : Int) (w0 : Int → Int) (m : Ak) (A : Ar) : Prop where
  lg : Lg C 65536 false kd 0 7 0 m
  w : m.a.pc ≠ 0 → m.a.w = putSlot 1 (C.base 0) 1 0
  c : m.a.pc = 5 → m.a.cell = w0 (C.base 0 + 1)
  rd : m.a.pc = 6 → m.a.rd ≤ A.s
def PhD (C : Cf) (kd : Int) (w0 : Int → Int) (D0 D1 : Bool) (oE oS gE gS c i bb : Int) (m : Ak) (A : Ar) : Prop :=
  (D1 = false → i ≤ 61) ∧ (D0 = false → i ≤ 60 + 2 * c - i % 2 ∧ 0 ≤ c ∧ c ≤ 5) ∧
  (D0 = false ∧ D1 = false ∧ Rd C bb A ∧ A.w = w0 ∧ AtD C kd w0 m A ∧ c = rk m.a.pc ∨
   D0 = true ∧ D1 = false ∧ Rd C bb A ∧ oE = 0 ∧ oS ≤ A.s ∨
   D0 = false ∧ D1 = true ∧ gE = 0 ∧ Gn C gS bb A ∧ AtD C kd w0 m A ∧ c + rem' m.a.pc ≤ 5 ∨
   D0 = true ∧ D1 = true ∧ gE = 0 ∧ A.ok bb ∧ (oE = 0 ∧ oS < gS ∨ oE = 3 ∧ gS ≤ oS))
theorem PhD.step (hC : C.ok) {kd oE oS gE gS c i bb : Int} {w0 : Int → Int} {D1 : Bool} {m : Ak} (h : PhD C kd w0 false D1 oE oS gE gS c i bb m A) (hkd : kd = 1 ∨ kd = 2) (hw0 : w0 (C.slot 0) = putSlot 1 (C.base 0) 1 0 ∧ (hdO (w0 (C.base 0)) = false ∧ hdS (w0 (C.base 0)) = 2) ∧ w0 (C.base 0 + 1) = 0)
    (hi : 60 ≤ i → i % 2 = 0) (hb : bb < 2000000000) (i0 : 0 ≤ i) :
    m.fit C A ∧ A.ok bb ∧ C.len ≤ A.n ∧ (((m.step C who A).1 = false ∧ PhD C kd w0 false D1 oE oS gE gS (c + 1) (i + 1) (bb + 1) (m.step C who A).2.1 (m.step C who A).2.2) ∨
      ((m.step C who A).1 = true ∧ PhD C kd w0 true D1 (m.step C who A).2.1.a.oE (m.step C who A).2.1.a.oS gE gS c (i + 1) (bb + 1) (m.step C who A).2.1 (m.step C who A).2.2)) := by
  have hT := hC.T
  have hS := hC.S
  have hCC := hC.C
  have hll := len_bd hC
  have hb0 : C.base 0 = 6 + C.T + 2 * C.S + 3 * C.C := by unfold Cf.base; omega
  have esl : C.slot 0 = 6 + C.T := by unfold Cf.slot; omega
  obtain ⟨hD1, hD0, h⟩ := h
  obtain ⟨hi1, hc0, hc5⟩ := hD0 rfl
  have h65 : hdSl 65536 = 0 ∧ hdGe 65536 = 1 ∧ hdOk 65536 = true := by decide
  have hW := hC.W
  have habd : C.base 0 + 2 < C.len := by
    have := base_of hC (j := 0) (i := 2) (by omega) (by omega) (by omega) (by omega); omega
  obtain ⟨p1, p2, p3, p4⟩ := sl_put (st := 1) (ad := C.base 0) (ge := 1) (ve := 0) (by decide) (by omega) (by decide) (by decide)
  have lkd : ∀ c, Lk kd 0 c ↔ kd = 1 := fun c => by unfold Lk; constructor <;> intro q <;> omega
  have r0 : rk 0 = 0 := rfl
  have r1 : rk 1 = 1 := rfl
  have r2 : rk 2 = 2 := rfl
  have r5 : rk 5 = 3 := rfl
  have r6 : rk 6 = 3 := rfl
  have m0 : rem' 0 = 1 := rfl
  have m1 : rem' 1 = 3 := rfl
  have m2 : rem' 2 = 2 := rfl
  have m5 : rem' 5 = 2 := rfl
  have m6 : rem' 6 = 1 := rfl
  have hz : C.base 0 + 1 + 0 = C.base 0 + 1 := by omega
  have ar : ∀ c', c' = c + 1 → c' ≤ 5 → (false = false → i + 1 ≤ 60 + 2 * c' - (i + 1) % 2 ∧ 0 ≤ c' ∧ c' ≤ 5) := fun c' e q _ => by omega
  have d1 : D1 = false → i + 1 ≤ 61 := fun e => by have := hD1 e; omega
  rcases h with ⟨_, rfl, hR, ew, hAt, hc⟩ | ⟨q, _⟩ | ⟨_, rfl, gE0, hG, hAt, hc⟩ | ⟨q, _⟩
  · have hlv : lives (A.w (C.slot 0)) 1 := by rw [ew, hw0.1]; exact ⟨.inl p1, p3⟩
    have hE : LgE C 65536 false 2 0 A m := ⟨by decide, h65.2.2, by rw [h65.1]; omega, fun _ => by rw [h65.1, ew, hw0.1]; omega, by decide, fun x => by rw [hAt.w (by omega), p2, ew]; exact hw0.2.1, fun x => by rw [hAt.w x, p2]; omega, hR.pa.n, hR.n2⟩
    obtain ⟨f1, hRR⟩ := hAt.lg.step (who := who) hC hE hR.pa.ok (by omega)
    refine ⟨f1, hR.pa.ok, hR.pa.n, ?_⟩
    generalize m.step C who A = r at *
    obtain ⟨d, m', A'⟩ := r
    dsimp only at *
    have ld : ∀ x, Rd C (bb + 1) ((A.by who).load x) ∧ ((A.by who).load x).s = A.s + 1 := fun x => by
      have a1 := aft_load (who := who) (A := A) (a := x) hR.pa.ok (by omega)
      exact ⟨⟨hR.aw, hR.d, ⟨a1.ok (by decide) hR.pa.ok hR.pa.ok.w, hR.pa.n, hR.pa.op⟩, hR.n2⟩, a1.s⟩
    have on : ∀ x, Lg C 65536 false kd 0 7 0 m' → (m'.a.pc ≠ 0 → m'.a.w = putSlot 1 (C.base 0) 1 0) → (m'.a.pc = 5 → m'.a.cell = w0 (C.base 0 + 1)) → (m'.a.pc = 6 → m'.a.rd ≤ A.s + 1) → c + 1 = rk m'.a.pc → PhD C kd w0 false false oE oS gE gS (c + 1) (i + 1) (bb + 1) m' ((A.by who).load x) := by
      intro x q1 q2 q3 q4 q5
      have := rk_bd m'.a.pc
      exact ⟨d1, ar _ rfl (by omega), .inl ⟨rfl, rfl, (ld x).1, ew, ⟨q1, q2, q3, fun y => by rw [(ld x).2]; exact q4 y⟩, q5⟩⟩
    have dn : ∀ E S A', E = 0 → S ≤ A'.s → Rd C (bb + 1) A' → PhD C kd w0 true false E S gE gS c (i + 1) (bb + 1) m' A' := fun E S A' q1 q2 q3 =>
      ⟨d1, fun q => (by cases q), .inr (.inl ⟨rfl, rfl, q3, q1, q2⟩)⟩
    cases hRR with
    | see p l q e w s => exact .inl ⟨rfl, on _ q (fun _ => by rw [w, h65.1, ew]; exact hw0.1) (fun x => by omega) (fun x => by omega) (by rw [e, r1]; rw [p, r0] at hc; omega)⟩
    | gone p l => rw [h65.1, h65.2.1] at l; exact absurd hlv l
    | head p q e w => exact .inl ⟨rfl, on _ q (fun _ => by rw [w]; exact hAt.w (by omega)) (fun x => by omega) (fun x => by omega) (by rw [e, r2]; rw [p, r1] at hc; omega)⟩
    | load p q w e s e2 =>
      have ec : m'.a.cell = w0 (C.base 0 + 1) := by rw [e, hAt.w (by omega), p2, hz, ew]
      have c1 : m'.a.pc = 5 ∨ m'.a.pc = 6 := by
        rcases e2 with ⟨e2, _⟩ | ⟨_, ⟨e2, _⟩ | ⟨x, _⟩⟩
        · exact .inr e2
        · exact .inl e2
        · exfalso; apply x; left; rw [ec, hw0.2.2]; decide
      exact .inl ⟨rfl, on _ q (fun _ => by rw [w]; exact hAt.w (by omega)) (fun x => ec) (fun x => by omega) (by rw [p, r2] at hc; rcases c1 with x | x <;> rw [x] <;> (first | rw [r5] | rw [r6]) <;> omega)⟩
    | stop p s2 => rw [hAt.w (by omega), p1] at s2; omega
    | lay p lk cc e o =>
      have a1 := aft_store (who := who) (A := A) (a := slA m.a.w + 1 + 0) (v := putCell 7 false 0) hR.pa.ok (by omega)
      have ew2 : ((A.by who).store (slA m.a.w + 1 + 0) (putCell 7 false 0)).w = upd A.w (C.base 0 + 1) (putCell 7 false 0) := by rw [a1.w, hAt.w (by omega), p2, hz]
      refine .inr ⟨rfl, dn _ _ _ o.1 (by rw [o.2.2.2, a1.s]; exact Int.le_refl _) ?_⟩
      have u1 : (Bg.one C 2).u 0 = 3 := (by decide : upd (fun _ => 0) 0 (roomOf (classOf 2)) 0 = 3)
      have aw2 : (Bg.one C 2).aw C ((A.by who).store (slA m.a.w + 1 + 0) (putCell 7 false 0)).w := by
        unfold Bg.aw; rw [ew2]; exact Aw.word hC hR.aw (k := 0) (l := 1) (by omega) (by omega) (by omega) (by rw [u1]; decide) (by omega)
      refine ⟨aw2, ?_, Bg.aw.pa hC aw2 (a1.ok (by decide) hR.pa.ok fun j => upd_cases (P := fun x => 0 ≤ x ∧ x < 18446744073709551616) (putCell_in _ _ _) (hR.pa.ok.w j)) (by rw [a1.n]; exact hR.pa.n), by rw [a1.n]; exact hR.n2⟩
      exact hR.d.keep hR.d.sF (by rw [ew2, Do.one_s, upd_ne _ _ (by omega)]) (by rw [ew2, Do.one_a, upd_ne _ _ (by omega)]) (Int.le_refl _) hR.d.lv
    | again p e => rw [hAt.w (by omega), p2, hz, hAt.c p, ew] at e; exact absurd rfl e
    | look p lk l e o =>
      have k1 := (lkd _).1 lk
      refine .inr ⟨rfl, dn _ _ _ (by rw [o.1, if_neg (by omega)]) ?_ (ld _).1⟩
      rw [o.2.2.2, (ld _).2]; have := hAt.rd p; omega
    | else' p l e => rw [h65.1, ew, hw0.1, hAt.w (by omega)] at e; exact absurd rfl e
  · cases q
  · have hE : LgE C 65536 false 2 0 A m := ⟨by decide, h65.2.2, by rw [h65.1]; omega, fun x => by rw [h65.1, h65.2.1] at x; exact absurd x hG.sl, by decide, fun x => by rw [hAt.w (by omega), p2]; exact hG.hd, fun x => by rw [hAt.w x, p2]; omega, hG.n1, hG.n2⟩
    obtain ⟨f1, hRR⟩ := hAt.lg.step (who := who) hC hE hG.ok (by omega)
    refine ⟨f1, hG.ok, hG.n1, ?_⟩
    generalize m.step C who A = r at *
    obtain ⟨d, m', A'⟩ := r
    dsimp only at *
    have ld : ∀ x, Gn C gS (bb + 1) ((A.by who).load x) ∧ ((A.by who).load x).s = A.s + 1 := fun x => by
      have a1 := aft_load (who := who) (A := A) (a := x) hG.ok (by omega)
      exact ⟨⟨hG.sl, hG.hd, hG.c, by have := hG.g; have := a1.s; omega, a1.ok (by decide) hG.ok hG.ok.w, hG.n1, hG.n2⟩, a1.s⟩
    have on : ∀ x, Lg C 65536 false kd 0 7 0 m' → (m'.a.pc ≠ 0 → m'.a.w = putSlot 1 (C.base 0) 1 0) → (m'.a.pc = 5 → m'.a.cell = w0 (C.base 0 + 1)) → (m'.a.pc = 6 → m'.a.rd ≤ A.s + 1) → c + 1 + rem' m'.a.pc ≤ 5 → PhD C kd w0 false true oE oS gE gS (c + 1) (i + 1) (bb + 1) m' ((A.by who).load x) := by
      intro x q1 q2 q3 q4 q5
      have : 1 ≤ rem' m'.a.pc := by unfold rem'; (repeat' split) <;> decide
      exact ⟨fun q => (by cases q), ar _ rfl (by omega), .inr (.inr (.inl ⟨rfl, rfl, gE0, (ld x).1, ⟨q1, q2, q3, fun y => by rw [(ld x).2]; exact q4 y⟩, q5⟩))⟩
    cases hRR with
    | see p l => rw [h65.1, h65.2.1] at l; exact absurd l hG.sl
    | gone p l o => exact .inr ⟨rfl, fun q => (by cases q), fun q => (by cases q), .inr (.inr (.inr ⟨rfl, rfl, gE0, (ld _).1.ok, .inr ⟨o.1, by rw [o.2.2.2]; have := hG.g; omega⟩⟩))⟩
    | head p q e w => exact .inl ⟨rfl, on _ q (fun _ => by rw [w]; exact hAt.w (by omega)) (fun x => by omega) (fun x => by omega) (by rw [e, m2]; rw [p, m1] at hc; omega)⟩
    | load p q w e s e2 =>
      have ec : Fzd 1 m'.a.cell := by rw [e, hAt.w (by omega), p2, hz]; exact hG.c
      have c1 : m'.a.pc = 6 ∨ m'.a.pc = 0 := by
        rw [hAt.w (by omega), p4, p1, ec.1, ec.2] at e2
        rcases e2 with ⟨e2, _⟩ | ⟨_, ⟨_, e2⟩ | ⟨_, ⟨_, e2, _⟩ | ⟨e2, _⟩⟩⟩
        · exact .inl e2
        · rcases e2 with e2 | e2
          · cases e2
          · omega
        · omega
        · exact .inr e2
      exact .inl ⟨rfl, on _ q (fun _ => by rw [w]; exact hAt.w (by omega)) (fun x => by omega) (fun x => by omega) (by rw [p, m2] at hc; rcases c1 with x | x <;> rw [x] <;> (first | rw [m6] | rw [m0]) <;> omega)⟩
    | stop p s2 => rw [hAt.w (by omega), p1] at s2; omega
    | lay p lk cc e o =>
      exfalso
      rw [hAt.w (by omega), p2, hz] at e
      have hf := hG.c
      rw [e] at hf
      rw [hf.1, hf.2, hAt.w (by omega), p4] at cc
      rcases cc with x | x
      · cases x
      · omega
    | again p e q e2 => exact .inl ⟨rfl, on _ q (fun x => absurd e2 x) (fun x => by omega) (fun x => by omega) (by rw [e2, m0]; rw [p, m5] at hc; omega)⟩
    | look p lk l => rw [h65.1, h65.2.1] at l; exact absurd l hG.sl
    | else' p l => rw [h65.1, h65.2.1] at l; exact absurd l hG.sl
  · cases q
theorem PhD.skip {kd oE oS gE gS c i bb : Int} {w0 : Int → Int} {D0 D1 : Bool} {m : Ak} (h : PhD C kd w0 D0 D1 oE oS gE gS c i bb m A) (hk : 60 ≤ i → i % 2 = 0 ∧ D0 = true ∨ i % 2 = 1 ∧ D1 = true) (i0 : 0 ≤ i) : PhD C kd w0 D0 D1 oE oS gE gS c (i + 1) bb m A := by
  obtain ⟨h1, h2, h3⟩ := h
  refine ⟨fun e => ?_, fun e => ?_, h3⟩
  · have := h1 e
    by_cases hi : 60 ≤ i
    · rcases hk hi with q | ⟨_, q⟩
      · omega
      · rw [e] at q; cases q
    · omega
  · have := h2 e
    by_cases hi : 60 ≤ i
    · rcases hk hi with ⟨_, q⟩ | q
      · rw [e] at q; cases q
      · omega
    · omega
theorem Rd.bb {bb b2 : Int} (h : Rd C bb A) (hb : bb ≤ b2) : Rd C b2 A := ⟨h.aw, h.d, h.pa.mono hb, h.n2⟩
theorem Gn.bb {g bb b2 : Int} (h : Gn C g bb A) (hb : bb ≤ b2) : Gn C g b2 A := ⟨h.sl, h.hd, h.c, h.g, ok_mono h.ok hb, h.n1, h.n2⟩
theorem PhD.bb {kd oE oS gE gS c i bb b2 : Int} {w0 : Int → Int} {D0 D1 : Bool} {m : Ak} (h : PhD C kd w0 D0 D1 oE oS gE gS c i bb m A) (hb : bb ≤ b2) : PhD C kd w0 D0 D1 oE oS gE gS c i b2 m A := by
  obtain ⟨h1, h2, h3⟩ := h
  refine ⟨h1, h2, ?_⟩
  rcases h3 with ⟨q1, q2, q3, q4⟩ | ⟨q1, q2, q3, q4⟩ | ⟨q1, q2, q3, q4, q5⟩ | ⟨q1, q2, q3, q4, q5⟩
  · exact .inl ⟨q1, q2, q3.bb hb, q4⟩
  · exact .inr (.inl ⟨q1, q2, q3.bb hb, q4⟩)
  · exact .inr (.inr (.inl ⟨q1, q2, q3, q4.bb hb, q5⟩))
  · exact .inr (.inr (.inr ⟨q1, q2, q3, ok_mono q4 hb, q5⟩))
def l2 (P : Int → Value) : List Value := [P 0, P 1]
theorem andI1' {K : Value → Prop} {Q : EqK} {a : Int} : xF (fBin .and Q) [.int .i64 a, .int .i64 1] K = K (.int .i64 (a % 2)) := by simpa using xAndI (K := K) (Q := Q) (k := 1) (a := a) (by decide)
theorem law_AccessDrops (σ : Mem) (a0 : Int) (w0 : (Lit.int .i64 a0).wf = true) (s : Value) (len : Nat) (cs : List Value) (sl : Sl σ 1 len cs s) (hm : len ≤ maxLen) (hf : FlatL (List.replicate len [some .i64]).flatten cs) :
    s_law10_AccessDrops [.int .i64 a0, s] (fun v _ => v = .bool true) σ := by
  obtain ⟨g, hgA, _⟩ := sl.argI hf
  simp only [s_law10_AccessDrops, w_law10_AccessDrops, ruS, ruL, ruE, Nat.reduceAdd, reduceIte, Int.reduceLT, Int.reduceLE, Int.reduceEq, Int.reduceNeg, Int.reduceAdd, Int.reduceSub, Nat.reduceLeDiff, Nat.reduceLT]
  have hC : (cA 4 4 2 20).ok := cA_ok (by omega) (by omega) (by omega) (by omega)
  refine c_Arena (C := cA 4 4 2 20) hC rfl rfl rfl fun N A τ hN hF hA hE hfr => ?_
  have f1 : ∀ (x y z w : Value) (K : Value → Prop), xF (fFldV 1 1 false) [.agg #[x, y, z, w]] K = K y := fun _ _ _ _ K => nr rfl
  have gU : ∀ {k : Nat} {x y z w x' y' z' w' : Int}, gStore 4 [.pointer (some ⟨k, 0, some 0⟩), .agg #[.int .i64 x, .int .u64 y, .int .i64 z, .int .i64 w]] [.int .i64 x', .int .u64 y', .int .i64 z', .int .i64 w'] = some [.int .i64 x, .int .u64 y, .int .i64 z, .int .i64 w] := fun {_ _ _ _ _ _ _ _ _} => rfl
  have b5 : ∀ (x y : Int) (K : Value → Prop), xF (fBuild [(0, 1), (1, 1), (2, 1), (3, 1), (4, 1)] [.int .i64 0, .int .u64 0, .int .i64 0, .int .i64 0, .int .i64 0] [0, 1, 3]) [.int .i64 x, .int .u64 65536, .int .i64 y] K = K (.agg #[.int .i64 x, .int .u64 65536, .int .i64 0, .int .i64 y, .int .i64 0]) := fun _ _ K => nr rfl
  have bz : ∀ (K : Value → Prop), xF (fBuild [(0, 1), (1, 1), (2, 1), (3, 1)] [.int .i64 0, .int .u64 0, .int .i64 0, .int .i64 0] []) [] K = K (.agg #[.int .i64 0, .int .u64 0, .int .i64 0, .int .i64 0]) := fun K => nr rfl
  have bb : ∀ K : Value → Prop, xF (fBuild [(0, 1), (1, 1)] [.bool false, .bool false] []) [] K = K (.agg #[.bool false, .bool false]) := fun K => nr rfl
  have gb : gStore 2 [.pointer (some ⟨11, 0, some 0⟩), .agg #[.bool false, .bool false]] [.bool false, .bool false] = some [.bool false, .bool false] := rfl
  have e0 : ∀ {x y : Bool} {K : Value → Prop}, xO (gLoad 1 false [.pointer (some ⟨11, (0 : Int).toNat * 1, some 0⟩)] [.bool x, .bool y]) K = K (.bool x) := fun {_ _ _} => nr rfl
  simp only [c_awake10, gStoreE, w_law10_AccessDrops_j1, w_law10_AccessDrops_j1b, ruS, ruL, ruE, Nat.reduceAdd, reduceIte, Int.reduceLT, Int.reduceLE, Int.reduceEq, Int.reduceNeg, Int.reduceAdd, Int.reduceSub, Nat.reduceLeDiff, Nat.reduceLT]
  have hCS : (cA 4 4 2 20).S = 4 ∧ (cA 4 4 2 20).G = 100 := ⟨rfl, rfl⟩
  generalize hCe : cA 4 4 2 20 = C at *
  refine c_First hN hC hA hF (by decide) fun oV oS A2 τ2 hfst hoS hA2 k2 => ?_
  have ext2 := hE.keep' k2 hfr.all
  have hz0 : A2.w (C.base 0 + 1) = 0 := by have := hfst.cz 0 (by decide) (by decide); rw [show C.base 0 + 1 + 0 = C.base 0 + 1 by omega] at this; exact this
  have hll := len_bd hC
  have hn2 := hfst.n
  have hrd : Rd C 1000000 A2 := ⟨hfst.aw', hfst.ok' hC (by decide), hfst.pa, by omega⟩
  have hw0 : A2.w (C.slot 0) = putSlot 1 (C.base 0) 1 0 ∧ (hdO (A2.w (C.base 0)) = false ∧ hdS (A2.w (C.base 0)) = 2) ∧ A2.w (C.base 0 + 1) = 0 := ⟨hfst.W, hfst.ol.hd, hz0⟩
  have hkd : 1 + a0 % 2 = 1 ∨ 1 + a0 % 2 = 2 := by omega
  simp only [f1, andI1', ruS, ruL, ruE, Nat.reduceAdd, reduceIte, Int.reduceLT, Int.reduceLE, Int.reduceEq, Int.reduceNeg, Int.reduceAdd, Int.reduceSub, Nat.reduceLeDiff, Nat.reduceLT]
  rw [IntWalk.i64_in (1 + a0 % 2) (by omega)]
  simp only [b5]
  generalize 1 + a0 % 2 = kd at *
  refine aob_new hA2 fun p τ3 hp hob x3 => ?_
  have hA3 := hA2.ext x3
  have ext3 := ext2.trans x3
  simp only [bz, bb, gb, gU, w_law10_AccessDrops_j2, w_law10_AccessDrops_j2b, ruS, ruL, ruE, Nat.reduceAdd, reduceIte, Int.reduceLT, Int.reduceLE, Int.reduceEq, Int.reduceNeg, Int.reduceAdd, Int.reduceSub, Nat.reduceLeDiff, Nat.reduceLT]
  have ph0 : PhD C kd A2.w false false 0 0 0 0 0 0 1000000 (Ak.new kd 65536 0 7 0 false) A2 :=
    ⟨fun _ => by decide, fun _ => by decide, .inl ⟨rfl, rfl, hrd, rfl, ⟨Lg.new hC, fun x => absurd rfl x, fun x => (by cases x), fun x => by cases x⟩, rfl⟩⟩
  have hon : ∀ j ∈ [p], σ.get j = none := fun j hj => by rw [List.mem_singleton.1 hj]; exact ext2.none hp
  refine xLoop_r (fun x ts ls τ => ∃ i D0 D1 oE oH oV oS gE gH gV gS c m A O, x = (200 - i).toNat ∧ ts = [s, .int .u64 65536, .pointer (some ⟨p, 0, none⟩), .int .i64 i] ∧ ls = [N.el C 0, [.int .i64 oE, .int .u64 oH, .int .i64 oV, .int .i64 oS], [.int .i64 gE, .int .u64 gH, .int .i64 gV, .int .i64 gS], [.bool D0, .bool D1]] ∧ 0 ≤ i ∧ i ≤ 200 ∧ isA N A τ ∧
      PhD C kd A2.w D0 D1 oE oS gE gS c i (1000000 + 100 * i) m A ∧ AOb N p O m τ ∧ (∀ j ∈ O, σ.get j = none) ∧ Ext σ τ) ?_ (n := 200)
    ⟨0, false, false, 0, 0, 0, 0, 0, 0, 0, 0, 0, _, A2, [p], rfl, rfl, rfl, Int.le_refl 0, by decide, hA3, ph0.bb (by omega), hob, hon, ext3⟩
  rintro x ts ls τ5 ⟨t, D0, D1, oE, oH, oV, oS, gE, gH, gV, gS, c, m, A5, O, rfl, rfl, rfl, t0, t1, hA5, hPh, hO, hOn, ext5⟩ R hR
  have hg5 := hgA.keep ext5
  simp only [w_law10_AccessDrops_l9, w_law10_AccessDrops_l9b, xIxA (show (0 : Int) ≤ 0 by decide) (show (0 : Int) < (2 : Nat) by decide), xIxA (show (0 : Int) ≤ 1 by decide) (show (1 : Int) < (2 : Nat) by decide), ruS, ruL, ruE, Nat.reduceAdd, reduceIte, Int.reduceLT, Int.reduceLE, Int.reduceEq, Int.reduceNeg, Int.reduceAdd, Int.reduceSub, Nat.reduceLeDiff, Nat.reduceLT]
  have hlt : D0 = false ∨ D1 = false → t < 200 := by
    obtain ⟨h1, h2, _⟩ := hPh
    rintro (e | e)
    · have := h2 e; omega
    · have := h1 e; omega
  by_cases hdone : D0 = true ∧ D1 = true
  · obtain ⟨rfl, rfl⟩ := hdone
    have fin : w_law10_AccessDrops_j2 (fun v _ => v = .bool true) [] [[.int .i64 oE, .int .u64 oH, .int .i64 oV, .int .i64 oS], [.int .i64 gE, .int .u64 gH, .int .i64 gV, .int .i64 gS], [.bool true, .bool true]] τ5 := by
      obtain ⟨_, _, h3⟩ := hPh
      have h4 : gE = 0 ∧ (oE = 0 ∧ oS < gS ∨ oE = 3 ∧ gS ≤ oS) := by
        rcases h3 with ⟨q, _⟩ | ⟨_, q, _⟩ | ⟨q, _⟩ | ⟨_, _, q1, _, q2⟩
        · cases q
        · cases q
        · cases q
        · exact ⟨q1, q2⟩
      obtain ⟨rfl, h4⟩ := h4
      simp only [w_law10_AccessDrops_j2, w_law10_AccessDrops_j2b, xIxA (show (0 : Int) ≤ 0 by decide) (show (0 : Int) < (2 : Nat) by decide), xIxA (show (0 : Int) ≤ 1 by decide) (show (1 : Int) < (2 : Nat) by decide), ruS, ruL, ruE, Nat.reduceAdd, reduceIte, Int.reduceLT, Int.reduceLE, Int.reduceEq, Int.reduceNeg, Int.reduceAdd, Int.reduceSub, Nat.reduceLeDiff, Nat.reduceLT]
      rcases h4 with ⟨rfl, h4⟩ | ⟨rfl, h4⟩
      · simp only [Int.toNat_zero, Int.toNat_one, Nat.zero_mul, Nat.one_mul, h4, w_law10_AccessDrops_j3, w_law10_AccessDrops_j3b, ruS, ruL, ruE, Nat.reduceAdd, reduceIte, Int.reduceLT, Int.reduceLE, Int.reduceEq, Int.reduceNeg, Int.reduceAdd, Int.reduceSub, Nat.reduceLeDiff, Nat.reduceLT]
      · simp only [Int.toNat_zero, Int.toNat_one, Nat.zero_mul, Nat.one_mul, h4, w_law10_AccessDrops_j3, w_law10_AccessDrops_j3b, ruS, ruL, ruE, Nat.reduceAdd, reduceIte, Int.reduceLT, Int.reduceLE, Int.reduceEq, Int.reduceNeg, Int.reduceAdd, Int.reduceSub, Nat.reduceLeDiff, Nat.reduceLT]
    by_cases ht : t < 200
    · simp only [ht, Int.toNat_zero, Int.toNat_one, Nat.zero_mul, Nat.one_mul, ruS, ruL, ruE, Nat.reduceAdd, reduceIte, Int.reduceLT, Int.reduceLE, Int.reduceEq, Int.reduceNeg, Int.reduceAdd, Int.reduceSub, Nat.reduceLeDiff, Nat.reduceLT]; exact fin
    · simp only [ht, ruS, ruL, ruE, Nat.reduceAdd, reduceIte, Int.reduceLT, Int.reduceLE, Int.reduceEq, Int.reduceNeg, Int.reduceAdd, Int.reduceSub, Nat.reduceLeDiff, Nat.reduceLT]; exact fin
  have ht : t < 200 := hlt (by cases D0 <;> cases D1 <;> simp_all)
  have nxt : ∀ D0 D1 oE oH oV oS gE gH gV gS c m A O τ, isA N A τ → PhD C kd A2.w D0 D1 oE oS gE gS c (t + 1) (1000000 + 100 * t + 100) m A → AOb N p O m τ → (∀ j ∈ O, σ.get j = none) → Ext σ τ →
      w_law10_AccessDrops_j5 (fun v _ => v = .bool true) (w_law10_AccessDrops_j2 fun v _ => v = .bool true) R [s, .int .u64 65536, .pointer (some ⟨p, 0, none⟩), .int .i64 t] [N.el C 0, [.int .i64 oE, .int .u64 oH, .int .i64 oV, .int .i64 oS], [.int .i64 gE, .int .u64 gH, .int .i64 gV, .int .i64 gS], [.bool D0, .bool D1]] τ := by
    intro D0 D1 oE oH oV oS gE gH gV gS c m A O τ h1 h2 h3 h4 h5
    simp only [w_law10_AccessDrops_j5, w_law10_AccessDrops_j5b, ruS, ruL, ruE, Nat.reduceAdd, reduceIte, Int.reduceLT, Int.reduceLE, Int.reduceEq, Int.reduceNeg, Int.reduceAdd, Int.reduceSub, Nat.reduceLeDiff, Nat.reduceLT]
    rw [IntWalk.i64_in (t + 1) (by omega)]
    exact hR (200 - (t + 1)).toNat _ _ _ (by omega) ⟨t + 1, D0, D1, oE, oH, oV, oS, gE, gH, gV, gS, c, m, A, O, rfl, rfl, rfl, by omega, by omega, h1, by rw [show 1000000 + 100 * (t + 1) = 1000000 + 100 * t + 100 by omega]; exact h2, h3, h4, h5⟩
  have go6 : ∀ k, k = 0 ∨ k = 1 → (60 ≤ t → k = t % 2) → w_law10_AccessDrops_j6 (fun v _ => v = .bool true) (w_law10_AccessDrops_j2 fun v _ => v = .bool true) R (w_law10_AccessDrops_j5 (fun v _ => v = .bool true) (w_law10_AccessDrops_j2 fun v _ => v = .bool true) R)
      [s, .int .u64 65536, .pointer (some ⟨p, 0, none⟩), .int .i64 t, .int .i64 k] [N.el C 0, [.int .i64 oE, .int .u64 oH, .int .i64 oV, .int .i64 oS], [.int .i64 gE, .int .u64 gH, .int .i64 gV, .int .i64 gS], [.bool D0, .bool D1]] τ5 := by
    intro k hk hkt
    rcases hk with rfl | rfl
    · simp only [w_law10_AccessDrops_j6, w_law10_AccessDrops_j6b, xIxA (show (0 : Int) ≤ 0 by decide) (show (0 : Int) < (2 : Nat) by decide), Int.toNat_zero, Nat.zero_mul, ruS, ruL, ruE, Nat.reduceAdd, reduceIte, Int.reduceLT, Int.reduceLE, Int.reduceEq, Int.reduceNeg, Int.reduceAdd, Int.reduceSub, Nat.reduceLeDiff, Nat.reduceLT]
      cases D0 with
      | true =>
        simp only [ruS, ruL, ruE, Nat.reduceAdd, reduceIte, Int.reduceLT, Int.reduceLE, Int.reduceEq, Int.reduceNeg, Int.reduceAdd, Int.reduceSub, Nat.reduceLeDiff, Nat.reduceLT]
        exact nxt _ _ _ _ _ _ _ _ _ _ c m A5 O τ5 hA5 ((hPh.skip (fun q => .inl ⟨(hkt q).symm, rfl⟩) t0).bb (by omega)) hO hOn ext5
      | false =>
        obtain ⟨s1, s2, s3, s4⟩ := hPh.step (who := 0) hC hkd hw0 (fun q => (hkt q).symm) (by omega) t0
        simp only [ruS, ruL, ruE, Nat.reduceAdd, reduceIte, Int.reduceLT, Int.reduceLE, Int.reduceEq, Int.reduceNeg, Int.reduceAdd, Int.reduceSub, Nat.reduceLeDiff, Nat.reduceLT]
        refine c_Acc_Step hN hC hA5 hO s2.w s3 s1 fun O' τ6 hO' hA6 hO6 hK6 => ?_
        have hOn' : ∀ j ∈ O', σ.get j = none := fun j hj => by
          rcases hO' j hj with h | h
          · exact hOn j h
          · exact ext5.none h
        have ext6 : Ext σ τ6 := ext5.keep' hK6 fun j hj => by
          rcases List.mem_append.1 hj with h | h
          · exact hOn j h
          · exact hfr.all j h
        generalize m.step C 0 A5 = r at *
        obtain ⟨dn, m', A6⟩ := r
        dsimp only at *
        have gb1 : ∀ {x y z : Bool}, gStore 1 [.pointer (some ⟨11, 0, some 0⟩), .bool x] [.bool y, .bool z] = some [.bool x, .bool z] := fun {_ _ _} => rfl
        rcases s4 with ⟨rfl, h'⟩ | ⟨rfl, h'⟩
        · simp only [gb1, xIxA (show (0 : Int) ≤ 0 by decide) (show (0 : Int) < (2 : Nat) by decide), Int.toNat_zero, Nat.zero_mul, ruS, ruL, ruE, Nat.reduceAdd, reduceIte, Int.reduceLT, Int.reduceLE, Int.reduceEq, Int.reduceNeg, Int.reduceAdd, Int.reduceSub, Nat.reduceLeDiff, Nat.reduceLT]
          exact nxt _ _ _ _ _ _ _ _ _ _ _ m' A6 O' τ6 hA6 (h'.bb (by omega)) hO6 hOn' ext6
        · simp only [gb1, xIxA (show (0 : Int) ≤ 0 by decide) (show (0 : Int) < (2 : Nat) by decide), Int.toNat_zero, Nat.zero_mul, ruS, ruL, ruE, Nat.reduceAdd, reduceIte, Int.reduceLT, Int.reduceLE, Int.reduceEq, Int.reduceNeg, Int.reduceAdd, Int.reduceSub, Nat.reduceLeDiff, Nat.reduceLT]
          refine AOb.done hA6 hO6 ?_
          simp only [gU, ruS, ruL, ruE, Nat.reduceAdd, reduceIte, Int.reduceLT, Int.reduceLE, Int.reduceEq, Int.reduceNeg, Int.reduceAdd, Int.reduceSub, Nat.reduceLeDiff, Nat.reduceLT]
          exact nxt _ _ _ _ _ _ _ _ _ _ _ m' A6 O' τ6 hA6 (h'.bb (by omega)) hO6 hOn' ext6
    · simp only [w_law10_AccessDrops_j6, w_law10_AccessDrops_j6b, xIxA (show (0 : Int) ≤ 1 by decide) (show (1 : Int) < (2 : Nat) by decide), Int.toNat_one, Nat.one_mul, ruS, ruL, ruE, Nat.reduceAdd, reduceIte, Int.reduceLT, Int.reduceLE, Int.reduceEq, Int.reduceNeg, Int.reduceAdd, Int.reduceSub, Nat.reduceLeDiff, Nat.reduceLT]
      cases D1 with
      | true =>
        simp only [ruS, ruL, ruE, Nat.reduceAdd, reduceIte, Int.reduceLT, Int.reduceLE, Int.reduceEq, Int.reduceNeg, Int.reduceAdd, Int.reduceSub, Nat.reduceLeDiff, Nat.reduceLT]
        exact nxt _ _ _ _ _ _ _ _ _ _ c m A5 O τ5 hA5 ((hPh.skip (fun q => .inr ⟨(hkt q).symm, rfl⟩) t0).bb (by omega)) hO hOn ext5
      | false =>
        simp only [ruS, ruL, ruE, Nat.reduceAdd, reduceIte, Int.reduceLT, Int.reduceLE, Int.reduceEq, Int.reduceNeg, Int.reduceAdd, Int.reduceSub, Nat.reduceLeDiff, Nat.reduceLT]
        have hR5 : Rd C (1000000 + 100 * t) A5 := by
          obtain ⟨_, _, ⟨_, _, q, _⟩ | ⟨_, _, q, _⟩ | ⟨_, q, _⟩ | ⟨_, q, _⟩⟩ := hPh
          · exact q
          · exact q
          · cases q
          · cases q
        have hlv : (Bg.one C 2).lv (Do.one C 2 false).j < 18446744073709551616 := (by decide : upd (fun _ => 0) 0 (roomOf (classOf 2)) 0 < 18446744073709551616)
        refine c_DropZ (d := Do.one C 2 false) hN hC hA5 hR5.pa (by omega) hR5.aw hR5.d hlv fun dm A6 τ6 hD hZ hP6 hs6 hn6 hA6 hK6 => ?_
        have ext6 := ext5.keep' hK6 hfr.all
        have hO6 : AOb N p O m τ6 := hO.keep hK6 fun j hj hl => hO.own j hj hl
        have gb1 : ∀ {x y z : Bool}, gStore 1 [.pointer (some ⟨11, 1, some 0⟩), .bool x] [.bool y, .bool z] = some [.bool y, .bool x] := fun {_ _ _} => rfl
        simp only [gU, gb1, xIxA (show (0 : Int) ≤ 1 by decide) (show (1 : Int) < (2 : Nat) by decide), Int.toNat_one, Nat.one_mul, ruS, ruL, ruE, Nat.reduceAdd, reduceIte, Int.reduceLT, Int.reduceLE, Int.reduceEq, Int.reduceNeg, Int.reduceAdd, Int.reduceSub, Nat.reduceLeDiff, Nat.reduceLT]
        have hT := hC.T
        have hCC := hC.C
        have hS := hC.S
        have hW := hC.W
        have hb0 : C.base 0 = 6 + C.T + 2 * C.S + 3 * C.C := by unfold Cf.base; omega
        have esl : C.slot 0 = 6 + C.T := by unfold Cf.slot; omega
        have ech : C.chunk 0 = 6 + C.T + 2 * C.S := by unfold Cf.chunk; omega
        obtain ⟨p1, p2, p3, p4⟩ := sl_put (st := 1) (ad := C.base 0) (ge := 1) (ve := 0) (by decide) (by omega) (by decide) (by decide)
        have hv : slV ((Do.one C 2 false).v C) = 1 := by
          unfold Do.v
          rw [Do.one_a, Do.one_ge, show slV (Do.one C 2 false).ws = 0 from p4]
          exact (sl_put (st := 4) (ad := C.base 0) (ge := 1) (ve := 0 + 1) (by decide) (by omega) (by decide) (by decide)).2.2.2
        have hsl : ¬ lives (A6.w (C.slot 0)) 1 := by
          have := hD.sl
          rw [Do.one_s] at this
          rw [this]
          have := (Do.one C 2 false).nxp (C := C) (by rw [Do.one_ge]; decide) hC.G.2
          rintro ⟨q, _⟩
          omega
        have hhd : hdO (A6.w (C.base 0)) = false ∧ hdS (A6.w (C.base 0)) = 2 := by
          have := hD.fr (C.base 0) (by rw [Do.one_s]; omega) (by omega) (by rw [Do.one_s]; omega) (by show C.base 0 ≠ C.chunk 0 + 1; omega) (by rw [Do.one_a]; omega)
          rw [this]
          have := hR5.d.hd
          rw [Do.one_a] at this
          exact ⟨this.2, this.1⟩
        have hcl : Fzd 1 (A6.w (C.base 0 + 1)) := by
          have := hZ 0 (by decide) (by show (0 : Int) < 2; decide)
          rw [hv, Do.one_a, show C.base 0 + 1 + 0 = C.base 0 + 1 by omega] at this
          exact this
        have hGn : Gn C dm.d.oS (1000000 + 100 * t + 100) A6 := ⟨hsl, hhd, hcl, hD.st.2, ok_mono hP6.ok (by omega), hP6.n, by rw [hn6]; exact hR5.n2⟩
        have hst := hD.st.1
        have hst2 := hD.st.2
        obtain ⟨q1, q2, q3⟩ := hPh
        have q1' := q1 rfl
        refine nxt D0 true oE oH oV oS 0 _ _ dm.d.oS c m A6 O τ6 hA6 ⟨fun q => (by cases q), fun q => ?_, ?_⟩ hO6 hOn ext6
        · have := q2 q
          by_cases h60 : 60 ≤ t
          · have := hkt h60; omega
          · omega
        · rcases q3 with ⟨e0, _, _, _, hAt, hc⟩ | ⟨e0, _, _, e1, e2⟩ | ⟨_, q, _⟩ | ⟨_, q, _⟩
          · refine .inr (.inr (.inl ⟨e0, rfl, rfl, hGn, ⟨hAt.lg, hAt.w, hAt.c, fun y => by have := hAt.rd y; omega⟩, ?_⟩))
            have hpc : 0 ≤ m.a.pc ∧ m.a.pc ≤ 6 ∧ m.a.pc ≠ 4 ∧ m.a.pc ≠ 3 := by
              rcases hAt.lg.at' with q | ⟨_, q | q | ⟨q, _, q', _⟩ | ⟨q, _⟩ | ⟨q, _⟩⟩
              · omega
              · omega
              · omega
              · rw [hAt.w (by omega), p1] at q'; omega
              · omega
              · omega
            rcases (show m.a.pc = 0 ∨ m.a.pc = 1 ∨ m.a.pc = 2 ∨ m.a.pc = 5 ∨ m.a.pc = 6 by omega) with q | q | q | q | q <;> rw [q] at hc ⊢ <;> rw [hc] <;> decide
          · exact .inr (.inr (.inr ⟨e0, rfl, rfl, hGn.ok, .inl ⟨e1, by omega⟩⟩))
          · cases q
          · cases q
  have m2 : t % 2 = 0 ∨ t % 2 = 1 := by omega
  have fin4 : w_law10_AccessDrops_j4 (fun v _ => v = .bool true) (w_law10_AccessDrops_j2 fun v _ => v = .bool true) R [s, .int .u64 65536, .pointer (some ⟨p, 0, none⟩), .int .i64 t] [N.el C 0, [.int .i64 oE, .int .u64 oH, .int .i64 oV, .int .i64 oS], [.int .i64 gE, .int .u64 gH, .int .i64 gV, .int .i64 gS], [.bool D0, .bool D1]] τ5 := by
    simp only [w_law10_AccessDrops_j4, w_law10_AccessDrops_j4b, andI1', hg5.len, ruS, ruL, ruE, Nat.reduceAdd, reduceIte, Int.reduceLT, Int.reduceLE, Int.reduceEq, Int.reduceNeg, Int.reduceAdd, Int.reduceSub, Nat.reduceLeDiff, Nat.reduceLT]
    by_cases c1 : t < len
    · by_cases c2 : t < 60
      · simp only [c1, c2, w_law10_AccessDrops_j7, w_law10_AccessDrops_j7b, ruS, ruL, ruE, Nat.reduceAdd, reduceIte, Int.reduceLT, Int.reduceLE, Int.reduceEq, Int.reduceNeg, Int.reduceAdd, Int.reduceSub, Nat.reduceLeDiff, Nat.reduceLT]
        rw [hg5.ix t0 c1]
        simp only [andI1', ruS, ruL, ruE, Nat.reduceAdd, reduceIte, Int.reduceLT, Int.reduceLE, Int.reduceEq, Int.reduceNeg, Int.reduceAdd, Int.reduceSub, Nat.reduceLeDiff, Nat.reduceLT]
        exact go6 _ (by omega) fun q => by omega
      · simp only [c1, c2, w_law10_AccessDrops_j7, w_law10_AccessDrops_j7b, ruS, ruL, ruE, Nat.reduceAdd, reduceIte, Int.reduceLT, Int.reduceLE, Int.reduceEq, Int.reduceNeg, Int.reduceAdd, Int.reduceSub, Nat.reduceLeDiff, Nat.reduceLT]
        exact go6 _ m2 fun _ => rfl
    · simp only [c1, w_law10_AccessDrops_j7, w_law10_AccessDrops_j7b, ruS, ruL, ruE, Nat.reduceAdd, reduceIte, Int.reduceLT, Int.reduceLE, Int.reduceEq, Int.reduceNeg, Int.reduceAdd, Int.reduceSub, Nat.reduceLeDiff, Nat.reduceLT]
      exact go6 _ m2 fun _ => rfl
  cases D0 with
  | false => simp only [ht, Int.toNat_zero, Int.toNat_one, Nat.zero_mul, Nat.one_mul, ruS, ruL, ruE, Nat.reduceAdd, reduceIte, Int.reduceLT, Int.reduceLE, Int.reduceEq, Int.reduceNeg, Int.reduceAdd, Int.reduceSub, Nat.reduceLeDiff, Nat.reduceLT]; exact fin4
  | true =>
    cases D1 with
    | false => simp only [ht, Int.toNat_zero, Int.toNat_one, Nat.zero_mul, Nat.one_mul, ruS, ruL, ruE, Nat.reduceAdd, reduceIte, Int.reduceLT, Int.reduceLE, Int.reduceEq, Int.reduceNeg, Int.reduceAdd, Int.reduceSub, Nat.reduceLeDiff, Nat.reduceLT]; exact fin4
    | true => exact absurd ⟨rfl, rfl⟩ hdone
end Go.Fl
