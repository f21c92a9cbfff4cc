/- What the claim leans on, part 4: own readings of the program's functions, what they come to, laws of them. No condition. -/
import Derived.Test.YtnkehalednommaaZAllocShares3
namespace Go.Fl
open Go
set_option linter.unusedVariables false
set_option linter.unusedSimpArgs false
variable {N : Nm} {A B : Ar} {σ : Mem} {K : Value → Mem → Prop} {C : Cf} {who : Int}
theorem frW_gen : slG frW = 1 := by decide
theorem updP_self {P : Int → Ps} {i : Int} : updP P i (P i) = P := by funext j; unfold updP; split <;> simp_all
section
variable {n k a bb : Int} {X : Int → Ms} {F : List Int} {m : Am}
theorem Gm.stay (hC : C.ok) (h : Gm C n X F k A.w) (a0 : 0 ≤ a) (a1 : a < n) {x' : Ms} {k' : Int} (sh : Sh (fun a => 0 ≤ a ∧ a < n) C A.w (updP (fun a => (X a).ps) a x'.ps) F k') (hx : x'.fine C A.w) (hsp : x'.spot C = (X a).spot C ∨ x'.spot C = none) : Gm C n (updM X a x') F k' A.w := by
 refine h.one a0 a1 sh h.fr h.op h.ub h.nil hx (fun b b0 b1 _ => h.each b b0 b1) fun b j i r j' i' r' b0 b1 hb e e' => ?_
 rcases hsp with q | q
 ·rw [q] at e; exact h.ap a b j i r j' i' r' a0 a1 b0 b1 (Ne.symm hb) e e'
 ·rw [q] at e; cases e
theorem Gm.slot_ne (h : Gm C n X F k A.w) (a0 : 0 ≤ a) (a1 : a < n) {b s t : Int} (b0 : 0 ≤ b) (b1 : b < n) (hb : b ≠ a) (ha : (X a).ps.has s) (hh : (X b).ps.has t) : t ≠ s := fun e => hb (h.sh.apart b a s ⟨b0, b1⟩ ⟨a0, a1⟩ (by rw [← e]; exact hh) ha)
theorem Gm.slot_in (h : Gm C n X F k A.w) {b t : Int} (b0 : 0 ≤ b) (b1 : b < n) (hh : (X b).ps.has t) : (0 ≤ t ∧ t < C.S) ∧ t ∉ F := by
 have := h.sh.each b ⟨b0, b1⟩
 cases hq : (X b).ps with
 | tk p t => rw [hq] at hh; exact hh.elim
 | gv p g => rw [hq] at hh this; rw [← show g.slot = t from hh]; exact ⟨⟨this.2.1, this.2.2.1⟩, this.2.2.2.1⟩
theorem Gm.slotw (hC : C.ok) (h : Gm C n X F k A.w) (a0 : 0 ≤ a) (a1 : a < n) {s v k' : Int} (hs : (X a).ps.has s) {x' : Ms} (hps : x'.ps = (X a).ps) (hk : k ≤ k') (hx : x'.fine C (upd A.w (C.slot s) v)) (hsp : x'.spot C = (X a).spot C) : Gm C n (updM X a x') F k' (upd A.w (C.slot s) v) := by
 obtain ⟨⟨s0, s1⟩, sF⟩ := h.slot_in a0 a1 hs
 have hT := hC.T; have hS := hC.S; have hCC := hC.C
 have wS : ∀ t, t ≠ s → upd A.w (C.slot s) v (C.slot t) = A.w (C.slot t) := fun t ht => upd_ne _ _ (by unfold Cf.slot; omega)
 have wL : ∀ t, upd A.w (C.slot s) v (C.slot t + 1) = A.w (C.slot t + 1) := fun t => upd_ne _ _ (by unfold Cf.slot; omega)
 have w1 : upd A.w (C.slot s) v 1 = A.w 1 := upd_ne _ _ (by unfold Cf.slot; omega)
 have wC : ∀ j, 0 ≤ j → j < C.C → upd A.w (C.slot s) v (C.chunk j) = A.w (C.chunk j) := fun j j0 j1 => upd_ne _ _ (by unfold Cf.slot Cf.chunk; omega)
 have wW : ∀ j i, 0 ≤ j → j < C.C → 0 ≤ i → upd A.w (C.slot s) v (C.base j + i) = A.w (C.base j + i) := fun j i j0 j1 i0 => upd_ne _ _ ((addr_ne hC j0 j1 i0).1 s s1)
 have sh' : Sh (fun a => 0 ≤ a ∧ a < n) C (upd A.w (C.slot s) v) (updP (fun a => (X a).ps) a x'.ps) F k' := by
  rw [hps, updP_self (P := fun a => (X a).ps)]
  have hm := h.sh.mono hk
  refine ⟨⟨?_, hm.fre.nd⟩, fun b hb => (hm.each b hb).keep w1 (fun _ _ q => q) fun t _ _ _ => by rw [wL], hm.apart, by rw [w1]; exact hm.num⟩
  rw [w1]; exact hm.fre.c.congr fun t _ => by rw [wL]
 refine h.one a0 a1 sh' (fun t ht => by rw [wS t fun e => sF (e ▸ ht)]; exact h.fr t ht) (fun c c0 c3 => by rw [upd_ne _ _ (by unfold Cf.slot; omega)]; exact h.op c c0 c3) (fun j j0 j1 => by rw [wC j j0 j1]; exact h.ub j j0 j1)
  (fun j i j0 j1 i0 i1 i2 => by rw [wC j j0 j1] at i1; rw [wW j i j0 j1 i0]; exact h.nil j i j0 j1 i0 i1 i2) hx (fun b b0 b1 hb => ?_) fun b j i r j' i' r' b0 b1 hb e e' => ?_
 ·exact (h.each b b0 b1).keep (fun t ht => wS t (h.slot_ne a0 a1 b0 b1 hb hs ht)) (fun j j0 j1 e u => by rw [wC j j0 j1]; exact ⟨e, rfl, Int.le_refl _⟩) fun j i r e j0 j1 i0 i1 y y0 y1 => wW j (i + y) j0 j1 (by omega)
 ·rw [hsp] at e; exact h.ap a b j i r j' i' r' a0 a1 b0 b1 (Ne.symm hb) e e'
theorem Gm.roomw (hC : C.ok) (h : Gm C n X F k A.w) (a0 : 0 ≤ a) (a1 : a < n) {j i r y v k' : Int} (hsp : (X a).spot C = some (j, i, r)) (y0 : 0 ≤ y) (y1 : y < r) {x' : Ms} (hps : x'.ps = (X a).ps) (hk : k ≤ k') (hx : x'.fine C (upd A.w (C.base j + (i + y)) v)) (hsp' : x'.spot C = (X a).spot C) :
  Gm C n (updM X a x') F k' (upd A.w (C.base j + (i + y)) v) := by
 obtain ⟨jb, ib, rb⟩ := Ms.spot_fine (h.each a a0 a1) hsp
 have hu := h.ub j jb.1 jb.2
 have hT := hC.T; have hS := hC.S; have hCC := hC.C
 have hb := base_ge hC jb.1 jb.2 (i := i + y) (by omega)
 have wS : ∀ t, t < C.S → upd A.w (C.base j + (i + y)) v (C.slot t) = A.w (C.slot t) := fun t ht => upd_ne _ _ (by unfold Cf.slot; omega)
 have wL : ∀ t, t < C.S → upd A.w (C.base j + (i + y)) v (C.slot t + 1) = A.w (C.slot t + 1) := fun t ht => upd_ne _ _ (by unfold Cf.slot; omega)
 have w1 : upd A.w (C.base j + (i + y)) v 1 = A.w 1 := upd_ne _ _ (by omega)
 have wC : ∀ j', 0 ≤ j' → j' < C.C → upd A.w (C.base j + (i + y)) v (C.chunk j') = A.w (C.chunk j') := fun j' j0 j1 => upd_ne _ _ (by unfold Cf.chunk; omega)
 have sh' : Sh (fun a => 0 ≤ a ∧ a < n) C (upd A.w (C.base j + (i + y)) v) (updP (fun a => (X a).ps) a x'.ps) F k' := by
  rw [hps, updP_self (P := fun a => (X a).ps)]
  have hm := h.sh.mono hk
  refine ⟨⟨?_, hm.fre.nd⟩, fun b hb => (hm.each b hb).keep w1 (fun _ _ q => q) fun t _ t1 _ => by rw [wL t t1], hm.apart, by rw [w1]; exact hm.num⟩
  rw [w1]; exact hm.fre.c.congr fun t ht => by rw [wL t (hm.fre.c.mem t ht).2]
 refine h.one a0 a1 sh' (fun t ht => by rw [wS t (h.sh.fre.c.mem t ht).2]; exact h.fr t ht) (fun c c0 c3 => by rw [upd_ne _ _ (by omega)]; exact h.op c c0 c3) (fun j' j0 j1 => by rw [wC j' j0 j1]; exact h.ub j' j0 j1)
  (fun j' i' j0 j1 i0 i1 i2 => ?_) hx (fun b b0 b1 hb => ?_) fun b j i r j' i' r' b0 b1 hb e e' => ?_
 ·rw [wC j' j0 j1] at i1
  rw [upd_ne]
  ·exact h.nil j' i' j0 j1 i0 i1 i2
  ·intro e
   obtain ⟨p1, p2⟩ := base_inj hC j0 j1 i0 i2 jb.1 jb.2 (by omega) (by omega) e
   rw [p1] at i1; omega
 ·refine (h.each b b0 b1).keep (fun t ht => wS t (h.slot_in b0 b1 ht).1.2) (fun j' j0 j1 e u => by rw [wC j' j0 j1]; exact ⟨e, rfl, Int.le_refl _⟩) fun j' i' r' e j0 j1 i0 i1 y' y0' y1' => ?_
  have := (h.ub j' j0 j1).1
  exact upd_ne _ _ (h.apart hC b0 b1 a0 a1 hb e hsp ⟨j0, j1⟩ jb ⟨i0, by omega⟩ ⟨ib.1, by omega⟩ y0' y1' y0 y1)
 ·rw [hsp'] at e; exact h.ap a b j i r j' i' r' a0 a1 b0 b1 (Ne.symm hb) e e'
def GmD (C : Cf) (n k a : Int) (X : Int → Ms) (z : Int) (r : Bool × Am × Ar) : Prop :=
 (r.1 = false ∧ ∃ F', Gm C n (updM X a (.wk r.2.1)) F' (k + 1) r.2.2.w) ∨
 (r.1 = true ∧ ((r.2.1.a.oE = 7 ∨ r.2.1.a.oE = 6) ∧ (∃ F', Gm C n (updM X a .no) F' (k + 1) r.2.2.w) ∨
  r.2.1.a.oE = 0 ∧ ∃ s j i, (0 ≤ s ∧ s < C.S) ∧ r.2.1.a.oH = putHandle s 1 ∧ ∃ F', Gm C n (updM X a (.md s j i z)) F' (k + 1) r.2.2.w))
theorem Gm.step (hC : C.ok) (h : Gm C n X F k A.w) (hP : Pa C A bb) (hb : bb < 4611686018427387904) (hk : k < 99999) (a0 : 0 ≤ a) (a1 : a < n) (hX : X a = .wk m) :
  m.fit C A ∧ Pa C (m.step C who A).2.2 (bb + 1) ∧ (m.step C who A).2.2.n = A.n ∧ GmD C n k a X m.a.size (m.step C who A) ∧ ((m.step C who A).1 = false → (m.step C who A).2.1.a.size = m.a.size) := by
 have hf := h.fit hC hP a0 a1 hX
 have hfi := h.each a a0 a1
 have hsh := h.sh.each a ⟨a0, a1⟩
 rw [hX] at hfi hsh
 have hfi0 := hfi
 obtain ⟨⟨hcl, hown, hpc⟩, hfi⟩ := hfi
 have hcl' := class_bd m.a.size
 have hr := room_bd hcl hcl'.2
 have W64 : ∀ i, W64 (A.w i) := hP.ok.w
 have hT := hC.T; have hS := hC.S; have hCC := hC.C
 have hsa : m.a.pc = 4 ∨ m.a.pc = 6 → C.base 0 ≤ m.a.sa := fun p => by
  rcases hfi with q | ⟨q, _⟩ | ⟨_, ⟨q, _⟩ | ⟨q, _⟩ | ⟨q, _⟩⟩
  ·omega
  ·omega
  ·omega
  ·omega
  ·have := q.at' hC (h.ub _ q.jb.1 q.jb.2).1 (x := 0) (by omega) (by omega)
   unfold Cf.base at *; omega
 obtain ⟨gP, ad, gT⟩ := Am.go (who := who) hC hb hP hf (fun q => by omega) hsa
 have gn := gT.n
 refine ⟨hf, gP, gn, ?_⟩
 clear gP gT gn
 by_cases c0 : m.a.pc = 0
 ·-- taking a slot
  have hps : (X a).ps = .tk 0 m.a.tk := by rw [hX, Ms.ps_wk, if_pos c0]
  have hsp : (X a).spot C = none := by rw [hX, Ms.spot_wk, if_neg (by omega)]
  have hsh' : Ps.fine C A.w F (.tk 0 m.a.tk) := by rw [← hps, hX]; exact hsh
  have st : m.step C who A = (let r := m.a.tk.step C who A
    if r.1 = false then (false, { m with a := { m.a with tk := r.2.1 } }, r.2.2)
    else if r.2.1.ok = true then (false, { m with a := { m.a with tk := r.2.1, at' := r.2.1.slot, pc := 1 } }, r.2.2)
    else (true, { m with a := { m.a with tk := r.2.1, at' := 0, pc := 1, oE := 7, oH := 0, oV := 0, oS := r.2.2.s } }, r.2.2)) := by
   unfold Am.step; rw [if_pos c0, if_neg (by omega)]
  have tkf : ∀ t : Tk, (Ms.wk { m with a := { m.a with tk := t } }).fine C A.w := fun t => ⟨⟨hcl, hown, hpc⟩, .inl c0⟩
  have tkp : ∀ t : Tk, (Ms.wk { m with a := { m.a with tk := t } }).ps = .tk 0 t := fun t => by rw [Ms.ps_wk, if_pos c0]
  have tks : ∀ t : Tk, (Ms.wk { m with a := { m.a with tk := t } }).spot C = none := fun t => by rw [Ms.spot_wk, if_neg (by show ¬ (3 ≤ m.a.pc ∧ m.a.pc ≤ 6); omega)]
  rw [st]
  have ok := hsh'.2.2.1
  rcases htk : m.a.tk with ⟨tp, tt, tn, ts, to⟩
  rw [htk] at hsh' hps ok
  simp only at ok
  by_cases q0 : tp = 0
  ·subst q0
   rw [Tk.step0]
   by_cases qs : topS (A.w 1) < 0
   ·have e : decide (topS (A.w 1) < 0) = true := decide_eq_true qs
    simp only [e, ok, Bool.true_eq_false, Bool.false_eq_true, if_false]
    refine ⟨.inr ⟨rfl, .inl ⟨.inl rfl, F, ?_⟩⟩, fun q => by cases q⟩
    exact h.stay hC a0 a1 (h.sh.mono (by omega) |>.tk_new ⟨a0, a1⟩ hps 0) trivial (.inr rfl)
   ·have e : decide (topS (A.w 1) < 0) = false := decide_eq_false qs
    simp only [e, if_true]
    refine ⟨.inl ⟨rfl, F, ?_⟩, fun _ => (by first | rfl | trivial)⟩
    refine h.stay hC a0 a1 ?_ (tkf _) (.inr (tks _))
    rw [tkp]; exact (h.sh.mono (by omega)).tk_look hC ⟨a0, a1⟩ W64 hps qs
  ·by_cases q1 : tp = 1
   ·subst q1
    rw [Tk.step1]
    simp only [ok, if_true]
    refine ⟨.inl ⟨rfl, F, ?_⟩, fun _ => (by first | rfl | trivial)⟩
    refine h.stay hC a0 a1 ?_ (tkf _) (.inr (tks _))
    rw [tkp, ← ok]; exact (h.sh.mono (by omega)).tk_link ⟨a0, a1⟩ W64 hps rfl
   ·have q2 : tp = 2 := by rcases hsh'.2.2.2 with q | ⟨q, _⟩ <;> simp only at q <;> omega
    subst q2
    rw [Tk.step2]
    by_cases qe : A.w 1 = tt
    ·have e : decide (A.w 1 = tt) = true := decide_eq_true qe
     simp only [e, Bool.true_eq_false, if_false, if_true]
     refine ⟨.inl ⟨rfl, ?_⟩, fun _ => (by first | rfl | trivial)⟩
     obtain ⟨F', eF, ew, sh', hno⟩ := h.sh.tk_take hC (by omega) ⟨a0, a1⟩ hps rfl qe 0
     have ew' : ((A.by who).cas 1 tt (putTop tn (topN tt + 1))).w = tookW C A.w := by
      rw [(aft_cas (who := who) (a := 1) (o := tt) (v := putTop tn (topN tt + 1)) hP.ok (by omega)).w, if_pos qe]; exact ew
     have hmem := h.sh.fre.c.mem ts (by rw [eF]; simp)
     refine ⟨F', ?_⟩
     show Gm C n _ F' (k + 1) ((A.by who).cas 1 tt (putTop tn (topN tt + 1))).w
     rw [ew']
     refine h.word hC a0 a1 (by rw [Ms.ps_wk, if_neg (show ¬ (1 : Int) = 0 by decide), if_neg (show ¬ (1 : Int) = 7 by decide)]; exact sh') (fun s hs hn => absurd (by rw [eF]; exact List.mem_cons_of_mem _ hs) hn) (fun y hy => ?_) ⟨⟨hcl, hown, by show (0 : Int) ≤ 1 ∧ (1 : Int) ≤ 7; decide⟩, .inr (.inl ⟨rfl, ?_⟩)⟩ (.inr (by rw [Ms.spot_wk, if_neg (by show ¬ (3 ≤ (1 : Int) ∧ (1 : Int) ≤ 6); decide)])) fun s hs => ?_
     ·unfold tookW; rw [upd_ne]
      rcases hy with ⟨s, s0, s1, e⟩ | ⟨c, c0, c3, e⟩ | ⟨j, j0, j1, e⟩ | ⟨j, i, j0, j1, i0, i1, e⟩
      ·unfold Cf.slot at e; omega
      ·omega
      ·unfold Cf.chunk at e; omega
      ·have := base_ge hC j0 j1 i0; omega
     ·exact h.fr ts (by rw [eF]; simp)
     ·rw [Ms.ps_wk, if_neg (show ¬ (1 : Int) = 0 by decide), if_neg (show ¬ (1 : Int) = 7 by decide)] at hs
      rw [← show ts = s from hs]; exact hmem
    ·have e : decide (A.w 1 = tt) = false := decide_eq_false qe
     simp only [e, if_true]
     refine ⟨.inl ⟨rfl, F, ?_⟩, fun _ => (by first | rfl | trivial)⟩
     have ew' : ((A.by who).cas 1 tt (putTop tn (topN tt + 1))).w = A.w := by
      rw [(aft_cas (who := who) (a := 1) (o := tt) (v := putTop tn (topN tt + 1)) hP.ok (by omega)).w, if_neg qe]
     show Gm C n _ F (k + 1) ((A.by who).cas 1 tt (putTop tn (topN tt + 1))).w
     rw [ew']
     refine h.stay hC a0 a1 ?_ (tkf _) (.inr (tks _))
     rw [tkp]; exact (h.sh.mono (by omega)).tk_fail ⟨a0, a1⟩ hps
 by_cases c7 : m.a.pc = 7
 ·-- giving the slot back
  have hps : (X a).ps = .gv 0 m.g := by rw [hX, Ms.ps_wk, if_neg c0, if_pos c7]
  have hsp : (X a).spot C = none := by rw [hX, Ms.spot_wk, if_neg (by omega)]
  obtain ⟨hg1, hg2, hg3, hg4⟩ : m.a.gen = 1 ∧ A.w (C.slot m.a.at') = frW ∧ m.g.slot = m.a.at' ∧ m.a.oE = 6 := by
   rcases hfi with q | ⟨q, _⟩ | ⟨q0, ⟨q, _⟩ | ⟨_, q1, q2, q3⟩ | ⟨_, q⟩⟩
   ·omega
   ·omega
   ·omega
   ·exact ⟨q0, q1, q2, q3⟩
   ·omega
  have hsh' : Ps.fine C A.w F (.gv 0 m.g) := by rw [← hps, hX]; exact hsh
  have st : m.step C who A = ((m.g.step C who A).1, { m with g := (m.g.step C who A).2.1 }, (m.g.step C who A).2.2) := by
   unfold Am.step; rw [if_neg c0, if_neg (by omega), if_neg (by omega), if_neg (by omega), if_neg (by omega), if_neg (by omega), if_neg (by omega)]
  have gp : ∀ g : Gv, (Ms.wk { m with g := g }).ps = .gv 0 g := fun g => by rw [Ms.ps_wk, if_neg c0, if_pos c7]
  have gs : ∀ g : Gv, (Ms.wk { m with g := g }).spot C = none := fun g => by rw [Ms.spot_wk, if_neg (by show ¬ (3 ≤ m.a.pc ∧ m.a.pc ≤ 6); omega)]
  have gf : ∀ (g : Gv) (w : Int → Int), g.slot = m.a.at' → w (C.slot m.a.at') = frW → (Ms.wk { m with g := g }).fine C w := fun g w e e' => ⟨⟨hcl, hown, hpc⟩, .inr (.inr ⟨hg1, .inr (.inl ⟨c7, e', e, hg4⟩)⟩)⟩
  rw [st]
  refine ⟨?_, fun _ => rfl⟩
  have hg5 := hsh'.2.2.2.2
  have hslot : 0 ≤ m.g.slot ∧ m.g.slot < C.S := ⟨hsh'.2.1, hsh'.2.2.1⟩
  rcases hgg : m.g with ⟨gp0, gsl, gt⟩
  rw [hgg] at hsh' hps hg3 hg5 hslot
  simp only at hg3 hg5 hslot
  by_cases q0 : gp0 = 0
  ·subst q0
   rw [Gv.step0]
   refine .inl ⟨rfl, F, h.stay hC a0 a1 ?_ (gf _ _ hg3 hg2) (.inr (gs _))⟩
   rw [gp]; exact (h.sh.mono (by omega)).gv_look hC ⟨a0, a1⟩ W64 hps
  ·by_cases q1 : gp0 = 1
   ·subst q1
    rw [Gv.step1]
    refine .inl ⟨rfl, F, ?_⟩
    show Gm C n _ F (k + 1) (upd A.w (C.slot gsl + 1) (putTop (topS gt) 0))
    have far : ∀ y, ((∃ s, 0 ≤ s ∧ s < C.S ∧ y = C.slot s) ∨ (∃ c, 0 ≤ c ∧ c ≤ 3 ∧ y = 2 + c) ∨ (∃ j, 0 ≤ j ∧ j < C.C ∧ y = C.chunk j) ∨ (∃ j i, 0 ≤ j ∧ j < C.C ∧ 0 ≤ i ∧ i < C.W ∧ y = C.base j + i)) → upd A.w (C.slot gsl + 1) (putTop (topS gt) 0) y = A.w y := fun y hy => by
     rw [upd_ne]
     rcases hy with ⟨s, s0, s1, e⟩ | ⟨c, c0, c3, e⟩ | ⟨j, j0, j1, e⟩ | ⟨j, i, j0, j1, i0, i1, e⟩
     ·unfold Cf.slot at *; omega
     ·unfold Cf.slot; omega
     ·unfold Cf.chunk at e; unfold Cf.slot; omega
     ·have := base_ge hC j0 j1 i0; unfold Cf.slot; omega
    refine h.word hC a0 a1 ?_ (fun s hs hn => absurd hs hn) far (gf _ _ hg3 hg2) (.inr (gs _)) fun s hs => ?_
    ·rw [gp]; exact (h.sh.mono (by omega)).gv_link hC ⟨a0, a1⟩ hps rfl
    ·rw [gp] at hs; rw [← show gsl = s from hs]; exact hslot
   ·have q2 : gp0 = 2 := by rcases hg5 with q | ⟨q, _⟩ <;> omega
    subst q2
    rw [Gv.step2]
    by_cases qe : A.w 1 = gt
    ·have e : decide (A.w 1 = gt) = true := decide_eq_true qe
     have ew' : ((A.by who).cas 1 gt (putTop gsl (topN gt + 1))).w = upd A.w 1 (putTop gsl (topN gt + 1)) := by
      rw [(aft_cas (who := who) (a := 1) (o := gt) (v := putTop gsl (topN gt + 1)) hP.ok (by omega)).w, if_pos qe]
     refine .inr ⟨e, .inl ⟨.inr hg4, gsl :: F, ?_⟩⟩
     show Gm C n _ (gsl :: F) (k + 1) ((A.by who).cas 1 gt (putTop gsl (topN gt + 1))).w
     rw [ew']
     have far : ∀ y, ((∃ s, 0 ≤ s ∧ s < C.S ∧ y = C.slot s) ∨ (∃ c, 0 ≤ c ∧ c ≤ 3 ∧ y = 2 + c) ∨ (∃ j, 0 ≤ j ∧ j < C.C ∧ y = C.chunk j) ∨ (∃ j i, 0 ≤ j ∧ j < C.C ∧ 0 ≤ i ∧ i < C.W ∧ y = C.base j + i)) → upd A.w 1 (putTop gsl (topN gt + 1)) y = A.w y := fun y hy => by
      rw [upd_ne]
      rcases hy with ⟨s, s0, s1, e⟩ | ⟨c, c0, c3, e⟩ | ⟨j, j0, j1, e⟩ | ⟨j, i, j0, j1, i0, i1, e⟩
      ·unfold Cf.slot at *; omega
      ·omega
      ·unfold Cf.chunk at e; omega
      ·have := base_ge hC j0 j1 i0; omega
     refine h.word hC a0 a1 (h.sh.gv_give hC (by omega) ⟨a0, a1⟩ hps rfl qe 0) (fun s hs hn => ?_) far trivial (.inr rfl) fun s hs => hs.elim
     rcases List.mem_cons.1 hs with rfl | hs
     ·rw [far _ (.inl ⟨_, hslot.1, hslot.2, rfl⟩), hg3]; exact hg2
     ·exact absurd hs hn
    ·have e : decide (A.w 1 = gt) = false := decide_eq_false qe
     have ew' : ((A.by who).cas 1 gt (putTop gsl (topN gt + 1))).w = A.w := by
      rw [(aft_cas (who := who) (a := 1) (o := gt) (v := putTop gsl (topN gt + 1)) hP.ok (by omega)).w, if_neg qe]
     refine .inl ⟨e, F, ?_⟩
     show Gm C n _ F (k + 1) ((A.by who).cas 1 gt (putTop gsl (topN gt + 1))).w
     rw [ew']
     refine h.stay hC a0 a1 ?_ (gf _ _ hg3 hg2) (.inr (gs _))
     rw [gp]; exact (h.sh.mono (by omega)).gv_fail ⟨a0, a1⟩ hps
 -- who has a slot
 have hps : (X a).ps = .gv 0 ⟨0, m.a.at', 0⟩ := by rw [hX, Ms.ps_wk, if_neg c0, if_neg c7]
 have hhas : (X a).ps.has m.a.at' := by rw [hps]; rfl
 have psW : ∀ m' : Am, m'.a.pc ≠ 0 → m'.a.pc ≠ 7 → m'.a.at' = m.a.at' → (Ms.wk m').ps = (X a).ps := fun m' p q e => by rw [hps, Ms.ps_wk, if_neg p, if_neg q, e]
 have shS : ∀ m' : Am, (Ms.wk m').ps = (X a).ps → Sh (fun a => 0 ≤ a ∧ a < n) C A.w (updP (fun a => (X a).ps) a (Ms.wk m').ps) F (k + 1) := fun m' e => by
  rw [e, updP_self (P := fun a => (X a).ps)]; exact h.sh.mono (by omega)
 by_cases c1 : m.a.pc = 1
 ·have hfr : A.w (C.slot m.a.at') = frW := by
   rcases hfi with q | ⟨_, q⟩ | ⟨_, ⟨q, _⟩ | ⟨q, _⟩ | ⟨_, q⟩⟩
   ·omega
   ·exact q
   ·omega
   ·omega
   ·omega
  have st : m.step C who A = (false, { m with a := { m.a with gen := slG (A.w (C.slot m.a.at')), pc := 2 }, t := Pl.new (classOf m.a.size) }, (A.by who).load (C.slot m.a.at')) := by
   unfold Am.step; rw [if_neg c0, if_pos c1]
  rw [st]
  refine ⟨.inl ⟨rfl, F, h.stay hC a0 a1 (shS _ (psW _ (by show (2 : Int) ≠ 0; decide) (by show (2 : Int) ≠ 7; decide) rfl)) ⟨⟨hcl, hown, by show (0 : Int) ≤ 2 ∧ (2 : Int) ≤ 7; decide⟩, .inr (.inr ⟨by show slG (A.w (C.slot m.a.at')) = 1; rw [hfr]; exact frW_gen, .inl ⟨rfl, hfr, Pl.new_fine hC hcl hcl'.2, rfl⟩⟩)⟩ (.inr (by rw [Ms.spot_wk, if_neg (by show ¬ (3 ≤ (2 : Int) ∧ (2 : Int) ≤ 6); decide)]))⟩, fun _ => (by first | rfl | trivial)⟩
 have hgen : m.a.gen = 1 := by
  rcases hfi with q | ⟨q, _⟩ | ⟨q, _⟩
  ·omega
  ·omega
  ·exact q
 by_cases c2 : m.a.pc = 2
 ·obtain ⟨hfr, htf, htc⟩ : A.w (C.slot m.a.at') = frW ∧ m.t.fine C ∧ m.t.cls = classOf m.a.size := by
   rcases hfi with q | ⟨q, _⟩ | ⟨_, ⟨_, q⟩ | ⟨q, _⟩ | ⟨_, q⟩⟩
   ·omega
   ·omega
   ·exact q
   ·omega
   ·omega
  have st : m.step C who A = (let r := m.t.step C who A
    if r.1 = false then (false, { m with t := r.2.1 }, r.2.2)
    else if r.2.1.ok = true then (false, { m with a := { m.a with sa := r.2.1.sa, sc := r.2.1.sc, pc := 3 }, t := r.2.1 }, r.2.2)
    else (false, { m with a := { m.a with sa := 0, sc := 0, pc := 7, oE := 6, oH := 0, oV := 0, oS := r.2.2.s }, t := r.2.1, g := ⟨0, m.a.at', 0⟩ }, r.2.2)) := by
   unfold Am.step; rw [if_neg c0, if_neg c1, if_pos c2]
  have hck := htf.chunks (who := who) hC hb hP fun j j0 j1 => (h.ub j j0 j1).2
  have hop : ∀ c, 0 ≤ c → c ≤ 3 → (m.t.step C who A).2.2.w (2 + c) ≤ C.C := ((Pl.go (who := who) hC hb hP htf.fit).1).op
  -- whatever it does to the chunks, all but it goes on
  have rest : ∀ (w' : Int → Int) (x' : Ms), (∀ y, (∀ c, 0 ≤ c → c ≤ 3 → y ≠ 2 + c) → (∀ j, 0 ≤ j → j < C.C → y ≠ C.chunk j) → w' y = A.w y) → (∀ c, 0 ≤ c → c ≤ 3 → w' (2 + c) ≤ C.C) →
    (∀ j, 0 ≤ j → j < C.C → (chU (w' (C.chunk j)) ≤ C.W ∧ (chS (w' (C.chunk j)) = 0 → chU (w' (C.chunk j)) = 0)) ∧ chU (A.w (C.chunk j)) ≤ chU (w' (C.chunk j)) ∧ (chS (A.w (C.chunk j)) = 1 → 0 < chU (A.w (C.chunk j)) → chS (w' (C.chunk j)) = 1 ∧ chC (w' (C.chunk j)) = chC (A.w (C.chunk j)))) →
    x'.ps = (X a).ps → x'.fine C w' → (∀ b j i r j' i' r', 0 ≤ b → b < n → b ≠ a → x'.spot C = some (j, i, r) → (X b).spot C = some (j', i', r') → j ≠ j' ∨ i + r ≤ i' ∨ i' + r' ≤ i) → Gm C n (updM X a x') F (k + 1) w' := by
   intro w' x' hw ho hc hp hx hap
   have far : ∀ y, y = 1 ∨ C.slot 0 ≤ y ∧ y < C.slot C.S ∨ 6 + C.T + 2 * C.S + 3 * C.C ≤ y → w' y = A.w y := fun y hy => hw y (fun c c0 c3 => by unfold Cf.slot at hy; omega) fun j j0 j1 => by unfold Cf.slot at hy; unfold Cf.chunk; omega
   have wS : ∀ t, 0 ≤ t → t < C.S → w' (C.slot t) = A.w (C.slot t) := fun t t0 t1 => far _ (.inr (.inl (by unfold Cf.slot; omega)))
   have wL : ∀ t, 0 ≤ t → t < C.S → w' (C.slot t + 1) = A.w (C.slot t + 1) := fun t t0 t1 => far _ (.inr (.inl (by unfold Cf.slot; omega)))
   have w1 := far 1 (.inl rfl)
   have wW : ∀ j i, 0 ≤ j → j < C.C → 0 ≤ i → w' (C.base j + i) = A.w (C.base j + i) := fun j i j0 j1 i0 => far _ (.inr (.inr (base_ge hC j0 j1 i0)))
   have sh' : Sh (fun a => 0 ≤ a ∧ a < n) C w' (updP (fun a => (X a).ps) a x'.ps) F (k + 1) := by
    rw [hp, updP_self (P := fun a => (X a).ps)]
    have hm := h.sh.mono (show k ≤ k + 1 by omega)
    refine ⟨⟨?_, hm.fre.nd⟩, fun b hb => (hm.each b hb).keep w1 (fun _ _ q => q) fun t t0 t1 _ => by rw [wL t t0 t1], hm.apart, by rw [w1]; exact hm.num⟩
    rw [w1]; exact hm.fre.c.congr fun t ht => by have := hm.fre.c.mem t ht; rw [wL t this.1 this.2]
   refine h.one a0 a1 sh' (fun t ht => by have := h.sh.fre.c.mem t ht; rw [wS t this.1 this.2]; exact h.fr t ht) ho (fun j j0 j1 => (hc j j0 j1).1) (fun j i j0 j1 i0 i1 i2 => ?_) hx (fun b b0 b1 hb => ?_) hap
   ·have := (hc j j0 j1).2.1
    rw [wW j i j0 j1 i0]; exact h.nil j i j0 j1 i0 (by omega) i2
   ·exact (h.each b b0 b1).keep (fun t ht => by have := (h.slot_in b0 b1 ht).1; exact wS t this.1 this.2) (fun j j0 j1 e u => by have := hc j j0 j1; have := this.2.2 e u; exact ⟨this.1, this.2, (hc j j0 j1).2.1⟩) fun j i r e j0 j1 i0 i1 y y0 y1 => wW j (i + y) j0 j1 (by omega)
  have ckr : ∀ {w' : Int → Int}, CkR C A.w w' → ∀ j, 0 ≤ j → j < C.C → (chU (w' (C.chunk j)) ≤ C.W ∧ (chS (w' (C.chunk j)) = 0 → chU (w' (C.chunk j)) = 0)) ∧ chU (A.w (C.chunk j)) ≤ chU (w' (C.chunk j)) ∧ (chS (A.w (C.chunk j)) = 1 → 0 < chU (A.w (C.chunk j)) → chS (w' (C.chunk j)) = 1 ∧ chC (w' (C.chunk j)) = chC (A.w (C.chunk j))) := fun {w'} q j j0 j1 => by
   have hu := h.ub j j0 j1
   have hW := hC.W
   rcases q.c j j0 j1 with e | ⟨e1, e2⟩
   ·rw [e]; exact ⟨hu, Int.le_refl _, fun a _ => ⟨a, rfl⟩⟩
   ·exact ⟨⟨by omega, fun _ => e2⟩, by omega, fun _ b => by omega⟩
  have slw : ∀ {w' : Int → Int}, (∀ y, (∀ c, 0 ≤ c → c ≤ 3 → y ≠ 2 + c) → (∀ j, 0 ≤ j → j < C.C → y ≠ C.chunk j) → w' y = A.w y) → w' (C.slot m.a.at') = frW := fun {w'} q => by
   have hat := (h.slot_in a0 a1 hhas).1
   rw [q _ (fun c c0 c3 => by unfold Cf.slot; omega) fun j j0 j1 => by unfold Cf.slot Cf.chunk; omega]; exact hfr
  rw [st]
  rcases hck with ⟨d, hfin, hcls, ck⟩ | ⟨d, ok, ck⟩ | ⟨d, ok, ⟨esc, esa⟩, ⟨s1, s2, s3⟩, xn, ew⟩
  ·simp only [d, if_true]
   refine ⟨.inl ⟨rfl, F, ?_⟩, fun _ => (by first | rfl | trivial)⟩
   refine rest _ _ ck.o hop (ckr ck) (psW _ c0 c7 rfl) ⟨⟨hcl, hown, hpc⟩, .inr (.inr ⟨hgen, .inl ⟨c2, slw ck.o, hfin, hcls.trans htc⟩⟩)⟩ fun b j i r j' i' r' _ _ _ e => ?_
   rw [Ms.spot_wk, if_neg (by show ¬ (3 ≤ m.a.pc ∧ m.a.pc ≤ 6); omega)] at e; cases e
  ·simp only [d, ok, Bool.true_eq_false, Bool.false_eq_true, if_false]
   refine ⟨.inl ⟨rfl, F, ?_⟩, fun _ => (by first | rfl | trivial)⟩
   refine rest _ _ ck.o hop (ckr ck) ?_ ⟨⟨hcl, hown, by show (0 : Int) ≤ 7 ∧ (7 : Int) ≤ 7; decide⟩, .inr (.inr ⟨hgen, .inr (.inl ⟨rfl, slw ck.o, rfl, rfl⟩)⟩)⟩ fun b j i r j' i' r' _ _ _ e => ?_
   ·rw [hps, Ms.ps_wk, if_neg (show ¬ (7 : Int) = 0 by decide), if_pos rfl]
   ·rw [Ms.spot_wk, if_neg (by show ¬ (3 ≤ (7 : Int) ∧ (7 : Int) ≤ 6); decide)] at e; cases e
  ·simp only [d, ok, Bool.true_eq_false, if_false, if_true]
   refine ⟨.inl ⟨rfl, F, ?_⟩, fun _ => (by first | rfl | trivial)⟩
   have hat := htf.fit.at'
   generalize hj : m.t.at' = j at *
   have hu := h.ub j hat.1 hat.2
   have ub := chU_bd (A.w (C.chunk j))
   rw [htc] at s2 s3 ew
   have hput := ch_put' (st := 1) (c := classOf m.a.size) (us := chU (A.w (C.chunk j)) + roomOf (classOf m.a.size)) (sp := xn) (by decide) (by omega) (by have := hC.W; omega)
   have ho : ∀ y, (∀ c, 0 ≤ c → c ≤ 3 → y ≠ 2 + c) → (∀ j, 0 ≤ j → j < C.C → y ≠ C.chunk j) → (m.t.step C who A).2.2.w y = A.w y := fun y _ hy => by rw [ew, upd_ne _ _ (hy j hat.1 hat.2)]
   have wj : (m.t.step C who A).2.2.w (C.chunk j) = putChunk 1 (classOf m.a.size) (chU (A.w (C.chunk j)) + roomOf (classOf m.a.size)) xn := by rw [ew, upd_same]
   have hsai : (m.t.step C who A).2.1.sa - C.base (m.t.step C who A).2.1.sc = chU (A.w (C.chunk j)) := by rw [esc, esa]; omega
   have wW : ∀ i, 0 ≤ i → (m.t.step C who A).2.2.w (C.base j + i) = A.w (C.base j + i) := fun i i0 => by
    have := base_ge hC hat.1 hat.2 i0
    exact ho _ (fun c c0 c3 => by omega) fun j' j0 j1 => by unfold Cf.chunk; omega
   refine rest _ _ ho hop (fun j' j0 j1 => ?_) (psW _ (by show (3 : Int) ≠ 0; decide) (by show (3 : Int) ≠ 7; decide) rfl) ⟨⟨hcl, hown, by show (0 : Int) ≤ 3 ∧ (3 : Int) ≤ 7; decide⟩, .inr (.inr ⟨hgen, .inr (.inr ⟨?_, .inl ⟨.inl rfl, slw ho, ?_⟩⟩)⟩)⟩ fun b j1 i1 r1 j' i' r' b0 b1 hb e e' => ?_
   ·by_cases q : j' = j
    ·subst q; rw [wj, hput.1, hput.2.1, hput.2.2]
     exact ⟨⟨s3, fun q => by omega⟩, by omega, fun _ _ => ⟨rfl, s2.symm⟩⟩
    ·rw [ew, upd_ne _ _ fun e => q (chunk_inj e)]
     exact ⟨h.ub j' j0 j1, Int.le_refl _, fun a _ => ⟨a, rfl⟩⟩
   ·show Rm C _ (m.t.step C who A).2.1.sc ((m.t.step C who A).2.1.sa - C.base (m.t.step C who A).2.1.sc) m.a.size
    rw [hsai, esc]
    refine ⟨hcl, hat, ⟨by omega, by rw [wj, hput.2.2]; exact Int.le_refl _⟩, by rw [wj]; exact hput.1, by rw [wj]; exact hput.2.1, fun x x0 x1 => ?_⟩
    rw [wW _ (by omega)]; exact h.nil j _ hat.1 hat.2 (by omega) (by omega) (by omega)
   ·show (m.t.step C who A).2.2.w (m.t.step C who A).2.1.sa = 0
    rw [esa, wW _ (by omega)]; exact h.nil j _ hat.1 hat.2 (by omega) (by omega) (by omega)
   ·rw [Ms.spot_wk, if_pos (show (3 : Int) ≤ 3 ∧ (3 : Int) ≤ 6 by decide)] at e
    cases e
    obtain ⟨q1, q2, q3⟩ := Ms.spot_fine (h.each b b0 b1) e'
    by_cases q : j = j'
    ·subst q; exact .inr (.inr (by show i' + r' ≤ (m.t.step C who A).2.1.sa - C.base (m.t.step C who A).2.1.sc; rw [hsai]; omega))
    ·exact .inl (by show (m.t.step C who A).2.1.sc ≠ j'; rw [esc]; exact q)
 -- who has words, too
 obtain ⟨hrm, hph⟩ : Rm C A.w m.a.sc (m.a.sa - C.base m.a.sc) m.a.size ∧ ((m.a.pc = 3 ∨ m.a.pc = 4) ∧ A.w (C.slot m.a.at') = frW ∧ A.w m.a.sa = 0 ∨
    m.a.pc = 5 ∧ A.w (C.slot m.a.at') = frW ∧ A.w m.a.sa = putHead 1 m.a.size m.a.at' 1 false ∨
    m.a.pc = 6 ∧ A.w (C.slot m.a.at') = putSlot 1 m.a.sa 1 0 ∧ A.w m.a.sa = putHead 1 m.a.size m.a.at' 1 false ∧ m.a.oE = 0 ∧ m.a.oH = putHandle m.a.at' 1) := by
  rcases hfi with q | ⟨q, _⟩ | ⟨_, ⟨q, _⟩ | ⟨q, _⟩ | q⟩
  ·omega
  ·omega
  ·omega
  ·omega
  ·exact q
 have p36 : 3 ≤ m.a.pc ∧ m.a.pc ≤ 6 := by omega
 have hsp : (X a).spot C = some (m.a.sc, m.a.sa - C.base m.a.sc, roomOf (classOf m.a.size)) := by rw [hX, Ms.spot_wk, if_pos p36]
 have esa : C.base m.a.sc + (m.a.sa - C.base m.a.sc + 0) = m.a.sa := by omega
 have hat := (h.slot_in a0 a1 hhas).1
 have hu := h.ub _ hrm.jb.1 hrm.jb.2
 have spW : ∀ m' : Am, (3 ≤ m'.a.pc ∧ m'.a.pc ≤ 6) → m'.a.sc = m.a.sc → m'.a.sa = m.a.sa → m'.a.size = m.a.size → (Ms.wk m').spot C = (X a).spot C := fun m' p e1 e2 e3 => by rw [hsp, Ms.spot_wk, if_pos p, e1, e2, e3]
 by_cases c3 : m.a.pc = 3
 ·obtain ⟨q1, q2⟩ : A.w (C.slot m.a.at') = frW ∧ A.w m.a.sa = 0 := by rcases hph with ⟨_, q⟩ | ⟨q, _⟩ | ⟨q, _⟩; exact q; omega; omega
  have st : m.step C who A = (false, { m with a := { m.a with pc := 4 } }, (A.by who).add (C.chunk m.a.sc + 1) (roomOf (classOf m.a.size))) := by
   unfold Am.step; rw [if_neg c0, if_neg c1, if_neg c2, if_pos c3]
  rw [st]
  refine ⟨.inl ⟨rfl, F, ?_⟩, fun _ => (by first | rfl | trivial)⟩
  show Gm C n _ F (k + 1) ((A.by who).add (C.chunk m.a.sc + 1) (roomOf (classOf m.a.size))).w
  rw [(aft_add (who := who) (a := C.chunk m.a.sc + 1) (d := roomOf (classOf m.a.size)) hP.ok (by omega)).w]
  have jb := hrm.jb
  have sh' : Sh (fun a => 0 ≤ a ∧ a < n) C (upd A.w (C.chunk m.a.sc + 1) (IntKind.u64.wrap (A.w (C.chunk m.a.sc + 1) + roomOf (classOf m.a.size)))) (updP (fun a => (X a).ps) a (Ms.wk { m with a := { m.a with pc := 4 } }).ps) F (k + 1) := by
   rw [psW { m with a := { m.a with pc := 4 } } (by show (4 : Int) ≠ 0; decide) (by show (4 : Int) ≠ 7; decide) rfl, updP_self (P := fun a => (X a).ps)]
   have hm := h.sh.mono (show k ≤ k + 1 by omega)
   have w1 : upd A.w (C.chunk m.a.sc + 1) (IntKind.u64.wrap (A.w (C.chunk m.a.sc + 1) + roomOf (classOf m.a.size))) 1 = A.w 1 := upd_ne _ _ (by unfold Cf.chunk; omega)
   have wL : ∀ t, 0 ≤ t → t < C.S → upd A.w (C.chunk m.a.sc + 1) (IntKind.u64.wrap (A.w (C.chunk m.a.sc + 1) + roomOf (classOf m.a.size))) (C.slot t + 1) = A.w (C.slot t + 1) := fun t t0 t1 => upd_ne _ _ (by unfold Cf.chunk Cf.slot; omega)
   refine ⟨⟨?_, hm.fre.nd⟩, fun b hb => (hm.each b hb).keep w1 (fun _ _ q => q) fun t t0 t1 _ => by rw [wL t t0 t1], hm.apart, by rw [w1]; exact hm.num⟩
   rw [w1]; exact hm.fre.c.congr fun t ht => by have := hm.fre.c.mem t ht; rw [wL t this.1 this.2]
  refine h.word hC a0 a1 sh' (fun s hs hn => absurd hs hn) (fun y hy => ?_) ⟨⟨hcl, hown, by show (0 : Int) ≤ 4 ∧ (4 : Int) ≤ 7; decide⟩, .inr (.inr ⟨hgen, .inr (.inr ⟨hrm, .inl ⟨.inr rfl, q1, q2⟩⟩)⟩)⟩ (.inl (spW _ (by show (3 : Int) ≤ 4 ∧ (4 : Int) ≤ 6; decide) rfl rfl rfl)) fun s hs => ?_
  ·rw [upd_ne]
   rcases hy with ⟨s, s0, s1, e⟩ | ⟨c, c0, c3, e⟩ | ⟨j, j0, j1, e⟩ | ⟨j, i, j0, j1, i0, i1, e⟩
   ·unfold Cf.slot at e; unfold Cf.chunk; omega
   ·unfold Cf.chunk; omega
   ·unfold Cf.chunk at *; omega
   ·have := base_ge hC j0 j1 i0; unfold Cf.chunk; omega
  ·have e := psW { m with a := { m.a with pc := 4 } } (by show (4 : Int) ≠ 0; decide) (by show (4 : Int) ≠ 7; decide) rfl
   have hs' : (Ms.wk { m with a := { m.a with pc := 4 } }).ps.has s := hs
   rw [e] at hs'
   exact (h.slot_in a0 a1 hs').1
 -- what a word of one's own room being another one leaves of one's room
 have rmk : ∀ v, Rm C (upd A.w (C.base m.a.sc + (m.a.sa - C.base m.a.sc + 0)) v) m.a.sc (m.a.sa - C.base m.a.sc) m.a.size ∧ upd A.w (C.base m.a.sc + (m.a.sa - C.base m.a.sc + 0)) v (C.slot m.a.at') = A.w (C.slot m.a.at') := fun v => by
  have b1 := hrm.at' hC hu.1 (x := 0) (by omega) (by omega)
  have jb := hrm.jb
  refine ⟨⟨hrm.cl, hrm.jb, ?_, ?_, ?_, fun x x0 x1 => ?_⟩, upd_ne _ _ (by unfold Cf.slot; omega)⟩
  ·rw [upd_ne _ _ (by unfold Cf.chunk; omega)]; exact hrm.ib
  ·rw [upd_ne _ _ (by unfold Cf.chunk; omega)]; exact hrm.st
  ·rw [upd_ne _ _ (by unfold Cf.chunk; omega)]; exact hrm.cc
  ·rw [upd_ne _ _ (by omega)]; exact hrm.ze x x0 x1
 by_cases c4 : m.a.pc = 4
 ·obtain ⟨q1, q2⟩ : A.w (C.slot m.a.at') = frW ∧ A.w m.a.sa = 0 := by rcases hph with ⟨_, q⟩ | ⟨q, _⟩ | ⟨q, _⟩; exact q; omega; omega
  have st : m.step C who A = (false, { m with a := { m.a with pc := 5 } }, (A.by who).store m.a.sa (putHead 1 m.a.size m.a.at' m.a.gen m.a.own)) := by
   unfold Am.step; rw [if_neg c0, if_neg c1, if_neg c2, if_neg c3, if_pos c4]
  rw [st]
  refine ⟨.inl ⟨rfl, F, ?_⟩, fun _ => (by first | rfl | trivial)⟩
  show Gm C n _ F (k + 1) (upd A.w m.a.sa (putHead 1 m.a.size m.a.at' m.a.gen m.a.own))
  rw [hgen, hown]
  obtain ⟨r1, r2⟩ := rmk (putHead 1 m.a.size m.a.at' 1 false)
  have := h.roomw hC a0 a1 hsp (y := 0) (v := putHead 1 m.a.size m.a.at' 1 false) (x' := .wk { m with a := { m.a with pc := 5 } }) (k' := k + 1) (by omega) (by omega) (psW _ (by show (5 : Int) ≠ 0; decide) (by show (5 : Int) ≠ 7; decide) rfl) (by omega)
   ⟨⟨hcl, hown, by show (0 : Int) ≤ 5 ∧ (5 : Int) ≤ 7; decide⟩, .inr (.inr ⟨hgen, .inr (.inr ⟨r1, .inr (.inl ⟨rfl, by rw [r2]; exact q1, by show upd A.w _ _ m.a.sa = _; rw [esa, upd_same]⟩)⟩)⟩)⟩ (spW _ (by show (3 : Int) ≤ 5 ∧ (5 : Int) ≤ 6; decide) rfl rfl rfl)
  rw [esa] at this; exact this
 by_cases c5 : m.a.pc = 5
 ·obtain ⟨q1, q2⟩ : A.w (C.slot m.a.at') = frW ∧ A.w m.a.sa = putHead 1 m.a.size m.a.at' 1 false := by rcases hph with ⟨q, _⟩ | ⟨_, q⟩ | ⟨q, _⟩; omega; exact q; omega
  have st : m.step C who A = (false, { m with a := { m.a with pc := 6, oE := 0, oH := putHandle m.a.at' m.a.gen, oV := 0, oS := ((A.by who).store (C.slot m.a.at') (putSlot 1 m.a.sa m.a.gen 0)).s } }, (A.by who).store (C.slot m.a.at') (putSlot 1 m.a.sa m.a.gen 0)) := by
   unfold Am.step; rw [if_neg c0, if_neg c1, if_neg c2, if_neg c3, if_neg c4, if_pos c5]
  rw [st]
  refine ⟨.inl ⟨rfl, F, ?_⟩, fun _ => (by first | rfl | trivial)⟩
  show Gm C n _ F (k + 1) (upd A.w (C.slot m.a.at') (putSlot 1 m.a.sa m.a.gen 0))
  rw [hgen]
  have b1 := hrm.at' hC hu.1 (x := 0) (by omega) (by omega)
  have jb := hrm.jb
  have r1 : Rm C (upd A.w (C.slot m.a.at') (putSlot 1 m.a.sa 1 0)) m.a.sc (m.a.sa - C.base m.a.sc) m.a.size := by
   refine hrm.keep ⟨by rw [upd_ne _ _ (by unfold Cf.slot Cf.chunk; omega)]; exact hrm.st, by rw [upd_ne _ _ (by unfold Cf.slot Cf.chunk; omega)], by rw [upd_ne _ _ (by unfold Cf.slot Cf.chunk; omega)]; exact Int.le_refl _⟩ fun x x0 x1 => upd_ne _ _ ?_
   have := hrm.at' hC hu.1 x0 x1
   unfold Cf.slot; omega
  refine h.slotw hC a0 a1 hhas (psW _ (by show (6 : Int) ≠ 0; decide) (by show (6 : Int) ≠ 7; decide) rfl) (by omega) ⟨⟨hcl, hown, by show (0 : Int) ≤ 6 ∧ (6 : Int) ≤ 7; decide⟩, .inr (.inr ⟨hgen, .inr (.inr ⟨r1, .inr (.inr ⟨rfl, upd_same _ _ _, ?_, rfl, rfl⟩)⟩)⟩)⟩ (spW _ (by show (3 : Int) ≤ 6 ∧ (6 : Int) ≤ 6; decide) rfl rfl rfl)
  show upd A.w (C.slot m.a.at') (putSlot 1 m.a.sa 1 0) m.a.sa = _
  rw [upd_ne _ _ (by unfold Cf.slot; omega)]; exact q2
 ·have c6 : m.a.pc = 6 := by omega
  obtain ⟨q1, q2, q3, q4⟩ : A.w (C.slot m.a.at') = putSlot 1 m.a.sa 1 0 ∧ A.w m.a.sa = putHead 1 m.a.size m.a.at' 1 false ∧ m.a.oE = 0 ∧ m.a.oH = putHandle m.a.at' 1 := by rcases hph with ⟨q, _⟩ | ⟨q, _⟩ | ⟨_, q⟩; omega; omega; exact q
  have st : m.step C who A = (true, m, (A.by who).store m.a.sa (putHead 2 m.a.size m.a.at' m.a.gen m.a.own)) := by
   unfold Am.step; rw [if_neg c0, if_neg c1, if_neg c2, if_neg c3, if_neg c4, if_neg c5, if_pos c6]
  rw [st]
  refine ⟨.inr ⟨rfl, .inr ⟨q3, m.a.at', m.a.sc, m.a.sa - C.base m.a.sc, hat, q4, F, ?_⟩⟩, fun q => by cases q⟩
  show Gm C n _ F (k + 1) (upd A.w m.a.sa (putHead 2 m.a.size m.a.at' m.a.gen m.a.own))
  rw [hgen, hown]
  obtain ⟨r1, r2⟩ := rmk (putHead 2 m.a.size m.a.at' 1 false)
  have esa' : C.base m.a.sc + (m.a.sa - C.base m.a.sc) = m.a.sa := by omega
  have := h.roomw hC a0 a1 hsp (y := 0) (v := putHead 2 m.a.size m.a.at' 1 false) (x' := .md m.a.at' m.a.sc (m.a.sa - C.base m.a.sc) m.a.size) (k' := k + 1) (by omega) (by omega) (by rw [hps]; rfl) (by omega)
   ⟨r1, by rw [r2, esa']; exact q1, by rw [esa', esa, upd_same]⟩ (by rw [hsp]; rfl)
  rw [esa] at this; exact this
theorem Gm.park {s j i z : Int} {w : Int → Int} {X : Int → Ms} {a n k : Int} {F : List Int} (h : Gm C n (updM X a (.md s j i z)) F k w) (a0 : 0 ≤ a) (a1 : a < n) : Gm C (n + 1) (updM (updM X a .no) n (.md s j i z)) F k w := by
 have eO : ∀ b, b ≠ a → b ≠ n → updM (updM X a .no) n (.md s j i z) b = updM X a (.md s j i z) b := fun b h1 h2 => by rw [updM_ne h2, updM_ne h1, updM_ne h1]
 have eA : updM (updM X a .no) n (.md s j i z) a = .no := by rw [updM_ne (by omega), updM_same]
 have eN : updM (updM X a .no) n (.md s j i z) n = .md s j i z := updM_same
 have eM : updM X a (.md s j i z) a = .md s j i z := updM_same
 -- where each was
 have wh : ∀ b, 0 ≤ b → b < n + 1 → b ≠ a → ∃ c, (0 ≤ c ∧ c < n) ∧ updM (updM X a .no) n (.md s j i z) b = updM X a (.md s j i z) c ∧ (b = n ∧ c = a ∨ b ≠ n ∧ c = b) := fun b b0 b1 hb => by
  by_cases e : b = n
  ·exact ⟨a, ⟨a0, a1⟩, by rw [e, eN, eM], .inl ⟨e, rfl⟩⟩
  ·exact ⟨b, ⟨b0, by omega⟩, eO b hb e, .inr ⟨e, rfl⟩⟩
 refine ⟨⟨h.sh.fre, fun b hb => ?_, fun b c t hb hc h1 h2 => ?_, h.sh.num⟩, h.op, h.ub, h.nil, h.fr, fun b b0 b1 => ?_, fun b c j1 i1 r1 j2 i2 r2 b0 b1 c0 c1 hbc h1 h2 => ?_⟩
 ·by_cases e : b = a
  ·subst e; rw [eA]; exact ⟨⟨Int.le_refl 0, by decide⟩, by decide, rfl, .inl rfl⟩
  ·obtain ⟨c, hc, e1, _⟩ := wh b hb.1 hb.2 e
   rw [e1]; exact h.sh.each c hc
 ·by_cases e : b = a
  ·subst e; rw [eA] at h1; exact h1.elim
  ·by_cases e' : c = a
   ·subst e'; rw [eA] at h2; exact h2.elim
   ·obtain ⟨b', hb', q1, q2⟩ := wh b hb.1 hb.2 e
    obtain ⟨c', hc', q3, q4⟩ := wh c hc.1 hc.2 e'
    rw [q1] at h1; rw [q3] at h2
    have := h.sh.apart b' c' t hb' hc' h1 h2
    omega
 ·by_cases e : b = a
  ·subst e; rw [eA]; trivial
  ·obtain ⟨c, hc, e1, _⟩ := wh b b0 b1 e
   rw [e1]; exact h.each c hc.1 hc.2
 ·by_cases e : b = a
  ·subst e; rw [eA] at h1; cases h1
  ·by_cases e' : c = a
   ·subst e'; rw [eA] at h2; cases h2
   ·obtain ⟨b', hb', q1, q2⟩ := wh b b0 b1 e
    obtain ⟨c', hc', q3, q4⟩ := wh c c0 c1 e'
    rw [q1] at h1; rw [q3] at h2
    exact h.ap b' c' j1 i1 r1 j2 i2 r2 hb'.1 hb'.2 hc'.1 hc'.2 (by omega) h1 h2
end
end Go.Fl
namespace Go.Fl
open Go
set_option linter.unusedVariables false
set_option linter.unusedSimpArgs false
variable {N : Nm} {A B : Ar} {σ : Mem} {K : Value → Mem → Prop} {C : Cf} {who : Int}
structure Snd (C : Cf) (A : Ar) (h size : Int) (own : Bool) : Prop where
 hh : 65536 ≤ h ∧ h < 4294967296
 s : h % 65536 < C.S
 st : slS (A.w (C.slot (h % 65536))) = 1
 ge : slG (A.w (C.slot (h % 65536))) = h / 65536
 ve : slV (A.w (C.slot (h % 65536))) = 0
 sz : 1 ≤ size ∧ size ≤ 16
 a0 : C.base 0 ≤ slA (A.w (C.slot (h % 65536)))
 a1 : slA (A.w (C.slot (h % 65536))) + size < C.len
 hd : A.w (slA (A.w (C.slot (h % 65536)))) = putHead 2 size (h % 65536) (h / 65536) own
 ze : ∀ i, 0 ≤ i → i < size → A.w (slA (A.w (C.slot (h % 65536))) + 1 + i) = 0
 cs : chS (A.w (C.chunk (ofC C (slA (A.w (C.slot (h % 65536))))))) = 1
 cc : chC (A.w (C.chunk (ofC C (slA (A.w (C.slot (h % 65536))))))) = classOf size
theorem neFlat {K : Value → Prop} {a b c d : Int} {e : Bool} : xF (fBin .neq (.flat [true, true, true, true, false])) [.agg #[.int .i64 a, .int .i64 b, .int .i64 c, .int .i64 d, .bool e], .agg #[.int .i64 a, .int .i64 b, .int .i64 c, .int .i64 d, .bool e]] K = K (.bool false) := by
 simp [xF, fBin, eqV, eqCells, eqCell]
theorem ofC_bd (hC : C.ok) {a : Int} (h0 : C.base 0 ≤ a) (h1 : a < C.len) : 0 ≤ ofC C a ∧ ofC C a < C.C := by
 have hb0 : C.base 0 = 6 + C.T + 2 * C.S + 3 * C.C := by unfold Cf.base; omega
 have hW := hC.W
 have e : C.len = 6 + C.T + 2 * C.S + 3 * C.C + C.W * C.C := rfl
 unfold ofC
 rw [if_pos (by omega)]
 refine ⟨Int.ediv_nonneg (by omega) (by omega), Int.ediv_lt_of_lt_mul (by omega) ?_⟩
 rw [Int.mul_comm]; omega
theorem c_sound (hN : N.ok) (hC : C.ok) (hA : isA N A σ) {h size : Int} {own : Bool} (hw : ∀ i, 0 ≤ A.w i ∧ A.w i < 18446744073709551616) (hn : C.len ≤ A.n) (hs : Snd C A h size own) (hk : ∀ τ, Ext σ τ → K (.bool true) τ) :
  s_ay [N.env C who, .int .u64 h, .int .i64 size, .bool own] K σ := by
 have hh := hs.hh
 have hS := hC.S
 have hT := hC.T
 have hCC := hC.C
 have hss := hs.s
 have hl := len_bd hC
 have hsz := hs.sz
 have hch : C.chunk C.C = 6 + C.T + 2 * C.S + 3 * C.C := rfl
 have hb0 : C.base 0 = 6 + C.T + 2 * C.S + 3 * C.C := by unfold Cf.base; omega
 obtain ⟨_, _, st, ge, ve, _, a0, a1, hd, ze, hcs, hcc⟩ := hs
 have hs0 : 0 ≤ h % 65536 := by omega
 have hg : 0 ≤ h / 65536 ∧ h / 65536 ≤ 65535 := by omega
 generalize hsl : h % 65536 = s at *
 generalize hge : h / 65536 = g at *
 have hsb : 0 ≤ C.slot s ∧ C.slot s < A.n := by unfold Cf.slot; omega
 have hwa := hw (C.slot s)
 have hab := slA_bd (A.w (C.slot s))
 generalize hwe : A.w (C.slot s) = w at *
 generalize hae : slA w = a at *
 have hkb := ofC_bd hC a0 (by omega)
 have hwk := hw (C.chunk (ofC C a))
 have hcb := chunk_bd hC hkb.1 hkb.2 hn
 obtain ⟨p1, p2, p3, p4, p5⟩ := hd_put (k := 2) (s := size) (t := s) (g := g) (o := own) (by decide) (by omega) (by omega) (by omega)
 have hwd := hw a
 have g2 : ∀ (k : Nat) (x y : Int), gStore 2 [.pointer (some ⟨k, 0, some 0⟩), .agg #[.int .i64 x, .int .i64 y]] [.int .i64 0, .int .i64 0] = some [.int .i64 x, .int .i64 y] := fun _ _ _ => rfl
 have g4 : ∀ (k : Nat) (x y z w : Int), gStore 4 [.pointer (some ⟨k, 0, some 0⟩), .agg #[.int .i64 x, .int .i64 y, .int .i64 z, .int .i64 w]] [.int .i64 0, .int .i64 0, .int .i64 0, .int .i64 0] = some [.int .i64 x, .int .i64 y, .int .i64 z, .int .i64 w] := fun _ _ _ _ _ => rfl
 have g5 : ∀ (k : Nat) (x y z w : Int) (b : Bool), gStore 5 [.pointer (some ⟨k, 0, some 0⟩), .agg #[.int .i64 x, .int .i64 y, .int .i64 z, .int .i64 w, .bool b]] [.int .i64 0, .int .i64 0, .int .i64 0, .int .i64 0, .bool false] = some [.int .i64 x, .int .i64 y, .int .i64 z, .int .i64 w, .bool b] := fun _ _ _ _ _ _ => rfl
 have s5 : ∀ x y z w v : Value, sub [x, y, z, w, v] 0 5 true = some (.agg #[x, y, z, w, v]) := fun _ _ _ _ _ => rfl
 have b5 : ∀ (x y z w : Int) (b : Bool) (K : Value → Prop), xF (fBuild [(0, 1), (1, 1), (2, 1), (3, 1), (4, 1)] [.int .i64 0, .int .i64 0, .int .i64 0, .int .i64 0, .bool false] [0, 1, 2, 3, 4]) [.int .i64 x, .int .i64 y, .int .i64 z, .int .i64 w, .bool b] K = K (.agg #[.int .i64 x, .int .i64 y, .int .i64 z, .int .i64 w, .bool b]) := fun _ _ _ _ _ K => nr rfl
 have hsS : ¬ C.S ≤ s := by omega
 simp only [s_ay, w_ay, ruS, ruL, ruE, Nat.reduceAdd, reduceIte, Int.reduceLT, Int.reduceLE, Int.reduceEq, Int.reduceNeg, Int.reduceAdd, Int.reduceSub, Nat.reduceLeDiff, Nat.reduceLT]
 rw [c_wHandle (by omega) (by omega) (by omega), hsl, hge]
 simp only [g2, hsS, w_ay_j1, w_ay_j1b, c_Slot hC hs0 (show s ≤ 65536 by omega), c_PeekA hN hA hsb.1 hsb.2, hwe, c_wSlot hwa.1 hwa.2, g4, hae, c_PeekA hN hA (show 0 ≤ a by omega) (show a < A.n by omega), c_wHead hwd.1 hwd.2, g5, ruS, ruL, ruE, Nat.reduceAdd, reduceIte, Int.reduceLT, Int.reduceLE, Int.reduceEq, Int.reduceNeg, Int.reduceAdd, Int.reduceSub, Nat.reduceLeDiff, Nat.reduceLT]
 simp only [st, ge, ve, hd, p1, p2, p3, p4, p5, s5, b5, neFlat, ne_eq, not_true_eq_false, w_ay_j2, w_ay_j2b, ruS, ruL, ruE, Nat.reduceAdd, reduceIte, Int.reduceLT, Int.reduceLE, Int.reduceEq, Int.reduceNeg, Int.reduceAdd, Int.reduceSub, Nat.reduceLeDiff, Nat.reduceLT]
 refine xLoop_i (fun i => [.int .i64 size, .int .i64 i]) [N.el C who, [.int .i64 1, .int .i64 a, .int .i64 g, .int .i64 0]] size (fun i τ => 0 ≤ i ∧ i ≤ size ∧ τ = σ) ?_ ⟨Int.le_refl 0, by omega, rfl⟩
 rintro i τ ⟨i0, i1, rfl⟩ R hR
 simp only [w_law08_sound_l10, w_law08_sound_l10b, ruS, ruL, ruE, Nat.reduceAdd, reduceIte, Int.reduceLT, Int.reduceLE, Int.reduceEq, Int.reduceNeg, Int.reduceAdd, Int.reduceSub, Nat.reduceLeDiff, Nat.reduceLT]
 by_cases hi : i < size
 ·have hz := ze i i0 hi
  rw [if_pos hi, IntWalk.i64_in (a + 1) (by omega), IntWalk.i64_in (a + 1 + i) (by omega), c_PeekA hN hA (by omega) (by omega), hz]
  simp only [ne_eq, not_true_eq_false, ruS, ruL, ruE, Nat.reduceAdd, reduceIte, Int.reduceLT, Int.reduceLE, Int.reduceEq, Int.reduceNeg, Int.reduceAdd, Int.reduceSub, Nat.reduceLeDiff, Nat.reduceLT]
  rw [IntWalk.i64_in (i + 1) (by omega)]
  exact hR _ hi ⟨by omega, by omega, rfl⟩
 ·rw [if_neg hi]
  simp only [w_ay_j3, w_ay_j3b, c_Of hC (show a < 9223372036854775808 by omega), c_Chunk hC hkb.1 (show ofC C a ≤ 65536 by omega), c_PeekA hN hA hcb.1 hcb.2, c_wChunk hwk.1 hwk.2, g4, hcs, ruS, ruL, ruE, Nat.reduceAdd, reduceIte, Int.reduceLT, Int.reduceLE, Int.reduceEq, Int.reduceNeg, Int.reduceAdd, Int.reduceSub, Nat.reduceLeDiff, Nat.reduceLT]
  refine c_rClass fun υ x => ?_
  simp only [hcc, ruS, ruL, ruE, Nat.reduceAdd, reduceIte, Int.reduceLT, Int.reduceLE, Int.reduceEq, Int.reduceNeg, Int.reduceAdd, Int.reduceSub, Nat.reduceLeDiff, Nat.reduceLT]
  exact hk υ x
theorem class_room {n : Int} (h : 0 ≤ classOf n) : (1 ≤ n ∧ n ≤ 16) ∧ n + 1 ≤ roomOf (classOf n) := by
 unfold classOf at *
 split at h
 ·omega
 ·rename_i h1; rw [if_neg h1]
  split at h
  ·rename_i h2; rw [if_pos h2]; refine ⟨by omega, ?_⟩; show n + 1 ≤ 3; omega
  ·rename_i h2; rw [if_neg h2]
   split at h
   ·rename_i h3; rw [if_pos h3]; refine ⟨by omega, ?_⟩; show n + 1 ≤ 5; omega
   ·rename_i h3; rw [if_neg h3]
    split at h
    ·rename_i h4; rw [if_pos h4]; refine ⟨by omega, ?_⟩; show n + 1 ≤ 9; omega
    ·rename_i h4; rw [if_neg h4]
     split at h
     ·rename_i h5; rw [if_pos h5]; refine ⟨by omega, ?_⟩; show n + 1 ≤ 17; omega
     ·omega
theorem handle_in {s g : Int} (s0 : 0 ≤ s ∧ s ≤ 65535) (g0 : 1 ≤ g ∧ g ≤ 65535) : (65536 ≤ putHandle s g ∧ putHandle s g < 4294967296) ∧ putHandle s g % 65536 = s ∧ putHandle s g / 65536 = g := by
 have e : putHandle s g = s + g * 65536 := by unfold putHandle; rw [cl_in s0.1 s0.2, cl_in (by omega) g0.2]
 rw [e]; omega
end Go.Fl
namespace Go.Fl
open Go
set_option linter.unusedVariables false
set_option linter.unusedSimpArgs false
variable {N : Nm} {A B : Ar} {σ : Mem} {K : Value → Mem → Prop} {C : Cf} {who : Int}
def updX {α : Type} (f : Int → α) (i : Int) (x : α) : Int → α := fun j => if j = i then x else f j
theorem updX_same {α : Type} {f : Int → α} {i : Int} {x : α} : updX f i x i = x := by simp [updX]
theorem updX_ne {α : Type} {f : Int → α} {i j : Int} {x : α} (h : j ≠ i) : updX f i x j = f j := by simp [updX, h]
def l3 (P : Int → Value) : List Value := [P 0, P 1, P 2]
theorem l3_sub {P : Int → Value} {k : Int} (k0 : 0 ≤ k) (k3 : k < 3) : sub (l3 P) (k.toNat * 1) 1 false = some (P k) := by
 rcases (show k = 0 ∨ k = 1 ∨ k = 2 by omega) with rfl | rfl | rfl <;> rfl
theorem l3_set {P : Int → Value} {k : Int} {x : Value} {q : Nat} (k0 : 0 ≤ k) (k3 : k < 3) (h1 : cellsOf x 1 = some [x]) (h2 : oneB x = true) : gStore 1 [.pointer (some ⟨q, k.toNat * 1, some 0⟩), x] (l3 P) = some (l3 (updX P k x)) := by
 rw [gStore_1 h1 (by show k.toNat * 1 + 1 ≤ 3; omega) h2]
 rcases (show k = 0 ∨ k = 1 ∨ k = 2 by omega) with rfl | rfl | rfl <;> rfl
structure HB {α : Type} (N : Nm) (W : Nat → List Nat → α → Mem → Prop) : Prop where
 keep : ∀ {p : Nat} {O L : List Nat} {m : α} {σ τ : Mem}, W p O m σ → Keep L σ τ → (∀ i ∈ O, i ∉ L) → W p O m τ
 own : ∀ {p : Nat} {O : List Nat} {m : α} {σ : Mem}, W p O m σ → ∀ i ∈ O, i ∉ N.l
 min : ∀ {p : Nat} {O : List Nat} {m : α} {σ : Mem}, W p O m σ → ∃ O', W p O' m σ ∧ (∀ i ∈ O', i ∈ O) ∧ ∀ i ∈ O', σ.get i ≠ none
 p : ∀ {p : Nat} {O : List Nat} {m : α} {σ : Mem}, W p O m σ → p ∈ O
section
variable {α : Type} {W : Nat → List Nat → α → Mem → Prop}
structure Hw {α : Type} (N : Nm) (W : Nat → List Nat → α → Mem → Prop) (σ0 : Mem) (L : Int → Prop) (P : Int → Nat) (O : Int → List Nat) (M : Int → α) (τ : Mem) : Prop where
 ob : ∀ k, L k → W (P k) (O k) (M k) τ
 al : ∀ k, L k → ∀ x ∈ O k, τ.get x ≠ none
 ap : ∀ k l, L k → L l → k ≠ l → ∀ x ∈ O k, x ∉ O l
 fr : ∀ k, L k → ∀ x ∈ O k, σ0.get x = none
 ext : Ext σ0 τ
theorem Hw.nil {σ0 τ : Mem} {P : Int → Nat} {O : Int → List Nat} {M : Int → α} (h : Ext σ0 τ) : Hw N W σ0 (fun _ => False) P O M τ :=
 ⟨fun _ h => h.elim, fun _ h => h.elim, fun _ _ h => h.elim, fun _ h => h.elim, h⟩
theorem Hw.less {σ0 τ : Mem} {L L' : Int → Prop} {P : Int → Nat} {O : Int → List Nat} {M : Int → α} (h : Hw N W σ0 L P O M τ) (hL : ∀ k, L' k → L k) : Hw N W σ0 L' P O M τ :=
 ⟨fun k q => h.ob k (hL k q), fun k q => h.al k (hL k q), fun k l q r => h.ap k l (hL k q) (hL l r), fun k q => h.fr k (hL k q), h.ext⟩
theorem Hw.congr {σ0 τ : Mem} {L : Int → Prop} {P : Int → Nat} {O : Int → List Nat} {M M' : Int → α} (h : Hw N W σ0 L P O M τ) (hM : ∀ k, L k → M' k = M k) : Hw N W σ0 L P O M' τ :=
 ⟨fun k q => by rw [hM k q]; exact h.ob k q, h.al, h.ap, h.fr, h.ext⟩
theorem Hw.more (hW : HB N W) {σ0 τ τ' : Mem} {L : Int → Prop} {P : Int → Nat} {O : Int → List Nat} {M : Int → α} (h : Hw N W σ0 L P O M τ) (x : Ext τ τ') : Hw N W σ0 L P O M τ' :=
 ⟨fun k q => hW.keep (L := []) (h.ob k q) x.keep (fun _ _ => by simp), fun k q y hy => by cases e : τ.get y with | none => exact absurd e (h.al k q y hy) | some b => rw [x _ _ e]; simp, h.ap, h.fr, h.ext.trans x⟩
theorem Hw.keep (hW : HB N W) {σ0 τ τ' : Mem} {L : Int → Prop} {P : Int → Nat} {O : Int → List Nat} {M : Int → α} {U : List Nat} (h : Hw N W σ0 L P O M τ) (x : Keep U τ τ') (hU : ∀ y ∈ U, σ0.get y = none ∧ ∀ k, L k → y ∉ O k) : Hw N W σ0 L P O M τ' := by
 have hk : ∀ k, L k → ∀ y ∈ O k, y ∉ U := fun k q y hy hu => (hU y hu).2 k q hy
 refine ⟨fun k q => hW.keep (h.ob k q) x (hk k q), fun k q y hy => ?_, h.ap, h.fr, h.ext.keep' x fun y hy => (hU y hy).1⟩
 cases e : τ.get y with
 | none => exact absurd e (h.al k q y hy)
 | some b => rw [x _ _ e (hk k q y hy)]; simp
theorem Hw.step (hW : HB N W) {σ0 τ τ' : Mem} {L : Int → Prop} {k : Int} {P : Int → Nat} {O : Int → List Nat} {M : Int → α} {m' : α} {O' : List Nat} (h : Hw N W σ0 L P O M τ) (hf : N.fr σ0) (hL : L k) (hO : ∀ i ∈ O', i ∈ O k ∨ τ.get i = none) (hob : W (P k) O' m' τ') (hk : Keep (O k ++ N.l) τ τ') :
  ∃ O2, Hw N W σ0 L P O2 (updX M k m') τ' ∧ ∀ l, ∀ x ∈ O2 l, x ∈ O l ∨ τ.get x = none := by
 obtain ⟨O'', g1, g2, g3⟩ := hW.min hob
 have others : ∀ l, L l → l ≠ k → ∀ x ∈ O l, x ∉ O k ++ N.l := fun l l0 e x hx => by
  simp only [List.mem_append, not_or]
  exact ⟨h.ap l k l0 hL e x hx, hW.own (h.ob l l0) x hx⟩
 have fr' : ∀ x ∈ O'', σ0.get x = none := fun x hx => by
  rcases hO x (g2 x hx) with q | q
  ·exact h.fr k hL x q
  ·exact h.ext.none q
 have new : ∀ l, L l → l ≠ k → ∀ x ∈ O'', x ∉ O l := fun l l0 e x hx hx' => by
  rcases hO x (g2 x hx) with q | q
  ·exact h.ap l k l0 hL e x hx' q
  ·exact h.al l l0 x hx' q
 refine ⟨updX O k O'', ⟨fun l l0 => ?_, fun l l0 x hx => ?_, fun a b a0 b0 hab x hx => ?_, fun l l0 x hx => ?_, h.ext.keep' hk fun j hj => ?_⟩, fun l x hx => ?_⟩
 ·by_cases e : l = k
  ·subst e; rw [updX_same, updX_same]; exact g1
  ·rw [updX_ne e, updX_ne e]; exact hW.keep (h.ob l l0) hk (others l l0 e)
 ·by_cases e : l = k
  ·subst e; rw [updX_same] at hx; exact g3 x hx
  ·rw [updX_ne e] at hx
   cases q : τ.get x with
   | none => exact absurd q (h.al l l0 x hx)
   | some bl => rw [hk _ _ q (others l l0 e x hx)]; simp
 ·by_cases e1 : a = k
  ·subst e1
   rw [updX_same] at hx
   rw [updX_ne (fun q => hab q.symm)]
   exact new b b0 (fun q => hab q.symm) x hx
  ·rw [updX_ne e1] at hx
   by_cases e2 : b = k
   ·subst e2
    rw [updX_same]
    exact fun q => new a a0 e1 x q hx
   ·rw [updX_ne e2]; exact h.ap a b a0 b0 hab x hx
 ·by_cases e : l = k
  ·subst e; rw [updX_same] at hx; exact fr' x hx
  ·rw [updX_ne e] at hx; exact h.fr l l0 x hx
 ·rcases List.mem_append.1 hj with q | q
  ·exact h.fr k hL j q
  ·exact hf.all j q
 ·by_cases e : l = k
  ·subst e; rw [updX_same] at hx; exact hO x (g2 x hx)
  ·rw [updX_ne e] at hx; exact .inl hx
theorem Hw.new (hW : HB N W) {σ0 τ τ' : Mem} {L : Int → Prop} {i : Int} {P : Int → Nat} {O : Int → List Nat} {M : Int → α} {m : α} {p : Nat} (h : Hw N W σ0 L P O M τ) (hi : ¬ L i) (hp : τ.get p = none) (hob : W p [p] m τ') (x : Ext τ τ') :
  Hw N W σ0 (fun k => L k ∨ k = i) (updX P i p) (updX O i [p]) (updX M i m) τ' := by
 have hn : τ'.get p ≠ none := by obtain ⟨O', q1, q2, q3⟩ := hW.min hob; exact q3 p (hW.p q1)
 have ne : ∀ k, L k → k ≠ i := fun k q e => hi (e ▸ q)
 have h' := h.more hW x
 have nx : ∀ k, L k → p ∉ O k := fun k q hk => h.al k q p hk hp
 refine ⟨fun k q => ?_, fun k q y hy => ?_, fun a b qa qb hab y hy => ?_, fun k q y hy => ?_, h'.ext⟩
 ·by_cases e : k = i
  ·subst e; rw [updX_same, updX_same, updX_same]; exact hob
  ·rw [updX_ne e, updX_ne e, updX_ne e]; exact h'.ob k (by rcases q with q | q; exact q; exact absurd q e)
 ·by_cases e : k = i
  ·subst e; rw [updX_same, List.mem_singleton] at hy; subst hy; exact hn
  ·rw [updX_ne e] at hy; exact h'.al k (by rcases q with q | q; exact q; exact absurd q e) y hy
 ·by_cases e1 : a = i
  ·subst e1
   rw [updX_same, List.mem_singleton] at hy
   subst hy
   rw [updX_ne (fun q => hab q.symm)]
   exact nx b (by rcases qb with q | q; exact q; exact absurd q.symm hab)
  ·have qa' : L a := by rcases qa with q | q; exact q; exact absurd q e1
   rw [updX_ne e1] at hy
   by_cases e2 : b = i
   ·subst e2; rw [updX_same, List.mem_singleton]; rintro rfl; exact nx a qa' hy
   ·rw [updX_ne e2]; exact h.ap a b qa' (by rcases qb with q | q; exact q; exact absurd q e2) hab y hy
 ·by_cases e : k = i
  ·subst e; rw [updX_same, List.mem_singleton] at hy; subst hy; exact h.ext.none hp
  ·rw [updX_ne e] at hy; exact h.fr k (by rcases q with q | q; exact q; exact absurd q e) y hy
end
theorem Ob.hb : HB N (Ob N) := by
 refine ⟨fun {p O L m σ τ} h x hL => ?_, fun h => h.own, fun {p O m σ} h => ?_, fun h => h.p⟩
 ·obtain ⟨⟨a, b, h1, h2, h3⟩, h4, h5⟩ := h
  refine ⟨⟨a, b, x.get h1 (hL p h5), fun e => ?_, fun e => ?_⟩, h4, h5⟩
  ·obtain ⟨q, q1, q2, q3, q4⟩ := h2 e; exact ⟨q, q1, q2, q3, x.get q4 (hL q q2)⟩
  ·obtain ⟨q, q1, q2, q3, q4⟩ := h3 e; exact ⟨q, q1, q2, q3, x.get q4 (hL q q2)⟩
 ·obtain ⟨⟨a, b, g1, g2, g3⟩, own, pO⟩ := h
  by_cases c2 : m.a.pc = 2
  ·obtain ⟨q, rfl, qO, qp, gq⟩ := g2 c2
   refine ⟨[p, q], ⟨⟨some q, b, g1, fun _ => ⟨q, rfl, by simp, qp, gq⟩, fun e => by omega⟩, fun i hi => ?_, by simp⟩, fun i hi => ?_, fun i hi => ?_⟩ <;>
   ·simp only [List.mem_cons, List.not_mem_nil, or_false] at hi
    rcases hi with rfl | rfl <;> first | exact own _ pO | exact own _ qO | exact pO | exact qO | (rw [g1]; simp) | (rw [gq]; simp)
  ·by_cases c7 : m.a.pc = 7
   ·obtain ⟨q, rfl, qO, qp, gq⟩ := g3 c7
    refine ⟨[p, q], ⟨⟨a, some q, g1, fun e => by omega, fun _ => ⟨q, rfl, by simp, qp, gq⟩⟩, fun i hi => ?_, by simp⟩, fun i hi => ?_, fun i hi => ?_⟩ <;>
    ·simp only [List.mem_cons, List.not_mem_nil, or_false] at hi
     rcases hi with rfl | rfl <;> first | exact own _ pO | exact own _ qO | exact pO | exact qO | (rw [g1]; simp) | (rw [gq]; simp)
   ·refine ⟨[p], ⟨⟨a, b, g1, fun e => absurd e c2, fun e => absurd e c7⟩, fun i hi => ?_, by simp⟩, fun i hi => ?_, fun i hi => ?_⟩ <;>
    ·rw [List.mem_singleton] at hi
     subst hi
     first | exact own _ pO | exact pO | (rw [g1]; simp)
end Go.Fl
namespace Go.Fl
open Go
set_option linter.unusedVariables false
theorem Opn.slz {w : World} {ρ : Ren} {σ : Mem} {avs avs' : List Value} {v : Value} {ks : List (Option IntKind)} {m : Nat} (h : Opn w ρ σ avs avs') (hv : SlW w ks v) (hz : ∀ a l c, v = .slice a l c → l ≤ m) :
  ∃ ρ' σ' s n cs, Opn w ρ' σ' (s :: avs) (v :: avs') ∧ Sl σ' ks.length n cs s ∧ n ≤ m ∧ FlatL (List.replicate n ks).flatten cs ∧ ∀ i b, σ.get i = some b → σ'.get i = some b := by
 rcases hv with rfl | ⟨a, len, cap, cs, rfl, h1, h2, h3, h4⟩
 ·exact ⟨ρ, σ, _, 0, [], h.nilS, .nil, Nat.zero_le _, .nil, fun _ _ q => q⟩
 ·obtain ⟨ρ', σ', s, o, sl, ext⟩ := h.slice (es := ks.length) h1 h3 (by simp) h4
  exact ⟨ρ', σ', s, len, cs, o, sl, hz _ _ _ rfl, h3, ext⟩
theorem trod_len {H : Type} {enc : TypeId × Value → H} {P : Program} {w : World} {base : Nat} {held : Bool} {t e : TypeId} {fuel : Nat} {cs : List Value} {x : DataW H × List MemPlace} {ts : List TypeId} {ds : List (DataW H)} {j : Nat} (ht : P.underlying t = some (.slice e))
  (h : DataW.trod enc P w base (fun _ => true) held fuel t cs = some x) (h1 : ts[j]? = some t) (h2 : ds[j]? = some x.1) (hz : (DataW.weightsEach P ts ds).all (· ≤ reachBytes) = true) (hb : 1 ≤ P.bytesOf e) :
  ∀ a l c, cs = [.slice a l c] → l ≤ 140737488351232 := by
 intro a l c hc
 rcases DataW.trod_slice ht h with ⟨h0, _⟩ | ⟨a', len, cap, elems, rest, n, _, h3, h4, _, _, _, hlen, _⟩
 ·rw [hc] at h0; cases h0; exact Nat.zero_le _
 ·rw [hc] at h3; cases h3
  rw [h4] at h2
  have := sized_slice hz h1 h2 ht
  simp only [List.length_map] at this
  have e1 : reachBytes = 140737488351232 := by decide
  have e2 : elems.length ≤ (elems.length + rest.length) * P.bytesOf e := Nat.le_trans (Nat.le_add_right _ _) (Nat.le_mul_of_pos_right _ hb)
  omega
end Go.Fl
namespace Go.Fl
open Go
set_option linter.unusedVariables false
set_option linter.unusedSimpArgs false
variable {N : Nm} {A B : Ar} {σ τ : Mem} {K : Value → Mem → Prop} {C : Cf} {who : Int}
theorem nodup_le : ∀ {l m : List Int}, l.Nodup → (∀ x ∈ l, x ∈ m) → l.length ≤ m.length
 | [], _, _, _ => Nat.zero_le _
 | x :: l, m, h, hs => by
  obtain ⟨h1, h2⟩ := List.nodup_cons.1 h
  have hx := hs x (by simp)
  have := nodup_le (l := l) (m := m.erase x) h2 fun y hy => (List.mem_erase_of_ne (fun e => h1 (by rw [← e]; exact hy))).2 (hs y (by simp [hy]))
  rw [List.length_erase_of_mem hx] at this
  have := List.length_pos_of_mem hx
  simp only [List.length_cons]; omega
def rowS (s : Int → Int) : Nat → List Int
 | 0 => []
 | n + 1 => s n :: rowS s n
theorem rowS_mem {s : Int → Int} {y : Int} : ∀ {n : Nat}, y ∈ rowS s n → ∃ j : Int, 0 ≤ j ∧ j < n ∧ y = s j
 | 0, h => by cases h
 | n + 1, h => by
  rcases List.mem_cons.1 h with rfl | h
  ·exact ⟨n, by omega, by omega, rfl⟩
  ·obtain ⟨j, j0, j1, e⟩ := rowS_mem h; exact ⟨j, j0, by omega, e⟩
theorem rowS_nodup {s : Int → Int} : ∀ {n : Nat}, (∀ i j : Int, 0 ≤ i → i < n → 0 ≤ j → j < n → s i = s j → i = j) → (rowS s n).Nodup
 | 0, _ => List.nodup_nil
 | n + 1, h => List.nodup_cons.2 ⟨fun hm => by
   obtain ⟨j, j0, j1, e⟩ := rowS_mem hm
   have := h n j (by omega) (by omega) j0 (by omega) e; omega, rowS_nodup fun i j i0 i1 j0 j1 e => h i j i0 (by omega) j0 (by omega) e⟩
theorem rowS_len {s : Int → Int} : ∀ {n : Nat}, (rowS s n).length = n
 | 0 => rfl
 | n + 1 => by show (rowS s n).length + 1 = n + 1; rw [rowS_len]
theorem holes {s : Int → Int} {n : Nat} {S : Int} (hS : 0 ≤ S) (hi : ∀ i j : Int, 0 ≤ i → i < n → 0 ≤ j → j < n → s i = s j → i = j) (hb : ∀ i : Int, 0 ≤ i → i < n → 0 ≤ s i ∧ s i < S) : (n : Int) ≤ S := by
 have := nodup_le (rowS_nodup (s := s) (n := n) hi) (m := upL 0 S.toNat) fun y hy => by
  obtain ⟨j, j0, j1, rfl⟩ := rowS_mem hy
  have := hb j j0 j1
  exact upL_mem.2 ⟨by omega, by omega⟩
 rw [rowS_len, upL_len] at this; omega
def prL (f g : Int → Int) : Nat → List Value
 | 0 => []
 | n + 1 => prL f g n ++ [.int .u64 (f n), .int .i64 (g n)]
theorem prL_len {f g : Int → Int} : ∀ {n : Nat}, (prL f g n).length = n * 2
 | 0 => rfl
 | n + 1 => by unfold prL; rw [List.length_append, prL_len]; show n * 2 + 2 = _; omega
theorem prL_get {f g : Int → Int} : ∀ {n i : Nat}, i < n → (prL f g n)[i * 2]? = some (.int .u64 (f i)) ∧ (prL f g n)[i * 2 + 1]? = some (.int .i64 (g i))
 | n + 1, i, h => by
  unfold prL
  have hl := prL_len (f := f) (g := g) (n := n)
  by_cases e : i = n
  ·subst e
   rw [List.getElem?_append_right (by omega), List.getElem?_append_right (by omega), hl]
   constructor
   ·rw [Nat.sub_self]; rfl
   ·rw [show i * 2 + 1 - i * 2 = 1 by omega]; rfl
  ·rw [List.getElem?_append_left (by omega), List.getElem?_append_left (by omega)]
   exact prL_get (by omega)
theorem prL_congr {f g f' g' : Int → Int} : ∀ {n : Nat}, (∀ i : Int, 0 ≤ i → i < n → f' i = f i ∧ g' i = g i) → prL f' g' n = prL f g n
 | 0, _ => rfl
 | n + 1, h => by
  unfold prL
  rw [prL_congr (n := n) fun i i0 i1 => h i i0 (by omega), (h n (by omega) (by omega)).1, (h n (by omega) (by omega)).2]
theorem ldPr {f g : Int → Int} {n q : Nat} {i : Int} {b : Bool} (h : σ.get q = some ⟨prL f g n, b⟩) (h0 : 0 ≤ i) (h1 : i < n) : hLoad 1 false [.pointer (some ⟨q, i.toNat * 2, none⟩)] K σ = K (.int .u64 (f i)) σ ∧ hLoad 1 false [.pointer (some ⟨q, i.toNat * 2 + 1, none⟩)] K σ = K (.int .i64 (g i)) σ := by
 obtain ⟨g1, g2⟩ := prL_get (f := f) (g := g) (n := n) (i := i.toNat) (by omega)
 rw [show ((i.toNat : Nat) : Int) = i by omega] at g1 g2
 exact ⟨by rw [hLoad_eq h, sub_one g1, xOs], by rw [hLoad_eq h, sub_one g2, xOs]⟩
theorem appPr {f g : Int → Int} {p n l : Nat} {x y : Int} (h : σ.get p = some ⟨prL f g n, true⟩) (hl : n < 1073741823) (hk : ∀ id τ, σ.get id = none → τ.get id = some ⟨prL f g n ++ [.int .u64 x, .int .i64 y], true⟩ → Keep [p] σ τ → K (.slice (some ⟨id, 0, none⟩) (n + 1) 2) τ) :
  hAppendL 2 16 [.int .u64 x, .int .i64 y] [.slice (some ⟨p, 0, none⟩) n 2, locS l 1 2] K σ := by
 simp only [hAppendL, locS, app, h]
 rw [if_pos ⟨by decide, rfl, rfl⟩, if_pos ⟨trivial, trivial, by decide, by rw [prL_len]; omega, by omega⟩, List.drop_zero]
 intro id hid
 have hne : id ≠ p := by rintro rfl; rw [h] at hid; cases hid
 refine hk id _ hid (by simp [Mem.del, Mem.set, hne]) fun i c hi hn => ?_
 simp only [List.mem_cons, List.not_mem_nil, or_false] at hn
 have : i ≠ id := by rintro rfl; rw [hid] at hi; cases hi
 simp [Mem.del, Mem.set, hn, this, hi]
theorem Ms.snd (hC : C.ok) {s j i z : Int} (hs : 0 ≤ s ∧ s < C.S) (hu : chU (A.w (C.chunk j)) ≤ C.W) (h : (Ms.md s j i z).fine C A.w) : Snd C A (putHandle s 1) z false := by
 obtain ⟨hr, h1, h2⟩ := h
 have hS := hC.S
 obtain ⟨u0, u1, u2⟩ := handle_in (s := s) (g := 1) (by omega) (by decide)
 have hz := class_room hr.cl
 have rr := room_bd hr.cl (class_bd z).2
 have b0 := hr.at' hC hu (x := 0) (by omega) (by omega)
 have b1 := hr.at' hC hu (x := z) (by omega) (by omega)
 rw [Int.add_zero] at b0
 have hl := len_bd hC
 have hb : C.base 0 = 6 + C.T + 2 * C.S + 3 * C.C := by unfold Cf.base; omega
 have hp := sl_put (st := 1) (ad := C.base j + i) (ge := 1) (ve := 0) (by decide) (by omega) (by decide) (by decide)
 refine ⟨u0, by rw [u1]; exact hs.2, by rw [u1, h1]; exact hp.1, by rw [u1, u2, h1]; exact hp.2.2.1, by rw [u1, h1]; exact hp.2.2.2, hz.1, by rw [u1, h1, hp.2.1, hb]; exact b0.2.1, by rw [u1, h1, hp.2.1]; omega, by rw [u1, u2, h1, hp.2.1]; exact h2, fun x x0 x1 => ?_, ?_, ?_⟩
 ·rw [u1, h1, hp.2.1, show C.base j + i + 1 + x = C.base j + (i + (1 + x)) by omega]; exact hr.ze _ (by omega) (by omega)
 ·rw [u1, h1, hp.2.1, b0.2.2]; exact hr.st
 ·rw [u1, h1, hp.2.1, b0.2.2]; exact hr.cc
theorem c11_sub {cl : Int → Int} {k : Int} (k0 : 0 ≤ k) (k3 : k < 3) : sub (cells .i64 3 cl) (k.toNat * 1) 1 false = some (.int .i64 (cl k)) := by
 have := cells_sub .i64 (n := 3) cl k0 (by omega); rwa [Nat.zero_add] at this
theorem c11_set {cl : Int → Int} {k v : Int} (k0 : 0 ≤ k) (k3 : k < 3) : gStore 1 [.pointer (some ⟨11, k.toNat * 1, some 0⟩), .int .i64 v] (cells .i64 3 cl) = some (cells .i64 3 (upd cl k v)) := by
 rw [gStore_i (by rw [cells_len]; omega), lay_set (by rw [cells_len]; omega), Nat.mul_one, cells_set .i64 cl v k0 (by omega)]
structure Gr (N : Nm) (C : Cf) (σ : Mem) (t : Int) (n p : Nat) (D : Int → Bool) (P : Int → Nat) (O : Int → List Nat) (M : Int → Am) (X : Int → Ms) (F : List Int) (H z cl : Int → Int) (A : Ar) (τ : Mem) : Prop where
 isA : isA N A τ
 pa : Pa C A (1000 + t)
 gm : Gm C (3 + n) X F t A.w
 th : ∀ k, 0 ≤ k → k < 3 → X k = if D k = true then .wk (M k) else .no
 md : ∀ k : Int, 0 ≤ k → k < n → ∃ s j i, X (3 + k) = .md s j i (z k) ∧ H k = putHandle s 1 ∧ (0 ≤ s ∧ s < C.S)
 sz : ∀ k, 0 ≤ k → k < 3 → D k = true → (M k).a.size = cl k
 hp : Hw N (Ob N) σ (fun k => (0 ≤ k ∧ k < 3) ∧ D k = true) P O M τ
 gp : τ.get p = some ⟨prL H z n, true⟩
 dp : p ∉ N.l ∧ σ.get p = none
 np : ∀ k, (0 ≤ k ∧ k < 3) ∧ D k = true → p ∉ O k
 nt : (n : Int) ≤ t
def pvG (D : Int → Bool) (P : Int → Nat) (k : Int) : Value := if D k = true then .pointer (some ⟨P k, 0, none⟩) else .pointer none
theorem law_AllocShares (σ : Mem) (a0 : Int) (w0 : (Lit.int .i64 a0).wf = true) (s1 : Value) (len1 : Nat) (cs1 : List Value) (sl1 : Sl σ 1 len1 cs1 s1) (hm1 : len1 ≤ 140737488351232) (hf1 : FlatL (List.replicate len1 [some .i64]).flatten cs1)
  (s2 : Value) (len2 : Nat) (cs2 : List Value) (sl2 : Sl σ 1 len2 cs2 s2) (hm2 : len2 ≤ 140737488351232) (hf2 : FlatL (List.replicate len2 [some .i64]).flatten cs2) :
  s_au [.int .i64 a0, s1, s2] (fun v _ => v = .bool true) σ := by
 obtain ⟨gz, hgz, _⟩ := sl1.argI hf1
 obtain ⟨gp, hgp, _⟩ := sl2.argI hf2
 simp only [s_au, w_au, andI7, ruS, ruL, ruE, Nat.reduceAdd, reduceIte, Int.reduceLT, Int.reduceLE, Int.reduceEq, Int.reduceNeg, Int.reduceAdd, Int.reduceSub, Nat.reduceLeDiff, Nat.reduceLT]
 have hn0 : 1 ≤ 1 + a0 % 8 ∧ 1 + a0 % 8 ≤ 8 := by omega
 generalize 1 + a0 % 8 = n0 at hn0
 rw [IntWalk.i64_in n0 (by omega)]
 have hC : (cA 4 n0 6 20).ok := cA_ok (by omega) (by omega) (by omega) (by omega)
 refine c_Arena (C := cA 4 n0 6 20) hC rfl rfl rfl fun N A τ hN hF hA hE hfr => ?_
 simp only [c_awake8, gStoreE, w_au_j1, w_au_j1b, ruS, ruL, ruE, Nat.reduceAdd, reduceIte, Int.reduceLT, Int.reduceLE, Int.reduceEq, Int.reduceNeg, Int.reduceAdd, Int.reduceSub, Nat.reduceLeDiff, Nat.reduceLT]
 have bp : ∀ K : Value → Prop, xF (fBuild [(0, 1), (1, 1), (2, 1)] [.pointer none, .pointer none, .pointer none] []) [] K = K (.agg #[.pointer none, .pointer none, .pointer none]) := fun K => nr rfl
 have bi : ∀ K : Value → Prop, xF (fBuild [(0, 1), (1, 1), (2, 1)] [.int .i64 0, .int .i64 0, .int .i64 0] []) [] K = K (.agg #[.int .i64 0, .int .i64 0, .int .i64 0]) := fun K => nr rfl
 have gp3 : gStore 3 [.pointer (some ⟨10, 0, some 0⟩), .agg #[.pointer none, .pointer none, .pointer none]] [.pointer none, .pointer none, .pointer none] = some (l3 (pvG (fun _ => false) fun _ => 0)) := rfl
 have gi3 : gStore 3 [.pointer (some ⟨11, 0, some 0⟩), .agg #[.int .i64 0, .int .i64 0, .int .i64 0]] [.int .i64 0, .int .i64 0, .int .i64 0] = some (cells .i64 3 fun _ => 0) := rfl
 simp only [bp, bi, gp3, gi3, ruS, ruL, ruE, Nat.reduceAdd, reduceIte, Int.reduceLT, Int.reduceLE, Int.reduceEq, Int.reduceNeg, Int.reduceAdd, Int.reduceSub, Nat.reduceLeDiff, Nat.reduceLT]
 have hS : (cA 4 n0 6 20).S = n0 := rfl
 have hP := hF.pa hC
 have hbb : 2 * (cA 4 n0 6 20).S + 2 ≤ 1000 := by rw [hS]; omega
 have hw0 : ∀ s, 0 ≤ s → s < (cA 4 n0 6 20).S → A.w ((cA 4 n0 6 20).slot s) = frW := by
  intro s s0 s1
  rw [hF.w]
  have hT := hC.T
  unfold Cf.w0 Cf.fr
  rw [if_neg (by unfold Cf.slot; omega), if_neg (by unfold Cf.slot; omega), if_pos (by unfold Cf.slot; omega), if_pos (by unfold Cf.slot; omega)]; rfl
 have haw := hF.aw hC
 have gm0 : Gm (cA 4 n0 6 20) (3 + ((0 : Nat) : Int)) (fun _ => .no) (upL 0 (cA 4 n0 6 20).S.toNat) 0 A.w := by
  have h1 : topN (A.w 1) = 0 := by
   rw [hF.w]; unfold Cf.w0; rw [if_pos (show (1 : Int) = 1 from rfl)]; decide
  have hch : ∀ j, 0 ≤ j → j < (cA 4 n0 6 20).C → A.w ((cA 4 n0 6 20).chunk j) = 0 := fun j j0 j1 => (haw.alo.new j j0 j1).1
  refine ⟨⟨haw.fre, fun b hb => ⟨⟨Int.le_refl 0, by decide⟩, by decide, rfl, .inl rfl⟩, fun b c t _ _ hh _ => hh.elim, by rw [h1]; decide⟩, hP.op, fun j j0 j1 => by rw [hch j j0 j1]; exact ⟨by show chU 0 ≤ 20; decide, fun _ => by decide⟩, fun j i j0 j1 i0 i1 i2 => haw.nil j i j0 j1 i0 i2, fun s hs => ?_, fun b _ _ => trivial, fun b c j i r j' i' r' _ _ _ _ _ e => by cases e⟩
  have := upL_mem.1 hs
  exact hw0 s (by omega) (by omega)
 have hln := len_bd hC
 have hn := hF.n
 generalize hCe : cA 4 n0 6 20 = C at *
 clear hF hw0 haw
 refine hBuildS_i [] rfl fun p τ1 hp gp0 x1 => ?_
 have gr0 : Gr N C σ 0 0 p (fun _ => false) (fun _ => 0) (fun _ => []) (fun _ => Am.new 0 false) (fun _ => .no) _ (fun _ => 0) (fun _ => 0) (fun _ => 0) A τ1 :=
  ⟨hA.ext x1, hP.mono (by omega), gm0, fun k _ _ => rfl, fun k k0 k1 => by omega, fun k _ _ e => (by cases e), (Hw.nil (hE.trans x1)).less fun k q => (by cases q.2), gp0, ⟨hA.new hp, hE.none hp⟩, fun k q => (by cases q.2), by omega⟩
 refine xLoop_r (fun x ts ls τ => ∃ t n p D P O M X F H z cl A, ∃ at' : Int, x = (700 - t).toNat ∧ ts = [s1, s2, .int .i64 n0, .int .i64 at', .slice (some ⟨p, 0, none⟩) n 2, .int .i64 t] ∧ ls = [N.el C 0, l3 (pvG D P), cells .i64 3 cl] ∧ 0 ≤ t ∧ t ≤ 700 ∧ (0 ≤ at' ∧ at' ≤ t) ∧ (A.n : Int) ≤ 200000 ∧ Gr N C σ t n p D P O M X F H z cl A τ) ?_ (n := 700)
  ⟨0, 0, p, _, _, _, _, _, _, _, _, _, A, 0, rfl, rfl, rfl, Int.le_refl 0, by decide, by decide, by omega, gr0⟩
 clear gr0 hp gp0 x1 hA hE hP gm0
 rintro x ts ls τ ⟨t, n, p, D, P, O, M, X, F, H, z, cl, A, at', rfl, rfl, rfl, t0, t1, hat, hnb, hG⟩ R hR
 have ext := hG.hp.ext
 have hz1 := hgz.keep ext
 have hp1 := hgp.keep ext
 have fin : w_au_j2 (fun v _ => v = .bool true) [.int .i64 n0, .slice (some ⟨p, 0, none⟩) n 2] [N.el C 0] τ := by
  have inj : ∀ a b : Int, 0 ≤ a → a < n → 0 ≤ b → b < n → H a = H b → a = b := fun a b a0' a1' b0 b1 e => by
   obtain ⟨s, j, i, e1, e2, e3⟩ := hG.md a a0' a1'
   obtain ⟨s', j', i', e1', e2', e3'⟩ := hG.md b b0 b1
   have hSS := hC.S
   have u := (handle_in (s := s) (g := 1) (by omega) (by decide)).2.1
   have u' := (handle_in (s := s') (g := 1) (by omega) (by decide)).2.1
   rw [← e2] at u; rw [← e2', ← e] at u'
   have := hG.gm.sh.apart (3 + a) (3 + b) s ⟨by omega, by omega⟩ ⟨by omega, by omega⟩ (by rw [e1]; rfl) (by rw [e1']; show s' = s; omega)
   omega
  have hnt := hG.nt
  simp only [w_au_j2, w_au_j2b, ruS, ruL, ruE, Nat.reduceAdd, reduceIte, Int.reduceLT, Int.reduceLE, Int.reduceEq, Int.reduceNeg, Int.reduceAdd, Int.reduceSub, Nat.reduceLeDiff, Nat.reduceLT]
  refine xLoop_r (fun x ts ls τ' => ∃ a : Int, x = (n - a).toNat ∧ ts = [.int .i64 n0, .slice (some ⟨p, 0, none⟩) n 2, .int .i64 a] ∧ ls = [N.el C 0] ∧ 0 ≤ a ∧ a ≤ n ∧ Ext τ τ') ?_ (n := n)
   ⟨0, by omega, rfl, rfl, Int.le_refl 0, by omega, Ext.refl⟩
  rintro x ts ls τ' ⟨a, rfl, rfl, rfl, a0', a1', x'⟩ R2 hR2
  have gp' := x' _ _ hG.gp
  simp only [w_law08_AllocShares_l27, w_law08_AllocShares_l27b, xLen, ruS, ruL, ruE, Nat.reduceAdd, reduceIte, Int.reduceLT, Int.reduceLE, Int.reduceEq, Int.reduceNeg, Int.reduceAdd, Int.reduceSub, Nat.reduceLeDiff, Nat.reduceLT]
  by_cases ca : a < n
  ·simp only [ca, xIxS a0' ca, Nat.zero_add, Nat.add_zero, ruS, ruL, ruE, Nat.reduceAdd, reduceIte, Int.reduceLT, Int.reduceLE, Int.reduceEq, Int.reduceNeg, Int.reduceAdd, Int.reduceSub, Nat.reduceLeDiff, Nat.reduceLT]
   rw [(ldPr gp' a0' ca).1]
   rw [(ldPr gp' a0' ca).2]
   obtain ⟨s, j, i, e1, e2, e3⟩ := hG.md a a0' ca
   have hfin := hG.gm.each (3 + a) (by omega) (by omega)
   rw [e1] at hfin
   have hsnd := Ms.snd (A := A) hC e3 (hG.gm.ub j hfin.1.jb.1 hfin.1.jb.2).1 hfin
   rw [← e2] at hsnd
   refine c_sound hN hC (hG.isA.ext x') hG.pa.ok.w hG.pa.n hsnd fun τ2 x2 => ?_
   simp only [ruS, ruL, ruE, Nat.reduceAdd, reduceIte, Int.reduceLT, Int.reduceLE, Int.reduceEq, Int.reduceNeg, Int.reduceAdd, Int.reduceSub, Nat.reduceLeDiff, Nat.reduceLT]
   refine xLoop_r (fun x ts ls τ' => ∃ b : Int, x = (a - b).toNat ∧ ts = [.int .i64 n0, .slice (some ⟨p, 0, none⟩) n 2, .int .i64 a, .int .i64 b] ∧ ls = [N.el C 0] ∧ 0 ≤ b ∧ b ≤ a ∧ τ' = τ2) ?_ (n := a.toNat)
    ⟨0, by omega, rfl, rfl, Int.le_refl 0, by omega, rfl⟩
   rintro x ts ls τ3 ⟨b, rfl, rfl, rfl, b0, b1, rfl⟩ R3 hR3
   have gp2 := x2 _ _ gp'
   simp only [w_law08_AllocShares_l32, w_law08_AllocShares_l32b, ruS, ruL, ruE, Nat.reduceAdd, reduceIte, Int.reduceLT, Int.reduceLE, Int.reduceEq, Int.reduceNeg, Int.reduceAdd, Int.reduceSub, Nat.reduceLeDiff, Nat.reduceLT]
   by_cases cb : b < a
   ·have cbn : b < n := by omega
    simp only [cb, xIxS b0 cbn, xIxS a0' ca, Nat.zero_add, Nat.add_zero, ruS, ruL, ruE, Nat.reduceAdd, reduceIte, Int.reduceLT, Int.reduceLE, Int.reduceEq, Int.reduceNeg, Int.reduceAdd, Int.reduceSub, Nat.reduceLeDiff, Nat.reduceLT]
    rw [(ldPr gp2 b0 cbn).1]
    rw [(ldPr gp2 a0' ca).1]
    have ne : ¬ H b = H a := fun e => by have := inj b a b0 cbn a0' ca e; omega
    simp only [ne, ruS, ruL, ruE, Nat.reduceAdd, reduceIte, Int.reduceLT, Int.reduceLE, Int.reduceEq, Int.reduceNeg, Int.reduceAdd, Int.reduceSub, Nat.reduceLeDiff, Nat.reduceLT]
    rw [IntWalk.i64_in (b + 1) (by omega)]
    exact hR3 (a - (b + 1)).toNat _ _ _ (by omega) ⟨b + 1, rfl, rfl, rfl, by omega, by omega, rfl⟩
   ·simp only [cb, w_au_j4, w_au_j4b, ruS, ruL, ruE, Nat.reduceAdd, reduceIte, Int.reduceLT, Int.reduceLE, Int.reduceEq, Int.reduceNeg, Int.reduceAdd, Int.reduceSub, Nat.reduceLeDiff, Nat.reduceLT]
    rw [IntWalk.i64_in (a + 1) (by omega)]
    exact hR2 (n - (a + 1)).toNat _ _ _ (by omega) ⟨a + 1, rfl, rfl, rfl, by omega, by omega, x'.trans x2⟩
  ·simp only [ca, w_au_j3, w_au_j3b, xLen, ruS, ruL, ruE, Nat.reduceAdd, reduceIte, Int.reduceLT, Int.reduceLE, Int.reduceEq, Int.reduceNeg, Int.reduceAdd, Int.reduceSub, Nat.reduceLeDiff, Nat.reduceLT]
   have : (n : Int) ≤ n0 := by
    rw [← hS]
    have hc : ∀ a : Int, 0 ≤ a ∧ a < n → ∃ s, (0 ≤ s ∧ s < C.S) ∧ H a = putHandle s 1 := fun a ha => by
     obtain ⟨s, j, i, e1, e2, e3⟩ := hG.md a ha.1 ha.2; exact ⟨s, e3, e2⟩
    have hSS := hC.S
    refine holes (s := fun a => H a % 65536) (by omega) (fun a b a0' a1' b0 b1 e => ?_) fun a a0' a1' => ?_
    ·obtain ⟨s, q1, q2⟩ := hc a ⟨a0', a1'⟩
     obtain ⟨s', q1', q2'⟩ := hc b ⟨b0, b1⟩
     have u := (handle_in (s := s) (g := 1) (by omega) (by decide)).2
     have u' := (handle_in (s := s') (g := 1) (by omega) (by decide)).2
     rw [← q2] at u; rw [← q2'] at u'
     exact inj a b a0' a1' b0 b1 (by omega)
    ·obtain ⟨s, q1, q2⟩ := hc a ⟨a0', a1'⟩
     have u := (handle_in (s := s) (g := 1) (by omega) (by decide)).2.1
     rw [← q2] at u
     show 0 ≤ H a % 65536 ∧ H a % 65536 < C.S
     omega
   simp only [this, decide_true]
 simp only [w_law08_AllocShares_l9, w_law08_AllocShares_l9b, hp1.len, ruS, ruL, ruE, Nat.reduceAdd, reduceIte, Int.reduceLT, Int.reduceLE, Int.reduceEq, Int.reduceNeg, Int.reduceAdd, Int.reduceSub, Nat.reduceLeDiff, Nat.reduceLT]
 rw [IntWalk.i64_in ((len2 : Int) + 200) (by omega)]
 by_cases c1 : t < (len2 : Int) + 200
 rotate_left
 ·simp only [c1, ruS, ruL, ruE, Nat.reduceAdd, reduceIte, Int.reduceLT, Int.reduceLE, Int.reduceEq, Int.reduceNeg, Int.reduceAdd, Int.reduceSub, Nat.reduceLeDiff, Nat.reduceLT]; exact fin
 by_cases c2 : t < 700
 rotate_left
 ·simp only [c1, c2, ruS, ruL, ruE, Nat.reduceAdd, reduceIte, Int.reduceLT, Int.reduceLE, Int.reduceEq, Int.reduceNeg, Int.reduceAdd, Int.reduceSub, Nat.reduceLeDiff, Nat.reduceLT]; exact fin
 clear fin
 simp only [c1, c2, w_au_j5, w_au_j5b, ruS, ruL, ruE, Nat.reduceAdd, reduceIte, Int.reduceLT, Int.reduceLE, Int.reduceEq, Int.reduceNeg, Int.reduceAdd, Int.reduceSub, Nat.reduceLeDiff, Nat.reduceLT]
 have nxt : ∀ at2 n p D P O M X F H z cl A τ, (0 ≤ at2 ∧ at2 ≤ t + 1) → (A.n : Int) ≤ 200000 → Gr N C σ (t + 1) n p D P O M X F H z cl A τ →
   w_au_j6 (fun v _ => v = .bool true) (w_au_j2 fun v _ => v = .bool true) R [s1, s2, .int .i64 n0, .int .i64 at2, .slice (some ⟨p, 0, none⟩) n 2, .int .i64 t] [N.el C 0, l3 (pvG D P), cells .i64 3 cl] τ := by
  intro at2 n p D P O M X F H z cl A τ h1 h2 h3
  simp only [w_au_j6, w_au_j6b, ruS, ruL, ruE, Nat.reduceAdd, reduceIte, Int.reduceLT, Int.reduceLE, Int.reduceEq, Int.reduceNeg, Int.reduceAdd, Int.reduceSub, Nat.reduceLeDiff, Nat.reduceLT]
  rw [IntWalk.i64_in (t + 1) (by omega)]
  exact hR (700 - (t + 1)).toNat _ _ _ (by omega) ⟨t + 1, n, p, D, P, O, M, X, F, H, z, cl, A, at2, rfl, rfl, rfl, by omega, by omega, h1, h2, h3⟩
 -- a step of somebody who is there
 have j8 : ∀ k at2 n p D P O M X F H z cl A τ, 0 ≤ k → k < 3 → D k = true → (0 ≤ at2 ∧ at2 ≤ t + 1) → (A.n : Int) ≤ 200000 → Gr N C σ t n p D P O M X F H z cl A τ →
   w_au_j8 (fun v _ => v = .bool true) (w_au_j2 fun v _ => v = .bool true) R (w_au_j6 (fun v _ => v = .bool true) (w_au_j2 fun v _ => v = .bool true) R)
    [s1, s2, .int .i64 n0, .int .i64 at2, .slice (some ⟨p, 0, none⟩) n 2, .int .i64 t, .int .i64 k] [N.el C 0, l3 (pvG D P), cells .i64 3 cl] τ := by
  intro k at2 n p D P O M X F H z cl A τ k0 k3 hD h1 h2 hG
  have k3' : k < ((3 : Nat) : Int) := k3
  have pk : pvG D P k = .pointer (some ⟨P k, 0, none⟩) := by unfold pvG; rw [if_pos hD]
  have hXk : X k = .wk (M k) := by rw [hG.th k k0 k3, if_pos hD]
  have hLk : (0 ≤ k ∧ k < 3) ∧ D k = true := ⟨⟨k0, k3⟩, hD⟩
  obtain ⟨hf, hP', hn', hgd, hsz⟩ := hG.gm.step (who := 0) hC hG.pa (by omega) (by omega) k0 (by omega) hXk
  simp only [w_au_j8, w_au_j8b, xIxA k0 k3', Nat.zero_add, l3_sub k0 k3, pk, ruS, ruL, ruE, Nat.reduceAdd, reduceIte, Int.reduceLT, Int.reduceLE, Int.reduceEq, Int.reduceNeg, Int.reduceAdd, Int.reduceSub, Nat.reduceLeDiff, Nat.reduceLT]
  refine c_Alloc_Step hN hC hG.isA (hG.hp.ob k hLk) hG.pa.ok.w hG.pa.n hf fun O' τ2 hO' hA2 hob kp => ?_
  obtain ⟨O2, hHw, hOO⟩ := hG.hp.step Ob.hb hfr hLk hO' hob kp
  have hpk : p ∉ O k ++ N.l := fun q => by
   rcases List.mem_append.1 q with q | q
   ·exact hG.np k hLk q
   ·exact hG.dp.1 q
  have gp2 := kp.get hG.gp hpk
  have hsize := hG.sz k k0 k3 hD
  have npO : ∀ l, (0 ≤ l ∧ l < 3) ∧ D l = true → p ∉ O2 l := fun l hl hm => by
   rcases hOO l p hm with q | q
   ·exact hG.np l hl q
   ·rw [hG.gp] at q; cases q
  generalize hr : (M k).step C 0 A = r at *
  obtain ⟨d, m', A'⟩ := r
  dsimp only at *
  rcases hgd with ⟨e, F', hgm⟩ | ⟨e, hgd⟩
  ·dsimp only at e hgm; subst e
   simp only [Bool.not_false, ruS, ruL, ruE, Nat.reduceAdd, reduceIte, Int.reduceLT, Int.reduceLE, Int.reduceEq, Int.reduceNeg, Int.reduceAdd, Int.reduceSub, Nat.reduceLeDiff, Nat.reduceLT]
   refine nxt at2 n p D P O2 (updX M k m') (updM X k (.wk m')) F' H z cl A' τ2 (by omega) (by omega) ⟨hA2, by rw [show 1000 + (t + 1) = 1000 + t + 1 by omega]; exact hP', hgm, fun l l0 l3 => ?_, fun l l0 l1 => ?_, fun l l0 l3 hl => ?_, hHw, gp2, hG.dp, npO, by have := hG.nt; omega⟩
   ·by_cases e : l = k
    ·subst e; rw [updM_same, updX_same, if_pos hD]
    ·rw [updM_ne e, updX_ne e]; exact hG.th l l0 l3
   ·rw [updM_ne (by omega)]; exact hG.md l l0 l1
   ·by_cases e : l = k
    ·subst e; rw [updX_same, hsz rfl]; exact hsize
    ·rw [updX_ne e]; exact hG.sz l l0 l3 hl
  ·dsimp only at e hgd; subst e
   have hobk := hHw.ob k hLk
   rw [updX_same] at hobk
   simp only [Bool.not_true, xIxA k0 k3', Nat.zero_add, l3_sub k0 k3, pk, ruS, ruL, ruE, Nat.reduceAdd, reduceIte, Int.reduceLT, Int.reduceLE, Int.reduceEq, Int.reduceNeg, Int.reduceAdd, Int.reduceSub, Nat.reduceLeDiff, Nat.reduceLT]
   refine Ob.done hA2 hobk ?_
   have hps : gStore 1 [.pointer (some ⟨10, k.toNat * 1, some 0⟩), .pointer none] (l3 (pvG D P)) = some (l3 (pvG (updX D k false) P)) := by
    rw [l3_set k0 k3 rfl rfl]
    congr 2
    funext l
    unfold updX pvG
    by_cases e : l = k <;> simp [e]
   have gs : ∀ x y z w : Int, gStore 4 [.pointer (some ⟨16, 0, some 0⟩), .agg #[.int .i64 x, .int .u64 y, .int .i64 z, .int .i64 w]] [.int .i64 0, .int .u64 0, .int .i64 0, .int .i64 0] = some [.int .i64 x, .int .u64 y, .int .i64 z, .int .i64 w] := fun _ _ _ _ => rfl
   simp only [gs, sub4, xIxA k0 k3', Nat.zero_add, hps, ruS, ruL, ruE, Nat.reduceAdd, reduceIte, Int.reduceLT, Int.reduceLE, Int.reduceEq, Int.reduceNeg, Int.reduceAdd, Int.reduceSub, Nat.reduceLeDiff, Nat.reduceLT]
   have hD2 : ∀ l, updX D k false l = true → l ≠ k ∧ D l = true := fun l h => by
    by_cases e : l = k
    ·subst e; rw [updX_same] at h; cases h
    ·rw [updX_ne e] at h; exact ⟨e, h⟩
   have hHl : Hw N (Ob N) σ (fun l => (0 ≤ l ∧ l < 3) ∧ updX D k false l = true) P O2 M τ2 :=
    (hHw.less fun l q => ⟨q.1, (hD2 l q.2).2⟩).congr fun l q => (updX_ne (hD2 l q.2).1).symm
   have hnp2 : ∀ l, (0 ≤ l ∧ l < 3) ∧ updX D k false l = true → p ∉ O2 l := fun l q => npO l ⟨q.1, (hD2 l q.2).2⟩
   have hsz2 : ∀ l, 0 ≤ l → l < 3 → updX D k false l = true → (M l).a.size = cl l := fun l l0 l3 q => hG.sz l l0 l3 (hD2 l q).2
   rcases hgd with ⟨hE, F', hgm⟩ | ⟨hE, s, j, i, hs, hH, F', hgm⟩
   ·have hE0 : ¬ m'.a.oE = 0 := by omega
    have go : w_au_j6 (fun v _ => v = .bool true) (w_au_j2 fun v _ => v = .bool true) R [s1, s2, .int .i64 n0, .int .i64 at2, .slice (some ⟨p, 0, none⟩) n 2, .int .i64 t] [N.el C 0, l3 (pvG (updX D k false) P), cells .i64 3 cl] τ2 := by
     refine nxt at2 n p (updX D k false) P O2 M (updM X k .no) F' H z cl A' τ2 (by omega) (by omega) ⟨hA2, by rw [show 1000 + (t + 1) = 1000 + t + 1 by omega]; exact hP', hgm, fun l l0 l3 => ?_, fun l l0 l1 => ?_, hsz2, hHl, gp2, hG.dp, hnp2, by have := hG.nt; omega⟩
     ·by_cases e : l = k
      ·subst e; rw [updM_same, updX_same]; rfl
      ·rw [updM_ne e, updX_ne e]; exact hG.th l l0 l3
     ·rw [updM_ne (by omega)]; exact hG.md l l0 l1
    by_cases h7 : m'.a.oE = 7
    ·simp only [hE0, h7, w_au_j9, w_au_j9b, ruS, ruL, ruE, Nat.reduceAdd, reduceIte, Int.reduceLT, Int.reduceLE, Int.reduceEq, Int.reduceNeg, Int.reduceAdd, Int.reduceSub, Nat.reduceLeDiff, Nat.reduceLT]; exact go
    ·have h6 : m'.a.oE = 6 := by omega
     simp only [hE0, h7, h6, w_au_j9, w_au_j9b, ruS, ruL, ruE, Nat.reduceAdd, reduceIte, Int.reduceLT, Int.reduceLE, Int.reduceEq, Int.reduceNeg, Int.reduceAdd, Int.reduceSub, Nat.reduceLeDiff, Nat.reduceLT]; exact go
   ·have hg : sub (cells .i64 3 cl) (k.toNat * 1) 1 false = some (.int .i64 (cl k)) := c11_sub k0 k3
    simp only [hE, xIxA k0 k3', Nat.zero_add, hg, ruS, ruL, ruE, Nat.reduceAdd, reduceIte, Int.reduceLT, Int.reduceLE, Int.reduceEq, Int.reduceNeg, Int.reduceAdd, Int.reduceSub, Nat.reduceLeDiff, Nat.reduceLT]
    have bb : ∀ (x y : Int) K, xF (fBuild [(0, 1), (1, 1)] [.int .u64 0, .int .i64 0] [0, 1]) [.int .u64 x, .int .i64 y] K = K (.agg #[.int .u64 x, .int .i64 y]) := fun x y K => nr rfl
    have bs : ∀ (x y : Int), gBuildS 2 1 [.int .u64 0, .int .i64 0] [0] [.agg #[.int .u64 x, .int .i64 y]] [] = some [.int .u64 x, .int .i64 y] := fun x y => nr rfl
    simp only [bb, bs, ruS, ruL, ruE, Nat.reduceAdd, reduceIte, Int.reduceLT, Int.reduceLE, Int.reduceEq, Int.reduceNeg, Int.reduceAdd, Int.reduceSub, Nat.reduceLeDiff, Nat.reduceLT]
    have hnt := hG.nt
    refine appPr gp2 (by omega) fun p' τ3 hp' gp' kp' => ?_
    have hE3 : Ext σ τ2 := hHw.ext
    have pO2 : ∀ l, (0 ≤ l ∧ l < 3) ∧ updX D k false l = true → p' ∉ O2 l := fun l q hm => hHl.al l q p' hm hp'
    refine nxt at2 (n + 1) p' (updX D k false) P O2 M (updM (updM X k .no) (3 + n) (.md s j i (cl k))) F' (updX H n m'.a.oH) (updX z n (cl k)) cl A' τ3 (by omega) (by omega)
     ⟨hA2.keep kp' (by have := hG.dp.1; simp only [Nm.l, List.mem_cons, List.not_mem_nil, or_false, not_or] at this ⊢; exact ⟨Ne.symm this.1, Ne.symm this.2.1, Ne.symm this.2.2⟩), by rw [show 1000 + (t + 1) = 1000 + t + 1 by omega]; exact hP', ?_, fun l l0 l3 => ?_, fun l l0 l1 => ?_, hsz2, hHl.keep Ob.hb kp' fun y hy => ?_, ?_, ⟨hA2.new hp', hE3.none hp'⟩, pO2, by omega⟩
    ·rw [hsize] at hgm
     have := hgm.park k0 (by omega)
     rw [show 3 + ((n + 1 : Nat) : Int) = 3 + (n : Int) + 1 by omega]; exact this
    ·rw [updM_ne (by omega)]
     by_cases e : l = k
     ·subst e; rw [updM_same, updX_same]; rfl
     ·rw [updM_ne e, updX_ne e]; exact hG.th l l0 l3
    ·by_cases e : l = n
     ·subst e; exact ⟨s, j, i, by rw [updM_same, updX_same], by rw [updX_same]; exact hH, hs⟩
     ·rw [updM_ne (by omega), updM_ne (by omega), updX_ne e, updX_ne e]; exact hG.md l l0 (by omega)
    ·rw [List.mem_singleton] at hy; subst hy; exact ⟨hG.dp.2, hnp2⟩
    ·rw [gp']; show some _ = some (⟨prL (updX H n m'.a.oH) (updX z n (cl k)) n ++ [.int .u64 (updX H n m'.a.oH n), .int .i64 (updX z n (cl k) n)], true⟩ : Blk); rw [updX_same, updX_same, prL_congr (f := H) (g := z) (f' := updX H n m'.a.oH) (g' := updX z n (cl k)) fun l _ l1 => ⟨updX_ne (by omega), updX_ne (by omega)⟩]
 -- somebody is picked
 have j7 : ∀ k, 0 ≤ k → k < 3 →
   w_au_j7 (fun v _ => v = .bool true) (w_au_j2 fun v _ => v = .bool true) R (w_au_j6 (fun v _ => v = .bool true) (w_au_j2 fun v _ => v = .bool true) R)
    [s1, s2, .int .i64 n0, .int .i64 at', .slice (some ⟨p, 0, none⟩) n 2, .int .i64 t, .int .i64 k] [N.el C 0, l3 (pvG D P), cells .i64 3 cl] τ := by
  intro k k0 k3
  have k3' : k < ((3 : Nat) : Int) := k3
  simp only [w_au_j7, w_au_j7b, xIxA k0 k3', Nat.zero_add, l3_sub k0 k3, ruS, ruL, ruE, Nat.reduceAdd, reduceIte, Int.reduceLT, Int.reduceLE, Int.reduceEq, Int.reduceNeg, Int.reduceAdd, Int.reduceSub, Nat.reduceLeDiff, Nat.reduceLT]
  by_cases hD : D k = true
  ·have pk : pvG D P k = .pointer (some ⟨P k, 0, none⟩) := by unfold pvG; rw [if_pos hD]
   simp only [pk, ruS, ruL, ruE, Nat.reduceAdd, reduceIte, Int.reduceLT, Int.reduceLE, Int.reduceEq, Int.reduceNeg, Int.reduceAdd, Int.reduceSub, Nat.reduceLeDiff, Nat.reduceLT]
   exact j8 k at' n p D P O M X F H z cl A τ k0 k3 hD (by omega) hnb hG
  ·have pk : pvG D P k = .pointer none := by unfold pvG; rw [if_neg hD]
   have stay : w_au_j6 (fun v _ => v = .bool true) (w_au_j2 fun v _ => v = .bool true) R [s1, s2, .int .i64 n0, .int .i64 at', .slice (some ⟨p, 0, none⟩) n 2, .int .i64 t] [N.el C 0, l3 (pvG D P), cells .i64 3 cl] τ :=
    nxt at' n p D P O M X F H z cl A τ (by omega) hnb ⟨hG.isA, hG.pa.mono (by omega), ⟨hG.gm.sh.mono (by omega), hG.gm.op, hG.gm.ub, hG.gm.nil, hG.gm.fr, hG.gm.each, hG.gm.ap⟩, hG.th, hG.md, hG.sz, hG.hp, hG.gp, hG.dp, hG.np, by have := hG.nt; omega⟩
   simp only [pk, hz1.len, hp1.len, ruS, ruL, ruE, Nat.reduceAdd, reduceIte, Int.reduceLT, Int.reduceLE, Int.reduceEq, Int.reduceNeg, Int.reduceAdd, Int.reduceSub, Nat.reduceLeDiff, Nat.reduceLT]
   by_cases q1 : at' ≥ (len1 : Int)
   ·simp only [q1, ruS, ruL, ruE, Nat.reduceAdd, reduceIte, Int.reduceLT, Int.reduceLE, Int.reduceEq, Int.reduceNeg, Int.reduceAdd, Int.reduceSub, Nat.reduceLeDiff, Nat.reduceLT]; exact stay
   by_cases q2 : t ≥ (len2 : Int)
   ·simp only [q1, q2, ruS, ruL, ruE, Nat.reduceAdd, reduceIte, Int.reduceLT, Int.reduceLE, Int.reduceEq, Int.reduceNeg, Int.reduceAdd, Int.reduceSub, Nat.reduceLeDiff, Nat.reduceLT]; exact stay
   simp only [q1, q2, w_au_j10, w_au_j10b, ruS, ruL, ruE, Nat.reduceAdd, reduceIte, Int.reduceLT, Int.reduceLE, Int.reduceEq, Int.reduceNeg, Int.reduceAdd, Int.reduceSub, Nat.reduceLeDiff, Nat.reduceLT]
   rw [hz1.ix hat.1 (by omega)]
   have hz : 0 ≤ classOf (1 + gz at' % 16) := by unfold classOf; (repeat' split) <;> omega
   have hzb : 1 ≤ 1 + gz at' % 16 ∧ 1 + gz at' % 16 ≤ 16 := by omega
   simp only [andI15, ruS, ruL, ruE, Nat.reduceAdd, reduceIte, Int.reduceLT, Int.reduceLE, Int.reduceEq, Int.reduceNeg, Int.reduceAdd, Int.reduceSub, Nat.reduceLeDiff, Nat.reduceLT]
   generalize 1 + gz at' % 16 = z0 at hz hzb
   rw [IntWalk.i64_in z0 (by omega)]
   simp only [xIxA k0 k3', c11_set k0 k3, c11_sub k0 k3, upd_same, Nat.zero_add, ruS, ruL, ruE, Nat.reduceAdd, reduceIte, Int.reduceLT, Int.reduceLE, Int.reduceEq, Int.reduceNeg, Int.reduceAdd, Int.reduceSub, Nat.reduceLeDiff, Nat.reduceLT]
   refine ob_new hG.isA fun p' τ3 hp' hob' x3 => ?_
   have hps : gStore 1 [.pointer (some ⟨10, k.toNat * 1, some 0⟩), .pointer (some ⟨p', 0, none⟩)] (l3 (pvG D P)) = some (l3 (pvG (updX D k true) (updX P k p'))) := by
    rw [l3_set k0 k3 rfl rfl]
    congr 2
    funext l
    unfold updX pvG
    by_cases e : l = k <;> simp [e]
   simp only [hps, xIxA k0 k3', Nat.zero_add, ruS, ruL, ruE, Nat.reduceAdd, reduceIte, Int.reduceLT, Int.reduceLE, Int.reduceEq, Int.reduceNeg, Int.reduceAdd, Int.reduceSub, Nat.reduceLeDiff, Nat.reduceLT]
   rw [IntWalk.i64_in (at' + 1) (by omega)]
   have hXk : X k = .no := by rw [hG.th k k0 k3, if_neg hD]
   have hnew := hG.hp.new Ob.hb (i := k) (fun q => hD q.2) hp' hob' x3
   have hsh : Sh (fun a => 0 ≤ a ∧ a < 3 + (n : Int)) C A.w (updP (fun a => (X a).ps) k (Ms.wk (Am.new z0 false)).ps) F t :=
    hG.gm.sh.tk_new (p := 0) (t := Tk.new) ⟨k0, by omega⟩ (by show (X k).ps = _; rw [hXk]; rfl) 0
   have hgm := hG.gm.stay hC (x' := .wk (Am.new z0 false)) k0 (by omega) hsh ⟨⟨hz, rfl, by show (0 : Int) ≤ 0 ∧ (0 : Int) ≤ 7; decide⟩, .inl rfl⟩ (.inr rfl)
   have hDu : ∀ l, updX D k true l = true → l ≠ k → D l = true := fun l h e => by rwa [updX_ne e] at h
   refine j8 k (at' + 1) n p (updX D k true) (updX P k p') (updX O k [p']) (updX M k (Am.new z0 false)) (updM X k (.wk (Am.new z0 false))) F H z (upd cl k z0) A τ3 k0 k3 updX_same (by omega) hnb
    ⟨hG.isA.ext x3, hG.pa, hgm, fun l l0 l3 => ?_, fun l l0 l1 => ?_, fun l l0 l3 q => ?_, hnew.less fun l q => ?_, x3 _ _ hG.gp, hG.dp, fun l q hm => ?_, hG.nt⟩
   ·by_cases e : l = k
    ·subst e; rw [updM_same, updX_same, updX_same, if_pos rfl]
    ·rw [updM_ne e, updX_ne e, updX_ne e]; exact hG.th l l0 l3
   ·rw [updM_ne (by omega)]; exact hG.md l l0 l1
   ·by_cases e : l = k
    ·subst e; rw [updX_same, upd_same]; rfl
    ·rw [updX_ne e, upd_ne _ _ e]; exact hG.sz l l0 l3 (hDu l q e)
   ·by_cases e : l = k
    ·exact .inr e
    ·exact .inl ⟨q.1, hDu l q.2 e⟩
   ·by_cases e : l = k
    ·subst e; rw [updX_same, List.mem_singleton] at hm; subst hm; rw [hG.gp] at hp'; cases hp'
    ·rw [updX_ne e] at hm; exact hG.np l ⟨q.1, hDu l q.2 e⟩ hm
 have k30 : 0 ≤ t % 3 ∧ t % 3 < 3 := by omega
 have hmod : t.tmod 3 = t % 3 := Int.tmod_eq_emod_of_nonneg t0
 simp only [hp1.len, xRem (show (3 : Int) ≠ 0 by decide), hmod, ruS, ruL, ruE, Nat.reduceAdd, reduceIte, Int.reduceLT, Int.reduceLE, Int.reduceEq, Int.reduceNeg, Int.reduceAdd, Int.reduceSub, Nat.reduceLeDiff, Nat.reduceLT]
 by_cases c3 : t < (len2 : Int)
 rotate_left
 ·simp only [c3, w_au_j11, w_au_j11b, ruS, ruL, ruE, Nat.reduceAdd, reduceIte, Int.reduceLT, Int.reduceLE, Int.reduceEq, Int.reduceNeg, Int.reduceAdd, Int.reduceSub, Nat.reduceLeDiff, Nat.reduceLT]; exact j7 _ k30.1 k30.2
 by_cases c4 : t < 400
 rotate_left
 ·simp only [c3, c4, w_au_j11, w_au_j11b, ruS, ruL, ruE, Nat.reduceAdd, reduceIte, Int.reduceLT, Int.reduceLE, Int.reduceEq, Int.reduceNeg, Int.reduceAdd, Int.reduceSub, Nat.reduceLeDiff, Nat.reduceLT]; exact j7 _ k30.1 k30.2
 simp only [c3, c4, w_au_j11, w_au_j11b, ruS, ruL, ruE, Nat.reduceAdd, reduceIte, Int.reduceLT, Int.reduceLE, Int.reduceEq, Int.reduceNeg, Int.reduceAdd, Int.reduceSub, Nat.reduceLeDiff, Nat.reduceLT]
 rw [hp1.ix t0 c3]
 obtain ⟨q1, q2, q3⟩ := pickN (gp t) (show (0 : Int) < 3 by decide) (by decide)
 simp only [xRem (show (3 : Int) ≠ 0 by decide), q1, ruS, ruL, ruE, Nat.reduceAdd, reduceIte, Int.reduceLT, Int.reduceLE, Int.reduceEq, Int.reduceNeg, Int.reduceAdd, Int.reduceSub, Nat.reduceLeDiff, Nat.reduceLT]
 exact j7 _ q2 q3
end Go.Fl
