/- What the claim leans on, part 5: own readings of the program's functions, what they come to, laws of them. No condition. -/
import Derived.Test.YtbmcbcoaeclfbaaZActPlays4
namespace Go.Fl
open Go
set_option linter.unusedVariables false
set_option linter.unusedSimpArgs false
variable {N : Nm} {A B : Ar} {σ : Mem} {K : Value → Mem → Prop} {C : Cf} {who : Int}
def GvP (C : Cf) (F : List Int) (o u lv : Int → Int) (nx s : Int) (k : Int) (g : Gv) (w : Int → Int) : Prop :=
 (0 ≤ s ∧ s < C.S) ∧ s ∉ F ∧ (g = ⟨0, s, 0⟩ ∧ k = 0 ∧ Aw C F o u lv nx w ∨ g = ⟨1, s, w 1⟩ ∧ k = 1 ∧ Aw C F o u lv nx w ∨
  g = ⟨2, s, w 1⟩ ∧ k = 2 ∧ ∃ w0, Aw C F o u lv nx w0 ∧ w0 1 = w 1 ∧ w = upd w0 (C.slot s + 1) (putTop (topS (w0 1)) 0))
theorem GvP.step (hC : C.ok) {F : List Int} {o u lv : Int → Int} {nx s k bb : Int} {g : Gv} (h : GvP C F o u lv nx s k g A.w) (ok : A.ok bb) (hb : bb < 4611686018427387904) :
  ((∀ a, a ≠ 1 → a ≠ C.slot s + 1 → (g.step C who A).2.2.w a = A.w a) ∧ (g.step C who A).2.2.s = A.s + 1 ∧ (g.step C who A).2.2.n = A.n ∧ (g.step C who A).2.2.ok (bb + 1) ∧ ((g.step C who A).2.2.la = 1 ∨ (g.step C who A).2.2.la = C.slot s + 1)) ∧
  (((g.step C who A).1 = false ∧ GvP C F o u lv nx s (k + 1) (g.step C who A).2.1 (g.step C who A).2.2.w) ∨ ((g.step C who A).1 = true ∧ Aw C (s :: F) o u lv nx (g.step C who A).2.2.w)) := by
 obtain ⟨s0, hn, h⟩ := h
 have hT := hC.T
 have hS := hC.S
 rcases h with ⟨q, hk, hA⟩ | ⟨q, hk, hA⟩ | ⟨q, hk, w0, hA, e1, e2⟩
 ·rw [q, Gv.step0]
  have a1 := aft_load (who := who) (A := A) (a := 1) ok (by omega)
  exact ⟨⟨fun a _ _ => rfl, a1.s, rfl, a1.ok (by decide) ok ok.w, .inl rfl⟩, .inl ⟨rfl, s0, hn, .inr (.inl ⟨rfl, by omega, hA⟩)⟩⟩
 ·rw [q, Gv.step1]
  have a1 := aft_store (who := who) (A := A) (a := C.slot s + 1) (v := putTop (topS (A.w 1)) 0) ok (by omega)
  have n1 : upd A.w (C.slot s + 1) (putTop (topS (A.w 1)) 0) 1 = A.w 1 := upd_ne _ _ (by unfold Cf.slot; omega)
  refine ⟨⟨fun a _ h2 => by rw [a1.w]; exact upd_ne _ _ h2, a1.s, a1.n, a1.ok (by decide) ok (fun i => upd_cases (P := fun x => 0 ≤ x ∧ x < 18446744073709551616) (putTop_in _ _) (ok.w i)), .inr rfl⟩, .inl ⟨rfl, s0, hn, .inr (.inr ⟨?_, by omega, A.w, hA, ?_, a1.w⟩)⟩⟩
  ·show Gv.mk 2 s (A.w 1) = ⟨2, s, _⟩; rw [a1.w, n1]
  ·rw [a1.w, n1]
 ·rw [q, Gv.step2]
  have a1 := aft_cas (who := who) (A := A) (a := 1) (o := A.w 1) (v := putTop s (topN (A.w 1) + 1)) ok (by omega)
  rw [if_pos rfl] at a1
  refine ⟨⟨fun a h1 _ => by rw [a1.w]; exact upd_ne _ _ h1, a1.s, a1.n, a1.ok (by decide) ok (fun i => upd_cases (P := fun x => 0 ≤ x ∧ x < 18446744073709551616) (putTop_in _ _) (ok.w i)), .inl cas_la⟩, .inr ⟨decide_eq_true rfl, ?_⟩⟩
  show Aw C (s :: F) o u lv nx ((A.by who).cas 1 (A.w 1) (putTop s (topN (A.w 1) + 1))).w
  have := hA.gave hC s0 hn
  unfold gaveW at this
  rw [a1.w, e2, upd_ne _ _ (by unfold Cf.slot; omega)]
  exact this
structure Do where
 n : Int
 ws : Int
 z : Int
 own : Bool
 j : Int
 i : Int
def Do.s (d : Do) : Int := hdSl d.n
def Do.ge (d : Do) : Int := hdGe d.n
def Do.a (d : Do) (C : Cf) : Int := C.base d.j + d.i
def Do.v (d : Do) (C : Cf) : Int := putSlot 4 (d.a C) d.ge (slV d.ws + 1)
def Do.nx (d : Do) (C : Cf) : Int := if C.G ≤ d.ge then putSlot 3 0 d.ge 0 else putSlot 0 0 (d.ge + 1) 0
structure Do.ok (d : Do) (C : Cf) (b : Bg) (w : Int → Int) : Prop where
 n : 0 ≤ d.n ∧ d.n < 18446744073709551616
 hok : hdOk d.n = true
 s : 0 ≤ d.s ∧ d.s < C.S
 sF : d.s ∉ b.F
 ge : 0 ≤ d.ge ∧ d.ge ≤ 65535
 ws : w (C.slot d.s) = d.ws
 st : slS d.ws = 1 ∨ slS d.ws = 2
 sa : slA d.ws = d.a C
 sg : slG d.ws = d.ge
 hd : hdS (w (d.a C)) = d.z ∧ hdO (w (d.a C)) = d.own
 cl : 0 ≤ classOf d.z
 j : 0 ≤ d.j ∧ d.j < C.C
 i : 0 ≤ d.i ∧ d.i + roomOf (classOf d.z) ≤ b.u d.j
 z : d.z + 1 ≤ roomOf (classOf d.z)
 lv : roomOf (classOf d.z) ≤ b.lv d.j
def Do.fr (d : Do) (C : Cf) (w0 w : Int → Int) : Prop := ∀ a, a ≠ C.slot d.s → a ≠ 1 → a ≠ C.slot d.s + 1 → a ≠ C.chunk d.j + 1 → ¬ (d.a C < a ∧ a ≤ d.a C + d.z) → w a = w0 a
def Bg.less (b : Bg) (j n : Int) : Bg := { b with lv := upd b.lv j (b.lv j - n) }
def DrI (C : Cf) (b : Bg) (d : Do) (w0 : Int → Int) (s0 k : Int) (m : Dm) (A : Ar) : Prop :=
 m.d.n = d.n ∧ m.d.own = d.own ∧ (
  (m.d.pc = 0 ∧ k ≤ 0 ∧ A.w = w0 ∧ m.d.hs = 0 ∧ m.d.w = 0) ∨
  (m.d.hs = d.s ∧ m.d.hg = d.ge ∧ m.d.w = d.ws ∧ (
   (m.d.pc = 1 ∧ k ≤ 1 ∧ A.w = w0) ∨
   (m.d.size = d.z ∧ (
    (m.d.pc = 2 ∧ k ≤ 2 ∧ A.w = w0) ∨
    (d.fr C w0 A.w ∧ (
     (m.d.pc = 3 ∧ b.aw C A.w ∧ A.w (C.slot d.s) = d.v C ∧ (m.h.slot = d.s ∧ m.h.w = d.v C ∧ m.h.size = d.z) ∧ (0 ≤ m.h.i ∧ m.h.i ≤ d.z) ∧ (0 ≤ m.h.cell ∧ m.h.cell < 18446744073709551616) ∧
      (m.h.read = false ∧ k ≤ 3 + 2 * m.h.i ∨ m.h.read = true ∧ m.h.i < d.z ∧ A.w m.h.a = m.h.cell ∧ k ≤ 4 + 2 * m.h.i)) ∨
     (A.w (C.slot d.s) = d.nx C ∧ m.d.oE = 0 ∧ (s0 < m.d.oS ∧ m.d.oS ≤ A.s) ∧ (
      (m.d.pc = 5 ∧ b.aw C A.w ∧ k ≤ 4 + 2 * d.z) ∨
      (m.d.pc = 6 ∧ ¬ C.G ≤ d.ge ∧ ∃ kk, GvP C b.F b.o b.u (upd b.lv d.j (b.lv d.j - roomOf (classOf d.z))) b.nx d.s kk m.g A.w ∧ 0 ≤ kk ∧ k ≤ 5 + 2 * d.z + kk))))))))))
structure DnD (C : Cf) (b : Bg) (d : Do) (w0 : Int → Int) (s0 : Int) (m : Dm) (A : Ar) : Prop where
 e : m.d.oE = 0
 st : s0 < m.d.oS ∧ m.d.oS ≤ A.s
 fr : d.fr C w0 A.w
 sl : A.w (C.slot d.s) = d.nx C
 aw : Bg.aw { b.less d.j (roomOf (classOf d.z)) with F := if C.G ≤ d.ge then b.F else d.s :: b.F } C A.w
theorem Do.av (d : Do) (hC : C.ok) {b : Bg} {w : Int → Int} (h : d.ok C b w) (hA : ∃ w, b.aw C w) : (0 ≤ d.a C ∧ d.a C + d.z < C.len ∧ d.a C ≤ 1048575 ∧ C.base 0 ≤ d.a C) ∧ 1 ≤ d.z ∧ d.z ≤ 16 ∧ d.i + d.z < C.W ∧ d.i + d.z < b.u d.j := by
 obtain ⟨w', hA⟩ := hA
 have hr := room_bd h.cl (class_bd d.z).2
 have hz : 1 ≤ d.z ∧ d.z ≤ 16 := by have := h.cl; unfold classOf at this; (repeat' split at this) <;> omega
 have hj := h.j
 have hi := h.i
 have hzz := h.z
 have hu : b.u d.j ≤ C.W := by
  have hW := hC.W
  by_cases e : d.j < b.nx
  ·exact (hA.alo.old _ hj.1 e).2.2.2
  ·have := (hA.alo.new _ (by omega) hj.2).2; omega
 have h1 := base_of hC hj.1 hj.2 hi.1 (by omega)
 have h2 := base_of hC hj.1 hj.2 (i := d.i + d.z) (by omega) (by omega)
 have h3 := base_ge hC hj.1 hj.2 hi.1
 have hl := len_bd hC
 have hb0 : C.base 0 = 6 + C.T + 2 * C.S + 3 * C.C := by unfold Cf.base; omega
 have ea : d.a C = C.base d.j + d.i := rfl
 refine ⟨⟨by omega, by omega, by omega, by omega⟩, hz.1, hz.2, by omega, by omega⟩
theorem DrI.kle {b : Bg} {d : Do} {w0 : Int → Int} {s0 k : Int} {m : Dm} (h : DrI C b d w0 s0 k m A) (hz : d.z ≤ 16) : k ≤ 40 := by
 obtain ⟨_, _, ⟨_, h, _⟩ | ⟨_, _, _, ⟨_, h, _⟩ | ⟨_, ⟨_, h, _⟩ | ⟨_, ⟨_, _, _, _, h1, _, h⟩ | ⟨_, _, _, ⟨_, _, h⟩ | ⟨_, _, kk, ⟨_, _, h1⟩, h2, h⟩⟩⟩⟩⟩⟩ := h
 ·omega
 ·omega
 ·omega
 ·omega
 ·omega
 ·omega
theorem sl_put' {st ad ge ve : Int} (h1 : 0 ≤ st ∧ st ≤ 7) (h2 : 0 ≤ ad ∧ ad ≤ 1048575) (h3 : 0 ≤ ge ∧ ge ≤ 65535) :
  slS (putSlot st ad ge ve) = st ∧ slA (putSlot st ad ge ve) = ad ∧ slG (putSlot st ad ge ve) = ge := by
 have e : putSlot st ad ge ve = putSlot st ad ge (cl ve 4194303) := by
  unfold putSlot; rw [cl_in (n := cl ve 4194303) (cl_nn (by decide)) cl_le]
 have := sl_put (ve := cl ve 4194303) h1 h2 h3 ⟨cl_nn (by decide), cl_le⟩
 rw [e]; exact ⟨this.1, this.2.1, this.2.2.1⟩
theorem Do.vp (d : Do) (hC : C.ok) {b : Bg} {w : Int → Int} (h : d.ok C b w) (hA : ∃ w, b.aw C w) : slS (d.v C) = 4 ∧ slA (d.v C) = d.a C ∧ slG (d.v C) = d.ge := by
 have := d.av hC h hA
 exact sl_put' (by decide) ⟨this.1.1, this.1.2.2.1⟩ h.ge
theorem Do.nxp (d : Do) (hge : 0 ≤ d.ge ∧ d.ge ≤ 65535) (hG : C.G ≤ 65535) : slS (d.nx C) = 3 ∨ slS (d.nx C) = 0 := by
 unfold Do.nx; split
 ·exact .inl (sl_put' (by decide) (by decide) hge).1
 ·exact .inr (sl_put' (by decide) (by decide) (by omega)).1
theorem cas_t {b a o v : Int} (h : A.ok b) (hb : b < 9223372036854775807) (e : A.w a = o) (hv : o ≠ v) : ((A.by who).cas a o v).t a = A.s + 1 := by
 rw [cas_yes (by exact e), store_t, by_s, h.s1 hb, by_w, if_pos (by rw [e]; exact hv), upd_same]
theorem DrI.fit (hC : C.ok) {b : Bg} {d : Do} {w0 : Int → Int} {s0 k : Int} {m : Dm} (h : DrI C b d w0 s0 k m A) (hd : d.ok C b w0) (hA : b.aw C w0) (hw : ∀ i, 0 ≤ A.w i ∧ A.w i < 18446744073709551616) (hw0 : ∀ i, 0 ≤ w0 i ∧ w0 i < 18446744073709551616) (hn : C.len ≤ A.n) : m.fit C A := by
 have hS := hC.S
 have hs := hd.s
 obtain ⟨av1, av2⟩ := d.av hC hd ⟨_, hA⟩
 obtain ⟨v1, v2, v3⟩ := d.vp hC hd ⟨_, hA⟩
 have hws : 0 ≤ d.ws ∧ d.ws < 18446744073709551616 := by rw [← hd.ws]; exact hw0 _
 have hofc : ofC C (d.a C) = d.j := (base_of hC hd.j.1 hd.j.2 hd.i.1 (by omega)).1
 obtain ⟨e1, e2, ⟨h, _, _, h1, h2⟩ | ⟨h1, _, h2, ⟨h, _⟩ | ⟨hz, ⟨h, _⟩ | ⟨_, ⟨h, _, _, h3, h4, h5, _⟩ | ⟨_, _, _, ⟨h, _⟩ | ⟨h, _, kk, ⟨h3, h4, h5⟩, _⟩⟩⟩⟩⟩⟩ := h
 ·exact ⟨by omega, by rw [e1]; exact hd.n, by rw [h1]; omega, by rw [h2]; decide, fun q => by omega, fun q => by omega, fun q => by omega, fun q => by omega⟩
 ·exact ⟨by omega, by rw [e1]; exact hd.n, by rw [h1]; exact hs, by rw [h2]; exact hws, fun q => by rw [h2, hd.sa]; omega, fun q => by omega, fun q => by omega, fun q => by omega⟩
 ·exact ⟨by omega, by rw [e1]; exact hd.n, by rw [h1]; exact hs, by rw [h2]; exact hws, fun q => by omega, fun q => by omega, fun q => by omega, fun q => by omega⟩
 ·refine ⟨by omega, by rw [e1]; exact hd.n, by rw [h1]; exact hs, by rw [h2]; exact hws, fun q => by omega, fun _ => ?_, fun q => by omega, fun q => by omega⟩
  exact ⟨by rw [h3.1]; exact hs, by rw [h3.2.1]; exact putSlot_in _ _ _ _, h5, by omega, by omega, fun q => by rw [h3.2.1, v2]; omega⟩
 ·exact ⟨by omega, by rw [e1]; exact hd.n, by rw [h1]; exact hs, by rw [h2]; exact hws, fun q => by omega, fun q => by omega, fun _ => ⟨by rw [hz]; exact hd.cl, by rw [h2, hd.sa, hofc]; exact hd.j⟩, fun q => by omega⟩
 ·refine ⟨by omega, by rw [e1]; exact hd.n, by rw [h1]; exact hs, by rw [h2]; exact hws, fun q => by omega, fun q => by omega, fun q => by omega, fun _ => ?_⟩
  have w1 := hw 1
  rcases h5 with ⟨q, _⟩ | ⟨q, _⟩ | ⟨q, _⟩
  ·rw [q]; exact ⟨⟨Int.le_refl 0, (by decide : (0 : Int) < 18446744073709551616)⟩, h3⟩
  ·rw [q]; exact ⟨w1, h3⟩
  ·rw [q]; exact ⟨w1, h3⟩
structure Td (C : Cf) (A A' : Ar) (d : Do) : Prop where
 s : A'.s = A.s + 1
 n : A'.n = A.n
 ok : ∀ bb, A.ok bb → A'.ok (bb + 1)
 la : A'.la = C.slot d.s ∨ A'.la = d.a C ∨ A'.la = 1 ∨ A'.la = C.slot d.s + 1 ∨ A'.la = C.chunk d.j + 1 ∨ d.a C < A'.la ∧ A'.la ≤ d.a C + d.z
 hd : A'.la = d.a C → A'.lc = false
theorem DrI.step (hC : C.ok) {b : Bg} {d : Do} {w0 : Int → Int} {s0 k bb : Int} {m : Dm} (h : DrI C b d w0 s0 k m A) (hd : d.ok C b w0) (hA : b.aw C w0) (ok : A.ok bb) (hb : bb < 4611686018427387904) (hs0 : s0 ≤ A.s) (hlv : b.lv d.j < 18446744073709551616) :
  Td C A (m.step C who A).2.2 d ∧
  (((m.step C who A).1 = false ∧ DrI C b d w0 s0 (k + 1) (m.step C who A).2.1 (m.step C who A).2.2) ∨ ((m.step C who A).1 = true ∧ DnD C b d w0 s0 (m.step C who A).2.1 (m.step C who A).2.2)) := by
 have hT := hC.T
 have hS := hC.S
 have hCC := hC.C
 have hs := hd.s
 have hj := hd.j
 have hG := hC.G
 have hr := room_bd hd.cl (class_bd d.z).2
 obtain ⟨av1, av2⟩ := d.av hC hd ⟨_, hA⟩
 obtain ⟨v1, v2, v3⟩ := d.vp hC hd ⟨_, hA⟩
 have hofc : ofC C (d.a C) = d.j := (base_of hC hd.j.1 hd.j.2 hd.i.1 (by omega)).1
 have hb0 : C.base 0 = 6 + C.T + 2 * C.S + 3 * C.C := by unfold Cf.base; omega
 have esl : C.slot d.s = 6 + C.T + 2 * d.s := rfl
 have ech : C.chunk d.j = 6 + C.T + 2 * C.S + 3 * d.j := rfl
 have fr0 : d.fr C w0 w0 := fun _ _ _ _ _ _ => rfl
 have ld : ∀ a, a = C.slot d.s ∨ a = d.a C ∨ d.a C < a ∧ a ≤ d.a C + d.z → Td C A ((A.by who).load a) d := fun a ha =>
  ⟨(aft_load ok (by omega)).s, rfl, fun b2 o2 => by
   have := ok.s; have := o2.s
   have a1 := aft_load (who := who) (A := A) (a := a) ok (by omega)
   exact a1.ok (by decide) o2 o2.w, by rcases ha with h | h | h; exact .inl h; exact .inr (.inl h); exact .inr (.inr (.inr (.inr (.inr h)))), fun _ => rfl⟩
 have cs : ∀ a o v, 0 ≤ v ∧ v < 18446744073709551616 → (a = C.slot d.s ∨ d.a C < a ∧ a ≤ d.a C + d.z) → Td C A ((A.by who).cas a o v) d := fun a o v hv ha => by
  have a1 := aft_cas (who := who) (A := A) (a := a) (o := o) (v := v) ok (by omega)
  refine ⟨a1.s, a1.n, fun b2 o2 => a1.ok (by decide) o2 fun i => ?_, ?_, fun q => ?_⟩
  ·split
   ·exact upd_cases (P := fun x => 0 ≤ x ∧ x < 18446744073709551616) hv (ok.w i)
   ·exact ok.w i
  ·rw [cas_la]; rcases ha with h | h; exact .inl h; exact .inr (.inr (.inr (.inr (.inr h))))
  ·rw [cas_la] at q; omega
 obtain ⟨e1, e2, ⟨h, hk, ew, h1, h2⟩ | ⟨h1, hge, h2, ⟨h, hk, ew⟩ | ⟨hz, ⟨h, hk, ew⟩ | ⟨fr, ⟨h, haw, hsl, ⟨h3a, h3b, h3c⟩, h4, h5, h6⟩ | ⟨hsl, oE, oS, ⟨h, haw, hk⟩ | ⟨h, hng, kk, hg, hk0, hk⟩⟩⟩⟩⟩⟩ := h
 ·have hl : lives (A.w (C.slot (hdSl m.d.n))) (hdGe m.d.n) := by
   rw [e1, ew]
   have := hd.ws; have h3 := hd.st
   exact ⟨by rw [show C.slot (hdSl d.n) = C.slot d.s from rfl, this]; omega, by rw [show C.slot (hdSl d.n) = C.slot d.s from rfl, this]; exact hd.sg⟩
  have e : m.step C who A = (false, { m with d := { m.d with hs := hdSl m.d.n, hg := hdGe m.d.n, w := A.w (C.slot (hdSl m.d.n)), pc := 1 } }, (A.by who).load (C.slot (hdSl m.d.n))) := by
   unfold Dm.step; rw [if_pos h, if_neg ?_, if_pos hl]
   rintro (q | q)
   ·rw [e1, hd.hok] at q; cases q
   ·rw [e1] at q; exact absurd hs.2 (by show ¬ hdSl d.n < C.S; omega)
  rw [e]
  exact ⟨ld _ (.inl (by rw [e1]; rfl)), .inl ⟨rfl, e1, e2, .inr ⟨by show hdSl m.d.n = _; rw [e1]; rfl, by show hdGe m.d.n = _; rw [e1]; rfl, by show A.w (C.slot (hdSl m.d.n)) = _; rw [e1, ew]; exact hd.ws, .inl ⟨rfl, by omega, ew⟩⟩⟩⟩
 ·have e : m.step C who A = (false, { m with d := { m.d with size := hdS (A.w (slA m.d.w)), pc := 2 } }, (A.by who).load (slA m.d.w)) := by
   have := hd.st
   unfold Dm.step; rw [if_neg (by omega), if_pos h, if_neg (by rw [h2, hd.sa, ew, hd.hd.2, e2]; simp), if_neg (by rw [h2]; omega)]
  rw [e]
  exact ⟨ld _ (.inr (.inl (by rw [h2]; exact hd.sa))), .inl ⟨rfl, e1, e2, .inr ⟨h1, hge, h2, .inr ⟨by show hdS (A.w (slA m.d.w)) = _; rw [h2, hd.sa, ew]; exact hd.hd.1, .inl ⟨rfl, by omega, ew⟩⟩⟩⟩⟩
 ·have ev : putSlot 4 (slA m.d.w) (slG m.d.w) (slV m.d.w + 1) = d.v C := by rw [h2, hd.sa, hd.sg]; rfl
  have eq : A.w (C.slot m.d.hs) = m.d.w := by rw [h1, h2, ew]; exact hd.ws
  have e : m.step C who A = (false, { m with d := { m.d with pc := 3 }, h := Hl.new m.d.hs (d.v C) m.d.size }, (A.by who).cas (C.slot m.d.hs) m.d.w (d.v C)) := by
   unfold Dm.step; rw [if_neg (by omega), if_neg (by omega), if_pos h, if_pos eq, ev]
  have a1 := aft_cas (who := who) (A := A) (a := C.slot m.d.hs) (o := m.d.w) (v := d.v C) ok (by omega)
  rw [if_pos eq, h1, ew] at a1
  rw [e, h1]
  refine ⟨cs _ _ _ (putSlot_in _ _ _ _) (.inl rfl), .inl ⟨rfl, e1, e2, .inr ⟨h1, hge, h2, .inr ⟨hz, .inr ⟨fun a n1 _ _ _ _ => by rw [a1.w]; exact upd_ne _ _ n1, .inl ⟨rfl, ?_, by rw [a1.w, upd_same], ⟨rfl, rfl, hz⟩, ⟨Int.le_refl 0, by show (0 : Int) ≤ d.z; omega⟩, (by decide : (0 : Int) ≤ 0 ∧ (0 : Int) < 18446744073709551616), .inl ⟨rfl, by show k + 1 ≤ 3 + 2 * 0; omega⟩⟩⟩⟩⟩⟩⟩
  rw [a1.w]; exact hA.slotw hC hs.1 hs.2
 ·have hha : m.h.a = d.a C + 1 + m.h.i := by unfold Hl.a; rw [h3b, v2]
  have e : m.step C who A = (if (m.h.step C who A).1 = true then (false, { m with d := { m.d with oE := 0, oH := 0, oV := 0, oS := (m.h.step C who A).2.2.t (C.slot m.d.hs), pc := 5 } }, (m.h.step C who A).2.2) else (false, { m with h := (m.h.step C who A).2.1 }, (m.h.step C who A).2.2)) := by
   unfold Dm.step; rw [if_neg (by omega), if_neg (by omega), if_neg (by omega), if_pos h]
  rw [e]
  by_cases ci : m.h.size ≤ m.h.i
  ·have enx : m.h.next C = d.nx C := by unfold Hl.next Do.nx; rw [h3b, v3]
   have eq : A.w (C.slot m.h.slot) = m.h.w := by rw [h3a, h3b]; exact hsl
   have eh : m.h.step C who A = (true, { m.h with won := decide (A.w (C.slot m.h.slot) = m.h.w) }, (A.by who).cas (C.slot m.h.slot) m.h.w (m.h.next C)) := by unfold Hl.step; rw [if_pos ci]
   have a1 := aft_cas (who := who) (A := A) (a := C.slot m.h.slot) (o := m.h.w) (v := m.h.next C) ok (by omega)
   rw [if_pos eq, h3a, h3b, enx] at a1
   have hne : m.h.w ≠ d.nx C := by
    intro q
    have := d.nxp hd.ge hG.2
    rw [← q, h3b, v1] at this; omega
   have ht := cas_t (who := who) (v := m.h.next C) ok (by omega) eq (by rw [enx]; exact hne)
   rw [eh, if_pos rfl]
   dsimp only
   rw [enx] at ht ⊢
   rw [h3a] at ht ⊢
   rw [h1, ht]
   refine ⟨cs _ _ _ (by unfold Do.nx; split <;> exact putSlot_in _ _ _ _) (.inl rfl), .inl ⟨rfl, e1, e2, .inr ⟨by first | exact h1 | rfl, hge, h2, .inr ⟨hz, .inr ⟨fun a n1 n2 n3 n4 n5 => ?_, .inr ⟨?_, rfl, ?_, .inl ⟨rfl, ?_, ?_⟩⟩⟩⟩⟩⟩⟩
   ·rw [h3b, a1.w, upd_ne _ _ n1]; exact fr a n1 n2 n3 n4 n5
   ·rw [h3b, a1.w, upd_same]
   ·have := a1.s; rw [h3b, this]; dsimp only; omega
   ·unfold Bg.aw; rw [h3b, a1.w]; exact Aw.slotw hC haw hs.1 hs.2
   ·omega
  ·have hiz : m.h.i < d.z := by omega
   have hcell : d.a C < m.h.a ∧ m.h.a ≤ d.a C + d.z := by omega
   rcases h6 with ⟨hr0, hk⟩ | ⟨hr1, _, hc, hk⟩
   ·by_cases q : ceF (A.w m.h.a) = true ∧ ceN (A.w m.h.a) = slV m.h.w
    ·have eh : m.h.step C who A = (false, { m.h with cell := A.w m.h.a, read := false, i := m.h.i + 1 }, (A.by who).load m.h.a) := by unfold Hl.step; rw [if_neg ci, if_pos hr0, if_pos q]
     rw [eh, if_neg (show ¬ (false = true) from Bool.false_ne_true)]
     exact ⟨ld _ (.inr (.inr hcell)), .inl ⟨rfl, e1, e2, .inr ⟨h1, hge, h2, .inr ⟨hz, .inr ⟨fr, .inl ⟨h, haw, hsl, ⟨h3a, h3b, h3c⟩, ⟨by dsimp only; omega, by dsimp only; omega⟩, ok.w _, .inl ⟨rfl, by dsimp only; omega⟩⟩⟩⟩⟩⟩⟩
    ·have eh : m.h.step C who A = (false, { m.h with cell := A.w m.h.a, read := true }, (A.by who).load m.h.a) := by unfold Hl.step; rw [if_neg ci, if_pos hr0, if_neg q]
     rw [eh, if_neg (show ¬ (false = true) from Bool.false_ne_true)]
     exact ⟨ld _ (.inr (.inr hcell)), .inl ⟨rfl, e1, e2, .inr ⟨h1, hge, h2, .inr ⟨hz, .inr ⟨fr, .inl ⟨h, haw, hsl, ⟨h3a, h3b, h3c⟩, h4, ok.w _, .inr ⟨rfl, hiz, rfl, by dsimp only; omega⟩⟩⟩⟩⟩⟩⟩
   ·have eh : m.h.step C who A = (false, { m.h with read := false, i := m.h.i + 1 }, (A.by who).cas m.h.a m.h.cell (putCell (ceV m.h.cell) true (slV m.h.w))) := by unfold Hl.step; rw [if_neg ci, if_neg (by rw [hr1]; decide), if_pos hc]
    have a1 := aft_cas (who := who) (A := A) (a := m.h.a) (o := m.h.cell) (v := putCell (ceV m.h.cell) true (slV m.h.w)) ok (by omega)
    rw [if_pos hc] at a1
    rw [eh, if_neg (show ¬ (false = true) from Bool.false_ne_true)]
    refine ⟨cs _ _ _ (putCell_in _ _ _) (.inr hcell), .inl ⟨rfl, e1, e2, .inr ⟨h1, hge, h2, .inr ⟨hz, .inr ⟨fun a n1 n2 n3 n4 n5 => ?_, .inl ⟨h, ?_, ?_, ⟨h3a, h3b, h3c⟩, ⟨by dsimp only; omega, by dsimp only; omega⟩, h5, .inl ⟨rfl, by dsimp only; omega⟩⟩⟩⟩⟩⟩⟩
    ·rw [a1.w, upd_ne _ _ (by rintro rfl; exact n5 hcell)]; exact fr a n1 n2 n3 n4 n5
    ·have e3 : m.h.a = C.base d.j + (d.i + 1 + m.h.i) := by rw [hha]; unfold Do.a; omega
     have hi := hd.i
     rw [a1.w, e3]
     exact Aw.word hC haw hj.1 hj.2 (by omega) (by omega) (by omega)
    ·rw [a1.w, upd_ne _ _ (by omega)]; exact hsl
 ·have e : m.step C who A = (decide (C.G ≤ m.d.hg), { m with d := { m.d with pc := 6 }, g := ⟨0, m.d.hs, 0⟩ }, (A.by who).add (C.chunk d.j + 1) (IntKind.u64.wrap (-roomOf (classOf d.z)))) := by
   unfold Dm.step; rw [if_neg (by omega), if_neg (by omega), if_neg (by omega), if_neg (by omega), if_neg (by omega), if_pos h, h2, hd.sa, hofc, hz]
  have hl := haw.live d.j hj.1 hj.2
  have hlr := hd.lv
  have ew : IntKind.u64.wrap (A.w (C.chunk d.j + 1) + IntKind.u64.wrap (-roomOf (classOf d.z))) = b.lv d.j - roomOf (classOf d.z) := by
   rw [hl, IntKind.wrap_u64, IntKind.wrap_u64]; omega
  have a1 := aft_store (who := who) (A := A) (a := C.chunk d.j + 1) (v := b.lv d.j - roomOf (classOf d.z)) ok (by omega)
  have ea : (A.by who).add (C.chunk d.j + 1) (IntKind.u64.wrap (-roomOf (classOf d.z))) = (A.by who).store (C.chunk d.j + 1) (b.lv d.j - roomOf (classOf d.z)) := by rw [add_eq, by_w, ew]
  have aw' : (b.less d.j (roomOf (classOf d.z))).aw C ((A.by who).store (C.chunk d.j + 1) (b.lv d.j - roomOf (classOf d.z))).w := by
   unfold Bg.aw; rw [a1.w]; exact Aw.lives hC haw hj.1 hj.2
  have fr' : d.fr C w0 ((A.by who).store (C.chunk d.j + 1) (b.lv d.j - roomOf (classOf d.z))).w := fun a n1 n2 n3 n4 n5 => by rw [a1.w, upd_ne _ _ n4]; exact fr a n1 n2 n3 n4 n5
  have sl' : ((A.by who).store (C.chunk d.j + 1) (b.lv d.j - roomOf (classOf d.z))).w (C.slot d.s) = d.nx C := by rw [a1.w, upd_ne _ _ (by omega)]; exact hsl
  have td : Td C A ((A.by who).store (C.chunk d.j + 1) (b.lv d.j - roomOf (classOf d.z))) d :=
   ⟨a1.s, a1.n, fun b2 o2 => a1.ok (by decide) o2 fun i => upd_cases (P := fun x => 0 ≤ x ∧ x < 18446744073709551616) (by omega) (ok.w i), .inr (.inr (.inr (.inr (.inl rfl)))), fun q => by
    have q' : C.chunk d.j + 1 = d.a C := q
    omega⟩
  have oS' : s0 < m.d.oS ∧ m.d.oS ≤ ((A.by who).store (C.chunk d.j + 1) (b.lv d.j - roomOf (classOf d.z))).s := by rw [a1.s]; omega
  rw [e, ea]
  refine ⟨td, ?_⟩
  by_cases g : C.G ≤ d.ge
  ·refine .inr ⟨decide_eq_true (by rw [hge]; exact g), oE, oS', fr', sl', ?_⟩
   rw [if_pos g]; exact aw'
  ·refine .inl ⟨decide_eq_false (by rw [hge]; exact g), e1, e2, .inr ⟨h1, hge, h2, .inr ⟨hz, .inr ⟨fr', .inr ⟨sl', oE, oS', .inr ⟨rfl, g, 0, ⟨hs, hd.sF, .inl ⟨by rw [h1], rfl, aw'⟩⟩, Int.le_refl 0, by omega⟩⟩⟩⟩⟩⟩
 ·have e : m.step C who A = ((m.g.step C who A).1, { m with g := (m.g.step C who A).2.1 }, (m.g.step C who A).2.2) := by
   unfold Dm.step; rw [if_neg (by omega), if_neg (by omega), if_neg (by omega), if_neg (by omega), if_neg (by omega), if_neg (by omega)]
  obtain ⟨⟨q1, q2, q3, q4, q5⟩, q⟩ := hg.step (who := who) hC ok hb
  rw [e]
  have td : Td C A (m.g.step C who A).2.2 d := ⟨q2, q3, fun b2 o2 => ?_, by rcases q5 with q | q; exact .inr (.inr (.inl q)); exact .inr (.inr (.inr (.inl q))), fun q => by
   rcases q5 with q5 | q5 <;> (rw [q5] at q; omega)⟩
  rotate_left
  ·have := o2.s; have := q4.s; have h5 := q4.t
   exact ⟨q4.w, ⟨by omega, by omega⟩, h5⟩
  have fr' : d.fr C w0 (m.g.step C who A).2.2.w := fun a n1 n2 n3 n4 n5 => by rw [q1 a n2 n3]; exact fr a n1 n2 n3 n4 n5
  have sl' : (m.g.step C who A).2.2.w (C.slot d.s) = d.nx C := by rw [q1 _ (by omega) (by omega)]; exact hsl
  have oS' : s0 < m.d.oS ∧ m.d.oS ≤ (m.g.step C who A).2.2.s := by rw [q2]; omega
  refine ⟨td, ?_⟩
  rcases q with ⟨q, h'⟩ | ⟨q, h'⟩
  ·exact .inl ⟨q, e1, e2, .inr ⟨h1, hge, h2, .inr ⟨hz, .inr ⟨fr', .inr ⟨sl', oE, oS', .inr ⟨h, hng, kk + 1, h', by omega, by omega⟩⟩⟩⟩⟩⟩
  ·refine .inr ⟨q, oE, oS', fr', sl', ?_⟩
   rw [if_neg hng]; exact h'
end Go.Fl
namespace Go.Fl
open Go
set_option linter.unusedVariables false
set_option linter.unusedSimpArgs false
variable {N : Nm} {A B : Ar} {σ : Mem} {K : Value → Mem → Prop} {C : Cf} {who : Int}
theorem Bg.aw.pa {b : Bg} {bb : Int} (hC : C.ok) (h : b.aw C A.w) (ok : A.ok bb) (hn : C.len ≤ A.n) : Pa C A bb := by
 refine ⟨ok, hn, fun c c0 c3 => ?_⟩
 have := h.alo.op c c0 c3
 have := h.alo.bd
 omega
theorem Dm.new_fit (hC : C.ok) {n : Int} {o : Bool} (hn : 0 ≤ n ∧ n < 18446744073709551616) : (Dm.new n o).fit C A := by
 have hS := hC.S
 exact ⟨⟨Int.le_refl 0, (by decide : (0 : Int) ≤ 6)⟩, hn, ⟨Int.le_refl 0, by show (0 : Int) < C.S; omega⟩, ⟨Int.le_refl 0, (by decide : (0 : Int) < 18446744073709551616)⟩, fun e => (by cases e), fun e => (by rcases e with e | e <;> cases e), fun e => (by cases e), fun e => (by cases e)⟩
def NoDrop (C : Cf) (w : Int → Int) (n : Int) (own : Bool) : Prop :=
 (hdOk n = false ∨ C.S ≤ hdSl n) ∨ (hdOk n = true ∧ hdSl n < C.S) ∧ (¬ lives (w (C.slot (hdSl n))) (hdGe n) ∨ lives (w (C.slot (hdSl n))) (hdGe n) ∧ slA (w (C.slot (hdSl n))) < C.len ∧ hdO (w (slA (w (C.slot (hdSl n))))) ≠ own)
def NoI (C : Cf) (A0 : Ar) (n : Int) (own : Bool) (k : Int) (m : Dm) (A : Ar) : Prop :=
 k = 0 ∧ m = Dm.new n own ∧ A = A0 ∨ k = 1 ∧ A.w = A0.w ∧ A.s = A0.s + 1 ∧ A.n = A0.n ∧ (∀ bb, A0.ok bb → A.ok (bb + 1)) ∧ m.d.pc = 1 ∧ m.d.n = n ∧ m.d.own = own ∧ m.d.w = A0.w (C.slot (hdSl n)) ∧ (m.d.hs = hdSl n ∧ hdSl n < C.S) ∧ slA m.d.w < C.len ∧ hdO (A0.w (slA m.d.w)) ≠ own
structure NoD (A0 : Ar) (m : Dm) (A : Ar) : Prop where
 e : m.d.oE = 3 ∧ m.d.oH = 0 ∧ m.d.oV = 0
 s : A0.s ≤ m.d.oS ∧ m.d.oS = A.s ∧ A.s ≤ A0.s + 2
 w : A.w = A0.w
 n : A.n = A0.n
 ok : ∀ bb, A0.ok bb → A.ok (bb + 2)
theorem ok_mono {bb b' : Int} (h : A.ok bb) (hb : bb ≤ b') : A.ok b' := ⟨h.w, ⟨h.s.1, by have := h.s.2; omega⟩, h.t⟩
theorem NoI.step (hC : C.ok) {A0 : Ar} {n k bb : Int} {own : Bool} {m : Dm} (h : NoI C A0 n own k m A) (hn : NoDrop C A0.w n own) (h0 : 0 ≤ n ∧ n < 18446744073709551616) (ok : A0.ok bb) (hb : bb < 4611686018427387904) (hl : C.len ≤ A0.n) :
  m.fit C A ∧ (A.ok (bb + 1) ∧ C.len ≤ A.n ∧ ((m.step C who A).2.2 = A ∨ ∃ a, (m.step C who A).2.2 = (A.by who).load a ∧ 0 ≤ a ∧ a < C.len)) ∧ (((m.step C who A).1 = false ∧ NoI C A0 n own (k + 1) (m.step C who A).2.1 (m.step C who A).2.2) ∨ ((m.step C who A).1 = true ∧ NoD A0 (m.step C who A).2.1 (m.step C who A).2.2)) := by
 rcases h with ⟨rfl, rfl, rfl⟩ | ⟨rfl, ew, es, en, eo, h1, h2, h3, h4, h5, h6, h7⟩
 ·have hT := hC.T
  have hS := hC.S
  have hCC := hC.C
  have hll := len_bd hC
  have hsb : hdSl n < C.S → 0 ≤ C.slot (hdSl n) ∧ C.slot (hdSl n) < C.len := fun q => by have := hdSl_bd h0.1; unfold Cf.slot; unfold Cf.chunk at hll; omega
  refine ⟨Dm.new_fit hC h0, ?_⟩
  suffices H : _ ∧ _ from ⟨⟨ok_mono ok (by omega), hl, H.1⟩, H.2⟩
  have p0 : (Dm.new n own).d.pc = 0 := rfl
  have hb := hdSl_bd h0.1
  have a1 := aft_load (who := who) (A := A) (a := C.slot (hdSl n)) ok (by omega)
  by_cases c : hdOk n = false ∨ C.S ≤ hdSl n
  ·have e : (Dm.new n own).step C who A = (true, { Dm.new n own with d := { (Dm.new n own).d with hs := hdSl n, hg := hdGe n, oE := 3, oH := 0, oV := 0, oS := A.s } }, A) := by
    unfold Dm.step; rw [if_pos p0, if_pos (show hdOk (Dm.new n own).d.n = false ∨ C.S ≤ hdSl (Dm.new n own).d.n from c)]; rfl
   rw [e]
   refine ⟨.inl rfl, ?_⟩
   exact .inr ⟨rfl, ⟨rfl, rfl, rfl⟩, ⟨Int.le_refl _, rfl, by dsimp only; omega⟩, rfl, rfl, fun b2 o2 => ok_mono o2 (by omega)⟩
  ·rcases hn with hn | ⟨hn1, hn⟩
   ·exact absurd hn c
   rcases hn with hn | ⟨hn, h8, h9⟩
   ·have e : (Dm.new n own).step C who A = (true, { Dm.new n own with d := { (Dm.new n own).d with hs := hdSl n, hg := hdGe n, w := A.w (C.slot (hdSl n)), oE := 3, oH := 0, oV := 0, oS := ((A.by who).load (C.slot (hdSl n))).s } }, (A.by who).load (C.slot (hdSl n))) := by
     unfold Dm.step; rw [if_pos p0, if_neg (show ¬ (hdOk (Dm.new n own).d.n = false ∨ C.S ≤ hdSl (Dm.new n own).d.n) from c), if_neg (show ¬ lives (A.w (C.slot (hdSl (Dm.new n own).d.n))) (hdGe (Dm.new n own).d.n) from hn)]; rfl
    rw [e]
    refine ⟨.inr ⟨_, rfl, hsb hn1.2⟩, ?_⟩
    exact .inr ⟨rfl, ⟨rfl, rfl, rfl⟩, ⟨by have := a1.s; dsimp only; omega, rfl, by have := a1.s; dsimp only; omega⟩, rfl, rfl, fun b2 o2 => ok_mono (a1.ok (by decide) o2 o2.w) (by omega)⟩
   ·have e : (Dm.new n own).step C who A = (false, { Dm.new n own with d := { (Dm.new n own).d with hs := hdSl n, hg := hdGe n, w := A.w (C.slot (hdSl n)), pc := 1 } }, (A.by who).load (C.slot (hdSl n))) := by
     unfold Dm.step; rw [if_pos p0, if_neg (show ¬ (hdOk (Dm.new n own).d.n = false ∨ C.S ≤ hdSl (Dm.new n own).d.n) from c), if_pos (show lives (A.w (C.slot (hdSl (Dm.new n own).d.n))) (hdGe (Dm.new n own).d.n) from hn)]; rfl
    rw [e]
    refine ⟨.inr ⟨_, rfl, hsb hn1.2⟩, ?_⟩
    exact .inl ⟨rfl, .inr ⟨rfl, rfl, a1.s, rfl, fun b2 o2 => a1.ok (by decide) o2 o2.w, rfl, rfl, rfl, rfl, ⟨rfl, hn1.2⟩, h8, h9⟩⟩
 ·have ok' := eo bb ok
  have hb' := hdSl_bd h0.1
  refine ⟨⟨by omega, by rw [h2]; exact h0, by rw [h5.1]; exact ⟨hb'.1.1, h5.2⟩, by rw [h4]; exact ok.w _, fun _ => by omega, fun e => by omega, fun e => by omega, fun e => by omega⟩, ?_⟩
  suffices H : _ ∧ _ from ⟨⟨ok', by omega, H.1⟩, H.2⟩
  have a1 := aft_load (who := who) (A := A) (a := slA m.d.w) ok' (by omega)
  have e : m.step C who A = (true, { m with d := { m.d with oE := 3, oH := 0, oV := 0, oS := ((A.by who).load (slA m.d.w)).s } }, (A.by who).load (slA m.d.w)) := by
   unfold Dm.step; rw [if_neg (by omega), if_pos h1, if_pos (by rw [h3, ew]; exact h7)]
  rw [e]
  refine ⟨.inr ⟨_, rfl, (slA_bd _).1, h6⟩, ?_⟩
  refine .inr ⟨rfl, ⟨rfl, rfl, rfl⟩, ⟨by have := a1.s; dsimp only; omega, rfl, by have := a1.s; dsimp only; omega⟩, ew, en, fun b2 o2 => ?_⟩
  rw [show b2 + 2 = b2 + 1 + 1 by omega]
  exact a1.ok (by decide) (eo b2 o2) (eo b2 o2).w
end Go.Fl
namespace Go.Fl
open Go
set_option linter.unusedVariables false
set_option linter.unusedSimpArgs false
variable {N : Nm} {A B : Ar} {σ : Mem} {K : Value → Mem → Prop} {C : Cf} {who : Int}
theorem hd_handle {s g : Int} (s0 : 0 ≤ s ∧ s ≤ 65535) (g0 : 1 ≤ g ∧ g ≤ 65535) : (0 ≤ putHandle s g ∧ putHandle s g < 18446744073709551616) ∧ hdOk (putHandle s g) = true ∧ hdSl (putHandle s g) = s ∧ hdGe (putHandle s g) = g ∧ putHandle s g = s + g * 65536 := by
 have e : putHandle s g = s + g * 65536 := by unfold putHandle; rw [cl_in s0.1 s0.2, cl_in (by omega) g0.2]
 have ho : hdOk (putHandle s g) = true := decide_eq_true (by rw [e]; omega)
 refine ⟨by rw [e]; omega, ho, ?_, ?_, e⟩
 ·unfold hdSl; rw [ho, e]; simp only [if_true]; omega
 ·unfold hdGe; rw [ho, e]; simp only [if_true]; omega
theorem class_room' {n : Int} (h : 0 ≤ classOf n) : (1 ≤ n ∧ n ≤ 16) ∧ n + 1 ≤ roomOf (classOf n) := by
 unfold classOf at *
 split at h
 ·omega
 ·rename_i h1; rw [if_neg h1]
  split at h
  ·rename_i h2; rw [if_pos h2]; refine ⟨by omega, ?_⟩; show n + 1 ≤ 3; omega
  ·rename_i h2; rw [if_neg h2]
   split at h
   ·rename_i h3; rw [if_pos h3]; refine ⟨by omega, ?_⟩; show n + 1 ≤ 5; omega
   ·rename_i h3; rw [if_neg h3]
    split at h
    ·rename_i h4; rw [if_pos h4]; refine ⟨by omega, ?_⟩; show n + 1 ≤ 9; omega
    ·rename_i h4; rw [if_neg h4]
     split at h
     ·rename_i h5; rw [if_pos h5]; refine ⟨by omega, ?_⟩; show n + 1 ≤ 17; omega
     ·omega
def Do.mk' (C : Cf) (b : Bg) (s ge z : Int) (own : Bool) (j : Int) : Do := ⟨putHandle s ge, putSlot 1 (C.base j + b.u j) ge 0, z, own, j, b.u j⟩
theorem Got.cnt (hC : C.ok) {b b' : Bg} {F : List Int} {c j n : Int} (hg : Got C b F c j b') : (b'.count j n).F = F ∧ (b'.count j n).lv = upd b.lv j (b.lv j + n) ∧ (b'.count j n).u = upd b.u j (b.u j + roomOf c) := by
 obtain ⟨h1, h2⟩ := hg.has hC
 refine ⟨h1, ?_, ?_⟩
 ·show upd b'.lv j (b'.lv j + n) = _; rw [h2]
 ·show b'.u = _
  rcases hg with ⟨_, _, q⟩ | ⟨_, _, _, q⟩ <;> rw [q]
theorem Got.do (hC : C.ok) {b b' : Bg} {F : List Int} {z s j ge : Int} {own : Bool} {w : Int → Int} (hc : 0 ≤ classOf z) (s0 : 0 ≤ s ∧ s < C.S) (sF : s ∉ F) (g0 : 1 ≤ ge ∧ ge ≤ 65535) (hg : Got C b F (classOf z) j b') (hal : ∃ w, Alo C b.o b.u b.nx w) (hlv : 0 ≤ b.lv j)
  (h1 : w (C.slot s) = putSlot 1 (C.base j + b.u j) ge 0) (h2 : w (C.base j + b.u j) = putHead 2 z s ge own) : (Do.mk' C b s ge z own j).ok C (b'.count j (roomOf (classOf z))) w := by
 have hS := hC.S
 have hc3 := (class_bd z).2
 obtain ⟨wA, hal⟩ := hal
 obtain ⟨d1, d2, d3, d4⟩ := hg.bd hC hal hc hc3
 obtain ⟨sz, szr⟩ := class_room' hc
 obtain ⟨c1, c2, c3⟩ := hg.cnt hC (n := roomOf (classOf z))
 obtain ⟨u0, u1, u2, u3, u4⟩ := hd_handle (s := s) (g := ge) (by omega) g0
 have hb1 := base_of hC d1.1 d1.2 d2.1 (by omega)
 have hb2 := base_ge hC d1.1 d1.2 d2.1
 have hl := len_bd hC
 obtain ⟨p1, p2, p3, p4⟩ := sl_put (st := 1) (ad := C.base j + b.u j) (ge := ge) (ve := 0) (by decide) (by omega) (by omega) (by decide)
 obtain ⟨q1, q2, q3, q4, q5⟩ := hd_put (k := 2) (s := z) (t := s) (g := ge) (o := own) (by decide) (by omega) (by omega) (by omega)
 have es : (Do.mk' C b s ge z own j).s = s := u2
 have eg : (Do.mk' C b s ge z own j).ge = ge := u3
 exact ⟨u0, u1, by rw [es]; exact s0, by rw [es, c1]; exact sF, by rw [eg]; omega, by rw [es]; exact h1, .inl p1, p2, by rw [eg]; exact p3, ⟨by show hdS (w (C.base j + b.u j)) = z; rw [h2]; exact q2, by show hdO (w (C.base j + b.u j)) = own; rw [h2]; exact q5⟩, hc, d1,
  ⟨d2.1, by show b.u j + roomOf (classOf z) ≤ (b'.count j (roomOf (classOf z))).u j; rw [c3, upd_same]; exact Int.le_refl _⟩, szr, by show roomOf (classOf z) ≤ (b'.count j (roomOf (classOf z))).lv j; rw [c2, upd_same]; omega⟩
theorem Do.ok.keep {d : Do} {b b' : Bg} {w w' : Int → Int} (h : d.ok C b w) (sF : d.s ∉ b'.F) (h1 : w' (C.slot d.s) = w (C.slot d.s)) (h2 : w' (d.a C) = w (d.a C)) (hu : b.u d.j ≤ b'.u d.j) (hlv : roomOf (classOf d.z) ≤ b'.lv d.j) : d.ok C b' w' :=
 ⟨h.n, h.hok, h.s, sF, h.ge, by rw [h1]; exact h.ws, h.st, h.sa, h.sg, by rw [h2]; exact h.hd, h.cl, h.j, ⟨h.i.1, by have := h.i.2; omega⟩, h.z, hlv⟩
theorem Do.ok.word {d : Do} {b : Bg} {w : Int → Int} {v : Int} (hC : C.ok) (h : d.ok C b w) (ha : C.base 0 ≤ d.a C) (h1 : slS v = 1 ∨ slS v = 2) (h2 : slA v = d.a C) (h3 : slG v = d.ge) : ({ d with ws := v } : Do).ok C b (upd w (C.slot d.s) v) := by
 have hb0 : C.base 0 = 6 + C.T + 2 * C.S + 3 * C.C := by unfold Cf.base; omega
 have hs := h.s
 have hCC := hC.C
 have ne : d.a C ≠ C.slot d.s := by unfold Cf.slot; omega
 refine ⟨h.n, h.hok, h.s, h.sF, h.ge, upd_same _ _ _, h1, h2, h3, ?_, h.cl, h.j, h.i, h.z, h.lv⟩
 show hdS (upd w (C.slot d.s) v (d.a C)) = d.z ∧ hdO (upd w (C.slot d.s) v (d.a C)) = d.own
 rw [upd_ne _ _ ne]; exact h.hd
end Go.Fl
namespace Go.Fl
open Go
set_option linter.unusedVariables false
set_option linter.unusedSimpArgs false
variable {N : Nm} {A B : Ar} {σ : Mem} {K : Value → Mem → Prop} {C : Cf} {who : Int}
theorem cells_snoc {k : IntKind} {n : Nat} {f g : Int → Int} (h : ∀ i : Int, 0 ≤ i → i < n → g i = f i) : cells k n f ++ [.int k (g n)] = cells k (n + 1) g := by
 unfold cells
 rw [List.range_succ, List.map_append]
 congr 1
 apply List.map_congr_left
 intro i hi
 rw [h i (by omega) (by have := List.mem_range.1 hi; omega)]
theorem cellsB_snoc {n : Nat} {f g : Int → Bool} (h : ∀ i : Int, 0 ≤ i → i < n → g i = f i) : cellsB n f ++ [.bool (g n)] = cellsB (n + 1) g := by
 unfold cellsB
 rw [List.range_succ, List.map_append]
 congr 1
 apply List.map_congr_left
 intro i hi
 rw [h i (by omega) (by have := List.mem_range.1 hi; omega)]
theorem cellsB_len {n : Nat} {f : Int → Bool} : (cellsB n f).length = n := by simp [cellsB]
def updB (f : Int → Bool) (a : Int) (v : Bool) : Int → Bool := fun i => if i = a then v else f i
def sumN (f : Int → Int) : Nat → Int
 | 0 => 0
 | n + 1 => sumN f n + f n
theorem sumN_congr {f g : Int → Int} : ∀ {n : Nat}, (∀ i : Int, 0 ≤ i → i < n → f i = g i) → sumN f n = sumN g n
 | 0, _ => rfl
 | n + 1, h => by
  show sumN f n + f n = sumN g n + g n
  rw [sumN_congr (n := n) fun i i0 i1 => h i i0 (by omega), h n (by omega) (by omega)]
theorem sumN_nn {f : Int → Int} : ∀ {n : Nat}, (∀ i, 0 ≤ f i) → 0 ≤ sumN f n
 | 0, _ => Int.le_refl 0
 | n + 1, h => by have := sumN_nn (n := n) h; have := h n; show 0 ≤ sumN f n + f n; omega
theorem sumN_le {f : Int → Int} {k : Int} : ∀ {n : Nat}, (∀ i, 0 ≤ f i) → 0 ≤ k → k < n → f k ≤ sumN f n
 | 0, _, h0, h1 => by omega
 | n + 1, h, h0, h1 => by
  show f k ≤ sumN f n + f n
  by_cases e : k = n
  ·subst e; have := sumN_nn (n := n) h; omega
  ·have := sumN_le (n := n) h h0 (by omega); have := h n; omega
theorem sumN_upd {f : Int → Int} {k v : Int} : ∀ {n : Nat}, 0 ≤ k → k < n → sumN (upd f k v) n = sumN f n - f k + v
 | 0, h0, h1 => by omega
 | n + 1, h0, h1 => by
  show sumN (upd f k v) n + upd f k v n = sumN f n + f n - f k + v
  by_cases e : k = n
  ·subst e
   rw [upd_same, sumN_congr (f := upd f (n : Int) v) (g := f) fun i i0 i1 => upd_ne _ _ (by omega)]; omega
  ·rw [upd_ne _ _ (by omega), sumN_upd (n := n) h0 (by omega)]; omega
def Do.rm (d : Do) : Int := roomOf (classOf d.z)
def part (dd : Int → Do) (li : Int → Bool) (j : Int) : Int → Int := fun k => if li k = true ∧ (dd k).j = j then (dd k).rm else 0
theorem Do.rm0 {d : Do} : 0 < d.rm ∧ d.rm ≤ 17 := by
 unfold Do.rm roomOf; (repeat' split) <;> decide
end Go.Fl
namespace Go.Fl
open Go
set_option linter.unusedVariables false
set_option linter.unusedSimpArgs false
variable {N : Nm} {A B : Ar} {σ : Mem} {K : Value → Mem → Prop} {C : Cf} {who : Int}
structure Ac where
 kd : Int
 n : Int
 ix : Int
 v : Int
 old : Int
 own : Bool
 hs : Int
 hg : Int
 pc : Int
 w : Int
 cell : Int
 seen : Int
 rd : Int
 size : Int
 help : Option Nat
 oE : Int
 oH : Int
 oV : Int
 oS : Int
def Ac.l (a : Ac) : List Value := [.int .i64 a.kd, .int .u64 a.n, .int .i64 a.ix, .int .i64 a.v, .int .i64 a.old, .bool a.own, .int .i64 a.hs, .int .i64 a.hg, .int .i64 a.pc, .int .u64 a.w, .int .u64 a.cell, .int .i64 a.seen, .int .i64 a.rd, .int .i64 a.size, obP a.help, .int .i64 a.oE, .int .u64 a.oH, .int .i64 a.oV, .int .i64 a.oS]
def Ac.new (kd n ix v old : Int) (own : Bool) : Ac := ⟨kd, n, ix, v, old, own, 0, 0, 0, 0, 0, 0, 0, 0, none, 0, 0, 0, 0⟩
def Ac.nxt (a : Ac) : Int :=
 if a.kd = 1 ∨ a.kd = 3 ∧ ceV a.cell ≠ a.old then 6 else if slS a.w = 4 then 4 else if ceF a.cell = false ∨ ceN a.cell < slV a.w then 5 else if ceN a.cell = slV a.w ∧ slS a.w = 2 then 3 else 0
def Ac.at' (a : Ac) : Int := slA a.w + 1 + a.ix
def Ac.fin (a : Ac) (e v s : Int) : Ac := { a with oE := e, oH := 0, oV := v, oS := s }
theorem ldAx {p k sz : Nat} {ag : Bool} {a : Ac} {v : Value} (hd : p ∉ N.l) (h : sub a.l k sz ag = some v) : hLoad sz ag [.pointer (some ⟨p, k, none⟩)] K (putA N A (σ.set p ⟨a.l, true⟩)) = K v (putA N A (σ.set p ⟨a.l, true⟩)) := by
 rw [hLoad_eq ((putA_get hd).trans (Mem.get_set_same _ _ _)), h, xOs]
theorem stAx {p k : Nat} {a : Ac} (a' : Ac) {x : Value} (hd : p ∉ N.l) (hx : cellsOf x 1 = some [x]) (ho : oneB x = true) (hk : k + 1 ≤ 19) (e : lay a.l k [x] = a'.l) :
  hStore 1 [.pointer (some ⟨p, k, none⟩), x] K (putA N A (σ.set p ⟨a.l, true⟩)) = K undef (putA N A (σ.set p ⟨a'.l, true⟩)) := by
 have := stO (K := K) (N := N) (A := A) (σ := σ) (p := p) (pre := []) (L := a.l) (post := []) (k := k) (sz := 1) (x := x) (c := [x]) hd hx rfl hk (by simp [ho])
 rw [e] at this
 simpa only [List.nil_append, List.append_nil, List.length_nil, Nat.zero_add] using this
theorem stAxa {p k sz : Nat} {a : Ac} (a' : Ac) {c : List Value} (hd : p ∉ N.l) (hl : c.length = sz) (ho : c.all oneB = true) (hk : k + sz ≤ 19) (e : lay a.l k c = a'.l) :
  hStore sz [.pointer (some ⟨p, k, none⟩), .agg c.toArray] K (putA N A (σ.set p ⟨a.l, true⟩)) = K undef (putA N A (σ.set p ⟨a'.l, true⟩)) := by
 have := stOa (K := K) (N := N) (A := A) (σ := σ) (p := p) (pre := []) (L := a.l) (post := []) (k := k) (sz := sz) (c := c) hd hl hk ho
 rw [e] at this
 simpa only [List.nil_append, List.append_nil, List.length_nil, Nat.zero_add] using this
theorem c_AccNew {kd n ix v old : Int} {o : Bool} (hk : ∀ id τ, σ.get id = none → τ.get id = some ⟨(Ac.new kd n ix v old o).l, true⟩ → Ext σ τ → K (.pointer (some ⟨id, 0, none⟩)) τ) :
  s_ag [.agg #[.int .i64 kd, .int .u64 n, .int .i64 ix, .int .i64 v, .int .i64 old], .bool o] K σ := by
 have b : ∀ K : Value → Prop, xF (fBuild [(0, 5), (5, 1), (6, 2), (8, 1), (9, 1), (10, 1), (11, 1), (12, 1), (13, 1), (14, 1), (15, 4)] [.int .i64 0, .int .u64 0, .int .i64 0, .int .i64 0, .int .i64 0, .bool false, .int .i64 0, .int .i64 0, .int .i64 0, .int .u64 0, .int .u64 0, .int .i64 0, .int .i64 0, .int .i64 0, .pointer none, .int .i64 0, .int .u64 0, .int .i64 0, .int .i64 0] [0, 1]) [.agg #[.int .i64 kd, .int .u64 n, .int .i64 ix, .int .i64 v, .int .i64 old], .bool o] K =
   K (.agg (Ac.new kd n ix v old o).l.toArray) := fun K => nr rfl
 have g : gBox 5 [.agg #[.int .i64 kd, .int .u64 n, .int .i64 ix, .int .i64 v, .int .i64 old]] [] = some [.int .i64 kd, .int .u64 n, .int .i64 ix, .int .i64 v, .int .i64 old] := rfl
 have s5 : ∀ x y z u w : Value, gLoad 5 true [.pointer (some ⟨2, 0, some 0⟩)] [x, y, z, u, w] = some (.agg #[x, y, z, u, w]) := fun _ _ _ _ _ => rfl
 simp only [s_ag, w_ag, g, s5, locP, b, xCs, xOs, ruS, Nat.reduceAdd, reduceIte, Int.reduceLT, Int.reduceLE, Int.reduceEq, Int.reduceNeg, Int.reduceAdd, Int.reduceSub]
 exact hBox_i (cs := (Ac.new kd n ix v old o).l) rfl hk
theorem c_AccDone (hA : isA N A σ) {p : Nat} {a : Ac} (hp : σ.get p = some ⟨a.l, true⟩) (hk : K (.agg #[.int .i64 a.oE, .int .u64 a.oH, .int .i64 a.oV, .int .i64 a.oS]) σ) : s_aa [.pointer (some ⟨p, 0, none⟩)] K σ := by
 have gs : ∀ x y z w : Int, gStore 4 [.pointer (some ⟨2, 0, some 0⟩), .agg #[.int .i64 x, .int .u64 y, .int .i64 z, .int .i64 w]] [.int .i64 0, .int .u64 0, .int .i64 0, .int .i64 0] = some [.int .i64 x, .int .u64 y, .int .i64 z, .int .i64 w] := fun _ _ _ _ => rfl
 simp only [s_aa, w_aa, ruS, ruL, ruE, Nat.reduceAdd, reduceIte, Int.reduceLT, Int.reduceLE, Int.reduceEq, Int.reduceNeg, Int.reduceAdd, Int.reduceSub, Nat.reduceLeDiff, Nat.reduceLT]
 rw [ldG hp (show sub a.l 15 4 true = some (.agg #[.int .i64 a.oE, .int .u64 a.oH, .int .i64 a.oV, .int .i64 a.oS]) from rfl)]
 simp only [gs, sub4, ruS, ruL, ruE, Nat.reduceAdd, reduceIte, Int.reduceLT, Int.reduceLE, Int.reduceEq, Int.reduceNeg, Int.reduceAdd, Int.reduceSub, Nat.reduceLeDiff, Nat.reduceLT]
 exact hk
theorem c_Aend {p : Nat} {a : Ac} {e v s : Int} (hd : p ∉ N.l) : s_ae [.pointer (some ⟨p, 0, none⟩), .int .i64 e, .int .i64 v, .int .i64 s] K (putA N A (σ.set p ⟨a.l, true⟩)) = K (.bool true) (putA N A (σ.set p ⟨(a.fin e v s).l, true⟩)) := by
 have b : ∀ (K : Value → Prop), xF (fBuild [(0, 1), (1, 1), (2, 1), (3, 1)] [.int .i64 0, .int .u64 0, .int .i64 0, .int .i64 0] [0, 2, 3]) [.int .i64 e, .int .i64 v, .int .i64 s] K = K (.agg #[.int .i64 e, .int .u64 0, .int .i64 v, .int .i64 s]) := fun K => nr rfl
 simp only [s_ae, w_ae, b, ruS, ruL, ruE, Nat.reduceAdd, reduceIte, Int.reduceLT, Int.reduceLE, Int.reduceEq, Int.reduceNeg, Int.reduceAdd, Int.reduceSub, Nat.reduceLeDiff, Nat.reduceLT]
 have := stAxa (K := fun _ σ => K (.bool true) σ) (N := N) (A := A) (σ := σ) (p := p) (a := a) (a.fin e v s) (c := [.int .i64 e, .int .u64 0, .int .i64 v, .int .i64 s]) (sz := 4) (k := 15) hd rfl rfl (by decide) rfl
 exact this
theorem c_Aat {p : Nat} {a : Ac} (hd : p ∉ N.l) (h3 : 0 ≤ a.w ∧ a.w < 18446744073709551616) (h : 0 ≤ a.at' ∧ a.at' < 9223372036854775807) : s_ac [.pointer (some ⟨p, 0, none⟩)] K (putA N A (σ.set p ⟨a.l, true⟩)) = K (.int .i64 a.at') (putA N A (σ.set p ⟨a.l, true⟩)) := by
 have hA1 := slA_bd a.w
 simp only [s_ac, w_ac, ruS, ruL, ruE, Nat.reduceAdd, reduceIte, Int.reduceLT, Int.reduceLE, Int.reduceEq, Int.reduceNeg, Int.reduceAdd, Int.reduceSub, Nat.reduceLeDiff, Nat.reduceLT]
 rw [ldAx hd (show sub _ 9 1 false = some (.int .u64 a.w) from rfl), c_wSlot h3.1 h3.2]
 simp only [xFldV, List.toList_toArray, ruS, ruL, ruE, Nat.reduceAdd, reduceIte, Int.reduceLT, Int.reduceLE, Int.reduceEq, Int.reduceNeg, Int.reduceAdd, Int.reduceSub, Nat.reduceLeDiff, Nat.reduceLT]
 rw [ldAx hd (show sub _ 2 1 false = some (.int .i64 a.ix) from rfl), IntWalk.i64_in (slA a.w + 1) (by omega)]
 simp only [ruS, ruL, ruE, Nat.reduceAdd, reduceIte, Int.reduceLT, Int.reduceLE, Int.reduceEq, Int.reduceNeg, Int.reduceAdd, Int.reduceSub, Nat.reduceLeDiff, Nat.reduceLT]
 rw [show slA a.w + 1 + a.ix = a.at' from rfl, IntWalk.i64_in _ (by omega)]
theorem c_Anext {p : Nat} {a : Ac} (hd : p ∉ N.l) (h3 : 0 ≤ a.w ∧ a.w < 18446744073709551616) (h4 : 0 ≤ a.cell ∧ a.cell < 18446744073709551616) : s_af [.pointer (some ⟨p, 0, none⟩)] K (putA N A (σ.set p ⟨a.l, true⟩)) = K (.int .i64 a.nxt) (putA N A (σ.set p ⟨a.l, true⟩)) := by
 have g4 : ∀ (k : Nat) (x y z w x' y' z' w' : Int), gStore 4 [.pointer (some ⟨k, 0, some 0⟩), .agg #[.int .i64 x, .int .i64 y, .int .i64 z, .int .i64 w]] [.int .i64 x', .int .i64 y', .int .i64 z', .int .i64 w'] = some [.int .i64 x, .int .i64 y, .int .i64 z, .int .i64 w] := fun _ _ _ _ _ _ _ _ _ => rfl
 have g3 : ∀ (k : Nat) (x z : Int) (y : Bool) (x' z' : Int) (y' : Bool), gStore 3 [.pointer (some ⟨k, 0, some 0⟩), .agg #[.int .i64 x, .bool y, .int .i64 z]] [.int .i64 x', .bool y', .int .i64 z'] = some [.int .i64 x, .bool y, .int .i64 z] := fun _ _ _ _ _ _ _ => rfl
 simp only [s_af, w_af, ruS, ruL, ruE, Nat.reduceAdd, reduceIte, Int.reduceLT, Int.reduceLE, Int.reduceEq, Int.reduceNeg, Int.reduceAdd, Int.reduceSub, Nat.reduceLeDiff, Nat.reduceLT]
 rw [ldAx hd (show sub _ 10 1 false = some (.int .u64 a.cell) from rfl), c_wCell h4.1 h4.2]
 simp only [ruS, ruL, ruE, Nat.reduceAdd, reduceIte, Int.reduceLT, Int.reduceLE, Int.reduceEq, Int.reduceNeg, Int.reduceAdd, Int.reduceSub, Nat.reduceLeDiff, Nat.reduceLT]
 rw [ldAx hd (show sub _ 9 1 false = some (.int .u64 a.w) from rfl), c_wSlot h3.1 h3.2]
 simp only [g3, g4, ruS, ruL, ruE, Nat.reduceAdd, reduceIte, Int.reduceLT, Int.reduceLE, Int.reduceEq, Int.reduceNeg, Int.reduceAdd, Int.reduceSub, Nat.reduceLeDiff, Nat.reduceLT]
 rw [ldAx hd (show sub _ 0 1 false = some (.int .i64 a.kd) from rfl)]
 have rest : ∀ b : Bool, (b = true ↔ a.kd = 1 ∨ a.kd = 3 ∧ ceV a.cell ≠ a.old) → w_af_j1 K [.bool b] [[.int .i64 (ceV a.cell), .bool (ceF a.cell), .int .i64 (ceN a.cell)], [.int .i64 (slS a.w), .int .i64 (slA a.w), .int .i64 (slG a.w), .int .i64 (slV a.w)]] (putA N A (σ.set p ⟨a.l, true⟩)) = K (.int .i64 a.nxt) (putA N A (σ.set p ⟨a.l, true⟩)) := by
  intro b hb
  unfold Ac.nxt
  simp only [← hb]
  simp only [w_af_j1, w_af_j1b, ruS, ruL, ruE, Nat.reduceAdd, reduceIte, Int.reduceLT, Int.reduceLE, Int.reduceEq, Int.reduceNeg, Int.reduceAdd, Int.reduceSub, Nat.reduceLeDiff, Nat.reduceLT]
  cases b with
  | true => simp only [ruS, ruL, ruE, Nat.reduceAdd, reduceIte, Int.reduceLT, Int.reduceLE, Int.reduceEq, Int.reduceNeg, Int.reduceAdd, Int.reduceSub, Nat.reduceLeDiff, Nat.reduceLT]
  | false =>
   simp only [Bool.false_eq_true, if_false, ruS, ruL, ruE, Nat.reduceAdd, reduceIte, Int.reduceLT, Int.reduceLE, Int.reduceEq, Int.reduceNeg, Int.reduceAdd, Int.reduceSub, Nat.reduceLeDiff, Nat.reduceLT]
   by_cases c1 : slS a.w = 4
   ·simp only [c1, ruS, ruL, ruE, Nat.reduceAdd, reduceIte, Int.reduceLT, Int.reduceLE, Int.reduceEq, Int.reduceNeg, Int.reduceAdd, Int.reduceSub, Nat.reduceLeDiff, Nat.reduceLT]
   ·simp only [c1, ruS, ruL, ruE, Nat.reduceAdd, reduceIte, Int.reduceLT, Int.reduceLE, Int.reduceEq, Int.reduceNeg, Int.reduceAdd, Int.reduceSub, Nat.reduceLeDiff, Nat.reduceLT]
    cases c2 : ceF a.cell with
    | false => simp only [w_af_j2, w_af_j2b, true_or, ruS, ruL, ruE, Nat.reduceAdd, reduceIte, Int.reduceLT, Int.reduceLE, Int.reduceEq, Int.reduceNeg, Int.reduceAdd, Int.reduceSub, Nat.reduceLeDiff, Nat.reduceLT]
    | true =>
     by_cases c3 : ceN a.cell < slV a.w
     ·simp only [c3, w_af_j2, w_af_j2b, or_true, ruS, ruL, ruE, Nat.reduceAdd, reduceIte, Int.reduceLT, Int.reduceLE, Int.reduceEq, Int.reduceNeg, Int.reduceAdd, Int.reduceSub, Nat.reduceLeDiff, Nat.reduceLT]
     ·by_cases c4 : ceN a.cell = slV a.w
      ·by_cases c5 : slS a.w = 2
       ·simp only [c3, c4, c5, Int.lt_irrefl, w_af_j2, w_af_j2b, w_af_j3, w_af_j3b, Bool.true_eq_false, or_self, and_self, ruS, ruL, ruE, Nat.reduceAdd, reduceIte, Int.reduceLT, Int.reduceLE, Int.reduceEq, Int.reduceNeg, Int.reduceAdd, Int.reduceSub, Nat.reduceLeDiff, Nat.reduceLT]
       ·simp only [c3, c4, c5, Int.lt_irrefl, w_af_j2, w_af_j2b, w_af_j3, w_af_j3b, Bool.true_eq_false, or_self, and_false, ruS, ruL, ruE, Nat.reduceAdd, reduceIte, Int.reduceLT, Int.reduceLE, Int.reduceEq, Int.reduceNeg, Int.reduceAdd, Int.reduceSub, Nat.reduceLeDiff, Nat.reduceLT]
      ·simp only [c3, c4, w_af_j2, w_af_j2b, w_af_j3, w_af_j3b, Bool.true_eq_false, or_self, false_and, ruS, ruL, ruE, Nat.reduceAdd, reduceIte, Int.reduceLT, Int.reduceLE, Int.reduceEq, Int.reduceNeg, Int.reduceAdd, Int.reduceSub, Nat.reduceLeDiff, Nat.reduceLT]
 by_cases c1 : a.kd = 1
 ·simp only [c1, ruS, ruL, ruE, Nat.reduceAdd, reduceIte, Int.reduceLT, Int.reduceLE, Int.reduceEq, Int.reduceNeg, Int.reduceAdd, Int.reduceSub, Nat.reduceLeDiff, Nat.reduceLT]
  exact rest true (by simp [c1])
 ·simp only [c1, ruS, ruL, ruE, Nat.reduceAdd, reduceIte, Int.reduceLT, Int.reduceLE, Int.reduceEq, Int.reduceNeg, Int.reduceAdd, Int.reduceSub, Nat.reduceLeDiff, Nat.reduceLT]
  rw [ldAx hd (show sub _ 0 1 false = some (.int .i64 a.kd) from rfl)]
  by_cases c3 : a.kd = 3
  ·simp only [c3, ruS, ruL, ruE, Nat.reduceAdd, reduceIte, Int.reduceLT, Int.reduceLE, Int.reduceEq, Int.reduceNeg, Int.reduceAdd, Int.reduceSub, Nat.reduceLeDiff, Nat.reduceLT]
   rw [ldAx hd (show sub _ 4 1 false = some (.int .i64 a.old) from rfl)]
   by_cases c4 : ceV a.cell = a.old
   ·simp only [c4, ne_eq, not_true_eq_false, ruS, ruL, ruE, Nat.reduceAdd, reduceIte, Int.reduceLT, Int.reduceLE, Int.reduceEq, Int.reduceNeg, Int.reduceAdd, Int.reduceSub, Nat.reduceLeDiff, Nat.reduceLT]
    rw [← c4]
    exact rest false (by simp [c1, c4])
   ·simp only [c4, ne_eq, not_false_eq_true, ruS, ruL, ruE, Nat.reduceAdd, reduceIte, Int.reduceLT, Int.reduceLE, Int.reduceEq, Int.reduceNeg, Int.reduceAdd, Int.reduceSub, Nat.reduceLeDiff, Nat.reduceLT]
    exact rest true (by simp [c3, c4])
  ·simp only [c3, ruS, ruL, ruE, Nat.reduceAdd, reduceIte, Int.reduceLT, Int.reduceLE, Int.reduceEq, Int.reduceNeg, Int.reduceAdd, Int.reduceSub, Nat.reduceLeDiff, Nat.reduceLT]
   exact rest false (by simp [c1, c3])
end Go.Fl
namespace Go.Fl
open Go
set_option linter.unusedVariables false
set_option linter.unusedSimpArgs false
variable {N : Nm} {A B : Ar} {σ : Mem} {K : Value → Mem → Prop} {C : Cf} {who : Int}
def Ac.step (C : Cf) (who : Int) (A : Ar) (a : Ac) : Bool × Ac × Ar :=
 if a.pc = 0 then
  if hdOk a.n = false ∨ C.S ≤ hdSl a.n then (true, ({ a with hs := hdSl a.n, hg := hdGe a.n } : Ac).fin 3 0 A.s, A)
  else if lives (A.w (C.slot (hdSl a.n))) (hdGe a.n) then (false, { a with hs := hdSl a.n, hg := hdGe a.n, w := A.w (C.slot (hdSl a.n)), seen := ((A.by who).load (C.slot (hdSl a.n))).s, pc := 1 }, (A.by who).load (C.slot (hdSl a.n)))
  else (true, ({ a with hs := hdSl a.n, hg := hdGe a.n, w := A.w (C.slot (hdSl a.n)), seen := ((A.by who).load (C.slot (hdSl a.n))).s, pc := 1 } : Ac).fin 3 0 ((A.by who).load (C.slot (hdSl a.n))).s, (A.by who).load (C.slot (hdSl a.n)))
 else if a.pc = 1 then
  if hdO (A.w (slA a.w)) ≠ a.own then (true, ({ a with size := hdS (A.w (slA a.w)), pc := 2 } : Ac).fin 3 0 ((A.by who).load (slA a.w)).s, (A.by who).load (slA a.w))
  else if a.ix < 0 ∨ hdS (A.w (slA a.w)) ≤ a.ix then (true, ({ a with size := hdS (A.w (slA a.w)), pc := 2 } : Ac).fin 4 0 a.seen, (A.by who).load (slA a.w))
  else (false, { a with size := hdS (A.w (slA a.w)), pc := 2 }, (A.by who).load (slA a.w))
 else if a.pc = 2 then
  (false, { a with cell := A.w a.at', rd := ((A.by who).load a.at').s, pc := ({ a with cell := A.w a.at' } : Ac).nxt }, (A.by who).load a.at')
 else if a.pc = 3 then
  (false, { a with pc := 0 }, (A.by who).cas (C.slot a.hs) a.w (putSlot 1 (slA a.w) (slG a.w) (slV a.w + 1)))
 else if a.pc = 5 then
  if A.w a.at' = a.cell then (true, ({ a with pc := 0 } : Ac).fin 0 (ceV a.cell) ((A.by who).cas a.at' a.cell (putCell a.v false 0)).s, (A.by who).cas a.at' a.cell (putCell a.v false 0))
  else (false, { a with pc := 0 }, (A.by who).cas a.at' a.cell (putCell a.v false 0))
 else
  if lives (A.w (C.slot a.hs)) a.hg then
   if slA (A.w (C.slot a.hs)) = slA a.w then (true, a.fin (if a.kd = 3 then 8 else 0) (ceV a.cell) a.rd, (A.by who).load (C.slot a.hs))
   else (false, { a with pc := 0 }, (A.by who).load (C.slot a.hs))
  else (true, a.fin 3 0 ((A.by who).load (C.slot a.hs)).s, (A.by who).load (C.slot a.hs))
structure Ac.fit (C : Cf) (A : Ar) (a : Ac) : Prop where
 pc : 0 ≤ a.pc ∧ a.pc ≤ 6
 n : 0 ≤ a.n ∧ a.n < 18446744073709551616
 hs : 0 ≤ a.hs ∧ a.hs < C.S
 w : 0 ≤ a.w ∧ a.w < 18446744073709551616
 cell : 0 ≤ a.cell ∧ a.cell < 18446744073709551616
 a1 : a.pc = 1 → slA a.w < A.n
 a2 : a.pc = 2 ∨ a.pc = 5 → 0 ≤ a.at' ∧ a.at' < A.n
 bd : (A.n : Int) ≤ 200000000
theorem c_Ac0 (hN : N.ok) (hC : C.ok) (hA : isA N A σ) {p : Nat} {a : Ac} (hp : σ.get p = some ⟨a.l, true⟩) (hd : p ∉ N.l) (hw : ∀ i, 0 ≤ A.w i ∧ A.w i < 18446744073709551616) (hn : C.len ≤ A.n) (hf : a.fit C A) (h : a.pc = 0)
  (hk : ∀ τ, isA N (a.step C who A).2.2 τ → τ.get p = some ⟨(a.step C who A).2.1.l, true⟩ → Keep (p :: N.l) σ τ → K (.bool (a.step C who A).1) τ) :
  s_ab [.pointer (some ⟨p, 0, none⟩), N.env C who] K σ := by
 have hT := hC.T; have hS := hC.S; have hC3 := hC.C; have hl := len_bd hC
 have hch : C.chunk C.C = 6 + C.T + 2 * C.S + 3 * C.C := rfl
 have h1 := hf.n
 obtain ⟨b1, b2⟩ := hdSl_bd h1.1
 rw [hA.obj hp]
 have g2 : ∀ (k : Nat) (x y : Int), gStore 2 [.pointer (some ⟨k, 0, some 0⟩), .agg #[.int .i64 x, .int .i64 y]] [.int .i64 0, .int .i64 0] = some [.int .i64 x, .int .i64 y] := fun _ _ _ => rfl
 have s2 : ∀ x y : Value, sub [x, y] 0 2 true = some (.agg #[x, y]) := fun _ _ => rfl
 unfold Ac.step at hk
 rw [if_pos h] at hk
 simp only [s_ab, w_ab, ruS, ruL, ruE, Nat.reduceAdd, reduceIte, Int.reduceLT, Int.reduceLE, Int.reduceEq, Int.reduceNeg, Int.reduceAdd, Int.reduceSub, Nat.reduceLeDiff, Nat.reduceLT]
 rw [ldAx hd (show sub _ 8 1 false = some (.int .i64 a.pc) from rfl)]
 simp only [h, ruS, ruL, ruE, Nat.reduceAdd, reduceIte, Int.reduceLT, Int.reduceLE, Int.reduceEq, Int.reduceNeg, Int.reduceAdd, Int.reduceSub, Nat.reduceLeDiff, Nat.reduceLT]
 rw [ldAx hd (show sub _ 1 1 false = some (.int .u64 a.n) from rfl), c_wHandleG h1.1 h1.2]
 simp only [g2, s2, ruS, ruL, ruE, Nat.reduceAdd, reduceIte, Int.reduceLT, Int.reduceLE, Int.reduceEq, Int.reduceNeg, Int.reduceAdd, Int.reduceSub, Nat.reduceLeDiff, Nat.reduceLT]
 have st2 : ∀ K : Value → Mem → Prop, hStore 2 [.pointer (some ⟨p, 6, none⟩), .agg #[.int .i64 (hdSl a.n), .int .i64 (hdGe a.n)]] K (putA N A (σ.set p ⟨a.l, true⟩)) = K undef (putA N A (σ.set p ⟨({ a with hs := hdSl a.n, hg := hdGe a.n } : Ac).l, true⟩)) :=
  fun K => stAxa (a := a) { a with hs := hdSl a.n, hg := hdGe a.n } (c := [.int .i64 (hdSl a.n), .int .i64 (hdGe a.n)]) (sz := 2) (k := 6) hd rfl rfl (by decide) rfl
 rw [st2]
 cases hO : hdOk a.n with
 | false =>
  rw [if_pos (.inl hO)] at hk
  simp only [w_ab_j2, w_ab_j2b, ruS, ruL, ruE, Nat.reduceAdd, reduceIte, Int.reduceLT, Int.reduceLE, Int.reduceEq, Int.reduceNeg, Int.reduceAdd, Int.reduceSub, Nat.reduceLeDiff, Nat.reduceLT]
  rw [c_Now, c_Aend hd]
  exact behind hN hd hk
 | true =>
  by_cases hs : C.S ≤ hdSl a.n
  ·rw [if_pos (.inr hs)] at hk
   simp only [hs, w_ab_j2, w_ab_j2b, ruS, ruL, ruE, Nat.reduceAdd, reduceIte, Int.reduceLT, Int.reduceLE, Int.reduceEq, Int.reduceNeg, Int.reduceAdd, Int.reduceSub, Nat.reduceLeDiff, Nat.reduceLT]
   rw [c_Now, c_Aend hd]
   exact behind hN hd hk
  ·rw [if_neg (fun q => by rcases q with q | q; rw [hO] at q; cases q; exact hs q)] at hk
   have hsb : 0 ≤ C.slot (hdSl a.n) ∧ C.slot (hdSl a.n) < A.n := by unfold Cf.slot; omega
   have hwa := hw (C.slot (hdSl a.n))
   simp only [hs, w_ab_j2, w_ab_j2b, ruS, ruL, ruE, Nat.reduceAdd, reduceIte, Int.reduceLT, Int.reduceLE, Int.reduceEq, Int.reduceNeg, Int.reduceAdd, Int.reduceSub, Nat.reduceLeDiff, Nat.reduceLT]
   rw [c_Slot hC b1.1 (by omega), c_Load hN hsb.1 hsb.2, stAx { a with hs := hdSl a.n, hg := hdGe a.n, w := A.w (C.slot (hdSl a.n)) } hd rfl rfl (by decide) rfl]
   rw [c_Now]
   rw [stAx { a with hs := hdSl a.n, hg := hdGe a.n, w := A.w (C.slot (hdSl a.n)), seen := ((A.by who).load (C.slot (hdSl a.n))).s } hd rfl rfl (by decide) rfl]
   rw [stAx { a with hs := hdSl a.n, hg := hdGe a.n, w := A.w (C.slot (hdSl a.n)), seen := ((A.by who).load (C.slot (hdSl a.n))).s, pc := 1 } hd rfl rfl (by decide) rfl]
   rw [ldAx (a := { a with hs := hdSl a.n, hg := hdGe a.n, w := A.w (C.slot (hdSl a.n)), seen := ((A.by who).load (C.slot (hdSl a.n))).s, pc := 1 }) hd (show sub _ 9 1 false = some (.int .u64 (A.w (C.slot (hdSl a.n)))) from rfl), c_wSlot hwa.1 hwa.2]
   simp only [s2, ruS, ruL, ruE, Nat.reduceAdd, reduceIte, Int.reduceLT, Int.reduceLE, Int.reduceEq, Int.reduceNeg, Int.reduceAdd, Int.reduceSub, Nat.reduceLeDiff, Nat.reduceLT]
   rw [c_Live]
   by_cases hl' : lives (A.w (C.slot (hdSl a.n))) (hdGe a.n)
   ·have e : decide ((slS (A.w (C.slot (hdSl a.n))) = 1 ∨ slS (A.w (C.slot (hdSl a.n))) = 2 ∨ slS (A.w (C.slot (hdSl a.n))) = 4) ∧ slG (A.w (C.slot (hdSl a.n))) = hdGe a.n) = true := decide_eq_true hl'
    rw [if_pos hl'] at hk
    simp only [e, w_ab_j1, w_ab_j1b, ruS, ruL, ruE, Nat.reduceAdd, reduceIte, Int.reduceLT, Int.reduceLE, Int.reduceEq, Int.reduceNeg, Int.reduceAdd, Int.reduceSub, Nat.reduceLeDiff, Nat.reduceLT]
    exact behind hN hd hk
   ·have e : decide ((slS (A.w (C.slot (hdSl a.n))) = 1 ∨ slS (A.w (C.slot (hdSl a.n))) = 2 ∨ slS (A.w (C.slot (hdSl a.n))) = 4) ∧ slG (A.w (C.slot (hdSl a.n))) = hdGe a.n) = false := decide_eq_false hl'
    rw [if_neg hl'] at hk
    simp only [e, ruS, ruL, ruE, Nat.reduceAdd, reduceIte, Int.reduceLT, Int.reduceLE, Int.reduceEq, Int.reduceNeg, Int.reduceAdd, Int.reduceSub, Nat.reduceLeDiff, Nat.reduceLT]
    rw [c_Now, c_Aend hd]
    exact behind hN hd hk
theorem c_Ac1 (hN : N.ok) (hC : C.ok) (hA : isA N A σ) {p : Nat} {a : Ac} (hp : σ.get p = some ⟨a.l, true⟩) (hd : p ∉ N.l) (hw : ∀ i, 0 ≤ A.w i ∧ A.w i < 18446744073709551616) (hf : a.fit C A) (h : a.pc = 1)
  (hk : ∀ τ, isA N (a.step C who A).2.2 τ → τ.get p = some ⟨(a.step C who A).2.1.l, true⟩ → Keep (p :: N.l) σ τ → K (.bool (a.step C who A).1) τ) :
  s_ab [.pointer (some ⟨p, 0, none⟩), N.env C who] K σ := by
 have hb := slA_bd a.w
 have hwa := hw (slA a.w)
 have h3 := hf.w
 have h4 := hf.a1 h
 rw [hA.obj hp]
 have g5 : ∀ (k : Nat) (x y z w : Int) (b : Bool), gStore 5 [.pointer (some ⟨k, 0, some 0⟩), .agg #[.int .i64 x, .int .i64 y, .int .i64 z, .int .i64 w, .bool b]] [.int .i64 0, .int .i64 0, .int .i64 0, .int .i64 0, .bool false] = some [.int .i64 x, .int .i64 y, .int .i64 z, .int .i64 w, .bool b] := fun _ _ _ _ _ _ => rfl
 unfold Ac.step at hk
 rw [if_neg (by omega), if_pos h] at hk
 simp only [s_ab, w_ab, ruS, ruL, ruE, Nat.reduceAdd, reduceIte, Int.reduceLT, Int.reduceLE, Int.reduceEq, Int.reduceNeg, Int.reduceAdd, Int.reduceSub, Nat.reduceLeDiff, Nat.reduceLT]
 rw [ldAx hd (show sub _ 8 1 false = some (.int .i64 a.pc) from rfl)]
 simp only [h, ruS, ruL, ruE, Nat.reduceAdd, reduceIte, Int.reduceLT, Int.reduceLE, Int.reduceEq, Int.reduceNeg, Int.reduceAdd, Int.reduceSub, Nat.reduceLeDiff, Nat.reduceLT]
 rw [ldAx hd (show sub _ 9 1 false = some (.int .u64 a.w) from rfl), c_wSlot h3.1 h3.2]
 simp only [xFldV, List.toList_toArray, ruS, ruL, ruE, Nat.reduceAdd, reduceIte, Int.reduceLT, Int.reduceLE, Int.reduceEq, Int.reduceNeg, Int.reduceAdd, Int.reduceSub, Nat.reduceLeDiff, Nat.reduceLT]
 rw [c_Load hN hb.1 h4, c_wHead hwa.1 hwa.2]
 simp only [g5, ruS, ruL, ruE, Nat.reduceAdd, reduceIte, Int.reduceLT, Int.reduceLE, Int.reduceEq, Int.reduceNeg, Int.reduceAdd, Int.reduceSub, Nat.reduceLeDiff, Nat.reduceLT]
 rw [stAx { a with size := hdS (A.w (slA a.w)) } hd rfl rfl (by decide) rfl, stAx { a with size := hdS (A.w (slA a.w)), pc := 2 } hd rfl rfl (by decide) rfl,
  ldAx (a := { a with size := hdS (A.w (slA a.w)), pc := 2 }) hd (show sub _ 5 1 false = some (.bool a.own) from rfl)]
 by_cases e : hdO (A.w (slA a.w)) = a.own
 ·rw [if_neg (fun q => q e)] at hk
  simp only [e, xNeBB, beq_self_eq_true, ruS, ruL, ruE, Nat.reduceAdd, reduceIte, Int.reduceLT, Int.reduceLE, Int.reduceEq, Int.reduceNeg, Int.reduceAdd, Int.reduceSub, Nat.reduceLeDiff, Nat.reduceLT]
  rw [ldAx (a := { a with size := hdS (A.w (slA a.w)), pc := 2 }) hd (show sub _ 2 1 false = some (.int .i64 a.ix) from rfl)]
  by_cases c1 : a.ix < 0
  ·rw [if_pos (.inl c1)] at hk
   simp only [c1, w_ab_j3, w_ab_j3b, ruS, ruL, ruE, Nat.reduceAdd, reduceIte, Int.reduceLT, Int.reduceLE, Int.reduceEq, Int.reduceNeg, Int.reduceAdd, Int.reduceSub, Nat.reduceLeDiff, Nat.reduceLT]
   rw [ldAx (a := { a with size := hdS (A.w (slA a.w)), pc := 2 }) hd (show sub _ 11 1 false = some (.int .i64 a.seen) from rfl), c_Aend hd]
   exact behind hN hd hk
  ·simp only [c1, ruS, ruL, ruE, Nat.reduceAdd, reduceIte, Int.reduceLT, Int.reduceLE, Int.reduceEq, Int.reduceNeg, Int.reduceAdd, Int.reduceSub, Nat.reduceLeDiff, Nat.reduceLT]
   rw [ldAx (a := { a with size := hdS (A.w (slA a.w)), pc := 2 }) hd (show sub _ 2 1 false = some (.int .i64 a.ix) from rfl)]
   by_cases c2 : hdS (A.w (slA a.w)) ≤ a.ix
   ·rw [if_pos (.inr c2)] at hk
    simp only [c2, w_ab_j3, w_ab_j3b, ruS, ruL, ruE, Nat.reduceAdd, reduceIte, Int.reduceLT, Int.reduceLE, Int.reduceEq, Int.reduceNeg, Int.reduceAdd, Int.reduceSub, Nat.reduceLeDiff, Nat.reduceLT]
    rw [ldAx (a := { a with size := hdS (A.w (slA a.w)), pc := 2 }) hd (show sub _ 11 1 false = some (.int .i64 a.seen) from rfl), c_Aend hd]
    exact behind hN hd hk
   ·rw [if_neg (by rintro (q | q); exact c1 q; exact c2 q)] at hk
    simp only [c2, w_ab_j3, w_ab_j3b, w_ab_j1, w_ab_j1b, ruS, ruL, ruE, Nat.reduceAdd, reduceIte, Int.reduceLT, Int.reduceLE, Int.reduceEq, Int.reduceNeg, Int.reduceAdd, Int.reduceSub, Nat.reduceLeDiff, Nat.reduceLT]
    exact behind hN hd hk
 ·rw [if_pos e] at hk
  have e' : (hdO (A.w (slA a.w)) == a.own) = false := by simpa using e
  simp only [e', xNeBB, ruS, ruL, ruE, Nat.reduceAdd, reduceIte, Int.reduceLT, Int.reduceLE, Int.reduceEq, Int.reduceNeg, Int.reduceAdd, Int.reduceSub, Nat.reduceLeDiff, Nat.reduceLT]
  rw [c_Now, c_Aend hd]
  exact behind hN hd hk
end Go.Fl
namespace Go.Fl
open Go
set_option linter.unusedVariables false
set_option linter.unusedSimpArgs false
variable {N : Nm} {A B : Ar} {σ : Mem} {K : Value → Mem → Prop} {C : Cf} {who : Int}
theorem c_Ac2 (hN : N.ok) (hC : C.ok) (hA : isA N A σ) {p : Nat} {a : Ac} (hp : σ.get p = some ⟨a.l, true⟩) (hd : p ∉ N.l) (hw : ∀ i, 0 ≤ A.w i ∧ A.w i < 18446744073709551616) (hf : a.fit C A) (h : a.pc = 2)
  (k0 : (a.step C who A).2.1.pc ≠ 4 → ∀ τ, isA N (a.step C who A).2.2 τ → τ.get p = some ⟨(a.step C who A).2.1.l, true⟩ → Keep (p :: N.l) σ τ → K (.bool (a.step C who A).1) τ)
  (k1 : (a.step C who A).2.1.pc = 4 → ∀ q τ, σ.get q = none → q ≠ p → isA N (a.step C who A).2.2 τ → τ.get p = some ⟨({ (a.step C who A).2.1 with help := some q } : Ac).l, true⟩ → τ.get q = some ⟨(Hl.new a.hs a.w a.size).l, true⟩ → Keep (p :: N.l) σ τ → K (.bool (a.step C who A).1) τ) :
  s_ab [.pointer (some ⟨p, 0, none⟩), N.env C who] K σ := by
 have hbd := hf.bd
 have h2 := hf.a2 (.inl h)
 have h3 := hf.w
 have hwa := hw a.at'
 rw [hA.obj hp]
 unfold Ac.step at k0 k1
 rw [if_neg (by omega), if_neg (by omega), if_pos h] at k0 k1
 simp only [s_ab, w_ab, ruS, ruL, ruE, Nat.reduceAdd, reduceIte, Int.reduceLT, Int.reduceLE, Int.reduceEq, Int.reduceNeg, Int.reduceAdd, Int.reduceSub, Nat.reduceLeDiff, Nat.reduceLT]
 rw [ldAx hd (show sub _ 8 1 false = some (.int .i64 a.pc) from rfl)]
 simp only [h, ruS, ruL, ruE, Nat.reduceAdd, reduceIte, Int.reduceLT, Int.reduceLE, Int.reduceEq, Int.reduceNeg, Int.reduceAdd, Int.reduceSub, Nat.reduceLeDiff, Nat.reduceLT]
 rw [c_Aat hd h3 (by omega), c_Load hN h2.1 h2.2, stAx { a with cell := A.w a.at' } hd rfl rfl (by decide) rfl, c_Now, c_Anext (a := { a with cell := A.w a.at' }) hd h3 hwa]
 rw [stAx { a with cell := A.w a.at', rd := ((A.by who).load a.at').s } hd rfl rfl (by decide) rfl]
 rw [stAx { a with cell := A.w a.at', rd := ((A.by who).load a.at').s, pc := ({ a with cell := A.w a.at' } : Ac).nxt } hd rfl rfl (by decide) rfl]
 rw [ldAx (a := { a with cell := A.w a.at', rd := ((A.by who).load a.at').s, pc := ({ a with cell := A.w a.at' } : Ac).nxt }) hd (show sub _ 8 1 false = some (.int .i64 ({ a with cell := A.w a.at' } : Ac).nxt) from rfl)]
 by_cases e : ({ a with cell := A.w a.at' } : Ac).nxt = 4
 ·replace k1 := k1 e
  simp only [e, ruS, ruL, ruE, Nat.reduceAdd, reduceIte, Int.reduceLT, Int.reduceLE, Int.reduceEq, Int.reduceNeg, Int.reduceAdd, Int.reduceSub, Nat.reduceLeDiff, Nat.reduceLT]
  rw [e] at k1
  rw [ldAx (a := { a with cell := A.w a.at', rd := ((A.by who).load a.at').s, pc := 4 }) hd (show sub _ 6 1 false = some (.int .i64 a.hs) from rfl), ldAx (a := { a with cell := A.w a.at', rd := ((A.by who).load a.at').s, pc := 4 }) hd (show sub _ 9 1 false = some (.int .u64 a.w) from rfl),
   ldAx (a := { a with cell := A.w a.at', rd := ((A.by who).load a.at').s, pc := 4 }) hd (show sub _ 13 1 false = some (.int .i64 a.size) from rfl)]
  refine behind (K := fun _ σ => s_az [.int .i64 a.hs, .int .u64 a.w, .int .i64 a.size] _ σ) (v := undef) hN hd fun υ u1 u2 u3 => ?_
  refine c_NewHelp fun id ω hid gid x => ?_
  have hx1 := u1.ext x
  have hx2 := x _ _ u2
  have ip : id ≠ p := by rintro rfl; rw [u2] at hid; cases hid
  have inn := u1.new hid
  have ids : σ.get id = none := by
   cases e : σ.get id with
   | none => rfl
   | some b => rw [u3 id b e (by simp only [List.mem_cons, not_or]; exact ⟨ip, inn⟩)] at hid; cases hid
  rw [hx1.obj hx2, stAx { a with cell := A.w a.at', rd := ((A.by who).load a.at').s, pc := 4, help := some id } hd rfl rfl (by decide) rfl]
  simp only [w_ab_j1, w_ab_j1b, ruS, ruL, ruE, Nat.reduceAdd, reduceIte, Int.reduceLT, Int.reduceLE, Int.reduceEq, Int.reduceNeg, Int.reduceAdd, Int.reduceSub, Nat.reduceLeDiff, Nat.reduceLT]
  refine behind hN hd fun ρ r1 r2 r3 => k1 id ρ ids ip r1 r2 ?_ ((u3.trans x.keep).trans r3)
  exact r3 id _ gid (by simp only [List.mem_cons, not_or]; exact ⟨ip, inn⟩)
 ·replace k0 := k0 e
  simp only [e, w_ab_j1, w_ab_j1b, ruS, ruL, ruE, Nat.reduceAdd, reduceIte, Int.reduceLT, Int.reduceLE, Int.reduceEq, Int.reduceNeg, Int.reduceAdd, Int.reduceSub, Nat.reduceLeDiff, Nat.reduceLT]
  exact behind hN hd k0
theorem c_Ac3 (hN : N.ok) (hC : C.ok) (hA : isA N A σ) {p : Nat} {a : Ac} (hp : σ.get p = some ⟨a.l, true⟩) (hd : p ∉ N.l) (hn : C.len ≤ A.n) (hf : a.fit C A) (h : a.pc = 3)
  (hk : ∀ τ, isA N (a.step C who A).2.2 τ → τ.get p = some ⟨(a.step C who A).2.1.l, true⟩ → Keep (p :: N.l) σ τ → K (.bool (a.step C who A).1) τ) :
  s_ab [.pointer (some ⟨p, 0, none⟩), N.env C who] K σ := by
 have hT := hC.T; have hS := hC.S; have hC3 := hC.C; have hl := len_bd hC
 have hch : C.chunk C.C = 6 + C.T + 2 * C.S + 3 * C.C := rfl
 have h3 := hf.w
 have h2 := hf.hs
 have hV := slV_bd a.w
 have hsb : 0 ≤ C.slot a.hs ∧ C.slot a.hs < A.n := by unfold Cf.slot; omega
 have g4 : ∀ (k : Nat) (x y z w x' y' z' w' : Int), gStore 4 [.pointer (some ⟨k, 0, some 0⟩), .agg #[.int .i64 x, .int .i64 y, .int .i64 z, .int .i64 w]] [.int .i64 x', .int .i64 y', .int .i64 z', .int .i64 w'] = some [.int .i64 x, .int .i64 y, .int .i64 z, .int .i64 w] := fun _ _ _ _ _ _ _ _ _ => rfl
 have g0 : ∀ (k : Nat) (v x' y' z' w' : Int), gStore 1 [.pointer (some ⟨k, 0, some 0⟩), .int .i64 v] [.int .i64 x', .int .i64 y', .int .i64 z', .int .i64 w'] = some [.int .i64 v, .int .i64 y', .int .i64 z', .int .i64 w'] := fun _ _ _ _ _ _ => rfl
 have g3 : ∀ (k : Nat) (v x' y' z' w' : Int), gStore 1 [.pointer (some ⟨k, 3, some 0⟩), .int .i64 v] [.int .i64 x', .int .i64 y', .int .i64 z', .int .i64 w'] = some [.int .i64 x', .int .i64 y', .int .i64 z', .int .i64 v] := fun _ _ _ _ _ _ => rfl
 rw [hA.obj hp]
 unfold Ac.step at hk
 rw [if_neg (by omega), if_neg (by omega), if_neg (by omega), if_pos h] at hk
 simp only [s_ab, w_ab, ruS, ruL, ruE, Nat.reduceAdd, reduceIte, Int.reduceLT, Int.reduceLE, Int.reduceEq, Int.reduceNeg, Int.reduceAdd, Int.reduceSub, Nat.reduceLeDiff, Nat.reduceLT]
 rw [ldAx hd (show sub _ 8 1 false = some (.int .i64 a.pc) from rfl)]
 simp only [h, ruS, ruL, ruE, Nat.reduceAdd, reduceIte, Int.reduceLT, Int.reduceLE, Int.reduceEq, Int.reduceNeg, Int.reduceAdd, Int.reduceSub, Nat.reduceLeDiff, Nat.reduceLT]
 rw [ldAx hd (show sub _ 9 1 false = some (.int .u64 a.w) from rfl), c_wSlot h3.1 h3.2]
 simp only [g4, g0, g3, ruS, ruL, ruE, Nat.reduceAdd, reduceIte, Int.reduceLT, Int.reduceLE, Int.reduceEq, Int.reduceNeg, Int.reduceAdd, Int.reduceSub, Nat.reduceLeDiff, Nat.reduceLT]
 rw [IntWalk.i64_in (slV a.w + 1) (by omega)]
 rw [ldAx hd (show sub _ 6 1 false = some (.int .i64 a.hs) from rfl), c_Slot hC h2.1 (by omega), ldAx hd (show sub _ 9 1 false = some (.int .u64 a.w) from rfl)]
 simp only [sub4, ruS, ruL, ruE, Nat.reduceAdd, reduceIte, Int.reduceLT, Int.reduceLE, Int.reduceEq, Int.reduceNeg, Int.reduceAdd, Int.reduceSub, Nat.reduceLeDiff, Nat.reduceLT]
 rw [c_PutSlot, c_Cas hN hsb.1 hsb.2, stAx { a with pc := 0 } hd rfl rfl (by decide) rfl]
 simp only [w_ab_j1, w_ab_j1b, ruS, ruL, ruE, Nat.reduceAdd, reduceIte, Int.reduceLT, Int.reduceLE, Int.reduceEq, Int.reduceNeg, Int.reduceAdd, Int.reduceSub, Nat.reduceLeDiff, Nat.reduceLT]
 exact behind hN hd hk
theorem c_Ac4 (hN : N.ok) (hC : C.ok) (hA : isA N A σ) {p q : Nat} {a : Ac} {t : Hl} (hp : σ.get p = some ⟨a.l, true⟩) (hd : p ∉ N.l) (hq : σ.get q = some ⟨[] ++ t.l ++ [], true⟩) (hqd : q ∉ N.l) (hqp : q ≠ p) (hw : ∀ i, 0 ≤ A.w i ∧ A.w i < 18446744073709551616) (hn : C.len ≤ A.n)
  (h : a.pc = 4) (ha : a.help = some q) (hf : t.fit C)
  (k0 : (t.step C who A).1 = false → ∀ τ, isA N (t.step C who A).2.2 τ → τ.get p = some ⟨a.l, true⟩ → τ.get q = some ⟨[] ++ (t.step C who A).2.1.l ++ [], true⟩ → Keep (q :: p :: N.l) σ τ → K (.bool false) τ)
  (k2 : (t.step C who A).1 = true → ∀ τ, isA N (t.step C who A).2.2 τ → τ.get p = some ⟨({ a with pc := 0 } : Ac).l, true⟩ → Keep (q :: p :: N.l) σ τ → K (.bool false) τ) :
  s_ab [.pointer (some ⟨p, 0, none⟩), N.env C who] K σ := by
 have hpL : ∀ i ∈ p :: N.l, i ∈ q :: p :: N.l := fun i hi => List.mem_cons_of_mem _ hi
 have hqL : ∀ i ∈ q :: N.l, i ∈ q :: p :: N.l := fun i hi => by rcases List.mem_cons.1 hi with rfl | hi <;> simp [*]
 rw [hA.obj hp]
 simp only [s_ab, w_ab, ruS, ruL, ruE, Nat.reduceAdd, reduceIte, Int.reduceLT, Int.reduceLE, Int.reduceEq, Int.reduceNeg, Int.reduceAdd, Int.reduceSub, Nat.reduceLeDiff, Nat.reduceLT]
 rw [ldAx hd (show sub _ 8 1 false = some (.int .i64 a.pc) from rfl)]
 simp only [h, ruS, ruL, ruE, Nat.reduceAdd, reduceIte, Int.reduceLT, Int.reduceLE, Int.reduceEq, Int.reduceNeg, Int.reduceAdd, Int.reduceSub, Nat.reduceLeDiff, Nat.reduceLT]
 rw [ldAx hd (show sub _ 14 1 false = some (obP a.help) from rfl), ha, obP_s, ← hA.obj hp]
 refine c_Help_Step hN hC hA (t := t) (pre := []) (post := []) hq hqd hw hn hf fun τ hA' hq' hK => ?_
 have hp' : τ.get p = some ⟨a.l, true⟩ := hK.get hp (by simp only [List.mem_cons, not_or]; exact ⟨fun e => hqp e.symm, hd⟩)
 have hK2 := hK.mono hqL
 generalize t.step C who A = r at *
 obtain ⟨d, t', A'⟩ := r
 dsimp only at *
 cases d with
 | false => simp only [w_ab_j1, w_ab_j1b, ruS, ruL, ruE, Nat.reduceAdd, reduceIte, Int.reduceLT, Int.reduceLE, Int.reduceEq, Int.reduceNeg, Int.reduceAdd, Int.reduceSub, Nat.reduceLeDiff, Nat.reduceLT]; exact k0 rfl τ hA' hp' hq' hK2
 | true =>
  simp only [ruS, ruL, ruE, Nat.reduceAdd, reduceIte, Int.reduceLT, Int.reduceLE, Int.reduceEq, Int.reduceNeg, Int.reduceAdd, Int.reduceSub, Nat.reduceLeDiff, Nat.reduceLT]
  rw [hA'.obj hp', stAx { a with pc := 0 } hd rfl rfl (by decide) rfl]
  simp only [w_ab_j1, w_ab_j1b, ruS, ruL, ruE, Nat.reduceAdd, reduceIte, Int.reduceLT, Int.reduceLE, Int.reduceEq, Int.reduceNeg, Int.reduceAdd, Int.reduceSub, Nat.reduceLeDiff, Nat.reduceLT]
  exact behind hN hd fun υ u1 u2 u3 => k2 rfl υ u1 u2 (hK2.trans (u3.mono hpL))
theorem c_Ac5 (hN : N.ok) (hC : C.ok) (hA : isA N A σ) {p : Nat} {a : Ac} (hp : σ.get p = some ⟨a.l, true⟩) (hd : p ∉ N.l) (hf : a.fit C A) (h : a.pc = 5)
  (hk : ∀ τ, isA N (a.step C who A).2.2 τ → τ.get p = some ⟨(a.step C who A).2.1.l, true⟩ → Keep (p :: N.l) σ τ → K (.bool (a.step C who A).1) τ) :
  s_ab [.pointer (some ⟨p, 0, none⟩), N.env C who] K σ := by
 have hbd := hf.bd
 have h2 := hf.a2 (.inr h)
 have h3 := hf.w
 have h4 := hf.cell
 have b3 : ∀ (x : Int) (K : Value → Prop), xF (fBuild [(0, 1), (1, 1), (2, 1)] [.int .i64 0, .bool false, .int .i64 0] [0]) [.int .i64 x] K = K (.agg #[.int .i64 x, .bool false, .int .i64 0]) := fun _ K => nr rfl
 rw [hA.obj hp]
 unfold Ac.step at hk
 rw [if_neg (by omega), if_neg (by omega), if_neg (by omega), if_neg (by omega), if_pos h] at hk
 simp only [s_ab, w_ab, ruS, ruL, ruE, Nat.reduceAdd, reduceIte, Int.reduceLT, Int.reduceLE, Int.reduceEq, Int.reduceNeg, Int.reduceAdd, Int.reduceSub, Nat.reduceLeDiff, Nat.reduceLT]
 rw [ldAx hd (show sub _ 8 1 false = some (.int .i64 a.pc) from rfl)]
 simp only [h, ruS, ruL, ruE, Nat.reduceAdd, reduceIte, Int.reduceLT, Int.reduceLE, Int.reduceEq, Int.reduceNeg, Int.reduceAdd, Int.reduceSub, Nat.reduceLeDiff, Nat.reduceLT]
 rw [stAx { a with pc := 0 } hd rfl rfl (by decide) rfl, c_Aat (a := { a with pc := 0 }) hd h3 (by show 0 ≤ a.at' ∧ a.at' < _; omega)]
 rw [ldAx (a := { a with pc := 0 }) hd (show sub _ 10 1 false = some (.int .u64 a.cell) from rfl), ldAx (a := { a with pc := 0 }) hd (show sub _ 3 1 false = some (.int .i64 a.v) from rfl), b3, c_PutCell]
 rw [show ({ a with pc := 0 } : Ac).at' = a.at' from rfl, c_Cas hN h2.1 h2.2]
 by_cases e : A.w a.at' = a.cell
 ·rw [if_pos e] at hk
  simp only [e, ruS, ruL, ruE, Nat.reduceAdd, reduceIte, Int.reduceLT, Int.reduceLE, Int.reduceEq, Int.reduceNeg, Int.reduceAdd, Int.reduceSub, Nat.reduceLeDiff, Nat.reduceLT]
  rw [ldAx (a := { a with pc := 0 }) hd (show sub _ 10 1 false = some (.int .u64 a.cell) from rfl), c_wCell h4.1 h4.2]
  simp only [xFldV, List.toList_toArray, ruS, ruL, ruE, Nat.reduceAdd, reduceIte, Int.reduceLT, Int.reduceLE, Int.reduceEq, Int.reduceNeg, Int.reduceAdd, Int.reduceSub, Nat.reduceLeDiff, Nat.reduceLT]
  rw [c_Now, c_Aend hd]
  exact behind hN hd hk
 ·rw [if_neg e] at hk
  simp only [e, w_ab_j1, w_ab_j1b, ruS, ruL, ruE, Nat.reduceAdd, reduceIte, Int.reduceLT, Int.reduceLE, Int.reduceEq, Int.reduceNeg, Int.reduceAdd, Int.reduceSub, Nat.reduceLeDiff, Nat.reduceLT]
  exact behind hN hd hk
theorem c_Ac6 (hN : N.ok) (hC : C.ok) (hA : isA N A σ) {p : Nat} {a : Ac} (hp : σ.get p = some ⟨a.l, true⟩) (hd : p ∉ N.l) (hw : ∀ i, 0 ≤ A.w i ∧ A.w i < 18446744073709551616) (hn : C.len ≤ A.n) (hf : a.fit C A) (h : a.pc = 6)
  (hk : ∀ τ, isA N (a.step C who A).2.2 τ → τ.get p = some ⟨(a.step C who A).2.1.l, true⟩ → Keep (p :: N.l) σ τ → K (.bool (a.step C who A).1) τ) :
  s_ab [.pointer (some ⟨p, 0, none⟩), N.env C who] K σ := by
 have hT := hC.T; have hS := hC.S; have hC3 := hC.C; have hl := len_bd hC
 have hch : C.chunk C.C = 6 + C.T + 2 * C.S + 3 * C.C := rfl
 have h2 := hf.hs
 have h3 := hf.w
 have h4 := hf.cell
 have hsb : 0 ≤ C.slot a.hs ∧ C.slot a.hs < A.n := by unfold Cf.slot; omega
 have hwa := hw (C.slot a.hs)
 have g4 : ∀ (k : Nat) (x y z w x' y' z' w' : Int), gStore 4 [.pointer (some ⟨k, 0, some 0⟩), .agg #[.int .i64 x, .int .i64 y, .int .i64 z, .int .i64 w]] [.int .i64 x', .int .i64 y', .int .i64 z', .int .i64 w'] = some [.int .i64 x, .int .i64 y, .int .i64 z, .int .i64 w] := fun _ _ _ _ _ _ _ _ _ => rfl
 rw [hA.obj hp]
 unfold Ac.step at hk
 rw [if_neg (by omega), if_neg (by omega), if_neg (by omega), if_neg (by omega), if_neg (by omega)] at hk
 simp only [s_ab, w_ab, ruS, ruL, ruE, Nat.reduceAdd, reduceIte, Int.reduceLT, Int.reduceLE, Int.reduceEq, Int.reduceNeg, Int.reduceAdd, Int.reduceSub, Nat.reduceLeDiff, Nat.reduceLT]
 rw [ldAx hd (show sub _ 8 1 false = some (.int .i64 a.pc) from rfl)]
 simp only [h, s_ad, w_ad, ruS, ruL, ruE, Nat.reduceAdd, reduceIte, Int.reduceLT, Int.reduceLE, Int.reduceEq, Int.reduceNeg, Int.reduceAdd, Int.reduceSub, Nat.reduceLeDiff, Nat.reduceLT]
 rw [ldAx hd (show sub _ 6 1 false = some (.int .i64 a.hs) from rfl), c_Slot hC h2.1 (by omega), c_Load hN hsb.1 hsb.2, c_wSlot hwa.1 hwa.2]
 simp only [g4, ruS, ruL, ruE, Nat.reduceAdd, reduceIte, Int.reduceLT, Int.reduceLE, Int.reduceEq, Int.reduceNeg, Int.reduceAdd, Int.reduceSub, Nat.reduceLeDiff, Nat.reduceLT]
 rw [ldAx hd (show sub _ 10 1 false = some (.int .u64 a.cell) from rfl), c_wCell h4.1 h4.2]
 simp only [xFldV, List.toList_toArray, sub4, ruS, ruL, ruE, Nat.reduceAdd, reduceIte, Int.reduceLT, Int.reduceLE, Int.reduceEq, Int.reduceNeg, Int.reduceAdd, Int.reduceSub, Nat.reduceLeDiff, Nat.reduceLT]
 rw [ldAx hd (show sub _ 6 2 true = some (.agg #[.int .i64 a.hs, .int .i64 a.hg]) from rfl), c_Live]
 by_cases hl' : lives (A.w (C.slot a.hs)) a.hg
 ·have e : decide ((slS (A.w (C.slot a.hs)) = 1 ∨ slS (A.w (C.slot a.hs)) = 2 ∨ slS (A.w (C.slot a.hs)) = 4) ∧ slG (A.w (C.slot a.hs)) = a.hg) = true := decide_eq_true hl'
  rw [if_pos hl'] at hk
  simp only [e, ruS, ruL, ruE, Nat.reduceAdd, reduceIte, Int.reduceLT, Int.reduceLE, Int.reduceEq, Int.reduceNeg, Int.reduceAdd, Int.reduceSub, Nat.reduceLeDiff, Nat.reduceLT]
  rw [ldAx hd (show sub _ 9 1 false = some (.int .u64 a.w) from rfl), c_wSlot h3.1 h3.2]
  simp only [xFldV, List.toList_toArray, ruS, ruL, ruE, Nat.reduceAdd, reduceIte, Int.reduceLT, Int.reduceLE, Int.reduceEq, Int.reduceNeg, Int.reduceAdd, Int.reduceSub, Nat.reduceLeDiff, Nat.reduceLT]
  by_cases c1 : slA (A.w (C.slot a.hs)) = slA a.w
  ·rw [if_pos c1] at hk
   simp only [c1, ne_eq, not_true_eq_false, ruS, ruL, ruE, Nat.reduceAdd, reduceIte, Int.reduceLT, Int.reduceLE, Int.reduceEq, Int.reduceNeg, Int.reduceAdd, Int.reduceSub, Nat.reduceLeDiff, Nat.reduceLT]
   rw [ldAx hd (show sub _ 0 1 false = some (.int .i64 a.kd) from rfl)]
   by_cases c2 : a.kd = 3
   ·rw [if_pos c2] at hk
    simp only [c2, ruS, ruL, ruE, Nat.reduceAdd, reduceIte, Int.reduceLT, Int.reduceLE, Int.reduceEq, Int.reduceNeg, Int.reduceAdd, Int.reduceSub, Nat.reduceLeDiff, Nat.reduceLT]
    rw [ldAx hd (show sub _ 12 1 false = some (.int .i64 a.rd) from rfl), c_Aend hd]
    exact behind hN hd hk
   ·rw [if_neg c2] at hk
    simp only [c2, ruS, ruL, ruE, Nat.reduceAdd, reduceIte, Int.reduceLT, Int.reduceLE, Int.reduceEq, Int.reduceNeg, Int.reduceAdd, Int.reduceSub, Nat.reduceLeDiff, Nat.reduceLT]
    rw [ldAx hd (show sub _ 12 1 false = some (.int .i64 a.rd) from rfl), c_Aend hd]
    exact behind hN hd hk
  ·rw [if_neg c1] at hk
   simp only [c1, ne_eq, not_false_eq_true, ruS, ruL, ruE, Nat.reduceAdd, reduceIte, Int.reduceLT, Int.reduceLE, Int.reduceEq, Int.reduceNeg, Int.reduceAdd, Int.reduceSub, Nat.reduceLeDiff, Nat.reduceLT]
   rw [stAx { a with pc := 0 } hd rfl rfl (by decide) rfl]
   exact behind hN hd hk
 ·have e : decide ((slS (A.w (C.slot a.hs)) = 1 ∨ slS (A.w (C.slot a.hs)) = 2 ∨ slS (A.w (C.slot a.hs)) = 4) ∧ slG (A.w (C.slot a.hs)) = a.hg) = false := decide_eq_false hl'
  rw [if_neg hl'] at hk
  simp only [e, ruS, ruL, ruE, Nat.reduceAdd, reduceIte, Int.reduceLT, Int.reduceLE, Int.reduceEq, Int.reduceNeg, Int.reduceAdd, Int.reduceSub, Nat.reduceLeDiff, Nat.reduceLT]
  rw [c_Now, c_Aend hd]
  exact behind hN hd hk
end Go.Fl
namespace Go.Fl
open Go
set_option linter.unusedVariables false
set_option linter.unusedSimpArgs false
variable {N : Nm} {A B : Ar} {σ : Mem} {K : Value → Mem → Prop} {C : Cf} {who : Int}
structure Ak where
 a : Ac
 h : Hl
def Ak.new (kd n ix v old : Int) (own : Bool) : Ak := ⟨Ac.new kd n ix v old own, Hl.new 0 0 0⟩
def Ak.step (C : Cf) (who : Int) (A : Ar) (m : Ak) : Bool × Ak × Ar :=
 if m.a.pc = 4 then
  if (m.h.step C who A).1 = true then (false, { m with a := { m.a with pc := 0 } }, (m.h.step C who A).2.2) else (false, { m with h := (m.h.step C who A).2.1 }, (m.h.step C who A).2.2)
 else ((m.a.step C who A).1, ⟨(m.a.step C who A).2.1, if m.a.pc = 2 then Hl.new m.a.hs m.a.w m.a.size else m.h⟩, (m.a.step C who A).2.2)
structure Ak.fit (C : Cf) (A : Ar) (m : Ak) : Prop where
 a : m.a.fit C A
 h : m.a.pc = 4 → m.h.fit C
def Ac.wh (a : Ac) (x : Option Nat) : Ac := { a with help := x }
theorem Ac.step_help {a : Ac} {x : Option Nat} : (a.wh x).step C who A = ((a.step C who A).1, (a.step C who A).2.1.wh x, (a.step C who A).2.2) := by
 obtain ⟨kd, n, ix, v, old, own, hs, hg, pc, w, cell, seen, rd, size, help, oE, oH, oV, oS⟩ := a
 unfold Ac.step Ac.wh Ac.at' Ac.fin Ac.nxt
 dsimp only
 repeat' split
 all_goals rfl
theorem Ac.step_pc {a : Ac} (h2 : a.pc ≠ 2) (h4 : a.pc ≠ 4) : (a.step C who A).2.1.pc ≠ 4 := by
 unfold Ac.step Ac.fin
 repeat' split
 all_goals (dsimp only; omega)
structure AOb (N : Nm) (p : Nat) (O : List Nat) (m : Ak) (τ : Mem) : Prop where
 obj : ∃ x, τ.get p = some ⟨(m.a.wh x).l, true⟩ ∧ (m.a.pc = 4 → ∃ q, x = some q ∧ q ∈ O ∧ q ≠ p ∧ τ.get q = some ⟨[] ++ m.h.l ++ [], true⟩)
 own : ∀ i ∈ O, i ∉ N.l
 p : p ∈ O
theorem AOb.ext {p : Nat} {O : List Nat} {m : Ak} {τ : Mem} (h : AOb N p O m σ) (x : Ext σ τ) : AOb N p O m τ := by
 obtain ⟨⟨a, h1, h2⟩, h4, h5⟩ := h
 refine ⟨⟨a, x _ _ h1, fun e => ?_⟩, h4, h5⟩
 obtain ⟨q, q1, q2, q3, q4⟩ := h2 e; exact ⟨q, q1, q2, q3, x _ _ q4⟩
theorem AOb.keep {p : Nat} {O L : List Nat} {m : Ak} {τ : Mem} (h : AOb N p O m σ) (x : Keep L σ τ) (hL : ∀ i ∈ O, i ∉ L) : AOb N p O m τ := by
 obtain ⟨⟨a, h1, h2⟩, h4, h5⟩ := h
 refine ⟨⟨a, x.get h1 (hL p h5), fun e => ?_⟩, h4, h5⟩
 obtain ⟨q, q1, q2, q3, q4⟩ := h2 e; exact ⟨q, q1, q2, q3, x.get q4 (hL q q2)⟩
theorem c_Acc_Step (hN : N.ok) (hC : C.ok) (hA : isA N A σ) {p : Nat} {O : List Nat} {m : Ak} (hO : AOb N p O m σ) (hw : ∀ i, 0 ≤ A.w i ∧ A.w i < 18446744073709551616) (hn : C.len ≤ A.n) (hf : m.fit C A)
  (hk : ∀ O' τ, (∀ i ∈ O', i ∈ O ∨ σ.get i = none) → isA N (m.step C who A).2.2 τ → AOb N p O' (m.step C who A).2.1 τ → Keep (O ++ N.l) σ τ → K (.bool (m.step C who A).1) τ) : s_ab [.pointer (some ⟨p, 0, none⟩), N.env C who] K σ := by
 obtain ⟨⟨x, hp, h3⟩, own, pO⟩ := hO
 have hd := own p pO
 have k1 : ∀ {τ : Mem}, Keep (p :: N.l) σ τ → Keep (O ++ N.l) σ τ := fun k => k.mono fun i hi => by
  rcases List.mem_cons.1 hi with rfl | hi
  ·exact List.mem_append_left _ pO
  ·exact List.mem_append_right _ hi
 have same : ∀ i ∈ O, i ∈ O ∨ σ.get i = none := fun i hi => .inl hi
 have cons : ∀ {q : Nat}, σ.get q = none → ∀ i ∈ q :: O, i ∈ O ∨ σ.get i = none := fun h i hi => by rcases List.mem_cons.1 hi with rfl | hi; exact .inr h; exact .inl hi
 have ownc : ∀ {q : Nat}, q ∉ N.l → ∀ i ∈ q :: O, i ∉ N.l := fun h i hi => by rcases List.mem_cons.1 hi with rfl | hi; exact h; exact own i hi
 have hpc := hf.a.pc
 have hfx : (m.a.wh x).fit C A := ⟨hf.a.pc, hf.a.n, hf.a.hs, hf.a.w, hf.a.cell, hf.a.a1, hf.a.a2, hf.a.bd⟩
 have hpx : (m.a.wh x).pc = m.a.pc := rfl
 by_cases c4 : m.a.pc = 4
 ·unfold Ak.step at hk
  rw [if_pos c4] at hk
  obtain ⟨q, rfl, qO, qp, gq⟩ := h3 c4
  have k2 : ∀ {τ : Mem}, Keep (q :: p :: N.l) σ τ → Keep (O ++ N.l) σ τ := fun k => k.mono fun i hi => by
   rcases List.mem_cons.1 hi with rfl | hi
   ·exact List.mem_append_left _ qO
   ·rcases List.mem_cons.1 hi with rfl | hi
    ·exact List.mem_append_left _ pO
    ·exact List.mem_append_right _ hi
  refine c_Ac4 hN hC hA (a := m.a.wh (some q)) (t := m.h) hp hd gq (own q qO) qp hw hn c4 rfl (hf.h c4) (fun d τ u1 u2 u3 u4 => ?_) (fun d τ u1 u2 u3 => ?_)
  ·rw [if_neg (by rw [d]; decide)] at hk
   exact hk O τ same u1 ⟨⟨some q, u2, fun _ => ⟨q, rfl, qO, qp, u3⟩⟩, own, pO⟩ (k2 u4)
  ·rw [if_pos d] at hk
   exact hk O τ same u1 ⟨⟨some q, u2, fun e => by dsimp only at e; omega⟩, own, pO⟩ (k2 u3)
 unfold Ak.step at hk
 rw [if_neg c4] at hk
 by_cases c2 : m.a.pc = 2
 ·rw [if_pos c2] at hk
  have e := Ac.step_help (C := C) (who := who) (A := A) (a := m.a) (x := x)
  refine c_Ac2 hN hC hA (a := m.a.wh x) (who := who) hp hd hw hfx c2 ?_ ?_
  ·rw [e]
   intro c τ u1 u2 u3
   exact hk O τ same u1 ⟨⟨x, u2, fun q => absurd q c⟩, own, pO⟩ (k1 u3)
  ·rw [e]
   intro c q τ q1 q2 u1 u2 u3 u4
   exact hk (q :: O) τ (cons q1) u1 ⟨⟨some q, u2, fun _ => ⟨q, rfl, List.mem_cons_self .., q2, by rw [List.nil_append, List.append_nil]; exact u3⟩⟩, ownc (hA.new q1), List.mem_cons_of_mem _ pO⟩ (k1 u4)
 rw [if_neg c2] at hk
 have np := Ac.step_pc (C := C) (who := who) (A := A) c2 c4
 have hk' : ∀ τ, isA N ((m.a.wh x).step C who A).2.2 τ → τ.get p = some ⟨((m.a.wh x).step C who A).2.1.l, true⟩ → Keep (p :: N.l) σ τ → K (.bool ((m.a.wh x).step C who A).1) τ := by
  rw [Ac.step_help]
  intro τ u1 u2 u3
  exact hk O τ same u1 ⟨⟨x, u2, fun q => absurd q np⟩, own, pO⟩ (k1 u3)
 rcases (show m.a.pc = 0 ∨ m.a.pc = 1 ∨ m.a.pc = 3 ∨ m.a.pc = 5 ∨ m.a.pc = 6 by omega) with c | c | c | c | c
 ·exact c_Ac0 hN hC hA hp hd hw hn hfx c hk'
 ·exact c_Ac1 hN hC hA hp hd hw hfx c hk'
 ·exact c_Ac3 hN hC hA hp hd hn hfx c hk'
 ·exact c_Ac5 hN hC hA hp hd hfx c hk'
 ·exact c_Ac6 hN hC hA hp hd hw hn hfx c hk'
theorem AOb.done {p : Nat} {O : List Nat} {m : Ak} (hA : isA N A σ) (h : AOb N p O m σ) (hk : K (.agg #[.int .i64 m.a.oE, .int .u64 m.a.oH, .int .i64 m.a.oV, .int .i64 m.a.oS]) σ) : s_aa [.pointer (some ⟨p, 0, none⟩)] K σ := by
 obtain ⟨⟨x, hp, _⟩, own, pO⟩ := h
 exact c_AccDone hA (a := m.a.wh x) hp hk
theorem aob_new {kd n ix v old : Int} {o : Bool} (hA : isA N A σ) (hk : ∀ p τ, σ.get p = none → AOb N p [p] (Ak.new kd n ix v old o) τ → Ext σ τ → K (.pointer (some ⟨p, 0, none⟩)) τ) : s_ag [.agg #[.int .i64 kd, .int .u64 n, .int .i64 ix, .int .i64 v, .int .i64 old], .bool o] K σ := by
 refine c_AccNew fun p τ hp gp x => hk p τ hp ⟨⟨none, gp, (fun e => by cases e)⟩, fun i hi => ?_, List.mem_singleton.2 rfl⟩ x
 rw [List.mem_singleton.1 hi]; exact hA.new hp
end Go.Fl
namespace Go.Fl
open Go
set_option linter.unusedVariables false
set_option linter.unusedSimpArgs false
variable {N : Nm} {A B : Ar} {σ : Mem} {K : Value → Mem → Prop} {C : Cf} {who : Int}
theorem Ak.new_fit (hC : C.ok) {kd n ix v old : Int} {o : Bool} (hn : 0 ≤ n ∧ n < 18446744073709551616) (hb : (A.n : Int) ≤ 200000000) : (Ak.new kd n ix v old o).fit C A := by
 have hS := hC.S
 exact ⟨⟨⟨Int.le_refl 0, (by decide : (0 : Int) ≤ 6)⟩, hn, ⟨Int.le_refl 0, by show (0 : Int) < C.S; omega⟩, ⟨Int.le_refl 0, (by decide : (0 : Int) < 18446744073709551616)⟩, ⟨Int.le_refl 0, (by decide : (0 : Int) < 18446744073709551616)⟩, fun e => (by cases e), fun e => (by rcases e with e | e <;> cases e), hb⟩, fun e => (by cases e)⟩
def NaI (C : Cf) (A0 : Ar) (m0 : Ak) (k : Int) (m : Ak) (A : Ar) : Prop :=
 k = 0 ∧ m = m0 ∧ A = A0 ∨ k = 1 ∧ A.w = A0.w ∧ A.s = A0.s + 1 ∧ A.n = A0.n ∧ (∀ bb, A0.ok bb → A.ok (bb + 1)) ∧ m.a.pc = 1 ∧ m.a.n = m0.a.n ∧ m.a.own = m0.a.own ∧ m.a.w = A0.w (C.slot (hdSl m0.a.n)) ∧ (m.a.hs = hdSl m0.a.n ∧ hdSl m0.a.n < C.S) ∧ slA m.a.w < C.len ∧ hdO (A0.w (slA m.a.w)) ≠ m0.a.own ∧ m.a.cell = 0
structure NaD (A0 : Ar) (m : Ak) (A : Ar) : Prop where
 e : m.a.oE = 3 ∧ m.a.oH = 0 ∧ m.a.oV = 0
 s : A0.s ≤ m.a.oS ∧ m.a.oS = A.s ∧ A.s ≤ A0.s + 2
 w : A.w = A0.w
 n : A.n = A0.n
 ok : ∀ bb, A0.ok bb → A.ok (bb + 2)
theorem NaI.step (hC : C.ok) {A0 : Ar} {k bb kd n ix v old : Int} {own : Bool} {m : Ak} (h : NaI C A0 (Ak.new kd n ix v old own) k m A) (hn : NoDrop C A0.w n own) (h0 : 0 ≤ n ∧ n < 18446744073709551616) (ok : A0.ok bb) (hb : bb < 4611686018427387904) (hl : C.len ≤ A0.n) (hb2 : (A0.n : Int) ≤ 200000000) :
  m.fit C A ∧ (A.ok (bb + 1) ∧ C.len ≤ A.n ∧ ((m.step C who A).2.2 = A ∨ ∃ a, (m.step C who A).2.2 = (A.by who).load a ∧ 0 ≤ a ∧ a < C.len)) ∧ (((m.step C who A).1 = false ∧ NaI C A0 (Ak.new kd n ix v old own) (k + 1) (m.step C who A).2.1 (m.step C who A).2.2) ∨ ((m.step C who A).1 = true ∧ NaD A0 (m.step C who A).2.1 (m.step C who A).2.2)) := by
 rcases h with ⟨rfl, rfl, rfl⟩ | ⟨rfl, ew, es, en, eo, h1, h2, h3, h4, h5, h6, h7, h8⟩
 ·have hT := hC.T
  have hS := hC.S
  have hCC := hC.C
  have hll := len_bd hC
  have hsb : hdSl n < C.S → 0 ≤ C.slot (hdSl n) ∧ C.slot (hdSl n) < C.len := fun q => by have := hdSl_bd h0.1; unfold Cf.slot; unfold Cf.chunk at hll; omega
  refine ⟨Ak.new_fit hC h0 hb2, ?_⟩
  suffices H : _ ∧ _ from ⟨⟨ok_mono ok (by omega), hl, H.1⟩, H.2⟩
  have p0 : (Ak.new kd n ix v old own).a.pc = 0 := rfl
  have hb := hdSl_bd h0.1
  have a1 := aft_load (who := who) (A := A) (a := C.slot (hdSl n)) ok (by omega)
  have e0 : (Ak.new kd n ix v old own).step C who A = (((Ak.new kd n ix v old own).a.step C who A).1, ⟨((Ak.new kd n ix v old own).a.step C who A).2.1, (Ak.new kd n ix v old own).h⟩, ((Ak.new kd n ix v old own).a.step C who A).2.2) := by
   unfold Ak.step; rw [if_neg (by rw [p0]; decide), if_neg (by rw [p0]; decide)]
  rw [e0]
  by_cases c : hdOk n = false ∨ C.S ≤ hdSl n
  ·have e : (Ak.new kd n ix v old own).a.step C who A = (true, ({ (Ak.new kd n ix v old own).a with hs := hdSl n, hg := hdGe n } : Ac).fin 3 0 A.s, A) := by
    unfold Ac.step; rw [if_pos p0, if_pos (show hdOk (Ak.new kd n ix v old own).a.n = false ∨ C.S ≤ hdSl (Ak.new kd n ix v old own).a.n from c)]; rfl
   rw [e]
   refine ⟨.inl rfl, ?_⟩
   exact .inr ⟨rfl, ⟨rfl, rfl, rfl⟩, ⟨Int.le_refl _, rfl, by dsimp only; omega⟩, rfl, rfl, fun b2 o2 => ok_mono o2 (by omega)⟩
  ·rcases hn with hn | ⟨hn1, hn⟩
   ·exact absurd hn c
   rcases hn with hn | ⟨hn, h8, h9⟩
   ·have e : (Ak.new kd n ix v old own).a.step C who A = (true, ({ (Ak.new kd n ix v old own).a with hs := hdSl n, hg := hdGe n, w := A.w (C.slot (hdSl n)), seen := ((A.by who).load (C.slot (hdSl n))).s, pc := 1 } : Ac).fin 3 0 ((A.by who).load (C.slot (hdSl n))).s, (A.by who).load (C.slot (hdSl n))) := by
     unfold Ac.step; rw [if_pos p0, if_neg (show ¬ (hdOk (Ak.new kd n ix v old own).a.n = false ∨ C.S ≤ hdSl (Ak.new kd n ix v old own).a.n) from c), if_neg (show ¬ lives (A.w (C.slot (hdSl (Ak.new kd n ix v old own).a.n))) (hdGe (Ak.new kd n ix v old own).a.n) from hn)]; rfl
    rw [e]
    refine ⟨.inr ⟨_, rfl, hsb hn1.2⟩, ?_⟩
    exact .inr ⟨rfl, ⟨rfl, rfl, rfl⟩, ⟨by have := a1.s; show A.s ≤ ((A.by who).load (C.slot (hdSl n))).s; omega, rfl, by have := a1.s; show ((A.by who).load (C.slot (hdSl n))).s ≤ _; omega⟩, rfl, rfl, fun b2 o2 => ok_mono (a1.ok (by decide) o2 o2.w) (by omega)⟩
   ·have e : (Ak.new kd n ix v old own).a.step C who A = (false, { (Ak.new kd n ix v old own).a with hs := hdSl n, hg := hdGe n, w := A.w (C.slot (hdSl n)), seen := ((A.by who).load (C.slot (hdSl n))).s, pc := 1 }, (A.by who).load (C.slot (hdSl n))) := by
     unfold Ac.step; rw [if_pos p0, if_neg (show ¬ (hdOk (Ak.new kd n ix v old own).a.n = false ∨ C.S ≤ hdSl (Ak.new kd n ix v old own).a.n) from c), if_pos (show lives (A.w (C.slot (hdSl (Ak.new kd n ix v old own).a.n))) (hdGe (Ak.new kd n ix v old own).a.n) from hn)]; rfl
    rw [e]
    refine ⟨.inr ⟨_, rfl, hsb hn1.2⟩, ?_⟩
    exact .inl ⟨rfl, .inr ⟨rfl, rfl, a1.s, rfl, fun b2 o2 => a1.ok (by decide) o2 o2.w, rfl, rfl, rfl, rfl, ⟨rfl, hn1.2⟩, h8, h9, rfl⟩⟩
 ·have ok' := eo bb ok
  have hb' := hdSl_bd h0.1
  have hnn : (Ak.new kd n ix v old own).a.n = n := rfl
  have hoo : (Ak.new kd n ix v old own).a.own = own := rfl
  rw [hnn] at h2 h4 h5
  rw [hoo] at h3 h7
  refine ⟨⟨⟨by omega, by rw [h2]; exact h0, by rw [h5.1]; exact ⟨hb'.1.1, h5.2⟩, by rw [h4]; exact ok.w _, by rw [h8]; decide, fun _ => by omega, fun e => by omega, by omega⟩, fun e => by omega⟩, ?_⟩
  suffices H : _ ∧ _ from ⟨⟨ok', by omega, H.1⟩, H.2⟩
  have a1 := aft_load (who := who) (A := A) (a := slA m.a.w) ok' (by omega)
  have e0 : m.step C who A = ((m.a.step C who A).1, ⟨(m.a.step C who A).2.1, m.h⟩, (m.a.step C who A).2.2) := by
   unfold Ak.step; rw [if_neg (by omega), if_neg (by omega)]
  have e : m.a.step C who A = (true, ({ m.a with size := hdS (A.w (slA m.a.w)), pc := 2 } : Ac).fin 3 0 ((A.by who).load (slA m.a.w)).s, (A.by who).load (slA m.a.w)) := by
   unfold Ac.step; rw [if_neg (by omega), if_pos h1, if_pos (by rw [h3, ew]; exact h7)]
  rw [e0, e]
  refine ⟨.inr ⟨_, rfl, (slA_bd _).1, h6⟩, ?_⟩
  refine .inr ⟨rfl, ⟨rfl, rfl, rfl⟩, ⟨by have := a1.s; show A0.s ≤ ((A.by who).load (slA m.a.w)).s; omega, rfl, by have := a1.s; show ((A.by who).load (slA m.a.w)).s ≤ _; omega⟩, ew, en, fun b2 o2 => ?_⟩
  rw [show b2 + 2 = b2 + 1 + 1 by omega]
  exact a1.ok (by decide) (eo b2 o2) (eo b2 o2).w
end Go.Fl
namespace Go.Fl
open Go
set_option linter.unusedVariables false
set_option linter.unusedSimpArgs false
variable {N : Nm} {A B : Ar} {σ : Mem} {K : Value → Mem → Prop} {C : Cf} {who : Int}
structure Ol (C : Cf) (w : Int → Int) (n : Int) (own : Bool) (z a : Int) : Prop where
 nb : 0 ≤ n ∧ n < 18446744073709551616
 ok : hdOk n = true
 s : hdSl n < C.S
 st : slS (w (C.slot (hdSl n))) = 1
 ad : slA (w (C.slot (hdSl n))) = a
 ge : slG (w (C.slot (hdSl n))) = hdGe n
 hd : hdO (w a) = own ∧ hdS (w a) = z
 bd : C.base 0 ≤ a ∧ a + z < C.len
 z1 : 1 ≤ z
 cl : ∀ x, 0 ≤ x → x < z → ceF (w (a + 1 + x)) = false
def Looks (m : Ak) (c : Int) : Prop := m.a.kd = 1 ∨ m.a.kd = 3 ∧ ceV c ≠ m.a.old
def LvI (C : Cf) (A0 : Ar) (m0 : Ak) (z a k : Int) (m : Ak) (A : Ar) : Prop :=
 k = 0 ∧ m = m0 ∧ A = A0 ∨
 (A.w = A0.w ∧ A.s = A0.s + k ∧ A.n = A0.n ∧ (∀ bb, A0.ok bb → A.ok (bb + k))) ∧
  (m.a.kd = m0.a.kd ∧ m.a.n = m0.a.n ∧ m.a.ix = m0.a.ix ∧ m.a.v = m0.a.v ∧ m.a.old = m0.a.old ∧ m.a.own = m0.a.own ∧ m.a.hs = hdSl m0.a.n ∧ m.a.hg = hdGe m0.a.n ∧ m.a.w = A0.w (C.slot (hdSl m0.a.n))) ∧
  (k = 1 ∧ m.a.pc = 1 ∧ m.a.cell = 0 ∧ m.a.seen = A0.s + 1 ∨ (0 ≤ m0.a.ix ∧ m0.a.ix < z) ∧ (k = 2 ∧ m.a.pc = 2 ∧ m.a.cell = 0 ∨
   k = 3 ∧ m.a.cell = A0.w (a + 1 + m0.a.ix) ∧ m.a.rd = A0.s + 3 ∧ (m.a.pc = 5 ∧ ¬ Looks m0 m.a.cell ∨ m.a.pc = 6 ∧ Looks m0 m.a.cell)))
structure LvD (C : Cf) (A0 : Ar) (m0 : Ak) (z a : Int) (m : Ak) (A : Ar) : Prop where
  r : ¬ (0 ≤ m0.a.ix ∧ m0.a.ix < z) ∧ m.a.oE = 4 ∧ m.a.oV = 0 ∧ m.a.oS = A0.s + 1 ∧ A.s = A0.s + 2 ∧ A.w = A0.w ∨
    (0 ≤ m0.a.ix ∧ m0.a.ix < z) ∧ A.s = A0.s + 4 ∧ m.a.oV = ceV (A0.w (a + 1 + m0.a.ix)) ∧
      (Looks m0 (A0.w (a + 1 + m0.a.ix)) ∧ m.a.oE = (if m0.a.kd = 3 then 8 else 0) ∧ m.a.oS = A0.s + 3 ∧ A.w = A0.w ∨
       ¬ Looks m0 (A0.w (a + 1 + m0.a.ix)) ∧ m.a.oE = 0 ∧ m.a.oS = A0.s + 4 ∧ A.w = upd A0.w (a + 1 + m0.a.ix) (putCell m0.a.v false 0))
  h : m.a.oH = 0
  n : A.n = A0.n
  ok : ∀ bb, A0.ok bb → A.ok (bb + 4)
theorem LvI.step (hC : C.ok) {A0 : Ar} {k bb z a kd n ix v old : Int} {own : Bool} {m : Ak} (h : LvI C A0 (Ak.new kd n ix v old own) z a k m A) (ho : Ol C A0.w n own z a) (ok : A0.ok bb) (hb : bb < 4611686018427387904) (hl : C.len ≤ A0.n) (hb2 : (A0.n : Int) ≤ 200000000) :
  m.fit C A ∧ ((∀ i, 0 ≤ A.w i ∧ A.w i < 18446744073709551616) ∧ C.len ≤ A.n) ∧
  (((m.step C who A).1 = false ∧ LvI C A0 (Ak.new kd n ix v old own) z a (k + 1) (m.step C who A).2.1 (m.step C who A).2.2) ∨ ((m.step C who A).1 = true ∧ LvD C A0 (Ak.new kd n ix v old own) z a (m.step C who A).2.1 (m.step C who A).2.2)) := by
 have hT := hC.T
 have hS := hC.S
 have hCC := hC.C
 have hll := len_bd hC
 have hsl := hdSl_bd ho.nb.1
 have hos := ho.s
 have hbd := ho.bd
 have hz1 := ho.z1
 have hb0 : C.base 0 = 6 + C.T + 2 * C.S + 3 * C.C := by unfold Cf.base; omega
 have hsb : 0 ≤ C.slot (hdSl n) ∧ C.slot (hdSl n) < C.base 0 := by unfold Cf.slot; omega
 have hlv : lives (A0.w (C.slot (hdSl n))) (hdGe n) := ⟨.inl ho.st, ho.ge⟩
 have hn0 : (Ak.new kd n ix v old own).a.n = n := rfl
 have hk0 : (Ak.new kd n ix v old own).a.kd = kd := rfl
 have hi0 : (Ak.new kd n ix v old own).a.ix = ix := rfl
 have hv0 : (Ak.new kd n ix v old own).a.v = v := rfl
 have hd0 : (Ak.new kd n ix v old own).a.old = old := rfl
 have hw0 : (Ak.new kd n ix v old own).a.own = own := rfl
 rcases h with ⟨rfl, rfl, rfl⟩ | ⟨⟨ew, es, en, eo⟩, ⟨f1, f2, f3, f4, f5, f6, f7, f8, f9⟩, h⟩
 ·refine ⟨Ak.new_fit hC ho.nb hb2, ⟨ok.w, hl⟩, ?_⟩
  have p0 : (Ak.new kd n ix v old own).a.pc = 0 := rfl
  have a1 := aft_load (who := who) (A := A) (a := C.slot (hdSl n)) ok (by omega)
  have e0 : (Ak.new kd n ix v old own).step C who A = (((Ak.new kd n ix v old own).a.step C who A).1, ⟨((Ak.new kd n ix v old own).a.step C who A).2.1, (Ak.new kd n ix v old own).h⟩, ((Ak.new kd n ix v old own).a.step C who A).2.2) := by
   unfold Ak.step; rw [if_neg (by rw [p0]; decide), if_neg (by rw [p0]; decide)]
  have e : (Ak.new kd n ix v old own).a.step C who A = (false, { (Ak.new kd n ix v old own).a with hs := hdSl n, hg := hdGe n, w := A.w (C.slot (hdSl n)), seen := ((A.by who).load (C.slot (hdSl n))).s, pc := 1 }, (A.by who).load (C.slot (hdSl n))) := by
   unfold Ac.step; rw [if_pos p0, if_neg (by rw [hn0]; rintro (q | q); rw [ho.ok] at q; cases q; omega), if_pos (by rw [hn0]; exact hlv)]; rfl
  rw [e0, e]
  exact .inl ⟨rfl, .inr ⟨⟨rfl, a1.s, rfl, fun b2 o2 => a1.ok (by decide) o2 o2.w⟩, ⟨rfl, rfl, rfl, rfl, rfl, rfl, rfl, rfl, rfl⟩, .inl ⟨rfl, rfl, rfl, a1.s⟩⟩⟩
 rw [hk0] at f1; rw [hn0] at f2 f7 f8 f9; rw [hi0] at f3 h; rw [hv0] at f4; rw [hd0] at f5; rw [hw0] at f6
 have ok' := eo bb ok
 have hkk : 0 ≤ k ∧ k ≤ 3 := by rcases h with ⟨h, _⟩ | ⟨_, ⟨h, _⟩ | ⟨h, _⟩⟩ <;> omega
 have esa : slA m.a.w = a := by rw [f9]; exact ho.ad
 have eat : m.a.at' = a + 1 + ix := by unfold Ac.at'; rw [esa, f3]
 have hcell : 0 ≤ m.a.cell ∧ m.a.cell < 18446744073709551616 := by
  rcases h with ⟨_, _, h, _⟩ | ⟨_, ⟨_, _, h⟩ | ⟨_, h, _⟩⟩
  ·rw [h]; decide
  ·rw [h]; decide
  ·rw [h]; exact ok.w _
 have hfit : m.fit C A := by
  refine ⟨⟨?_, by rw [f2]; exact ho.nb, by rw [f7]; exact ⟨hsl.1.1, hos⟩, by rw [f9]; exact ok.w _, hcell, fun _ => by omega, fun e => ?_, by omega⟩, fun e => ?_⟩
  ·rcases h with ⟨_, h, _⟩ | ⟨_, ⟨_, h, _⟩ | ⟨_, _, _, ⟨h, _⟩ | ⟨h, _⟩⟩⟩ <;> omega
  ·rw [eat]
   rcases h with ⟨_, h, _⟩ | ⟨hi, _⟩ <;> omega
  ·rcases h with ⟨_, h, _⟩ | ⟨_, ⟨_, h, _⟩ | ⟨_, _, _, ⟨h, _⟩ | ⟨h, _⟩⟩⟩ <;> omega
 refine ⟨hfit, ⟨ok'.w, by omega⟩, ?_⟩
 rcases h with ⟨rfl, h1, h2, h3⟩ | ⟨hi, ⟨rfl, h1, h2⟩ | ⟨rfl, h1, h2, h3⟩⟩
 ·have a1 := aft_load (who := who) (A := A) (a := slA m.a.w) ok' (by omega)
  have e0 : m.step C who A = ((m.a.step C who A).1, ⟨(m.a.step C who A).2.1, m.h⟩, (m.a.step C who A).2.2) := by
   unfold Ak.step; rw [if_neg (by omega), if_neg (by omega)]
  have own' : ¬ hdO (A.w (slA m.a.w)) ≠ m.a.own := by rw [esa, ew, f6, ho.hd.1]; simp
  by_cases c : m.a.ix < 0 ∨ hdS (A.w (slA m.a.w)) ≤ m.a.ix
  ·have e : m.a.step C who A = (true, ({ m.a with size := hdS (A.w (slA m.a.w)), pc := 2 } : Ac).fin 4 0 m.a.seen, (A.by who).load (slA m.a.w)) := by
    unfold Ac.step; rw [if_neg (by omega), if_pos h1, if_neg own', if_pos c]
   rw [e0, e]
   rw [esa, ew, ho.hd.2, f3] at c
   exact .inr ⟨rfl, ⟨.inl ⟨by rw [hi0]; omega, rfl, rfl, h3, by have := a1.s; show ((A.by who).load (slA m.a.w)).s = _; omega, ew⟩, rfl, en, fun b2 o2 => ok_mono (a1.ok (by decide) (eo b2 o2) (eo b2 o2).w) (by omega)⟩⟩
  ·have e : m.a.step C who A = (false, { m.a with size := hdS (A.w (slA m.a.w)), pc := 2 }, (A.by who).load (slA m.a.w)) := by
    unfold Ac.step; rw [if_neg (by omega), if_pos h1, if_neg own', if_neg c]
   rw [e0, e]
   rw [esa, ew, ho.hd.2, f3] at c
   exact .inl ⟨rfl, .inr ⟨⟨ew, by have := a1.s; show ((A.by who).load (slA m.a.w)).s = _; omega, en, fun b2 o2 => by rw [show b2 + (1 + 1) = b2 + 1 + 1 by omega]; exact a1.ok (by decide) (eo b2 o2) (eo b2 o2).w⟩, ⟨f1, f2, f3, f4, f5, f6, f7, f8, f9⟩, .inr ⟨by rw [hi0]; omega, .inl ⟨rfl, rfl, h2⟩⟩⟩⟩
 ·have a1 := aft_load (who := who) (A := A) (a := m.a.at') ok' (by omega)
  have e0 : m.step C who A = ((m.a.step C who A).1, ⟨(m.a.step C who A).2.1, Hl.new m.a.hs m.a.w m.a.size⟩, (m.a.step C who A).2.2) := by
   unfold Ak.step; rw [if_neg (by omega), if_pos h1]
  have e : m.a.step C who A = (false, { m.a with cell := A.w m.a.at', rd := ((A.by who).load m.a.at').s, pc := ({ m.a with cell := A.w m.a.at' } : Ac).nxt }, (A.by who).load m.a.at') := by
   unfold Ac.step; rw [if_neg (by omega), if_neg (by omega), if_pos h1]
  rw [e0, e]
  have ecl : A.w m.a.at' = A0.w (a + 1 + ix) := by rw [eat, ew]
  have hce := ho.cl ix hi.1 hi.2
  have nx : ({ m.a with cell := A.w m.a.at' } : Ac).nxt = if m.a.kd = 1 ∨ m.a.kd = 3 ∧ ceV (A.w m.a.at') ≠ m.a.old then 6 else 5 := by
   unfold Ac.nxt
   dsimp only
   have hs1 : ¬ slS m.a.w = 4 := by rw [f9, ho.st]; decide
   rw [if_neg hs1, if_pos (show ceF (A.w m.a.at') = false ∨ ceN (A.w m.a.at') < slV m.a.w from .inl (by rw [ecl]; exact hce))]
  refine .inl ⟨rfl, .inr ⟨⟨ew, by have := a1.s; show ((A.by who).load m.a.at').s = _; omega, en, fun b2 o2 => by rw [show b2 + (2 + 1) = b2 + 2 + 1 by omega]; exact a1.ok (by decide) (eo b2 o2) (eo b2 o2).w⟩, ⟨f1, f2, f3, f4, f5, f6, f7, f8, f9⟩, .inr ⟨hi, .inr ⟨rfl, ecl, by have := a1.s; show ((A.by who).load m.a.at').s = _; omega, ?_⟩⟩⟩⟩
  show ({ m.a with cell := A.w m.a.at' } : Ac).nxt = 5 ∧ ¬ Looks _ (A.w m.a.at') ∨ ({ m.a with cell := A.w m.a.at' } : Ac).nxt = 6 ∧ Looks _ (A.w m.a.at')
  rw [nx, f1, f5]
  unfold Looks
  rw [hk0, hd0]
  by_cases c : kd = 1 ∨ kd = 3 ∧ ceV (A.w m.a.at') ≠ old
  ·rw [if_pos c]; exact .inr ⟨rfl, c⟩
  ·rw [if_neg c]; exact .inl ⟨rfl, c⟩
 ·have e0 : m.step C who A = ((m.a.step C who A).1, ⟨(m.a.step C who A).2.1, m.h⟩, (m.a.step C who A).2.2) := by
   unfold Ak.step; rw [if_neg (by rcases h3 with ⟨h, _⟩ | ⟨h, _⟩ <;> omega), if_neg (by rcases h3 with ⟨h, _⟩ | ⟨h, _⟩ <;> omega)]
  rcases h3 with ⟨hp, hq⟩ | ⟨hp, hq⟩
  ·have a1 := aft_cas (who := who) (A := A) (a := m.a.at') (o := m.a.cell) (v := putCell m.a.v false 0) ok' (by omega)
   have ec : A.w m.a.at' = m.a.cell := by rw [eat, ew, h1]
   rw [if_pos ec] at a1
   have e : m.a.step C who A = (true, ({ m.a with pc := 0 } : Ac).fin 0 (ceV m.a.cell) ((A.by who).cas m.a.at' m.a.cell (putCell m.a.v false 0)).s, (A.by who).cas m.a.at' m.a.cell (putCell m.a.v false 0)) := by
    unfold Ac.step; rw [if_neg (by omega), if_neg (by omega), if_neg (by omega), if_neg (by omega), if_pos hp, if_pos ec]
   rw [e0, e]
   refine .inr ⟨rfl, ⟨.inr ⟨hi, by have := a1.s; show ((A.by who).cas _ _ _).s = _; omega, by show ceV m.a.cell = _; rw [h1, hi0], .inr ⟨by rw [hi0, ← h1]; exact hq, rfl, by have := a1.s; show ((A.by who).cas _ _ _).s = _; omega, ?_⟩⟩, rfl, by show ((A.by who).cas _ _ _).n = _; rw [a1.n, en], fun b2 o2 => ?_⟩⟩
   ·show ((A.by who).cas _ _ _).w = _; rw [a1.w, ew, eat, hi0, hv0, f4]
   ·rw [show b2 + 4 = b2 + 3 + 1 by omega]
    exact a1.ok (by decide) (eo b2 o2) fun i => upd_cases (P := fun x => 0 ≤ x ∧ x < 18446744073709551616) (putCell_in _ _ _) (ok'.w i)
  ·have a1 := aft_load (who := who) (A := A) (a := C.slot m.a.hs) ok' (by omega)
   have l1 : lives (A.w (C.slot m.a.hs)) m.a.hg := by rw [f7, f8, ew]; exact hlv
   have l2 : slA (A.w (C.slot m.a.hs)) = slA m.a.w := by rw [f7, f9, ew]
   have e : m.a.step C who A = (true, m.a.fin (if m.a.kd = 3 then 8 else 0) (ceV m.a.cell) m.a.rd, (A.by who).load (C.slot m.a.hs)) := by
    unfold Ac.step; rw [if_neg (by omega), if_neg (by omega), if_neg (by omega), if_neg (by omega), if_neg (by omega), if_pos l1, if_pos l2]
   rw [e0, e]
   exact .inr ⟨rfl, ⟨.inr ⟨hi, by have := a1.s; show ((A.by who).load _).s = _; omega, by show ceV m.a.cell = _; rw [h1, hi0], .inl ⟨by rw [hi0, ← h1]; exact hq, by show (if m.a.kd = 3 then 8 else 0) = _; rw [f1, hk0], h2, ew⟩⟩, rfl, en, fun b2 o2 => by rw [show b2 + 4 = b2 + 3 + 1 by omega]; exact a1.ok (by decide) (eo b2 o2) (eo b2 o2).w⟩⟩
end Go.Fl
namespace Go.Fl
open Go
set_option linter.unusedVariables false
set_option linter.unusedSimpArgs false
variable {N : Nm} {A B : Ar} {σ : Mem} {K : Value → Mem → Prop} {C : Cf} {who : Int}
def updO (f : Int → Option Do) (a : Int) (v : Option Do) : Int → Option Do := fun i => if i = a then v else f i
theorem updO_same {f : Int → Option Do} {a : Int} {v : Option Do} : updO f a v a = v := if_pos rfl
theorem updO_ne {f : Int → Option Do} {a i : Int} {v : Option Do} (h : i ≠ a) : updO f a v i = f i := if_neg h
def prt (ob : Int → Option Do) (j s : Int) : Int := match ob s with
 | some d => if d.j = j then d.rm else 0
 | none => 0
theorem prt_nn {ob : Int → Option Do} {j s : Int} : 0 ≤ prt ob j s := by
 unfold prt
 split
 ·rename_i d _; split
  ·have := d.rm0; omega
  ·exact Int.le_refl _
 ·exact Int.le_refl _
theorem prt_upd {ob : Int → Option Do} {j s : Int} {v : Option Do} : prt (updO ob s v) j = upd (prt ob j) s (match v with | some d => if d.j = j then d.rm else 0 | none => 0) := by
 funext t
 unfold prt upd updO
 by_cases e : t = s
 ·rw [if_pos e, if_pos e]
 ·rw [if_neg e, if_neg e]
structure Wo (C : Cf) (b : Bg) (ob : Int → Option Do) (M : Int) (w : Int → Int) : Prop where
 aw : b.aw C w
 lv : b.lvM C M
 gen : ∀ s, 0 ≤ s → s < C.S → 1 ≤ slG (w (C.slot s)) ∧ slG (w (C.slot s)) ≤ C.G
 no : ∀ s, 0 ≤ s → s < C.S → ob s = none → slS (w (C.slot s)) = 0 ∨ slS (w (C.slot s)) = 3
 ok : ∀ s d, 0 ≤ s → s < C.S → ob s = some d → d.ok C b w ∧ d.s = s ∧ slS d.ws = 1 ∧ ∀ x, 0 ≤ x → x < d.z → ceF (w (d.a C + 1 + x)) = false
 ne : ∀ s t d e, 0 ≤ s → s < C.S → 0 ≤ t → t < C.S → ob s = some d → ob t = some e → s ≠ t → d.j ≠ e.j ∨ d.i + d.rm ≤ e.i ∨ e.i + e.rm ≤ d.i
 sm : ∀ j, 0 ≤ j → j < C.C → sumN (prt ob j) C.S.toNat ≤ b.lv j
def SameO (C : Cf) (ob : Int → Option Do) (s : Int) (w w' : Int → Int) : Prop := ∀ t e, 0 ≤ t → t < C.S → t ≠ s → ob t = some e → ∀ x, 0 ≤ x → x < e.z → w' (e.a C + 1 + x) = w (e.a C + 1 + x)
section
variable {b : Bg} {ob : Int → Option Do} {M : Int} {w w' : Int → Int}
theorem Wo.at' (hC : C.ok) (h : Wo C b ob M w) {s : Int} {d : Do} (s0 : 0 ≤ s) (s1 : s < C.S) (e : ob s = some d) {x : Int} (x0 : 0 ≤ x) (x1 : x ≤ d.z) :
  d.a C + x = C.base d.j + (d.i + x) ∧ (0 ≤ d.j ∧ d.j < C.C) ∧ 0 ≤ d.i + x ∧ d.i + x < b.u d.j ∧ d.i + x < C.W := by
 have o := (h.ok s d s0 s1 e).1
 have av := d.av hC o ⟨_, h.aw⟩
 have := o.i
 refine ⟨by unfold Do.a; omega, o.j, by omega, by omega, by omega⟩
theorem Wo.keep (hC : C.ok) (h : Wo C b ob M w) (haw : b.aw C w') (hs : ∀ s, 0 ≤ s → s < C.S → w' (C.slot s) = w (C.slot s))
  (hw : ∀ s d, 0 ≤ s → s < C.S → ob s = some d → ∀ x, 0 ≤ x → x ≤ d.z → w' (d.a C + x) = w (d.a C + x)) : Wo C b ob M w' := by
 refine ⟨haw, h.lv, fun s s0 s1 => by rw [hs s s0 s1]; exact h.gen s s0 s1, fun s s0 s1 e => by rw [hs s s0 s1]; exact h.no s s0 s1 e, fun s d s0 s1 e => ?_, h.ne, h.sm⟩
 obtain ⟨o, e1, e2, e3⟩ := h.ok s d s0 s1 e
 have av := d.av hC o ⟨_, h.aw⟩
 refine ⟨o.keep o.sF (by rw [e1]; exact hs s s0 s1) (by have := hw s d s0 s1 e 0 (by omega) (by omega); rwa [Int.add_zero] at this) (Int.le_refl _) o.lv, e1, e2, fun x x0 x1 => ?_⟩
 rw [show d.a C + 1 + x = d.a C + (1 + x) by omega, hw s d s0 s1 e (1 + x) (by omega) (by omega), show d.a C + (1 + x) = d.a C + 1 + x by omega]
 exact e3 x x0 x1
theorem Wo.same_of (hC : C.ok) (h : Wo C b ob M w) (hw : ∀ j i, 0 ≤ j → j < C.C → 0 ≤ i → i < b.u j → i < C.W → w' (C.base j + i) = w (C.base j + i)) :
  ∀ s d, 0 ≤ s → s < C.S → ob s = some d → ∀ x, 0 ≤ x → x ≤ d.z → w' (d.a C + x) = w (d.a C + x) := by
 intro s d s0 s1 e x x0 x1
 obtain ⟨q0, q1, q2, q3, q4⟩ := h.at' hC s0 s1 e x0 x1
 rw [q0]; exact hw _ _ q1.1 q1.2 q2 q3 q4
theorem Wo.apart (hC : C.ok) (h : Wo C b ob M w) {s t : Int} {d e : Do} (s0 : 0 ≤ s) (s1 : s < C.S) (t0 : 0 ≤ t) (t1 : t < C.S) (hd : ob s = some d) (he : ob t = some e) (hst : s ≠ t) {x y : Int} (x0 : 0 ≤ x) (x1 : x ≤ d.z) (y0 : 0 ≤ y) (y1 : y ≤ e.z) : d.a C + x ≠ e.a C + y := by
 obtain ⟨q0, q1, q2, q3, q4⟩ := h.at' hC s0 s1 hd x0 x1
 obtain ⟨r0, r1, r2, r3, r4⟩ := h.at' hC t0 t1 he y0 y1
 intro q
 rw [q0, r0] at q
 obtain ⟨p1, p2⟩ := base_inj hC q1.1 q1.2 q2 q4 r1.1 r1.2 r2 r4 q
 have z1 := (h.ok s d s0 s1 hd).1.z
 have z2 := (h.ok t e t0 t1 he).1.z
 rcases h.ne s t d e s0 s1 t0 t1 hd he hst with n | n | n
 ·exact n p1
 ·unfold Do.rm at n; omega
 ·unfold Do.rm at n; omega
theorem Wo.make (hC : C.ok) (h : Wo C b ob M w) (hM : M ≤ 900000000) {z s j : Int} {own : Bool} {b' : Bg} {F : List Int} (hF : b.F = s :: F) (hc : 0 ≤ classOf z)
  (hg : Got C b F (classOf z) j b') (haw : (b'.count j (roomOf (classOf z))).aw C w') (h1 : w' (C.slot s) = putSlot 1 (C.base j + b.u j) (slG (w (C.slot s))) 0) (h2 : w' (C.base j + b.u j) = putHead 2 z s (slG (w (C.slot s))) own)
  (h3 : ∀ x, 1 ≤ x → x < roomOf (classOf z) → w' (C.base j + (b.u j + x)) = 0) (fw : Fw C b True w w') :
  ∃ d, Wo C (b'.count j (roomOf (classOf z))) (updO ob s (some d)) (M + 17) w' ∧ (0 ≤ s ∧ s < C.S) ∧ ob s = none ∧ d.n = putHandle s (slG (w (C.slot s))) ∧ d.z = z ∧ d.own = own ∧ d.s = s ∧ SameO C ob s w w' ∧ ∀ x, 0 ≤ x → x < z → w' (d.a C + 1 + x) = 0 := by
 have hm := h.aw.fre.c.mem s (by rw [hF]; simp)
 have hnd := h.aw.fre.nd
 rw [hF] at hnd
 have hsF := (List.nodup_cons.1 hnd).1
 have hge := h.gen s hm.1 hm.2
 have hG := hC.G
 obtain ⟨c1, c2, c3⟩ := hg.cnt hC (n := roomOf (classOf z))
 obtain ⟨d1, d2, d3, d4⟩ := hg.bd hC h.aw.alo hc (class_bd z).2
 have hlv0 := h.lv.lv j d1.1 d1.2
 have hS := hC.S
 have hr := room_bd hc (class_bd z).2
 have hzr := class_room' hc
 have hnew := hg.do (own := own) hC hc hm hsF (by omega : 1 ≤ slG (w (C.slot s)) ∧ slG (w (C.slot s)) ≤ 65535) ⟨_, h.aw.alo⟩ hlv0.1 h1 h2
 obtain ⟨y0, y1, y2, y3, y4⟩ := hd_handle (s := s) (g := slG (w (C.slot s))) (by omega) (by omega)
 have obs : ob s = none := by
  cases e : ob s with
  | none => rfl
  | some d => exact absurd (by rw [hF, (h.ok s d hm.1 hm.2 e).2.1]; simp) (h.ok s d hm.1 hm.2 e).1.sF
 have hb1 := base_of hC d1.1 d1.2 d2.1 (by omega)
 have hb2 := base_ge hC d1.1 d1.2 d2.1
 have hl := len_bd hC
 generalize hd : Do.mk' C b s (slG (w (C.slot s))) z own j = d at *
 have ds : d.s = s := by subst hd; exact y2
 have dn : d.n = putHandle s (slG (w (C.slot s))) := by subst hd; rfl
 have dj : d.j = j := by subst hd; rfl
 have di : d.i = b.u j := by subst hd; rfl
 have dz : d.z = z := by subst hd; rfl
 have dow : d.own = own := by subst hd; rfl
 have dws : d.ws = putSlot 1 (C.base j + b.u j) (slG (w (C.slot s))) 0 := by subst hd; rfl
 have dr : d.rm = roomOf (classOf z) := by subst hd; rfl
 have da : d.a C = C.base j + b.u j := by unfold Do.a; rw [dj, di]
 have wS : ∀ t, 0 ≤ t → t < C.S → t ≠ s → w' (C.slot t) = w (C.slot t) := fun t t0 t1 ht => fw.slot t t0 t1 fun _ F' e => by rw [hF] at e; cases e; exact ht rfl
 have wG : slG (w' (C.slot s)) = slG (w (C.slot s)) := by rw [h1]; exact (sl_put (by decide) (by omega) (by omega) (by decide)).2.2.1
 have wW := h.same_of hC fw.word
 have z0 : ∀ x, 0 ≤ x → x < z → w' (d.a C + 1 + x) = 0 := fun x x0 x1 => by
  have := h3 (1 + x) (by omega) (by omega)
  rw [show d.a C + 1 + x = C.base j + (b.u j + (1 + x)) by omega]; exact this
 refine ⟨d, ⟨haw, ?_, fun t t0 t1 => ?_, fun t t0 t1 e => ?_, fun t e t0 t1 he => ?_, ?_, fun l l0 l1 => ?_⟩, hm, obs, dn, dz, dow, ds, ?_, z0⟩
 ·exact h.lv.count hC hg hc (class_bd z).2
 ·by_cases e : t = s
  ·subst e; rw [wG]; exact hge
  ·rw [wS t t0 t1 e]; exact h.gen t t0 t1
 ·by_cases q : t = s
  ·subst q; rw [updO_same] at e; cases e
  ·rw [updO_ne q] at e; rw [wS t t0 t1 q]; exact h.no t t0 t1 e
 ·by_cases q : t = s
  ·subst q; rw [updO_same] at he; cases he
   refine ⟨hnew, ds, by rw [dws]; exact (sl_put (by decide) (by omega) (by omega) (by decide)).1, fun x x0 x1 => ?_⟩
   rw [z0 x x0 (by omega)]; decide
  ·rw [updO_ne q] at he
   obtain ⟨o, e1, e2, e3⟩ := h.ok t e t0 t1 he
   have av := e.av hC o ⟨_, h.aw⟩
   have oj := o.j
   have eF : e.s ∉ F := by have := o.sF; rw [hF] at this; simp only [List.mem_cons, not_or] at this; exact this.2
   refine ⟨o.keep (by rw [c1]; exact eF) (by rw [e1]; exact wS t t0 t1 q) (by have := wW t e t0 t1 he 0 (by omega) (by omega); rwa [Int.add_zero] at this) ?_ ?_, e1, e2, fun x x0 x1 => ?_⟩
   ·rw [c3]; unfold upd; split
    ·rename_i q'; rw [q']; omega
    ·exact Int.le_refl _
   ·have olv := o.lv
    rw [c2]; unfold upd; split
    ·rename_i q'; rw [q'] at olv; omega
    ·exact olv
   ·rw [show e.a C + 1 + x = e.a C + (1 + x) by omega, wW t e t0 t1 he (1 + x) (by omega) (by omega), show e.a C + (1 + x) = e.a C + 1 + x by omega]
    exact e3 x x0 x1
 ·intro t u e f t0 t1 u0 u1 he hf htu
  by_cases q : t = s
  ·subst q
   rw [updO_same] at he; cases he
   rw [updO_ne (Ne.symm htu)] at hf
   have of := (h.ok u f u0 u1 hf).1
   by_cases q' : f.j = j
   ·have := of.i.2; rw [q'] at this; refine .inr (.inr ?_); unfold Do.rm; omega
   ·exact .inl fun x => q' (by rw [← x, dj])
  ·rw [updO_ne q] at he
   by_cases q' : u = s
   ·subst q'
    rw [updO_same] at hf; cases hf
    have oe := (h.ok t e t0 t1 he).1
    by_cases q'' : e.j = j
    ·have := oe.i.2; rw [q''] at this; refine .inr (.inl ?_); unfold Do.rm; omega
    ·exact .inl fun x => q'' (by rw [x, dj])
   ·rw [updO_ne q'] at hf
    exact h.ne t u e f t0 t1 u0 u1 he hf htu
 ·rw [prt_upd, sumN_upd (by omega) (by omega)]
  have e0 : prt ob l s = 0 := by unfold prt; rw [obs]
  have := h.sm l l0 l1
  rw [e0, c2]
  dsimp only
  rw [dj, dr]
  by_cases q : j = l
  ·subst q; rw [upd_same, if_pos rfl]; omega
  ·rw [upd_ne _ _ (fun e => q e.symm), if_neg q]; omega
 ·intro t e t0 t1 ts he x x0 x1
  rw [show e.a C + 1 + x = e.a C + (1 + x) by omega]
  exact wW t e t0 t1 he (1 + x) (by omega) (by omega)
theorem Wo.drop (hC : C.ok) (h : Wo C b ob M w) {s : Int} {d : Do} (s0 : 0 ≤ s) (s1 : s < C.S) (hs : ob s = some d) (fr : d.fr C w w') (sl : w' (C.slot d.s) = d.nx C)
  (aw : Bg.aw { b.less d.j (roomOf (classOf d.z)) with F := if C.G ≤ d.ge then b.F else d.s :: b.F } C w') :
  Wo C { b.less d.j (roomOf (classOf d.z)) with F := if C.G ≤ d.ge then b.F else d.s :: b.F } (updO ob s none) M w' ∧ SameO C ob s w w' := by
 obtain ⟨o, e1, e2, e3⟩ := h.ok s d s0 s1 hs
 have hge := h.gen s s0 s1
 have hG := hC.G
 have ege : slG (w (C.slot s)) = d.ge := by rw [← e1, o.ws, o.sg]
 rw [ege] at hge
 have av := d.av hC o ⟨_, h.aw⟩
 have hT := hC.T
 have hS := hC.S
 have hCC := hC.C
 have wS : ∀ t, 0 ≤ t → t < C.S → t ≠ s → w' (C.slot t) = w (C.slot t) := fun t t0 t1 ht => by
  have hb := (h.at' hC s0 s1 hs (x := 0) (by omega) (by omega))
  have hb2 := base_ge hC hb.2.1.1 hb.2.1.2 hb.2.2.1
  have hj := o.j
  refine fr _ (by rw [e1]; unfold Cf.slot; omega) (by unfold Cf.slot; omega) (by rw [e1]; unfold Cf.slot; omega) (by unfold Cf.slot Cf.chunk; omega) (by unfold Cf.slot; omega)
 have wW : ∀ t e, 0 ≤ t → t < C.S → t ≠ s → ob t = some e → ∀ x, 0 ≤ x → x ≤ e.z → w' (e.a C + x) = w (e.a C + x) := fun t e t0 t1 ts he x x0 x1 => by
  have hb := h.at' hC t0 t1 he x0 x1
  have hb2 := base_ge hC hb.2.1.1 hb.2.1.2 hb.2.2.1
  have hj := o.j
  refine fr _ (by rw [e1, hb.1]; unfold Cf.slot; omega) (by rw [hb.1]; omega) (by rw [e1, hb.1]; unfold Cf.slot; omega) (by rw [hb.1]; unfold Cf.chunk; omega) fun q => ?_
  exact h.apart hC t0 t1 s0 s1 he hs ts (y := e.a C + x - d.a C) x0 x1 (by omega) (by omega) (by omega)
 have wG : slS (w' (C.slot s)) = (if C.G ≤ d.ge then 3 else 0) ∧ slG (w' (C.slot s)) = (if C.G ≤ d.ge then d.ge else d.ge + 1) := by
  rw [← e1, sl]; unfold Do.nx
  split
  ·exact ⟨(sl_put (by decide) (by decide) (by omega) (by decide)).1, (sl_put (by decide) (by decide) (by omega) (by decide)).2.2.1⟩
  ·exact ⟨(sl_put (by decide) (by decide) (by omega) (by decide)).1, (sl_put (by decide) (by decide) (by omega) (by decide)).2.2.1⟩
 have sml : ∀ j, sumN (prt (updO ob s none) j) C.S.toNat = sumN (prt ob j) C.S.toNat - (if d.j = j then d.rm else 0) := fun j => by
  rw [prt_upd, sumN_upd s0 (by omega)]
  have : prt ob j s = if d.j = j then d.rm else 0 := by unfold prt; rw [hs]
  rw [this]; dsimp only; omega
 have lK : ∀ t e, updO ob s none t = some e → t ≠ s ∧ ob t = some e := fun t e he => by
  by_cases q : t = s
  ·subst q; rw [updO_same] at he; cases he
  ·rw [updO_ne q] at he; exact ⟨q, he⟩
 have oj := o.j
 have smk := sumN_le (f := prt ob d.j) (n := C.S.toNat) (fun _ => prt_nn) s0 (by omega)
 have smj := h.sm _ oj.1 oj.2
 have pk : prt ob d.j s = d.rm := by unfold prt; rw [hs]; simp
 rw [pk] at smk
 have rmk := d.rm0
 refine ⟨⟨aw, ⟨fun j j0 j1 => ?_⟩, fun t t0 t1 => ?_, fun t t0 t1 he => ?_, fun t e t0 t1 he => ?_, fun t u e f t0 t1 u0 u1 he hf htu => ?_, fun j j0 j1 => ?_⟩, fun t e t0 t1 ts he x x0 x1 => ?_⟩
 ·have := h.lv.lv j j0 j1
  show 0 ≤ upd b.lv d.j (b.lv d.j - d.rm) j ∧ upd b.lv d.j (b.lv d.j - d.rm) j ≤ _
  unfold upd; split
  ·rename_i q; rw [q] at this; omega
  ·omega
 ·by_cases e : t = s
  ·subst e; rw [wG.2]; split <;> omega
  ·rw [wS t t0 t1 e]; exact h.gen t t0 t1
 ·by_cases e : t = s
  ·subst e; rw [wG.1]; split
   ·exact .inr rfl
   ·exact .inl rfl
  ·rw [updO_ne e] at he; rw [wS t t0 t1 e]; exact h.no t t0 t1 he
 ·obtain ⟨ts, he'⟩ := lK t e he
  obtain ⟨o', f1, f2, f3⟩ := h.ok t e t0 t1 he'
  have av' := e.av hC o' ⟨_, h.aw⟩
  refine ⟨o'.keep ?_ (by rw [f1]; exact wS t t0 t1 ts) (by have := wW t e t0 t1 ts he' 0 (by omega) (by omega); rwa [Int.add_zero] at this) (Int.le_refl _) ?_, f1, f2, fun x x0 x1 => ?_⟩
  ·have : e.s ∉ d.s :: b.F := by
    simp only [List.mem_cons, not_or]; exact ⟨by rw [f1, e1]; exact ts, o'.sF⟩
   show e.s ∉ (if C.G ≤ d.ge then b.F else d.s :: b.F)
   split
   ·exact o'.sF
   ·exact this
  ·show _ ≤ upd b.lv d.j (b.lv d.j - d.rm) e.j
   unfold upd; split
   ·rename_i q
    have s1' := sumN_le (f := prt (updO ob s none) d.j) (n := C.S.toNat) (fun _ => prt_nn) t0 (by omega)
    rw [sml, if_pos rfl] at s1'
    have : prt (updO ob s none) d.j t = e.rm := by unfold prt; rw [he]; simp [q]
    rw [this] at s1'
    unfold Do.rm at *
    omega
   ·exact o'.lv
  ·rw [show e.a C + 1 + x = e.a C + (1 + x) by omega, wW t e t0 t1 ts he' (1 + x) (by omega) (by omega), show e.a C + (1 + x) = e.a C + 1 + x by omega]
   exact f3 x x0 x1
 ·exact h.ne t u e f t0 t1 u0 u1 (lK t e he).2 (lK u f hf).2 htu
 ·show _ ≤ upd b.lv d.j (b.lv d.j - d.rm) j
  rw [sml]
  have := h.sm j j0 j1
  by_cases q : d.j = j
  ·subst q; rw [upd_same, if_pos rfl]; omega
  ·rw [upd_ne _ _ fun e => q e.symm, if_neg q]; omega
 ·rw [show e.a C + 1 + x = e.a C + (1 + x) by omega]
  exact wW t e t0 t1 ts he (1 + x) (by omega) (by omega)
theorem Wo.lay (hC : C.ok) (h : Wo C b ob M w) {s : Int} {d : Do} (s0 : 0 ≤ s) (s1 : s < C.S) (hs : ob s = some d) {x v : Int} (x0 : 0 ≤ x) (x1 : x < d.z) (hv : 0 ≤ v ∧ v ≤ 1099511627775) :
  Wo C b ob M (upd w (d.a C + 1 + x) (putCell v false 0)) ∧ SameO C ob s w (upd w (d.a C + 1 + x) (putCell v false 0)) := by
 obtain ⟨q0, q1, q2, q3, q4⟩ := h.at' hC s0 s1 hs (x := 1 + x) (by omega) (by omega)
 have ea : d.a C + 1 + x = C.base d.j + (d.i + (1 + x)) := by omega
 have hb := base_ge hC q1.1 q1.2 q2
 have hT := hC.T
 have hS := hC.S
 have wS : ∀ t, 0 ≤ t → t < C.S → upd w (d.a C + 1 + x) (putCell v false 0) (C.slot t) = w (C.slot t) := fun t t0 t1 => upd_ne _ _ (by rw [ea]; unfold Cf.slot; have := hC.C; omega)
 have wW : ∀ t e, 0 ≤ t → t < C.S → t ≠ s → ob t = some e → ∀ y, 0 ≤ y → y ≤ e.z → upd w (d.a C + 1 + x) (putCell v false 0) (e.a C + y) = w (e.a C + y) := fun t e t0 t1 ts he y y0 y1 => by
  refine upd_ne _ _ fun q => h.apart hC t0 t1 s0 s1 he hs ts (y := 1 + x) y0 y1 (by omega) (by omega) (by omega)
 refine ⟨⟨by rw [ea]; exact Aw.word hC h.aw q1.1 q1.2 q2 q3 q4, h.lv, fun t t0 t1 => by rw [wS t t0 t1]; exact h.gen t t0 t1, fun t t0 t1 e => by rw [wS t t0 t1]; exact h.no t t0 t1 e, fun t e t0 t1 he => ?_, h.ne, h.sm⟩, fun t e t0 t1 ts he y y0 y1 => ?_⟩
 ·obtain ⟨o, f1, f2, f3⟩ := h.ok t e t0 t1 he
  have av := e.av hC o ⟨_, h.aw⟩
  by_cases q : t = s
  ·subst q; rw [hs] at he; cases he
   refine ⟨o.keep o.sF (by rw [f1]; exact wS t t0 t1) (upd_ne _ _ (by omega)) (Int.le_refl _) o.lv, f1, f2, fun y y0 y1 => ?_⟩
   by_cases e : y = x
   ·subst e; rw [upd_same]; exact (ce_put (f := false) (n := 0) hv (by decide)).2.1
   ·rw [upd_ne _ _ (by omega)]; exact f3 y y0 y1
  ·refine ⟨o.keep o.sF (by rw [f1]; exact wS t t0 t1) (by have := wW t e t0 t1 q he 0 (by omega) (by omega); rwa [Int.add_zero] at this) (Int.le_refl _) o.lv, f1, f2, fun y y0 y1 => ?_⟩
   rw [show e.a C + 1 + y = e.a C + (1 + y) by omega, wW t e t0 t1 q he (1 + y) (by omega) (by omega), show e.a C + (1 + y) = e.a C + 1 + y by omega]
   exact f3 y y0 y1
 ·rw [show e.a C + 1 + y = e.a C + (1 + y) by omega]
  exact wW t e t0 t1 ts he (1 + y) (by omega) (by omega)
def Hit (C : Cf) (ob : Int → Option Do) (n : Int) (own : Bool) (s : Int) (d : Do) : Prop := (0 ≤ s ∧ s < C.S) ∧ ob s = some d ∧ d.n = n ∧ d.own = own
theorem Wo.miss (hC : C.ok) (h : Wo C b ob M w) {n : Int} {own : Bool} (n0 : 0 ≤ n ∧ n < 18446744073709551616) (hm : ∀ s d, ¬ Hit C ob n own s d) : NoDrop C w n own := by
 by_cases h1 : hdOk n = true
 ·have hb := hdSl_bd n0.1
  by_cases h2 : hdSl n < C.S
  ·refine .inr ⟨⟨h1, h2⟩, ?_⟩
   cases e : ob (hdSl n) with
   | none =>
    refine .inl fun hl => ?_
    have h5 := h.no _ hb.1.1 h2 e
    have h6 := hl.1
    omega
   | some d =>
    obtain ⟨o, e1, e2, e3⟩ := h.ok _ d hb.1.1 h2 e
    by_cases g : d.ge = hdGe n
    ·have dn : d.n = n := by
      have q1 := o.hok
      have q2 : hdSl d.n = hdSl n := e1
      have q3 : hdGe d.n = hdGe n := g
      have q4 := o.n
      unfold hdSl at q2
      unfold hdGe at q3
      rw [q1, h1] at q2 q3
      simp only [if_true] at q2 q3
      omega
     have av := d.av hC o ⟨_, h.aw⟩
     have ews : w (C.slot (hdSl n)) = d.ws := by rw [← e1]; exact o.ws
     refine .inr ⟨⟨by rw [ews, e2]; exact .inl rfl, by rw [ews, o.sg]; exact g⟩, by rw [ews, o.sa]; omega, ?_⟩
     rw [ews, o.sa, o.hd.2]
     exact fun q => hm (hdSl n) d ⟨⟨hb.1.1, h2⟩, e, dn, q⟩
    ·refine .inl fun hl => g ?_
     have ews : w (C.slot (hdSl n)) = d.ws := by rw [← e1]; exact o.ws
     have := hl.2
     rw [ews, o.sg] at this; exact this
  ·exact .inl (.inr (by omega))
 ·exact .inl (.inl (by simpa using h1))
theorem Wo.ol (hC : C.ok) (h : Wo C b ob M w) {n s : Int} {own : Bool} {d : Do} (hh : Hit C ob n own s d) : Ol C w n own d.z (d.a C) := by
 obtain ⟨⟨s0, s1⟩, hs, rfl, rfl⟩ := hh
 obtain ⟨o, e1, e2, e3⟩ := h.ok s d s0 s1 hs
 have av := d.av hC o ⟨_, h.aw⟩
 have es : hdSl d.n = d.s := rfl
 refine ⟨o.n, o.hok, by rw [es]; exact o.s.2, by rw [es, o.ws]; exact e2, by rw [es, o.ws]; exact o.sa, by rw [es, o.ws]; exact o.sg, ⟨o.hd.2, o.hd.1⟩, ⟨av.1.2.2.2, av.1.2.1⟩, av.2.1, e3⟩
theorem Frsh.wo (hC : C.ok) (h : Frsh N C A) : Wo C (Bg.fr C) (fun _ => none) 0 A.w := by
 have hw0 : ∀ s, 0 ≤ s → s < C.S → A.w (C.slot s) = putSlot 0 0 1 0 := by
  intro s s0 s1
  rw [h.w]
  have hT := hC.T
  unfold Cf.w0 Cf.fr
  rw [if_neg (by unfold Cf.slot; omega), if_neg (by unfold Cf.slot; omega), if_pos (by unfold Cf.slot; omega), if_pos (by unfold Cf.slot; omega)]
 have hG := hC.G
 refine ⟨h.aw hC, fr_lv, fun s s0 s1 => ?_, fun s s0 s1 _ => ?_, fun s d _ _ e => (by cases e), fun s t d e _ _ _ _ hd => (by cases hd), fun j j0 j1 => ?_⟩
 ·rw [hw0 s s0 s1, (sl_put (by decide) (by decide) (by decide) (by decide)).2.2.1]; omega
 ·rw [hw0 s s0 s1, (sl_put (by decide) (by decide) (by decide) (by decide)).1]; exact .inl rfl
 ·have : ∀ n, sumN (prt (fun _ => none) j) n = 0 := by
   intro n
   induction n with
   | zero => rfl
   | succ n ih => show sumN _ n + prt (fun _ => none) j n = 0; rw [ih]; rfl
  rw [this]; exact Int.le_refl _
end
end Go.Fl
namespace Go.Fl
open Go
set_option linter.unusedVariables false
set_option linter.unusedSimpArgs false
variable {N : Nm} {A B : Ar} {σ : Mem} {K : Value → Mem → Prop} {C : Cf} {who : Int}
def okAct (k v old : Int) : Prop := (1 ≤ k ∧ k ≤ 5) ∧ (0 ≤ v ∧ v ≤ 1099511627775) ∧ (0 ≤ old ∧ old ≤ 1099511627775)
instance {k v old : Int} : Decidable (okAct k v old) := inferInstanceAs (Decidable (_ ∧ _))
theorem box7 {k sz h ix v old : Int} {own : Bool} : gBox 7 [.agg #[.int .i64 k, .int .i64 sz, .int .u64 h, .int .i64 ix, .int .i64 v, .int .i64 old, .bool own]] [] = some [.int .i64 k, .int .i64 sz, .int .u64 h, .int .i64 ix, .int .i64 v, .int .i64 old, .bool own] := nr rfl
theorem sub7 {a b c d e f g : Value} : sub [a, b, c, d, e, f, g] 0 7 true = some (.agg #[a, b, c, d, e, f, g]) := nr rfl
theorem c_ActCheck {k sz h ix v old : Int} {own : Bool} : s_aj [.agg #[.int .i64 k, .int .i64 sz, .int .u64 h, .int .i64 ix, .int .i64 v, .int .i64 old, .bool own]] K σ = K (.bool (decide (okAct k v old))) σ := by
 have fin : ∀ b : Bool, (b = true ↔ (0 ≤ v ∧ v ≤ 1099511627775) ∧ (0 ≤ old ∧ old ≤ 1099511627775)) → w_aj_j1 K [.bool b] [[.int .i64 k, .int .i64 sz, .int .u64 h, .int .i64 ix, .int .i64 v, .int .i64 old, .bool own]] σ = K (.bool (decide (okAct k v old))) σ := by
  intro b hb
  simp only [w_aj_j1, w_aj_j1b, ruS, ruL, ruE, Nat.reduceAdd, reduceIte, Int.reduceLT, Int.reduceLE, Int.reduceEq, Int.reduceNeg, Int.reduceAdd, Int.reduceSub, Nat.reduceLeDiff, Nat.reduceLT]
  have key : (decide (okAct k v old)) = (decide (1 ≤ k) && decide (k ≤ 5) && b) := by
   rw [Bool.eq_iff_iff]
   simp only [Bool.and_eq_true, decide_eq_true_eq, hb]
   unfold okAct
   exact Iff.rfl
  rw [key]
  by_cases c1 : 1 ≤ k
  ·by_cases c2 : k ≤ 5
   ·simp only [c1, c2, ruS, ruL, ruE, Nat.reduceAdd, reduceIte, Int.reduceLT, Int.reduceLE, Int.reduceEq, Int.reduceNeg, Int.reduceAdd, Int.reduceSub, Nat.reduceLeDiff, Nat.reduceLT]; simp
   ·simp only [c1, c2, ruS, ruL, ruE, Nat.reduceAdd, reduceIte, Int.reduceLT, Int.reduceLE, Int.reduceEq, Int.reduceNeg, Int.reduceAdd, Int.reduceSub, Nat.reduceLeDiff, Nat.reduceLT]; simp
  ·simp only [c1, ruS, ruL, ruE, Nat.reduceAdd, reduceIte, Int.reduceLT, Int.reduceLE, Int.reduceEq, Int.reduceNeg, Int.reduceAdd, Int.reduceSub, Nat.reduceLeDiff, Nat.reduceLT]; simp
 simp only [s_aj, w_aj, box7, ruS, ruL, ruE, Nat.reduceAdd, reduceIte, Int.reduceLT, Int.reduceLE, Int.reduceEq, Int.reduceNeg, Int.reduceAdd, Int.reduceSub, Nat.reduceLeDiff, Nat.reduceLT]
 by_cases c1 : 0 ≤ v
 ·by_cases c2 : v ≤ 1099511627775
  ·by_cases c3 : 0 ≤ old
   ·by_cases c4 : old ≤ 1099511627775
    ·simp only [c1, c2, c3, c4, ruS, ruL, ruE, Nat.reduceAdd, reduceIte, Int.reduceLT, Int.reduceLE, Int.reduceEq, Int.reduceNeg, Int.reduceAdd, Int.reduceSub, Nat.reduceLeDiff, Nat.reduceLT]; exact fin true (by simp [c1, c2, c3, c4])
    ·simp only [c1, c2, c3, c4, ruS, ruL, ruE, Nat.reduceAdd, reduceIte, Int.reduceLT, Int.reduceLE, Int.reduceEq, Int.reduceNeg, Int.reduceAdd, Int.reduceSub, Nat.reduceLeDiff, Nat.reduceLT]; exact fin false (by simp [c4])
   ·simp only [c1, c2, c3, ruS, ruL, ruE, Nat.reduceAdd, reduceIte, Int.reduceLT, Int.reduceLE, Int.reduceEq, Int.reduceNeg, Int.reduceAdd, Int.reduceSub, Nat.reduceLeDiff, Nat.reduceLT]; exact fin false (by simp [c3])
  ·simp only [c1, c2, ruS, ruL, ruE, Nat.reduceAdd, reduceIte, Int.reduceLT, Int.reduceLE, Int.reduceEq, Int.reduceNeg, Int.reduceAdd, Int.reduceSub, Nat.reduceLeDiff, Nat.reduceLT]; exact fin false (by simp [c2])
 ·simp only [c1, ruS, ruL, ruE, Nat.reduceAdd, reduceIte, Int.reduceLT, Int.reduceLE, Int.reduceEq, Int.reduceNeg, Int.reduceAdd, Int.reduceSub, Nat.reduceLeDiff, Nat.reduceLT]; exact fin false (by simp [c1])
theorem c_awake15 : s_a8 [] K σ = K (.bool true) σ := by unfold s_a8; exact nr rfl
end Go.Fl
namespace Go.Fl
open Go
set_option linter.unusedVariables false
set_option linter.unusedSimpArgs false
variable {N : Nm} {A B : Ar} {σ : Mem} {K : Value → Mem → Prop} {C : Cf} {who : Int}
inductive Wk where
 | al (m : Am)
 | dr (m : Dm)
 | ac (m : Ak)
def Wk.ty : Wk → Nat
 | .al _ => 83
 | .dr _ => 85
 | .ac _ => 87
def Wk.step (C : Cf) (who : Int) (A : Ar) : Wk → Bool × Wk × Ar
 | .al m => ((m.step C who A).1, .al (m.step C who A).2.1, (m.step C who A).2.2)
 | .dr m => ((m.step C who A).1, .dr (m.step C who A).2.1, (m.step C who A).2.2)
 | .ac m => ((m.step C who A).1, .ac (m.step C who A).2.1, (m.step C who A).2.2)
def Wk.fit (C : Cf) (A : Ar) : Wk → Prop
 | .al m => m.fit C A
 | .dr m => m.fit C A
 | .ac m => m.fit C A
def Wk.ob (N : Nm) (q : Nat) (O : List Nat) (τ : Mem) : Wk → Prop
 | .al m => Ob N q O m τ
 | .dr m => DOb N q O m τ
 | .ac m => AOb N q O m τ
def Wk.oE : Wk → Int
 | .al m => m.a.oE
 | .dr m => m.d.oE
 | .ac m => m.a.oE
def Wk.oH : Wk → Int
 | .al m => m.a.oH
 | .dr m => m.d.oH
 | .ac m => m.a.oH
def Wk.oV : Wk → Int
 | .al m => m.a.oV
 | .dr m => m.d.oV
 | .ac m => m.a.oV
def Wk.oS : Wk → Int
 | .al m => m.a.oS
 | .dr m => m.d.oS
 | .ac m => m.a.oS
theorem Wk.ty_step {k : Wk} : (k.step C who A).2.1.ty = k.ty := by cases k <;> rfl
theorem c_WkStep (hN : N.ok) (hC : C.ok) (hA : isA N A σ) {q : Nat} {O : List Nat} {k : Wk} (hO : k.ob N q O σ) (hw : ∀ i, 0 ≤ A.w i ∧ A.w i < 18446744073709551616) (hn : C.len ≤ A.n) (hf : k.fit C A)
  (hk : ∀ O' τ, (∀ i ∈ O', i ∈ O ∨ σ.get i = none) → isA N (k.step C who A).2.2 τ → (k.step C who A).2.1.ob N q O' τ → Keep (O ++ N.l) σ τ → K (.bool (k.step C who A).1) τ) :
  hInv [(83, s_an), (85, s_as), (87, s_ab)] [.iface k.ty (.pointer (some ⟨q, 0, none⟩)), N.env C who] K σ := by
 cases k with
 | al m => exact c_Alloc_Step hN hC hA hO hw hn hf hk
 | dr m => exact c_Drop_Step hN hC hA hO hw hn hf hk
 | ac m => exact c_Acc_Step hN hC hA hO hw hn hf hk
theorem c_WkDone (hA : isA N A σ) {q : Nat} {O : List Nat} {k : Wk} (hO : k.ob N q O σ) (hk : K (.agg #[.int .i64 k.oE, .int .u64 k.oH, .int .i64 k.oV, .int .i64 k.oS]) σ) :
  hInv [(83, s_am), (85, s_ar), (87, s_aa)] [.iface k.ty (.pointer (some ⟨q, 0, none⟩))] K σ := by
 cases k with
 | al m => exact Ob.done hA hO hk
 | dr m => exact DOb.done hA hO hk
 | ac m => exact AOb.done hA hO hk
structure Aa where
 ip : Int
 ep : Int
 pc : Int
 wk : Wk
 oE : Int
 oH : Int
 oV : Int
 oS : Int
def Aa.l (a : Aa) (q : Nat) : List Value := [.int .i64 a.ip, .int .u64 a.ep, .int .i64 a.pc, .iface a.wk.ty (.pointer (some ⟨q, 0, none⟩)), .int .i64 a.oE, .int .u64 a.oH, .int .i64 a.oV, .int .i64 a.oS]
def Aa.new (k : Wk) : Aa := ⟨0, 0, 0, k, 0, 0, 0, 0⟩
def Aa.step (C : Cf) (who : Int) (A : Ar) (a : Aa) : Bool × Aa × Ar :=
 if a.pc = 0 then
  if a.ip = 0 then (false, { a with ip := 1, ep := A.w 0 }, (A.by who).load 0)
  else if a.ip = 1 then (false, { a with ip := 2 }, (A.by who).store (6 + who) (IntKind.u64.wrap (a.ep + 1)))
  else if A.w 0 = a.ep then (false, { a with pc := 1 }, (A.by who).load 0)
  else (false, { a with ip := 1, ep := A.w 0 }, (A.by who).load 0)
 else if a.pc = 1 then
  if (a.wk.step C who A).1 = true then (false, { a with wk := (a.wk.step C who A).2.1, oE := (a.wk.step C who A).2.1.oE, oH := (a.wk.step C who A).2.1.oH, oV := (a.wk.step C who A).2.1.oV, oS := (a.wk.step C who A).2.1.oS, pc := 2 }, (a.wk.step C who A).2.2)
  else (false, { a with wk := (a.wk.step C who A).2.1 }, (a.wk.step C who A).2.2)
 else (true, a, (A.by who).store (6 + who) 0)
theorem ldAa {p q k sz : Nat} {ag : Bool} {a : Aa} {v : Value} (hd : p ∉ N.l) (h : sub (a.l q) k sz ag = some v) : hLoad sz ag [.pointer (some ⟨p, k, none⟩)] K (putA N A (σ.set p ⟨a.l q, true⟩)) = K v (putA N A (σ.set p ⟨a.l q, true⟩)) := by
 rw [hLoad_eq ((putA_get hd).trans (Mem.get_set_same _ _ _)), h, xOs]
theorem stAa {p q k : Nat} {a : Aa} (a' : Aa) {x : Value} (hd : p ∉ N.l) (hx : cellsOf x 1 = some [x]) (ho : oneB x = true) (hk : k + 1 ≤ 8) (e : lay (a.l q) k [x] = a'.l q) :
  hStore 1 [.pointer (some ⟨p, k, none⟩), x] K (putA N A (σ.set p ⟨a.l q, true⟩)) = K undef (putA N A (σ.set p ⟨a'.l q, true⟩)) := by
 have := stO (K := K) (N := N) (A := A) (σ := σ) (p := p) (pre := []) (L := a.l q) (post := []) (k := k) (sz := 1) (x := x) (c := [x]) hd hx rfl hk (by simp [ho])
 rw [e] at this
 simpa only [List.nil_append, List.append_nil, List.length_nil, Nat.zero_add] using this
theorem stAaa {p q k sz : Nat} {a : Aa} (a' : Aa) {c : List Value} (hd : p ∉ N.l) (hl : c.length = sz) (ho : c.all oneB = true) (hk : k + sz ≤ 8) (e : lay (a.l q) k c = a'.l q) :
  hStore sz [.pointer (some ⟨p, k, none⟩), .agg c.toArray] K (putA N A (σ.set p ⟨a.l q, true⟩)) = K undef (putA N A (σ.set p ⟨a'.l q, true⟩)) := by
 have := stOa (K := K) (N := N) (A := A) (σ := σ) (p := p) (pre := []) (L := a.l q) (post := []) (k := k) (sz := sz) (c := c) hd hl hk ho
 rw [e] at this
 simpa only [List.nil_append, List.append_nil, List.length_nil, Nat.zero_add] using this
theorem stA4 {p q : Nat} {a : Aa} {e h v s : Int} (a' : Aa) (hd : p ∉ N.l) (e' : lay (a.l q) 4 [.int .i64 e, .int .u64 h, .int .i64 v, .int .i64 s] = a'.l q) :
  hStore 4 [.pointer (some ⟨p, 4, none⟩), .agg #[.int .i64 e, .int .u64 h, .int .i64 v, .int .i64 s]] K (putA N A (σ.set p ⟨a.l q, true⟩)) = K undef (putA N A (σ.set p ⟨a'.l q, true⟩)) :=
 stAaa (sz := 4) (k := 4) (c := [.int .i64 e, .int .u64 h, .int .i64 v, .int .i64 s]) a' hd rfl rfl (by decide) e'
theorem box9 {c : Cf} : gBox 9 [N.env c who] [] = some (N.el c who) := nr rfl
theorem c_InStep (hN : N.ok) (hC : C.ok) {p q : Nat} {a : Aa} (hd : p ∉ N.l) (hn : C.len ≤ A.n) (hw : 0 ≤ who ∧ who < C.T) (hip : a.ip = 0 ∨ a.ip = 1 ∨ a.ip = 2) :
  s_b4 [.pointer (some ⟨p, 0, none⟩), N.env C who] K (putA N A (σ.set p ⟨a.l q, true⟩)) =
   (if a.ip = 0 then K (.bool false) (putA N ((A.by who).load 0) (σ.set p ⟨({ a with ip := 1, ep := A.w 0 } : Aa).l q, true⟩))
   else if a.ip = 1 then K (.bool false) (putA N ((A.by who).store (6 + who) (IntKind.u64.wrap (a.ep + 1))) (σ.set p ⟨({ a with ip := 2 } : Aa).l q, true⟩))
   else if A.w 0 = a.ep then K (.bool true) (putA N ((A.by who).load 0) (σ.set p ⟨a.l q, true⟩))
   else K (.bool false) (putA N ((A.by who).load 0) (σ.set p ⟨({ a with ip := 1, ep := A.w 0 } : Aa).l q, true⟩))) := by
 have hT := hC.T; have hS := hC.S; have hC3 := hC.C; have hl := len_bd hC
 have hch : C.chunk C.C = 6 + C.T + 2 * C.S + 3 * C.C := rfl
 have e8 : sub (N.el C who) 8 1 false = some (.int .i64 who) := rfl
 simp only [s_b4, w_b4, box9, ldAa (K := _) hd (show sub (a.l q) 0 1 false = some (.int .i64 a.ip) from rfl), ruS, ruL, ruE, Nat.reduceAdd, reduceIte, Int.reduceLT, Int.reduceLE, Int.reduceEq, Int.reduceNeg, Int.reduceAdd, Int.reduceSub, Nat.reduceLeDiff, Nat.reduceLT]
 rcases hip with h | h | h
 ·simp only [h, ruS, ruL, ruE, Nat.reduceAdd, reduceIte, Int.reduceLT, Int.reduceLE, Int.reduceEq, Int.reduceNeg, Int.reduceAdd, Int.reduceSub, Nat.reduceLeDiff, Nat.reduceLT]
  rw [c_Epoch, c_Load hN (by decide) (by omega)]
  rw [stAa ({ a with ep := A.w 0 } : Aa) hd rfl rfl (by decide) rfl]
  rw [stAa ({ a with ip := 1, ep := A.w 0 } : Aa) hd rfl rfl (by decide) rfl]
  simp only [w_b4_j1, w_b4_j1b, ruS, ruL, ruE, Nat.reduceAdd, reduceIte, Int.reduceLT, Int.reduceLE, Int.reduceEq, Int.reduceNeg, Int.reduceAdd, Int.reduceSub, Nat.reduceLeDiff, Nat.reduceLT]
 ·simp only [h, e8, ruS, ruL, ruE, Nat.reduceAdd, reduceIte, Int.reduceLT, Int.reduceLE, Int.reduceEq, Int.reduceNeg, Int.reduceAdd, Int.reduceSub, Nat.reduceLeDiff, Nat.reduceLT]
  rw [c_Pin hw.1 (by omega)]
  rw [ldAa hd (show sub (a.l q) 1 1 false = some (.int .u64 a.ep) from rfl)]
  simp only [ruS, ruL, ruE, Nat.reduceAdd, reduceIte, Int.reduceLT, Int.reduceLE, Int.reduceEq, Int.reduceNeg, Int.reduceAdd, Int.reduceSub, Nat.reduceLeDiff, Nat.reduceLT]
  rw [c_Store hN (by omega) (by omega)]
  rw [stAa ({ a with ip := 2 } : Aa) hd rfl rfl (by decide) rfl]
  simp only [w_b4_j1, w_b4_j1b, ruS, ruL, ruE, Nat.reduceAdd, reduceIte, Int.reduceLT, Int.reduceLE, Int.reduceEq, Int.reduceNeg, Int.reduceAdd, Int.reduceSub, Nat.reduceLeDiff, Nat.reduceLT]
 ·simp only [h, ruS, ruL, ruE, Nat.reduceAdd, reduceIte, Int.reduceLT, Int.reduceLE, Int.reduceEq, Int.reduceNeg, Int.reduceAdd, Int.reduceSub, Nat.reduceLeDiff, Nat.reduceLT]
  rw [c_Epoch, c_Load hN (by decide) (by omega)]
  rw [ldAa hd (show sub (a.l q) 1 1 false = some (.int .u64 a.ep) from rfl)]
  by_cases c : A.w 0 = a.ep
  ·simp only [c, ruS, ruL, ruE, Nat.reduceAdd, reduceIte, Int.reduceLT, Int.reduceLE, Int.reduceEq, Int.reduceNeg, Int.reduceAdd, Int.reduceSub, Nat.reduceLeDiff, Nat.reduceLT]
  ·simp only [c, ruS, ruL, ruE, Nat.reduceAdd, reduceIte, Int.reduceLT, Int.reduceLE, Int.reduceEq, Int.reduceNeg, Int.reduceAdd, Int.reduceSub, Nat.reduceLeDiff, Nat.reduceLT]
   rw [stAa ({ a with ep := A.w 0 } : Aa) hd rfl rfl (by decide) rfl]
   rw [stAa ({ a with ip := 1, ep := A.w 0 } : Aa) hd rfl rfl (by decide) rfl]
   simp only [w_b4_j1, w_b4_j1b, ruS, ruL, ruE, Nat.reduceAdd, reduceIte, Int.reduceLT, Int.reduceLE, Int.reduceEq, Int.reduceNeg, Int.reduceAdd, Int.reduceSub, Nat.reduceLeDiff, Nat.reduceLT]
structure TOb (N : Nm) (p : Nat) (O : List Nat) (a : Aa) (τ : Mem) : Prop where
 obj : ∃ q, τ.get p = some ⟨a.l q, true⟩ ∧ a.wk.ob N q O τ
 po : p ∉ O
 pn : p ∉ N.l
theorem Ob.keep {p : Nat} {O L : List Nat} {m : Am} {τ : Mem} (h : Ob N p O m σ) (x : Keep L σ τ) (hL : ∀ i ∈ O, i ∉ L) : Ob N p O m τ := by
 obtain ⟨⟨a, b, h1, h2, h3⟩, h4, h5⟩ := h
 refine ⟨⟨a, b, x.get h1 (hL p h5), fun e => ?_, fun e => ?_⟩, h4, h5⟩
 ·obtain ⟨q, q1, q2, q3, q4⟩ := h2 e; exact ⟨q, q1, q2, q3, x.get q4 (hL q q2)⟩
 ·obtain ⟨q, q1, q2, q3, q4⟩ := h3 e; exact ⟨q, q1, q2, q3, x.get q4 (hL q q2)⟩
theorem DOb.keep {p : Nat} {O L : List Nat} {m : Dm} {τ : Mem} (h : DOb N p O m σ) (x : Keep L σ τ) (hL : ∀ i ∈ O, i ∉ L) : DOb N p O m τ := by
 obtain ⟨⟨a, b, h1, h2, h3⟩, h4, h5⟩ := h
 refine ⟨⟨a, b, x.get h1 (hL p h5), fun e => ?_, fun e => ?_⟩, h4, h5⟩
 ·obtain ⟨q, q1, q2, q3, q4⟩ := h2 e; exact ⟨q, q1, q2, q3, x.get q4 (hL q q2)⟩
 ·obtain ⟨q, q1, q2, q3, q4⟩ := h3 e; exact ⟨q, q1, q2, q3, x.get q4 (hL q q2)⟩
theorem Wk.ob_own {q : Nat} {O : List Nat} {k : Wk} (h : k.ob N q O σ) : ∀ i ∈ O, i ∉ N.l := by cases k <;> exact h.own
theorem Wk.ob_keep {q : Nat} {O L : List Nat} {k : Wk} {τ : Mem} (h : k.ob N q O σ) (x : Keep L σ τ) (hL : ∀ i ∈ O, i ∉ L) : k.ob N q O τ := by
 cases k with
 | al m => exact Ob.keep h x hL
 | dr m => exact DOb.keep h x hL
 | ac m => exact AOb.keep h x hL
theorem c_ActStep (hN : N.ok) (hC : C.ok) (hA : isA N A σ) {p : Nat} {O : List Nat} {a : Aa} (hO : TOb N p O a σ) (hw : ∀ i, 0 ≤ A.w i ∧ A.w i < 18446744073709551616) (hn : C.len ≤ A.n) (hwho : 0 ≤ who ∧ who < C.T) (hip : a.ip = 0 ∨ a.ip = 1 ∨ a.ip = 2) (hpc : a.pc = 0 ∨ a.pc = 1 ∨ a.pc = 2) (hf : a.pc = 1 → a.wk.fit C A)
  (hk : ∀ O' τ, (∀ i ∈ O', i ∈ O ∨ σ.get i = none) → isA N (a.step C who A).2.2 τ → TOb N p O' (a.step C who A).2.1 τ → Keep (p :: (O ++ N.l)) σ τ → K (.bool (a.step C who A).1) τ) : s_ai [.pointer (some ⟨p, 0, none⟩), N.env C who] K σ := by
 obtain ⟨⟨q, gp, wo⟩, pO, hd⟩ := hO
 have hT := hC.T; have hS := hC.S; have hC3 := hC.C; have hl := len_bd hC
 have hch : C.chunk C.C = 6 + C.T + 2 * C.S + 3 * C.C := rfl
 have own := Wk.ob_own wo
 have dj : ∀ i ∈ O, i ∉ p :: N.l := fun i hi => by
  simp only [List.mem_cons, not_or]; exact ⟨fun e => pO (e ▸ hi), own i hi⟩
 have kk : ∀ {τ : Mem}, Keep (p :: N.l) σ τ → Keep (p :: (O ++ N.l)) σ τ := fun k => k.mono fun i hi => by
  rcases List.mem_cons.1 hi with rfl | hi
  ·exact List.mem_cons_self ..
  ·exact List.mem_cons_of_mem _ (List.mem_append_right _ hi)
 have e8 : sub (N.el C who) 8 1 false = some (.int .i64 who) := rfl
 have bO : ∀ K : Value → Prop, xF (fBuild [] [] []) [] K = K (.agg #[]) := fun K => nr rfl
 rcases hpc with h | h | h
 · -- pinning
  unfold Aa.step at hk
  rw [if_pos h] at hk
  rw [hA.obj gp]
  simp only [s_ai, w_ai, box9, ldAa (K := _) hd (show sub (a.l q) 2 1 false = some (.int .i64 a.pc) from rfl), h, ruS, ruL, ruE, Nat.reduceAdd, reduceIte, Int.reduceLT, Int.reduceLE, Int.reduceEq, Int.reduceNeg, Int.reduceAdd, Int.reduceSub, Nat.reduceLeDiff, Nat.reduceLT]
  rw [c_InStep hN hC hd hn hwho hip]
  have done : ∀ {A' : Ar} {a' : Aa}, a'.wk = a.wk → (∀ τ, isA N A' τ → TOb N p O a' τ → Keep (p :: (O ++ N.l)) σ τ → K (.bool false) τ) → K (.bool false) (putA N A' (σ.set p ⟨a'.l q, true⟩)) := fun {A' a'} e hk =>
   behind hN hd fun τ h1 h2 h3 => hk τ h1 ⟨⟨q, h2, by rw [e]; exact Wk.ob_keep wo h3 dj⟩, pO, hd⟩ (kk h3)
  by_cases c0 : a.ip = 0
  ·rw [if_pos c0] at hk ⊢
   simp only [w_ai_j1, w_ai_j1b, ruS, ruL, ruE, Nat.reduceAdd, reduceIte, Int.reduceLT, Int.reduceLE, Int.reduceEq, Int.reduceNeg, Int.reduceAdd, Int.reduceSub, Nat.reduceLeDiff, Nat.reduceLT]
   exact done rfl fun τ h1 h2 h3 => hk O τ (fun i hi => .inl hi) h1 h2 h3
  ·rw [if_neg c0] at hk ⊢
   by_cases c1 : a.ip = 1
   ·rw [if_pos c1] at hk ⊢
    simp only [w_ai_j1, w_ai_j1b, ruS, ruL, ruE, Nat.reduceAdd, reduceIte, Int.reduceLT, Int.reduceLE, Int.reduceEq, Int.reduceNeg, Int.reduceAdd, Int.reduceSub, Nat.reduceLeDiff, Nat.reduceLT]
    exact done rfl fun τ h1 h2 h3 => hk O τ (fun i hi => .inl hi) h1 h2 h3
   ·rw [if_neg c1] at hk ⊢
    by_cases c2 : A.w 0 = a.ep
    ·rw [if_pos c2] at hk ⊢
     simp only [ruS, ruL, ruE, Nat.reduceAdd, reduceIte, Int.reduceLT, Int.reduceLE, Int.reduceEq, Int.reduceNeg, Int.reduceAdd, Int.reduceSub, Nat.reduceLeDiff, Nat.reduceLT]
     rw [stAa ({ a with pc := 1 } : Aa) hd rfl rfl (by decide) rfl]
     simp only [w_ai_j1, w_ai_j1b, ruS, ruL, ruE, Nat.reduceAdd, reduceIte, Int.reduceLT, Int.reduceLE, Int.reduceEq, Int.reduceNeg, Int.reduceAdd, Int.reduceSub, Nat.reduceLeDiff, Nat.reduceLT]
     exact done rfl fun τ h1 h2 h3 => hk O τ (fun i hi => .inl hi) h1 h2 h3
    ·rw [if_neg c2] at hk ⊢
     simp only [w_ai_j1, w_ai_j1b, ruS, ruL, ruE, Nat.reduceAdd, reduceIte, Int.reduceLT, Int.reduceLE, Int.reduceEq, Int.reduceNeg, Int.reduceAdd, Int.reduceSub, Nat.reduceLeDiff, Nat.reduceLT]
     exact done rfl fun τ h1 h2 h3 => hk O τ (fun i hi => .inl hi) h1 h2 h3
 · -- doing
  unfold Aa.step at hk
  rw [if_neg (by omega), if_pos h] at hk
  simp only [s_ai, w_ai, box9, ldG gp (show sub (a.l q) 2 1 false = some (.int .i64 a.pc) from rfl), ldG gp (show sub (a.l q) 3 1 false = some (.iface a.wk.ty (.pointer (some ⟨q, 0, none⟩))) from rfl), h, ruS, ruL, ruE, Nat.reduceAdd, reduceIte, Int.reduceLT, Int.reduceLE, Int.reduceEq, Int.reduceNeg, Int.reduceAdd, Int.reduceSub, Nat.reduceLeDiff, Nat.reduceLT]
  refine c_WkStep hN hC hA wo hw hn (hf h) fun O' τ1 hO' hA1 hO1 hK1 => ?_
  have gp1 : τ1.get p = some ⟨a.l q, true⟩ := hK1.get gp (by simp only [List.mem_append, not_or]; exact ⟨pO, hd⟩)
  have pO' : p ∉ O' := fun hp => by
   rcases hO' p hp with y | y
   ·exact pO y
   ·rw [gp] at y; cases y
  have ety : (a.wk.step C who A).2.1.ty = a.wk.ty := Wk.ty_step
  have k1 : Keep (p :: (O ++ N.l)) σ τ1 := hK1.mono fun i hi => List.mem_cons_of_mem _ hi
  have own1 := Wk.ob_own hO1
  generalize a.wk.step C who A = r at *
  obtain ⟨d, k', A'⟩ := r
  dsimp only at *
  have gp2 : τ1.get p = some ⟨({ a with wk := k' } : Aa).l q, true⟩ := by rw [gp1]; unfold Aa.l; dsimp only; rw [ety]
  cases d with
  | false =>
   rw [if_neg (by decide)] at hk
   simp only [w_ai_j1, w_ai_j1b, ruS, ruL, ruE, Nat.reduceAdd, reduceIte, Int.reduceLT, Int.reduceLE, Int.reduceEq, Int.reduceNeg, Int.reduceAdd, Int.reduceSub, Nat.reduceLeDiff, Nat.reduceLT]
   exact hk O' τ1 hO' hA1 ⟨⟨q, gp2, hO1⟩, pO', hd⟩ k1
  | true =>
   rw [if_pos rfl] at hk
   simp only [ldG gp1 (show sub (a.l q) 3 1 false = some (.iface a.wk.ty (.pointer (some ⟨q, 0, none⟩))) from rfl), ruS, ruL, ruE, Nat.reduceAdd, reduceIte, Int.reduceLT, Int.reduceLE, Int.reduceEq, Int.reduceNeg, Int.reduceAdd, Int.reduceSub, Nat.reduceLeDiff, Nat.reduceLT]
   rw [← ety]
   refine c_WkDone hA1 hO1 ?_
   rw [hA1.obj gp2]
   rw [stA4 (a := { a with wk := k' }) (e := k'.oE) (h := k'.oH) (v := k'.oV) (s := k'.oS) ({ a with wk := k', oE := k'.oE, oH := k'.oH, oV := k'.oV, oS := k'.oS } : Aa) hd rfl]
   rw [stAa ({ a with wk := k', oE := k'.oE, oH := k'.oH, oV := k'.oV, oS := k'.oS, pc := 2 } : Aa) hd rfl rfl (by decide) rfl]
   simp only [w_ai_j1, w_ai_j1b, ruS, ruL, ruE, Nat.reduceAdd, reduceIte, Int.reduceLT, Int.reduceLE, Int.reduceEq, Int.reduceNeg, Int.reduceAdd, Int.reduceSub, Nat.reduceLeDiff, Nat.reduceLT]
   refine behind hN hd fun τ h1 h2 h3 => hk O' τ hO' h1 ⟨⟨q, h2, Wk.ob_keep hO1 h3 fun i hi => ?_⟩, pO', hd⟩ fun i b hi hn => ?_
   ·simp only [List.mem_cons, not_or]; exact ⟨fun e => pO' (e ▸ hi), own1 i hi⟩
   ·refine h3 i b (k1 i b hi hn) fun hm => hn ?_
    rcases List.mem_cons.1 hm with rfl | hm
    ·exact List.mem_cons_self ..
    ·exact List.mem_cons_of_mem _ (List.mem_append_right _ hm)
 · -- letting go
  unfold Aa.step at hk
  rw [if_neg (by omega), if_neg (by omega)] at hk
  have bx0 : gBox 0 [.agg #[]] [] = some [] := rfl
  rw [hA.obj gp]
  simp only [s_ai, w_ai, box9, ldAa (K := _) hd (show sub (a.l q) 2 1 false = some (.int .i64 a.pc) from rfl), h, bO, s_b5, w_b5, bx0, e8, ruS, ruL, ruE, Nat.reduceAdd, reduceIte, Int.reduceLT, Int.reduceLE, Int.reduceEq, Int.reduceNeg, Int.reduceAdd, Int.reduceSub, Nat.reduceLeDiff, Nat.reduceLT]
  rw [c_Pin hwho.1 (by omega), c_Store hN (by omega) (by omega)]
  exact behind hN hd fun τ h1 h2 h3 => hk O τ (fun i hi => .inl hi) h1 ⟨⟨q, h2, Wk.ob_keep wo h3 dj⟩, pO, hd⟩ (kk h3)
end Go.Fl
namespace Go.Fl
open Go
set_option linter.unusedVariables false
set_option linter.unusedSimpArgs false
variable {N : Nm} {A B : Ar} {σ : Mem} {K : Value → Mem → Prop} {C : Cf} {who : Int}
def Wk.of (k sz h ix v old : Int) (own : Bool) : Wk := if k = 1 then .al (Am.new sz own) else if k = 2 then .dr (Dm.new h own) else .ac (Ak.new (k - 2) h ix v old own)
theorem c_of (hA : isA N A σ) {k sz h ix v old : Int} {own : Bool} (hok : 1 ≤ k ∧ k ≤ 5) (hk : ∀ q τ, σ.get q = none → (Wk.of k sz h ix v old own).ob N q [q] τ → Ext σ τ → K (.iface (Wk.of k sz h ix v old own).ty (.pointer (some ⟨q, 0, none⟩))) τ) :
  s_al [.agg #[.int .i64 k, .int .i64 sz, .int .u64 h, .int .i64 ix, .int .i64 v, .int .i64 old, .bool own]] K σ := by
 have b5 : ∀ (a b c d e : Int) (K : Value → Prop), xF (fBuild [(0, 1), (1, 1), (2, 1), (3, 1), (4, 1)] [.int .i64 0, .int .u64 0, .int .i64 0, .int .i64 0, .int .i64 0] [0, 1, 2, 3, 4]) [.int .i64 a, .int .u64 b, .int .i64 c, .int .i64 d, .int .i64 e] K = K (.agg #[.int .i64 a, .int .u64 b, .int .i64 c, .int .i64 d, .int .i64 e]) := fun _ _ _ _ _ K => nr rfl
 unfold Wk.of at hk
 simp only [s_al, w_al, box7, ruS, ruL, ruE, Nat.reduceAdd, reduceIte, Int.reduceLT, Int.reduceLE, Int.reduceEq, Int.reduceNeg, Int.reduceAdd, Int.reduceSub, Nat.reduceLeDiff, Nat.reduceLT]
 by_cases c1 : k = 1
 ·rw [if_pos c1] at hk
  simp only [c1, ruS, ruL, ruE, Nat.reduceAdd, reduceIte, Int.reduceLT, Int.reduceLE, Int.reduceEq, Int.reduceNeg, Int.reduceAdd, Int.reduceSub, Nat.reduceLeDiff, Nat.reduceLT]
  exact ob_new hA fun p τ hp ho x => hk p τ hp ho x
 ·rw [if_neg c1] at hk
  by_cases c2 : k = 2
  ·rw [if_pos c2] at hk
   simp only [c1, c2, ruS, ruL, ruE, Nat.reduceAdd, reduceIte, Int.reduceLT, Int.reduceLE, Int.reduceEq, Int.reduceNeg, Int.reduceAdd, Int.reduceSub, Nat.reduceLeDiff, Nat.reduceLT]
   exact dob_new hA fun p τ hp ho x => hk p τ hp ho x
  ·rw [if_neg c2] at hk
   simp only [c1, c2, b5, ruS, ruL, ruE, Nat.reduceAdd, reduceIte, Int.reduceLT, Int.reduceLE, Int.reduceEq, Int.reduceNeg, Int.reduceAdd, Int.reduceSub, Nat.reduceLeDiff, Nat.reduceLT]
   rw [IntWalk.i64_in (k - 3) (by omega), IntWalk.i64_in (k - 3 + 1) (by omega), show k - 3 + 1 = k - 2 by omega]
   exact aob_new hA fun p τ hp ho x => hk p τ hp ho x
theorem c_ActNew (hA : isA N A σ) {k sz h ix v old : Int} {own : Bool} (hok : okAct k v old) (hk : ∀ p q τ, σ.get p = none → σ.get q = none → TOb N p [q] (Aa.new (Wk.of k sz h ix v old own)) τ → Ext σ τ → K (.tuple #[.pointer (some ⟨p, 0, none⟩), .int .i64 0]) τ) :
  s_ak [.agg #[.int .i64 k, .int .i64 sz, .int .u64 h, .int .i64 ix, .int .i64 v, .int .i64 old, .bool own]] K σ := by
 have b8 : ∀ (t q : Nat) (K : Value → Prop), xF (fBuild [(0, 2), (2, 1), (3, 1), (4, 4)] [.int .i64 0, .int .u64 0, .int .i64 0, .nilIface, .int .i64 0, .int .u64 0, .int .i64 0, .int .i64 0] [2]) [.iface t (.pointer (some ⟨q, 0, none⟩))] K =
   K (.agg #[.int .i64 0, .int .u64 0, .int .i64 0, .iface t (.pointer (some ⟨q, 0, none⟩)), .int .i64 0, .int .u64 0, .int .i64 0, .int .i64 0]) := fun _ _ K => nr rfl
 simp only [s_ak, w_ak, box7, sub7, c_ActCheck, hok, ruS, ruL, ruE, Nat.reduceAdd, reduceIte, Int.reduceLT, Int.reduceLE, Int.reduceEq, Int.reduceNeg, Int.reduceAdd, Int.reduceSub, Nat.reduceLeDiff, Nat.reduceLT]
 refine c_of hA hok.1 fun q τ hq ho x => ?_
 rw [b8]
 refine hBox_i (cs := (Aa.new (Wk.of k sz h ix v old own)).l q) rfl fun p τ2 hp gp x2 => ?_
 have hA1 := hA.ext x
 have hqn : τ.get q ≠ none := by
  revert ho
  generalize Wk.of k sz h ix v old own = wk
  intro ho
  cases wk with
  | al m => obtain ⟨⟨_, _, g, _⟩, _⟩ := ho; rw [g]; simp
  | dr m => obtain ⟨⟨_, _, g, _⟩, _⟩ := ho; rw [g]; simp
  | ac m => obtain ⟨⟨_, g, _⟩, _⟩ := ho; rw [g]; simp
 refine hk p q τ2 (x.none hp) hq ⟨⟨q, gp, Wk.ob_keep (L := []) ho x2.keep fun _ _ => by simp⟩, fun e => ?_, hA1.new hp⟩ (x.trans x2)
 rw [List.mem_singleton.1 e] at hp
 exact hqn hp
theorem TOb.done {p : Nat} {O : List Nat} {a : Aa} (h : TOb N p O a σ) (hk : K (.agg #[.int .i64 a.oE, .int .u64 a.oH, .int .i64 a.oV, .int .i64 a.oS]) σ) : s_ah [.pointer (some ⟨p, 0, none⟩)] K σ := by
 obtain ⟨⟨q, gp, _⟩, _⟩ := h
 have gU : ∀ {k : Nat} {x y z w : Int}, gStore 4 [.pointer (some ⟨k, 0, some 0⟩), .agg #[.int .i64 x, .int .u64 y, .int .i64 z, .int .i64 w]] [.int .i64 0, .int .u64 0, .int .i64 0, .int .i64 0] = some [.int .i64 x, .int .u64 y, .int .i64 z, .int .i64 w] := fun {_ _ _ _ _} => rfl
 simp only [s_ah, w_ah, ldG gp (show sub (a.l q) 4 4 true = some (.agg #[.int .i64 a.oE, .int .u64 a.oH, .int .i64 a.oV, .int .i64 a.oS]) from rfl), gU, sub4, ruS, ruL, ruE, Nat.reduceAdd, reduceIte, Int.reduceLT, Int.reduceLE, Int.reduceEq, Int.reduceNeg, Int.reduceAdd, Int.reduceSub, Nat.reduceLeDiff, Nat.reduceLT]
 exact hk
theorem c_ActDo (hN : N.ok) (hC : C.ok) (hA : isA N A σ) (hwho : 0 ≤ who ∧ who < C.T) {k sz h ix v old : Int} {own : Bool} (hok : okAct k v old) (I : Int → Aa → Ar → Prop) (D : Aa → Ar → Prop) (h0 : I 0 (Aa.new (Wk.of k sz h ix v old own)) A)
  (hs : ∀ i a A, 0 ≤ i → i < 500 → I i a A → (a.ip = 0 ∨ a.ip = 1 ∨ a.ip = 2) ∧ (a.pc = 0 ∨ a.pc = 1 ∨ a.pc = 2) ∧ (a.pc = 1 → a.wk.fit C A) ∧ (∀ i, 0 ≤ A.w i ∧ A.w i < 18446744073709551616) ∧ C.len ≤ A.n ∧ if (a.step C who A).1 = true then D (a.step C who A).2.1 (a.step C who A).2.2 else I (i + 1) (a.step C who A).2.1 (a.step C who A).2.2)
  (he : ∀ a A, I 500 a A → D a A) (hk : ∀ a A' τ, D a A' → isA N A' τ → Keep N.l σ τ → K (.agg #[.int .i64 a.oE, .int .u64 a.oH, .int .i64 a.oV, .int .i64 a.oS]) τ) :
  s_a7 [N.env C who, .agg #[.int .i64 k, .int .i64 sz, .int .u64 h, .int .i64 ix, .int .i64 v, .int .i64 old, .bool own]] K σ := by
 have gs : ∀ x y z w : Int, gStore 4 [.pointer (some ⟨4, 0, some 0⟩), .agg #[.int .i64 x, .int .u64 y, .int .i64 z, .int .i64 w]] [.int .i64 0, .int .u64 0, .int .i64 0, .int .i64 0] = some [.int .i64 x, .int .u64 y, .int .i64 z, .int .i64 w] := fun _ _ _ _ => rfl
 simp only [s_a7, w_a7, box9, box7, sub7, ruS, ruL, ruE, Nat.reduceAdd, reduceIte, Int.reduceLT, Int.reduceLE, Int.reduceEq, Int.reduceNeg, Int.reduceAdd, Int.reduceSub, Nat.reduceLeDiff, Nat.reduceLT]
 refine c_ActNew hA hok fun p q τ0 hp hq ho x0 => ?_
 simp only [ruS, ruL, ruE, Nat.reduceAdd, reduceIte, Int.reduceLT, Int.reduceLE, Int.reduceEq, Int.reduceNeg, Int.reduceAdd, Int.reduceSub, Nat.reduceLeDiff, Nat.reduceLT]
 have fin : ∀ a A' τ, D a A' → isA N A' τ → (∃ O, TOb N p O a τ) → Keep N.l σ τ → w_a7_j1 K [.pointer (some ⟨p, 0, none⟩)] [[.int .i64 0, .int .u64 0, .int .i64 0, .int .i64 0]] τ := by
  rintro a A' τ hD hA' ⟨O, hO⟩ hK
  simp only [w_a7_j1, w_a7_j1b, ruS, ruL, ruE, Nat.reduceAdd, reduceIte, Int.reduceLT, Int.reduceLE, Int.reduceEq, Int.reduceNeg, Int.reduceAdd, Int.reduceSub, Nat.reduceLeDiff, Nat.reduceLT]
  refine TOb.done hO ?_
  simp only [gs, sub4, ruS, ruL, ruE, Nat.reduceAdd, reduceIte, Int.reduceLT, Int.reduceLE, Int.reduceEq, Int.reduceNeg, Int.reduceAdd, Int.reduceSub, Nat.reduceLeDiff, Nat.reduceLT]
  exact hk a A' τ hD hA' hK
 refine xLoop_i (fun i => [.pointer (some ⟨p, 0, none⟩), .int .i64 i]) [N.el C who, [.int .i64 0, .int .u64 0, .int .i64 0, .int .i64 0]] 500
  (fun i τ => ∃ a A' O, 0 ≤ i ∧ i ≤ 500 ∧ isA N A' τ ∧ I i a A' ∧ TOb N p O a τ ∧ (∀ j ∈ O, σ.get j = none) ∧ Keep N.l σ τ) ?_ ⟨_, A, [q], by omega, by omega, hA.ext x0, h0, ho, fun j hj => by rw [List.mem_singleton.1 hj]; exact hq, x0.keep⟩
 rintro i τ ⟨a, A', O, i0, i1, hA', hI, hO, hOn, hK⟩ R hR
 simp only [w_law15_Do_l6, w_law15_Do_l6b, ruS, ruL, ruE, Nat.reduceAdd, reduceIte, Int.reduceLT, Int.reduceLE, Int.reduceEq, Int.reduceNeg, Int.reduceAdd, Int.reduceSub, Nat.reduceLeDiff, Nat.reduceLT]
 by_cases ci : i < 500
 ·simp only [ci, ruS, ruL, ruE, Nat.reduceAdd, reduceIte, Int.reduceLT, Int.reduceLE, Int.reduceEq, Int.reduceNeg, Int.reduceAdd, Int.reduceSub, Nat.reduceLeDiff, Nat.reduceLT]
  obtain ⟨hip, hpc, hf, hw, hn, hst⟩ := hs i a A' i0 ci hI
  refine c_ActStep hN hC hA' hO hw hn hwho hip hpc hf fun O' τ' hO' hA2 hO2 hK2 => ?_
  have hK3 : Keep N.l σ τ' := by
   intro j b hj hn'
   refine hK2 j b (hK j b hj hn') fun hm => ?_
   rcases List.mem_cons.1 hm with rfl | hm
   ·rw [hp] at hj; cases hj
   rcases List.mem_append.1 hm with h | h
   ·rw [hOn j h] at hj; cases hj
   ·exact hn' h
  have hOn' : ∀ j ∈ O', σ.get j = none := by
   intro j hj
   rcases hO' j hj with h | h
   ·exact hOn j h
   ·cases e : σ.get j with
    | none => rfl
    | some b => rw [hK j b e (hA'.new h)] at h; cases h
  generalize a.step C who A' = r at *
  obtain ⟨d, a', A2⟩ := r
  dsimp only at *
  cases d with
  | true =>
   simp only [ruS, ruL, ruE, Nat.reduceAdd, reduceIte, Int.reduceLT, Int.reduceLE, Int.reduceEq, Int.reduceNeg, Int.reduceAdd, Int.reduceSub, Nat.reduceLeDiff, Nat.reduceLT] at hst ⊢
   exact fin a' A2 τ' hst hA2 ⟨O', hO2⟩ hK3
  | false =>
   simp only [ruS, ruL, ruE, Nat.reduceAdd, reduceIte, Int.reduceLT, Int.reduceLE, Int.reduceEq, Int.reduceNeg, Int.reduceAdd, Int.reduceSub, Nat.reduceLeDiff, Nat.reduceLT] at hst ⊢
   rw [IntWalk.i64_in (i + 1) (by omega)]
   exact hR _ ci ⟨a', A2, O', by omega, by omega, hA2, hst, hO2, hOn', hK3⟩
 ·simp only [ci, ruS, ruL, ruE, Nat.reduceAdd, reduceIte, Int.reduceLT, Int.reduceLE, Int.reduceEq, Int.reduceNeg, Int.reduceAdd, Int.reduceSub, Nat.reduceLeDiff, Nat.reduceLT]
  have : i = 500 := by omega
  subst this
  exact fin a A' τ (he _ _ hI) hA' ⟨O, hO⟩ hK
end Go.Fl
namespace Go.Fl
open Go
set_option linter.unusedVariables false
set_option linter.unusedSimpArgs false
variable {N : Nm} {A B : Ar} {σ : Mem} {K : Value → Mem → Prop} {C : Cf} {who : Int}
def Ar.pin (A : Ar) (who : Int) : Ar := ((((((A.by who).load 0).by who).store (6 + who) (IntKind.u64.wrap (A.w 0 + 1))).by who).load 0)
def Ar.out (A : Ar) (who : Int) : Ar := (A.by who).store (6 + who) 0
def AcJ (who : Int) (A0 : Ar) (k0 : Wk) (I : Int → Wk → Ar → Prop) (D : Wk → Ar → Prop) (i : Int) (a : Aa) (A : Ar) : Prop :=
 (i = 0 ∧ a = Aa.new k0 ∧ A = A0) ∨
 (i = 1 ∧ a = { Aa.new k0 with ip := 1, ep := A0.w 0 } ∧ A = (A0.by who).load 0) ∨
 (i = 2 ∧ a = { Aa.new k0 with ip := 2, ep := A0.w 0 } ∧ A = (((A0.by who).load 0).by who).store (6 + who) (IntKind.u64.wrap (A0.w 0 + 1))) ∨
 (3 ≤ i ∧ i ≤ 490 ∧ a.ip = 2 ∧ a.pc = 1 ∧ I (i - 3) a.wk A) ∨
 (i ≤ 491 ∧ a.ip = 2 ∧ a.pc = 2 ∧ a.oE = a.wk.oE ∧ a.oH = a.wk.oH ∧ a.oV = a.wk.oV ∧ a.oS = a.wk.oS ∧ D a.wk A)
theorem Aa.st_wk {a : Aa} (e : a.pc = 1) (c : (a.wk.step C who A).1 = true) : a.step C who A = (false, { a with wk := (a.wk.step C who A).2.1, oE := (a.wk.step C who A).2.1.oE, oH := (a.wk.step C who A).2.1.oH, oV := (a.wk.step C who A).2.1.oV, oS := (a.wk.step C who A).2.1.oS, pc := 2 }, (a.wk.step C who A).2.2) := by
 unfold Aa.step; rw [if_neg (by omega), if_pos e, if_pos c]
theorem Aa.st_go {a : Aa} (e : a.pc = 1) (c : ¬ (a.wk.step C who A).1 = true) : a.step C who A = (false, { a with wk := (a.wk.step C who A).2.1 }, (a.wk.step C who A).2.2) := by
 unfold Aa.step; rw [if_neg (by omega), if_pos e, if_neg c]
theorem Aa.st_out {a : Aa} (e : a.pc = 2) : a.step C who A = (true, a, A.out who) := by
 unfold Aa.step; rw [if_neg (by omega), if_neg (by omega)]; rfl
theorem c_ActW (hN : N.ok) (hC : C.ok) (hA : isA N A σ) (hwho : 0 ≤ who ∧ who < C.T) (hw : ∀ i, 0 ≤ A.w i ∧ A.w i < 18446744073709551616) (hn : C.len ≤ A.n) {k sz h ix v old : Int} {own : Bool} (hok : okAct k v old) (I : Int → Wk → Ar → Prop) (D : Wk → Ar → Prop) (h0 : I 0 (Wk.of k sz h ix v old own) (A.pin who))
  (hs : ∀ i m A, 0 ≤ i → i < 487 → I i m A → m.fit C A ∧ (∀ i, 0 ≤ A.w i ∧ A.w i < 18446744073709551616) ∧ C.len ≤ A.n ∧ if (m.step C who A).1 = true then D (m.step C who A).2.1 (m.step C who A).2.2 else I (i + 1) (m.step C who A).2.1 (m.step C who A).2.2)
  (hb : ∀ m A, D m A → (∀ i, 0 ≤ A.w i ∧ A.w i < 18446744073709551616) ∧ C.len ≤ A.n)
  (he : ∀ m A, ¬ I 487 m A) (hk : ∀ m A' τ, D m A' → isA N (A'.out who) τ → Keep N.l σ τ → K (.agg #[.int .i64 m.oE, .int .u64 m.oH, .int .i64 m.oV, .int .i64 m.oS]) τ) :
  s_a7 [N.env C who, .agg #[.int .i64 k, .int .i64 sz, .int .u64 h, .int .i64 ix, .int .i64 v, .int .i64 old, .bool own]] K σ := by
 have hT := hC.T; have hS := hC.S; have hC3 := hC.C; have hl := len_bd hC
 refine c_ActDo hN hC hA hwho hok (AcJ who A (Wk.of k sz h ix v old own) I D) (fun a A' => a.oE = a.wk.oE ∧ a.oH = a.wk.oH ∧ a.oV = a.wk.oV ∧ a.oS = a.wk.oS ∧ ∃ B, D a.wk B ∧ A' = B.out who) (.inl ⟨rfl, rfl, rfl⟩) ?_ ?_ ?_
 ·rintro i a A' i0 i5 (⟨rfl, rfl, rfl⟩ | ⟨rfl, rfl, rfl⟩ | ⟨rfl, rfl, rfl⟩ | ⟨i1, i2, e1, e2, hI⟩ | ⟨i1, e1, e2, o1, o2, o3, o4, hD⟩)
  ·refine ⟨.inl rfl, .inl rfl, fun e => absurd e (by show ¬ (0 : Int) = 1; decide), hw, hn, ?_⟩
   exact .inr (.inl ⟨rfl, rfl, rfl⟩)
  ·refine ⟨.inr (.inl rfl), .inl rfl, fun e => absurd e (by show ¬ (0 : Int) = 1; decide), hw, hn, ?_⟩
   exact .inr (.inr (.inl ⟨rfl, rfl, rfl⟩))
  ·have hW := wrap_in (A.w 0 + 1)
   have e0 : ((((A.by who).load 0).by who).store (6 + who) (IntKind.u64.wrap (A.w 0 + 1))).w 0 = A.w 0 := by
    rw [store_w, upd_ne _ _ (by omega)]; rfl
   refine ⟨.inr (.inr rfl), .inl rfl, fun e => absurd e (by show ¬ (0 : Int) = 1; decide), ?_, ?_, ?_⟩
   ·intro j
    rw [store_w]
    unfold upd
    split
    ·exact hW
    ·exact hw j
   ·exact hn
   ·have st : (({ Aa.new (Wk.of k sz h ix v old own) with ip := 2, ep := A.w 0 } : Aa).step C who ((((A.by who).load 0).by who).store (6 + who) (IntKind.u64.wrap (A.w 0 + 1)))) = (false, { Aa.new (Wk.of k sz h ix v old own) with ip := 2, ep := A.w 0, pc := 1 }, A.pin who) := by
     unfold Aa.step; dsimp only [Aa.new]; simp only [e0, if_true, show ¬ (2 : Int) = 0 by decide, show ¬ (2 : Int) = 1 by decide, if_false]; rfl
    rw [st]
    exact .inr (.inr (.inr (.inl ⟨by omega, by omega, rfl, rfl, h0⟩)))
  ·by_cases c : i = 490
   ·subst c; exact absurd hI (he _ _)
   obtain ⟨hf, hw', hn', hst⟩ := hs (i - 3) a.wk A' (by omega) (by omega) hI
   refine ⟨.inr (.inr e1), .inr (.inl e2), fun _ => hf, hw', hn', ?_⟩
   by_cases c1 : (a.wk.step C who A').1 = true
   ·rw [if_pos c1] at hst
    rw [Aa.st_wk e2 c1]
    exact .inr (.inr (.inr (.inr ⟨by omega, e1, rfl, rfl, rfl, rfl, rfl, hst⟩)))
   ·rw [if_neg c1] at hst
    rw [Aa.st_go e2 c1]
    exact .inr (.inr (.inr (.inl ⟨by omega, by omega, e1, e2, by rw [show i + 1 - 3 = i - 3 + 1 by omega]; exact hst⟩)))
  ·obtain ⟨hw', hn'⟩ := hb _ _ hD
   refine ⟨.inr (.inr e1), .inr (.inr e2), fun e => by omega, hw', hn', ?_⟩
   rw [Aa.st_out e2]
   exact ⟨o1, o2, o3, o4, A', hD, rfl⟩
 ·rintro a A' (⟨e, _⟩ | ⟨e, _⟩ | ⟨e, _⟩ | ⟨_, e, _⟩ | ⟨e, _⟩) <;> omega
 ·rintro a A' τ ⟨o1, o2, o3, o4, B, hD, rfl⟩ hA' hK
  rw [o1, o2, o3, o4]
  exact hk _ _ _ hD hA' hK
end Go.Fl
namespace Go.Fl
open Go
set_option linter.unusedVariables false
set_option linter.unusedSimpArgs false
variable {N : Nm} {A B : Ar} {σ : Mem} {K : Value → Mem → Prop} {C : Cf} {who : Int}
theorem pin_w : (A.pin who).w = upd A.w (6 + who) (IntKind.u64.wrap (A.w 0 + 1)) := rfl
theorem out_w : (A.out who).w = upd A.w (6 + who) 0 := rfl
theorem pin_far (hC : C.ok) (hwho : 0 ≤ who ∧ who < C.T) {u : Int → Int} (hu : ∀ j, 0 ≤ j → j < C.C → 0 ≤ u j) {a : Int} (h : a = 1 ∨ (2 ≤ a ∧ a < 6) ∨ (∃ s, 0 ≤ s ∧ s < C.S ∧ a = C.slot s + 1) ∨ (∃ j, 0 ≤ j ∧ j < C.C ∧ (a = C.chunk j ∨ a = C.chunk j + 1)) ∨ (∃ j i, 0 ≤ j ∧ j < C.C ∧ u j ≤ i ∧ i < C.W ∧ a = C.base j + i)) : a ≠ 6 + who := by
 have hT := hC.T; have hS := hC.S; have hC3 := hC.C
 rcases h with h | h | ⟨s, s0, s1, h⟩ | ⟨j, j0, j1, h⟩ | ⟨j, i, j0, j1, i0, i1, h⟩
 ·omega
 ·omega
 ·unfold Cf.slot at h; omega
 ·unfold Cf.chunk at h; omega
 ·have := hu j j0 j1
  have hm := mulW hC j0 (by omega)
  unfold Cf.base at h; omega
theorem Bg.aw_pin {b : Bg} (hC : C.ok) (hwho : 0 ≤ who ∧ who < C.T) {w : Int → Int} {x : Int} (h : b.aw C w) : b.aw C (upd w (6 + who) x) :=
 Aw.keep hC h fun a ha => upd_ne _ _ (pin_far hC hwho (fun j j0 j1 => Aw.u0 h j0 j1) ha)
theorem Pa.pin {b : Int} (hC : C.ok) (hwho : 0 ≤ who ∧ who < C.T) (h : Pa C A b) (hb : b < 9000000000000000000) : Pa C (A.pin who) (b + 3) := by
 have h1 := (h.ok.by (who := who)).load (a := 0) (by omega)
 have h2 := (h1.by (who := who)).store (a := 6 + who) (by omega) (wrap_in (A.w 0 + 1))
 have h3 := (h2.by (who := who)).load (a := 0) (by omega)
 refine ⟨?_, h.n, fun c c0 c3 => ?_⟩
 ·rw [show b + 3 = b + 1 + 1 + 1 by omega]; exact h3
 ·rw [pin_w, upd_ne _ _ (by omega)]; exact h.op c c0 c3
theorem Pa.out {b : Int} (hC : C.ok) (hwho : 0 ≤ who ∧ who < C.T) (h : Pa C A b) (hb : b < 9000000000000000000) : Pa C (A.out who) (b + 1) := by
 refine ⟨(h.ok.by (who := who)).store (a := 6 + who) (by omega) ⟨by decide, by decide⟩, h.n, fun c c0 c3 => ?_⟩
 rw [out_w, upd_ne _ _ (by omega)]; exact h.op c c0 c3
end Go.Fl
namespace Go.Fl
open Go
set_option linter.unusedVariables false
set_option linter.unusedSimpArgs false
variable {N : Nm} {A B : Ar} {σ : Mem} {K : Value → Mem → Prop} {C : Cf} {who : Int}
theorem c_ActA (hN : N.ok) (hC : C.ok) (hA : isA N A σ) (hwho : 0 ≤ who ∧ who < C.T) {b : Bg} {size h ix v old bb : Int} {own : Bool} (hok : okAct 1 v old) (hP : Pa C A bb) (hb : bb + 3 < 2305843009213693952) (hAw : b.aw C A.w) (hlv : b.lvok C) (hcl : 0 ≤ classOf size)
  (hk : ∀ m A' τ, DnM C b size own (A.pin who).w (A.pin who).s m A' → Pa C A' (bb + 103) → A'.n = A.n → isA N (A'.out who) τ → Keep N.l σ τ → K (.agg #[.int .i64 m.a.oE, .int .u64 m.a.oH, .int .i64 m.a.oV, .int .i64 m.a.oS]) τ) :
  s_a7 [N.env C who, .agg #[.int .i64 1, .int .i64 size, .int .u64 h, .int .i64 ix, .int .i64 v, .int .i64 old, .bool own]] K σ := by
 have hCC := hC.C
 have hP3 := hP.pin hC hwho (by omega)
 have hAw3 : b.aw C (A.pin who).w := Bg.aw_pin hC hwho hAw
 refine c_ActW hN hC hA hwho hP.ok.w hP.n hok (fun i k A' => ∃ m, k = .al m ∧ Mkr C b size own (A.pin who) (bb + 3) i m A') (fun k A' => ∃ m, k = .al m ∧ DnM C b size own (A.pin who).w (A.pin who).s m A' ∧ Pa C A' (bb + 103) ∧ A'.n = A.n) ⟨_, rfl, .new hP3 hAw3⟩ ?_ ?_ ?_ ?_
 ·rintro i k A' i0 i1 ⟨m, rfl, h⟩
  refine ⟨h.fit hC hAw3 hcl, h.pa.ok.w, h.pa.n, ?_⟩
  have hkl := h.ph.kle hC
  obtain ⟨⟨⟨a, ht⟩, hla⟩, h2⟩ := h.step (who := who) hC hb hAw3 hlv hcl i0
  rcases h2 with ⟨d, h'⟩ | ⟨d, h', hP'⟩
  ·rw [if_neg (show ¬ ((Wk.al m).step C who A').1 = true from by show ¬ (m.step C who A').1 = true; rw [d]; decide)]; exact ⟨_, rfl, h'⟩
  ·rw [if_pos (show ((Wk.al m).step C who A').1 = true from d)]; exact ⟨_, rfl, h', hP'.mono (by omega), ht.n.trans h.n⟩
 ·rintro k A' ⟨m, rfl, h1, h2, h3⟩; exact ⟨h2.ok.w, h2.n⟩
 ·rintro k A' ⟨m, rfl, h⟩; have := h.ph.kle hC; omega
 ·rintro k A' τ ⟨m, rfl, h1, h2, h3⟩ hA' hK; exact hk m A' τ h1 h2 h3 hA' hK
end Go.Fl
namespace Go.Fl
open Go
set_option linter.unusedVariables false
set_option linter.unusedSimpArgs false
variable {N : Nm} {A B : Ar} {σ : Mem} {K : Value → Mem → Prop} {C : Cf} {who : Int}
theorem Wk.of2 {sz h ix v old : Int} {own : Bool} : Wk.of 2 sz h ix v old own = .dr (Dm.new h own) := rfl
theorem Wk.of3 {k sz h ix v old : Int} {own : Bool} (hk : 3 ≤ k) : Wk.of k sz h ix v old own = .ac (Ak.new (k - 2) h ix v old own) := by
 unfold Wk.of; rw [if_neg (by omega), if_neg (by omega)]
theorem Dm.oH0 {m : Dm} (h : m.d.oH = 0) : (m.step C who A).2.1.d.oH = 0 := by
 unfold Dm.step
 dsimp only
 (repeat' split) <;> first | exact h | rfl
theorem c_ActNa (hN : N.ok) (hC : C.ok) (hA : isA N A σ) (hwho : 0 ≤ who ∧ who < C.T) {k size h ix v old bb : Int} {own : Bool} (hok : okAct k v old) (k3 : 3 ≤ k) (h0 : 0 ≤ h ∧ h < 18446744073709551616) (hP : Pa C A bb) (hb : bb + 3 < 2305843009213693952) (hb2 : (A.n : Int) ≤ 200000000) (hn : NoDrop C (A.pin who).w h own)
  (hk : ∀ m A' τ, NaD (A.pin who) m A' → isA N (A'.out who) τ → Keep N.l σ τ → K (.agg #[.int .i64 3, .int .u64 0, .int .i64 0, .int .i64 m.a.oS]) τ) :
  s_a7 [N.env C who, .agg #[.int .i64 k, .int .i64 size, .int .u64 h, .int .i64 ix, .int .i64 v, .int .i64 old, .bool own]] K σ := by
 have hP3 := hP.pin hC hwho (by omega)
 refine c_ActW hN hC hA hwho hP.ok.w hP.n hok (fun i w A' => ∃ m, w = .ac m ∧ NaI C (A.pin who) (Ak.new (k - 2) h ix v old own) i m A') (fun w A' => ∃ m, w = .ac m ∧ NaD (A.pin who) m A') ⟨_, Wk.of3 k3, .inl ⟨rfl, rfl, rfl⟩⟩ ?_ ?_ ?_ ?_
 ·rintro i w A' i0 i1 ⟨m, rfl, h'⟩
  obtain ⟨q1, q2, q3⟩ := h'.step (who := who) hC hn h0 hP3.ok (by omega) hP3.n hb2
  refine ⟨q1, q2.1.w, q2.2.1, ?_⟩
  rcases q3 with ⟨d, h'⟩ | ⟨d, h'⟩
  ·rw [if_neg (show ¬ ((Wk.ac m).step C who A').1 = true from by show ¬ (m.step C who A').1 = true; rw [d]; decide)]; exact ⟨_, rfl, h'⟩
  ·rw [if_pos (show ((Wk.ac m).step C who A').1 = true from d)]; exact ⟨_, rfl, h'⟩
 ·rintro w A' ⟨m, rfl, hD⟩; exact ⟨(hD.ok _ hP3.ok).w, by rw [hD.n]; exact hP3.n⟩
 ·rintro w A' ⟨m, rfl, h' | h'⟩
  ·have := h'.1; omega
  ·have := h'.1; omega
 ·rintro w A' τ ⟨m, rfl, hD⟩ hA' hK
  show K (.agg #[.int .i64 m.a.oE, .int .u64 m.a.oH, .int .i64 m.a.oV, .int .i64 m.a.oS]) τ
  rw [hD.e.1, hD.e.2.1, hD.e.2.2]
  exact hk m A' τ hD hA' hK
theorem c_ActL (hN : N.ok) (hC : C.ok) (hA : isA N A σ) (hwho : 0 ≤ who ∧ who < C.T) {k size h ix v old bb z a : Int} {own : Bool} (hok : okAct k v old) (k3 : 3 ≤ k) (hP : Pa C A bb) (hb : bb + 3 < 2305843009213693952) (hb2 : (A.n : Int) ≤ 200000000) (ho : Ol C (A.pin who).w h own z a)
  (hk : ∀ m A' τ, LvD C (A.pin who) (Ak.new (k - 2) h ix v old own) z a m A' → isA N (A'.out who) τ → Keep N.l σ τ → K (.agg #[.int .i64 m.a.oE, .int .u64 0, .int .i64 m.a.oV, .int .i64 m.a.oS]) τ) :
  s_a7 [N.env C who, .agg #[.int .i64 k, .int .i64 size, .int .u64 h, .int .i64 ix, .int .i64 v, .int .i64 old, .bool own]] K σ := by
 have hP3 := hP.pin hC hwho (by omega)
 refine c_ActW hN hC hA hwho hP.ok.w hP.n hok (fun i w A' => ∃ m, w = .ac m ∧ LvI C (A.pin who) (Ak.new (k - 2) h ix v old own) z a i m A') (fun w A' => ∃ m, w = .ac m ∧ LvD C (A.pin who) (Ak.new (k - 2) h ix v old own) z a m A') ⟨_, Wk.of3 k3, .inl ⟨rfl, rfl, rfl⟩⟩ ?_ ?_ ?_ ?_
 ·rintro i w A' i0 i1 ⟨m, rfl, h'⟩
  obtain ⟨q1, q2, q3⟩ := h'.step (who := who) hC ho hP3.ok (by omega) hP3.n hb2
  refine ⟨q1, q2.1, q2.2, ?_⟩
  rcases q3 with ⟨d, h'⟩ | ⟨d, h'⟩
  ·rw [if_neg (show ¬ ((Wk.ac m).step C who A').1 = true from by show ¬ (m.step C who A').1 = true; rw [d]; decide)]; exact ⟨_, rfl, h'⟩
  ·rw [if_pos (show ((Wk.ac m).step C who A').1 = true from d)]; exact ⟨_, rfl, h'⟩
 ·rintro w A' ⟨m, rfl, hD⟩; exact ⟨(hD.ok _ hP3.ok).w, by rw [hD.n]; exact hP3.n⟩
 ·rintro w A' ⟨m, rfl, h' | ⟨_, _, h' | ⟨_, h' | h'⟩⟩⟩
  ·have := h'.1; omega
  ·have := h'.1; omega
  ·have := h'.1; omega
  ·have := h'.1; omega
 ·rintro w A' τ ⟨m, rfl, hD⟩ hA' hK
  show K (.agg #[.int .i64 m.a.oE, .int .u64 m.a.oH, .int .i64 m.a.oV, .int .i64 m.a.oS]) τ
  rw [hD.h]
  exact hk m A' τ hD hA' hK
theorem c_ActNo (hN : N.ok) (hC : C.ok) (hA : isA N A σ) (hwho : 0 ≤ who ∧ who < C.T) {size h ix v old bb : Int} {own : Bool} (hok : okAct 2 v old) (h0 : 0 ≤ h ∧ h < 18446744073709551616) (hP : Pa C A bb) (hb : bb + 3 < 2305843009213693952) (hn : NoDrop C (A.pin who).w h own)
  (hk : ∀ m A' τ, NoD (A.pin who) m A' → isA N (A'.out who) τ → Keep N.l σ τ → K (.agg #[.int .i64 3, .int .u64 0, .int .i64 0, .int .i64 m.d.oS]) τ) :
  s_a7 [N.env C who, .agg #[.int .i64 2, .int .i64 size, .int .u64 h, .int .i64 ix, .int .i64 v, .int .i64 old, .bool own]] K σ := by
 have hP3 := hP.pin hC hwho (by omega)
 refine c_ActW hN hC hA hwho hP.ok.w hP.n hok (fun i w A' => ∃ m, w = .dr m ∧ NoI C (A.pin who) h own i m A') (fun w A' => ∃ m, w = .dr m ∧ NoD (A.pin who) m A') ⟨_, Wk.of2, .inl ⟨rfl, rfl, rfl⟩⟩ ?_ ?_ ?_ ?_
 ·rintro i w A' i0 i1 ⟨m, rfl, h'⟩
  obtain ⟨q1, q2, q3⟩ := h'.step (who := who) hC hn h0 hP3.ok (by omega) hP3.n
  refine ⟨q1, q2.1.w, q2.2.1, ?_⟩
  rcases q3 with ⟨d, h'⟩ | ⟨d, h'⟩
  ·rw [if_neg (show ¬ ((Wk.dr m).step C who A').1 = true from by show ¬ (m.step C who A').1 = true; rw [d]; decide)]; exact ⟨_, rfl, h'⟩
  ·rw [if_pos (show ((Wk.dr m).step C who A').1 = true from d)]; exact ⟨_, rfl, h'⟩
 ·rintro w A' ⟨m, rfl, hD⟩; exact ⟨(hD.ok _ hP3.ok).w, by rw [hD.n]; exact hP3.n⟩
 ·rintro w A' ⟨m, rfl, h' | h'⟩
  ·have := h'.1; omega
  ·have := h'.1; omega
 ·rintro w A' τ ⟨m, rfl, hD⟩ hA' hK
  show K (.agg #[.int .i64 m.d.oE, .int .u64 m.d.oH, .int .i64 m.d.oV, .int .i64 m.d.oS]) τ
  rw [hD.e.1, hD.e.2.1, hD.e.2.2]
  exact hk m A' τ hD hA' hK
theorem c_ActD (hN : N.ok) (hC : C.ok) (hA : isA N A σ) (hwho : 0 ≤ who ∧ who < C.T) {b : Bg} {d : Do} {size ix v old bb : Int} (hok : okAct 2 v old) (hP : Pa C A bb) (hb : bb + 3 < 2305843009213693952) (hAw : b.aw C A.w) (hd : d.ok C b (A.pin who).w) (hlv : b.lv d.j < 18446744073709551616)
  (hk : ∀ m A' τ, DnD C b d (A.pin who).w (A.pin who).s m A' → Pa C A' (bb + 63) → A'.n = A.n → isA N (A'.out who) τ → Keep N.l σ τ → K (.agg #[.int .i64 0, .int .u64 0, .int .i64 m.d.oV, .int .i64 m.d.oS]) τ) :
  s_a7 [N.env C who, .agg #[.int .i64 2, .int .i64 size, .int .u64 d.n, .int .i64 ix, .int .i64 v, .int .i64 old, .bool d.own]] K σ := by
 have hP3 := hP.pin hC hwho (by omega)
 have hAw3 : b.aw C (A.pin who).w := Bg.aw_pin hC hwho hAw
 have av := d.av hC hd ⟨_, hAw3⟩
 have en0 : (A.pin who).n = A.n := rfl
 refine c_ActW hN hC hA hwho hP.ok.w hP.n hok (fun i w A' => ∃ m, w = .dr m ∧ DrI C b d (A.pin who).w (A.pin who).s i m A' ∧ A'.ok (bb + 3 + i) ∧ A'.n = A.n ∧ A'.s = (A.pin who).s + i ∧ m.d.oH = 0) (fun w A' => ∃ m, w = .dr m ∧ DnD C b d (A.pin who).w (A.pin who).s m A' ∧ A'.ok (bb + 63) ∧ A'.n = A.n ∧ m.d.oH = 0) ⟨_, Wk.of2, ⟨rfl, rfl, .inl ⟨rfl, Int.le_refl 0, rfl, rfl, rfl⟩⟩, by simpa using hP3.ok, rfl, by omega, rfl⟩ ?_ ?_ ?_ ?_
 ·rintro i w A' i0 i1 ⟨m, rfl, h, ok, en, es, eh⟩
  have hkl := h.kle av.2.2.1
  have hnn := hP.n
  refine ⟨h.fit hC hd hAw3 ok.w hP3.ok.w (by omega), ok.w, by omega, ?_⟩
  obtain ⟨td, h'⟩ := h.step (who := who) hC hd hAw3 ok (by omega) (by omega) hlv
  have t1 := td.s
  have t2 := td.n
  have t3 := td.ok _ ok
  rcases h' with ⟨e, h'⟩ | ⟨e, h'⟩
  ·rw [if_neg (show ¬ ((Wk.dr m).step C who A').1 = true from by show ¬ (m.step C who A').1 = true; rw [e]; decide)]
   exact ⟨_, rfl, h', by rw [show bb + 3 + (i + 1) = bb + 3 + i + 1 by omega]; exact t3, t2.trans en, by show (m.step C who A').2.2.s = _; omega, Dm.oH0 eh⟩
  ·rw [if_pos (show ((Wk.dr m).step C who A').1 = true from e)]
   exact ⟨_, rfl, h', ok_mono t3 (by omega), t2.trans en, Dm.oH0 eh⟩
 ·rintro w A' ⟨m, rfl, h1, h2, h3, _⟩; exact ⟨h2.w, by rw [h3]; exact hP.n⟩
 ·rintro w A' ⟨m, rfl, h, _⟩; have := h.kle av.2.2.1; omega
 ·rintro w A' τ ⟨m, rfl, hD, ok, en, eh⟩ hA' hK
  show K (.agg #[.int .i64 m.d.oE, .int .u64 m.d.oH, .int .i64 m.d.oV, .int .i64 m.d.oS]) τ
  rw [hD.e, eh]
  exact hk m A' τ hD (Bg.aw.pa hC hD.aw ok (by rw [en]; exact hP.n)) en hA' hK
end Go.Fl
namespace Go.Fl
open Go
set_option linter.unusedVariables false
set_option linter.unusedSimpArgs false
variable {N : Nm} {A B : Ar} {σ : Mem} {K : Value → Mem → Prop} {C : Cf} {who : Int}
def GenO (C : Cf) (w w' : Int → Int) : Prop := ∀ t, 0 ≤ t → t < C.S → slG (w' (C.slot t)) = slG (w (C.slot t))
theorem GenO.trans {w w' w'' : Int → Int} (h : GenO C w w') (h' : GenO C w' w'') : GenO C w w'' := fun t t0 t1 => (h' t t0 t1).trans (h t t0 t1)
def AlR (C : Cf) (b : Bg) (ob : Int → Option Do) (w : Int → Int) (size : Int) (own : Bool) (E H : Int) (b' : Bg) (ob' : Int → Option Do) (w' : Int → Int) : Prop :=
 GenO C w w' ∧ ((E ≠ 0 ∧ H = 0 ∧ (classOf size < 0 ∧ E = 5 ∨ 0 ≤ classOf size ∧ (E = 6 ∧ b.nx = C.C ∨ E = 7 ∧ b.F = [])) ∧ ob' = ob ∧ b' = b ∧ SameO C ob (-1) w w') ∨
 (E = 0 ∧ 0 ≤ classOf size ∧ ∃ s F d, (0 ≤ s ∧ s < C.S) ∧ ob s = none ∧ b.F = s :: F ∧ b'.F = F ∧ b'.nx ≤ b.nx + 1 ∧ ob' = updO ob s (some d) ∧ (65536 ≤ H ∧ d.n = H ∧ H = putHandle s (slG (w (C.slot s)))) ∧ d.z = size ∧ d.own = own ∧ d.s = s ∧ SameO C ob s w w' ∧ ∀ x, 0 ≤ x → x < size → w' (d.a C + 1 + x) = 0))
theorem SameO.trans {ob : Int → Option Do} {s : Int} {w w' w'' : Int → Int} (h : SameO C ob s w w') (h' : SameO C ob s w' w'') : SameO C ob s w w'' :=
 fun t e t0 t1 ts he x x0 x1 => (h' t e t0 t1 ts he x x0 x1).trans (h t e t0 t1 ts he x x0 x1)
theorem SameO.all {ob : Int → Option Do} {s : Int} {w w' : Int → Int} (h : SameO C ob (-1) w w') : SameO C ob s w w' := fun t e t0 t1 _ he x x0 x1 => h t e t0 t1 (by omega) he x x0 x1
theorem SameO.mono {ob ob' : Int → Option Do} {s : Int} {w w' : Int → Int} (h : SameO C ob s w w') (ho : ∀ t, t ≠ s → ob' t = ob t) : SameO C ob' s w w' := fun t e t0 t1 ts he x x0 x1 => h t e t0 t1 ts (by rw [← ho t ts]; exact he) x x0 x1
def AxR (C : Cf) (ob : Int → Option Do) (w : Int → Int) (kd h ix v old : Int) (own : Bool) (E V : Int) (w' : Int → Int) : Prop :=
  (E = 3 ∧ (∀ s d, ¬ Hit C ob h own s d) ∧ SameO C ob (-1) w w') ∨ ∃ s d, Hit C ob h own s d ∧
    ((¬ (0 ≤ ix ∧ ix < d.z) ∧ E = 4 ∧ SameO C ob (-1) w w') ∨
     (0 ≤ ix ∧ ix < d.z) ∧ V = ceV (w (d.a C + 1 + ix)) ∧ ((kd = 1 ∨ kd = 3 ∧ V ≠ old) ∧ E = (if kd = 3 then 8 else 0) ∧ SameO C ob (-1) w w' ∨
       ¬ (kd = 1 ∨ kd = 3 ∧ V ≠ old) ∧ E = 0 ∧ SameO C ob s w w' ∧ ∀ x, 0 ≤ x → x < d.z → w' (d.a C + 1 + x) = if x = ix then putCell v false 0 else w (d.a C + 1 + x)))
structure Py (C : Cf) (i : Int) (n : Nat) (ob : Int → Option Do) (w : Int → Int) (hh z : Int → Int) (lv : Int → Bool) (va : Int → Int → Int) (ow : Int → Bool) : Prop where
 gen : ∀ s, 0 ≤ s → s < C.S → slG (w (C.slot s)) ≤ 1 + i
 u : ∀ k : Int, 0 ≤ k → k < n → 0 ≤ hh k ∧ hh k < 18446744073709551616
 live : ∀ k : Int, 0 ≤ k → k < n → lv k = true → ∃ s d, (0 ≤ s ∧ s < C.S) ∧ ob s = some d ∧ d.n = hh k ∧ d.own = ow k ∧ d.z = z k ∧ ∀ x, 0 ≤ x → x < z k → va k x = ceV (w (d.a C + 1 + x))
 dead : ∀ k : Int, 0 ≤ k → k < n → lv k = false → (∀ s d, 0 ≤ s → s < C.S → ob s = some d → d.n ≠ hh k) ∧ (0 ≤ hdSl (hh k) ∧ hdSl (hh k) < C.S) ∧ hdGe (hh k) < slG (w (C.slot (hdSl (hh k))))
 ne : ∀ k l : Int, 0 ≤ k → k < n → 0 ≤ l → l < n → lv k = true → lv l = true → k ≠ l → hh k ≠ hh l
 nn : n = 0 → ∀ s, 0 ≤ s → s < C.S → ob s = none
section
variable {b : Bg} {M i : Int} {n : Nat} {ob ob' : Int → Option Do} {w w' : Int → Int} {hh z : Int → Int} {lv : Int → Bool} {va : Int → Int → Int} {ow : Int → Bool}
theorem Py.same (h : Py C i n ob w hh z lv va ow) (hs : SameO C ob (-1) w w') (hg : GenO C w w') : Py C (i + 1) n ob w' hh z lv va ow := by
 refine ⟨fun s s0 s1 => by rw [hg s s0 s1]; have := h.gen s s0 s1; omega, h.u, fun k k0 k1 hk => ?_, fun k k0 k1 hk => ?_, h.ne, h.nn⟩
 ·obtain ⟨s, d, hs', e1, e2, e3, e4, e5⟩ := h.live k k0 k1 hk
  exact ⟨s, d, hs', e1, e2, e3, e4, fun x x0 x1 => by rw [hs s d hs'.1 hs'.2 (by omega) e1 x x0 (by omega)]; exact e5 x x0 x1⟩
 ·obtain ⟨e1, e2, e3⟩ := h.dead k k0 k1 hk
  exact ⟨e1, e2, by rw [hg _ e2.1 e2.2]; exact e3⟩
theorem Py.make (hC : C.ok) (h : Py C i n ob w hh z lv va ow) (hW : Wo C b ob M w) {s y H : Int} {d : Do} {o : Bool} (hs : 0 ≤ s ∧ s < C.S) (obs : ob s = none) (hg : GenO C w w') (hn : d.n = H ∧ H = putHandle s (slG (w (C.slot s)))) (hz : d.z = y) (ho : d.own = o) (hds : d.s = s) (hsm : SameO C ob s w w')
  (hc : ∀ x, 0 ≤ x → x < y → w' (d.a C + 1 + x) = 0) : Py C (i + 1) (n + 1) (updO ob s (some d)) w' (upd hh n H) (upd z n y) (updB lv n true) (fun k => if k = n then fun _ => 0 else va k) (updB ow n o) := by
 have hge := hW.gen s hs.1 hs.2
 have hG := hC.G
 have hS := hC.S
 have hH := hd_handle (s := s) (g := slG (w (C.slot s))) (by omega) (by omega)
 rw [← hn.2] at hH
 have cs : ∀ k : Int, k < ((n + 1 : Nat) : Int) → k < n ∨ k = n := fun k hk => by omega
 have lO : ∀ k : Int, k < n → updB lv n true k = lv k := fun k hk => if_neg (by omega)
 have hO : ∀ k : Int, k < n → upd hh n H k = hh k := fun k hk => upd_ne _ _ (by omega)
 have kN : ∀ k : Int, 0 ≤ k → k < n → lv k = true → hh k ≠ H := fun k k0 k1 hk e => by
  obtain ⟨s', d', hs', e1, e2, _⟩ := h.live k k0 k1 hk
  have := (hW.ok s' d' hs'.1 hs'.2 e1).2.1
  have q : s' = s := by rw [← this, ← hH.2.2.1, ← e, ← e2]; rfl
  rw [q, obs] at e1; cases e1
 refine ⟨fun t t0 t1 => by rw [hg t t0 t1]; have := h.gen t t0 t1; omega, fun k k0 k1 => ?_, fun k k0 k1 hk => ?_, fun k k0 k1 hk => ?_, fun k l k0 k1 l0 l1 hk hl hkl => ?_, fun e => by omega⟩
 ·rcases cs k k1 with e | rfl
  ·rw [hO k e]; exact h.u k k0 e
  ·rw [upd_same]; exact hH.1
 ·rcases cs k k1 with e | rfl
  ·rw [lO k e] at hk
   obtain ⟨s', d', hs', e1, e2, e3, e4, e5⟩ := h.live k k0 e hk
   have ne : s' ≠ s := fun q => by rw [q, obs] at e1; cases e1
   refine ⟨s', d', hs', by rw [updO_ne ne]; exact e1, by rw [hO k e]; exact e2, ?_, by rw [upd_ne _ _ (by omega)]; exact e4, fun x x0 x1 => ?_⟩
   ·rw [e3]; unfold updB; rw [if_neg (by omega)]
   ·rw [upd_ne _ _ (by omega)] at x1
    rw [if_neg (by omega), hsm s' d' hs'.1 hs'.2 ne e1 x x0 (by omega)]; exact e5 x x0 x1
  ·refine ⟨s, d, hs, updO_same, by rw [upd_same]; exact hn.1, by rw [ho]; unfold updB; rw [if_pos rfl], by rw [upd_same]; exact hz, fun x x0 x1 => ?_⟩
   rw [upd_same] at x1
   rw [if_pos rfl, hc x x0 x1]; rfl
 ·rcases cs k k1 with e | rfl
  ·rw [lO k e] at hk
   obtain ⟨e1, e2, e3⟩ := h.dead k k0 e hk
   rw [hO k e]
   refine ⟨fun s' d' s0 s1 hd' => ?_, e2, by rw [hg _ e2.1 e2.2]; exact e3⟩
   by_cases q : s' = s
   ·subst q
    rw [updO_same] at hd'; cases hd'
    intro q
    rw [hn.1] at q
    rw [← q, hH.2.2.1, hH.2.2.2.1] at e3
    omega
   ·rw [updO_ne q] at hd'; exact e1 s' d' s0 s1 hd'
  ·unfold updB at hk; rw [if_pos rfl] at hk; cases hk
 ·rcases cs k k1 with e | rfl
  ·rw [lO k e] at hk
   rcases cs l l1 with e' | rfl
   ·rw [lO l e'] at hl; rw [hO k e, hO l e']; exact h.ne k l k0 e l0 e' hk hl hkl
   ·rw [hO k e, upd_same]; exact kN k k0 e hk
  ·rcases cs l l1 with e' | rfl
   ·rw [lO l e'] at hl; rw [hO l e', upd_same]; exact (kN l l0 e' hl).symm
   ·exact absurd rfl hkl
theorem Py.drop (hC : C.ok) (h : Py C i n ob w hh z lv va ow) (hi : i ≤ 90) (hG : C.G = 100) (hW : Wo C b ob M w) {s k : Int} {d : Do} (k0 : 0 ≤ k) (k1 : k < n) (hk : lv k = true) (hs : 0 ≤ s ∧ s < C.S) (obs : ob s = some d) (hn : d.n = hh k) (hsm : SameO C ob s w w')
  (hg : ∀ t, 0 ≤ t → t < C.S → slG (w' (C.slot t)) = if t = s ∧ d.ge < C.G then d.ge + 1 else slG (w (C.slot t))) : Py C (i + 1) n (updO ob s none) w' hh z (updB lv k false) va ow := by
 obtain ⟨o, ds, _, _⟩ := hW.ok s d hs.1 hs.2 obs
 have ege : slG (w (C.slot s)) = d.ge := by rw [← ds, o.ws, o.sg]
 have hgs := h.gen s hs.1 hs.2
 have gle : ∀ t, 0 ≤ t → t < C.S → slG (w (C.slot t)) ≤ slG (w' (C.slot t)) ∧ slG (w' (C.slot t)) ≤ 1 + (i + 1) := fun t t0 t1 => by
  have := h.gen t t0 t1
  rw [hg t t0 t1]; split
  ·rename_i q; rw [q.1]; omega
  ·omega
 have lT : ∀ l, updB lv k false l = true → l ≠ k ∧ lv l = true := fun l hl => by
  unfold updB at hl; split at hl
  ·cases hl
  ·rename_i q; exact ⟨q, hl⟩
 refine ⟨fun t t0 t1 => (gle t t0 t1).2, h.u, fun l l0 l1 hl => ?_, fun l l0 l1 hl => ?_, fun l m l0 l1 m0 m1 hl hm hlm => h.ne l m l0 l1 m0 m1 (lT l hl).2 (lT m hm).2 hlm, fun e => by omega⟩
 ·obtain ⟨lk, hl'⟩ := lT l hl
  obtain ⟨s', d', hs', e1, e2, e3, e4, e5⟩ := h.live l l0 l1 hl'
  have ne : s' ≠ s := fun q => by
   rw [q, obs] at e1; cases e1
   exact h.ne l k l0 l1 k0 k1 hl' hk lk (e2.symm.trans hn)
  exact ⟨s', d', hs', by rw [updO_ne ne]; exact e1, e2, e3, e4, fun x x0 x1 => by rw [hsm s' d' hs'.1 hs'.2 ne e1 x x0 (by omega)]; exact e5 x x0 x1⟩
 ·by_cases e : l = k
  ·subst e
   have es : hdSl (hh l) = s := by rw [← hn]; exact ds
   refine ⟨fun s' d' s0 s1 hd' q => ?_, by rw [es]; exact hs, ?_⟩
   ·have ne : s' ≠ s := fun q => by rw [q, updO_same] at hd'; cases hd'
    rw [updO_ne ne] at hd'
    have := (hW.ok s' d' s0 s1 hd').2.1
    exact ne (by rw [← this, ← es, ← q]; rfl)
   ·have eg : hdGe (hh l) = d.ge := by rw [← hn]; rfl
    rw [es, eg, hg s hs.1 hs.2, if_pos ⟨rfl, by omega⟩]; omega
  ·have hl' : lv l = false := by unfold updB at hl; rw [if_neg e] at hl; exact hl
   obtain ⟨e1, e2, e3⟩ := h.dead l l0 l1 hl'
   refine ⟨fun s' d' s0 s1 hd' => ?_, e2, by have := (gle _ e2.1 e2.2).1; omega⟩
   have ne : s' ≠ s := fun q => by rw [q, updO_same] at hd'; cases hd'
   rw [updO_ne ne] at hd'; exact e1 s' d' s0 s1 hd'
theorem Py.lay (h : Py C i n ob w hh z lv va ow) (hW : Wo C b ob M w) {s k ix v : Int} {d : Do} (k0 : 0 ≤ k) (k1 : k < n) (hk : lv k = true) (hs : 0 ≤ s ∧ s < C.S) (obs : ob s = some d) (hn : d.n = hh k) (hv : 0 ≤ v ∧ v ≤ 1099511627775) (hsm : SameO C ob s w w') (hg : GenO C w w')
  (hc : ∀ x, 0 ≤ x → x < d.z → w' (d.a C + 1 + x) = if x = ix then putCell v false 0 else w (d.a C + 1 + x)) : Py C (i + 1) n ob w' hh z lv (fun j => if j = k then upd (va k) ix v else va j) ow := by
 refine ⟨fun s s0 s1 => by rw [hg s s0 s1]; have := h.gen s s0 s1; omega, h.u, fun l l0 l1 hl => ?_, fun l l0 l1 hl => ?_, h.ne, fun e => by omega⟩
 ·obtain ⟨s', d', hs', e1, e2, e3, e4, e5⟩ := h.live l l0 l1 hl
  refine ⟨s', d', hs', e1, e2, e3, e4, fun x x0 x1 => ?_⟩
  by_cases e : l = k
  ·subst e
   have q : s' = s ∧ d' = d := by
    by_cases q : s' = s
    ·rw [q, obs] at e1; cases e1; exact ⟨q, rfl⟩
    ·have r1 := (hW.ok s' d' hs'.1 hs'.2 e1).2.1
     have r2 := (hW.ok s d hs.1 hs.2 obs).2.1
     have r3 : d'.s = d.s := by unfold Do.s; rw [e2, ← hn]
     exact absurd (r1.symm.trans (r3.trans r2)) q
   obtain ⟨rfl, rfl⟩ := q
   rw [if_pos rfl, hc x x0 (by omega)]
   unfold upd
   split
   ·exact (ce_put (f := false) (n := 0) hv (by decide)).1.symm
   ·exact e5 x x0 x1
  ·have ne : s' ≠ s := fun q => by
    rw [q, obs] at e1; cases e1
    exact h.ne l k l0 l1 k0 k1 hl hk e (e2.symm.trans hn)
   rw [if_neg e, hsm s' d' hs'.1 hs'.2 ne e1 x x0 (by omega)]; exact e5 x x0 x1
 ·obtain ⟨e1, e2, e3⟩ := h.dead l l0 l1 hl
  exact ⟨e1, e2, by rw [hg _ e2.1 e2.2]; exact e3⟩
end
end Go.Fl
namespace Go.Fl
open Go
set_option linter.unusedVariables false
set_option linter.unusedSimpArgs false
variable {N : Nm} {A B : Ar} {σ : Mem} {K : Value → Mem → Prop} {C : Cf} {who : Int}
theorem Wo.pin (hC : C.ok) (hwho : 0 ≤ who ∧ who < C.T) {b : Bg} {ob : Int → Option Do} {M v : Int} {w : Int → Int} (h : Wo C b ob M w) : Wo C b ob M (upd w (6 + who) v) := by
 have hT := hC.T
 refine h.keep hC (Bg.aw_pin hC hwho h.aw) (fun s s0 s1 => upd_ne _ _ (by unfold Cf.slot; omega)) fun s d s0 s1 e x x0 x1 => upd_ne _ _ ?_
 obtain ⟨q0, q1, q2, q3, q4⟩ := h.at' hC s0 s1 e x0 x1
 have := base_ge hC q1.1 q1.2 q2
 have := hC.S; have := hC.C
 omega
theorem Ar.ok.pin_s {b : Int} (h : A.ok b) (hb : b < 9000000000000000000) : (A.pin who).s = A.s + 3 := by
 have h1 := (h.by (who := who)).load (a := 0) (by omega)
 have h2 := (h1.by (who := who)).store (a := 6 + who) (by omega) (wrap_in (A.w 0 + 1))
 have e1 : ((A.by who).load 0).s = A.s + 1 := (h.by (who := who)).s1 (by omega)
 have e2 : ((((A.by who).load 0).by who).store (6 + who) (IntKind.u64.wrap (A.w 0 + 1))).s = ((A.by who).load 0).s + 1 := (h1.by (who := who)).s1 (by omega)
 have e3 : (A.pin who).s = ((((A.by who).load 0).by who).store (6 + who) (IntKind.u64.wrap (A.w 0 + 1))).s + 1 := (h2.by (who := who)).s1 (by omega)
 omega
theorem Ar.ok.out_s {b : Int} (h : A.ok b) (hb : b < 9000000000000000000) : (A.out who).s = A.s + 1 := (h.by (who := who)).s1 (by omega)
theorem GenO.pin (hC : C.ok) (hwho : 0 ≤ who ∧ who < C.T) {w : Int → Int} {v : Int} : GenO C w (upd w (6 + who) v) := fun t t0 t1 => by
 have hT := hC.T
 rw [upd_ne _ _ (by unfold Cf.slot; omega)]
theorem SameO.pin (hC : C.ok) (hwho : 0 ≤ who ∧ who < C.T) {b : Bg} {ob : Int → Option Do} {M s v : Int} {w : Int → Int} (h : Wo C b ob M w) : SameO C ob s w (upd w (6 + who) v) ∧ SameO C ob s (upd w (6 + who) v) w := by
 have key : ∀ t e, 0 ≤ t → t < C.S → ob t = some e → ∀ x, 0 ≤ x → x < e.z → upd w (6 + who) v (e.a C + 1 + x) = w (e.a C + 1 + x) := fun t e t0 t1 he x x0 x1 => by
  refine upd_ne _ _ ?_
  obtain ⟨q0, q1, q2, q3, q4⟩ := h.at' hC t0 t1 he (x := 1 + x) (by omega) (by omega)
  have := base_ge hC q1.1 q1.2 q2
  have := hC.S; have := hC.C
  omega
 exact ⟨fun t e t0 t1 _ he x x0 x1 => key t e t0 t1 he x x0 x1, fun t e t0 t1 _ he x x0 x1 => (key t e t0 t1 he x x0 x1).symm⟩
theorem GenO.pinA (hC : C.ok) (hwho : 0 ≤ who ∧ who < C.T) : GenO C A.w (A.pin who).w := GenO.pin hC hwho
theorem GenO.outA (hC : C.ok) (hwho : 0 ≤ who ∧ who < C.T) : GenO C A.w (A.out who).w := GenO.pin hC hwho
theorem Wo.pin_at (hC : C.ok) (hwho : 0 ≤ who ∧ who < C.T) {b : Bg} {ob : Int → Option Do} {M s v x : Int} {d : Do} {w : Int → Int} (h : Wo C b ob M w) (s0 : 0 ≤ s) (s1 : s < C.S) (hs : ob s = some d) (x0 : 0 ≤ x) (x1 : x ≤ d.z) : upd w (6 + who) v (d.a C + x) = w (d.a C + x) := by
 refine upd_ne _ _ ?_
 obtain ⟨q0, q1, q2, q3, q4⟩ := h.at' hC s0 s1 hs x0 x1
 have := base_ge hC q1.1 q1.2 q2
 have := hC.S; have := hC.C
 omega
theorem c_ActE (hN : N.ok) (hC : C.ok) (hA : isA N A σ) (hwho : 0 ≤ who ∧ who < C.T) {size h ix v old bb : Int} {own : Bool} (hok : okAct 1 v old) (hP : Pa C A bb) (hb : bb + 3 < 2305843009213693952) (hcl : classOf size < 0)
  (hk : ∀ τ, isA N ((A.pin who).out who) τ → Keep N.l σ τ → K (.agg #[.int .i64 5, .int .u64 0, .int .i64 0, .int .i64 (A.pin who).s]) τ) :
  s_a7 [N.env C who, .agg #[.int .i64 1, .int .i64 size, .int .u64 h, .int .i64 ix, .int .i64 v, .int .i64 old, .bool own]] K σ := by
 have hP3 := hP.pin hC hwho (by omega)
 have hS := hC.S
 have st : (Am.new size own).step C who (A.pin who) = (true, { Am.new size own with a := (Am.new size own).out (A.pin who) 5 }, A.pin who) := by
  unfold Am.step
  rw [if_pos (show (Am.new size own).a.pc = 0 from rfl), if_pos (show classOf (Am.new size own).a.size < 0 from hcl)]
 refine c_ActW hN hC hA hwho hP.ok.w hP.n hok (fun i k A' => i = 0 ∧ k = .al (Am.new size own) ∧ A' = A.pin who) (fun k A' => k = .al { Am.new size own with a := (Am.new size own).out (A.pin who) 5 } ∧ A' = A.pin who) ⟨rfl, rfl, rfl⟩ ?_ ?_ ?_ ?_
 ·rintro i k A' i0 i1 ⟨_, rfl, rfl⟩
  have p0 : (Am.new size own).a.pc = 0 := rfl
  have p1 : (Am.new size own).a.tk.pc = 0 := rfl
  have p2 : (Am.new size own).a.tk.top = 0 := rfl
  have p3 : (Am.new size own).a.tk.next = 0 := rfl
  refine ⟨⟨by omega, fun _ => ⟨by omega, fun q => by omega, by omega⟩, fun q => absurd rfl q, fun q => absurd rfl q, fun q => by omega, fun q => by omega, fun q => by omega⟩, hP3.ok.w, hP3.n, ?_⟩
  rw [if_pos (show ((Wk.al (Am.new size own)).step C who (A.pin who)).1 = true from by show ((Am.new size own).step C who (A.pin who)).1 = true; rw [st])]
  exact ⟨by show Wk.al ((Am.new size own).step C who (A.pin who)).2.1 = _; rw [st], by show ((Am.new size own).step C who (A.pin who)).2.2 = _; rw [st]⟩
 ·rintro k A' ⟨rfl, rfl⟩; exact ⟨hP3.ok.w, hP3.n⟩
 ·rintro k A' ⟨e, _⟩; omega
 ·rintro k A' τ ⟨rfl, rfl⟩ hA' hK; exact hk τ hA' hK
theorem c_WoA (hN : N.ok) (hC : C.ok) (hA : isA N A σ) (hwho : 0 ≤ who ∧ who < C.T) {b : Bg} {ob : Int → Option Do} {size h ix v old bb M : Int} {own : Bool} (hok : okAct 1 v old) (hP : Pa C A bb) (hb : bb + 110 < 2305843009213693952) (hW : Wo C b ob M A.w) (hM : M ≤ 900000000)
  (hk : ∀ E H V S b' ob' A' τ, A.s < S → S ≤ A'.s → AlR C b ob A.w size own E H b' ob' A'.w → Wo C b' ob' (M + 17) A'.w → Pa C A' (bb + 110) → A'.n = A.n → A'.w (6 + who) = 0 → isA N A' τ → Keep N.l σ τ → K (.agg #[.int .i64 E, .int .u64 H, .int .i64 V, .int .i64 S]) τ) :
  s_a7 [N.env C who, .agg #[.int .i64 1, .int .i64 size, .int .u64 h, .int .i64 ix, .int .i64 v, .int .i64 old, .bool own]] K σ := by
 have hP3 := hP.pin hC hwho (by omega)
 have e3 := hP.ok.pin_s (who := who) (by omega)
 have hW3 : Wo C b ob M (A.pin who).w := hW.pin hC hwho
 have hS3 := fun s => SameO.pin (s := s) (v := IntKind.u64.wrap (A.w 0 + 1)) hC hwho hW
 by_cases hcl : classOf size < 0
 ·refine c_ActE hN hC hA hwho hok hP (by omega) hcl fun τ hA' hK => ?_
  have hPo := hP3.out hC hwho (by omega)
  have es := hP3.ok.out_s (who := who) (by omega)
  refine hk 5 0 0 _ b ob _ τ (by omega) (by omega) ⟨(GenO.pinA hC hwho).trans (GenO.outA (A := A.pin who) hC hwho), .inl ⟨by decide, rfl, .inl ⟨hcl, rfl⟩, rfl, rfl, ?_⟩⟩ ?_ (hPo.mono (by omega)) rfl (upd_same _ _ _) hA' hK
  ·exact (hS3 (-1)).1.trans (SameO.pin (v := 0) hC hwho hW3).1
  ·have := hW3.pin (v := 0) hC hwho
   refine ⟨this.aw, this.lv.mono (by omega), this.gen, this.no, this.ok, this.ne, this.sm⟩
 ·have hcl' : 0 ≤ classOf size := by omega
  refine c_ActA hN hC hA hwho hok hP (by omega) hW.aw (hW.lv.ok (by omega)) hcl' fun m A' τ hD hP' hn hA' hK => ?_
  have hPo := hP'.out hC hwho (by omega)
  have es := hP'.ok.out_s (who := who) (by omega)
  have dn := hD.n
  have fin0 : ∀ (hE : m.a.oE ≠ 0) (hH : m.a.oH = 0) (hX : m.a.oE = 6 ∧ b.nx = C.C ∨ m.a.oE = 7 ∧ b.F = []) (haw : b.aw C A'.w), K (.agg #[.int .i64 m.a.oE, .int .u64 m.a.oH, .int .i64 m.a.oV, .int .i64 m.a.oS]) τ := by
   intro hE hH hX haw
   have fws : ∀ s, 0 ≤ s → s < C.S → A'.w (C.slot s) = (A.pin who).w (C.slot s) := fun s s0 s1 => hD.fw.slot s s0 s1 fun q => absurd q hE
   have wW := hW3.same_of hC hD.fw.word
   have hW4 : Wo C b ob M A'.w := hW3.keep hC haw fws wW
   have hW5 : Wo C b ob M (A'.out who).w := hW4.pin (v := 0) hC hwho
   have gn : GenO C (A.pin who).w A'.w := fun t t0 t1 => by rw [fws t t0 t1]
   refine hk _ _ _ _ b ob _ τ (by omega) (by omega) ⟨(GenO.pinA hC hwho).trans (gn.trans (GenO.outA (A := A') hC hwho)), .inl ⟨hE, hH, .inr ⟨hcl', hX⟩, rfl, rfl, ?_⟩⟩ ⟨hW5.aw, hW5.lv.mono (by omega), hW5.gen, hW5.no, hW5.ok, hW5.ne, hW5.sm⟩ (hPo.mono (by omega)) (show A'.n = A.n from hn) (upd_same _ _ _) hA' hK
   refine (hS3 (-1)).1.trans (SameO.trans (fun t e t0 t1 _ he x x0 x1 => ?_) (SameO.pin (v := 0) hC hwho hW4).1)
   have := wW t e t0 t1 he (1 + x) (by omega) (by omega)
   rw [show e.a C + 1 + x = e.a C + (1 + x) by omega]; exact this
  rcases hD.r with ⟨h1, h2, h3, h4⟩ | ⟨s, F, hF, ⟨h1, h2, h3, h4, h5⟩ | ⟨h1, h2, j, b', hg, hj, hu, eH, haw, w1, w2, w3⟩⟩
  ·exact fin0 (by omega) h2 (.inr ⟨h1, h3⟩) h4
  ·exact fin0 (by omega) h2 (.inl ⟨h1, h4⟩) h5
  ·have fwt : Fw C b True (A.pin who).w A'.w := ⟨fun t t0 t1 h => hD.fw.slot t t0 t1 fun _ => h trivial, hD.fw.word⟩
   obtain ⟨d, hW4, hs, obs, dn', dz, dow, ds, hsm, z0⟩ := hW3.make hC hM hF hcl' hg haw w1 w2 w3 fwt
   have hW5 : Wo C (b'.count j (roomOf (classOf size))) (updO ob s (some d)) (M + 17) (A'.out who).w := hW4.pin (v := 0) hC hwho
   have hge := hW3.gen s hs.1 hs.2
   have hG := hC.G
   have hSS := hC.S
   have hh := hd_handle (s := s) (g := slG ((A.pin who).w (C.slot s))) (by omega) (by omega)
   have gn : GenO C (A.pin who).w A'.w := fun t t0 t1 => by
    by_cases e : t = s
    ·subst e; rw [w1]; exact (sl_put' (by decide) (by have := base_of hC hj.1 hj.2 (i := b.u j) (by omega) (by have := (room_bd hcl' (class_bd size).2); omega); have := len_bd hC; omega) (by omega)).2.2
    ·rw [hD.fw.slot t t0 t1 fun _ F' q => by rw [hF] at q; cases q; exact e rfl]
   have gS : slG ((A.pin who).w (C.slot s)) = slG (A.w (C.slot s)) := GenO.pin hC hwho s hs.1 hs.2
   refine hk _ _ _ _ _ _ _ τ (by omega) (by omega) ⟨(GenO.pinA hC hwho).trans (gn.trans (GenO.outA (A := A') hC hwho)), .inr ⟨h1, hcl', s, F, d, hs, obs, hF, (hg.cnt hC (n := roomOf (classOf size))).1, ?_, rfl, ⟨by rw [eH]; omega, by rw [dn', eH], by rw [eH, gS]⟩, dz, dow, ds, ?_, fun x x0 x1 => ?_⟩⟩ hW5 (hPo.mono (by omega)) (show A'.n = A.n from hn) (upd_same _ _ _) hA' hK
   ·show b'.nx ≤ b.nx + 1
    rcases hg with ⟨_, _, q⟩ | ⟨_, _, _, q⟩ <;> rw [q]
    ·show b.nx ≤ _; omega
    ·exact Int.le_refl _
   ·refine (hS3 s).1.trans (hsm.trans ?_)
    exact SameO.mono (SameO.pin (s := s) (v := 0) hC hwho hW4).1 fun t ts => (updO_ne ts).symm
   ·have := hW4.pin_at (v := 0) (x := 1 + x) hC hwho hs.1 hs.2 updO_same (by omega) (by omega)
    rw [show d.a C + 1 + x = d.a C + (1 + x) by omega]
    refine this.trans ?_
    rw [show d.a C + (1 + x) = d.a C + 1 + x by omega]; exact z0 x x0 x1
theorem c_WoD (hN : N.ok) (hC : C.ok) (hA : isA N A σ) (hwho : 0 ≤ who ∧ who < C.T) {b : Bg} {ob : Int → Option Do} {size h ix v old bb M : Int} {own : Bool} (hok : okAct 2 v old) (h0 : 0 ≤ h ∧ h < 18446744073709551616) (hP : Pa C A bb) (hb : bb + 110 < 2305843009213693952) (hW : Wo C b ob M A.w) (hM : M ≤ 900000000)
  (hk : ∀ E V S b' ob' A' τ, A.s < S → S ≤ A'.s → (E = 3 ∧ (∀ s d, ¬ Hit C ob h own s d) ∧ ob' = ob ∧ b' = b ∧ SameO C ob (-1) A.w A'.w ∧ GenO C A.w A'.w ∨ E = 0 ∧ ∃ s d, Hit C ob h own s d ∧ ob' = updO ob s none ∧ SameO C ob s A.w A'.w ∧ ∀ t, 0 ≤ t → t < C.S → slG (A'.w (C.slot t)) = if t = s ∧ d.ge < C.G then d.ge + 1 else slG (A.w (C.slot t))) → Wo C b' ob' M A'.w → Pa C A' (bb + 110) → A'.n = A.n → A'.w (6 + who) = 0 → isA N A' τ → Keep N.l σ τ → K (.agg #[.int .i64 E, .int .u64 0, .int .i64 V, .int .i64 S]) τ) :
  s_a7 [N.env C who, .agg #[.int .i64 2, .int .i64 size, .int .u64 h, .int .i64 ix, .int .i64 v, .int .i64 old, .bool own]] K σ := by
 have hP3 := hP.pin hC hwho (by omega)
 have e3 := hP.ok.pin_s (who := who) (by omega)
 have hW3 : Wo C b ob M (A.pin who).w := hW.pin hC hwho
 have hS3 := fun s => SameO.pin (s := s) (v := IntKind.u64.wrap (A.w 0 + 1)) hC hwho hW
 by_cases hh : ∃ s d, Hit C ob h own s d
 ·obtain ⟨s, d, hit⟩ := hh
  obtain ⟨⟨s0, s1⟩, hs, rfl, rfl⟩ := hit
  have ho := (hW3.ok s d s0 s1 hs).1
  have hlv := hW.lv.lv d.j ho.j.1 ho.j.2
  refine c_ActD hN hC hA hwho hok hP (by omega) hW.aw ho (by omega) fun m A' τ hD hP' hn hA' hK => ?_
  have hPo := hP'.out hC hwho (by omega)
  have es := hP'.ok.out_s (who := who) (by omega)
  have st := hD.st
  obtain ⟨hW4, hsm⟩ := hW3.drop hC s0 s1 hs hD.fr hD.sl hD.aw
  have hW5 := hW4.pin (v := 0) hC hwho
  refine hk 0 _ _ _ _ _ τ (by omega) (by omega) (.inr ⟨rfl, s, d, ⟨⟨s0, s1⟩, hs, rfl, rfl⟩, rfl, ?_, fun t t0 t1 => ?_⟩) hW5 (hPo.mono (by omega)) (show A'.n = A.n from hn) (upd_same _ _ _) hA' hK
  ·refine (hS3 s).1.trans (hsm.trans ?_)
   exact SameO.mono (SameO.pin (s := s) (v := 0) hC hwho hW4).1 fun t ts => (updO_ne ts).symm
  ·have g1 : slG ((A'.out who).w (C.slot t)) = slG (A'.w (C.slot t)) := GenO.pin hC hwho t t0 t1
   have g2 : slG ((A.pin who).w (C.slot t)) = slG (A.w (C.slot t)) := GenO.pin hC hwho t t0 t1
   have es' := (hW3.ok s d s0 s1 hs).2.1
   have hT := hC.T
   have hSS := hC.S
   have hCC := hC.C
   have hG := hC.G
   have av := d.av hC ho ⟨_, hW3.aw⟩
   have b0 : C.base 0 = 6 + C.T + 2 * C.S + 3 * C.C := by unfold Cf.base; omega
   have hj := ho.j
   have hge := ho.ge
   rw [g1]
   by_cases e : t = s
   ·subst e
    have h1 := hD.sl
    rw [es'] at h1
    rw [h1]
    unfold Do.nx
    by_cases c : d.ge < C.G
    ·rw [if_neg (show ¬ C.G ≤ d.ge by omega), if_pos (show t = t ∧ d.ge < C.G from ⟨rfl, c⟩)]; exact (sl_put' (by decide) (by decide) (by omega)).2.2
    ·rw [if_pos (show C.G ≤ d.ge by omega), if_neg (show ¬ (t = t ∧ d.ge < C.G) from fun q => c q.2), ← g2, ← es', ho.ws, ho.sg]; exact (sl_put' (by decide) (by decide) (by omega)).2.2
   ·rw [if_neg (show ¬ (t = s ∧ d.ge < C.G) from fun q => e q.1), ← g2]
    congr 1
    refine hD.fr _ (by rw [es']; unfold Cf.slot; omega) (by unfold Cf.slot; omega) (by rw [es']; unfold Cf.slot; omega) (by unfold Cf.slot Cf.chunk; omega) (by unfold Cf.slot; omega)
 ·have hm : ∀ s d, ¬ Hit C ob h own s d := fun s d q => hh ⟨s, d, q⟩
  refine c_ActNo hN hC hA hwho hok h0 hP (by omega) (hW3.miss hC h0 hm) fun m A' τ hD hA' hK => ?_
  have hok4 := hD.ok _ hP3.ok
  have hs := hD.s
  have hP4 : Pa C A' (bb + 3 + 2) := ⟨hok4, by rw [hD.n]; exact hP.n, fun c c0 c3 => by rw [hD.w]; exact hP3.op c c0 c3⟩
  have hPo := hP4.out hC hwho (by omega)
  have es := hP4.ok.out_s (who := who) (by omega)
  have hW4 : Wo C b ob M A'.w := by rw [hD.w]; exact hW3
  refine hk 3 _ _ b ob _ τ (by omega) (by omega) (.inl ⟨rfl, hm, rfl, rfl, ?_, (GenO.pinA hC hwho).trans (GenO.trans (fun t _ _ => by rw [hD.w]) (GenO.outA (A := A') hC hwho))⟩) (hW4.pin (v := 0) hC hwho) (hPo.mono (by omega)) (show A'.n = A.n from hD.n) (upd_same _ _ _) hA' hK
  have e : SameO C ob (-1) (A.pin who).w A'.w := fun t e _ _ _ _ x _ _ => by rw [hD.w]
  exact (hS3 (-1)).1.trans (e.trans (SameO.pin (s := -1) (v := 0) hC hwho hW4).1)
theorem c_WoX (hN : N.ok) (hC : C.ok) (hA : isA N A σ) (hwho : 0 ≤ who ∧ who < C.T) {b : Bg} {ob : Int → Option Do} {k size h ix v old bb M : Int} {own : Bool} (hok : okAct k v old) (k3 : 3 ≤ k) (h0 : 0 ≤ h ∧ h < 18446744073709551616) (hP : Pa C A bb) (hb : bb + 110 < 2305843009213693952) (hb2 : (A.n : Int) ≤ 200000000) (hW : Wo C b ob M A.w) (hM : M ≤ 900000000)
  (hk : ∀ E V S A' τ, A.s < S → S ≤ A'.s → AxR C ob A.w (k - 2) h ix v old own E V A'.w → GenO C A.w A'.w → Wo C b ob M A'.w → Pa C A' (bb + 110) → A'.n = A.n → A'.w (6 + who) = 0 → isA N A' τ → Keep N.l σ τ → K (.agg #[.int .i64 E, .int .u64 0, .int .i64 V, .int .i64 S]) τ) :
  s_a7 [N.env C who, .agg #[.int .i64 k, .int .i64 size, .int .u64 h, .int .i64 ix, .int .i64 v, .int .i64 old, .bool own]] K σ := by
 have hP3 := hP.pin hC hwho (by omega)
 have e3 := hP.ok.pin_s (who := who) (by omega)
 have hW3 : Wo C b ob M (A.pin who).w := hW.pin hC hwho
 have hS3 := fun s => SameO.pin (s := s) (v := IntKind.u64.wrap (A.w 0 + 1)) hC hwho hW
 by_cases hh : ∃ s d, Hit C ob h own s d
 ·obtain ⟨s, d, hit⟩ := hh
  have hol := hW3.ol hC hit
  have hit' := hit
  obtain ⟨⟨s0, s1⟩, hs, _, _⟩ := hit'
  refine c_ActL hN hC hA hwho hok k3 hP (by omega) hb2 hol fun m A' τ hD hA' hK => ?_
  have hok4 := hD.ok _ hP3.ok
  have cell : ∀ x, 0 ≤ x → x < d.z → (A.pin who).w (d.a C + 1 + x) = A.w (d.a C + 1 + x) := fun x x0 x1 => by
   rw [show d.a C + 1 + x = d.a C + (1 + x) by omega]; exact hW.pin_at hC hwho s0 s1 hs (by omega) (by omega)
  have fin : ∀ (E V S : Int), A.s < S → S ≤ A'.s → AxR C ob (A.pin who).w (k - 2) h ix v old own E V A'.w → GenO C (A.pin who).w A'.w → Wo C b ob M A'.w → K (.agg #[.int .i64 E, .int .u64 0, .int .i64 V, .int .i64 S]) τ := by
   intro E V S q1 q2 q3 gn hW4
   have hP4 : Pa C A' (bb + 3 + 4) := hW4.aw.pa hC hok4 (by rw [hD.n]; exact hP.n)
   have hPo := hP4.out hC hwho (by omega)
   have es := hP4.ok.out_s (who := who) (by omega)
   have So := fun s => (SameO.pin (s := s) (v := 0) hC hwho hW4).1
   refine hk _ _ _ _ τ q1 (by omega) ?_ ((GenO.pinA hC hwho).trans (gn.trans (GenO.outA (A := A') hC hwho))) (hW4.pin (v := 0) hC hwho) (hPo.mono (by omega)) (show A'.n = A.n from hD.n) (upd_same _ _ _) hA' hK
   rcases q3 with ⟨r1, r2, r3⟩ | ⟨t, e, ht, ⟨r1, r2, r3⟩ | ⟨r1, r2, r3⟩⟩
   ·exact .inl ⟨r1, r2, (hS3 _).1.trans (r3.trans (So _))⟩
   ·exact .inr ⟨t, e, ht, .inl ⟨r1, r2, (hS3 _).1.trans (r3.trans (So _))⟩⟩
   ·have ht' := ht
    obtain ⟨⟨t0, t1⟩, hte, _, _⟩ := ht'
    have cellt : ∀ x, 0 ≤ x → x < e.z → (A.pin who).w (e.a C + 1 + x) = A.w (e.a C + 1 + x) := fun x x0 x1 => by
     rw [show e.a C + 1 + x = e.a C + (1 + x) by omega]; exact hW.pin_at hC hwho t0 t1 hte (by omega) (by omega)
    refine .inr ⟨t, e, ht, .inr ⟨r1, by rw [r2, cellt ix r1.1 r1.2], ?_⟩⟩
    rcases r3 with ⟨r3, r4, r5⟩ | ⟨r3, r4, r5, r6⟩
    ·exact .inl ⟨r3, r4, (hS3 _).1.trans (r5.trans (So _))⟩
    ·refine .inr ⟨r3, r4, (hS3 _).1.trans (r5.trans (So _)), fun x x0 x1 => ?_⟩
     have h1 := hW4.pin_at (v := 0) (x := 1 + x) hC hwho t0 t1 hte (by omega) (by omega)
     rw [show e.a C + (1 + x) = e.a C + 1 + x by omega] at h1
     refine (show (A'.out who).w (e.a C + 1 + x) = _ from h1).trans ?_
     rw [r6 x x0 x1, cellt x x0 x1]
  rcases hD.r with ⟨r1, r2, r3, r4, r5, r6⟩ | ⟨r1, r2, r3, r4⟩
  ·have r1' : ¬ (0 ≤ ix ∧ ix < d.z) := r1
   rw [r2, r3]
   exact fin _ _ _ (by omega) (by omega) (.inr ⟨s, d, hit, .inl ⟨r1', rfl, fun t e _ _ _ _ x _ _ => by rw [r6]⟩⟩) (fun t _ _ => by rw [r6]) (by rw [r6]; exact hW3)
  ·have r1' : 0 ≤ ix ∧ ix < d.z := r1
   rcases r4 with ⟨q1, q2, q3, q4⟩ | ⟨q1, q2, q3, q4⟩
   ·refine fin _ _ _ (by omega) (by omega) (.inr ⟨s, d, hit, .inr ⟨r1', r3, .inl ⟨?_, q2, fun t e _ _ _ _ x _ _ => by rw [q4]⟩⟩⟩) (fun t _ _ => by rw [q4]) (by rw [q4]; exact hW3)
    rw [r3]; exact q1
   ·have hv : 0 ≤ v ∧ v ≤ 1099511627775 := hok.2.1
    obtain ⟨hW4, hsm⟩ := hW3.lay hC s0 s1 hs r1'.1 r1'.2 hv
    have q4' : A'.w = upd (A.pin who).w (d.a C + 1 + ix) (putCell v false 0) := q4
    rw [← q4'] at hW4 hsm
    refine fin _ _ _ (by omega) (by omega) (.inr ⟨s, d, hit, .inr ⟨r1', r3, .inr ⟨?_, q2, hsm, fun x x0 x1 => ?_⟩⟩⟩) ?_ hW4
    ·rw [r3]; exact q1
    rotate_left
    ·intro t t0 t1
     have hT := hC.T
     have av := d.av hC (hW3.ok s d s0 s1 hs).1 ⟨_, hW3.aw⟩
     have b0 : C.base 0 = 6 + C.T + 2 * C.S + 3 * C.C := by unfold Cf.base; omega
     have hCC := hC.C
     rw [q4', upd_ne _ _ (by unfold Cf.slot; omega)]
    ·rw [q4']
     by_cases e : x = ix
     ·rw [e, upd_same, if_pos rfl]
     ·rw [upd_ne _ _ (by omega), if_neg e]
 ·have hm : ∀ s d, ¬ Hit C ob h own s d := fun s d q => hh ⟨s, d, q⟩
  refine c_ActNa hN hC hA hwho hok k3 h0 hP (by omega) hb2 (hW3.miss hC h0 hm) fun m A' τ hD hA' hK => ?_
  have hok4 := hD.ok _ hP3.ok
  have hs := hD.s
  have hP4 : Pa C A' (bb + 3 + 2) := ⟨hok4, by rw [hD.n]; exact hP.n, fun c c0 c3 => by rw [hD.w]; exact hP3.op c c0 c3⟩
  have hPo := hP4.out hC hwho (by omega)
  have es := hP4.ok.out_s (who := who) (by omega)
  have hW4 : Wo C b ob M A'.w := by rw [hD.w]; exact hW3
  refine hk 3 _ _ _ τ (by omega) (by omega) (.inl ⟨rfl, hm, ?_⟩) ((GenO.pinA hC hwho).trans (GenO.trans (fun t _ _ => by rw [hD.w]) (GenO.outA (A := A') hC hwho))) (hW4.pin (v := 0) hC hwho) (hPo.mono (by omega)) (show A'.n = A.n from hD.n) (upd_same _ _ _) hA' hK
  have e : SameO C ob (-1) (A.pin who).w A'.w := fun t e _ _ _ _ x _ _ => by rw [hD.w]
  exact (hS3 (-1)).1.trans (e.trans (SameO.pin (s := -1) (v := 0) hC hwho hW4).1)
end Go.Fl
namespace Go.Fl
open Go
set_option linter.unusedVariables false
set_option linter.unusedSimpArgs false
variable {N : Nm} {A B : Ar} {σ : Mem} {K : Value → Mem → Prop} {C : Cf} {who : Int}
theorem act7 {l : List Value} (h : FlatL [some .i64, some .i64, some .u64, some .i64, some .i64, some .i64, none] l) : ∃ k sz h' ix v old o, l = [.int .i64 k, .int .i64 sz, .int .u64 h', .int .i64 ix, .int .i64 v, .int .i64 old, .bool o] ∧ 0 ≤ h' ∧ h' < 18446744073709551616 := by
 cases h with | cons h1 h =>
 cases h with | cons h2 h =>
 cases h with | cons h3 h =>
 cases h with | cons h4 h =>
 cases h with | cons h5 h =>
 cases h with | cons h6 h =>
 cases h with | cons h7 h =>
 cases h
 obtain ⟨a, rfl, _⟩ := h1
 obtain ⟨b, rfl, _⟩ := h2
 obtain ⟨c, rfl, w⟩ := h3
 obtain ⟨d, rfl, _⟩ := h4
 obtain ⟨e, rfl, _⟩ := h5
 obtain ⟨f, rfl, _⟩ := h6
 obtain ⟨g, rfl⟩ := h7
 have : 0 ≤ c ∧ c ≤ 18446744073709551615 := by simpa [Lit.wf, IntKind.min, IntKind.max, IntKind.signed, IntKind.bits] using w
 exact ⟨a, b, c, d, e, f, g, rfl, by omega, by omega⟩
section
variable {q : Nat} {k sz h ix v old x : Int} {own y : Bool}
theorem gA7 {a b c d e f : Int} {g : Bool} : gStore 7 [.pointer (some ⟨q, 0, some 0⟩), .agg #[.int .i64 k, .int .i64 sz, .int .u64 h, .int .i64 ix, .int .i64 v, .int .i64 old, .bool own]] [.int .i64 a, .int .i64 b, .int .u64 c, .int .i64 d, .int .i64 e, .int .i64 f, .bool g] = some [.int .i64 k, .int .i64 sz, .int .u64 h, .int .i64 ix, .int .i64 v, .int .i64 old, .bool own] := rfl
theorem gA0 : gStore 1 [.pointer (some ⟨q, 0, some 0⟩), .int .i64 x] [.int .i64 k, .int .i64 sz, .int .u64 h, .int .i64 ix, .int .i64 v, .int .i64 old, .bool own] = some [.int .i64 x, .int .i64 sz, .int .u64 h, .int .i64 ix, .int .i64 v, .int .i64 old, .bool own] := rfl
theorem gA2 : gStore 1 [.pointer (some ⟨q, 2, some 0⟩), .int .u64 x] [.int .i64 k, .int .i64 sz, .int .u64 h, .int .i64 ix, .int .i64 v, .int .i64 old, .bool own] = some [.int .i64 k, .int .i64 sz, .int .u64 x, .int .i64 ix, .int .i64 v, .int .i64 old, .bool own] := rfl
theorem gA4 : gStore 1 [.pointer (some ⟨q, 4, some 0⟩), .int .i64 x] [.int .i64 k, .int .i64 sz, .int .u64 h, .int .i64 ix, .int .i64 v, .int .i64 old, .bool own] = some [.int .i64 k, .int .i64 sz, .int .u64 h, .int .i64 ix, .int .i64 x, .int .i64 old, .bool own] := rfl
theorem gA5 : gStore 1 [.pointer (some ⟨q, 5, some 0⟩), .int .i64 x] [.int .i64 k, .int .i64 sz, .int .u64 h, .int .i64 ix, .int .i64 v, .int .i64 old, .bool own] = some [.int .i64 k, .int .i64 sz, .int .u64 h, .int .i64 ix, .int .i64 v, .int .i64 x, .bool own] := rfl
theorem gD4 {a b c d x y z w : Int} : gStore 4 [.pointer (some ⟨q, 0, some 0⟩), .agg #[.int .i64 x, .int .u64 y, .int .i64 z, .int .i64 w]] [.int .i64 a, .int .u64 b, .int .i64 c, .int .i64 d] = some [.int .i64 x, .int .u64 y, .int .i64 z, .int .i64 w] := rfl
def cutK (k : Int) : Int := 1 + (k.tmod 5 + 5).tmod 5
theorem cutK_bd (k : Int) : 1 ≤ cutK k ∧ cutK k ≤ 5 := by
 have := (pickN k (show (0 : Int) < 5 by decide) (by decide)).2; unfold cutK; omega
theorem c_cut : s_ba [.agg #[.int .i64 k, .int .i64 sz, .int .u64 h, .int .i64 ix, .int .i64 v, .int .i64 old, .bool own]] K σ = K (.agg #[.int .i64 (cutK k), .int .i64 sz, .int .u64 h, .int .i64 ix, .int .i64 (v % 1099511627776), .int .i64 (old % 1099511627776), .bool own]) σ := by
 obtain ⟨pk1, pk2, pk3⟩ := pickN k (show (0 : Int) < 5 by decide) (by decide)
 have ec : IntKind.i64.wrap (1 + (k.tmod 5 + 5).tmod 5) = cutK k := IntWalk.i64_in _ (by omega)
 have t5 : (5 : Int) ≠ 0 := by decide
 simp only [s_ba, w_ba, box7, sub7, xRem t5, pk1, ec, gA0, gA4, gA5, gA7, andI40, ruS, ruL, ruE, Nat.reduceAdd, reduceIte, Int.reduceLT, Int.reduceLE, Int.reduceEq, Int.reduceNeg, Int.reduceAdd, Int.reduceSub, Nat.reduceLeDiff, Nat.reduceLT]
end
end Go.Fl
namespace Go.Fl
open Go
set_option linter.unusedVariables false
set_option linter.unusedSimpArgs false
variable {N : Nm} {A B : Ar} {σ τ : Mem} {K : Value → Mem → Prop} {C : Cf} {who : Int}
def vals (n : Nat) (f : Int → Value) : List Value := (List.range n).map fun i : Nat => f (i : Int)
theorem vals_len {n : Nat} {f : Int → Value} : (vals n f).length = n := by simp [vals]
theorem vals_get {n : Nat} (f : Int → Value) {a : Int} (h0 : 0 ≤ a) (h1 : a < n) : (vals n f)[a.toNat]? = some (f a) := by
 unfold vals
 rw [List.getElem?_map, List.getElem?_range (by omega)]
 simp only [Option.map_some]
 rw [show ((a.toNat : Nat) : Int) = a by omega]
theorem vals_snoc {n : Nat} {f g : Int → Value} (h : ∀ i : Int, 0 ≤ i → i < n → g i = f i) : vals n f ++ [g n] = vals (n + 1) g := by
 unfold vals
 rw [List.range_succ, List.map_append]
 congr 1
 apply List.map_congr_left
 intro i hi
 rw [h i (by omega) (by have := List.mem_range.1 hi; omega)]
theorem vals_set {n : Nat} {f g : Int → Value} {a : Int} (h0 : 0 ≤ a) (h1 : a < n) (h : ∀ i, i ≠ a → g i = f i) : (vals n f).set a.toNat (g a) = vals n g := by
 apply List.ext_getElem?
 intro j
 rw [List.getElem?_set]
 unfold vals
 simp only [List.getElem?_map, List.length_map, List.length_range]
 by_cases e : a.toNat = j
 ·subst e
  rw [if_pos rfl, if_pos (by omega), List.getElem?_range (by omega)]
  simp only [Option.map_some]
  rw [show ((a.toNat : Nat) : Int) = a by omega]
 ·rw [if_neg e]
  by_cases hj : j < n
  ·rw [List.getElem?_range hj]; simp only [Option.map_some]; rw [h _ (by omega)]
  ·rw [List.getElem?_eq_none (by simp; omega)]; rfl
theorem app_k {p n by' q : Nat} {x : Value} {L : List Value} (hA : isA N A τ) (hE : Ext σ τ) (hp : p ∉ N.l ∧ σ.get p = none) (h : τ.get p = some ⟨L, true⟩) (hn : L.length = n) (hb : by' ≤ 1024) (hx : oneB x = true) (hl : n < 1073741823)
  (hk : ∀ id τ', id ∉ N.l ∧ σ.get id = none → τ.get id = none → isA N A τ' → Ext σ τ' → τ'.get id = some ⟨L ++ [x], true⟩ → Keep [p] τ τ' → K (.slice (some ⟨id, 0, none⟩) (n + 1) 1) τ') :
  hAppendL 1 by' [x] [.slice (some ⟨p, 0, none⟩) n 1, locS q 1 1] K τ := by
 refine hAppendL_i (pre := []) (L := L) h rfl hn hb hx hl fun id τ' hid g k => ?_
 have hd := hA.new hid
 have hnn := notin hp.1
 exact hk id τ' ⟨hd, hE.none hid⟩ hid (hA.keep k (by simp; exact ⟨hnn.1.symm, hnn.2.1.symm, hnn.2.2.symm⟩)) (hE.keep' k fun i hi => by simp at hi; rw [hi]; exact hp.2) g k
def wv (z : Int → Int) (q : Int → Nat) (lv : Int → Bool) (k : Int) : Value := if lv k = true then .slice (some ⟨q k, 0, none⟩) (z k).toNat 1 else .slice none 0 0
structure Rw3 (t : Bool) (N : Nm) (σ0 : Mem) (τ : Mem) (p0 p1 p2 n0 m n1 n2 : Nat) (hh z : Int → Int) (q : Int → Nat) (lv : Int → Bool) (va : Int → Int → Int) (ow : Int → Bool) : Prop where
 g0 : τ.get p0 = some ⟨cells .u64 n0 hh, true⟩
 g1 : τ.get p1 = some ⟨vals n1 (wv z q lv), true⟩
 g2 : t = true → τ.get p2 = some ⟨cellsB n2 ow, true⟩
 gq : ∀ k : Int, 0 ≤ k → k < m → lv k = true → τ.get (q k) = some ⟨cells .i64 (z k).toNat (va k), true⟩
 d0 : p0 ∉ N.l ∧ σ0.get p0 = none
 d1 : p1 ∉ N.l ∧ σ0.get p1 = none
 d2 : t = true → p2 ∉ N.l ∧ σ0.get p2 = none
 dq : ∀ k : Int, 0 ≤ k → k < m → lv k = true → q k ∉ N.l ∧ σ0.get (q k) = none
 ne : p0 ≠ p1 ∧ (t = true → p0 ≠ p2 ∧ p1 ≠ p2)
 nq : ∀ k : Int, 0 ≤ k → k < m → lv k = true → q k ≠ p0 ∧ q k ≠ p1 ∧ (t = true → q k ≠ p2)
 ap : ∀ k l : Int, 0 ≤ k → k < m → 0 ≤ l → l < m → lv k = true → lv l = true → k ≠ l → q k ≠ q l
section
variable {t : Bool} {σ0 τ' : Mem} {p0 p1 p2 n0 m n1 n2 : Nat} {hh z : Int → Int} {q : Int → Nat} {lv : Int → Bool} {va : Int → Int → Int} {ow : Int → Bool}
theorem Rw3.keep (h : Rw3 t N σ0 τ p0 p1 p2 n0 m n1 n2 hh z q lv va ow) (k : Keep N.l τ τ') : Rw3 t N σ0 τ' p0 p1 p2 n0 m n1 n2 hh z q lv va ow :=
 ⟨k.get h.g0 h.d0.1, k.get h.g1 h.d1.1, fun ht => k.get (h.g2 ht) (h.d2 ht).1, fun j j0 j1 hj => k.get (h.gq j j0 j1 hj) (h.dq j j0 j1 hj).1, h.d0, h.d1, h.d2, h.dq, h.ne, h.nq, h.ap⟩
theorem Rw3.app0 (h : Rw3 t N σ0 τ p0 p1 p2 n0 m n1 n2 hh z q lv va ow) {hh' : Int → Int} {H : Int} {l : Nat} (hA : isA N A τ) (hE : Ext σ0 τ) (hl : n0 < 1073741823) (e1 : ∀ k : Int, 0 ≤ k → k < n0 → hh' k = hh k) (e2 : hh' n0 = H)
  (hk : ∀ id τ', isA N A τ' → Ext σ0 τ' → Rw3 t N σ0 τ' id p1 p2 (n0 + 1) m n1 n2 hh' z q lv va ow → K (.slice (some ⟨id, 0, none⟩) (n0 + 1) 1) τ') : hAppendL 1 8 [.int .u64 H] [.slice (some ⟨p0, 0, none⟩) n0 1, locS l 1 1] K τ := by
 refine app_k hA hE h.d0 h.g0 (cells_len _ _ _) (by decide) rfl hl fun id τ' d0 hid hA' hE' g kp => hk id τ' hA' hE' ?_
 refine ⟨?_, kp.get h.g1 (by simpa using h.ne.1.symm), fun ht => kp.get (h.g2 ht) (by simpa using (h.ne.2 ht).1.symm), fun k k0 k1 hv => kp.get (h.gq k k0 k1 hv) (by simpa using (h.nq k k0 k1 hv).1), d0, h.d1, h.d2, h.dq, ⟨?_, fun ht => ⟨?_, (h.ne.2 ht).2⟩⟩, fun k k0 k1 hv => ⟨?_, (h.nq k k0 k1 hv).2⟩, h.ap⟩
 ·rw [g, ← cells_snoc e1, e2]
 ·rintro rfl; rw [h.g1] at hid; cases hid
 ·rintro rfl; rw [h.g2 ht] at hid; cases hid
 ·rintro rfl; rw [h.gq k k0 k1 hv] at hid; cases hid
theorem Rw3.app2 (ht : t = true) (h : Rw3 t N σ0 τ p0 p1 p2 n0 m n1 n2 hh z q lv va ow) {ow' : Int → Bool} {x : Bool} {l : Nat} (hA : isA N A τ) (hE : Ext σ0 τ) (hl : n2 < 1073741823) (e1 : ∀ k : Int, 0 ≤ k → k < n2 → ow' k = ow k) (e2 : ow' n2 = x)
  (hk : ∀ id τ', isA N A τ' → Ext σ0 τ' → Rw3 t N σ0 τ' p0 p1 id n0 m n1 (n2 + 1) hh z q lv va ow' → K (.slice (some ⟨id, 0, none⟩) (n2 + 1) 1) τ') : hAppendL 1 1 [.bool x] [.slice (some ⟨p2, 0, none⟩) n2 1, locS l 1 1] K τ := by
 refine app_k hA hE (h.d2 ht) (h.g2 ht) cellsB_len (by decide) rfl hl fun id τ' d0 hid hA' hE' g kp => hk id τ' hA' hE' ?_
 refine ⟨kp.get h.g0 (by simpa using (h.ne.2 ht).1), kp.get h.g1 (by simpa using (h.ne.2 ht).2), fun _ => ?_, fun k k0 k1 hv => kp.get (h.gq k k0 k1 hv) (by simpa using (h.nq k k0 k1 hv).2.2 ht), h.d0, h.d1, fun _ => d0, h.dq, ⟨h.ne.1, fun _ => ⟨?_, ?_⟩⟩, fun k k0 k1 hv => ⟨(h.nq k k0 k1 hv).1, (h.nq k k0 k1 hv).2.1, fun _ => ?_⟩, h.ap⟩
 ·rw [g, ← cellsB_snoc e1, e2]
 ·rintro rfl; rw [h.g0] at hid; cases hid
 ·rintro rfl; rw [h.g1] at hid; cases hid
 ·rintro rfl; rw [h.gq k k0 k1 hv] at hid; cases hid
theorem Rw3.app1 (h : Rw3 t N σ0 τ p0 p1 p2 n0 m n1 n2 hh z q lv va ow) {v : Value} {l : Nat} (hA : isA N A τ) (hE : Ext σ0 τ) (hl : n1 < 1073741823) (e2 : v = wv z q lv n1)
  (hk : ∀ id τ', isA N A τ' → Ext σ0 τ' → Rw3 t N σ0 τ' p0 id p2 n0 m (n1 + 1) n2 hh z q lv va ow → K (.slice (some ⟨id, 0, none⟩) (n1 + 1) 1) τ') : hAppendL 1 24 [v] [.slice (some ⟨p1, 0, none⟩) n1 1, locS l 1 1] K τ := by
 refine app_k hA hE h.d1 h.g1 vals_len (by decide) (by rw [e2]; unfold wv; split <;> rfl) hl fun id τ' d0 hid hA' hE' g kp => hk id τ' hA' hE' ?_
 refine ⟨kp.get h.g0 (by simpa using h.ne.1), ?_, fun ht => kp.get (h.g2 ht) (by simpa using (h.ne.2 ht).2.symm), fun k k0 k1 hv => kp.get (h.gq k k0 k1 hv) (by simpa using (h.nq k k0 k1 hv).2.1), h.d0, d0, h.d2, h.dq, ⟨?_, fun ht => ⟨(h.ne.2 ht).1, ?_⟩⟩, fun k k0 k1 hv => ⟨(h.nq k k0 k1 hv).1, ?_, (h.nq k k0 k1 hv).2.2⟩, h.ap⟩
 ·rw [g, e2, vals_snoc fun i _ _ => rfl]
 ·rintro rfl; rw [h.g0] at hid; cases hid
 ·rintro rfl; rw [h.g2 ht] at hid; cases hid
 ·rintro rfl; rw [h.gq k k0 k1 hv] at hid; cases hid
theorem Rw3.mk' (h : Rw3 t N σ0 τ p0 p1 p2 n0 m n1 n2 hh z q lv va ow) (hn1 : n1 ≤ m) {y : Int} (hA : isA N A τ) (hE : Ext σ0 τ) (y0 : 0 ≤ y) (y1 : y ≤ 1073741824)
  (hk : ∀ id τ', isA N A τ' → Ext σ0 τ' → Rw3 t N σ0 τ' p0 p1 p2 n0 (m + 1) n1 n2 hh (upd z m y) (fun k => if k = m then id else q k) (updB lv m true) (fun k => if k = m then fun _ => 0 else va k) ow → K (.slice (some ⟨id, 0, none⟩) y.toNat 1) τ') : hMakeS 1 8 [.int .i64 0] [.int .i64 y, .int .i64 y] K τ := by
 refine hMakeS_i y0 y1 (by decide) fun id τ' hid g x => ?_
 rw [cells_repl] at g
 have hA' := hA.ext x
 have hE' := hE.trans x
 have ne : ∀ r c, τ.get r = some c → id ≠ r := fun r c hr e => by rw [e, hr] at hid; cases hid
 have cs : ∀ k : Int, k < ((m + 1 : Nat) : Int) → k ≠ m → k < m := fun k h1 h2 => by omega
 refine hk id τ' hA' hE' ⟨x _ _ h.g0, ?_, fun ht => x _ _ (h.g2 ht), fun k k0 k1 hv => ?_, h.d0, h.d1, h.d2, fun k k0 k1 hv => ?_, h.ne, fun k k0 k1 hv => ?_, fun k l k0 k1 l0 l1 hv hw hkl => ?_⟩
 ·rw [x _ _ h.g1]
  congr 2
  unfold vals
  apply List.map_congr_left
  intro i hi
  have hi := List.mem_range.1 hi
  have e : (i : Int) ≠ m := by omega
  unfold wv updB upd
  simp only [if_neg e]
 ·by_cases e : k = m
  ·subst e; simp only [if_true, upd_same]; exact g
  ·have hv' : lv k = true := by unfold updB at hv; rw [if_neg e] at hv; exact hv
   simp only [if_neg e, upd_ne _ _ e]; exact x _ _ (h.gq k k0 (cs k k1 e) hv')
 ·by_cases e : k = m
  ·subst e; simp only [if_true]; exact ⟨hA.new hid, hE.none hid⟩
  ·have hv' : lv k = true := by unfold updB at hv; rw [if_neg e] at hv; exact hv
   simp only [if_neg e]; exact h.dq k k0 (cs k k1 e) hv'
 ·by_cases e : k = m
  ·subst e; simp only [if_true]; exact ⟨ne _ _ h.g0, ne _ _ h.g1, fun ht => ne _ _ (h.g2 ht)⟩
  ·have hv' : lv k = true := by unfold updB at hv; rw [if_neg e] at hv; exact hv
   simp only [if_neg e]; exact h.nq k k0 (cs k k1 e) hv'
 ·by_cases e : k = m
  ·have e' : l ≠ m := fun q => hkl (e.trans q.symm)
   have hw' : lv l = true := by unfold updB at hw; rw [if_neg e'] at hw; exact hw
   simp only [if_pos e, if_neg e']; exact ne _ _ (h.gq l l0 (cs l l1 e') hw')
  ·have hv' : lv k = true := by unfold updB at hv; rw [if_neg e] at hv; exact hv
   by_cases e' : l = m
   ·simp only [if_neg e, if_pos e']; exact (ne _ _ (h.gq k k0 (cs k k1 e) hv')).symm
   ·have hw' : lv l = true := by unfold updB at hw; rw [if_neg e'] at hw; exact hw
    simp only [if_neg e, if_neg e']; exact h.ap k l k0 (cs k k1 e) l0 (cs l l1 e') hv' hw' hkl
theorem Rw3.ld1 (h : Rw3 t N σ0 τ p0 p1 p2 n0 m n1 n2 hh z q lv va ow) {k : Int} (k0 : 0 ≤ k) (k1 : k < n1) : hLoad 1 false [.pointer (some ⟨p1, k.toNat * 1, none⟩)] K τ = K (wv z q lv k) τ := by
 rw [hLoad_eq h.g1, Nat.mul_one, sub_one (vals_get _ k0 k1), xOs]
theorem Rw3.st1 (h : Rw3 t N σ0 τ p0 p1 p2 n0 m n1 n2 hh z q lv va ow) {k : Int} (hA : isA N A τ) (hE : Ext σ0 τ) (k0 : 0 ≤ k) (k1 : k < n1) (hk : ∀ τ', isA N A τ' → Ext σ0 τ' → Rw3 t N σ0 τ' p0 p1 p2 n0 m n1 n2 hh z q (updB lv k false) va ow → K undef τ') : hStore 1 [.pointer (some ⟨p1, k.toNat * 1, none⟩), .slice none 0 0] K τ := by
 rw [hStore_eq h.g1 (c := [.slice none 0 0]) rfl (by rw [vals_len]; omega) rfl, Nat.mul_one, lay_set (by rw [vals_len]; omega)]
 have e : (vals n1 (wv z q lv)).set k.toNat (.slice none 0 0) = vals n1 (wv z q (updB lv k false)) := by
  have e2 : wv z q (updB lv k false) k = .slice none 0 0 := by unfold wv updB; simp
  rw [← e2]
  exact vals_set k0 k1 fun i hi => by unfold wv updB; rw [if_neg hi]
 rw [e]
 have lT : ∀ l, updB lv k false l = true → lv l = true := fun l hl => by
  unfold updB at hl; split at hl
  ·cases hl
  ·exact hl
 refine hk _ (hA.setO h.d1.1) ?_ ⟨?_, Mem.get_set_same _ _ _, fun ht => ?_, fun l l0 l1 hl => ?_, h.d0, h.d1, h.d2, fun l l0 l1 hl => h.dq l l0 l1 (lT l hl), h.ne, fun l l0 l1 hl => h.nq l l0 l1 (lT l hl), fun l j l0 l1 j0 j1 hl hj => h.ap l j l0 l1 j0 j1 (lT l hl) (lT j hj)⟩
 ·intro x c hx
  rw [Mem.get_set_ne _ _ (by rintro rfl; rw [h.d1.2] at hx; cases hx)]
  exact hE x c hx
 ·rw [Mem.get_set_ne _ _ h.ne.1]; exact h.g0
 ·rw [Mem.get_set_ne _ _ (h.ne.2 ht).2.symm]; exact h.g2 ht
 ·rw [Mem.get_set_ne _ _ (h.nq l l0 l1 (lT l hl)).2.1]; exact h.gq l l0 l1 (lT l hl)
theorem Rw3.ldq (h : Rw3 t N σ0 τ p0 p1 p2 n0 m n1 n2 hh z q lv va ow) {k x : Int} (k0 : 0 ≤ k) (k1 : k < m) (hv : lv k = true) (x0 : 0 ≤ x) (x1 : x < z k) : hLoad 1 false [.pointer (some ⟨q k, x.toNat * 1, none⟩)] K τ = K (.int .i64 (va k x)) τ :=
 ldCells (h.gq k k0 k1 hv) x0 (by omega)
theorem Rw3.stq (h : Rw3 t N σ0 τ p0 p1 p2 n0 m n1 n2 hh z q lv va ow) {k x y : Int} (hA : isA N A τ) (hE : Ext σ0 τ) (k0 : 0 ≤ k) (k1 : k < m) (hv : lv k = true) (x0 : 0 ≤ x) (x1 : x < z k)
  (hk : ∀ τ', isA N A τ' → Ext σ0 τ' → Rw3 t N σ0 τ' p0 p1 p2 n0 m n1 n2 hh z q lv (fun j => if j = k then upd (va k) x y else va j) ow → K undef τ') : hStore 1 [.pointer (some ⟨q k, x.toNat * 1, none⟩), .int .i64 y] K τ := by
 rw [stCells (h.gq k k0 k1 hv) x0 (by omega)]
 have dq := h.dq k k0 k1 hv
 have nq := h.nq k k0 k1 hv
 refine hk _ (hA.setO dq.1) ?_ ⟨?_, ?_, fun ht => ?_, fun l l0 l1 hl => ?_, h.d0, h.d1, h.d2, h.dq, h.ne, h.nq, h.ap⟩
 ·intro x c hx
  rw [Mem.get_set_ne _ _ (by rintro rfl; rw [dq.2] at hx; cases hx)]
  exact hE x c hx
 ·rw [Mem.get_set_ne _ _ nq.1.symm]; exact h.g0
 ·rw [Mem.get_set_ne _ _ nq.2.1.symm]; exact h.g1
 ·rw [Mem.get_set_ne _ _ (nq.2.2 ht).symm]; exact h.g2 ht
 ·by_cases e : l = k
  ·subst e; rw [if_pos rfl, Mem.get_set_same]
  ·rw [if_neg e, Mem.get_set_ne _ _ (h.ap l k l0 l1 k0 k1 hl hv e)]; exact h.gq l l0 l1 hl
end
end Go.Fl
namespace Go.Fl
open Go
set_option linter.unusedVariables false
set_option linter.unusedSimpArgs false
variable {N : Nm} {A B : Ar} {σ : Mem} {K : Value → Mem → Prop} {C : Cf} {who : Int}
theorem law_ActPlays (σ : Mem) (s : Value) (len : Nat) (cs : List Value) (sl : Sl σ 7 len cs s) (hm : len ≤ maxLen) (hf : FlatL (List.replicate len [some .i64, some .i64, some .u64, some .i64, some .i64, some .i64, none]).flatten cs) :
  s_a5 [s] (fun v _ => v = .bool true) σ := by
 have hg := sl.argS
 simp only [s_a5, w_a5, ruS, ruL, ruE, Nat.reduceAdd, reduceIte, Int.reduceLT, Int.reduceLE, Int.reduceEq, Int.reduceNeg, Int.reduceAdd, Int.reduceSub, Nat.reduceLeDiff, Nat.reduceLT]
 have hC : (cA 1 6 8 40).ok := cA_ok (by omega) (by omega) (by omega) (by omega)
 refine c_Arena (C := cA 1 6 8 40) hC rfl rfl rfl fun N A τ hN hF hA hE hfr => ?_
 simp only [c_awake15, gStoreE, w_a5_j1, w_a5_j1b, ruS, ruL, ruE, Nat.reduceAdd, reduceIte, Int.reduceLT, Int.reduceLE, Int.reduceEq, Int.reduceNeg, Int.reduceAdd, Int.reduceSub, Nat.reduceLeDiff, Nat.reduceLT]
 have hW := hF.wo hC
 have hP := hF.pa hC
 have hn := hF.n
 have hln := len_bd hC
 have hbb : 2 * (cA 1 6 8 40).S + 2 = 14 := rfl
 have hG : (cA 1 6 8 40).G = 100 := rfl
 have hwho : (0 : Int) ≤ 0 ∧ (0 : Int) < (cA 1 6 8 40).T := by decide
 have hgen0 : ∀ s, 0 ≤ s → s < (cA 1 6 8 40).S → slG (A.w ((cA 1 6 8 40).slot s)) ≤ 1 + 0 := by
  intro s s0 s1
  have : A.w ((cA 1 6 8 40).slot s) = putSlot 0 0 1 0 := by
   rw [hF.w]
   have hT := hC.T
   unfold Cf.w0 Cf.fr
   rw [if_neg (by unfold Cf.slot; omega), if_neg (by unfold Cf.slot; omega), if_pos (by unfold Cf.slot; omega), if_pos (by unfold Cf.slot; omega)]
  rw [this]; decide
 rw [hbb] at hP
 generalize cA 1 6 8 40 = C at *
 generalize Bg.fr C = b at *
 clear hF
 refine hBuildS_i [] rfl fun p0 τ0 m0 h0 x0 => ?_
 refine hBuildS_i [] rfl fun p1 τ1 m1 h1 x1 => ?_
 refine hBuildS_i [] rfl fun p2 τ2 m2 h2 x2 => ?_
 have hA0 := hA.ext x0
 have hA1 := hA0.ext x1
 have hA2 := hA1.ext x2
 have e0 := hE.trans x0
 have e1 := e0.trans x1
 have e2 := e1.trans x2
 have r0 : Rw3 true N σ τ2 p0 p1 p2 0 0 0 0 (fun _ => 0) (fun _ => 0) (fun _ => 0) (fun _ => false) (fun _ _ => 0) (fun _ => false) := by
  refine ⟨x2 _ _ (x1 _ _ h0), x2 _ _ h1, fun _ => h2, fun k k0 k1 => by omega, ⟨hA.new m0, hE.none m0⟩, ⟨hA0.new m1, e0.none m1⟩, fun _ => ⟨hA1.new m2, e1.none m2⟩, fun k k0 k1 => by omega, ⟨?_, fun _ => ⟨?_, ?_⟩⟩, fun k k0 k1 => by omega, fun k l k0 k1 => by omega⟩
  ·rintro rfl; rw [h0] at m1; cases m1
  ·rintro rfl; rw [x1 _ _ h0] at m2; cases m2
  ·rintro rfl; rw [h1] at m2; cases m2
 have py0 : Py C 0 0 (fun _ => none) A.w (fun _ => 0) (fun _ => 0) (fun _ => false) (fun _ _ => 0) (fun _ => false) :=
  ⟨hgen0, fun k k0 k1 => by omega, fun k k0 k1 => by omega, fun k k0 k1 => by omega, fun k l k0 k1 => by omega, fun _ _ _ _ => rfl⟩
 have fin : ∀ τ, w_a5_j2 (fun v _ => v = .bool true) [] [] τ := fun τ => by simp only [w_a5_j2, w_a5_j2b, ruS, ruL, ruE, Nat.reduceAdd, reduceIte, Int.reduceLT, Int.reduceLE, Int.reduceEq, Int.reduceNeg, Int.reduceAdd, Int.reduceSub, Nat.reduceLeDiff, Nat.reduceLT]
 refine xLoop_r (fun m ts ls τ => ∃ i n p0 p1 p2 A b ob hh z q lv va ow, m = (80 - i).toNat ∧ ts = [s, .slice (some ⟨p0, 0, none⟩) n 1, .slice (some ⟨p1, 0, none⟩) n 1, .slice (some ⟨p2, 0, none⟩) n 1, .int .i64 i] ∧ ls = [N.el C 0] ∧ 0 ≤ i ∧ i ≤ 80 ∧ (n : Int) ≤ i ∧
   isA N A τ ∧ Pa C A (14 + 110 * i) ∧ Wo C b ob (17 * i) A.w ∧ (A.n : Int) ≤ 200000000 ∧ Py C i n ob A.w hh z lv va ow ∧ Rw3 true N σ τ p0 p1 p2 n n n n hh z q lv va ow ∧ Ext σ τ) ?_ (n := 80)
  ⟨0, 0, p0, p1, p2, A, b, _, _, _, _, _, _, _, rfl, rfl, rfl, Int.le_refl 0, by decide, by decide, hA2, hP, hW, by omega, py0, r0, e2⟩
 clear r0 py0 hA0 hA1 hA2 e0 e1 e2 m0 m1 m2 h0 h1 h2 x0 x1 x2 hP hW hA hgen0 hn hln
 rintro m ts ls τ1 ⟨i, n, p0, p1, p2, A1, b1, ob, hh, z, q, lv, va, ow, rfl, rfl, rfl, i0, i1, n1, hA1, hP1, hW1, hn1, hI, rw1, ext1⟩ R hR
 have hg1 := hg.keep ext1
 simp only [w_law15_ActPlays_l7, w_law15_ActPlays_l7b, hg1.len, ruS, ruL, ruE, Nat.reduceAdd, reduceIte, Int.reduceLT, Int.reduceLE, Int.reduceEq, Int.reduceNeg, Int.reduceAdd, Int.reduceSub, Nat.reduceLeDiff, Nat.reduceLT]
 by_cases c1 : i < len
 rotate_left
 ·simp only [c1, ruS, ruL, ruE, Nat.reduceAdd, reduceIte, Int.reduceLT, Int.reduceLE, Int.reduceEq, Int.reduceNeg, Int.reduceAdd, Int.reduceSub, Nat.reduceLeDiff, Nat.reduceLT]; exact fin _
 by_cases c2 : i < 80
 rotate_left
 ·simp only [c1, c2, ruS, ruL, ruE, Nat.reduceAdd, reduceIte, Int.reduceLT, Int.reduceLE, Int.reduceEq, Int.reduceNeg, Int.reduceAdd, Int.reduceSub, Nat.reduceLeDiff, Nat.reduceLT]; exact fin _
 clear fin
 have hel := hf.elem (i := i.toNat) (by omega)
 obtain ⟨kd, sz, h, ix, v, old, own, hL, u0, u1⟩ := act7 hel
 simp only [c1, c2, w_a5_j3, w_a5_j3b, ruS, ruL, ruE, Nat.reduceAdd, reduceIte, Int.reduceLT, Int.reduceLE, Int.reduceEq, Int.reduceNeg, Int.reduceAdd, Int.reduceSub, Nat.reduceLeDiff, Nat.reduceLT]
 rw [hg1.ix i0 c1]
 simp only [List.length_cons, List.length_nil, Nat.zero_add, Nat.reduceAdd] at hL
 rw [hL]
 simp only [c_cut, gA7, xLen, ruS, ruL, ruE, Nat.reduceAdd, reduceIte, Int.reduceLT, Int.reduceLE, Int.reduceEq, Int.reduceNeg, Int.reduceAdd, Int.reduceSub, Nat.reduceLeDiff, Nat.reduceLT]
 have hkd := cutK_bd kd
 have hv : 0 ≤ v % 1099511627776 ∧ v % 1099511627776 ≤ 1099511627775 := by omega
 have hol : 0 ≤ old % 1099511627776 ∧ old % 1099511627776 ≤ 1099511627775 := by omega
 generalize cutK kd = kk at *
 generalize v % 1099511627776 = v' at *
 generalize old % 1099511627776 = old' at *
 have ok1 : okAct kk v' old' := ⟨hkd, hv, hol⟩
 have nxt : ∀ (n' p0' p1' p2' : Nat) (A' : Ar) b' ob' hh' z' q' lv' va' ow' τ', (n' : Int) ≤ i + 1 → isA N A' τ' → Pa C A' (14 + 110 * i + 110) → Wo C b' ob' (17 * i + 17) A'.w → A'.n = A1.n → Py C (i + 1) n' ob' A'.w hh' z' lv' va' ow' → Rw3 true N σ τ' p0' p1' p2' n' n' n' n' hh' z' q' lv' va' ow' → Ext σ τ' →
   w_a5_j4 (fun v _ => v = .bool true) (w_a5_j2 fun v _ => v = .bool true) R [s, .slice (some ⟨p0', 0, none⟩) n' 1, .slice (some ⟨p1', 0, none⟩) n' 1, .slice (some ⟨p2', 0, none⟩) n' 1, .int .i64 i] [N.el C 0] τ' := by
  intro n' p0' p1' p2' A' b' ob' hh' z' q' lv' va' ow' τ' a0 a1 a2 a3 a4 a5 a6 a7
  simp only [w_a5_j4, w_a5_j4b, ruS, ruL, ruE, Nat.reduceAdd, reduceIte, Int.reduceLT, Int.reduceLE, Int.reduceEq, Int.reduceNeg, Int.reduceAdd, Int.reduceSub, Nat.reduceLeDiff, Nat.reduceLT]
  rw [IntWalk.i64_in (i + 1) (by omega)]
  exact hR (80 - (i + 1)).toNat _ _ _ (by omega) ⟨i + 1, n', p0', p1', p2', A', b', ob', hh', z', q', lv', va', ow', rfl, rfl, rfl, by omega, by omega, a0, a1, a2.mono (by omega), by rw [show 17 * (i + 1) = 17 * i + 17 by omega]; exact a3, by omega, a5, a6, a7⟩
 have mono : ∀ {b' : Bg} {ob' : Int → Option Do} {w' : Int → Int}, Wo C b' ob' (17 * i) w' → Wo C b' ob' (17 * i + 17) w' := fun h => ⟨h.aw, h.lv.mono (by omega), h.gen, h.no, h.ok, h.ne, h.sm⟩
 have nilE : ∀ (K : Value → Prop), xF (fBin .eql .slc) [.slice none 0 0, .slice none 0 0] K = K (.bool true) := fun K => nr rfl
 have nilS : ∀ (p c : Nat) (K : Value → Prop), xF (fBin .eql .slc) [.slice (some ⟨p, 0, none⟩) c 1, .slice none 0 0] K = K (.bool false) := fun p c K => nr rfl
 have j5 : ∀ (k h' : Int), 0 ≤ h' ∧ h' < 18446744073709551616 → (k = -1 ∧ (kk = 1 ∨ n = 0) ∨ (0 ≤ k ∧ k < n) ∧ h' = hh k ∧ kk ≠ 1) → w_a5_j5 (fun v _ => v = .bool true) (w_a5_j2 fun v _ => v = .bool true) R (w_a5_j4 (fun v _ => v = .bool true) (w_a5_j2 fun v _ => v = .bool true) R)
   [s, .slice (some ⟨p0, 0, none⟩) n 1, .slice (some ⟨p1, 0, none⟩) n 1, .slice (some ⟨p2, 0, none⟩) n 1, .int .i64 i, .int .i64 k] [N.el C 0, [.int .i64 kk, .int .i64 sz, .int .u64 h', .int .i64 ix, .int .i64 v', .int .i64 old', .bool own]] τ1 := by
  intro k h' hu hk
  simp only [w_a5_j5, w_a5_j5b, sub7, ruS, ruL, ruE, Nat.reduceAdd, reduceIte, Int.reduceLT, Int.reduceLE, Int.reduceEq, Int.reduceNeg, Int.reduceAdd, Int.reduceSub, Nat.reduceLeDiff, Nat.reduceLT]
  by_cases e1 : kk = 1
  ·subst e1
   refine c_WoA hN hC hA1 hwho ok1 hP1 (by omega) hW1 (by omega) fun E H V S b2 ob2 A2 τ2 _ _ hr hW2 hP2 hn2 _ hA2 k2 => ?_
   have ext2 := ext1.keep' k2 hfr.all
   have rw2 := rw1.keep k2
   obtain ⟨hgn, hr⟩ := hr
   simp only [gD4, ruS, ruL, ruE, Nat.reduceAdd, reduceIte, Int.reduceLT, Int.reduceLE, Int.reduceEq, Int.reduceNeg, Int.reduceAdd, Int.reduceSub, Nat.reduceLeDiff, Nat.reduceLT]
   refine c_Class ?_
   rcases hr with ⟨hE, _, hX, rfl, rfl, hsm⟩ | ⟨rfl, hcl, s', F, d, hs, obs, _, _, _, rfl, ⟨_, hdn, hH⟩, hdz, hdo, hds, hsm, hz0⟩
   ·have py2 := hI.same hsm hgn
    have go := nxt n p0 p1 p2 A2 _ _ _ _ _ _ _ _ τ2 (by omega) hA2 hP2 hW2 hn2 py2 rw2 ext2
    rcases hX with ⟨c5, rfl⟩ | ⟨c5, ⟨rfl, _⟩ | ⟨rfl, _⟩⟩
    ·simp only [c5, w_a5_j6, w_a5_j6b, ne_eq, not_true_eq_false, ruS, ruL, ruE, Nat.reduceAdd, reduceIte, Int.reduceLT, Int.reduceLE, Int.reduceEq, Int.reduceNeg, Int.reduceAdd, Int.reduceSub, Nat.reduceLeDiff, Nat.reduceLT]; exact go
    ·have c5' : ¬ classOf sz < 0 := by omega
     simp only [c5', w_a5_j6, w_a5_j6b, w_a5_j7, w_a5_j7b, ne_eq, not_true_eq_false, ruS, ruL, ruE, Nat.reduceAdd, reduceIte, Int.reduceLT, Int.reduceLE, Int.reduceEq, Int.reduceNeg, Int.reduceAdd, Int.reduceSub, Nat.reduceLeDiff, Nat.reduceLT]; exact go
    ·have c5' : ¬ classOf sz < 0 := by omega
     simp only [c5', w_a5_j6, w_a5_j6b, w_a5_j7, w_a5_j7b, ne_eq, not_true_eq_false, ruS, ruL, ruE, Nat.reduceAdd, reduceIte, Int.reduceLT, Int.reduceLE, Int.reduceEq, Int.reduceNeg, Int.reduceAdd, Int.reduceSub, Nat.reduceLeDiff, Nat.reduceLT]; exact go
   ·have c5' : ¬ classOf sz < 0 := by omega
    have py2 := hI.make hC hW1 hs obs hgn ⟨hdn, hH⟩ hdz hdo hds hsm hz0
    have szr := class_room' hcl
    have bu : ∀ {x : Int}, gBuildS 1 1 [.int .u64 0] [0] [.int .u64 x] [] = some [.int .u64 x] := fun {_} => rfl
    have bs : ∀ {p c : Nat}, gBuildS 1 1 [.slice none 0 0] [0] [.slice (some ⟨p, 0, none⟩) c 1] [] = some [.slice (some ⟨p, 0, none⟩) c 1] := fun {_ _} => rfl
    have bb : ∀ {x : Bool}, gBuildS 1 1 [.bool false] [0] [.bool x] [] = some [.bool x] := fun {_} => rfl
    have eH : ∀ k : Int, 0 ≤ k → k < n → upd hh n H k = hh k := fun k _ hk => upd_ne _ _ (by omega)
    have eO : ∀ k : Int, 0 ≤ k → k < n → updB ow n own k = ow k := fun k _ hk => if_neg (by omega)
    have eOn : updB ow n own n = own := if_pos rfl
    have eW : ∀ id : Nat, Value.slice (some ⟨id, 0, none⟩) sz.toNat 1 = wv (upd z n sz) (fun k => if k = (n : Int) then id else q k) (updB lv n true) n := fun id => by unfold wv updB; simp only [if_true, upd_same]
    simp only [c5', w_a5_j6, w_a5_j6b, ne_eq, not_true_eq_false, bu, bb, ruS, ruL, ruE, Nat.reduceAdd, reduceIte, Int.reduceLT, Int.reduceLE, Int.reduceEq, Int.reduceNeg, Int.reduceAdd, Int.reduceSub, Nat.reduceLeDiff, Nat.reduceLT]
    refine ⟨?_, ?_⟩
    ·refine rw2.app0 hA2 ext2 (by omega) eH (upd_same _ _ _) fun id0 τ3 hA3 ext3 rw3 => ?_
     refine rw3.mk' (Nat.le_refl n) hA3 ext3 (by omega) (by omega) fun idq τ4 hA4 ext4 rw4 => ?_
     simp only [bs, ruS, ruL, ruE, Nat.reduceAdd, reduceIte, Int.reduceLT, Int.reduceLE, Int.reduceEq, Int.reduceNeg, Int.reduceAdd, Int.reduceSub, Nat.reduceLeDiff, Nat.reduceLT]
     refine rw4.app1 hA4 ext4 (by omega) (eW idq) fun id1 τ5 hA5 ext5 rw5 => ?_
     refine rw5.app2 rfl hA5 ext5 (by omega) eO eOn fun id2 τ6 hA6 ext6 rw6 => ?_
     exact nxt (n + 1) id0 id1 id2 A2 _ _ _ _ _ _ _ _ τ6 (by omega) hA6 hP2 hW2 hn2 py2 rw6 ext6
    ·refine rw2.mk' (Nat.le_refl n) hA2 ext2 (by omega) (by omega) fun idq τ4 hA4 ext4 rw4 => ?_
     refine rw4.app0 hA4 ext4 (by omega) eH (upd_same _ _ _) fun id0 τ3 hA3 ext3 rw3 => ?_
     simp only [bs, ruS, ruL, ruE, Nat.reduceAdd, reduceIte, Int.reduceLT, Int.reduceLE, Int.reduceEq, Int.reduceNeg, Int.reduceAdd, Int.reduceSub, Nat.reduceLeDiff, Nat.reduceLT]
     refine rw3.app1 hA3 ext3 (by omega) (eW idq) fun id1 τ5 hA5 ext5 rw5 => ?_
     refine rw5.app2 rfl hA5 ext5 (by omega) eO eOn fun id2 τ6 hA6 ext6 rw6 => ?_
     exact nxt (n + 1) id0 id1 id2 A2 _ _ _ _ _ _ _ _ τ6 (by omega) hA6 hP2 hW2 hn2 py2 rw6 ext6
  · -- no making
   have bad : ∀ (A2 : Ar) τ2 V S, Py C (i + 1) n ob A2.w hh z lv va ow → Wo C b1 ob (17 * i) A2.w → Pa C A2 (14 + 110 * i + 110) → A2.n = A1.n → isA N A2 τ2 → Keep N.l τ1 τ2 → w_a5_j8 (fun v _ => v = .bool true) (w_a5_j2 fun v _ => v = .bool true) R (w_a5_j4 (fun v _ => v = .bool true) (w_a5_j2 fun v _ => v = .bool true) R)
     [s, .slice (some ⟨p0, 0, none⟩) n 1, .slice (some ⟨p1, 0, none⟩) n 1, .slice (some ⟨p2, 0, none⟩) n 1, .int .i64 i, .int .i64 k, .bool true] [N.el C 0, [.int .i64 kk, .int .i64 sz, .int .u64 h', .int .i64 ix, .int .i64 v', .int .i64 old', .bool own], [.int .i64 3, .int .u64 0, .int .i64 V, .int .i64 S]] τ2 := by
    intro A2 τ2 V S q1 q2 q3 q4 q5 q6
    simp only [w_a5_j8, w_a5_j8b, ne_eq, not_true_eq_false, ruS, ruL, ruE, Nat.reduceAdd, reduceIte, Int.reduceLT, Int.reduceLE, Int.reduceEq, Int.reduceNeg, Int.reduceAdd, Int.reduceSub, Nat.reduceLeDiff, Nat.reduceLT]
    exact nxt n p0 p1 p2 A2 _ _ _ _ _ _ _ _ τ2 (by omega) q5 q3 (mono q2) q4 q1 (rw1.keep q6) (ext1.keep' q6 hfr.all)
   have bad6 : ∀ (A2 : Ar) τ2 V S, (∀ s d, ¬ Hit C ob h' own s d) → Py C (i + 1) n ob A2.w hh z lv va ow → Wo C b1 ob (17 * i) A2.w → Pa C A2 (14 + 110 * i + 110) → A2.n = A1.n → isA N A2 τ2 → Keep N.l τ1 τ2 → w_a5_j6 (fun v _ => v = .bool true) (w_a5_j2 fun v _ => v = .bool true) R (w_a5_j4 (fun v _ => v = .bool true) (w_a5_j2 fun v _ => v = .bool true) R)
     [s, .slice (some ⟨p0, 0, none⟩) n 1, .slice (some ⟨p1, 0, none⟩) n 1, .slice (some ⟨p2, 0, none⟩) n 1, .int .i64 i, .int .i64 k, .bool false] [N.el C 0, [.int .i64 kk, .int .i64 sz, .int .u64 h', .int .i64 ix, .int .i64 v', .int .i64 old', .bool own], [.int .i64 3, .int .u64 0, .int .i64 V, .int .i64 S]] τ2 := by
    intro A2 τ2 V S hm q1 q2 q3 q4 q5 q6
    have b8 := bad A2 τ2 V S q1 q2 q3 q4 q5 q6
    have rw2 := rw1.keep q6
    rcases hk with ⟨rfl, _⟩ | ⟨⟨k0, k1⟩, rfl, _⟩
    ·simp only [e1, w_a5_j6, w_a5_j6b, ruS, ruL, ruE, Nat.reduceAdd, reduceIte, Int.reduceLT, Int.reduceLE, Int.reduceEq, Int.reduceNeg, Int.reduceAdd, Int.reduceSub, Nat.reduceLeDiff, Nat.reduceLT]; exact b8
    ·have k0' : ¬ k < 0 := by omega
     simp only [e1, k0', w_a5_j6, w_a5_j6b, xIxS k0 k1, Nat.zero_add, ruS, ruL, ruE, Nat.reduceAdd, reduceIte, Int.reduceLT, Int.reduceLE, Int.reduceEq, Int.reduceNeg, Int.reduceAdd, Int.reduceSub, Nat.reduceLeDiff, Nat.reduceLT]
     rw [rw2.ld1 k0 k1]
     cases hl : lv k with
     | false =>
      have ew : wv z q lv k = .slice none 0 0 := by unfold wv; rw [hl]; simp
      simp only [ew, nilE, ruS, ruL, ruE, Nat.reduceAdd, reduceIte, Int.reduceLT, Int.reduceLE, Int.reduceEq, Int.reduceNeg, Int.reduceAdd, Int.reduceSub, Nat.reduceLeDiff, Nat.reduceLT]; exact b8
     | true =>
      have ew : wv z q lv k = .slice (some ⟨q k, 0, none⟩) (z k).toNat 1 := by unfold wv; rw [if_pos hl]
      simp only [ew, nilS, xIxS k0 k1, Nat.zero_add, ruS, ruL, ruE, Nat.reduceAdd, reduceIte, Int.reduceLT, Int.reduceLE, Int.reduceEq, Int.reduceNeg, Int.reduceAdd, Int.reduceSub, Nat.reduceLeDiff, Nat.reduceLT]
      rw [ldCellsB (rw2.g2 rfl) k0 k1]
      have eo : ow k ≠ own := fun e => by
       obtain ⟨s', d', hs', r1, r2, r3, _⟩ := hI.live k k0 k1 hl
       exact hm s' d' ⟨hs', r1, r2, r3.trans e⟩
      have eo' : (ow k == own) = false := by simpa using eo
      simp only [xNeBB, eo', Bool.not_false, ruS, ruL, ruE, Nat.reduceAdd, reduceIte, Int.reduceLT, Int.reduceLE, Int.reduceEq, Int.reduceNeg, Int.reduceAdd, Int.reduceSub, Nat.reduceLeDiff, Nat.reduceLT]; exact b8
   have emp : n = 0 → ∀ s d, ¬ Hit C ob h' own s d := fun e s d q => by
    have h1 := hI.nn e s q.1.1 q.1.2; have h2 := q.2.1; rw [h1] at h2; cases h2
   -- the object that is hit
   have good : ∀ s d, Hit C ob h' own s d → (0 ≤ k ∧ k < n) ∧ h' = hh k ∧ lv k = true ∧ d.n = hh k ∧ ow k = own ∧ d.z = z k ∧ (∀ x, 0 ≤ x → x < z k → va k x = ceV (A1.w (d.a C + 1 + x))) := by
    intro s d hit
    rcases hk with ⟨_, e⟩ | ⟨⟨k0, k1⟩, rfl, _⟩
    ·exact absurd hit (emp (e.resolve_left e1) s d)
    ·obtain ⟨⟨s0, s1⟩, r1, r2, r3⟩ := hit
     have hl : lv k = true := by
      cases hl : lv k with
      | true => rfl
      | false => exact absurd r2 ((hI.dead k k0 k1 hl).1 s d s0 s1 r1)
     obtain ⟨s', d', hs', t1, t2, t3, t4, t5⟩ := hI.live k k0 k1 hl
     have es : s' = s := by
      rw [← (hW1.ok s' d' hs'.1 hs'.2 t1).2.1, ← (hW1.ok s d s0 s1 r1).2.1]; unfold Do.s; rw [t2, r2]
     rw [es, r1] at t1; cases t1
     exact ⟨⟨k0, k1⟩, rfl, hl, r2, by rw [← t3, r3], t4, t5⟩
   by_cases e2 : kk = 2
   ·subst e2
    refine c_WoD hN hC hA1 hwho ok1 hu hP1 (by omega) hW1 (by omega) fun E V S b2 ob2 A2 τ2 _ _ hr hW2 hP2 hn2 _ hA2 k2 => ?_
    have ext2 := ext1.keep' k2 hfr.all
    have rw2 := rw1.keep k2
    simp only [gD4, ruS, ruL, ruE, Nat.reduceAdd, reduceIte, Int.reduceLT, Int.reduceLE, Int.reduceEq, Int.reduceNeg, Int.reduceAdd, Int.reduceSub, Nat.reduceLeDiff, Nat.reduceLT]
    rcases hr with ⟨rfl, hm, rfl, rfl, hsm, hgn⟩ | ⟨rfl, s', d, hit, rfl, hsm, hgn⟩
    ·exact bad6 A2 τ2 V S hm (hI.same hsm hgn) hW2 hP2 hn2 hA2 k2
    ·obtain ⟨⟨k0, k1⟩, rfl, hl, hd1, hd2, hd3, hd4⟩ := good s' d hit
     have k0' : ¬ k < 0 := by omega
     have ew : wv z q lv k = .slice (some ⟨q k, 0, none⟩) (z k).toNat 1 := by unfold wv; rw [if_pos hl]
     have eo' : (ow k == own) = true := by simpa using hd2
     have py2 := hI.drop hC (by omega) hG hW1 k0 k1 hl hit.1 hit.2.1 hd1 hsm hgn
     simp only [k0', w_a5_j6, w_a5_j6b, xIxS k0 k1, Nat.zero_add, ruS, ruL, ruE, Nat.reduceAdd, reduceIte, Int.reduceLT, Int.reduceLE, Int.reduceEq, Int.reduceNeg, Int.reduceAdd, Int.reduceSub, Nat.reduceLeDiff, Nat.reduceLT]
     rw [rw2.ld1 k0 k1]
     simp only [ew, nilS, xIxS k0 k1, Nat.zero_add, ruS, ruL, ruE, Nat.reduceAdd, reduceIte, Int.reduceLT, Int.reduceLE, Int.reduceEq, Int.reduceNeg, Int.reduceAdd, Int.reduceSub, Nat.reduceLeDiff, Nat.reduceLT]
     rw [ldCellsB (rw2.g2 rfl) k0 k1]
     simp only [xNeBB, eo', Bool.not_true, w_a5_j8, w_a5_j8b, ne_eq, not_true_eq_false, xIxS k0 k1, Nat.zero_add, ruS, ruL, ruE, Nat.reduceAdd, reduceIte, Int.reduceLT, Int.reduceLE, Int.reduceEq, Int.reduceNeg, Int.reduceAdd, Int.reduceSub, Nat.reduceLeDiff, Nat.reduceLT]
     refine rw2.st1 hA2 ext2 k0 k1 fun τ3 hA3 ext3 rw3 => ?_
     exact nxt n p0 p1 p2 A2 _ _ _ _ _ _ _ _ τ3 (by omega) hA3 hP2 (mono hW2) hn2 py2 rw3 ext3
   ·refine c_WoX hN hC hA1 hwho ok1 (by omega) hu hP1 (by omega) hn1 hW1 (by omega) fun E V S A2 τ2 _ _ hr hgn hW2 hP2 hn2 _ hA2 k2 => ?_
    have ext2 := ext1.keep' k2 hfr.all
    have rw2 := rw1.keep k2
    simp only [gD4, e1, ruS, ruL, ruE, Nat.reduceAdd, reduceIte, Int.reduceLT, Int.reduceLE, Int.reduceEq, Int.reduceNeg, Int.reduceAdd, Int.reduceSub, Nat.reduceLeDiff, Nat.reduceLT]
    rcases hr with ⟨rfl, hm, hsm⟩ | ⟨s', d, hit, hr⟩
    ·exact bad6 A2 τ2 V S hm (hI.same hsm hgn) hW2 hP2 hn2 hA2 k2
    ·obtain ⟨⟨k0, k1⟩, rfl, hl, hd1, hd2, hd3, hd4⟩ := good s' d hit
     have k0' : ¬ k < 0 := by omega
     have ew : wv z q lv k = .slice (some ⟨q k, 0, none⟩) (z k).toNat 1 := by unfold wv; rw [if_pos hl]
     have eo' : (ow k == own) = true := by simpa using hd2
     have zr := class_room' (hW1.ok s' d hit.1.1 hit.1.2 hit.2.1).1.cl
     have ezn : ((z k).toNat : Int) = z k := by omega
     simp only [e1, e2, k0', w_a5_j6, w_a5_j6b, xIxS k0 k1, Nat.zero_add, ruS, ruL, ruE, Nat.reduceAdd, reduceIte, Int.reduceLT, Int.reduceLE, Int.reduceEq, Int.reduceNeg, Int.reduceAdd, Int.reduceSub, Nat.reduceLeDiff, Nat.reduceLT]
     rw [rw2.ld1 k0 k1]
     simp only [ew, nilS, xIxS k0 k1, Nat.zero_add, ruS, ruL, ruE, Nat.reduceAdd, reduceIte, Int.reduceLT, Int.reduceLE, Int.reduceEq, Int.reduceNeg, Int.reduceAdd, Int.reduceSub, Nat.reduceLeDiff, Nat.reduceLT]
     rw [ldCellsB (rw2.g2 rfl) k0 k1]
     simp only [xNeBB, eo', e2, Bool.not_true, w_a5_j8, w_a5_j8b, ne_eq, not_true_eq_false, xIxS k0 k1, Nat.zero_add, ruS, ruL, ruE, Nat.reduceAdd, reduceIte, Int.reduceLT, Int.reduceLE, Int.reduceEq, Int.reduceNeg, Int.reduceAdd, Int.reduceSub, Nat.reduceLeDiff, Nat.reduceLT]
     rcases hr with ⟨r1, rfl, hsm⟩ | ⟨⟨x0, x1⟩, rV, hr⟩
     ·have go := nxt n p0 p1 p2 A2 _ _ _ _ _ _ _ _ τ2 (by omega) hA2 hP2 (mono hW2) hn2 (hI.same hsm hgn) rw2 ext2
      by_cases xn : ix < 0
      ·simp only [xn, w_a5_j9, w_a5_j9b, ne_eq, not_true_eq_false, ruS, ruL, ruE, Nat.reduceAdd, reduceIte, Int.reduceLT, Int.reduceLE, Int.reduceEq, Int.reduceNeg, Int.reduceAdd, Int.reduceSub, Nat.reduceLeDiff, Nat.reduceLT]; exact go
      ·have xz : z k ≤ ix := by omega
       simp only [xn, ruS, ruL, ruE, Nat.reduceAdd, reduceIte, Int.reduceLT, Int.reduceLE, Int.reduceEq, Int.reduceNeg, Int.reduceAdd, Int.reduceSub, Nat.reduceLeDiff, Nat.reduceLT]
       rw [rw2.ld1 k0 k1]
       simp only [ew, xLen, ezn, xz, w_a5_j9, w_a5_j9b, ne_eq, not_true_eq_false, ruS, ruL, ruE, Nat.reduceAdd, reduceIte, Int.reduceLT, Int.reduceLE, Int.reduceEq, Int.reduceNeg, Int.reduceAdd, Int.reduceSub, Nat.reduceLeDiff, Nat.reduceLT]; exact go
     ·have xn : ¬ ix < 0 := by omega
      have xz : ¬ z k ≤ ix := by omega
      rw [hd3] at x1
      have eV : V = va k ix := by rw [rV, hd4 ix x0 x1]
      simp only [xn, ruS, ruL, ruE, Nat.reduceAdd, reduceIte, Int.reduceLT, Int.reduceLE, Int.reduceEq, Int.reduceNeg, Int.reduceAdd, Int.reduceSub, Nat.reduceLeDiff, Nat.reduceLT]
      rw [rw2.ld1 k0 k1]
      simp only [ew, xLen, ezn, xz, w_a5_j9, w_a5_j9b, xIxS k0 k1, Nat.zero_add, ruS, ruL, ruE, Nat.reduceAdd, reduceIte, Int.reduceLT, Int.reduceLE, Int.reduceEq, Int.reduceNeg, Int.reduceAdd, Int.reduceSub, Nat.reduceLeDiff, Nat.reduceLT]
      rw [rw2.ld1 k0 k1]
      simp only [ew, ruS, ruL, ruE, Nat.reduceAdd, reduceIte, Int.reduceLT, Int.reduceLE, Int.reduceEq, Int.reduceNeg, Int.reduceAdd, Int.reduceSub, Nat.reduceLeDiff, Nat.reduceLT]
      rw [xIxS x0 (by omega)]
      simp only [Nat.zero_add]
      rw [rw2.ldq k0 k1 hl x0 x1]
      simp only [← eV, ne_eq, not_true_eq_false, ruS, ruL, ruE, Nat.reduceAdd, reduceIte, Int.reduceLT, Int.reduceLE, Int.reduceEq, Int.reduceNeg, Int.reduceAdd, Int.reduceSub, Nat.reduceLeDiff, Nat.reduceLT]
      rcases hr with ⟨r1, rfl, hsm⟩ | ⟨r1, rfl, hsm, hcc⟩
      ·have go := nxt n p0 p1 p2 A2 _ _ _ _ _ _ _ _ τ2 (by omega) hA2 hP2 (mono hW2) hn2 (hI.same hsm hgn) rw2 ext2
       rcases r1 with r1 | ⟨r1, r2⟩
       ·have : kk = 3 := by omega
        subst this
        simp only [w_a5_j10, w_a5_j10b, w_a5_j11, w_a5_j11b, ne_eq, not_true_eq_false, ruS, ruL, ruE, Nat.reduceAdd, reduceIte, Int.reduceLT, Int.reduceLE, Int.reduceEq, Int.reduceNeg, Int.reduceAdd, Int.reduceSub, Nat.reduceLeDiff, Nat.reduceLT]; exact go
       ·have : kk = 5 := by omega
        subst this
        simp only [r2, w_a5_j10, w_a5_j10b, w_a5_j11, w_a5_j11b, ne_eq, not_true_eq_false, ruS, ruL, ruE, Nat.reduceAdd, reduceIte, Int.reduceLT, Int.reduceLE, Int.reduceEq, Int.reduceNeg, Int.reduceAdd, Int.reduceSub, Nat.reduceLeDiff, Nat.reduceLT]; exact go
      ·have py2 := hI.lay hW1 (ix := ix) (v := v') k0 k1 hl hit.1 hit.2.1 hd1 hv hsm hgn hcc
       have go : ∀ τ3, isA N A2 τ3 → Ext σ τ3 → Rw3 true N σ τ3 p0 p1 p2 n n n n hh z q lv (fun j => if j = k then upd (va k) ix v' else va j) ow → _ := fun τ3 hA3 ext3 rw3 => nxt n p0 p1 p2 A2 _ _ _ _ _ _ _ _ τ3 (by omega) hA3 hP2 (mono hW2) hn2 py2 rw3 ext3
       have j11 : w_a5_j11 (fun v _ => v = .bool true) (w_a5_j2 fun v _ => v = .bool true) R (w_a5_j4 (fun v _ => v = .bool true) (w_a5_j2 fun v _ => v = .bool true) R)
         [s, .slice (some ⟨p0, 0, none⟩) n 1, .slice (some ⟨p1, 0, none⟩) n 1, .slice (some ⟨p2, 0, none⟩) n 1, .int .i64 i, .int .i64 k, .bool true] [N.el C 0, [.int .i64 kk, .int .i64 sz, .int .u64 (hh k), .int .i64 ix, .int .i64 v', .int .i64 old', .bool own]] τ2 := by
        simp only [w_a5_j11, w_a5_j11b, xIxS k0 k1, Nat.zero_add, ruS, ruL, ruE, Nat.reduceAdd, reduceIte, Int.reduceLT, Int.reduceLE, Int.reduceEq, Int.reduceNeg, Int.reduceAdd, Int.reduceSub, Nat.reduceLeDiff, Nat.reduceLT]
        rw [rw2.ld1 k0 k1]
        simp only [ew, ruS, ruL, ruE, Nat.reduceAdd, reduceIte, Int.reduceLT, Int.reduceLE, Int.reduceEq, Int.reduceNeg, Int.reduceAdd, Int.reduceSub, Nat.reduceLeDiff, Nat.reduceLT]
        rw [xIxS x0 (by omega)]
        simp only [Nat.zero_add]
        exact rw2.stq hA2 ext2 k0 k1 hl x0 x1 go
       have k3 : ¬ kk = 3 := fun e => r1 (.inl (by omega))
       by_cases k5 : kk = 5
       ·have r2 : V = old' := Classical.byContradiction fun q => r1 (.inr ⟨by omega, q⟩)
        subst k5
        simp only [r2, w_a5_j10, w_a5_j10b, ne_eq, not_true_eq_false, ruS, ruL, ruE, Nat.reduceAdd, reduceIte, Int.reduceLT, Int.reduceLE, Int.reduceEq, Int.reduceNeg, Int.reduceAdd, Int.reduceSub, Nat.reduceLeDiff, Nat.reduceLT]; exact j11
       ·simp only [k3, k5, w_a5_j10, w_a5_j10b, ne_eq, not_false_eq_true, not_true_eq_false, ruS, ruL, ruE, Nat.reduceAdd, reduceIte, Int.reduceLT, Int.reduceLE, Int.reduceEq, Int.reduceNeg, Int.reduceAdd, Int.reduceSub, Nat.reduceLeDiff, Nat.reduceLT]; exact j11
 by_cases cn : n = 0
 ·subst cn
  have : ¬ (0 : Int) < ((0 : Nat) : Int) := by omega
  simp only [this, w_a5_j12, w_a5_j12b, ruS, ruL, ruE, Nat.reduceAdd, reduceIte, Int.reduceLT, Int.reduceLE, Int.reduceEq, Int.reduceNeg, Int.reduceAdd, Int.reduceSub, Nat.reduceLeDiff, Nat.reduceLT]
  exact j5 (-1) h ⟨u0, u1⟩ (.inl ⟨rfl, .inr rfl⟩)
 have cn0 : (0 : Int) < (n : Int) := by omega
 by_cases ck : kk = 1
 ·simp only [cn0, ck, w_a5_j12, w_a5_j12b, ne_eq, not_true_eq_false, ruS, ruL, ruE, Nat.reduceAdd, reduceIte, Int.reduceLT, Int.reduceLE, Int.reduceEq, Int.reduceNeg, Int.reduceAdd, Int.reduceSub, Nat.reduceLeDiff, Nat.reduceLT]
  have := j5 (-1) h ⟨u0, u1⟩ (.inl ⟨rfl, .inl ck⟩)
  rw [ck] at this; exact this
 ·have cn1 : (n : Int) ≠ 0 := by omega
  have hmn : 0 ≤ h.tmod n ∧ h.tmod n < n := by
   rw [Int.tmod_eq_emod_of_nonneg u0]
   exact ⟨Int.emod_nonneg _ cn1, Int.emod_lt_of_pos _ cn0⟩
  simp only [cn0, ck, w_a5_j12, w_a5_j12b, ne_eq, not_false_eq_true, xLen, ruS, ruL, ruE, Nat.reduceAdd, reduceIte, Int.reduceLT, Int.reduceLE, Int.reduceEq, Int.reduceNeg, Int.reduceAdd, Int.reduceSub, Nat.reduceLeDiff, Nat.reduceLT]
  rw [IntWalk.u64_in (n : Int) (by omega), xRem cn1]
  simp only [ruS, ruL, ruE, Nat.reduceAdd, reduceIte, Int.reduceLT, Int.reduceLE, Int.reduceEq, Int.reduceNeg, Int.reduceAdd, Int.reduceSub, Nat.reduceLeDiff, Nat.reduceLT]
  rw [IntWalk.i64_in (h.tmod n) (by omega), xIxS hmn.1 hmn.2]
  simp only [Nat.zero_add]
  rw [ldCells rw1.g0 hmn.1 hmn.2]
  simp only [gA2, ruS, ruL, ruE, Nat.reduceAdd, reduceIte, Int.reduceLT, Int.reduceLE, Int.reduceEq, Int.reduceNeg, Int.reduceAdd, Int.reduceSub, Nat.reduceLeDiff, Nat.reduceLT]
  exact j5 (h.tmod n) (hh (h.tmod n)) (hI.u _ hmn.1 hmn.2) (.inr ⟨hmn, rfl, ck⟩)
end Go.Fl
