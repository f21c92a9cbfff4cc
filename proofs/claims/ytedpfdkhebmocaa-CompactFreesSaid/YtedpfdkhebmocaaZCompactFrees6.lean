/- What the claim leans on, part 6: own readings of the program's functions, what they come to, laws of them. No condition. -/
import Derived.Test.YtedpfdkhebmocaaZCompactFrees5
namespace Go.Fl
open Go
set_option linter.unusedVariables false
set_option linter.unusedSimpArgs false
variable {N : Nm} {A B : Ar} {σ : Mem} {K : Value → Mem → Prop} {C : Cf} {who : Int} {P : TP} {w : Int → Int}
theorem w64u {a v : Int} (h : ∀ i, 0 ≤ w i ∧ w i < 18446744073709551616) (hv : 0 ≤ v ∧ v < 18446744073709551616) : ∀ i, 0 ≤ upd w a v i ∧ upd w a v i < 18446744073709551616 := fun i => by unfold upd; split; exact hv; exact h i
section
variable {c : Co}
theorem TI.s3 (hC : C.ok) (h : TI C P c A) (hp : c.r.pc = 3) (r : Int) : TI C P (c.step C (-1) A r).1 (c.step C (-1) A r).2 ∧ (c.step C (-1) A r).1.r.rd = c.r.rd ∧ leftT C (c.step C (-1) A r).1 < leftT C c := by
 obtain ⟨hS, nn, w64, tw, cl, nm, tm⟩ := h
 rw [hp] at cl nm tm
 obtain ⟨⟨a0, a1⟩, hD, hs1, hw⟩ := cl.p3 rfl
 have st : c.step C (-1) A r = ({ c with r := { c.r with pos := 0, pc := 4, w := chw c.r.w 2 } }, (A.by (-1)).store (C.chunk c.r.at') (chw c.r.w 2)) := by
  unfold Co.step; rw [if_neg (by omega), if_neg (by omega), if_neg (by omega), if_pos hp, if_pos hw.symm, if_pos hw.symm, cas_yes (by exact hw.symm)]
 rw [st]
 obtain ⟨v1, v2, v3, v4⟩ := chw_put (w := c.r.w) (st := 2) (by decide)
 have hone := tw.one _ a0 a1 hD hs1
 have hdd := hS.dd _ a0 a1 hD
 have b := ck_lt hC a0 a1
 have ne0 : upd A.w (C.chunk c.r.at') (chw c.r.w 2) 0 = A.w 0 := upd_ne _ _ (by omega)
 have w2 : ∀ j, upd A.w (C.chunk c.r.at') (chw c.r.w 2) (C.chunk j + 2) = A.w (C.chunk j + 2) := fun j => upd_ne _ _ (by unfold Cf.chunk; omega)
 have q3 : ∀ j, chS (upd A.w (C.chunk c.r.at') (chw c.r.w 2) (C.chunk j)) = 3 → chS (A.w (C.chunk j)) = 3 := fun j q => by
  by_cases e : j = c.r.at'
  ·subst e; rw [upd_same, v1] at q; exact absurd q (by decide)
  ·rwa [upd_ne _ _ (ck_ne e).1] at q
 have k1 := kS_off (P := P) (w := A.w) (v := chw c.r.w 2) a0 a1 hD hs1 (by rw [v1]; decide)
 have k3 := kS_same (P := P) (w := A.w) (i := c.r.at') (v := chw c.r.w 2) (s := 3) (by rw [hs1]; decide) (by rw [v1]; decide)
 have kn := kS_nn (C := C) (P := P) (w := upd A.w (C.chunk c.r.at') (chw c.r.w 2)) (s := 1)
 have hkt := tm.kt
 rw [if_neg (by decide)] at hkt
 refine ⟨TI.of (pc := 4) (pos := 0) (cw := chw c.r.w 2) (upd A.w (C.chunk c.r.at') (chw c.r.w 2)) rfl hS nn (w64u w64 v4) ?_ ?_ ?_ ?_, rfl, ?_⟩
 ·exact tw.ck hC a0 a1 hD (by rw [v1]; decide) (fun _ x x0 x1 => tw.wd _ x a0 a1 hD (.inl hs1) x0 x1) (fun _ => ⟨by rw [v3, hw, hone.1], by rw [v2, hw, hone.1]⟩) (fun q => by rw [v1] at q; exact absurd q (by decide)) (fun q => by rw [v1] at q; exact absurd q (by decide))
 ·refine ⟨by decide, fun q => absurd q (by decide), fun q => absurd q (by decide), fun q => absurd q (by decide), fun q => absurd q (by decide), fun q => absurd q (by decide), fun _ => ⟨Int.le_refl 0, hdd.2.1.1, by rw [Int.zero_emod]⟩, fun _ _ => ⟨⟨a0, a1⟩, hD, v1, (upd_same _ _ _).symm⟩, fun q => absurd q (by decide), fun _ => cl.an (by decide), fun q => absurd q (by decide), fun _ => cl.sn (by decide), fun j j0 j1 d q => ?_⟩
  by_cases e : j = c.r.at'
  ·exact ⟨by decide, by decide, e⟩
  ·rw [upd_ne _ _ (ck_ne e).1] at q; exact absurd (cl.st2 j j0 j1 d q).1 (by decide)
 ·have := nm.ck; rw [if_neg (by decide)] at this
  exact ⟨by rw [if_pos (by decide)]; omega, by rw [k3]; exact nm.cq, nm.z, nm.nn⟩
 ·refine ⟨by rw [ne0]; have := tm.e; rw [if_neg (by decide)] at this ⊢; exact this, by rw [if_pos (by decide)]; omega, ⟨tm.eb.1, tm.eb.2.1, fun _ => tm.eb.2.2.1 (by decide), fun _ _ => by omega⟩, fun q => absurd q (by decide), fun q => absurd q (by decide), fun a _ j j0 j1 d q => ?_, fun _ q => absurd q (by decide), fun a b => by rw [k3]; exact tm.fq a b, tm.fi, fun a => ?_, tm.ks⟩
  ·rw [w2, ne0]
   rcases tm.uq a (by decide) j j0 j1 d (q3 j q) with q | ⟨q, q' | q'⟩
   ·exact .inl q
   ·exact .inr ⟨q, .inl q'⟩
   ·exact absurd q'.1 (by decide)
  ·rw [ne0]
   have := tm.pq a
   exact ⟨this.1, this.2.1, this.2.2.1, fun j j0 j1 d q => by rw [w2]; exact this.2.2.2 j j0 j1 d (q3 j q)⟩
 ·have hW := hS.cc
  unfold leftT; dsimp only; rw [if_neg (by decide), if_neg (by decide), if_neg (by decide), if_neg (by decide), if_pos rfl, if_neg (by omega), if_neg (by omega), if_neg (by omega), if_pos hp, v3, hw, hone.1]; omega
theorem TI.head (hC : C.ok) (h : TI C P c A) (hp : c.r.pc = 4 ∨ c.r.pc = 5) : ((0 ≤ c.r.at' ∧ c.r.at' < C.C) ∧ P.D c.r.at' = true) ∧ (0 ≤ c.r.pos ∧ c.r.pos < chU c.r.w) ∧ c.r.pos % roomOf (chC c.r.w) = 0 ∧ (0 ≤ chC c.r.w ∧ chC c.r.w ≤ 3) ∧ (chC c.r.w = chC (P.w0 (C.chunk c.r.at')) ∧ chU c.r.w = chU (P.w0 (C.chunk c.r.at'))) ∧ chU c.r.w ≤ C.W ∧ goneH C A.w (C.base c.r.at' + c.r.pos) := by
 obtain ⟨hS, nn, w64, tw, cl, nm, tm⟩ := h
 obtain ⟨⟨a0, a1⟩, hD, hs2, hw⟩ := cl.p8 (by omega) (by omega)
 obtain ⟨p0, p1, pm⟩ := cl.p4 hp
 have hdd := hS.dd _ a0 a1 hD
 have hs2' : chS (A.w (C.chunk c.r.at')) = 2 := by rw [← hw]; exact hs2
 have hqu := tw.qu _ a0 a1 hD (.inl hs2')
 have eC : chC c.r.w = chC (P.w0 (C.chunk c.r.at')) := by rw [hw]; exact hqu.2
 have eU : chU c.r.w = chU (P.w0 (C.chunk c.r.at')) := by rw [hw]; exact hqu.1
 have cb := chC_bd (P.w0 (C.chunk c.r.at'))
 have ea : A.w (C.base c.r.at' + c.r.pos) = P.w0 (C.base c.r.at' + c.r.pos) := tw.wd _ _ a0 a1 hD (.inr hs2') p0 (by omega)
 refine ⟨⟨⟨a0, a1⟩, hD⟩, ⟨p0, by omega⟩, by rw [eC]; exact pm, by omega, ⟨eC, eU⟩, by omega, ?_⟩
 have hh := hdd.2.2.2.2.2 _ p0 p1 pm
 unfold goneH at *
 rw [ea]
 rcases hh with q | ⟨q1, q2, q3, q4⟩
 ·exact .inl q
 ·have low := low_lt hC
  have es := tw.low hC (i := C.slot (hdT (P.w0 (C.base c.r.at' + c.r.pos)))) (by have := hC.T; unfold Cf.slot; omega) (by have := hC.T; unfold Cf.slot; omega)
  exact .inr ⟨q1, q2, q3, by rw [es]; exact q4⟩
theorem TI.on (hC : C.ok) (h : TI C P c A) (hp : c.r.pc = 4 ∨ c.r.pc = 5) {A' : Ar} (hw' : A'.w = A.w) (hn' : A'.n = A.n) (m' : Mv) : TI C P { c with r := c.r.next (chC c.r.w) (chU c.r.w), m := m' } A' ∧ ({ c with r := c.r.next (chC c.r.w) (chU c.r.w), m := m' } : Co).r.rd = c.r.rd ∧ leftT C { c with r := c.r.next (chC c.r.w) (chU c.r.w), m := m' } < leftT C c := by
 obtain ⟨⟨⟨a0, a1⟩, hD⟩, ⟨p0, p1⟩, pm, cb, ⟨eC, eU⟩, uW, hh⟩ := h.head hC hp
 obtain ⟨hS, nn, w64, tw, cl, nm, tm⟩ := h
 have rb := room_bd cb.1 cb.2
 have e46 : (if chU c.r.w ≤ c.r.pos + roomOf (chC c.r.w) then (6 : Int) else 4) = 6 ∧ chU c.r.w ≤ c.r.pos + roomOf (chC c.r.w) ∨ (if chU c.r.w ≤ c.r.pos + roomOf (chC c.r.w) then (6 : Int) else 4) = 4 ∧ c.r.pos + roomOf (chC c.r.w) < chU c.r.w := by split <;> omega
 refine ⟨TI.of (pc := if chU c.r.w ≤ c.r.pos + roomOf (chC c.r.w) then (6 : Int) else 4) (pos := c.r.pos + roomOf (chC c.r.w)) (m := m') A.w hw' hS (by rw [hn']; exact nn) w64 tw ?_ (nm.keep (fun _ _ _ => rfl) (by omega)) ?_, rfl, ?_⟩
 ·have hp8 := cl.p8 (by omega) (by omega)
  generalize (if chU c.r.w ≤ c.r.pos + roomOf (chC c.r.w) then (6 : Int) else 4) = pc' at *
  refine ⟨by omega, fun q => by omega, fun q => by omega, fun q => by omega, fun q => by omega, fun q => by omega, fun q => ⟨by omega, by omega, by rw [← eC, Int.add_emod_right]; exact pm⟩, fun _ _ => hp8, fun q => by omega, fun _ => cl.an (by omega), fun q => by omega, fun _ => cl.sn (by omega), fun j j0 j1 d q => ⟨by omega, by omega, (cl.st2 j j0 j1 d q).2.2⟩⟩
 ·generalize (if chU c.r.w ≤ c.r.pos + roomOf (chC c.r.w) then (6 : Int) else 4) = pc' at *
  refine ⟨?_, ?_, ⟨tm.eb.1, tm.eb.2.1, fun _ => tm.eb.2.2.1 (by omega), fun _ _ => tm.eb.2.2.2 (by omega) (by omega)⟩, fun q => by omega, fun q => by omega, fun a _ j j0 j1 d q => ?_, fun _ q => by omega, tm.fq, tm.fi, tm.pq, tm.ks⟩
  ·have := tm.e; rw [if_neg (by omega)] at this; rw [if_neg (by omega)]; exact this
  ·have := tm.kt; rw [if_pos (by omega)] at this; rw [if_pos (by omega)]; exact this
  ·rcases tm.uq a (by omega) j j0 j1 d q with q | ⟨q, q' | q'⟩
   ·exact .inl q
   ·exact .inr ⟨q, .inl q'⟩
   ·have := q'.1; omega
 ·have hl : 529 + 2 * (chU c.r.w - c.r.pos) ≤ leftT C c := by
   unfold leftT
   rw [if_neg (show ¬ c.r.pc = 0 by omega), if_neg (show ¬ c.r.pc = 1 by omega), if_neg (show ¬ c.r.pc = 2 by omega), if_neg (show ¬ c.r.pc = 3 by omega)]
   rcases hp with q | q
   ·rw [if_pos q]; omega
   ·rw [if_neg (show ¬ c.r.pc = 4 by omega), if_pos q]; omega
  refine Int.lt_of_lt_of_le ?_ hl
  unfold leftT Cr.next; dsimp only
  rcases e46 with ⟨e, le⟩ | ⟨e, le⟩
  ·rw [e]; rw [if_neg (by decide), if_neg (by decide), if_neg (by decide), if_neg (by decide), if_neg (by decide), if_neg (by decide), if_pos rfl]; omega
  ·rw [e]; rw [if_neg (by decide), if_neg (by decide), if_neg (by decide), if_neg (by decide), if_pos rfl]; omega
theorem TI.s4 (hC : C.ok) (h : TI C P c A) (hp : c.r.pc = 4) (r : Int) : TI C P (c.step C (-1) A r).1 (c.step C (-1) A r).2 ∧ (c.step C (-1) A r).1.r.rd = c.r.rd ∧ leftT C (c.step C (-1) A r).1 < leftT C c := by
 have hd := h.head hC (.inl hp)
 have hg := hd.2.2.2.2.2.2
 by_cases hh : hdK (A.w (C.base c.r.at' + c.r.pos)) = 3
 ·have st : c.step C (-1) A r = ({ c with r := c.r.next (chC c.r.w) (chU c.r.w) }, (A.by (-1)).load (C.base c.r.at' + c.r.pos)) := by
   unfold Co.step; rw [if_neg (by omega), if_neg (by omega), if_neg (by omega), if_neg (by omega), if_pos hp, if_pos hh]
  rw [st]
  exact h.on (A' := (A.by (-1)).load (C.base c.r.at' + c.r.pos)) hC (.inl hp) rfl rfl c.m
 have h2 : hdK (A.w (C.base c.r.at' + c.r.pos)) = 2 := by
  rcases hg with q | q
  ·exact absurd q hh
  ·exact q.1
 have st : c.step C (-1) A r = ({ c with r := { c.r with pc := 5 }, m := Mv.new (C.base c.r.at' + c.r.pos) (hdK (A.w (C.base c.r.at' + c.r.pos))) (hdS (A.w (C.base c.r.at' + c.r.pos))) (hdT (A.w (C.base c.r.at' + c.r.pos))) (hdG (A.w (C.base c.r.at' + c.r.pos))) (hdO (A.w (C.base c.r.at' + c.r.pos))) }, (A.by (-1)).load (C.base c.r.at' + c.r.pos)) := by
  unfold Co.step; rw [if_neg (by omega), if_neg (by omega), if_neg (by omega), if_neg (by omega), if_pos hp, if_neg hh, if_pos h2]
 rw [st]
 obtain ⟨hS, nn, w64, tw, cl, nm, tm⟩ := h
 rw [hp] at cl nm tm
 refine ⟨TI.of (pc := 5) (m := Mv.new (C.base c.r.at' + c.r.pos) (hdK (A.w (C.base c.r.at' + c.r.pos))) (hdS (A.w (C.base c.r.at' + c.r.pos))) (hdT (A.w (C.base c.r.at' + c.r.pos))) (hdG (A.w (C.base c.r.at' + c.r.pos))) (hdO (A.w (C.base c.r.at' + c.r.pos)))) A.w rfl hS nn w64 tw ?_ (nm.keep (fun _ _ _ => rfl) (by constructor <;> (intro; decide))) ?_, rfl, ?_⟩
 ·exact ⟨by decide, fun _ => ⟨h2, rfl⟩, fun q => absurd q (by decide), fun q => absurd q (by decide), fun q => absurd q (by decide), fun q => absurd q (by decide), fun _ => cl.p4 (.inl rfl), fun _ _ => cl.p8 (by decide) (by decide), fun q => absurd q (by decide), fun _ => cl.an (by decide), fun q => absurd q (by decide), fun _ => cl.sn (by decide), fun j j0 j1 d q => ⟨by decide, by decide, (cl.st2 j j0 j1 d q).2.2⟩⟩
 ·refine ⟨?_, ?_, ⟨tm.eb.1, tm.eb.2.1, fun _ => tm.eb.2.2.1 (by decide), fun _ _ => tm.eb.2.2.2 (by decide) (by decide)⟩, fun q => absurd q (by decide), fun q => absurd q (by decide), fun a _ j j0 j1 d q => ?_, fun _ q => absurd q (by decide), tm.fq, tm.fi, tm.pq, tm.ks⟩
  ·have := tm.e; rw [if_neg (by decide)] at this ⊢; exact this
  ·have := tm.kt; rw [if_pos (by decide)] at this ⊢; exact this
  ·rcases tm.uq a (by decide) j j0 j1 d q with q | ⟨q, q' | q'⟩
   ·exact .inl q
   ·exact .inr ⟨q, .inl q'⟩
   ·exact absurd q'.1 (by decide)
 ·unfold leftT; dsimp only
  rw [if_neg (show ¬ (5 : Int) = 0 by decide), if_neg (show ¬ (5 : Int) = 1 by decide), if_neg (show ¬ (5 : Int) = 2 by decide), if_neg (show ¬ (5 : Int) = 3 by decide), if_neg (show ¬ (5 : Int) = 4 by decide), if_pos rfl,
   if_neg (show ¬ c.r.pc = 0 by omega), if_neg (show ¬ c.r.pc = 1 by omega), if_neg (show ¬ c.r.pc = 2 by omega), if_neg (show ¬ c.r.pc = 3 by omega), if_pos hp]; omega
theorem TI.s5 (hC : C.ok) (h : TI C P c A) (hp : c.r.pc = 5) (r : Int) : TI C P (c.step C (-1) A r).1 (c.step C (-1) A r).2 ∧ (c.step C (-1) A r).1.r.rd = c.r.rd ∧ leftT C (c.step C (-1) A r).1 < leftT C c := by
 have hd := h.head hC (.inr hp)
 obtain ⟨h2, hm⟩ := h.cl.p5 hp
 have hg : slG (A.w (C.slot c.m.a.hs)) ≠ c.m.a.hg ∨ slA (A.w (C.slot c.m.a.hs)) ≠ c.m.a.addr ∨ slS (A.w (C.slot c.m.a.hs)) ≠ 1 ∧ slS (A.w (C.slot c.m.a.hs)) ≠ 4 := by
  rw [hm]
  rcases hd.2.2.2.2.2.2 with q | q
  ·rw [q] at h2; exact absurd h2 (by decide)
  ·exact q.2.2.2
 have hpc : c.m.a.pc = 0 ∧ c.m.a.got = false := by rw [hm]; exact ⟨rfl, rfl⟩
 have e : c.m.step C (-1) A = (true, { c.m with a := ({ c.m.a with w := A.w (C.slot c.m.a.hs) } : Mo).endm 2 }, (A.by (-1)).load (C.slot c.m.a.hs)) := by
  unfold Mv.step
  rw [if_pos hpc.1, if_neg (by omega), if_pos (by omega), hpc.2]; rfl
 have st : c.step C (-1) A r = ({ c with r := c.r.next (chC c.r.w) (chU c.r.w), m := { c.m with a := ({ c.m.a with w := A.w (C.slot c.m.a.hs) } : Mo).endm 2 } }, (A.by (-1)).load (C.slot c.m.a.hs)) := by
  unfold Co.step; rw [if_neg (by omega), if_neg (by omega), if_neg (by omega), if_neg (by omega), if_neg (by omega), if_pos hp, e]
  unfold Cr.moved Mo.endm
  rw [if_neg (show ¬ (true, ({ c.m with a := { ({ c.m.a with w := A.w (C.slot c.m.a.hs) } : Mo) with out := 2, pc := if ({ c.m.a with w := A.w (C.slot c.m.a.hs) } : Mo).got = true then 11 else ({ c.m.a with w := A.w (C.slot c.m.a.hs) } : Mo).pc } } : Mv), (A.by (-1)).load (C.slot c.m.a.hs)).1 = false from fun q => by cases q), if_neg (show ¬ (2 : Int) = 1 by decide), if_pos (show (2 : Int) = 2 from rfl)]
 rw [st]
 exact h.on (A' := (A.by (-1)).load (C.slot c.m.a.hs)) hC (.inr hp) rfl rfl { c.m with a := ({ c.m.a with w := A.w (C.slot c.m.a.hs) } : Mo).endm 2 }
theorem TI.s6 (hC : C.ok) (h : TI C P c A) (hp : c.r.pc = 6) (r : Int) : TI C P (c.step C (-1) A r).1 (c.step C (-1) A r).2 ∧ (c.step C (-1) A r).1.r.rd = c.r.rd ∧ leftT C (c.step C (-1) A r).1 < leftT C c := by
 obtain ⟨hS, nn, w64, tw, cl, nm, tm⟩ := h
 rw [hp] at cl nm tm
 have st : c.step C (-1) A r = ({ c with r := { c.r with now := A.w 0, pc := 7 } }, (A.by (-1)).load 0) := by
  unfold Co.step; rw [if_neg (by omega), if_neg (by omega), if_neg (by omega), if_neg (by omega), if_neg (by omega), if_neg (by omega), if_pos hp]
 rw [st]
 refine ⟨TI.of (pc := 7) (now := A.w 0) A.w rfl hS nn w64 tw ?_ (nm.keep (fun _ _ _ => rfl) (by constructor <;> (intro; decide))) ?_, rfl, ?_⟩
 ·exact ⟨by decide, fun q => absurd q (by decide), fun q => absurd q (by decide), fun q => absurd q (by decide), fun q => absurd q (by decide), fun q => absurd q (by decide), fun q => absurd q (by decide), fun _ _ => cl.p8 (by decide) (by decide), fun q => absurd q (by decide), fun _ => cl.an (by decide), fun q => absurd q (by decide), fun _ => cl.sn (by decide), fun j j0 j1 d q => ⟨by decide, by decide, (cl.st2 j j0 j1 d q).2.2⟩⟩
 ·refine ⟨?_, ?_, ⟨tm.eb.1, tm.eb.2.1, fun _ => tm.eb.2.2.1 (by decide), fun _ _ => tm.eb.2.2.2 (by decide) (by decide)⟩, fun _ => ⟨tm.e.1, Int.le_refl _, fun a => (tm.pq a).1⟩, fun q => absurd q (by decide), fun a _ j j0 j1 d q => ?_, fun _ q => absurd q (by decide), tm.fq, tm.fi, tm.pq, tm.ks⟩
  ·have := tm.e; rw [if_neg (by decide)] at this ⊢; exact this
  ·have := tm.kt; rw [if_pos (by decide)] at this ⊢; exact this
  ·rcases tm.uq a (by decide) j j0 j1 d q with q | ⟨q, q' | q'⟩
   ·exact .inl q
   ·exact .inr ⟨q, .inl q'⟩
   ·exact absurd q'.1 (by decide)
 ·unfold leftT; dsimp only
  rw [if_neg (show ¬ (7 : Int) = 0 by decide), if_neg (show ¬ (7 : Int) = 1 by decide), if_neg (show ¬ (7 : Int) = 2 by decide), if_neg (show ¬ (7 : Int) = 3 by decide), if_neg (show ¬ (7 : Int) = 4 by decide), if_neg (show ¬ (7 : Int) = 5 by decide), if_neg (show ¬ (7 : Int) = 6 by decide), if_pos rfl,
   if_neg (show ¬ c.r.pc = 0 by omega), if_neg (show ¬ c.r.pc = 1 by omega), if_neg (show ¬ c.r.pc = 2 by omega), if_neg (show ¬ c.r.pc = 3 by omega), if_neg (show ¬ c.r.pc = 4 by omega), if_neg (show ¬ c.r.pc = 5 by omega), if_pos hp]; decide
theorem TI.s7 (hC : C.ok) (h : TI C P c A) (hp : c.r.pc = 7) (r : Int) : TI C P (c.step C (-1) A r).1 (c.step C (-1) A r).2 ∧ (c.step C (-1) A r).1.r.rd = c.r.rd ∧ leftT C (c.step C (-1) A r).1 < leftT C c := by
 obtain ⟨hS, nn, w64, tw, cl, nm, tm⟩ := h
 rw [hp] at cl nm tm
 obtain ⟨⟨a0, a1⟩, hD, hs2, hw⟩ := cl.p8 (by decide) (by decide)
 have hs2' : chS (A.w (C.chunk c.r.at')) = 2 := by rw [← hw]; exact hs2
 have st : c.step C (-1) A r = ({ c with r := { c.r with pc := 8 } }, (A.by (-1)).store (C.chunk c.r.at' + 2) c.r.now) := by
  unfold Co.step; rw [if_neg (by omega), if_neg (by omega), if_neg (by omega), if_neg (by omega), if_neg (by omega), if_neg (by omega), if_neg (by omega), if_pos hp]
 rw [st]
 have n7 := tm.n7 rfl
 have b := ck_lt hC a0 a1
 have ne0 : upd A.w (C.chunk c.r.at' + 2) c.r.now 0 = A.w 0 := upd_ne _ _ (by omega)
 have wc : ∀ j, upd A.w (C.chunk c.r.at' + 2) c.r.now (C.chunk j) = A.w (C.chunk j) := fun j => upd_ne _ _ (by unfold Cf.chunk; omega)
 have w2 : ∀ j, j ≠ c.r.at' → upd A.w (C.chunk c.r.at' + 2) c.r.now (C.chunk j + 2) = A.w (C.chunk j + 2) := fun j e => upd_ne _ _ (by have := ck_ne (C := C) e; omega)
 have nq : ∀ j, chS (A.w (C.chunk j)) = 3 → j ≠ c.r.at' := fun j q e => by rw [e, hs2'] at q; exact absurd q (by decide)
 have k1 := kS_congr (C := C) (P := P) (w := A.w) (w' := upd A.w (C.chunk c.r.at' + 2) c.r.now) (s := 1) fun j _ _ => wc j
 have k3 := kS_congr (C := C) (P := P) (w := A.w) (w' := upd A.w (C.chunk c.r.at' + 2) c.r.now) (s := 3) fun j _ _ => wc j
 have e0 := hS.e0
 have te := tm.e
 refine ⟨TI.of (pc := 8) (upd A.w (C.chunk c.r.at' + 2) c.r.now) rfl hS nn (w64u w64 ⟨n7.1, by have := (w64 0).2; omega⟩) (tw.ck12 hC a0 a1 hD (by rw [hs2']; decide) (.inr rfl)) ?_ (nm.keep (fun j _ _ => wc j) (by constructor <;> (intro; decide))) ?_, rfl, ?_⟩
 ·exact ⟨by decide, fun q => absurd q (by decide), fun q => absurd q (by decide), fun q => absurd q (by decide), fun q => absurd q (by decide), fun q => absurd q (by decide), fun q => absurd q (by decide), fun _ _ => ⟨⟨a0, a1⟩, hD, hs2, by rw [wc]; exact hw⟩, fun q => absurd q (by decide), fun _ => cl.an (by decide), fun q => absurd q (by decide), fun _ => cl.sn (by decide), fun j j0 j1 d q => ⟨by decide, by decide, (cl.st2 j j0 j1 d (by rwa [wc] at q)).2.2⟩⟩
 ·refine ⟨?_, ?_, ⟨tm.eb.1, tm.eb.2.1, fun _ => tm.eb.2.2.1 (by decide), fun _ _ => tm.eb.2.2.2 (by decide) (by decide)⟩, fun q => absurd q (by decide), fun _ => by rw [upd_same, ne0]; exact n7, fun a _ j j0 j1 d q => ?_, fun _ q => absurd q (by decide), fun a b => by rw [k3]; exact tm.fq a b, tm.fi, fun a => ?_, tm.ks⟩
  ·rw [ne0]; rw [if_neg (by decide)] at te ⊢; exact te
  ·have := tm.kt; rw [k1]; rw [if_pos (by decide)] at this ⊢; exact this
  ·rw [wc] at q
   rw [w2 j (nq j q), ne0]
   rcases tm.uq a (by decide) j j0 j1 d q with q | ⟨q, q' | q'⟩
   ·exact .inl q
   ·exact .inr ⟨q, .inl q'⟩
   ·exact absurd q'.1 (by decide)
  ·rw [ne0]
   have := tm.pq a
   exact ⟨this.1, this.2.1, this.2.2.1, fun j j0 j1 d q => by rw [wc] at q; rw [w2 j (nq j q)]; exact this.2.2.2 j j0 j1 d q⟩
 ·unfold leftT; dsimp only
  rw [if_neg (show ¬ (8 : Int) = 0 by decide), if_neg (show ¬ (8 : Int) = 1 by decide), if_neg (show ¬ (8 : Int) = 2 by decide), if_neg (show ¬ (8 : Int) = 3 by decide), if_neg (show ¬ (8 : Int) = 4 by decide), if_neg (show ¬ (8 : Int) = 5 by decide), if_neg (show ¬ (8 : Int) = 6 by decide), if_neg (show ¬ (8 : Int) = 7 by decide), if_pos rfl,
   if_neg (show ¬ c.r.pc = 0 by omega), if_neg (show ¬ c.r.pc = 1 by omega), if_neg (show ¬ c.r.pc = 2 by omega), if_neg (show ¬ c.r.pc = 3 by omega), if_neg (show ¬ c.r.pc = 4 by omega), if_neg (show ¬ c.r.pc = 5 by omega), if_neg (show ¬ c.r.pc = 6 by omega), if_pos hp]; decide
theorem TI.s8 (hC : C.ok) (h : TI C P c A) (hp : c.r.pc = 8) (r : Int) : TI C P (c.step C (-1) A r).1 (c.step C (-1) A r).2 ∧ (c.step C (-1) A r).1.r.rd = c.r.rd ∧ leftT C (c.step C (-1) A r).1 < leftT C c := by
 obtain ⟨hS, nn, w64, tw, cl, nm, tm⟩ := h
 rw [hp] at cl nm tm
 obtain ⟨⟨a0, a1⟩, hD, hs2, hw⟩ := cl.p8 (by decide) (by decide)
 have hs2' : chS (A.w (C.chunk c.r.at')) = 2 := by rw [← hw]; exact hs2
 have st : c.step C (-1) A r = ({ c with r := { c.r with ev := c.r.ev + 1, pc := 10 } }, (A.by (-1)).store (C.chunk c.r.at') (chw c.r.w 3)) := by
  unfold Co.step; rw [if_neg (by omega), if_neg (by omega), if_neg (by omega), if_neg (by omega), if_neg (by omega), if_neg (by omega), if_neg (by omega), if_neg (by omega), if_pos hp]
 rw [st]
 obtain ⟨v1, v2, v3, v4⟩ := chw_put (w := c.r.w) (st := 3) (by decide)
 have hqu := tw.qu _ a0 a1 hD (.inl hs2')
 have n8 := tm.n8 rfl
 have b := ck_lt hC a0 a1
 have ne0 : upd A.w (C.chunk c.r.at') (chw c.r.w 3) 0 = A.w 0 := upd_ne _ _ (by omega)
 have w2 : ∀ j, upd A.w (C.chunk c.r.at') (chw c.r.w 3) (C.chunk j + 2) = A.w (C.chunk j + 2) := fun j => upd_ne _ _ (by unfold Cf.chunk; omega)
 have q3 : ∀ j, chS (upd A.w (C.chunk c.r.at') (chw c.r.w 3) (C.chunk j)) = 3 → j = c.r.at' ∨ chS (A.w (C.chunk j)) = 3 := fun j q => by
  by_cases e : j = c.r.at'
  ·exact .inl e
  ·rw [upd_ne _ _ (ck_ne e).1] at q; exact .inr q
 have k1 := kS_same (P := P) (w := A.w) (i := c.r.at') (v := chw c.r.w 3) (s := 1) (by rw [hs2']; decide) (by rw [v1]; decide)
 have k3 := kS_on (P := P) (w := A.w) (v := chw c.r.w 3) (s := 3) a0 a1 hD (by rw [hs2']; decide) v1
 have e48 := tm.eb.2.2.2 (by decide) (by decide)
 have e2 := tm.eb.2.2.1 (by decide)
 refine ⟨TI.of (pc := 10) (ev := c.r.ev + 1) (upd A.w (C.chunk c.r.at') (chw c.r.w 3)) rfl hS nn (w64u w64 v4) ?_ ?_ ?_ ?_, rfl, ?_⟩
 ·exact tw.ck hC a0 a1 hD (by rw [v1]; decide) (fun q => by rw [v1] at q; exact absurd q (by decide)) (fun _ => ⟨by rw [v3, hw, hqu.1], by rw [v2, hw, hqu.2]⟩) (fun _ x x0 x1 => by
   have u := chU_bd (P.w0 (C.chunk c.r.at'))
   rw [tw.wd _ x a0 a1 hD (.inr hs2') (by omega) x1]; exact hS.ni _ x a0 a1 x0 x1) (fun q => by rw [v1] at q; exact absurd q (by decide))
 ·refine ⟨by decide, fun q => absurd q (by decide), fun q => absurd q (by decide), fun q => absurd q (by decide), fun q => absurd q (by decide), fun q => absurd q (by decide), fun q => absurd q (by decide), fun _ q => absurd q (by decide), fun _ v e => ?_, fun q => absurd rfl q, fun q => absurd q (by decide), fun _ => cl.sn (by decide), fun j j0 j1 d q => ?_⟩
  ·rw [show c.a = none from cl.an (by decide)] at e; cases e
  ·exfalso
   by_cases e : j = c.r.at'
   ·subst e; rw [upd_same, v1] at q; exact absurd q (by decide)
   ·rw [upd_ne _ _ (ck_ne e).1] at q; exact e (cl.st2 j j0 j1 d q).2.2
 ·have := nm.ck; rw [if_pos (by decide)] at this
  have := nm.cq
  exact ⟨by rw [if_neg (by decide), k1]; omega, by rw [k3]; omega, nm.z, nm.nn⟩
 ·refine ⟨by rw [ne0]; have := tm.e; rw [if_neg (by decide)] at this ⊢; exact this, by rw [k1]; have := tm.kt; rw [if_pos (by decide)] at this ⊢; exact this, ⟨by omega, fun _ => e48, fun q => absurd q (by decide), fun _ q => absurd q (by decide)⟩, fun q => absurd q (by decide), fun q => absurd q (by decide), fun a _ j j0 j1 d q => ?_, fun _ q => absurd q (by decide), fun a b => by omega, tm.fi, fun a => ?_, tm.ks⟩
  ·rw [w2, ne0]
   rcases q3 j q with rfl | q
   ·exact .inr ⟨n8.2.1, .inr ⟨rfl, by omega⟩⟩
   ·rcases tm.uq a (by decide) j j0 j1 d q with q | ⟨q, q' | q'⟩
    ·exact .inl q
    ·exact .inr ⟨q, .inl q'⟩
    ·exact absurd q'.1 (by decide)
  ·rw [ne0]
   have := tm.pq a
   refine ⟨this.1, this.2.1, this.2.2.1, fun j j0 j1 d q => ?_⟩
   rw [w2]
   rcases q3 j q with rfl | q
   ·exact ⟨n8.2.2 a, n8.2.1⟩
   ·exact this.2.2.2 j j0 j1 d q
 ·unfold leftT; dsimp only
  rw [if_neg (show ¬ (10 : Int) = 0 by decide), if_neg (show ¬ (10 : Int) = 1 by decide), if_neg (show ¬ (10 : Int) = 2 by decide), if_neg (show ¬ (10 : Int) = 3 by decide), if_neg (show ¬ (10 : Int) = 4 by decide), if_neg (show ¬ (10 : Int) = 5 by decide), if_neg (show ¬ (10 : Int) = 6 by decide), if_neg (show ¬ (10 : Int) = 7 by decide), if_neg (show ¬ (10 : Int) = 8 by decide), if_pos rfl,
   if_neg (show ¬ c.r.pc = 0 by omega), if_neg (show ¬ c.r.pc = 1 by omega), if_neg (show ¬ c.r.pc = 2 by omega), if_neg (show ¬ c.r.pc = 3 by omega), if_neg (show ¬ c.r.pc = 4 by omega), if_neg (show ¬ c.r.pc = 5 by omega), if_neg (show ¬ c.r.pc = 6 by omega), if_neg (show ¬ c.r.pc = 7 by omega), if_pos hp, cl.an (by decide)]; decide
end
end Go.Fl
namespace Go.Fl
open Go
set_option linter.unusedVariables false
set_option linter.unusedSimpArgs false
variable {N : Nm} {A B : Ar} {σ : Mem} {K : Value → Mem → Prop} {C : Cf} {who : Int} {P : TP} {w : Int → Int}
section
variable {c : Co}
theorem step10 (hp : c.r.pc = 10) (r : Int) : c.step C (-1) A r = if ((c.a.getD Adv.new).step C (-1) A).1 = true then ({ c with a := none, r := { c.r with at' := 0, pc := 11 } }, ((c.a.getD Adv.new).step C (-1) A).2.2)
  else ({ c with a := some ((c.a.getD Adv.new).step C (-1) A).2.1 }, ((c.a.getD Adv.new).step C (-1) A).2.2) := by
 unfold Co.step; rw [if_neg (by omega), if_neg (by omega), if_neg (by omega), if_neg (by omega), if_neg (by omega), if_neg (by omega), if_neg (by omega), if_neg (by omega), if_neg (by omega), if_neg (by omega), if_pos hp]
theorem step11 (hp : c.r.pc = 11) (r : Int) : c.step C (-1) A r = if ((c.s.getD (Stl.new c.r.at')).step C (-1) A).1 = true then ({ c with s := none, r := c.r.settled C ((c.s.getD (Stl.new c.r.at')).step C (-1) A).2.1.freed }, ((c.s.getD (Stl.new c.r.at')).step C (-1) A).2.2)
  else ({ c with s := some ((c.s.getD (Stl.new c.r.at')).step C (-1) A).2.1 }, ((c.s.getD (Stl.new c.r.at')).step C (-1) A).2.2) := by
 unfold Co.step; rw [if_neg (by omega), if_neg (by omega), if_neg (by omega), if_neg (by omega), if_neg (by omega), if_neg (by omega), if_neg (by omega), if_neg (by omega), if_neg (by omega), if_neg (by omega), if_neg (by omega)]
theorem left10 (h : c.r.pc = 10) : leftT C c = 520 - apA c.a := by unfold leftT; rw [if_neg (by omega), if_neg (by omega), if_neg (by omega), if_neg (by omega), if_neg (by omega), if_neg (by omega), if_neg (by omega), if_neg (by omega), if_neg (by omega), if_pos h]
theorem left11 (h : c.r.pc = 11) : leftT C c = 50 * (C.C - c.r.at') - spS c.s := by unfold leftT; rw [if_neg (by omega), if_neg (by omega), if_neg (by omega), if_neg (by omega), if_neg (by omega), if_neg (by omega), if_neg (by omega), if_neg (by omega), if_neg (by omega), if_neg (by omega)]
theorem TI.s10 (hC : C.ok) (h : TI C P c A) (hp : c.r.pc = 10) (hrd : c.r.rd ≤ 1000000) (r : Int) : TI C P (c.step C (-1) A r).1 (c.step C (-1) A r).2 ∧ (c.step C (-1) A r).1.r.rd = c.r.rd ∧ leftT C (c.step C (-1) A r).1 < leftT C c := by
 obtain ⟨hS, nn, w64, tw, cl, nm, tm⟩ := h
 have cl0 := cl; have nm0 := nm; have tm0 := tm
 rw [hp] at cl nm tm
 have hT := hC.T
 have hcc := hS.cc
 have low := low_lt hC
 have e0 := hS.e0
 have te := tm.e
 rw [if_neg (by decide)] at te
 have hr0 := nm.nn
 -- it goes on with the advance
 have go : ∀ v : Adv, v.now = A.w 0 → (v.pc = 1 ∧ 0 ≤ v.at' ∧ v.at' < C.T ∨ v.pc = 2 ∧ 0 ≤ v.at' ∧ (P.pn = true → A.w 0 = P.e0)) → ∀ A' : Ar, A'.w = A.w → A'.n = A.n → apA c.a < apA (some v) →
   TI C P { c with a := some v } A' ∧ ({ c with a := some v } : Co).r.rd = c.r.rd ∧ leftT C { c with a := some v } < leftT C c := by
  intro v hv1 hv2 A' hw hn hl
  refine ⟨TI.of (pc := c.r.pc) (a := some v) A.w hw hS (by rw [hn]; exact nn) w64 tw ?_ nm0 tm0, rfl, ?_⟩
  ·rw [hp]
   exact ⟨by decide, fun q => absurd q (by decide), fun q => absurd q (by decide), fun q => absurd q (by decide), fun q => absurd q (by decide), fun q => absurd q (by decide), fun q => absurd q (by decide), fun _ q => absurd q (by decide), fun _ u e => by cases e; exact ⟨hv1, hv2⟩, fun q => absurd rfl q, fun q => absurd q (by decide), fun _ => cl.sn (by decide), fun j j0 j1 d q => absurd (cl.st2 j j0 j1 d q).2.1 (by decide)⟩
  ·rw [left10 hp, left10 (c := { c with a := some v }) hp]; show 520 - apA (some v) < _; omega
 -- it is done
 have fin : ∀ (w' : Int → Int) (A' : Ar), A'.w = w' → A'.n = A.n → (w' = A.w ∧ P.pn = true ∨ w' = upd A.w 0 (A.w 0 + 1) ∧ (P.pn = true → A.w 0 = P.e0)) →
   TI C P { c with a := none, r := { c.r with at' := 0, pc := 11 } } A' ∧ ({ c with a := none, r := { c.r with at' := 0, pc := 11 } } : Co).r.rd = c.r.rd ∧ leftT C { c with a := none, r := { c.r with at' := 0, pc := 11 } } < leftT C c := by
  intro w' A' hw hn hc
  have wi : ∀ i, i ≠ 0 → w' i = A.w i := fun i hi => by rcases hc with ⟨rfl, _⟩ | ⟨rfl, _⟩; rfl; exact upd_ne _ _ hi
  have wz : w' 0 = A.w 0 ∧ P.pn = true ∨ w' 0 = A.w 0 + 1 ∧ (P.pn = true → A.w 0 = P.e0) := by rcases hc with ⟨rfl, q⟩ | ⟨rfl, q⟩; exact .inl ⟨rfl, q⟩; exact .inr ⟨upd_same _ _ _, q⟩
  have ckn : ∀ j, 0 ≤ j → j < C.C → C.chunk j ≠ 0 ∧ C.chunk j + 2 ≠ 0 := fun j j0 j1 => by have := ck_lt hC j0 j1; omega
  have k1 := kS_congr (C := C) (P := P) (w := A.w) (w' := w') (s := 1) fun j j0 j1 => wi _ (ckn j j0 j1).1
  have k3 := kS_congr (C := C) (P := P) (w := A.w) (w' := w') (s := 3) fun j j0 j1 => wi _ (ckn j j0 j1).1
  refine ⟨TI.of (pc := 11) (at' := 0) w' hw hS (by rw [hn]; exact nn) ?_ ?_ ?_ (nm.keep (fun j j0 j1 => wi _ (ckn j j0 j1).1) (by constructor <;> omega)) ?_, rfl, ?_⟩
  ·rcases hc with ⟨rfl, _⟩ | ⟨rfl, _⟩
   ·exact w64
   ·exact w64u w64 ⟨by omega, by omega⟩
  ·rcases hc with ⟨rfl, _⟩ | ⟨rfl, _⟩
   ·exact tw
   ·exact tw.e0 hC _
  ·refine ⟨by decide, fun q => absurd q (by decide), fun q => absurd q (by decide), fun q => absurd q (by decide), fun q => absurd q (by decide), fun q => absurd q (by decide), fun q => absurd q (by decide), fun _ q => absurd q (by decide), fun q => absurd q (by decide), fun _ => rfl, fun _ => ⟨⟨Int.le_refl 0, by have := hC.C; omega⟩, fun v e => ?_⟩, fun q => absurd rfl q, fun j j0 j1 d q => ?_⟩
   ·rw [show c.s = none from cl.sn (by decide)] at e; cases e
   ·rw [wi _ (ckn j j0 j1).1] at q; exact absurd (cl.st2 j j0 j1 d q).2.1 (by decide)
  ·refine ⟨by rw [if_pos rfl]; omega, ?_, ⟨tm.eb.1, tm.eb.2.1, fun q => absurd q (by decide), fun _ q => absurd q (by decide)⟩, fun q => absurd q (by decide), fun q => absurd q (by decide), fun _ q => absurd q (by decide), fun a _ j j0 j1 d q => ?_, fun a b => by rw [k3]; exact tm.fq a b, tm.fi, fun a => ?_, tm.ks⟩
   ·rw [k1]; have := tm.kt; rw [if_pos (by decide)] at this ⊢; exact this
   ·rw [wi _ (ckn j j0 j1).1] at q
    rw [wi _ (ckn j j0 j1).2]
    have hz : w' 0 = A.w 0 + 1 := by
     rcases wz with ⟨_, q⟩ | ⟨q, _⟩
     ·rw [a] at q; cases q
     ·exact q
    rcases tm.uq a (by decide) j j0 j1 d q with u | ⟨u, u' | u'⟩
    ·exact ⟨by omega, .inl ⟨by omega, j0⟩⟩
    ·exact ⟨by omega, .inr (.inr u')⟩
    ·exact ⟨by omega, .inr (.inl u'.2)⟩
   ·have := tm.pq a
    refine ⟨by omega, ?_, this.2.2.1, fun j j0 j1 d q => ?_⟩
    ·rcases wz with ⟨q, _⟩ | ⟨q, q2⟩
     ·omega
     ·have := q2 a; omega
    ·rw [wi _ (ckn j j0 j1).1] at q
     rw [wi _ (ckn j j0 j1).2]
     have := this.2.2.2 j j0 j1 d q
     omega
  ·rw [left10 hp, left11 (c := { c with a := none, r := { c.r with at' := 0, pc := 11 } }) rfl, show ({ c with a := none, r := { c.r with at' := 0, pc := 11 } } : Co).s = none from cl.sn (by decide)]
   have : apA c.a ≤ 10 := by
    unfold apA
    split
    ·decide
    ·rename_i u e
     have := (cl.p10 rfl u e).2
     split <;> omega
   show 50 * (C.C - 0) - 0 < 520 - apA c.a
   omega
 rw [step10 hp]
 cases ea : c.a with
 | none =>
  have e1 : Adv.new.step C (-1) A = (false, { Adv.new with now := A.w 0, pc := 1 }, (A.by (-1)).load 0) := by unfold Adv.step; rw [if_pos (show Adv.new.pc = 0 from rfl)]
  simp only [Option.getD_none, e1, Bool.false_eq_true, if_false]
  obtain ⟨x1, _, x3⟩ := go ⟨1, A.w 0, 0, false⟩ rfl (.inl ⟨rfl, Int.le_refl 0, by show (0 : Int) < C.T; omega⟩) ((A.by (-1)).load 0) rfl rfl (by rw [ea]; show (0 : Int) < (if (1 : Int) = 1 then 1 + 0 else 10); decide)
  exact ⟨x1, trivial, x3⟩
 | some v =>
  obtain ⟨hv1, hv2⟩ := cl.p10 rfl v ea
  simp only [Option.getD_some]
  rcases hv2 with ⟨q1, q2, q3⟩ | ⟨q1, q2, q3⟩
  ·have hSS := hC.S
   have pl := tw.low hC (i := 6 + v.at') (by omega) (by omega)
   have wr : IntKind.u64.wrap (v.now + 1) = A.w 0 + 1 := by rw [hv1]; exact u64w (by omega) (by omega)
   by_cases cnd : A.w (6 + v.at') ≠ 0 ∧ A.w (6 + v.at') ≠ IntKind.u64.wrap (v.now + 1)
   ·have e1 : v.step C (-1) A = (true, v, (A.by (-1)).load (6 + v.at')) := by unfold Adv.step; rw [if_neg (by omega), if_pos q1, if_pos cnd]
    simp only [e1, if_true]
    have pnt : P.pn = true := by
     cases pn : P.pn with
     | true => rfl
     | false => rw [pl, hS.pi pn _ q2 q3] at cnd; exact absurd rfl cnd.1
    obtain ⟨x1, _, x3⟩ := fin A.w ((A.by (-1)).load (6 + v.at')) rfl rfl (.inl ⟨rfl, pnt⟩)
    exact ⟨x1, trivial, x3⟩
   ·have e1 : v.step C (-1) A = (false, { v with at' := v.at' + 1, pc := if C.T ≤ v.at' + 1 then 2 else v.pc }, (A.by (-1)).load (6 + v.at')) := by unfold Adv.step; rw [if_neg (by omega), if_pos q1, if_neg cnd]
    simp only [e1, Bool.false_eq_true, if_false]
    suffices hgo : _ ∧ _ from by
     obtain ⟨x1, _, x3⟩ := go { v with at' := v.at' + 1, pc := if C.T ≤ v.at' + 1 then 2 else v.pc } hv1 hgo.1 ((A.by (-1)).load (6 + v.at')) rfl rfl hgo.2
     exact ⟨x1, trivial, x3⟩
    refine ⟨?_, ?_⟩
    ·by_cases z : C.T ≤ v.at' + 1
     ·refine .inr ⟨by show (if C.T ≤ v.at' + 1 then (2 : Int) else v.pc) = 2; rw [if_pos z], by show 0 ≤ v.at' + 1; omega, fun a => ?_⟩
      obtain ⟨j1, j2, j3⟩ := hS.pj a
      have ez : v.at' = 1 := by omega
      rw [ez, show (6 : Int) + 1 = 7 by decide] at pl cnd
      rw [wr] at cnd
      have := (tm.pq a).1
      omega
     ·exact .inl ⟨by show (if C.T ≤ v.at' + 1 then (2 : Int) else v.pc) = 1; rw [if_neg z, q1], by show 0 ≤ v.at' + 1; omega, by show v.at' + 1 < C.T; omega⟩
    ·rw [ea]
     show (if v.pc = 1 then 1 + v.at' else 10) < (if (if C.T ≤ v.at' + 1 then (2 : Int) else v.pc) = 1 then 1 + (v.at' + 1) else 10)
     rw [if_pos q1]
     by_cases z : C.T ≤ v.at' + 1
     ·rw [if_pos z, if_neg (by decide)]; omega
     ·rw [if_neg z, if_pos q1]; omega
  ·have wr : IntKind.u64.wrap (v.now + 1) = A.w 0 + 1 := by rw [hv1]; exact u64w (by omega) (by omega)
   have e1 : v.step C (-1) A = (true, { v with went := decide (A.w 0 = v.now) }, (A.by (-1)).store 0 (A.w 0 + 1)) := by unfold Adv.step; rw [if_neg (by omega), if_neg (by omega), cas_yes (by exact hv1.symm), wr]
   simp only [e1, if_true]
   obtain ⟨x1, _, x3⟩ := fin (upd A.w 0 (A.w 0 + 1)) ((A.by (-1)).store 0 (A.w 0 + 1)) rfl rfl (.inr ⟨rfl, q3⟩)
   exact ⟨x1, trivial, x3⟩
theorem TI.fin {w' : Int → Int} {A' : Ar} (hC : C.ok) (f : Bool) (hp : c.r.pc = 11) (hw : A'.w = w') (hS : TS C P) (nn : C.len ≤ A'.n ∧ (A'.n : Int) ≤ 200000000) (w64 : ∀ i, 0 ≤ w' i ∧ w' i < 18446744073709551616) (tw : TW C P w') (a0 : 0 ≤ c.r.at' ∧ c.r.at' < C.C) (an : c.a = none)
  (st2 : ∀ j, 0 ≤ j → j < C.C → P.D j = true → chS (w' (C.chunk j)) ≠ 2) (hsp : spS c.s ≤ 45) (nm : Num C P w' 11 c.r.ev (if f = true then c.r.fd + 1 else c.r.fd) c.r.lf c.r.mo c.r.mo2 c.r.rd c.r.idle)
  (tm : Tim C P w' 11 (c.r.at' + 1) c.r.now c.r.ev c.r.ev2 (if f = true then c.r.fd + 1 else c.r.fd) c.r.fd2 c.r.rd c.r.idle) (hff : f = true → ¬ (P.Ks + 2 ≤ c.r.rd - P.r0 ∧ P.pn = false)) :
  TI C P { c with s := none, r := c.r.settled C f } A' ∧ (({ c with s := none, r := c.r.settled C f } : Co).r.rd = c.r.rd ∧ leftT C { c with s := none, r := c.r.settled C f } < leftT C c ∨
   ({ c with s := none, r := c.r.settled C f } : Co).r.rd = c.r.rd + 1 ∧ ({ c with s := none, r := c.r.settled C f } : Co).r.pc = 0 ∧ ({ c with s := none, r := c.r.settled C f } : Co).r.at' = 0) := by
 generalize hfd : (if f = true then c.r.fd + 1 else c.r.fd) = fd' at nm tm
 by_cases z : C.C ≤ c.r.at' + 1
 ·have e : c.r.settled C f = ⟨0, c.r.x1, 0, c.r.pos, c.r.w, c.r.now, c.r.x6, c.r.x7, .pointer none, c.r.ev, c.r.lf, fd', c.r.mo, c.r.rd + 1, c.r.ev, c.r.lf, fd', c.r.mo, c.r.rd + 1, (if c.r.ev ≠ c.r.ev2 ∨ c.r.mo ≠ c.r.mo2 ∨ fd' ≠ c.r.fd2 then 0 else c.r.idle + 1)⟩ := by
   unfold Cr.settled; dsimp only; rw [if_pos z, hfd]
  rw [e]
  refine ⟨TI.of (pc := 0) (at' := 0) w' hw hS nn w64 tw ?_ ?_ ?_, .inr ⟨rfl, rfl, rfl⟩⟩
  ·exact ⟨by decide, fun q => absurd q (by decide), fun _ => ⟨⟨Int.le_refl 0, by have := hC.C; omega⟩, fun q => absurd rfl q⟩, fun q => absurd q (by decide), fun q => absurd q (by decide), fun q => absurd q (by decide), fun q => absurd q (by decide), fun q => absurd q (by decide), fun q => absurd q (by decide), fun _ => an, fun q => absurd q (by decide), fun _ => rfl, fun j j0 j1 d q => absurd q (st2 j j0 j1 d)⟩
  ·have h1 := nm.ck; rw [if_neg (by decide)] at h1
   have h4 := nm.nn
   refine ⟨by rw [if_neg (by decide)]; exact h1, nm.cq, ⟨nm.z.1, nm.z.2.1, nm.z.2.1⟩, ?_⟩
   split <;> omega
  ·have te := tm.e; rw [if_pos rfl] at te
   have tk := tm.kt; rw [if_pos (by decide)] at tk
   have eb := tm.eb
   have ks := tm.ks
   refine ⟨by rw [if_neg (by decide)]; omega, by rw [if_neg (by decide)]; omega, ⟨Int.le_refl _, fun q => absurd rfl q, fun _ => rfl, fun q => absurd q (by decide)⟩, fun q => absurd q (by decide), fun q => absurd q (by decide), fun a _ j j0 j1 d q => .inl (tm.us a rfl j j0 j1 d q).1, fun _ q => absurd q (by decide), fun a b => ⟨kS_none fun j j0 j1 d q => ?_, rfl⟩, fun a b => ?_, tm.pq, ks⟩
   ·rcases (tm.us a rfl j j0 j1 d q).2 with u | u | u
    ·omega
    ·have := eb.2.1 u; omega
    ·omega
   ·have h1 : ¬ c.r.ev ≠ c.r.ev2 := fun u => by have := eb.2.1 u; omega
    have h2 := nm.z
    have h3 := (tm.fq a (by omega)).2
    rw [if_neg (by omega)]
    have := nm.nn; omega
 ·have e : c.r.settled C f = ⟨c.r.pc, c.r.x1, c.r.at' + 1, c.r.pos, c.r.w, c.r.now, c.r.x6, c.r.x7, .pointer none, c.r.ev, c.r.lf, fd', c.r.mo, c.r.rd, c.r.ev2, c.r.lf2, c.r.fd2, c.r.mo2, c.r.rd2, c.r.idle⟩ := by
   unfold Cr.settled; dsimp only; rw [if_neg z, hfd]
  rw [e, hp]
  refine ⟨TI.of (pc := 11) (at' := c.r.at' + 1) w' hw hS nn w64 tw ?_ nm tm, .inl ⟨rfl, ?_⟩⟩
  ·exact ⟨by decide, fun q => absurd q (by decide), fun q => absurd q (by decide), fun q => absurd q (by decide), fun q => absurd q (by decide), fun q => absurd q (by decide), fun q => absurd q (by decide), fun _ q => absurd q (by decide), fun q => absurd q (by decide), fun _ => an, fun _ => ⟨⟨by omega, by omega⟩, fun v e => by cases e⟩, fun q => absurd rfl q, fun j j0 j1 d q => absurd q (st2 j j0 j1 d)⟩
  ·rw [left11 hp, left11 rfl]
   show 50 * (C.C - (c.r.at' + 1)) - 0 < _
   omega
end
end Go.Fl
namespace Go.Fl
open Go
set_option linter.unusedVariables false
set_option linter.unusedSimpArgs false
variable {N : Nm} {A B : Ar} {σ : Mem} {K : Value → Mem → Prop} {C : Cf} {who : Int} {P : TP} {w : Int → Int}
theorem chS0 {n : Int} : chS (putChunk 0 0 0 n) = 0 := by unfold putChunk chS cl; omega
theorem sp0 {v : Stl} : spS (some v) = if v.pc ≤ 2 then v.pc else if v.pc = 3 then 3 + v.at' else 40 + v.pc := rfl
theorem sp1 {v : Stl} (h : v.pc ≤ 2) : spS (some v) = v.pc := by rw [sp0, if_pos h]
theorem sp3 {v : Stl} (h : v.pc = 3) : spS (some v) = 3 + v.at' := by rw [sp0, if_neg (by omega), if_pos h]
theorem sp4 {v : Stl} (h : 4 ≤ v.pc) : spS (some v) = 40 + v.pc := by rw [sp0, if_neg (by omega), if_neg (by omega)]
theorem Tim.eqv {w' : Int → Int} {pc at' now ev ev2 fd fd2 rd idle : Int} (h : Tim C P w pc at' now ev ev2 fd fd2 rd idle) (h8 : pc ≠ 8) (h0 : w' 0 = w 0) (hc : ∀ j, 0 ≤ j → j < C.C → w' (C.chunk j) = w (C.chunk j)) (h2 : ∀ j, 0 ≤ j → j < C.C → w' (C.chunk j + 2) = w (C.chunk j + 2)) : Tim C P w' pc at' now ev ev2 fd fd2 rd idle := by
 have k1 := kS_congr (C := C) (P := P) (w := w) (w' := w') (s := 1) hc
 have k3 := kS_congr (C := C) (P := P) (w := w) (w' := w') (s := 3) hc
 refine ⟨by rw [h0]; exact h.e, by rw [k1]; exact h.kt, h.eb, by rw [h0]; exact h.n7, fun e => absurd e h8, fun a b j j0 j1 d q => ?_, fun a b j j0 j1 d q => ?_, fun a b => by rw [k3]; exact h.fq a b, h.fi, fun a => ?_, h.ks⟩
 ·rw [hc j j0 j1] at q; rw [h2 j j0 j1, h0]; exact h.uq a b j j0 j1 d q
 ·rw [hc j j0 j1] at q; rw [h2 j j0 j1, h0]; exact h.us a b j j0 j1 d q
 ·rw [h0]
  have := h.pq a
  exact ⟨this.1, this.2.1, this.2.2.1, fun j j0 j1 d q => by rw [hc j j0 j1] at q; rw [h2 j j0 j1]; exact this.2.2.2 j j0 j1 d q⟩
section
variable {c : Co}
theorem TI.s11 (hC : C.ok) (h : TI C P c A) (hp : c.r.pc = 11) (hrd : c.r.rd ≤ 1000000) (r : Int) : TI C P (c.step C (-1) A r).1 (c.step C (-1) A r).2 ∧ ((c.step C (-1) A r).1.r.rd = c.r.rd ∧ leftT C (c.step C (-1) A r).1 < leftT C c ∨
  (c.step C (-1) A r).1.r.rd = c.r.rd + 1 ∧ (c.step C (-1) A r).1.r.pc = 0 ∧ (c.step C (-1) A r).1.r.at' = 0) := by
 obtain ⟨hS, nn, w64, tw, cl, nm, tm⟩ := h
 have cl0 := cl; have nm0 := nm; have tm0 := tm
 rw [hp] at cl nm tm
 obtain ⟨⟨a0, a1⟩, hv⟩ := cl.p11 rfl
 have hcc := hS.cc
 have e0 := hS.e0
 have te := tm.e
 rw [if_pos rfl] at te
 have hr0 := nm.nn
 have b := ck_lt hC a0 a1
 have an : c.a = none := cl.an (by decide)
 have st2 : ∀ j, 0 ≤ j → j < C.C → P.D j = true → chS (A.w (C.chunk j)) ≠ 2 := fun j j0 j1 d q => absurd (cl.st2 j j0 j1 d q).2.1 (by decide)
 have hsp : spS c.s ≤ 45 := by
  unfold spS
  split
  ·decide
  ·rename_i u e
   obtain ⟨_, hDu, _, _, _, q⟩ := hv u e
   have hU := (hS.dd _ a0 a1 hDu).2.1
   split
   ·omega
   ·split
    ·rcases q with q | q | ⟨_, q | q⟩ <;> omega
    ·rcases q with q | q | ⟨_, q | q⟩ <;> omega
 have go : ∀ (v : Stl) (w' : Int → Int) (A' : Ar), A'.w = w' → A'.n = A.n → (∀ i, 0 ≤ w' i ∧ w' i < 18446744073709551616) → TW C P w' → (∀ j, 0 ≤ j → j < C.C → w' (C.chunk j) = A.w (C.chunk j)) → (∀ j, 0 ≤ j → j < C.C → w' (C.chunk j + 2) = A.w (C.chunk j + 2)) → w' 0 = A.w 0 →
   (v.ch = c.r.at' ∧ P.D c.r.at' = true ∧ chS (w' (C.chunk c.r.at')) = 3 ∧ v.w = w' (C.chunk c.r.at') ∧ v.freed = false ∧ (v.pc = 1 ∧ v.at' = 0 ∨ v.pc = 2 ∧ v.at' = 0 ∧ v.since = w' (C.chunk c.r.at' + 2) ∨
    P.pn = false ∧ (v.pc = 3 ∧ (0 ≤ v.at' ∧ v.at' < chU (P.w0 (C.chunk c.r.at'))) ∧ (∀ x, 0 ≤ x → x < v.at' → w' (C.base c.r.at' + x) = 0) ∨ (v.pc = 4 ∨ v.pc = 5) ∧ ∀ x, 0 ≤ x → x < chU (P.w0 (C.chunk c.r.at')) → w' (C.base c.r.at' + x) = 0))) →
   spS c.s < spS (some v) → TI C P { c with s := some v } A' ∧ (({ c with s := some v } : Co).r.rd = c.r.rd ∧ leftT C { c with s := some v } < leftT C c ∨ ({ c with s := some v } : Co).r.rd = c.r.rd + 1 ∧ ({ c with s := some v } : Co).r.pc = 0 ∧ ({ c with s := some v } : Co).r.at' = 0) := by
  intro v w' A' hw hn h64 htw hc h2 h0 hvv hl
  refine ⟨TI.of (pc := c.r.pc) (s := some v) w' hw hS (by rw [hn]; exact nn) h64 htw ?_ (nm0.keep hc Iff.rfl) (tm0.eqv (by omega) h0 hc h2), .inl ⟨rfl, ?_⟩⟩
  ·rw [hp]
   refine ⟨by decide, fun q => absurd q (by decide), fun q => absurd q (by decide), fun q => absurd q (by decide), fun q => absurd q (by decide), fun q => absurd q (by decide), fun q => absurd q (by decide), fun _ q => absurd q (by decide), fun q => absurd q (by decide), fun _ => an, fun _ => ⟨⟨a0, a1⟩, fun u e => by cases e; exact hvv⟩, fun q => absurd rfl q, fun j j0 j1 d q => ?_⟩
   rw [hc j j0 j1] at q; exact absurd q (st2 j j0 j1 d)
  ·rw [left11 hp, left11 (c := { c with s := some v }) hp]; show 50 * (C.C - c.r.at') - spS (some v) < _; omega
 -- it is done, and nothing is another one
 have fin0 : (chS (A.w (C.chunk c.r.at')) = 3 → P.D c.r.at' = true → A.w 0 < A.w (C.chunk c.r.at' + 2) + 2) → ∀ A' : Ar, A'.w = A.w → A'.n = A.n → TI C P { c with s := none, r := c.r.settled C false } A' ∧ (({ c with s := none, r := c.r.settled C false } : Co).r.rd = c.r.rd ∧ leftT C { c with s := none, r := c.r.settled C false } < leftT C c ∨
   ({ c with s := none, r := c.r.settled C false } : Co).r.rd = c.r.rd + 1 ∧ ({ c with s := none, r := c.r.settled C false } : Co).r.pc = 0 ∧ ({ c with s := none, r := c.r.settled C false } : Co).r.at' = 0) := by
  intro hq A' hw hn
  refine TI.fin hC false hp hw hS (by rw [hn]; exact nn) w64 tw ⟨a0, a1⟩ an st2 hsp nm ?_ fun e => by cases e
  refine ⟨tm.e, tm.kt, tm.eb, tm.n7, fun q => absurd q (by decide), tm.uq, fun a _ j j0 j1 d q => ?_, tm.fq, tm.fi, tm.pq, tm.ks⟩
  have := tm.us a rfl j j0 j1 d q
  refine ⟨this.1, ?_⟩
  rcases this.2 with ⟨u1, u2⟩ | u | u
  ·by_cases e : j = c.r.at'
   ·subst e; have := hq q d; omega
   ·exact .inl ⟨u1, by omega⟩
  ·exact .inr (.inl u)
  ·exact .inr (.inr u)
 rw [step11 hp]
 cases es : c.s with
 | none =>
  have e1 : (Stl.new c.r.at').step C (-1) A = (!decide (chS (A.w (C.chunk c.r.at')) = 3), { Stl.new c.r.at' with w := A.w (C.chunk c.r.at'), pc := 1 }, (A.by (-1)).load (C.chunk c.r.at')) := by unfold Stl.step; rw [if_pos (show (Stl.new c.r.at').pc = 0 from rfl)]; rfl
  rw [Option.getD_none, e1]
  by_cases c3 : chS (A.w (C.chunk c.r.at')) = 3
  ·rw [if_neg (by simp [c3])]
   have hD : P.D c.r.at' = true := by
    cases d : P.D c.r.at' with
    | true => rfl
    | false =>
     rw [(tw.un hC a0 a1 d).1] at c3
     have := (hS.nd _ a0 a1 d).2
     omega
   exact go ⟨c.r.at', 1, A.w (C.chunk c.r.at'), 0, 0, false⟩ A.w ((A.by (-1)).load (C.chunk c.r.at')) rfl rfl w64 tw (fun _ _ _ => rfl) (fun _ _ _ => rfl) rfl ⟨rfl, hD, c3, rfl, rfl, .inl ⟨rfl, rfl⟩⟩ (by rw [es, sp1 (by show (1 : Int) ≤ 2; decide)]; show (0 : Int) < 1; decide)
  ·rw [if_pos (by simp [c3])]
   exact fin0 (fun q => absurd q c3) ((A.by (-1)).load (C.chunk c.r.at')) rfl rfl
 | some v =>
  obtain ⟨v1, hD, v3, v4, v5, v6⟩ := hv v es
  have hdd := hS.dd _ a0 a1 hD
  have hqu := tw.qu _ a0 a1 hD (.inr v3)
  rw [Option.getD_some]
  rcases v6 with ⟨q1, q2⟩ | ⟨q1, q2, q3⟩ | ⟨qp, ⟨q1, q2, q3⟩ | ⟨q1, q2⟩⟩
  ·have e1 : v.step C (-1) A = (false, { v with since := A.w (C.chunk v.ch + 2), pc := 2 }, (A.by (-1)).load (C.chunk v.ch + 2)) := by unfold Stl.step; rw [if_neg (by omega), if_pos q1]
   rw [e1, if_neg (by simp)]
   exact go { v with since := A.w (C.chunk v.ch + 2), pc := 2 } A.w ((A.by (-1)).load (C.chunk v.ch + 2)) rfl rfl w64 tw (fun _ _ _ => rfl) (fun _ _ _ => rfl) rfl ⟨v1, hD, v3, v4, v5, .inr (.inl ⟨rfl, q2, by rw [v1]⟩)⟩ (by
    rw [es, sp1 (by omega), sp1 (by show (2 : Int) ≤ 2; decide)]; show v.pc < 2; omega)
  ·have hsn : 0 ≤ v.since ∧ v.since ≤ A.w 0 := by
    rw [q3]
    refine ⟨(w64 _).1, ?_⟩
    cases pn : P.pn with
    | true => exact ((tm.pq pn).2.2.2 _ a0 a1 hD v3).2
    | false => have := (tm.us pn rfl _ a0 a1 hD v3).1; omega
   have wr : IntKind.u64.wrap (v.since + 2) = v.since + 2 := u64w (by omega) (by omega)
   have e1 : v.step C (-1) A = (decide (A.w 0 < v.since + 2), { v with pc := 3 }, (A.by (-1)).load 0) := by unfold Stl.step; rw [if_neg (by omega), if_neg (by omega), if_pos q1, wr]
   rw [e1]
   by_cases cw : A.w 0 < v.since + 2
   ·rw [if_pos (by simp [cw])]
    show TI C P { c with s := none, r := c.r.settled C v.freed } _ ∧ _
    rw [v5]
    exact fin0 (fun _ _ => by rw [← q3]; exact cw) ((A.by (-1)).load 0) rfl rfl
   ·rw [if_neg (by simp [cw])]
    have pf : P.pn = false := by
     cases pn : P.pn with
     | false => rfl
     | true =>
      have h1 := (tm.pq pn).2.1
      have h2 := ((tm.pq pn).2.2.2 _ a0 a1 hD v3).1
      rw [← q3] at h2
      omega
    exact go { v with pc := 3 } A.w ((A.by (-1)).load 0) rfl rfl w64 tw (fun _ _ _ => rfl) (fun _ _ _ => rfl) rfl ⟨v1, hD, v3, v4, v5, .inr (.inr ⟨pf, .inl ⟨rfl, ⟨by show 0 ≤ v.at'; omega, by show v.at' < _; have := hdd.2.1; omega⟩, fun x x0 x1 => by have : x < v.at' := x1; omega⟩⟩)⟩ (by
     rw [es, sp1 (by omega), sp3 rfl]; show v.pc < 3 + v.at'; omega)
  ·have e1 : v.step C (-1) A = (false, { v with at' := v.at' + 1, pc := if chU v.w ≤ v.at' + 1 then 4 else v.pc }, (A.by (-1)).store (C.base c.r.at' + v.at') 0) := by unfold Stl.step; rw [if_neg (by omega), if_neg (by omega), if_neg (by omega), if_pos q1, v1]
   rw [e1, if_neg (by simp)]
   have hW := hdd.2.1
   have bb := base_ge hC a0 a1 q2.1
   have wck : ∀ j, 0 ≤ j → j < C.C → upd A.w (C.base c.r.at' + v.at') 0 (C.chunk j) = A.w (C.chunk j) := fun j j0 j1 => upd_ne _ _ (by have := ck_lt hC j0 j1; omega)
   have zz : ∀ x, 0 ≤ x → x < v.at' + 1 → upd A.w (C.base c.r.at' + v.at') 0 (C.base c.r.at' + x) = 0 := fun x x0 x1 => by
    unfold upd; split
    ·rfl
    ·exact q3 x x0 (by omega)
   refine go { v with at' := v.at' + 1, pc := if chU v.w ≤ v.at' + 1 then 4 else v.pc } (upd A.w (C.base c.r.at' + v.at') 0) ((A.by (-1)).store (C.base c.r.at' + v.at') 0) rfl rfl (w64u w64 (by decide)) (tw.nul hC a0 a1 hD v3 q2.1 (by omega)) wck (fun j j0 j1 => upd_ne _ _ (by have := ck_lt hC j0 j1; omega)) (upd_ne _ _ (by omega)) ⟨v1, hD, by rw [wck _ a0 a1]; exact v3, by rw [wck _ a0 a1]; exact v4, v5, .inr (.inr ⟨qp, ?_⟩)⟩ ?_
   ·have eu : chU v.w = chU (P.w0 (C.chunk c.r.at')) := by rw [v4]; exact hqu.1
    by_cases z : chU v.w ≤ v.at' + 1
    ·exact .inr ⟨.inl (by show (if chU v.w ≤ v.at' + 1 then (4 : Int) else v.pc) = 4; rw [if_pos z]), fun x x0 x1 => zz x x0 (by omega)⟩
    ·exact .inl ⟨by show (if chU v.w ≤ v.at' + 1 then (4 : Int) else v.pc) = 3; rw [if_neg z]; exact q1, ⟨by show 0 ≤ v.at' + 1; omega, by show v.at' + 1 < _; omega⟩, zz⟩
   ·rw [es, sp3 q1]
    by_cases z : chU v.w ≤ v.at' + 1
    ·have e : (if chU v.w ≤ v.at' + 1 then (4 : Int) else v.pc) = 4 := if_pos z
     rw [sp4 (by show 4 ≤ (if chU v.w ≤ v.at' + 1 then (4 : Int) else v.pc); omega)]
     show 3 + v.at' < 40 + (if chU v.w ≤ v.at' + 1 then (4 : Int) else v.pc); omega
    ·have e : (if chU v.w ≤ v.at' + 1 then (4 : Int) else v.pc) = v.pc := if_neg z
     rw [sp3 (by show (if chU v.w ≤ v.at' + 1 then (4 : Int) else v.pc) = 3; omega)]
     show 3 + v.at' < 3 + (v.at' + 1); omega
  ·rcases q1 with q1 | q1
   ·have e1 : v.step C (-1) A = (false, { v with pc := 5 }, (A.by (-1)).store (C.chunk c.r.at' + 1) 0) := by unfold Stl.step; rw [if_neg (by omega), if_neg (by omega), if_neg (by omega), if_neg (by omega), if_pos q1, v1]
    rw [e1, if_neg (by simp)]
    have wck : ∀ j, 0 ≤ j → j < C.C → upd A.w (C.chunk c.r.at' + 1) 0 (C.chunk j) = A.w (C.chunk j) := fun j j0 j1 => upd_ne _ _ (by unfold Cf.chunk; omega)
    refine go { v with pc := 5 } (upd A.w (C.chunk c.r.at' + 1) 0) ((A.by (-1)).store (C.chunk c.r.at' + 1) 0) rfl rfl (w64u w64 (by decide)) (tw.ck12 hC a0 a1 hD (by rw [v3]; decide) (.inl rfl)) wck (fun j j0 j1 => upd_ne _ _ (by unfold Cf.chunk; omega)) (upd_ne _ _ (by omega)) ⟨v1, hD, by rw [wck _ a0 a1]; exact v3, by rw [wck _ a0 a1]; exact v4, v5, .inr (.inr ⟨qp, .inr ⟨.inr rfl, fun x x0 x1 => ?_⟩⟩)⟩ ?_
    ·rw [upd_ne _ _ (by have := base_ge hC a0 a1 x0; omega)]; exact q2 x x0 x1
    ·rw [es, sp4 (by omega), sp4 (by show (4 : Int) ≤ 5; decide)]; show 40 + v.pc < 40 + 5; omega
   ·have e1 : v.step C (-1) A = (true, { v with freed := true }, (A.by (-1)).store (C.chunk v.ch) (putChunk 0 0 0 (chN v.w + 1))) := by unfold Stl.step; rw [if_neg (by omega), if_neg (by omega), if_neg (by omega), if_neg (by omega), if_neg (by omega)]
    rw [e1, if_pos rfl, v1]
    have hs0 : chS (putChunk 0 0 0 (chN v.w + 1)) = 0 := chS0
    have all0 : ∀ x, 0 ≤ x → x < C.W → A.w (C.base c.r.at' + x) = 0 := fun x x0 x1 => by
     by_cases z : x < chU (P.w0 (C.chunk c.r.at'))
     ·exact q2 x x0 z
     ·exact tw.qn _ x a0 a1 hD v3 (by omega) x1
    have htw := tw.ck (v := putChunk 0 0 0 (chN v.w + 1)) hC a0 a1 hD (by rw [hs0]; decide) (fun q => by rw [hs0] at q; exact absurd q (by decide)) (fun q => by rw [hs0] at q; rcases q with q | q <;> exact absurd q (by decide)) (fun q => by rw [hs0] at q; exact absurd q (by decide)) (fun _ => all0)
    have k1 := kS_same (P := P) (w := A.w) (i := c.r.at') (v := putChunk 0 0 0 (chN v.w + 1)) (s := 1) (by rw [v3]; decide) (by rw [hs0]; decide)
    have k3 := kS_off (P := P) (w := A.w) (v := putChunk 0 0 0 (chN v.w + 1)) (s := 3) a0 a1 hD v3 (by rw [hs0]; decide)
    have q3 : ∀ j, chS (upd A.w (C.chunk c.r.at') (putChunk 0 0 0 (chN v.w + 1)) (C.chunk j)) = 3 → j ≠ c.r.at' ∧ chS (A.w (C.chunk j)) = 3 := fun j q => by
     by_cases e : j = c.r.at'
     ·subst e; rw [upd_same, hs0] at q; exact absurd q (by decide)
     ·rw [upd_ne _ _ (ck_ne e).1] at q; exact ⟨e, q⟩
    have w2 : ∀ j, upd A.w (C.chunk c.r.at') (putChunk 0 0 0 (chN v.w + 1)) (C.chunk j + 2) = A.w (C.chunk j + 2) := fun j => upd_ne _ _ (by unfold Cf.chunk; omega)
    have ne0 : upd A.w (C.chunk c.r.at') (putChunk 0 0 0 (chN v.w + 1)) 0 = A.w 0 := upd_ne _ _ (by omega)
    have kn := kS_nn (C := C) (P := P) (w := upd A.w (C.chunk c.r.at') (putChunk 0 0 0 (chN v.w + 1))) (s := 3)
    refine TI.fin (w' := upd A.w (C.chunk c.r.at') (putChunk 0 0 0 (chN v.w + 1))) (A' := (A.by (-1)).store (C.chunk c.r.at') (putChunk 0 0 0 (chN v.w + 1))) hC true hp rfl hS nn (w64u w64 (putChunk_in _ _ _ _)) htw ⟨a0, a1⟩ an (fun j j0 j1 d q => ?_) hsp ?_ ?_ fun _ q => ?_
    ·by_cases e : j = c.r.at'
     ·subst e; rw [upd_same, hs0] at q; exact absurd q (by decide)
     ·rw [upd_ne _ _ (ck_ne e).1] at q; exact st2 j j0 j1 d q
    ·rw [if_pos rfl]
     have := nm.ck
     have := nm.cq
     exact ⟨by rw [k1]; exact nm.ck, by omega, nm.z, by omega⟩
    ·rw [if_pos rfl]
     refine ⟨by rw [ne0]; exact tm.e, by rw [k1]; exact tm.kt, tm.eb, fun q => absurd q (by decide), fun q => absurd q (by decide), fun _ q => absurd q (by decide), fun a _ j j0 j1 d q => ?_, fun a u => ?_, tm.fi, fun a => (by rw [qp] at a; cases a), tm.ks⟩
     ·obtain ⟨e, q'⟩ := q3 j q
      rw [w2, ne0]
      have := tm.us a rfl j j0 j1 d q'
      refine ⟨this.1, ?_⟩
      rcases this.2 with ⟨u1, u2⟩ | u | u
      ·exact .inl ⟨u1, by omega⟩
      ·exact .inr (.inl u)
      ·exact .inr (.inr u)
     ·have := (tm.fq a u).1; omega
    ·have := (tm.fq q.2 q.1).1; omega
theorem TI.step (hC : C.ok) (h : TI C P c A) (hrd : c.r.rd ≤ 1000000) (r : Int) (hr : c.may C A r) : TI C P (c.step C (-1) A r).1 (c.step C (-1) A r).2 ∧ ((c.step C (-1) A r).1.r.rd = c.r.rd ∧ leftT C (c.step C (-1) A r).1 < leftT C c ∨
  (c.step C (-1) A r).1.r.rd = c.r.rd + 1 ∧ (c.step C (-1) A r).1.r.pc = 0 ∧ (c.step C (-1) A r).1.r.at' = 0) := by
 have hb := h.cl.pb
 rcases (show c.r.pc = 0 ∨ c.r.pc = 1 ∨ c.r.pc = 2 ∨ c.r.pc = 3 ∨ c.r.pc = 4 ∨ c.r.pc = 5 ∨ c.r.pc = 6 ∨ c.r.pc = 7 ∨ c.r.pc = 8 ∨ c.r.pc = 10 ∨ c.r.pc = 11 by omega) with q | q | q | q | q | q | q | q | q | q | q
 ·exact ⟨(h.s0 hC q r).1, .inl (h.s0 hC q r).2⟩
 ·exact ⟨(h.s1 hC q r).1, .inl (h.s1 hC q r).2⟩
 ·exact ⟨(h.s2 hC q r hr).1, .inl (h.s2 hC q r hr).2⟩
 ·exact ⟨(h.s3 hC q r).1, .inl (h.s3 hC q r).2⟩
 ·exact ⟨(h.s4 hC q r).1, .inl (h.s4 hC q r).2⟩
 ·exact ⟨(h.s5 hC q r).1, .inl (h.s5 hC q r).2⟩
 ·exact ⟨(h.s6 hC q r).1, .inl (h.s6 hC q r).2⟩
 ·exact ⟨(h.s7 hC q r).1, .inl (h.s7 hC q r).2⟩
 ·exact ⟨(h.s8 hC q r).1, .inl (h.s8 hC q r).2⟩
 ·exact ⟨(h.s10 hC q hrd r).1, .inl (h.s10 hC q hrd r).2⟩
 ·exact h.s11 hC q hrd r
theorem TI.fit (hC : C.ok) (h : TI C P c A) (hrd : c.r.rd ≤ 1000000) : c.fit C A ∧ 1 ≤ leftT C c ∧ leftT C c ≤ 3000 := by
 have hhd := fun q => h.head hC q
 obtain ⟨hS, nn, w64, tw, cl, nm, tm⟩ := h
 have hb := cl.pb
 have hcc := hS.cc
 have hC3 := hC.C
 have hT := hC.T
 have low := low_lt hC
 have k1 := kS_nn (C := C) (P := P) (w := A.w) (s := 1)
 have k3 := kS_nn (C := C) (P := P) (w := A.w) (s := 3)
 have k3l := kS_le (C := C) (P := P) (w := A.w) (s := 3) (by omega)
 have hev : 0 ≤ c.r.ev ∧ c.r.ev ≤ 64 := by
  have h1 := nm.cq; have h2 := nm.ck; have h3 := nm.nn; have h4 := hS.k0
  split at h2 <;> omega
 have hfd := nm.cq
 have hr := nm.nn
 have ap : 0 ≤ apA c.a ∧ apA c.a ≤ 10 := by
  cases e : c.a with
  | none => decide
  | some v =>
   by_cases q : c.r.pc = 10
   ·rw [q] at cl
    have := (cl.p10 rfl v e).2
    show 0 ≤ (if v.pc = 1 then 1 + v.at' else 10) ∧ (if v.pc = 1 then 1 + v.at' else 10) ≤ 10
    split <;> omega
   ·rw [cl.an q] at e; cases e
 have sp : 0 ≤ spS c.s ∧ spS c.s ≤ 45 := by
  cases e : c.s with
  | none => decide
  | some v =>
   by_cases q : c.r.pc = 11
   ·rw [q] at cl
    obtain ⟨⟨a0, a1⟩, hv⟩ := cl.p11 rfl
    obtain ⟨_, hDu, _, _, _, q⟩ := hv v e
    have hU := (hS.dd _ a0 a1 hDu).2.1
    rw [sp0]
    rcases q with q | q | ⟨_, q | q⟩
    ·rw [if_pos (by omega)]; omega
    ·rw [if_pos (by omega)]; omega
    ·rw [if_neg (by omega), if_pos q.1]; omega
    ·rw [if_neg (by omega), if_neg (by omega)]; omega
   ·rw [cl.sn q] at e; cases e
 have at0 : c.r.pc ≠ 10 → 0 ≤ c.r.at' ∧ (c.r.pc = 2 → c.r.at' < 4) ∧ (c.r.pc ≠ 2 → c.r.at' < C.C) := fun q => by
  rcases (show c.r.pc = 0 ∨ c.r.pc = 1 ∨ c.r.pc = 2 ∨ c.r.pc = 3 ∨ (4 ≤ c.r.pc ∧ c.r.pc ≤ 8) ∨ c.r.pc = 11 by omega) with e | e | e | e | e | e
  ·have := (cl.p0 e).1; omega
  ·have := (cl.p1 e).1; omega
  ·have := (cl.p2 e).1; omega
  ·have := (cl.p3 e).1; omega
  ·have := (cl.p8 e.1 e.2).1; omega
  ·have := (cl.p11 e).1; omega
 have h48 : 4 ≤ c.r.pc → c.r.pc ≤ 5 → chC c.r.w ≤ 3 ∧ (0 ≤ c.r.pos ∧ C.base c.r.at' + c.r.pos < A.n) ∧ (chU c.r.w - c.r.pos ≤ 40 ∧ 1 ≤ chU c.r.w - c.r.pos) := fun q1 q2 => by
  obtain ⟨⟨⟨a0, a1⟩, hD⟩, ⟨p0, p1⟩, pm, cb, ⟨eC, eU⟩, uW, hh⟩ := hhd (by omega)
  have hb := (base_of hC a0 a1 p0 (by omega)).2.2
  omega
 have hm5 : c.r.pc = 5 → c.m.fit C A := fun q => by
  obtain ⟨⟨⟨a0, a1⟩, hD⟩, ⟨p0, p1⟩, pm, cb, ⟨eC, eU⟩, uW, hh⟩ := hhd (by omega)
  obtain ⟨h2, hm⟩ := cl.p5 q
  rcases hh with u | ⟨_, u2, u3, _⟩
  ·rw [u] at h2; exact absurd h2 (by decide)
  ·rw [hm]
   exact ⟨by show (0 : Int) ≤ 0 ∧ (0 : Int) ≤ 11; decide, u2, by show (0 : Int) ≤ 0 ∧ (0 : Int) < 18446744073709551616; decide, by show (0 : Int) ≤ 0 ∧ (0 : Int) < 18446744073709551616; decide, u3, by show (0 : Int) ≤ 0 ∧ (0 : Int) ≤ 65536; decide, by show (0 : Int) ≤ 0 ∧ (0 : Int) ≤ 65536; decide, nn.2,
    fun e => absurd (show (0 : Int) = 1 from e) (by decide), fun e => absurd (show (0 : Int) = 2 ∨ (0 : Int) = 8 ∨ (0 : Int) = 11 from e) (by decide), fun e => absurd (show (0 : Int) = 4 ∨ (0 : Int) = 5 from e) (by decide), fun e => absurd (show (0 : Int) = 6 from e) (by decide), fun e => absurd (show (0 : Int) = 9 from e) (by decide), fun e => absurd (show (0 : Int) = 10 from e) (by decide)⟩
 refine ⟨⟨⟨hb.1, hb.2.1⟩, at0, fun q z => ?_, fun q => ?_, fun a b => ?_, fun a b => (h48 a b).1, fun a b => (h48 a b).2.1, hm5, fun v e => ?_, fun v e => ?_, ⟨⟨hr.1, by omega⟩, ⟨by omega, by omega⟩, ⟨hr.2.1, by omega⟩⟩, by omega, by rw [nm.z.1]; decide, by rw [nm.z.2.1]; decide⟩, ?_⟩
 ·rcases (show c.r.pc = 0 ∨ c.r.pc = 1 ∨ c.r.pc = 2 by omega) with e | e | e
  ·rw [if_pos e]; exact ((cl.p0 e).2 fun q => z ⟨e, q⟩).1
  ·rw [if_neg (by omega), if_pos e]; exact (cl.p1 e).2.1
  ·rw [if_neg (by omega), if_neg (by omega)]; exact (cl.p2 e).2.1
 ·have := (cl.p2 q).1
  have hSS := hC.S
  rw [tw.low hC (by omega) (by omega)]
  exact hS.op _ (by omega) (by omega)
 ·rcases (show c.r.pc = 3 ∨ (4 ≤ c.r.pc ∧ c.r.pc ≤ 8) by omega) with e | e
  ·rw [(cl.p3 e).2.2.2]; exact w64 _
  ·rw [(cl.p8 e.1 e.2).2.2.2]; exact w64 _
 ·by_cases q : c.r.pc = 10
  ·have := (cl.p10 q v e).2
   exact ⟨q, ⟨by omega, by omega⟩, by omega, fun _ => by omega⟩
  ·rw [cl.an q] at e; cases e
 ·by_cases q : c.r.pc = 11
  ·obtain ⟨⟨a0, a1⟩, hv⟩ := cl.p11 q
   obtain ⟨u1, hDu, u3, u4, _, u6⟩ := hv v e
   have hU := (hS.dd _ a0 a1 hDu).2.1
   refine ⟨q, ⟨by omega, by omega⟩, by rw [u1]; exact ⟨a0, a1⟩, by rw [u4]; exact w64 _, fun e3 => ?_⟩
   rcases u6 with q | q | ⟨_, q | q⟩
   ·omega
   ·omega
   ·have := (base_of hC a0 a1 q.2.1.1 (by omega)).2.2
    rw [u1]; omega
   ·omega
  ·rw [cl.sn q] at e; cases e
 ·rcases (show c.r.pc = 0 ∨ c.r.pc = 1 ∨ c.r.pc = 2 ∨ c.r.pc = 3 ∨ c.r.pc = 4 ∨ c.r.pc = 5 ∨ c.r.pc = 6 ∨ c.r.pc = 7 ∨ c.r.pc = 8 ∨ c.r.pc = 10 ∨ c.r.pc = 11 by omega) with e | e | e | e | e | e | e | e | e | e | e
  ·have := at0 (by omega); unfold leftT; rw [if_pos e]; omega
  ·have := at0 (by omega); unfold leftT; rw [if_neg (by omega), if_pos e]; omega
  ·have := at0 (by omega); unfold leftT; rw [if_neg (by omega), if_neg (by omega), if_pos e]; omega
  ·unfold leftT; rw [if_neg (by omega), if_neg (by omega), if_neg (by omega), if_pos e]; omega
  ·have := h48 (by omega) (by omega); unfold leftT; rw [if_neg (by omega), if_neg (by omega), if_neg (by omega), if_neg (by omega), if_pos e]; omega
  ·have := h48 (by omega) (by omega); unfold leftT; rw [if_neg (by omega), if_neg (by omega), if_neg (by omega), if_neg (by omega), if_neg (by omega), if_pos e]; omega
  ·unfold leftT; rw [if_neg (by omega), if_neg (by omega), if_neg (by omega), if_neg (by omega), if_neg (by omega), if_neg (by omega), if_pos e]; omega
  ·unfold leftT; rw [if_neg (by omega), if_neg (by omega), if_neg (by omega), if_neg (by omega), if_neg (by omega), if_neg (by omega), if_neg (by omega), if_pos e]; omega
  ·unfold leftT; rw [if_neg (by omega), if_neg (by omega), if_neg (by omega), if_neg (by omega), if_neg (by omega), if_neg (by omega), if_neg (by omega), if_neg (by omega), if_pos e]; omega
  ·rw [left10 e]; omega
  ·have := at0 (by omega); rw [left11 e]; omega
end
theorem c_roundsT (hN : N.ok) (hC : C.ok) (hA : isA N A σ) {p : Nat} {O : List Nat} {c : Co} {n : Int} (hn : 0 ≤ n ∧ n ≤ 1000) (hO : COb N p O c σ) (h0 : TI C P c A) (hrd : c.r.rd ≤ 10000)
  (hk : ∀ c' A' O' τ, TI C P c' A' → c'.r.rd = c.r.rd + n → (n = 0 ∨ c'.r.pc = 0 ∧ c'.r.at' = 0) → isA N A' τ → COb N p O' c' τ → (∀ i ∈ O', i ∈ O ∨ σ.get i = none) → Keep (O ++ N.l) σ τ → K (.bool true) τ) :
  s_a7 [N.env C who, .pointer (some ⟨p, 0, none⟩), .int .i64 n] K σ := by
 have hr := h0.nm.nn
 refine c_rounds hN hC hA hn hO (fun c A => TI C P c A) (fun c _ => leftT C c) h0 ⟨by omega, by omega⟩ (fun c1 A1 h1 a b => ?_) (fun c1 A1 r h1 a b hm => ?_) hk
 ·obtain ⟨f1, f2, f3⟩ := h1.fit hC (by omega)
  exact ⟨f1, h1.nn.1, h1.nn.2, h1.w64, f2, f3⟩
 ·exact h1.step hC (by omega) r hm
end Go.Fl
namespace Go.Fl
open Go
set_option linter.unusedVariables false
set_option linter.unusedSimpArgs false
variable {N : Nm} {A B : Ar} {σ : Mem} {K : Value → Mem → Prop} {C : Cf} {who : Int}
theorem sumN_zero {f : Int → Int} : ∀ {n : Nat}, (∀ i : Int, 0 ≤ i → i < n → f i = 0) → sumN f n = 0
 | 0, _ => rfl
 | n + 1, h => by show sumN f n + f n = 0; rw [sumN_zero (n := n) fun i i0 i1 => h i i0 (by omega), h n (by omega) (by omega)]; rfl
section
variable {i : Int} {n : Nat} {dd : Int → Do} {li : Int → Bool} {w : Int → Int} {b : Bg}
theorem Dw.op (h : Dw C i n dd li w b) {k : Int} (k0 : 0 ≤ k) (k3 : k ≤ 3) : 0 ≤ w (2 + k) ∧ w (2 + k) ≤ C.C := by
 have := h.aw.alo.op k k0 k3
 have := h.aw.alo.bd
 omega
theorem Dw.chs (h : Dw C i n dd li w b) {j : Int} (j0 : 0 ≤ j) (j1 : j < C.C) : (chS (w (C.chunk j)) = 0 ∨ chS (w (C.chunk j)) = 1) ∧ chU (w (C.chunk j)) = b.u j ∧ (chS (w (C.chunk j)) = 1 → j < b.nx) := by
 by_cases q : j < b.nx
 ·have := h.aw.alo.old j j0 q
  exact ⟨.inr this.1, this.2.1, fun _ => q⟩
 ·have := h.aw.alo.new j (by omega) j1
  rw [this.1, this.2]
  exact ⟨.inl (by decide), by decide, fun e => absurd e (by decide)⟩
theorem Dw.ni (h : Dw C i n dd li w b) {j x : Int} (j0 : 0 ≤ j) (j1 : j < C.C) (x0 : chU (w (C.chunk j)) ≤ x) (x1 : x < C.W) : w (C.base j + x) = 0 :=
 h.aw.nil j x j0 j1 (by rw [← (h.chs j0 j1).2.1]; exact x0) x1
theorem Dw.gone (hC : C.ok) (h : Dw C i n dd li w b) (hi : i ≤ 1000) {k : Int} (k0 : 0 ≤ k) (k1 : k < n) (hk : li k = false) : goneH C w ((dd k).a C) := by
 obtain ⟨⟨p1, p2, p3⟩, p4, p5⟩ := h.pl k k0 k1
 have hd := h.hd k k0 k1
 have hS := hC.S
 have hz := class_room' hd.2.1
 have := hd_put (k := 2) (s := (dd k).z) (t := (dd k).s) (g := (dd k).ge) (o := (dd k).own) (by decide) (by omega) (by omega) (by omega)
 have hdead := h.dead k k0 k1 hk
 refine .inr ?_
 rw [p5, this.1, this.2.1, this.2.2.1, this.2.2.2.1]
 exact ⟨rfl, hd.1.2.2, hd.2.1, .inl (by omega)⟩
theorem Dw.ts (hC : C.ok) (h : Dw C i n dd li w b) (hi : i ≤ 1000) (cc : C.C ≤ 8 ∧ C.W ≤ 40) (hg : ∀ k : Int, 0 ≤ k → k < n → opB w 4 (dd k).j = false → li k = false) {K0 Ks r0 : Int} {pn : Bool} (k0 : K0 ≤ 64) (e0 : 0 ≤ w 0 ∧ w 0 ≤ 1000000)
  (hpi : pn = false → ∀ i, 0 ≤ i → i < C.T → w (6 + i) = 0) (hpj : pn = true → C.T = 2 ∧ w 6 = 0 ∧ w 7 = w 0 + 1) : TS C ⟨K0, Ks, r0, w 0, pn, w, fun j => decide (0 ≤ j ∧ j < b.nx) && !opB w 4 j⟩ := by
 have hbd := h.aw.alo.bd
 refine ⟨cc, fun k k0 k3 => h.op k0 k3, fun j j0 j1 hD => ?_, fun j j0 j1 hD => ?_, fun j x j0 j1 x0 x1 => h.ni j0 j1 x0 x1, hpi, hpj, e0, k0⟩
 ·simp only [Bool.and_eq_true, decide_eq_true_eq, Bool.not_eq_true'] at hD
  obtain ⟨⟨_, jn⟩, ho⟩ := hD
  have hold := h.aw.alo.old j j0 jn
  have hum := h.um j j0 jn
  have hz : b.lv j = 0 := by
   rw [← h.sm j j0 j1]
   refine sumN_zero fun k k0 k1 => ?_
   unfold part
   rw [if_neg]
   rintro ⟨q1, q2⟩
   rw [hg k k0 k1 (by rw [q2]; exact ho)] at q1; cases q1
  show chC (w (C.chunk j)) ≤ 3 ∧ (0 < chU (w (C.chunk j)) ∧ chU (w (C.chunk j)) ≤ C.W) ∧ opB w 4 j = false ∧ IntKind.i64.wrap (w (C.chunk j + 1)) ≤ 0 ∧ chS (w (C.chunk j)) = 1 ∧ ∀ x, 0 ≤ x → x < chU (w (C.chunk j)) → x % roomOf (chC (w (C.chunk j))) = 0 → goneH C w (C.base j + x)
  refine ⟨hum.2.1, by rw [hold.2.1]; exact ⟨hum.2.2, hold.2.2.2⟩, ho, by rw [h.aw.live j j0 j1, hz]; decide, hold.1, fun x x0 x1 xm => ?_⟩
  rw [hold.2.1] at x1
  obtain ⟨k, ⟨k0, k1⟩, e1, e2⟩ := h.cov j x j0 jn x0 x1 xm
  have := h.gone hC hi k0 k1 (hg k k0 k1 (by rw [e1]; exact ho))
  rw [show (dd k).a C = C.base (dd k).j + (dd k).i from rfl, e1, e2] at this
  exact this
 ·have hc := h.chs j0 j1
  refine ⟨fun hm => ?_, hc.1⟩
  have h1 : chS (w (C.chunk j)) = 1 := hm.1
  have h2 : opB w 4 j = false := hm.2.1
  have hjn := hc.2.2 h1
  have hD' : (decide (0 ≤ j ∧ j < b.nx) && !opB w 4 j) = false := hD
  rw [h2] at hD'
  simp [j0, hjn] at hD'
end
theorem TI.init (hC : C.ok) {K0 Ks : Int} {pn : Bool} {D : Int → Bool} (hS : TS C ⟨K0, Ks, 0, A.w 0, pn, A.w, D⟩) (nn : C.len ≤ A.n ∧ (A.n : Int) ≤ 200000000) (w64 : ∀ i, 0 ≤ A.w i ∧ A.w i < 18446744073709551616)
  (hK : kS C ⟨K0, Ks, 0, A.w 0, pn, A.w, D⟩ A.w 1 = K0) (hKs : Ks = K0) : TI C ⟨K0, Ks, 0, A.w 0, pn, A.w, D⟩ Co.new A := by
 have hs1 : ∀ j, 0 ≤ j → j < C.C → D j = true → chS (A.w (C.chunk j)) = 1 := fun j j0 j1 d => (hS.dd j j0 j1 d).2.2.2.2.1
 have k3 : kS C ⟨K0, Ks, 0, A.w 0, pn, A.w, D⟩ A.w 3 = 0 := kS_none fun j j0 j1 d q => by rw [hs1 j j0 j1 d] at q; exact absurd q (by decide)
 have kn := kS_nn (C := C) (P := ⟨K0, Ks, 0, A.w 0, pn, A.w, D⟩) (w := A.w) (s := 1)
 have hCC := hC.C
 refine TI.of (pc := 0) (at' := 0) A.w rfl hS nn w64 ⟨fun _ _ _ => rfl, fun _ _ _ _ _ => ⟨rfl, rfl⟩, fun _ _ _ _ _ _ _ _ => rfl, fun j j0 j1 d q => ?_, fun j x j0 j1 d q => ?_, fun j x j0 j1 d q => ?_⟩ ?_ ?_ ?_
 ·rw [hs1 j j0 j1 d] at q; rcases q with q | q <;> exact absurd q (by decide)
 ·rw [hs1 j j0 j1 d] at q; exact absurd q (by decide)
 ·rw [hs1 j j0 j1 d] at q; exact absurd q (by decide)
 ·exact ⟨by decide, fun q => absurd q (by decide), fun _ => ⟨⟨Int.le_refl 0, by omega⟩, fun q => absurd rfl q⟩, fun q => absurd q (by decide), fun q => absurd q (by decide), fun q => absurd q (by decide), fun q => absurd q (by decide), fun q => absurd q (by decide), fun q => absurd q (by decide), fun _ => rfl, fun q => absurd q (by decide), fun _ => rfl, fun j j0 j1 d q => by rw [hs1 j j0 j1 d] at q; exact absurd q (by decide)⟩
 ·exact ⟨by rw [if_neg (by decide), hK]; show (0 : Int) + 0 + K0 = K0; omega, by rw [k3]; rfl, ⟨rfl, rfl, rfl⟩, ⟨by decide, by decide, by decide, Int.le_refl 0, Int.le_refl 0⟩⟩
 ·refine ⟨⟨(w64 0).1, by show A.w 0 ≤ A.w 0 + (0 - 0) + _; rw [if_neg (by decide)]; omega⟩, .inl ?_, ⟨Int.le_refl 0, fun q => absurd rfl q, fun _ => rfl, fun q => absurd q (by decide)⟩, fun q => absurd q (by decide), fun q => absurd q (by decide), fun _ _ j j0 j1 d q => by rw [hs1 j j0 j1 d] at q; exact absurd q (by decide), fun _ q => absurd q (by decide), fun _ q => ?_, fun _ q => ?_, fun _ => ⟨Int.le_refl _, by show A.w 0 ≤ A.w 0 + 1; omega, rfl, fun j j0 j1 d q => by rw [hs1 j j0 j1 d] at q; exact absurd q (by decide)⟩, ?_⟩
  ·rw [if_neg (by decide), hK]; show K0 + (0 - 0) + 0 ≤ Ks; omega
  ·have : Ks + 2 ≤ (0 : Int) - 0 := q; omega
  ·have : Ks + 3 ≤ (0 : Int) - 0 := q; omega
  ·show 0 ≤ Ks; omega
end Go.Fl
namespace Go.Fl
open Go
set_option linter.unusedVariables false
set_option linter.unusedSimpArgs false
variable {N : Nm} {A B : Ar} {σ : Mem} {K : Value → Mem → Prop} {C : Cf} {who : Int}
section
variable {i : Int} {n : Nat} {dd : Int → Do} {li : Int → Bool} {w w' : Int → Int} {b : Bg}
theorem Dw.same (hC : C.ok) (h : Dw C i n dd li w b) (aw : b.aw C w') (hs : ∀ t, 0 ≤ t → t < C.S → w' (C.slot t) = w (C.slot t)) (hw : ∀ j x, 0 ≤ j → j < C.C → 0 ≤ x → x < b.u j → x < C.W → w' (C.base j + x) = w (C.base j + x)) (hc : ∀ j, 0 ≤ j → j < b.nx → chC (w' (C.chunk j)) = chC (w (C.chunk j))) : Dw C i n dd li w' b := by
 have hbd := h.aw.alo.bd
 have wh : ∀ k : Int, 0 ≤ k → k < n → w' ((dd k).a C) = w ((dd k).a C) := fun k k0 k1 => by
  obtain ⟨⟨p1, p2, p3⟩, _⟩ := h.pl k k0 k1
  have pu := (aw_ule hC h.aw p1.1 (by omega)).2
  have rm := (dd k).rm0
  exact hw _ _ p1.1 (by omega) p2 (by omega) (by omega)
 refine ⟨aw, h.lv, fun s s0 s1 => by rw [hs s s0 s1]; exact h.gen s s0 s1, h.hd, fun k k0 k1 hk => ?_, fun k k0 k1 hk => ?_, h.nsl, h.ns, h.sm, h.nle, fun k k0 k1 => ?_, fun j x j0 j1 x0 x1 xm => ?_, fun j j0 j1 => ?_⟩
 ·have o := h.ok k k0 k1 hk
  exact o.keep o.sF (hs _ o.s.1 o.s.2) (wh k k0 k1) (Int.le_refl _) o.lv
 ·have := (h.hd k k0 k1).1.2.2
  rw [hs _ this.1 this.2]; exact h.dead k k0 k1 hk
 ·obtain ⟨p1, p2, p3⟩ := h.pl k k0 k1
  exact ⟨p1, by rw [hc _ p1.1.1 p1.1.2]; exact p2, by rw [wh k k0 k1]; exact p3⟩
 ·rw [hc j j0 j1] at xm; exact h.cov j x j0 j1 x0 x1 xm
 ·rw [hc j j0 j1]; exact h.um j j0 j1
end
theorem c_MakeW (hN : N.ok) (hC : C.ok) (hA : isA N A σ) {i : Int} {n : Nat} {dd : Int → Do} {li : Int → Bool} {b : Bg} {z bb : Int} {own : Bool} (hP : Pa C A bb) (hb : bb < 2305843009213693952) (h : Dw C i n dd li A.w b) (hi : i ≤ 1000) (hcl : 0 ≤ classOf z)
  (k0 : ∀ oE oV oS A' τ, (oE = 7 ∧ b.F = [] ∨ oE = 6 ∧ ¬ good C b.o b.u (classOf z) ∧ b.nx = C.C) → Dw C i n dd li A'.w b → Pa C A' (bb + 100) → A'.n = A.n → (∀ i, lowW C i → A'.w i = A.w i) → isA N A' τ → Keep N.l σ τ → K (.agg #[.int .i64 oE, .int .u64 0, .int .i64 oV, .int .i64 oS]) τ)
  (k1 : ∀ oV oS A' τ s F j b' d, b.F = s :: F → Got C b F (classOf z) j b' → (d.own = own ∧ d.j = j ∧ d.z = z ∧ d.i = b.u j) → Dw C (i + 1) (n + 1) (addD dd n d) (updB li n true) A'.w (b'.count j (roomOf (classOf z))) → Pa C A' (bb + 100) → A'.n = A.n → (∀ i, lowW C i → A'.w i = A.w i) → isA N A' τ → Keep N.l σ τ →
   K (.agg #[.int .i64 0, .int .u64 d.n, .int .i64 oV, .int .i64 oS]) τ) : s_a2 [N.env C who, .int .i64 z, .bool own] K σ := by
 refine c_MakeK hN hC hA hP hb h.aw (h.lv.ok (by omega)) hcl fun m A' τ hD hP' hn hck hlo hA' hK => ?_
 have hfw := hD.fw
 rcases hD.r with ⟨e, eH, eF, haw⟩ | ⟨s, F, hF, ⟨e, eH, ng, nx, haw⟩ | ⟨e, _, j, b', hg, jb, ub, eH, haw, w1, w2, w3⟩⟩
 ·rw [eH]
  exact k0 _ _ _ A' τ (.inl ⟨e, eF⟩) (h.same hC haw (fun t t0 t1 => hfw.slot t t0 t1 fun q => by rw [e] at q; exact absurd q (by decide)) (fun j x j0 j1 x0 x1 x2 => hfw.word j x j0 j1 x0 x1 x2) hck) hP' hn hlo hA' hK
 ·rw [eH]
  exact k0 _ _ _ A' τ (.inr ⟨e, ng, nx⟩) (h.same hC haw (fun t t0 t1 => hfw.slot t t0 t1 fun q => by rw [e] at q; exact absurd q (by decide)) (fun j x j0 j1 x0 x1 x2 => hfw.word j x j0 j1 x0 x1 x2) hck) hP' hn hlo hA' hK
 ·rw [e, eH]
  exact k1 _ _ A' τ s F j b' (Do.mk' C b s (slG (A.w (C.slot s))) z own j) hF hg ⟨rfl, rfl, rfl, rfl⟩ (h.make hC hi hF hcl hg haw w1 w2 (hfw.mono fun _ => trivial) hck) hP' hn hlo hA' hK
theorem c_DropAn (hN : N.ok) (hC : C.ok) (hA : isA N A σ) {b : Bg} {d : Do} {bb : Int} (hP : Pa C A bb) (hb : bb < 2305843009213693952) (hAw : b.aw C A.w) (hd : d.ok C b A.w) (hlv : b.lv d.j < 18446744073709551616)
  (hk : ∀ m A' τ, DnD C b d A.w A.s m A' → Pa C A' (bb + 60) → A'.n = A.n → isA N A' τ → Keep N.l σ τ → K (.agg #[.int .i64 0, .int .u64 m.d.oH, .int .i64 m.d.oV, .int .i64 m.d.oS]) τ) :
  s_a3 [N.env C who, .int .u64 d.n, .bool d.own] K σ := by
 have av := d.av hC hd ⟨_, hAw⟩
 refine c_Drop hN hC hA (fun k m A' => DrI C b d A.w A.s k m A' ∧ A'.ok (bb + k) ∧ A'.n = A.n ∧ A'.s = A.s + k) (fun m A' => DnD C b d A.w A.s m A' ∧ A'.ok (bb + 60) ∧ A'.n = A.n ∧ A'.s ≤ A.s + 60)
  ⟨⟨rfl, rfl, .inl ⟨rfl, Int.le_refl 0, rfl, rfl, rfl⟩⟩, by simpa using hP.ok, rfl, by omega⟩ ?_ (fun m A' h => by have := h.1.kle av.2.2.1; omega) ?_
 ·rintro k m A' k0 k1 ⟨h, ok, en, es⟩
  have hkl := h.kle av.2.2.1
  have hnn := hP.n
  refine ⟨h.fit hC hd hAw ok.w hP.ok.w (by omega), ok.w, by omega, ?_⟩
  obtain ⟨td, h'⟩ := h.step (who := who) hC hd hAw ok (by omega) (by omega) hlv
  have t1 := td.s
  have t2 := td.n
  have t3 := td.ok _ ok
  rcases h' with ⟨e, h'⟩ | ⟨e, h'⟩
  ·rw [if_neg (by rw [e]; decide)]
   exact ⟨h', by rw [show bb + (k + 1) = bb + k + 1 by omega]; exact t3, by omega, by omega⟩
  ·rw [if_pos e]
   exact ⟨h', ok_mono t3 (by omega), by omega, by omega⟩
 ·rintro m A' τ ⟨hD, ok, en, es⟩ hA' hK
  rw [hD.e]
  have := hP.n
  exact hk m A' τ hD (Bg.aw.pa hC hD.aw ok (by omega)) en hA' hK
theorem c_DropW (hN : N.ok) (hC : C.ok) (hG : C.G = 100) (hA : isA N A σ) {i k : Int} {n : Nat} {dd : Int → Do} {li : Int → Bool} {b : Bg} {bb : Int} (hP : Pa C A bb) (hb : bb < 2305843009213693952) (h : Dw C i n dd li A.w b) (hi : i ≤ 90) (k0 : 0 ≤ k) (k1 : k < n) (hk : li k = true)
  (kk : ∀ oH oV oS A' τ, Dw C (i + 1) n dd (updB li k false) A'.w { b.less (dd k).j (roomOf (classOf (dd k).z)) with F := (dd k).s :: b.F } → Pa C A' (bb + 60) → A'.n = A.n → (∀ i, lowW C i → A'.w i = A.w i) → isA N A' τ → Keep N.l σ τ → K (.agg #[.int .i64 0, .int .u64 oH, .int .i64 oV, .int .i64 oS]) τ) :
  s_a3 [N.env C who, .int .u64 (dd k).n, .bool (dd k).own] K σ := by
 have o := h.ok k k0 k1 hk
 have hlv := h.lv.lv _ o.j.1 o.j.2
 refine c_DropAn hN hC hA hP hb h.aw o (by omega) fun m A' τ hD hP' hn' hA' hK => ?_
 refine kk _ _ _ A' τ (h.drop hC hG hi k0 k1 hk hD.fr hD.sl hD.aw) hP' hn' (fun x hx => ?_) hA' hK
 have hx' : x = 0 ∨ 6 ≤ x ∧ x < 6 + C.T := hx
 have hbd := base_ge hC o.j.1 o.j.2 o.i.1
 have ea : (dd k).a C = C.base (dd k).j + (dd k).i := rfl
 have os := o.s
 have oj := o.j
 have hT := hC.T
 exact hD.fr x (by unfold Cf.slot; omega) (by omega) (by unfold Cf.slot; omega) (by unfold Cf.chunk; omega) (by omega)
end Go.Fl
namespace Go.Fl
open Go
set_option linter.unusedVariables false
set_option linter.unusedSimpArgs false
variable {N : Nm} {A B : Ar} {σ : Mem} {K : Value → Mem → Prop} {C : Cf} {who : Int}
structure Rh (N : Nm) (σ : Mem) (p n : Nat) (g : Int → Int) (τ : Mem) : Prop where
 gp : τ.get p = some ⟨cells .u64 n g, true⟩
 dp : p ∉ N.l ∧ σ.get p = none
theorem Rh.keep {p n : Nat} {g : Int → Int} {τ υ : Mem} (h : Rh N σ p n g τ) (k : Keep N.l τ υ) : Rh N σ p n g υ := ⟨k.get h.gp h.dp.1, h.dp⟩
theorem Rh.ext {p n : Nat} {g : Int → Int} {τ υ : Mem} (h : Rh N σ p n g τ) (k : Ext τ υ) : Rh N σ p n g υ := ⟨k _ _ h.gp, h.dp⟩
theorem Rh.add {p n l : Nat} {g g' : Int → Int} {τ : Mem} {A : Ar} (h : Rh N σ p n g τ) (hA : isA N A τ) (hE : Ext σ τ) (hn : n < 1000000) (hg : ∀ i : Int, 0 ≤ i → i < n → g' i = g i)
  (hk : ∀ id υ, Rh N σ id (n + 1) g' υ → isA N A υ → Ext σ υ → (∀ q, q ≠ p → τ.get q ≠ none → υ.get q = τ.get q) → K (.slice (some ⟨id, 0, none⟩) (n + 1) 1) υ) : hAppendL 1 8 [.int .u64 (g' n)] [.slice (some ⟨p, 0, none⟩) n 1, locS l 1 1] K τ := by
 refine hAppendL_i (pre := []) (L := cells .u64 n g) (by rw [List.nil_append]; exact h.gp) rfl (cells_len _ _ _) (by decide) rfl (by omega) fun id υ hid gid kp => ?_
 rw [cells_snoc hg] at gid
 refine hk id υ ⟨gid, hA.new hid, hE.none hid⟩ (hA.keep kp ?_) (hE.keep' kp fun j hj => by rw [List.mem_singleton] at hj; subst hj; exact h.dp.2) fun q hq hn => ?_
 ·have := h.dp.1
  simp only [Nm.l, List.mem_cons, List.not_mem_nil, or_false, not_or] at this ⊢
  exact ⟨Ne.symm this.1, Ne.symm this.2.1, Ne.symm this.2.2⟩
 ·cases e : τ.get q with
  | none => exact absurd e hn
  | some x => exact kp _ _ e (by simpa using hq)
theorem Rh.ld {p n : Nat} {g : Int → Int} {τ : Mem} {i : Int} (h : Rh N σ p n g τ) (i0 : 0 ≤ i) (i1 : i < n) : hLoad 1 false [.pointer (some ⟨p, i.toNat * 1, none⟩)] K τ = K (.int .u64 (g i)) τ := ldCells h.gp i0 i1
theorem f1 {x y z w : Value} {K : Value → Prop} : xF (fFldV 1 1 false) [.agg #[x, y, z, w]] K = K y := nr rfl
theorem bu1 {x : Int} : gBuildS 1 1 [.int .u64 0] [0] [.int .u64 x] [] = some [.int .u64 x] := nr rfl
theorem upL_cons {i : Int} {n : Nat} : upL i (n + 1) = i :: upL (i + 1) n := rfl
structure Aw7 (C : Cf) (k : Nat) (dd : Int → Do) (li : Int → Bool) (w : Int → Int) (b : Bg) : Prop where
 dw : Dw C k k dd li w b
 F : b.F = upL k (20 - k)
 st : k = 0 ∧ b.nx = 0 ∧ b.o 0 = -1 ∨ (1 ≤ k ∧ k ≤ 6) ∧ b.nx = 1 ∧ b.o 0 = 0 ∧ b.u 0 = 3 * k ∨ k = 7 ∧ b.nx = 2 ∧ b.o 0 = 1
 o : ∀ c, 1 ≤ c → c ≤ 3 → b.o c = -1
 lo : ∀ i, lowW C i → w i = 0
 each : ∀ l : Int, 0 ≤ l → l < k → (dd l).own = false ∧ li l = true ∧ (dd l).j = (if l < 6 then 0 else 1)
theorem Aw7.next (hC : C.ok) (h4 : C.C = 4) (hW : C.W = 20) {k : Nat} {dd : Int → Do} {li : Int → Bool} {w w' : Int → Int} {b b' : Bg} {s j : Int} {F : List Int} {d : Do} (h : Aw7 C k dd li w b) (hk : k < 7) (hF : b.F = s :: F) (hg : Got C b F 0 j b') (h1 : d.own = false) (h2 : d.j = j)
  (hd : Dw C (k + 1) (k + 1) (addD dd k d) (updB li k true) w' (b'.count j (roomOf 0))) (hl : ∀ i, lowW C i → w' i = 0) : Aw7 C (k + 1) (addD dd k d) (updB li k true) w' (b'.count j (roomOf 0)) := by
 obtain ⟨hdw, hF0, st, ho, hlo, he⟩ := h
 have eF : F = upL ((k + 1 : Nat) : Int) (20 - (k + 1)) := by
  rw [hF0, show 20 - k = (20 - (k + 1)) + 1 by omega, upL_cons] at hF
  have : upL ((k : Int) + 1) (20 - (k + 1)) = F := (List.cons.inj hF).2
  rw [← this]; rfl
 have hu0 : b.nx = 0 → b.u 0 = 0 := fun q => (hdw.aw.alo.new 0 (by omega) (by omega)).2
 have cs : (b'.F = F) ∧ ((1 ≤ k + 1 ∧ k + 1 ≤ 6) ∧ b'.nx = 1 ∧ b'.o 0 = 0 ∧ b'.u 0 = 3 * (k + 1 : Nat) ∧ j = 0 ∨ k = 6 ∧ b'.nx = 2 ∧ b'.o 0 = 1 ∧ j = 1) ∧ ∀ c, 1 ≤ c → c ≤ 3 → b'.o c = b.o c := by
  rcases hg with ⟨⟨g0, g1⟩, e, rfl⟩ | ⟨ng, nx, e, rfl⟩
  ·rw [room_0] at g1
   rcases st with ⟨_, _, q⟩ | ⟨q1, q2, q3, q4⟩ | ⟨q, _⟩
   ·omega
   ·rw [q3] at g1 e
    refine ⟨rfl, .inl ⟨by omega, q2, q3, ?_, e⟩, fun _ _ _ => rfl⟩
    show upd b.u j (b.u j + roomOf 0) 0 = _
    rw [e, upd_same, room_0]; omega
   ·omega
  ·have ng' : ¬ (0 ≤ b.o 0 ∧ b.u (b.o 0) + 3 ≤ C.W) := ng
   rcases st with ⟨q0, q1, q2⟩ | ⟨q1, q2, q3, q4⟩ | ⟨q, _⟩
   ·refine ⟨rfl, .inl ⟨by omega, by show b.nx + 1 = 1; omega, by show upd b.o 0 b.nx 0 = 0; rw [upd_same]; omega, ?_, by omega⟩, fun c c0 _ => upd_ne _ _ (by omega)⟩
    show upd b.u j (b.u j + roomOf 0) 0 = _
    rw [e, q1, upd_same, room_0, hu0 q1]; omega
   ·rw [q3, q4] at ng'
    exact ⟨rfl, .inr ⟨by omega, by show b.nx + 1 = 2; omega, by show upd b.o 0 b.nx 0 = 1; rw [upd_same]; omega, by omega⟩, fun c c0 _ => upd_ne _ _ (by omega)⟩
   ·omega
 obtain ⟨c1, c2, c3⟩ := cs
 refine ⟨hd, by show b'.F = _; rw [c1, eF], ?_, fun c c0 c1 => by show b'.o c = -1; rw [c3 c c0 c1]; exact ho c c0 c1, hl, fun l l0 l1 => ?_⟩
 ·rcases c2 with ⟨q1, q2, q3, q4, _⟩ | ⟨q1, q2, q3, _⟩
  ·exact .inr (.inl ⟨q1, q2, q3, q4⟩)
  ·exact .inr (.inr ⟨by omega, q2, q3⟩)
 ·by_cases e : l = k
  ·subst e
   have a1 : addD dd k d k = d := if_pos rfl
   have a2 : updB li k true k = true := if_pos rfl
   rw [a1, a2, h2]
   refine ⟨h1, rfl, ?_⟩
   rcases c2 with ⟨q1, _, _, _, q5⟩ | ⟨q1, _, _, q5⟩
   ·rw [if_pos (by omega)]; exact q5
   ·rw [if_neg (by omega)]; exact q5
  ·have a1 : addD dd k d l = dd l := if_neg e
   have a2 : updB li k true l = li l := if_neg e
   rw [a1, a2]; exact he l l0 (by omega)
structure Aw6 (C : Cf) (k : Nat) (dd : Int → Do) (li : Int → Bool) (w : Int → Int) (b : Bg) : Prop where
 dw : Dw C (7 + k) 7 dd li w b
 st : b.nx = 2 ∧ b.o 0 = 1
 o : ∀ c, 1 ≤ c → c ≤ 3 → b.o c = -1
 lo : ∀ i, lowW C i → w i = 0
 each : ∀ l : Int, 0 ≤ l → l < 7 → (dd l).own = false ∧ li l = decide ((k : Int) ≤ l) ∧ (dd l).j = (if l < 6 then 0 else 1)
theorem Aw6.ti (hC : C.ok) (hT : C.T = 1) (h4 : C.C = 4) (hW : C.W = 20) {dd : Int → Do} {li : Int → Bool} {b : Bg} (h : Aw6 C 6 dd li A.w b) (w64 : ∀ i, 0 ≤ A.w i ∧ A.w i < 18446744073709551616) (nn : C.len ≤ A.n ∧ (A.n : Int) ≤ 200000000) :
  TI C ⟨1, 1, 0, A.w 0, false, A.w, fun j => decide (0 ≤ j ∧ j < b.nx) && !opB A.w 4 j⟩ Co.new A ∧ (∀ j, 0 ≤ j → j < 4 → chS (A.w (C.chunk j)) = if j < 2 then 1 else 0) ∧ ∀ j, (decide (0 ≤ j ∧ j < b.nx) && !opB A.w 4 j) = decide (j = 0) := by
 obtain ⟨hdw, ⟨s1, s2⟩, ho, hlo, he⟩ := h
 have w2 : A.w 2 = 2 := by have := (hdw.aw.alo.op 0 (by decide) (by decide)).1; rw [s2] at this; exact this
 have w345 : ∀ c, 1 ≤ c → c ≤ 3 → A.w (2 + c) = 0 := fun c c0 c1 => by have := (hdw.aw.alo.op c (by omega) c1).1; rw [ho c c0 c1] at this; omega
 have w3 := w345 1 (by decide) (by decide)
 have w4 := w345 2 (by decide) (by decide)
 have w5 := w345 3 (by decide) (by decide)
 rw [show (2 : Int) + 1 = 3 by decide] at w3
 rw [show (2 : Int) + 2 = 4 by decide] at w4
 rw [show (2 : Int) + 3 = 5 by decide] at w5
 have op : ∀ j, 0 ≤ j → opB A.w 4 j = decide (j = 1) := fun j j0 => by
  unfold opB
  rw [w2, w3, w4, w5]
  by_cases q : j = 1
  ·subst q; decide
  ·rw [decide_eq_false q]; exact decide_eq_false (by omega)
 have hD : ∀ j, (decide (0 ≤ j ∧ j < b.nx) && !opB A.w 4 j) = decide (j = 0) := fun j => by
  rw [s1]
  by_cases j0 : 0 ≤ j
  ·rw [op j j0]
   by_cases q : j = 0
   ·subst q; decide
   ·by_cases q1 : j = 1
    ·subst q1; decide
    ·simp [q, q1]; omega
  ·rw [decide_eq_false (show ¬ (0 ≤ j ∧ j < 2) by omega), Bool.false_and, decide_eq_false (show ¬ j = 0 by omega)]
 have hst : ∀ j, 0 ≤ j → j < 4 → chS (A.w (C.chunk j)) = if j < 2 then 1 else 0 := fun j j0 j1 => by
  by_cases q : j < 2
  ·rw [if_pos q]; exact (hdw.aw.alo.old j j0 (by omega)).1
  ·rw [if_neg q, (hdw.aw.alo.new j (by omega) (by omega)).1]; decide
 have e0 : A.w 0 = 0 := hlo 0 (.inl rfl)
 have hS := hdw.ts hC (by omega) (by omega) (fun k k0 k1 q => by
  have := he k k0 k1
  rw [this.2.1]
  by_cases z : k < 6
  ·exact decide_eq_false (by omega)
  ·rw [this.2.2, if_neg z, op 1 (by decide)] at q; cases q) (K0 := 1) (Ks := 1) (r0 := 0) (pn := false) (by decide) (by omega) (fun _ i i0 i1 => hlo _ (.inr ⟨by omega, by omega⟩)) (fun e => by cases e)
 refine ⟨TI.init hC hS nn w64 ?_ rfl, hst, hD⟩
 unfold kS
 rw [h4]
 have c := hst
 show ((cnt (fun j => (decide (0 ≤ j ∧ j < b.nx) && !opB A.w 4 j) && decide (chS (A.w (C.chunk j)) = 1)) 4 : Nat) : Int) = 1
 rw [cnt_congr (g := fun j => decide (j = 0)) fun j j0 j1 => ?_]
 ·decide
 ·rw [hD]
  by_cases q : j = 0
  ·subst q; rw [c 0 (by decide) (by decide)]; decide
  ·rw [decide_eq_false q, Bool.false_and]
theorem cnt4 {f : Int → Bool} : cnt f 4 = (if f 0 = true then 1 else 0) + (if f 1 = true then 1 else 0) + (if f 2 = true then 1 else 0) + (if f 3 = true then 1 else 0) := by
 show 0 + _ + _ + _ + _ = _
 rw [Nat.zero_add]; rfl
theorem c_awake14 (hk : ∀ τ, Ext σ τ → K (.bool true) τ) : s_a5 [] K σ := by
 simp only [s_a5, w_a5, ruS, ruL, ruE, Nat.reduceAdd, reduceIte, Int.reduceLT, Int.reduceLE, Int.reduceEq, Int.reduceNeg, Int.reduceAdd, Int.reduceSub, Nat.reduceLeDiff, Nat.reduceLT]
 have hC : (cA 1 20 4 20).ok := cA_ok (by omega) (by omega) (by omega) (by omega)
 refine c_Arena (C := cA 1 20 4 20) hC rfl rfl rfl fun N A τ hN hF hA hE hfr => ?_
 have hT1 : (cA 1 20 4 20).T = 1 := rfl
 have hS : (cA 1 20 4 20).S = 20 := rfl
 have h4 : (cA 1 20 4 20).C = 4 := rfl
 have hW : (cA 1 20 4 20).W = 20 := rfl
 have hG : (cA 1 20 4 20).G = 100 := rfl
 have hP := (hF.pa hC).mono (show 2 * (cA 1 20 4 20).S + 2 ≤ 200 by decide)
 have dw0 := Dw.new hC hF
 have low0 : ∀ i, lowW (cA 1 20 4 20) i → A.w i = 0 := fun i hi => by
  have hi' : i = 0 ∨ 6 ≤ i ∧ i < 6 + 1 := hi
  rw [hF.w]
  unfold Cf.w0 Cf.fr
  rw [if_neg (by omega), if_neg (by unfold Cf.slot; omega), if_neg (by unfold Cf.slot; omega)]
 have hln := len_bd hC
 have hnA : (A.n : Int) ≤ 200000 := by rw [hF.n]; omega
 generalize hCe : cA 1 20 4 20 = C at *
 clear hF
 have f2 : ∀ (x y z u w : Value) (K : Value → Prop), xF (fFldV 2 1 false) [.agg #[x, y, z, u, w]] K = K z := fun _ _ _ _ _ K => nr rfl
 simp only [gStoreE, ruS, ruL, ruE, Nat.reduceAdd, reduceIte, Int.reduceLT, Int.reduceLE, Int.reduceEq, Int.reduceNeg, Int.reduceAdd, Int.reduceSub, Nat.reduceLeDiff, Nat.reduceLT]
 refine hBuildS_i [] rfl fun p0 τ0 m0 g0 x0 => ?_
 have r0 : Rh N σ p0 0 (fun _ => 0) τ0 := ⟨g0, hA.new m0, hE.none m0⟩
 have a0 : Aw7 C 0 (fun _ => ⟨0, 0, 0, false, 0, 0⟩) (fun _ => false) A.w (Bg.fr C) := ⟨dw0, by show upL 0 C.S.toNat = upL 0 20; rw [hS]; rfl, .inl ⟨rfl, rfl, rfl⟩, fun _ _ _ => rfl, low0, fun l l0 l1 => by omega⟩
 refine xLoop_r (fun x ts ls τ => ∃ (k : Nat) (p : Nat) (g : Int → Int) (dd : Int → Do) (li : Int → Bool) (A : Ar) (b : Bg), x = 7 - k ∧ ts = [.slice (some ⟨p, 0, none⟩) k 1, .int .i64 k] ∧ ls = [N.el C 0] ∧ k ≤ 7 ∧ Aw7 C k dd li A.w b ∧ Pa C A (1000 + 200 * k) ∧ (A.n : Int) ≤ 200000 ∧ isA N A τ ∧ Ext σ τ ∧ Rh N σ p k g τ ∧ ∀ l : Int, 0 ≤ l → l < k → g l = (dd l).n) ?_ (n := 7)
  ⟨0, p0, _, _, _, A, _, rfl, rfl, rfl, by omega, a0, hP.mono (by omega), hnA, hA.ext x0, hE.trans x0, r0, fun l l0 l1 => by omega⟩
 clear a0 r0 x0 g0 m0 dw0 low0 hA hE hP hnA
 rintro x ts ls τ1 ⟨k, p, g, dd, li, A1, b, rfl, rfl, rfl, k7, hI, hP1, hn1, hA1, hE1, hr1, hgl⟩ R hR
 simp only [w_law14_awake_l7, w_law14_awake_l7b, ruS, ruL, ruE, Nat.reduceAdd, reduceIte, Int.reduceLT, Int.reduceLE, Int.reduceEq, Int.reduceNeg, Int.reduceAdd, Int.reduceSub, Nat.reduceLeDiff, Nat.reduceLT]
 by_cases ck : (k : Int) < 7
 ·simp only [ck, ruS, ruL, ruE, Nat.reduceAdd, reduceIte, Int.reduceLT, Int.reduceLE, Int.reduceEq, Int.reduceNeg, Int.reduceAdd, Int.reduceSub, Nat.reduceLeDiff, Nat.reduceLT]
  have hcl : classOf 2 = 0 := by decide
  refine c_MakeW hN hC hA1 hP1 (by omega) hI.dw (by omega) (by rw [hcl]; decide) (fun oE oV oS A' τ2 hf _ _ _ _ _ _ => ?_) fun oV oS A' τ2 s F j b' d hF hg hd hdw hP2 hn2 hlo hA2 hK2 => ?_
  ·exfalso
   rcases hf with ⟨_, q⟩ | ⟨_, _, q⟩
   ·rw [hI.F, show 20 - k = (19 - k) + 1 by omega, upL_cons] at q; cases q
   ·rcases hI.st with u | u | u <;> omega
  rw [hcl] at hg hdw
  have hr2 := hr1.keep hK2
  have hE2 : Ext σ τ2 := hE1.keep' hK2 fun y hy => hfr.all y hy
  simp only [f1, bu1, ruS, ruL, ruE, Nat.reduceAdd, reduceIte, Int.reduceLT, Int.reduceLE, Int.reduceEq, Int.reduceNeg, Int.reduceAdd, Int.reduceSub, Nat.reduceLeDiff, Nat.reduceLT]
  have eg : (fun l : Int => if l = k then d.n else g l) k = d.n := if_pos rfl
  rw [← eg]
  refine hr2.add (g' := fun l : Int => if l = k then d.n else g l) hA2 hE2 (by omega) (fun l l0 l1 => if_neg (by omega)) fun id υ hr3 hA3 hE3 _ => ?_
  rw [IntWalk.i64_in ((k : Int) + 1) (by omega)]
  refine hR (7 - (k + 1)) _ _ _ (by omega) ⟨k + 1, id, _, _, _, A', _, rfl, by simp, rfl, by omega, hI.next hC h4 hW (by omega) hF hg hd.1 hd.2.1 hdw fun i hi => by rw [hlo i hi]; exact hI.lo i hi, hP2.mono (by omega), by rw [hn2]; exact hn1, hA3, hE3, hr3, fun l l0 l1 => ?_⟩
  unfold addD
  by_cases e : l = k
  ·simp [e]
  ·simp only [if_neg e]; exact hgl l l0 (by omega)
 -- six are let go
 have hk7 : k = 7 := by omega
 subst hk7
 simp only [ck, w_a5_j1, w_a5_j1b, ruS, ruL, ruE, Nat.reduceAdd, reduceIte, Int.reduceLT, Int.reduceLE, Int.reduceEq, Int.reduceNeg, Int.reduceAdd, Int.reduceSub, Nat.reduceLeDiff, Nat.reduceLT]
 have a0 : Aw6 C 0 dd li A1.w b := ⟨hI.dw, by rcases hI.st with u | u | u <;> omega, hI.o, hI.lo, fun l l0 l1 => by
  have := hI.each l l0 l1
  exact ⟨this.1, by rw [this.2.1]; exact (decide_eq_true (by omega)).symm, this.2.2⟩⟩
 refine xLoop_r (fun x ts ls τ => ∃ (m : Nat) (li : Int → Bool) (A : Ar) (b : Bg), x = 6 - m ∧ ts = [.slice (some ⟨p, 0, none⟩) 7 1, .int .i64 m] ∧ ls = [N.el C 0] ∧ m ≤ 6 ∧ Aw6 C m dd li A.w b ∧ Pa C A (5000 + 200 * m) ∧ (A.n : Int) ≤ 200000 ∧ isA N A τ ∧ Ext σ τ ∧ Rh N σ p 7 g τ) ?_ (n := 6)
  ⟨0, li, A1, b, rfl, rfl, rfl, by omega, a0, hP1.mono (by omega), hn1, hA1, hE1, hr1⟩
 clear a0 hI hP1 hn1 hA1 hE1 hr1 hR ck k7 li A1 b
 rintro x ts ls τ1 ⟨m, li, A1, b, rfl, rfl, rfl, m6, hI, hP1, hn1, hA1, hE1, hr1⟩ R hR
 simp only [w_law14_awake_l11, w_law14_awake_l11b, ruS, ruL, ruE, Nat.reduceAdd, reduceIte, Int.reduceLT, Int.reduceLE, Int.reduceEq, Int.reduceNeg, Int.reduceAdd, Int.reduceSub, Nat.reduceLeDiff, Nat.reduceLT]
 by_cases cm : (m : Int) < 6
 ·have cm7 : (m : Int) < ((7 : Nat) : Int) := by omega
  have hem := hI.each m (by omega) (by omega)
  simp only [cm, xIxS (show 0 ≤ (m : Int) by omega) cm7, Nat.zero_add, ruS, ruL, ruE, Nat.reduceAdd, reduceIte, Int.reduceLT, Int.reduceLE, Int.reduceEq, Int.reduceNeg, Int.reduceAdd, Int.reduceSub, Nat.reduceLeDiff, Nat.reduceLT]
  rw [hr1.ld (by omega) cm7, hgl m (by omega) cm7, ← hem.1]
  refine c_DropW hN hC hG hA1 hP1 (by omega) hI.dw (by omega) (by omega) cm7 (by rw [hem.2.1]; exact decide_eq_true (Int.le_refl _)) fun oH oV oS A' τ2 hdw hP2 hn2 hlo hA2 hK2 => ?_
  rw [IntWalk.i64_in ((m : Int) + 1) (by omega)]
  refine hR (6 - (m + 1)) _ _ _ (by omega) ⟨m + 1, updB li m false, A', { b.less (dd m).j (roomOf (classOf (dd m).z)) with F := (dd m).s :: b.F }, rfl, by simp, rfl, by omega, ⟨by rw [show (7 : Int) + ((m + 1 : Nat) : Int) = 7 + m + 1 by omega]; exact hdw, hI.st, hI.o, fun i hi => by rw [hlo i hi]; exact hI.lo i hi, fun l l0 l1 => ?_⟩, hP2.mono (by omega), by rw [hn2]; exact hn1, hA2, hE1.keep' hK2 fun y hy => hfr.all y hy, hr1.keep hK2⟩
  have hel := hI.each l l0 l1
  refine ⟨hel.1, ?_, hel.2.2⟩
  unfold updB
  by_cases e : l = m
  ·rw [if_pos e]; exact (decide_eq_false (by omega)).symm
  ·rw [if_neg e, hel.2.1]
   by_cases z : (m : Int) ≤ l
   ·rw [decide_eq_true z]; exact (decide_eq_true (by omega)).symm
   ·rw [decide_eq_false z]; exact (decide_eq_false (by omega)).symm
 -- the rounds
 have hm6 : m = 6 := by omega
 subst hm6
 obtain ⟨hti, hst, hD⟩ := hI.ti hC hT1 h4 hW hP1.ok.w ⟨hP1.n, by omega⟩
 simp only [cm, w_a5_j2, w_a5_j2b, ruS, ruL, ruE, Nat.reduceAdd, reduceIte, Int.reduceLT, Int.reduceLE, Int.reduceEq, Int.reduceNeg, Int.reduceAdd, Int.reduceSub, Nat.reduceLeDiff, Nat.reduceLT]
 refine c_CoNew hA1 fun q τ2 hq hco x2 => ?_
 have hA2 := hA1.ext x2
 have hE2 := hE1.trans x2
 refine c_many hN hC hA2 hP1.n hP1.ok.w ?_
 have n1 : cnt (fun j => decide (chS (A1.w (C.chunk j)) = 1)) C.C.toNat = 2 := by
  rw [h4]
  show cnt _ 4 = 2
  rw [cnt4, hst 0 (by decide) (by decide), hst 1 (by decide) (by decide), hst 2 (by decide) (by decide), hst 3 (by decide) (by decide)]; decide
 rw [n1]
 simp only [ruS, ruL, ruE, Nat.reduceAdd, reduceIte, Int.reduceLT, Int.reduceLE, Int.reduceEq, Int.reduceNeg, Int.reduceAdd, Int.reduceSub, Nat.reduceLeDiff, Nat.reduceLT]
 refine c_roundsT hN hC hA2 (n := 4) (by decide) hco hti (by decide) fun c' A' O' τ3 hti' hrd hz hA3 hco' hO' hK3 => ?_
 have hz' : c'.r.pc = 0 ∧ c'.r.at' = 0 := by
  rcases hz with q | q
  ·exact absurd q (by decide)
  ·exact q
 have hrd' : c'.r.rd = 4 := hrd
 obtain ⟨tS, tn, t64, tw, cl, nm, tm⟩ := hti'
 have k1 : kS C ⟨1, 1, 0, A1.w 0, false, A1.w, fun j => decide (0 ≤ j ∧ j < b.nx) && !opB A1.w 4 j⟩ A'.w 1 = 0 := by
  have h1 := kS_nn (C := C) (P := ⟨1, 1, 0, A1.w 0, false, A1.w, fun j => decide (0 ≤ j ∧ j < b.nx) && !opB A1.w 4 j⟩) (w := A'.w) (s := 1)
  rcases tm.kt with u | u
  ·rw [hrd', hz'.1, if_neg (by decide)] at u
   have u' : kS C ⟨1, 1, 0, A1.w 0, false, A1.w, fun j => decide (0 ≤ j ∧ j < b.nx) && !opB A1.w 4 j⟩ A'.w 1 + (4 - 0) + 0 ≤ 1 := u
   omega
  ·exact u
 have k3 := (tm.fq rfl (by rw [hrd']; show (1 : Int) + 2 ≤ 4 - 0; decide)).1
 have hfd : c'.r.fd = 1 := by
  have u1 := nm.ck
  have u2 := nm.cq
  rw [hz'.1, if_neg (by decide), k1] at u1
  rw [k3] at u2
  have u1' : c'.r.ev + 0 + 0 = 1 := u1
  omega
 have ck : ∀ j, 0 ≤ j → j < 4 → chS (A'.w (C.chunk j)) = if j = 1 then 1 else 0 := fun j j0 j1 => by
  by_cases z : j = 0
  ·subst z
   have hd0 : (fun j => decide (0 ≤ j ∧ j < b.nx) && !opB A1.w 4 j) 0 = true := by show (decide (0 ≤ (0 : Int) ∧ (0 : Int) < b.nx) && !opB A1.w 4 0) = true; rw [hD]; decide
   have e1 := kS_zero k1 (Int.le_refl 0) (by omega) hd0
   have e3 := kS_zero k3 (Int.le_refl 0) (by omega) hd0
   have e2 : chS (A'.w (C.chunk 0)) ≠ 2 := fun u => by have := (cl.st2 0 (Int.le_refl 0) (by omega) hd0 u).1; omega
   have := chS_bd (A'.w (C.chunk 0))
   rw [if_neg (by decide)]; omega
  ·have hd0 : (fun j => decide (0 ≤ j ∧ j < b.nx) && !opB A1.w 4 j) j = false := by show (decide (0 ≤ j ∧ j < b.nx) && !opB A1.w 4 j) = false; rw [hD]; exact decide_eq_false z
   have e := (tw.un hC j0 (by omega) hd0).1
   rw [e]
   show chS (A1.w (C.chunk j)) = _
   rw [hst j j0 j1]
   by_cases q : j = 1
   ·subst q; decide
   ·rw [if_neg (by omega), if_neg q]
 have n2 : cnt (fun j => decide (chS (A'.w (C.chunk j)) = 1)) C.C.toNat = 1 := by
  rw [h4]
  show cnt _ 4 = 1
  rw [cnt4, ck 0 (by decide) (by decide), ck 1 (by decide) (by decide), ck 2 (by decide) (by decide), ck 3 (by decide) (by decide)]; decide
 have n3 : cnt (fun j => decide (chS (A'.w (C.chunk j)) = 0)) C.C.toNat = 3 := by
  rw [h4]
  show cnt _ 4 = 3
  rw [cnt4, ck 0 (by decide) (by decide), ck 1 (by decide) (by decide), ck 2 (by decide) (by decide), ck 3 (by decide) (by decide)]; decide
 simp only [ruS, ruL, ruE, Nat.reduceAdd, reduceIte, Int.reduceLT, Int.reduceLE, Int.reduceEq, Int.reduceNeg, Int.reduceAdd, Int.reduceSub, Nat.reduceLeDiff, Nat.reduceLT]
 refine c_many hN hC hA3 tn.1 t64 ?_
 rw [n2]
 simp only [ruS, ruL, ruE, Nat.reduceAdd, reduceIte, Int.reduceLT, Int.reduceLE, Int.reduceEq, Int.reduceNeg, Int.reduceAdd, Int.reduceSub, Nat.reduceLeDiff, Nat.reduceLT]
 refine c_many hN hC hA3 tn.1 t64 ?_
 rw [n3]
 simp only [c_CoWork hco', f2, hfd, ruS, ruL, ruE, Nat.reduceAdd, reduceIte, Int.reduceLT, Int.reduceLE, Int.reduceEq, Int.reduceNeg, Int.reduceAdd, Int.reduceSub, Nat.reduceLeDiff, Nat.reduceLT]
 refine hk τ3 fun i bl hi => ?_
 have hi2 := hE2 i bl hi
 refine hK3 i bl hi2 fun hm => ?_
 rcases List.mem_append.1 hm with u | u
 ·rw [List.mem_singleton] at u; subst u
  rw [hE1 _ _ hi] at hq; cases hq
 ·rw [hfr.all i u] at hi; cases hi
end Go.Fl
namespace Go.Fl
open Go
set_option linter.unusedVariables false
set_option linter.unusedSimpArgs false
variable {N : Nm} {A B : Ar} {σ : Mem} {K : Value → Mem → Prop} {C : Cf} {who : Int}
def opN (w : Int → Int) : Nat → Nat
 | 0 => 0
 | k + 1 => opN w k + (if 0 < w (2 + (k : Int)) then 1 else 0)
theorem opN_le {w : Int → Int} : ∀ {k : Nat}, opN w k ≤ k
 | 0 => Nat.le_refl 0
 | k + 1 => by unfold opN; have := opN_le (w := w) (k := k); split <;> omega
theorem op_cnt {w : Int → Int} {o : Int → Int} {n : Nat} (ho : ∀ c, 0 ≤ c → c ≤ 3 → w (2 + c) = o c + 1 ∧ -1 ≤ o c ∧ o c < n) (hd : ∀ c d, 0 ≤ c → c ≤ 3 → 0 ≤ d → d ≤ 3 → 0 ≤ o c → o c = o d → c = d) : ∀ {k : Nat}, k ≤ 4 → cnt (fun j => opB w k j) n = opN w k
 | 0, _ => by
  show cnt (fun j => opB w ((0 : Nat) : Int) j) n = 0
  exact cnt_none fun j _ _ => opB_0
 | k + 1, hk => by
  have ih := op_cnt ho hd (k := k) (by omega)
  have hk1 := ho k (by omega) (by omega)
  have hs : ∀ j, opB w ((k + 1 : Nat) : Int) j = (opB w (k : Int) j || decide (w (2 + (k : Int)) = j + 1)) := fun j => by
   rw [show ((k + 1 : Nat) : Int) = (k : Int) + 1 by omega]; exact opB_next (by omega) (by omega)
  show cnt (fun j => opB w ((k + 1 : Nat) : Int) j) n = opN w k + (if 0 < w (2 + (k : Int)) then 1 else 0)
  by_cases c : 0 < w (2 + (k : Int))
  ·rw [if_pos c, ← ih]
   refine cnt_off (i := o k) ?_ ?_ (by omega) hk1.2.2 fun j j0 j1 hj => ?_
   ·rw [hs, hk1.1]; simp
   ·unfold opB
    refine decide_eq_false fun q => ?_
    have key : ∀ d : Int, 0 ≤ d → d ≤ 3 → d < k → w (2 + d) = o k + 1 → False := fun d d0 d3 dk e => by
     have h1 := (ho d d0 d3).1
     have := hd k d (by omega) (by omega) d0 d3 (by omega) (by omega)
     omega
    rcases q with ⟨a, b⟩ | ⟨a, b⟩ | ⟨a, b⟩ | ⟨a, b⟩
    ·exact key 0 (by decide) (by decide) a b
    ·exact key 1 (by decide) (by decide) a b
    ·exact key 2 (by decide) (by decide) a b
    ·exact key 3 (by decide) (by decide) a b
   ·rw [hs, decide_eq_false (by omega), Bool.or_false]
  ·rw [if_neg c, ← ih, Nat.add_zero]
   refine cnt_congr fun j j0 j1 => ?_
   rw [hs, decide_eq_false (by omega), Bool.or_false]
theorem cnt_not {f g : Int → Bool} : ∀ {n : Nat}, (∀ j : Int, 0 ≤ j → j < n → g j = !f j) → cnt f n + cnt g n = n
 | 0, _ => rfl
 | n + 1, h => by
  unfold cnt
  have := cnt_not (n := n) fun j j0 j1 => h j j0 (by omega)
  rw [h n (by omega) (by omega)]
  cases f n <;> simp <;> omega
theorem law_CompactFrees (σ : Mem) (s : Value) (len : Nat) (cs : List Value) (sl : Sl σ 1 len cs s) (hm : len ≤ maxLen) (hf : FlatL (List.replicate len [some .i64]).flatten cs) :
  s_a4 [s] (fun v _ => v = .bool true) σ := by
 obtain ⟨g, hg, _⟩ := sl.argI hf
 simp only [s_a4, w_a4, ruS, ruL, ruE, Nat.reduceAdd, reduceIte, Int.reduceLT, Int.reduceLE, Int.reduceEq, Int.reduceNeg, Int.reduceAdd, Int.reduceSub, Nat.reduceLeDiff, Nat.reduceLT]
 have hC : (cA 1 30 8 34).ok := cA_ok (by omega) (by omega) (by omega) (by omega)
 refine c_Arena (C := cA 1 30 8 34) hC rfl rfl rfl fun N A τ hN hF hA hE hfr => ?_
 simp only [gStoreE, ruS, ruL, ruE, Nat.reduceAdd, reduceIte, Int.reduceLT, Int.reduceLE, Int.reduceEq, Int.reduceNeg, Int.reduceAdd, Int.reduceSub, Nat.reduceLeDiff, Nat.reduceLT]
 refine c_awake14 fun τ0 x0 => ?_
 have hT : (cA 1 30 8 34).T = 1 := rfl
 have h8 : (cA 1 30 8 34).C = 8 := rfl
 have hW : (cA 1 30 8 34).W = 34 := rfl
 have hG : (cA 1 30 8 34).G = 100 := rfl
 have hP := (hF.pa hC).mono (show 2 * (cA 1 30 8 34).S + 2 ≤ 200 by decide)
 have dw0 := Dw.new hC hF
 have low0 : ∀ i, lowW (cA 1 30 8 34) i → A.w i = 0 := fun i hi => by
  have hi' : i = 0 ∨ 6 ≤ i ∧ i < 6 + 1 := hi
  rw [hF.w]
  unfold Cf.w0 Cf.fr
  rw [if_neg (by omega), if_neg (by show ¬ i = 6 + 1 + 2 * (30 - 1) + 1; omega), if_neg (by show ¬ (6 + 1 ≤ i ∧ i < 6 + 1 + 2 * 30); omega)]
 have hln := len_bd hC
 have hnA : A.n = (cA 1 30 8 34).len.toNat := hF.n
 have hA0 := hA.ext x0
 have hE0 := hE.trans x0
 generalize hCe : cA 1 30 8 34 = C at *
 clear hF
 simp only [w_a4_j1, w_a4_j1b, Bool.not_true, ruS, ruL, ruE, Nat.reduceAdd, reduceIte, Int.reduceLT, Int.reduceLE, Int.reduceEq, Int.reduceNeg, Int.reduceAdd, Int.reduceSub, Nat.reduceLeDiff, Nat.reduceLT]
 refine hBuildS_i [] rfl fun p0 τ1 m0 g0 x1 => ?_
 have r0 : Rh N σ p0 0 (fun _ => 0) τ1 := ⟨g0, hA0.new m0, hE0.none m0⟩
 have gs : ∀ x y z w : Int, gStore 4 [.pointer (some ⟨8, 0, some 0⟩), .agg #[.int .i64 x, .int .u64 y, .int .i64 z, .int .i64 w]] [.int .i64 0, .int .u64 0, .int .i64 0, .int .i64 0] = some [.int .i64 x, .int .u64 y, .int .i64 z, .int .i64 w] := fun _ _ _ _ => rfl
 have f0 : ∀ (x y z w : Value) (K : Value → Prop), xF (fFldV 0 1 false) [.agg #[x, y, z, w]] K = K x := fun _ _ _ _ K => nr rfl
 have p7 : sub (N.el C 0) 7 1 false = some N.p := rfl
 -- all is let go: rounds
 have fin : ∀ (i : Int) (n : Nat) dd li A b τ, Dw C i n dd li A.w b → i ≤ 100 → (∀ k : Int, 0 ≤ k → k < n → li k = false) → (∀ i, lowW C i → A.w i = 0) → Pa C A 100000 → A.n = C.len.toNat → isA N A τ → Ext σ τ →
   w_a4_j3 (fun v _ => v = .bool true) [.int .i64 0] [N.el C 0] τ := by
  intro i n dd li A b τ hdw hi hli hlo hP hn hA hE
  have hbd := hdw.aw.alo.bd
  have hop := hdw.aw.alo.op
  have e0 : A.w 0 = 0 := hlo 0 (.inl rfl)
  have hoc : cnt (fun j => opB A.w 4 j) 8 = opN A.w 4 := op_cnt (o := b.o) (n := 8) (k := 4) (fun c c0 c3 => by have := hop c c0 c3; exact ⟨this.1, this.2.1, by omega⟩) (fun c d c0 c3 d0 d3 h0 e => by
   have h1 := hdw.aw.alo.cls c c0 c3 h0
   have h2 := hdw.aw.alo.cls d d0 d3 (by omega)
   rw [e] at h1; omega) (Nat.le_refl 4)
  have hon := opN_le (w := A.w) (k := 4)
  simp only [w_a4_j3, w_a4_j3b, ruS, ruL, ruE, Nat.reduceAdd, reduceIte, Int.reduceLT, Int.reduceLE, Int.reduceEq, Int.reduceNeg, Int.reduceAdd, Int.reduceSub, Nat.reduceLeDiff, Nat.reduceLT]
  refine xLoop_r (fun x ts ls υ => ∃ k : Nat, x = 4 - k ∧ ts = [.int .i64 (opN A.w k), .int .i64 k] ∧ ls = [N.el C 0] ∧ k ≤ 4 ∧ υ = τ) ?_ (n := 4) ⟨0, rfl, rfl, rfl, by omega, rfl⟩
  rintro x ts ls υ ⟨k, rfl, rfl, rfl, k4, rfl⟩ R hR
  simp only [w_law14_CompactFrees_l18, w_law14_CompactFrees_l18b, ruS, ruL, ruE, Nat.reduceAdd, reduceIte, Int.reduceLT, Int.reduceLE, Int.reduceEq, Int.reduceNeg, Int.reduceAdd, Int.reduceSub, Nat.reduceLeDiff, Nat.reduceLT]
  have hpn := hP.n
  have hch : C.chunk C.C = 6 + C.T + 2 * C.S + 3 * C.C := rfl
  have hSS := hC.S
  by_cases ck : (k : Int) < 4
  ·have hok := opN_le (w := A.w) (k := k)
   have hs : opN A.w (k + 1) = opN A.w k + (if 0 < A.w (2 + (k : Int)) then 1 else 0) := rfl
   simp only [ck, p7, ruS, ruL, ruE, Nat.reduceAdd, reduceIte, Int.reduceLT, Int.reduceLE, Int.reduceEq, Int.reduceNeg, Int.reduceAdd, Int.reduceSub, Nat.reduceLeDiff, Nat.reduceLT]
   rw [c_Open (by omega) (by omega)]
   simp only [c_PeekA hN hA (show 0 ≤ 2 + (k : Int) by omega) (show 2 + (k : Int) < A.n by omega), ruS, ruL, ruE, Nat.reduceAdd, reduceIte, Int.reduceLT, Int.reduceLE, Int.reduceEq, Int.reduceNeg, Int.reduceAdd, Int.reduceSub, Nat.reduceLeDiff, Nat.reduceLT]
   have nx := hR (4 - (k + 1)) [.int .i64 (opN A.w (k + 1)), .int .i64 ((k + 1 : Nat) : Int)] [N.el C 0] υ (by omega) ⟨k + 1, rfl, rfl, rfl, by omega, rfl⟩
   rw [hs] at nx
   by_cases c : 0 < A.w (2 + (k : Int))
   ·rw [if_pos c] at nx
    simp only [c, w_a4_j9, w_a4_j9b, ruS, ruL, ruE, Nat.reduceAdd, reduceIte, Int.reduceLT, Int.reduceLE, Int.reduceEq, Int.reduceNeg, Int.reduceAdd, Int.reduceSub, Nat.reduceLeDiff, Nat.reduceLT]
    rw [IntWalk.i64_in ((opN A.w k : Int) + 1) (by omega), IntWalk.i64_in ((k : Int) + 1) (by omega)]
    exact nx
   ·rw [if_neg c] at nx
    simp only [c, w_a4_j9, w_a4_j9b, ruS, ruL, ruE, Nat.reduceAdd, reduceIte, Int.reduceLT, Int.reduceLE, Int.reduceEq, Int.reduceNeg, Int.reduceAdd, Int.reduceSub, Nat.reduceLeDiff, Nat.reduceLT]
    rw [IntWalk.i64_in ((k : Int) + 1) (by omega)]
    exact nx
  have hk4 : k = 4 := by omega
  subst hk4
  simp only [ck, w_a4_j4, w_a4_j4b, ruS, ruL, ruE, Nat.reduceAdd, reduceIte, Int.reduceLT, Int.reduceLE, Int.reduceEq, Int.reduceNeg, Int.reduceAdd, Int.reduceSub, Nat.reduceLeDiff, Nat.reduceLT]
  have kl := kS_le (C := C) (P := ⟨0, 0, 0, A.w 0, false, A.w, fun j => decide (0 ≤ j ∧ j < b.nx) && !opB A.w 4 j⟩) (w := A.w) (s := 1) (by omega)
  have kn := kS_nn (C := C) (P := ⟨0, 0, 0, A.w 0, false, A.w, fun j => decide (0 ≤ j ∧ j < b.nx) && !opB A.w 4 j⟩) (w := A.w) (s := 1)
  have hS := hdw.ts hC (by omega) ⟨by omega, by omega⟩ (fun k k0 k1 _ => hli k k0 k1) (K0 := kS C ⟨0, 0, 0, A.w 0, false, A.w, fun j => decide (0 ≤ j ∧ j < b.nx) && !opB A.w 4 j⟩ A.w 1) (Ks := kS C ⟨0, 0, 0, A.w 0, false, A.w, fun j => decide (0 ≤ j ∧ j < b.nx) && !opB A.w 4 j⟩ A.w 1) (r0 := 0) (pn := false) (by omega) (by omega) (fun _ i i0 i1 => hlo _ (.inr ⟨by omega, by omega⟩)) (fun e => by cases e)
  have hti := TI.init hC hS ⟨hP.n, by omega⟩ hP.ok.w rfl rfl
  generalize hK0 : kS C ⟨0, 0, 0, A.w 0, false, A.w, fun j => decide (0 ≤ j ∧ j < b.nx) && !opB A.w 4 j⟩ A.w 1 = K0 at *
  refine c_CoNew hA fun p τ2 hp hco x2 => ?_
  refine c_roundsT hN hC (hA.ext x2) (n := 20) (by decide) hco hti (by decide) fun c' A' O' τ3 hti' hrd hz hA3 hco' hO' hK3 => ?_
  have hz' : c'.r.pc = 0 ∧ c'.r.at' = 0 := by
   rcases hz with q | q
   ·exact absurd q (by decide)
   ·exact q
  have hrd' : c'.r.rd = 20 := hrd
  obtain ⟨tS, tn, t64, tw, cl, nm, tm⟩ := hti'
  have kn1 := kS_nn (C := C) (P := ⟨K0, K0, 0, A.w 0, false, A.w, fun j => decide (0 ≤ j ∧ j < b.nx) && !opB A.w 4 j⟩) (w := A'.w) (s := 1)
  have k1 : kS C ⟨K0, K0, 0, A.w 0, false, A.w, fun j => decide (0 ≤ j ∧ j < b.nx) && !opB A.w 4 j⟩ A'.w 1 = 0 := by
   rcases tm.kt with u | u
   ·rw [hrd', hz'.1, if_neg (by decide)] at u
    have u' : kS C ⟨K0, K0, 0, A.w 0, false, A.w, fun j => decide (0 ≤ j ∧ j < b.nx) && !opB A.w 4 j⟩ A'.w 1 + (20 - 0) + 0 ≤ K0 := u
    omega
   ·exact u
  have k3 := (tm.fq rfl (by rw [hrd']; show K0 + 2 ≤ (20 : Int) - 0; omega)).1
  have hst : ∀ j, 0 ≤ j → j < 8 → chS (A'.w (C.chunk j)) = if opB A.w 4 j = true then 1 else 0 := fun j j0 j1 => by
   cases d : (fun j => decide (0 ≤ j ∧ j < b.nx) && !opB A.w 4 j) j with
   | true =>
    have e1 := kS_zero k1 j0 (by omega) d
    have e3 := kS_zero k3 j0 (by omega) d
    have e2 : chS (A'.w (C.chunk j)) ≠ 2 := fun u => by have := (cl.st2 j j0 (by omega) d u).1; omega
    have hb4 := chS_bd (A'.w (C.chunk j))
    have ob : opB A.w 4 j = false := by simp only [Bool.and_eq_true, Bool.not_eq_true'] at d; exact d.2
    rw [ob, if_neg (by decide)]; omega
   | false =>
    rw [(tw.un hC j0 (by omega) d).1]
    show chS (A.w (C.chunk j)) = _
    by_cases jn : j < b.nx
    ·have ob : opB A.w 4 j = true := by
      cases o : opB A.w 4 j with
      | true => rfl
      | false => simp only [o, Bool.not_false, Bool.and_true, decide_eq_false_iff_not] at d; omega
     rw [ob, if_pos rfl]; exact (hdw.aw.alo.old j j0 jn).1
    ·have ob : ¬ opB A.w 4 j = true := fun o => by
      unfold opB at o
      have o' := of_decide_eq_true o
      have h0 := hop 0 (by decide) (by decide)
      have h1 := hop 1 (by decide) (by decide)
      have h2 := hop 2 (by decide) (by decide)
      have h3 := hop 3 (by decide) (by decide)
      rw [show (2 : Int) + 0 = 2 by decide] at h0
      rw [show (2 : Int) + 1 = 3 by decide] at h1
      rw [show (2 : Int) + 2 = 4 by decide] at h2
      rw [show (2 : Int) + 3 = 5 by decide] at h3
      omega
     rw [if_neg ob, (hdw.aw.alo.new j (by omega) (by omega)).1]; decide
  have hO1 : cnt (fun j => decide (chS (A'.w (C.chunk j)) = 1)) C.C.toNat = opN A.w 4 := by
   rw [h8]
   show cnt _ 8 = _
   rw [← hoc]
   refine cnt_congr fun j j0 j1 => ?_
   rw [hst j j0 j1]
   cases opB A.w 4 j <;> decide
  have hO0 : (cnt (fun j => decide (chS (A'.w (C.chunk j)) = 0)) C.C.toNat : Int) = 8 - opN A.w 4 := by
   rw [h8]
   show ((cnt _ 8 : Nat) : Int) = _
   have := cnt_not (f := fun j => opB A.w 4 j) (g := fun j => decide (chS (A'.w (C.chunk j)) = 0)) (n := 8) fun j j0 j1 => by
    rw [hst j j0 j1]
    cases opB A.w 4 j <;> decide
   rw [hoc] at this
   omega
  simp only [Bool.not_true, ruS, ruL, ruE, Nat.reduceAdd, reduceIte, Int.reduceLT, Int.reduceLE, Int.reduceEq, Int.reduceNeg, Int.reduceAdd, Int.reduceSub, Nat.reduceLeDiff, Nat.reduceLT]
  refine c_many hN hC hA3 tn.1 t64 ?_
  rw [hO0]
  simp only [h8, ruS, ruL, ruE, Nat.reduceAdd, reduceIte, Int.reduceLT, Int.reduceLE, Int.reduceEq, Int.reduceNeg, Int.reduceAdd, Int.reduceSub, Nat.reduceLeDiff, Nat.reduceLT]
  rw [IntWalk.i64_in ((8 : Int) - opN A.w 4) (by omega)]
  simp only [ruS, ruL, ruE, Nat.reduceAdd, reduceIte, Int.reduceLT, Int.reduceLE, Int.reduceEq, Int.reduceNeg, Int.reduceAdd, Int.reduceSub, Nat.reduceLeDiff, Nat.reduceLT]
  refine c_many hN hC hA3 tn.1 t64 ?_
  rw [hO1]
  simp only [w_a4_j5, w_a4_j5b, ruS, ruL, ruE, Nat.reduceAdd, reduceIte, Int.reduceLT, Int.reduceLE, Int.reduceEq, Int.reduceNeg, Int.reduceAdd, Int.reduceSub, Nat.reduceLeDiff, Nat.reduceLT]
  have hln3 := tn.1
  refine xLoop_r (fun x ts ls υ => ∃ j : Int, x = (8 - j).toNat ∧ ts = [.int .i64 j] ∧ ls = [N.el C 0] ∧ (0 ≤ j ∧ j ≤ 8) ∧ υ = τ3) ?_ (n := 8) ⟨0, rfl, rfl, rfl, ⟨Int.le_refl 0, by decide⟩, rfl⟩
  rintro x ts ls υ ⟨j, rfl, rfl, rfl, ⟨j0, j1⟩, rfl⟩ R3 hR3
  simp only [w_law14_CompactFrees_l26, w_law14_CompactFrees_l26b, h8, ruS, ruL, ruE, Nat.reduceAdd, reduceIte, Int.reduceLT, Int.reduceLE, Int.reduceEq, Int.reduceNeg, Int.reduceAdd, Int.reduceSub, Nat.reduceLeDiff, Nat.reduceLT]
  by_cases cj : j < 8
  rotate_left
  ·simp only [cj, w_a4_j6, w_a4_j6b, ruS, ruL, ruE, Nat.reduceAdd, reduceIte, Int.reduceLT, Int.reduceLE, Int.reduceEq, Int.reduceNeg, Int.reduceAdd, Int.reduceSub, Nat.reduceLeDiff, Nat.reduceLT]
  have cb := ck_lt hC j0 (show j < C.C by omega)
  simp only [cj, p7, c_Chunk hC j0 (show j ≤ 65536 by omega), c_PeekA hN hA3 (show 0 ≤ C.chunk j by omega) (show C.chunk j < A'.n by omega), c_wChunk (t64 (C.chunk j)).1 (t64 (C.chunk j)).2, g4s, ruS, ruL, ruE, Nat.reduceAdd, reduceIte, Int.reduceLT, Int.reduceLE, Int.reduceEq, Int.reduceNeg, Int.reduceAdd, Int.reduceSub, Nat.reduceLeDiff, Nat.reduceLT]
  refine xLoop_r (fun x ts ls υ' => ∃ y : Int, x = (34 - y).toNat ∧ ts = [.int .i64 j, .int .i64 y] ∧ ls = [N.el C 0, [.int .i64 (chS (A'.w (C.chunk j))), .int .i64 (chC (A'.w (C.chunk j))), .int .i64 (chU (A'.w (C.chunk j))), .int .i64 (chN (A'.w (C.chunk j)))]] ∧ (0 ≤ y ∧ y ≤ 34) ∧ υ' = υ) ?_ (n := 34) ⟨0, rfl, rfl, rfl, ⟨Int.le_refl 0, by decide⟩, rfl⟩
  rintro x ts ls υ' ⟨y, rfl, rfl, rfl, ⟨y0, y1⟩, rfl⟩ R4 hR4
  have on : w_a4_j7 (fun v _ => v = .bool true) (w_a4_j6 fun v _ => v = .bool true) R3 [.int .i64 j] [N.el C 0] υ' := by
   simp only [w_a4_j7, w_a4_j7b, ruS, ruL, ruE, Nat.reduceAdd, reduceIte, Int.reduceLT, Int.reduceLE, Int.reduceEq, Int.reduceNeg, Int.reduceAdd, Int.reduceSub, Nat.reduceLeDiff, Nat.reduceLT]
   rw [IntWalk.i64_in (j + 1) (by omega)]
   exact hR3 (8 - (j + 1)).toNat _ _ _ (by omega) ⟨j + 1, rfl, rfl, rfl, ⟨by omega, by omega⟩, rfl⟩
  simp only [w_law14_CompactFrees_l30, w_law14_CompactFrees_l30b, hW, ruS, ruL, ruE, Nat.reduceAdd, reduceIte, Int.reduceLT, Int.reduceLE, Int.reduceEq, Int.reduceNeg, Int.reduceAdd, Int.reduceSub, Nat.reduceLeDiff, Nat.reduceLT]
  by_cases cy : y < 34
  rotate_left
  ·simp only [cy, ruS, ruL, ruE, Nat.reduceAdd, reduceIte, Int.reduceLT, Int.reduceLE, Int.reduceEq, Int.reduceNeg, Int.reduceAdd, Int.reduceSub, Nat.reduceLeDiff, Nat.reduceLT]; exact on
  by_cases c0 : chS (A'.w (C.chunk j)) = 0
  rotate_left
  ·simp only [cy, c0, ruS, ruL, ruE, Nat.reduceAdd, reduceIte, Int.reduceLT, Int.reduceLE, Int.reduceEq, Int.reduceNeg, Int.reduceAdd, Int.reduceSub, Nat.reduceLeDiff, Nat.reduceLT]; exact on
  have hbo := base_of hC j0 (show j < C.C by omega) y0 (show y < C.W by omega)
  have hz0 : A'.w (C.base j + y) = 0 := by
   cases d : (fun j => decide (0 ≤ j ∧ j < b.nx) && !opB A.w 4 j) j with
   | true => exact tw.fr j y j0 (by omega) d c0 y0 (by omega)
   | false =>
    have hun := tw.un hC j0 (by omega) d
    rw [hun.2.2 y y0 (by omega)]
    rw [hun.1] at c0
    have jn : ¬ j < b.nx := fun q => by have := (hdw.aw.alo.old j j0 q).1; rw [show (TP.w0 ⟨K0, K0, 0, A.w 0, false, A.w, fun j => decide (0 ≤ j ∧ j < b.nx) && !opB A.w 4 j⟩) = A.w from rfl, this] at c0; exact absurd c0 (by decide)
    exact hdw.aw.nil j y j0 (by omega) (by rw [(hdw.aw.alo.new j (by omega) (by omega)).2]; exact y0) (by omega)
  simp only [cy, c0, w_a4_j8, w_a4_j8b, p7, c_Base hC j0 (show j ≤ 65536 by omega), ruS, ruL, ruE, Nat.reduceAdd, reduceIte, Int.reduceLT, Int.reduceLE, Int.reduceEq, Int.reduceNeg, Int.reduceAdd, Int.reduceSub, Nat.reduceLeDiff, Nat.reduceLT]
  rw [IntWalk.i64_in (C.base j + y) (by omega)]
  simp only [c_PeekA hN hA3 hbo.2.1 (show C.base j + y < A'.n by omega), hz0, ruS, ruL, ruE, Nat.reduceAdd, reduceIte, Int.reduceLT, Int.reduceLE, Int.reduceEq, Int.reduceNeg, Int.reduceAdd, Int.reduceSub, Nat.reduceLeDiff, Nat.reduceLT]
  rw [IntWalk.i64_in (y + 1) (by omega)]
  exact hR4 (34 - (y + 1)).toNat _ _ _ (by omega) ⟨y + 1, rfl, rfl, by rw [c0], ⟨by omega, by omega⟩, rfl⟩
 refine xLoop_r (fun x ts ls τ => ∃ (i : Int) (n : Nat) (p : Nat) (gr : Int → Int) (dd : Int → Do) (li : Int → Bool) (A : Ar) (b : Bg), x = (30 - i).toNat ∧ ts = [s, .slice (some ⟨p, 0, none⟩) n 1, .int .i64 0, .int .i64 i] ∧ ls = [N.el C 0] ∧ (0 ≤ i ∧ i ≤ 30) ∧ Dw C i n dd li A.w b ∧ (∀ l : Int, 0 ≤ l → l < n → (dd l).own = false ∧ li l = true) ∧ (∀ i, lowW C i → A.w i = 0) ∧ Pa C A (1000 + 200 * i) ∧ A.n = C.len.toNat ∧ isA N A τ ∧ Ext σ τ ∧ Rh N σ p n gr τ ∧ ∀ l : Int, 0 ≤ l → l < n → gr l = (dd l).n) ?_ (n := 30)
  ⟨0, 0, p0, _, _, _, A, _, rfl, rfl, rfl, ⟨Int.le_refl 0, by decide⟩, dw0, fun l l0 l1 => by omega, low0, hP.mono (by omega), hnA, hA0.ext x1, hE0.trans x1, r0, fun l l0 l1 => by omega⟩
 clear r0 x1 g0 m0 dw0 low0 hA0 hE0 hP hnA hA hE x0
 rintro x ts ls τ2 ⟨i, n, p, gr, dd, li, A1, b, rfl, rfl, rfl, ⟨i0, i1⟩, hdw, hea, hlo, hP1, hn1, hA1, hE1, hr1, hgl⟩ R hR
 have hnle := hdw.nle
 have hg1 := hg.keep hE1
 -- all are let go
 have drops : w_a4_j2 (fun v _ => v = .bool true) [.slice (some ⟨p, 0, none⟩) n 1, .int .i64 0] [N.el C 0] τ2 := by
  simp only [w_a4_j2, w_a4_j2b, ruS, ruL, ruE, Nat.reduceAdd, reduceIte, Int.reduceLT, Int.reduceLE, Int.reduceEq, Int.reduceNeg, Int.reduceAdd, Int.reduceSub, Nat.reduceLeDiff, Nat.reduceLT]
  refine xLoop_r (fun x ts ls τ => ∃ (m : Nat) (li : Int → Bool) (A : Ar) (b : Bg), x = n - m ∧ ts = [.slice (some ⟨p, 0, none⟩) n 1, .int .i64 0, .int .i64 m] ∧ ls = [N.el C 0] ∧ m ≤ n ∧ Dw C (30 + m) n dd li A.w b ∧ (∀ i, lowW C i → A.w i = 0) ∧ Pa C A (8000 + 200 * m) ∧ A.n = C.len.toNat ∧ isA N A τ ∧ Ext σ τ ∧ Rh N σ p n gr τ ∧ (∀ l : Int, 0 ≤ l → l < n → (dd l).own = false ∧ li l = decide ((m : Int) ≤ l))) ?_ (n := n)
   ⟨0, li, A1, b, rfl, rfl, rfl, by omega, hdw.mono (by omega), hlo, hP1.mono (by omega), hn1, hA1, hE1, hr1, fun l l0 l1 => ⟨(hea l l0 l1).1, by rw [(hea l l0 l1).2]; exact (decide_eq_true (by omega)).symm⟩⟩
  clear hdw hea hlo hP1 hn1 hA1 hE1 hr1 hR hg1
  rintro x ts ls τ7 ⟨m, li, A3, b, rfl, rfl, rfl, mn, hdw, hlo, hP3, hn3, hA3, hE3, hr3, hea⟩ R2 hR2
  simp only [w_law14_CompactFrees_l13, w_law14_CompactFrees_l13b, xLen, ruS, ruL, ruE, Nat.reduceAdd, reduceIte, Int.reduceLT, Int.reduceLE, Int.reduceEq, Int.reduceNeg, Int.reduceAdd, Int.reduceSub, Nat.reduceLeDiff, Nat.reduceLT]
  by_cases cm : (m : Int) < n
  ·have hem := hea m (by omega) cm
   simp only [cm, xIxS (show 0 ≤ (m : Int) by omega) cm, Nat.zero_add, ruS, ruL, ruE, Nat.reduceAdd, reduceIte, Int.reduceLT, Int.reduceLE, Int.reduceEq, Int.reduceNeg, Int.reduceAdd, Int.reduceSub, Nat.reduceLeDiff, Nat.reduceLT]
   rw [hr3.ld (by omega) cm, hgl m (by omega) cm, ← hem.1]
   refine c_DropW hN hC hG hA3 hP3 (by omega) hdw (by omega) (by omega) cm (by rw [hem.2]; exact decide_eq_true (Int.le_refl _)) fun oH oV oS A' τ8 hdw' hP4 hn4 hlo4 hA4 hK4 => ?_
   rw [hem.1]
   simp only [f0, ruS, ruL, ruE, Nat.reduceAdd, reduceIte, Int.reduceLT, Int.reduceLE, Int.reduceEq, Int.reduceNeg, Int.reduceAdd, Int.reduceSub, Nat.reduceLeDiff, Nat.reduceLT]
   rw [IntWalk.i64_in ((m : Int) + 1) (by omega)]
   refine hR2 (n - (m + 1)) [.slice (some ⟨p, 0, none⟩) n 1, .int .i64 0, .int .i64 ((m : Int) + 1)] [N.el C 0] τ8 (by omega) ⟨m + 1, updB li m false, A', { b.less (dd m).j (roomOf (classOf (dd m).z)) with F := (dd m).s :: b.F }, rfl, by simp, rfl, by omega, by rw [show (30 : Int) + ((m + 1 : Nat) : Int) = 30 + m + 1 by omega]; exact hdw', fun x hx => by rw [hlo4 x hx]; exact hlo x hx, hP4.mono (by omega), by rw [hn4]; exact hn3, hA4, hE3.keep' hK4 fun y hy => hfr.all y hy, hr3.keep hK4, fun l l0 l1 => ?_⟩
   have hel := hea l l0 l1
   refine ⟨hel.1, ?_⟩
   unfold updB
   by_cases e : l = m
   ·rw [if_pos e]; exact (decide_eq_false (by omega)).symm
   ·rw [if_neg e, hel.2]
    by_cases zz : (m : Int) ≤ l
    ·rw [decide_eq_true zz]; exact (decide_eq_true (by omega)).symm
    ·rw [decide_eq_false zz]; exact (decide_eq_false (by omega)).symm
  ·simp only [cm, ruS, ruL, ruE, Nat.reduceAdd, reduceIte, Int.reduceLT, Int.reduceLE, Int.reduceEq, Int.reduceNeg, Int.reduceAdd, Int.reduceSub, Nat.reduceLeDiff, Nat.reduceLT]
   exact fin (30 + m) n dd li A3 b τ7 hdw (by omega) (fun l l0 l1 => by rw [(hea l l0 l1).2]; exact decide_eq_false (by omega)) hlo (hP3.mono (by omega)) hn3 hA3 hE3
 simp only [w_law14_CompactFrees_l7, w_law14_CompactFrees_l7b, hg1.len, ruS, ruL, ruE, Nat.reduceAdd, reduceIte, Int.reduceLT, Int.reduceLE, Int.reduceEq, Int.reduceNeg, Int.reduceAdd, Int.reduceSub, Nat.reduceLeDiff, Nat.reduceLT]
 by_cases c1 : i < len
 rotate_left
 ·simp only [c1, ruS, ruL, ruE, Nat.reduceAdd, reduceIte, Int.reduceLT, Int.reduceLE, Int.reduceEq, Int.reduceNeg, Int.reduceAdd, Int.reduceSub, Nat.reduceLeDiff, Nat.reduceLT]; exact drops
 by_cases c2 : i < 30
 rotate_left
 ·simp only [c1, c2, ruS, ruL, ruE, Nat.reduceAdd, reduceIte, Int.reduceLT, Int.reduceLE, Int.reduceEq, Int.reduceNeg, Int.reduceAdd, Int.reduceSub, Nat.reduceLeDiff, Nat.reduceLT]; exact drops
 clear drops fin
 simp only [c1, c2, w_a4_j10, w_a4_j10b, ruS, ruL, ruE, Nat.reduceAdd, reduceIte, Int.reduceLT, Int.reduceLE, Int.reduceEq, Int.reduceNeg, Int.reduceAdd, Int.reduceSub, Nat.reduceLeDiff, Nat.reduceLT]
 rw [hg1.ix i0 c1]
 simp only [andI15, ruS, ruL, ruE, Nat.reduceAdd, reduceIte, Int.reduceLT, Int.reduceLE, Int.reduceEq, Int.reduceNeg, Int.reduceAdd, Int.reduceSub, Nat.reduceLeDiff, Nat.reduceLT]
 have hz : 0 ≤ classOf (1 + g i % 16) := by unfold classOf; (repeat' split) <;> omega
 have hzb : 1 ≤ 1 + g i % 16 ∧ 1 + g i % 16 ≤ 16 := by omega
 generalize 1 + g i % 16 = z at hz hzb
 rw [IntWalk.i64_in z (by omega)]
 refine c_MakeW hN hC hA1 hP1 (by omega) hdw (by omega) hz (fun oE oV oS A' τ3 hf hdw' hP2 hn2 hlo2 hA2 hK2 => ?_) fun oV oS A' τ3 s' F j b' d hF hgt hd hdw' hP2 hn2 hlo2 hA2 hK2 => ?_
 ·have hE0 : ¬ oE = 0 := by omega
  simp only [gs, hE0, w_a4_j11, w_a4_j11b, ruS, ruL, ruE, Nat.reduceAdd, reduceIte, Int.reduceLT, Int.reduceLE, Int.reduceEq, Int.reduceNeg, Int.reduceAdd, Int.reduceSub, Nat.reduceLeDiff, Nat.reduceLT]
  rw [IntWalk.i64_in (i + 1) (by omega)]
  exact hR (30 - (i + 1)).toNat _ _ _ (by omega) ⟨i + 1, n, p, gr, dd, li, A', b, rfl, rfl, rfl, ⟨by omega, by omega⟩, hdw'.mono (by omega), hea, fun x hx => by rw [hlo2 x hx]; exact hlo x hx, hP2.mono (by omega), by rw [hn2]; exact hn1, hA2, hE1.keep' hK2 fun y hy => hfr.all y hy, hr1.keep hK2, hgl⟩
 ·have hr2 := hr1.keep hK2
  have hE2 : Ext σ τ3 := hE1.keep' hK2 fun y hy => hfr.all y hy
  simp only [gs, bu1, ruS, ruL, ruE, Nat.reduceAdd, reduceIte, Int.reduceLT, Int.reduceLE, Int.reduceEq, Int.reduceNeg, Int.reduceAdd, Int.reduceSub, Nat.reduceLeDiff, Nat.reduceLT]
  have eg : (fun l : Int => if l = n then d.n else gr l) n = d.n := if_pos rfl
  rw [← eg]
  refine hr2.add (g' := fun l : Int => if l = n then d.n else gr l) hA2 hE2 (by omega) (fun l l0 l1 => if_neg (by omega)) fun id υ hr3 hA3 hE3 _ => ?_
  simp only [w_a4_j11, w_a4_j11b, ruS, ruL, ruE, Nat.reduceAdd, reduceIte, Int.reduceLT, Int.reduceLE, Int.reduceEq, Int.reduceNeg, Int.reduceAdd, Int.reduceSub, Nat.reduceLeDiff, Nat.reduceLT]
  rw [IntWalk.i64_in (i + 1) (by omega)]
  refine hR (30 - (i + 1)).toNat _ _ _ (by omega) ⟨i + 1, n + 1, id, _, _, _, A', _, rfl, by simp, rfl, ⟨by omega, by omega⟩, hdw', fun l l0 l1 => ?_, fun x hx => by rw [hlo2 x hx]; exact hlo x hx, hP2.mono (by omega), by rw [hn2]; exact hn1, hA3, hE3, hr3, fun l l0 l1 => ?_⟩
  ·unfold addD updB
   by_cases e : l = n
   ·rw [if_pos e, if_pos e]; exact ⟨hd.1, rfl⟩
   ·rw [if_neg e, if_neg e]; exact hea l l0 (by omega)
  ·unfold addD
   by_cases e : l = n
   ·simp [e]
   ·simp only [if_neg e]; exact hgl l l0 (by omega)
end Go.Fl
