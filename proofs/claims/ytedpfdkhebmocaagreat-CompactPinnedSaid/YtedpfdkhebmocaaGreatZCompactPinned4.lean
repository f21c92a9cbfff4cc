/- What the claim leans on, part 4: own readings of the program's functions, what they come to, laws of them. No condition. -/
import Derived.Test.YtedpfdkhebmocaaGreatZCompactPinned3
namespace Go.Fl
open Go
set_option linter.unusedVariables false
set_option linter.unusedSimpArgs false
variable {N : Nm} {A B : Ar} {σ : Mem} {K : Value → Mem → Prop} {C : Cf} {who : Int}
structure Dw (C : Cf) (i : Int) (n : Nat) (dd : Int → Do) (li : Int → Bool) (w : Int → Int) (b : Bg) : Prop where
 aw : b.aw C w
 lv : b.lvM C (17 * i)
 gen : ∀ s, 0 ≤ s → s < C.S → 1 ≤ slG (w (C.slot s)) ∧ slG (w (C.slot s)) ≤ 1 + i
 hd : ∀ k : Int, 0 ≤ k → k < n → ((0 ≤ (dd k).n ∧ (dd k).n < 18446744073709551616) ∧ hdOk (dd k).n = true ∧ 0 ≤ (dd k).s ∧ (dd k).s < C.S) ∧ 0 ≤ classOf (dd k).z ∧ (1 ≤ (dd k).ge ∧ (dd k).ge ≤ 1 + i)
 ok : ∀ k : Int, 0 ≤ k → k < n → li k = true → (dd k).ok C b w
 dead : ∀ k : Int, 0 ≤ k → k < n → li k = false → (dd k).ge < slG (w (C.slot (dd k).s))
 nsl : ∀ k l : Int, 0 ≤ k → k < n → 0 ≤ l → l < n → li k = true → li l = true → k ≠ l → (dd k).s ≠ (dd l).s
 ns : ∀ k l : Int, 0 ≤ k → k < n → 0 ≤ l → l < n → k ≠ l → (dd k).j ≠ (dd l).j ∨ (dd k).i + (dd k).rm ≤ (dd l).i ∨ (dd l).i + (dd l).rm ≤ (dd k).i
 sm : ∀ j, 0 ≤ j → j < C.C → sumN (part dd li j) n = b.lv j
 nle : (n : Int) ≤ i
 pl : ∀ k : Int, 0 ≤ k → k < n → ((0 ≤ (dd k).j ∧ (dd k).j < b.nx) ∧ 0 ≤ (dd k).i ∧ (dd k).i + (dd k).rm ≤ b.u (dd k).j) ∧ chC (w (C.chunk (dd k).j)) = classOf (dd k).z ∧ w ((dd k).a C) = putHead 2 (dd k).z (dd k).s (dd k).ge (dd k).own
 cov : ∀ j x, 0 ≤ j → j < b.nx → 0 ≤ x → x < b.u j → x % roomOf (chC (w (C.chunk j))) = 0 → ∃ k : Int, (0 ≤ k ∧ k < n) ∧ (dd k).j = j ∧ (dd k).i = x
 um : ∀ j, 0 ≤ j → j < b.nx → b.u j % roomOf (chC (w (C.chunk j))) = 0 ∧ chC (w (C.chunk j)) ≤ 3 ∧ 0 < b.u j
theorem Dw.new (hC : C.ok) (h : Frsh N C A) : Dw C 0 0 (fun _ => ⟨0, 0, 0, false, 0, 0⟩) (fun _ => false) A.w (Bg.fr C) := by
 have haw := h.aw hC
 refine ⟨haw, fr_lv, fun s s0 s1 => ?_, fun k k0 k1 => by omega, fun k k0 k1 => by omega, fun k k0 k1 => by omega, fun k l k0 k1 => by omega, fun k l k0 k1 => by omega, fun j _ _ => rfl, Int.le_refl 0, fun k k0 k1 => by omega, fun j x j0 j1 => ?_, fun j j0 j1 => ?_⟩
 ·rw [h.w]
  have hT := hC.T
  unfold Cf.w0 Cf.fr
  rw [if_neg (by unfold Cf.slot; omega), if_neg (by unfold Cf.slot; omega), if_pos (by unfold Cf.slot; omega), if_pos (by unfold Cf.slot; omega)]
  exact ⟨by decide, by decide⟩
 ·have : j < 0 := j1; omega
 ·have : j < 0 := j1; omega
theorem Dw.mono {i i' : Int} {n : Nat} {dd : Int → Do} {li : Int → Bool} {w : Int → Int} {b : Bg} (h : Dw C i n dd li w b) (hi : i ≤ i') : Dw C i' n dd li w b :=
 ⟨h.aw, h.lv.mono (by omega), fun s s0 s1 => by have := h.gen s s0 s1; omega, fun k k0 k1 => by have := h.hd k k0 k1; exact ⟨this.1, this.2.1, by omega⟩, h.ok, h.dead, h.nsl, h.ns, h.sm, by have := h.nle; omega, h.pl, h.cov, h.um⟩
theorem rm_nn {dd : Int → Do} {li : Int → Bool} {j k : Int} : 0 ≤ part dd li j k := by
 unfold part Do.rm roomOf; split
 ·(repeat' split) <;> decide
 ·decide
theorem aw_ule (hC : C.ok) {b : Bg} {w : Int → Int} (h : b.aw C w) {j : Int} (j0 : 0 ≤ j) (j1 : j < C.C) : 0 ≤ b.u j ∧ b.u j ≤ C.W := by
 have hW := hC.W
 by_cases q : j < b.nx
 ·have := h.alo.old j j0 q; omega
 ·have := (h.alo.new j (by omega) j1).2; omega
theorem Dw.make (hC : C.ok) {i : Int} {n : Nat} {dd : Int → Do} {li : Int → Bool} {z s j : Int} {own : Bool} {w w' : Int → Int} {b b' : Bg} {F : List Int} (h : Dw C i n dd li w b) (hi : i ≤ 1000) (hF : b.F = s :: F) (hc : 0 ≤ classOf z)
  (hg : Got C b F (classOf z) j b') (haw : (b'.count j (roomOf (classOf z))).aw C w') (h1 : w' (C.slot s) = putSlot 1 (C.base j + b.u j) (slG (w (C.slot s))) 0) (h2 : w' (C.base j + b.u j) = putHead 2 z s (slG (w (C.slot s))) own)
  (fw : Fw C b True w w') (hck : ∀ j, 0 ≤ j → j < b.nx → chC (w' (C.chunk j)) = chC (w (C.chunk j))) : Dw C (i + 1) (n + 1) (addD dd n (Do.mk' C b s (slG (w (C.slot s))) z own j)) (updB li n true) w' (b'.count j (roomOf (classOf z))) := by
 have hm := h.aw.fre.c.mem s (by rw [hF]; simp)
 have hnd := h.aw.fre.nd
 rw [hF] at hnd
 have hsF := (List.nodup_cons.1 hnd).1
 have hge := h.gen s hm.1 hm.2
 obtain ⟨c1, c2, c3⟩ := hg.cnt hC (n := roomOf (classOf z))
 obtain ⟨d1, d2, d3, d4⟩ := hg.bd hC h.aw.alo hc (class_bd z).2
 have hlv0 := h.lv.lv j d1.1 d1.2
 have hS := hC.S
 have hr := room_bd hc (class_bd z).2
 have hnew := hg.do (own := own) hC hc hm hsF (by omega : 1 ≤ slG (w (C.slot s)) ∧ slG (w (C.slot s)) ≤ 65535) ⟨_, h.aw.alo⟩ hlv0.1 h1 h2
 obtain ⟨u0, u1, u2, u3, u4⟩ := hd_handle (s := s) (g := slG (w (C.slot s))) (by omega) (by omega)
 have jcase : (good C b.o b.u (classOf z) ∧ j = b.o (classOf z) ∧ j < b.nx ∧ (b'.count j (roomOf (classOf z))).nx = b.nx) ∨ (j = b.nx ∧ b.u j = 0 ∧ (b'.count j (roomOf (classOf z))).nx = b.nx + 1) := by
  rcases hg with ⟨g, e, rfl⟩ | ⟨g, nx, e, rfl⟩
  ·have := h.aw.alo.op _ hc (class_bd z).2
   exact .inl ⟨g, e, by omega, rfl⟩
  ·exact .inr ⟨e, (h.aw.alo.new j (by omega) d1.2).2, rfl⟩
 have hcj : chC (w' (C.chunk j)) = classOf z := by
  have := haw.alo.cls _ hc (class_bd z).2 (by show 0 ≤ b'.o (classOf z); omega)
  rw [show (b'.count j (roomOf (classOf z))).o (classOf z) = j from d4] at this
  exact this
 have hcjo : j < b.nx → chC (w (C.chunk j)) = classOf z := fun q => by rw [← hck j d1.1 q]; exact hcj
 generalize hd : Do.mk' C b s (slG (w (C.slot s))) z own j = d at *
 have ds : d.s = s := by subst hd; exact u2
 have dj : d.j = j := by subst hd; rfl
 have di : d.i = b.u j := by subst hd; rfl
 have dz : d.z = z := by subst hd; rfl
 have dg : d.ge = slG (w (C.slot s)) := by subst hd; exact u3
 have dow : d.own = own := by subst hd; rfl
 have dr : d.rm = roomOf (classOf z) := by subst hd; rfl
 have da : d.a C = C.base j + b.u j := by subst hd; rfl
 have wS : ∀ t, 0 ≤ t → t < C.S → t ≠ s → w' (C.slot t) = w (C.slot t) := fun t t0 t1 ht => fw.slot t t0 t1 fun _ F' e => by rw [hF] at e; cases e; exact ht rfl
 have wG : ∀ t, 0 ≤ t → t < C.S → slG (w' (C.slot t)) = slG (w (C.slot t)) := fun t t0 t1 => by
  have hb1 := base_of hC d1.1 d1.2 d2.1 (by omega)
  have hl := len_bd hC
  by_cases e : t = s
  ·subst e; rw [h1]; exact (sl_put (by decide) (by omega) (by omega) (by decide)).2.2.1
  ·rw [wS t t0 t1 e]
 have aN : addD dd n d n = d := if_pos rfl
 have aO : ∀ k : Int, k < n → addD dd n d k = dd k := fun k hk => if_neg (by omega)
 have lN : updB li n true n = true := if_pos rfl
 have lO : ∀ k : Int, k < n → updB li n true k = li k := fun k hk => if_neg (by omega)
 have sne : ∀ k : Int, 0 ≤ k → k < n → li k = true → (dd k).s ≠ s ∧ (dd k).s ∉ F := fun k k0 k1 hk => by
  have := (h.ok k k0 k1 hk).sF; rw [hF] at this; simp only [List.mem_cons, not_or] at this; exact this
 have cs : ∀ k : Int, k < ((n + 1 : Nat) : Int) → k < n ∨ k = n := fun k hk => by omega
 have nxb := h.aw.alo.bd
 refine ⟨haw, ?_, fun t t0 t1 => by rw [wG t t0 t1]; have := h.gen t t0 t1; omega, fun k k0 k1 => ?_, fun k k0 k1 hk => ?_, fun k k0 k1 hk => ?_, fun k l k0 k1 l0 l1 hk hl' hkl => ?_, fun k l k0 k1 l0 l1 hkl => ?_, fun l l0 l1 => ?_, by have := h.nle; omega, fun k k0 k1 => ?_, fun l x l0 l1 x0 x1 xm => ?_, fun l l0 l1 => ?_⟩
 ·have := h.lv.count hC hg hc (class_bd z).2
  exact this.mono (by omega)
 ·rcases cs k k1 with e | rfl
  ·rw [aO k e]; have := h.hd k k0 e; exact ⟨this.1, this.2.1, by omega⟩
  ·rw [aN]; exact ⟨⟨hnew.n, hnew.hok, hnew.s⟩, hnew.cl, by omega⟩
 ·rcases cs k k1 with e | rfl
  ·rw [aO k e]; rw [lO k e] at hk
   have o := h.ok k k0 e hk
   have oi := o.i
   have oj := o.j
   have ou := (aw_ule hC h.aw oj.1 oj.2).2
   have rm := (dd k).rm0
   unfold Do.rm at rm
   refine o.keep ?_ (wS _ o.s.1 o.s.2 (sne k k0 e hk).1) (fw.word _ _ oj.1 oj.2 oi.1 (by omega) (by omega)) ?_ ?_
   ·rw [c1]; exact (sne k k0 e hk).2
   ·rw [c3]; unfold upd; split
    ·rename_i q; rw [q]; omega
    ·exact Int.le_refl _
   ·have olv := o.lv
    rw [c2]; unfold upd; split
    ·rename_i q; rw [q] at olv; omega
    ·exact olv
  ·rw [aN]; exact hnew
 ·rcases cs k k1 with e | rfl
  ·rw [aO k e]; rw [lO k e] at hk
   have := (h.hd k k0 e).1.2.2
   rw [wG _ this.1 this.2]; exact h.dead k k0 e hk
  ·rw [lN] at hk; cases hk
 ·rcases cs k k1 with e | rfl
  ·rw [aO k e]; rw [lO k e] at hk
   rcases cs l l1 with e' | rfl
   ·rw [aO l e']; rw [lO l e'] at hl'
    exact h.nsl k l k0 e l0 e' hk hl' hkl
   ·rw [aN, ds]; exact (sne k k0 e hk).1
  ·rcases cs l l1 with e' | rfl
   ·rw [aO l e', aN, ds]; rw [lO l e'] at hl'
    exact fun q => (sne l l0 e' hl').1 q.symm
   ·exact absurd rfl hkl
 ·rcases cs k k1 with e | rfl
  ·rw [aO k e]
   rcases cs l l1 with e' | rfl
   ·rw [aO l e']; exact h.ns k l k0 e l0 e' hkl
   ·rw [aN, dj, di]
    by_cases q : (dd k).j = j
    ·have := (h.pl k k0 e).1.2.2; rw [q] at this; exact .inr (.inl this)
    ·exact .inl q
  ·rcases cs l l1 with e' | rfl
   ·rw [aO l e', aN, dj, di]
    by_cases q : (dd l).j = j
    ·have := (h.pl l l0 e').1.2.2; rw [q] at this; exact .inr (.inr this)
    ·exact .inl fun q' => q q'.symm
   ·exact absurd rfl hkl
 ·show sumN (part (addD dd n d) (updB li n true) l) n + part (addD dd n d) (updB li n true) l n = _
  rw [sumN_congr (g := part dd li l) fun k k0 k1 => by unfold part; rw [aO k k1, lO k k1]]
  have := h.sm l l0 l1
  unfold part at this ⊢
  rw [aN, lN, c2, dj, dr]
  by_cases q : j = l
  ·subst q; rw [upd_same, if_pos ⟨rfl, rfl⟩]; omega
  ·rw [upd_ne _ _ (fun e => q e.symm), if_neg fun e => q e.2]; omega
 ·rcases cs k k1 with e | rfl
  ·rw [aO k e]
   obtain ⟨⟨p1, p2, p3⟩, p4, p5⟩ := h.pl k k0 e
   have pu := (aw_ule hC h.aw p1.1 (by omega)).2
   have rm := (dd k).rm0
   refine ⟨⟨⟨p1.1, ?_⟩, p2, ?_⟩, by rw [hck _ p1.1 p1.2]; exact p4, ?_⟩
   ·rcases jcase with q | q <;> omega
   ·rw [c3]; unfold upd; split
    ·rename_i q; rw [q] at p3; omega
    ·exact p3
   ·rw [show (dd k).a C = C.base (dd k).j + (dd k).i from rfl, fw.word _ _ p1.1 (by omega) p2 (by omega) (by omega)]; exact p5
  ·rw [aN, dj, di, dr, dz, da, ds, dg, dow]
   refine ⟨⟨⟨d1.1, ?_⟩, d2.1, ?_⟩, hcj, h2⟩
   ·rcases jcase with q | q <;> omega
   ·rw [c3, upd_same]; omega
 · -- each place is told
  by_cases e : l = j
  ·subst e
   rw [hcj] at xm
   rw [c3, upd_same] at x1
   by_cases z1 : x < b.u l
   ·have lnx : l < b.nx := by
     rcases jcase with q | q
     ·exact q.2.2.1
     ·omega
    obtain ⟨k, kb, k2, k3⟩ := h.cov l x l0 lnx x0 z1 (by rw [hcjo lnx]; exact xm)
    exact ⟨k, ⟨kb.1, by omega⟩, by rw [aO k kb.2]; exact k2, by rw [aO k kb.2]; exact k3⟩
   ·have xu : x = b.u l := by
     have um : b.u l % roomOf (classOf z) = 0 := by
      rcases jcase with q | q
      ·have := (h.um l l0 q.2.2.1).1; rwa [hcjo q.2.2.1] at this
      ·rw [q.2.1, Int.zero_emod]
     have e1 : (x - b.u l) % roomOf (classOf z) = 0 := by rw [Int.sub_emod, xm, um]; rfl
     rw [Int.emod_eq_of_lt (by omega) (by omega)] at e1
     omega
    exact ⟨n, ⟨by omega, by omega⟩, by rw [aN]; exact dj, by rw [aN, di]; exact xu.symm⟩
  ·have lnx : l < b.nx := by
    rcases jcase with q | q <;> omega
   rw [c3, upd_ne _ _ e] at x1
   rw [hck l l0 lnx] at xm
   obtain ⟨k, kb, k2, k3⟩ := h.cov l x l0 lnx x0 x1 xm
   exact ⟨k, ⟨kb.1, by omega⟩, by rw [aO k kb.2]; exact k2, by rw [aO k kb.2]; exact k3⟩
 ·by_cases e : l = j
  ·subst e
   rw [c3, upd_same, hcj]
   refine ⟨?_, (class_bd z).2, by omega⟩
   rw [Int.add_emod_right]
   rcases jcase with q | q
   ·have := (h.um l l0 q.2.2.1).1; rwa [hcjo q.2.2.1] at this
   ·rw [q.2.1, Int.zero_emod]
  ·have lnx : l < b.nx := by
    rcases jcase with q | q <;> omega
   rw [c3, upd_ne _ _ e, hck l l0 lnx]; exact h.um l l0 lnx
theorem Do.fr.word (hC : C.ok) {d : Do} {w w' : Int → Int} (h : d.fr C w w') (d0 : 0 ≤ d.j) (d1 : d.j < C.C) (d2 : 0 ≤ d.i) (d3 : d.i + d.z < C.W) (hs : 0 ≤ d.s ∧ d.s < C.S) {j x : Int} (j0 : 0 ≤ j) (j1 : j < C.C) (x0 : 0 ≤ x) (x1 : x < C.W) (hn : ¬ (j = d.j ∧ d.i < x ∧ x ≤ d.i + d.z)) : w' (C.base j + x) = w (C.base j + x) := by
 have hT := hC.T; have hS := hC.S
 have hb := base_ge hC j0 j1 x0
 refine h _ (by unfold Cf.slot; omega) (by omega) (by unfold Cf.slot; omega) (by unfold Cf.chunk; omega) fun ⟨q1, q2⟩ => ?_
 have ea : d.a C = C.base d.j + d.i := rfl
 have e : C.base j + x = C.base d.j + (d.i + (C.base j + x - C.base d.j - d.i)) := by omega
 obtain ⟨e1, e2⟩ := base_inj hC j0 j1 x0 x1 d0 d1 (by omega) (by omega) e
 exact hn ⟨e1, by omega, by omega⟩
theorem Do.fr.chunk (hC : C.ok) {d : Do} {w w' : Int → Int} (h : d.fr C w w') (d0 : 0 ≤ d.j) (d1 : d.j < C.C) (d2 : 0 ≤ d.i) (hs : 0 ≤ d.s ∧ d.s < C.S) {j : Int} (j0 : 0 ≤ j) (j1 : j < C.C) : w' (C.chunk j) = w (C.chunk j) := by
 have hT := hC.T; have hS := hC.S
 have hb := base_ge hC d0 d1 d2
 have ea : d.a C = C.base d.j + d.i := rfl
 exact h _ (by unfold Cf.slot Cf.chunk; omega) (by unfold Cf.chunk; omega) (by unfold Cf.slot Cf.chunk; omega) (by unfold Cf.chunk; omega) (by unfold Cf.chunk; omega)
theorem Do.fr.slot (hC : C.ok) {d : Do} {w w' : Int → Int} (h : d.fr C w w') (d0 : 0 ≤ d.j) (d1 : d.j < C.C) (d2 : 0 ≤ d.i) {t : Int} (t0 : 0 ≤ t) (t1 : t < C.S) (ht : t ≠ d.s) : w' (C.slot t) = w (C.slot t) := by
 have hT := hC.T; have hS := hC.S
 have hb := base_ge hC d0 d1 d2
 have ea : d.a C = C.base d.j + d.i := rfl
 exact h _ (by unfold Cf.slot; omega) (by unfold Cf.slot; omega) (by unfold Cf.slot; omega) (by unfold Cf.slot Cf.chunk; omega) (by unfold Cf.slot; omega)
theorem Dw.drop (hC : C.ok) (hG : C.G = 100) {i : Int} {n : Nat} {dd : Int → Do} {li : Int → Bool} {k : Int} {w w' : Int → Int} {b : Bg} (h : Dw C i n dd li w b) (hi : i ≤ 90) (k0 : 0 ≤ k) (k1 : k < n) (hk : li k = true)
  (fr : (dd k).fr C w w') (sl : w' (C.slot (dd k).s) = (dd k).nx C) (aw : Bg.aw { b.less (dd k).j (roomOf (classOf (dd k).z)) with F := if C.G ≤ (dd k).ge then b.F else (dd k).s :: b.F } C w') :
  Dw C (i + 1) n dd (updB li k false) w' { b.less (dd k).j (roomOf (classOf (dd k).z)) with F := (dd k).s :: b.F } := by
 have o := h.ok k k0 k1 hk
 have hgk := h.gen _ o.s.1 o.s.2
 have hge : slG (w (C.slot (dd k).s)) = (dd k).ge := by rw [o.ws, o.sg]
 rw [if_neg (by omega)] at aw
 have slw : w' (C.slot (dd k).s) = putSlot 0 0 ((dd k).ge + 1) 0 := by rw [sl]; unfold Do.nx; rw [if_neg (by omega)]
 have oj := o.j
 have oi := o.i
 have oz := o.z
 have rmk := (dd k).rm0
 have hub := (aw_ule hC h.aw oj.1 oj.2).2
 have nxb := h.aw.alo.bd
 have hz1 : 1 ≤ (dd k).z := (class_room' o.cl).1.1
 have wS : ∀ t, 0 ≤ t → t < C.S → t ≠ (dd k).s → w' (C.slot t) = w (C.slot t) := fun t t0 t1 ht => fr.slot hC oj.1 oj.2 oi.1 t0 t1 ht
 have wC : ∀ j, 0 ≤ j → j < C.C → w' (C.chunk j) = w (C.chunk j) := fun j j0 j1 => fr.chunk hC oj.1 oj.2 oi.1 o.s j0 j1
 have wG : slG (w' (C.slot (dd k).s)) = (dd k).ge + 1 := by rw [slw]; exact (sl_put' (by decide) (by decide) (by omega)).2.2
 have wH : ∀ l : Int, 0 ≤ l → l < n → w' ((dd l).a C) = w ((dd l).a C) := fun l l0 l1 => by
  obtain ⟨⟨p1, p2, p3⟩, p4, p5⟩ := h.pl l l0 l1
  have pu := (aw_ule hC h.aw p1.1 (by omega)).2
  have rml := (dd l).rm0
  refine fr.word hC oj.1 oj.2 oi.1 (by omega) o.s p1.1 (by omega) p2 (by omega) fun ⟨q1, q2, q3⟩ => ?_
  by_cases e : l = k
  ·subst e; omega
  ·rcases h.ns l k l0 l1 k0 k1 e with q | q | q
   ·exact q q1
   ·omega
   ·unfold Do.rm at q; omega
 have lK : updB li k false k = false := if_pos rfl
 have lO : ∀ l, l ≠ k → updB li k false l = li l := fun l hl => if_neg hl
 have lT : ∀ l, updB li k false l = true → l ≠ k ∧ li l = true := fun l hl => by
  by_cases e : l = k
  ·subst e; rw [lK] at hl; cases hl
  ·rw [lO l e] at hl; exact ⟨e, hl⟩
 have sml : ∀ j, sumN (part dd (updB li k false) j) n = sumN (part dd li j) n - (if (dd k).j = j then (dd k).rm else 0) := fun j => by
  have e : part dd (updB li k false) j = upd (part dd li j) k 0 := by
   funext l
   unfold part upd
   by_cases e : l = k
   ·subst e; rw [lK]; simp
   ·rw [lO l e, if_neg e]
  rw [e, sumN_upd k0 k1]
  have : part dd li j k = if (dd k).j = j then (dd k).rm else 0 := by unfold part; rw [hk]; simp
  rw [this]; omega
 have smk := sumN_le (f := part dd li (dd k).j) (n := n) (fun _ => rm_nn) k0 k1
 have smj := h.sm _ oj.1 oj.2
 have pk : part dd li (dd k).j k = (dd k).rm := by unfold part; rw [hk]; simp
 rw [pk] at smk
 refine ⟨aw, ⟨fun j j0 j1 => ?_⟩, fun t t0 t1 => ?_, fun l l0 l1 => by have := h.hd l l0 l1; exact ⟨this.1, this.2.1, by omega⟩, fun l l0 l1 hl => ?_, fun l l0 l1 hl => ?_, fun l m l0 l1 m0 m1 hl hm hlm => h.nsl l m l0 l1 m0 m1 (lT l hl).2 (lT m hm).2 hlm, h.ns, fun j j0 j1 => ?_, by have := h.nle; omega, fun l l0 l1 => ?_, fun j x j0 j1 x0 x1 xm => ?_, fun j j0 j1 => ?_⟩
 ·have := h.lv.lv j j0 j1
  show 0 ≤ upd b.lv (dd k).j (b.lv (dd k).j - (dd k).rm) j ∧ upd b.lv (dd k).j (b.lv (dd k).j - (dd k).rm) j ≤ _
  unfold upd; split
  ·rename_i q; rw [← q] at smk smj ⊢; omega
  ·omega
 ·by_cases e : t = (dd k).s
  ·rw [e, wG]; omega
  ·rw [wS t t0 t1 e]; have := h.gen t t0 t1; omega
 ·obtain ⟨lk, hl'⟩ := lT l hl
  have ol := h.ok l l0 l1 hl'
  have n1 := h.nsl l k l0 l1 k0 k1 hl' hk lk
  refine ol.keep ?_ (wS _ ol.s.1 ol.s.2 n1) (wH l l0 l1) (Int.le_refl _) ?_
  ·simp only [List.mem_cons, not_or]; exact ⟨n1, ol.sF⟩
  ·show _ ≤ upd b.lv (dd k).j (b.lv (dd k).j - (dd k).rm) (dd l).j
   unfold upd; split
   ·rename_i q
    have s1 := sumN_le (f := part dd (updB li k false) (dd k).j) (n := n) (fun _ => rm_nn) l0 l1
    rw [sml, if_pos rfl] at s1
    have : part dd (updB li k false) (dd k).j l = (dd l).rm := by unfold part; rw [hl, q]; simp
    rw [this] at s1
    unfold Do.rm at *
    omega
   ·exact ol.lv
 ·by_cases e : l = k
  ·subst e; rw [wG]; omega
  ·rw [lO l e] at hl
   have q := h.dead l l0 l1 hl
   have hs := (h.hd l l0 l1).1.2.2
   by_cases e' : (dd l).s = (dd k).s
   ·rw [e', wG]; rw [e'] at q; omega
   ·rw [wS _ hs.1 hs.2 e']; exact q
 ·show _ = upd b.lv (dd k).j (b.lv (dd k).j - (dd k).rm) j
  rw [sml]
  have := h.sm j j0 j1
  by_cases q : (dd k).j = j
  ·subst q; rw [upd_same, if_pos rfl]; omega
  ·rw [upd_ne _ _ fun e => q e.symm, if_neg q]; omega
 ·obtain ⟨⟨p1, p2, p3⟩, p4, p5⟩ := h.pl l l0 l1
  exact ⟨⟨p1, p2, p3⟩, by rw [wC _ p1.1 (by omega)]; exact p4, by rw [wH l l0 l1]; exact p5⟩
 ·have j1' : j < b.nx := j1
  rw [wC j j0 (by omega)] at xm
  exact h.cov j x j0 j1 x0 x1 xm
 ·have j1' : j < b.nx := j1
  rw [wC j j0 (by omega)]
  exact h.um j j0 j1
end Go.Fl
namespace Go.Fl
open Go
set_option linter.unusedVariables false
set_option linter.unusedSimpArgs false
variable {N : Nm} {A B : Ar} {σ : Mem} {K : Value → Mem → Prop} {C : Cf} {who : Int}
structure Mo where
 addr : Int
 hk : Int
 hz : Int
 hs : Int
 hg : Int
 ho : Bool
 pc : Int
 w : Int
 p : Option Nat
 sa : Int
 sc : Int
 got : Bool
 i : Int
 cell : Int
 nn : Int
 out : Int
def Mo.l (a : Mo) : List Value := [.int .i64 a.addr, .int .i64 a.hk, .int .i64 a.hz, .int .i64 a.hs, .int .i64 a.hg, .bool a.ho, .int .i64 a.pc, .int .u64 a.w, obP a.p, .int .i64 a.sa, .int .i64 a.sc, .bool a.got, .int .i64 a.i, .int .u64 a.cell, .int .i64 a.nn, .int .i64 a.out]
def Mo.new (addr k z s g : Int) (o : Bool) : Mo := ⟨addr, k, z, s, g, o, 0, 0, none, 0, 0, false, 0, 0, 0, 0⟩
def Mo.endm (a : Mo) (e : Int) : Mo := { a with out := e, pc := if a.got = true then 11 else a.pc }
def Mo.as (a : Mo) (st ad more : Int) : Int := putSlot st ad (slG a.w) (slV a.w + more)
def Mo.hd (a : Mo) (k : Int) : Int := putHead k a.hz a.hs a.hg a.ho
theorem ldMo {p k sz : Nat} {ag : Bool} {a : Mo} {v : Value} (hd : p ∉ N.l) (h : sub a.l k sz ag = some v) : hLoad sz ag [.pointer (some ⟨p, k, none⟩)] K (putA N A (σ.set p ⟨a.l, true⟩)) = K v (putA N A (σ.set p ⟨a.l, true⟩)) := by
 rw [hLoad_eq ((putA_get hd).trans (Mem.get_set_same _ _ _)), h, xOs]
theorem stMo {p k : Nat} {a : Mo} (a' : Mo) {x : Value} (hd : p ∉ N.l) (hx : cellsOf x 1 = some [x]) (ho : oneB x = true) (hk : k + 1 ≤ 16) (e : lay a.l k [x] = a'.l) :
  hStore 1 [.pointer (some ⟨p, k, none⟩), x] K (putA N A (σ.set p ⟨a.l, true⟩)) = K undef (putA N A (σ.set p ⟨a'.l, true⟩)) := by
 have := stO (K := K) (N := N) (A := A) (σ := σ) (p := p) (pre := []) (L := a.l) (post := []) (k := k) (sz := 1) (x := x) (c := [x]) hd hx rfl hk (by simp [ho])
 rw [e] at this
 simpa only [List.nil_append, List.append_nil, List.length_nil, Nat.zero_add] using this
theorem stMoa {p k sz : Nat} {a : Mo} (a' : Mo) {c : List Value} (hd : p ∉ N.l) (hl : c.length = sz) (ho : c.all oneB = true) (hk : k + sz ≤ 16) (e : lay a.l k c = a'.l) :
  hStore sz [.pointer (some ⟨p, k, none⟩), .agg c.toArray] K (putA N A (σ.set p ⟨a.l, true⟩)) = K undef (putA N A (σ.set p ⟨a'.l, true⟩)) := by
 have := stOa (K := K) (N := N) (A := A) (σ := σ) (p := p) (pre := []) (L := a.l) (post := []) (k := k) (sz := sz) (c := c) hd hl hk ho
 rw [e] at this
 simpa only [List.nil_append, List.append_nil, List.length_nil, Nat.zero_add] using this
theorem c_MoveNew {ad k z s g : Int} {o : Bool} (hk : ∀ id τ, σ.get id = none → τ.get id = some ⟨(Mo.new ad k z s g o).l, true⟩ → Ext σ τ → K (.pointer (some ⟨id, 0, none⟩)) τ) :
  s_ct [.int .i64 ad, .agg #[.int .i64 k, .int .i64 z, .int .i64 s, .int .i64 g, .bool o]] K σ := by
 have b : ∀ K : Value → Prop, xF (fBuild [(0, 1), (1, 5), (6, 1), (7, 1), (8, 1), (9, 2), (11, 1), (12, 1), (13, 1), (14, 1), (15, 1)] [.int .i64 0, .int .i64 0, .int .i64 0, .int .i64 0, .int .i64 0, .bool false, .int .i64 0, .int .u64 0, .pointer none, .int .i64 0, .int .i64 0, .bool false, .int .i64 0, .int .u64 0, .int .i64 0, .int .i64 0] [0, 1]) [.int .i64 ad, .agg #[.int .i64 k, .int .i64 z, .int .i64 s, .int .i64 g, .bool o]] K =
   K (.agg (Mo.new ad k z s g o).l.toArray) := fun K => nr rfl
 have g5 : gBox 5 [.agg #[.int .i64 k, .int .i64 z, .int .i64 s, .int .i64 g, .bool o]] [] = some [.int .i64 k, .int .i64 z, .int .i64 s, .int .i64 g, .bool o] := rfl
 have s5 : ∀ x y z u w : Value, gLoad 5 true [.pointer (some ⟨3, 0, some 0⟩)] [x, y, z, u, w] = some (.agg #[x, y, z, u, w]) := fun _ _ _ _ _ => rfl
 simp only [s_ct, w_ct, g5, s5, locP, b, xCs, xOs, ruS, Nat.reduceAdd, reduceIte, Int.reduceLT, Int.reduceLE, Int.reduceEq, Int.reduceNeg, Int.reduceAdd, Int.reduceSub]
 exact hBox_i (cs := (Mo.new ad k z s g o).l) rfl hk
theorem c_MoveOut {p : Nat} {a : Mo} (hp : σ.get p = some ⟨a.l, true⟩) (hk : K (.int .i64 a.out) σ) : s_ck [.pointer (some ⟨p, 0, none⟩)] K σ := by
 simp only [s_ck, w_ck, ruS, ruL, ruE, Nat.reduceAdd, reduceIte, Int.reduceLT, Int.reduceLE, Int.reduceEq, Int.reduceNeg, Int.reduceAdd, Int.reduceSub, Nat.reduceLeDiff, Nat.reduceLT]
 rw [ldG hp (show sub a.l 15 1 false = some (.int .i64 a.out) from rfl)]
 exact hk
theorem c_Mslot (hC : C.ok) {p : Nat} {a : Mo} (hd : p ∉ N.l) (h2 : 0 ≤ a.hs ∧ a.hs < C.S) : s_cs [.pointer (some ⟨p, 0, none⟩), N.env C who] K (putA N A (σ.set p ⟨a.l, true⟩)) = K (.int .i64 (C.slot a.hs)) (putA N A (σ.set p ⟨a.l, true⟩)) := by
 have hS := hC.S
 simp only [s_cs, w_cs, ruS, ruL, ruE, Nat.reduceAdd, reduceIte, Int.reduceLT, Int.reduceLE, Int.reduceEq, Int.reduceNeg, Int.reduceAdd, Int.reduceSub, Nat.reduceLeDiff, Nat.reduceLT]
 rw [ldMo hd (show sub _ 3 1 false = some (.int .i64 a.hs) from rfl), c_Slot hC h2.1 (by omega)]
theorem c_Mas {p : Nat} {a : Mo} {st ad more : Int} (hd : p ∉ N.l) (h3 : 0 ≤ a.w ∧ a.w < 18446744073709551616) (hm : 0 ≤ more ∧ more ≤ 1) : s_cm [.pointer (some ⟨p, 0, none⟩), .int .i64 st, .int .i64 ad, .int .i64 more] K (putA N A (σ.set p ⟨a.l, true⟩)) =
  K (.int .u64 (a.as st ad more)) (putA N A (σ.set p ⟨a.l, true⟩)) := by
 have g4 : ∀ {k : Nat} {x y z w : Int}, gStore 4 [.pointer (some ⟨k, 0, some 0⟩), .agg #[.int .i64 x, .int .i64 y, .int .i64 z, .int .i64 w]] [.int .i64 0, .int .i64 0, .int .i64 0, .int .i64 0] = some [.int .i64 x, .int .i64 y, .int .i64 z, .int .i64 w] := fun {_ _ _ _ _} => rfl
 have b4 : ∀ (x y z w : Int) (K : Value → Prop), xF (fBuild [(0, 1), (1, 1), (2, 1), (3, 1)] [.int .i64 0, .int .i64 0, .int .i64 0, .int .i64 0] [0, 1, 2, 3]) [.int .i64 x, .int .i64 y, .int .i64 z, .int .i64 w] K = K (.agg #[.int .i64 x, .int .i64 y, .int .i64 z, .int .i64 w]) := fun _ _ _ _ K => nr rfl
 have hV := slV_bd a.w
 simp only [s_cm, w_cm, ruS, ruL, ruE, Nat.reduceAdd, reduceIte, Int.reduceLT, Int.reduceLE, Int.reduceEq, Int.reduceNeg, Int.reduceAdd, Int.reduceSub, Nat.reduceLeDiff, Nat.reduceLT]
 rw [ldMo hd (show sub _ 7 1 false = some (.int .u64 a.w) from rfl), c_wSlot h3.1 h3.2]
 simp only [g4, ruS, ruL, ruE, Nat.reduceAdd, reduceIte, Int.reduceLT, Int.reduceLE, Int.reduceEq, Int.reduceNeg, Int.reduceAdd, Int.reduceSub, Nat.reduceLeDiff, Nat.reduceLT]
 rw [IntWalk.i64_in (slV a.w + more) (by omega), b4, c_PutSlot]
 rfl
theorem c_Mcopied {p : Nat} {a : Mo} {k : Int} (hd : p ∉ N.l) : s_co [.pointer (some ⟨p, 0, none⟩), .int .i64 k] K (putA N A (σ.set p ⟨a.l, true⟩)) = K (.int .u64 (a.hd k)) (putA N A (σ.set p ⟨a.l, true⟩)) := by
 have g5 : ∀ {k : Nat} {x y z w : Int} {u : Bool}, gStore 5 [.pointer (some ⟨k, 0, some 0⟩), .agg #[.int .i64 x, .int .i64 y, .int .i64 z, .int .i64 w, .bool u]] [.int .i64 0, .int .i64 0, .int .i64 0, .int .i64 0, .bool false] = some [.int .i64 x, .int .i64 y, .int .i64 z, .int .i64 w, .bool u] := fun {_ _ _ _ _ _} => rfl
 have p0 : ∀ {k : Nat} {x a b c d : Int} {e : Bool}, gStore 1 [.pointer (some ⟨k, 0, some 0⟩), .int .i64 x] [.int .i64 a, .int .i64 b, .int .i64 c, .int .i64 d, .bool e] = some [.int .i64 x, .int .i64 b, .int .i64 c, .int .i64 d, .bool e] := fun {_ _ _ _ _ _ _} => rfl
 have s5 : ∀ x y z u w : Value, sub [x, y, z, u, w] 0 5 true = some (.agg #[x, y, z, u, w]) := fun _ _ _ _ _ => rfl
 simp only [s_co, w_co, ruS, ruL, ruE, Nat.reduceAdd, reduceIte, Int.reduceLT, Int.reduceLE, Int.reduceEq, Int.reduceNeg, Int.reduceAdd, Int.reduceSub, Nat.reduceLeDiff, Nat.reduceLT]
 rw [ldMo hd (show sub a.l 1 5 true = some (.agg #[.int .i64 a.hk, .int .i64 a.hz, .int .i64 a.hs, .int .i64 a.hg, .bool a.ho]) from rfl)]
 simp only [g5, p0, s5, ruS, ruL, ruE, Nat.reduceAdd, reduceIte, Int.reduceLT, Int.reduceLE, Int.reduceEq, Int.reduceNeg, Int.reduceAdd, Int.reduceSub, Nat.reduceLeDiff, Nat.reduceLT]
 rw [c_PutHead]
 rfl
theorem c_Mend {p : Nat} {a : Mo} {e : Int} (hd : p ∉ N.l) : s_cp [.pointer (some ⟨p, 0, none⟩), .int .i64 e] K (putA N A (σ.set p ⟨a.l, true⟩)) = K (.bool (!a.got)) (putA N A (σ.set p ⟨(a.endm e).l, true⟩)) := by
 obtain ⟨addr, hk, hz, hs, hg, ho, pc, w, p', sa, sc, got, i, cell, nn, out⟩ := a
 cases got with
 | true =>
  simp only [s_cp, w_cp, w_cp_j1, w_cp_j1b, ruS, ruL, ruE, Nat.reduceAdd, reduceIte, Int.reduceLT, Int.reduceLE, Int.reduceEq, Int.reduceNeg, Int.reduceAdd, Int.reduceSub, Nat.reduceLeDiff, Nat.reduceLT]
  rw [stMo ⟨addr, hk, hz, hs, hg, ho, pc, w, p', sa, sc, true, i, cell, nn, e⟩ hd rfl rfl (by decide) rfl, ldMo hd (show sub _ 11 1 false = some (.bool true) from rfl)]
  simp only [ruS, ruL, ruE, Nat.reduceAdd, reduceIte, Int.reduceLT, Int.reduceLE, Int.reduceEq, Int.reduceNeg, Int.reduceAdd, Int.reduceSub, Nat.reduceLeDiff, Nat.reduceLT]
  rw [stMo ⟨addr, hk, hz, hs, hg, ho, 11, w, p', sa, sc, true, i, cell, nn, e⟩ hd rfl rfl (by decide) rfl, ldMo hd (show sub _ 11 1 false = some (.bool true) from rfl)]
  simp only [ruS, ruL, ruE, Nat.reduceAdd, reduceIte, Int.reduceLT, Int.reduceLE, Int.reduceEq, Int.reduceNeg, Int.reduceAdd, Int.reduceSub, Nat.reduceLeDiff, Nat.reduceLT]
  rfl
 | false =>
  simp only [s_cp, w_cp, w_cp_j1, w_cp_j1b, ruS, ruL, ruE, Nat.reduceAdd, reduceIte, Int.reduceLT, Int.reduceLE, Int.reduceEq, Int.reduceNeg, Int.reduceAdd, Int.reduceSub, Nat.reduceLeDiff, Nat.reduceLT]
  rw [stMo ⟨addr, hk, hz, hs, hg, ho, pc, w, p', sa, sc, false, i, cell, nn, e⟩ hd rfl rfl (by decide) rfl, ldMo hd (show sub _ 11 1 false = some (.bool false) from rfl)]
  simp only [ruS, ruL, ruE, Nat.reduceAdd, reduceIte, Int.reduceLT, Int.reduceLE, Int.reduceEq, Int.reduceNeg, Int.reduceAdd, Int.reduceSub, Nat.reduceLeDiff, Nat.reduceLT]
  rw [ldMo hd (show sub _ 11 1 false = some (.bool false) from rfl)]
  simp only [ruS, ruL, ruE, Nat.reduceAdd, reduceIte, Int.reduceLT, Int.reduceLE, Int.reduceEq, Int.reduceNeg, Int.reduceAdd, Int.reduceSub, Nat.reduceLeDiff, Nat.reduceLT]
  rfl
structure Mv where
 a : Mo
 t : Pl
def Mv.new (addr k z s g : Int) (o : Bool) : Mv := ⟨Mo.new addr k z s g o, Pl.new 0⟩
def Mv.step (C : Cf) (who : Int) (A : Ar) (m : Mv) : Bool × Mv × Ar :=
 if m.a.pc = 0 then
  if slS (A.w (C.slot m.a.hs)) = 4 ∧ slG (A.w (C.slot m.a.hs)) = m.a.hg ∧ slA (A.w (C.slot m.a.hs)) = m.a.addr then (!m.a.got, { m with a := ({ m.a with w := A.w (C.slot m.a.hs) } : Mo).endm 3 }, (A.by who).load (C.slot m.a.hs))
  else if slS (A.w (C.slot m.a.hs)) ≠ 1 ∨ slG (A.w (C.slot m.a.hs)) ≠ m.a.hg ∨ slA (A.w (C.slot m.a.hs)) ≠ m.a.addr then (!m.a.got, { m with a := ({ m.a with w := A.w (C.slot m.a.hs) } : Mo).endm 2 }, (A.by who).load (C.slot m.a.hs))
  else if 4194302 ≤ slV (A.w (C.slot m.a.hs)) then (!m.a.got, { m with a := ({ m.a with w := A.w (C.slot m.a.hs) } : Mo).endm 3 }, (A.by who).load (C.slot m.a.hs))
  else if m.a.got = true then (false, { m with a := { m.a with w := A.w (C.slot m.a.hs), pc := 3 } }, (A.by who).load (C.slot m.a.hs))
  else (false, ⟨{ m.a with w := A.w (C.slot m.a.hs), pc := 1 }, Pl.new (classOf m.a.hz)⟩, (A.by who).load (C.slot m.a.hs))
 else if m.a.pc = 1 then
  if (m.t.step C who A).1 = false then (false, { m with t := (m.t.step C who A).2.1 }, (m.t.step C who A).2.2)
  else if (m.t.step C who A).2.1.ok = true then (false, ⟨{ m.a with sa := (m.t.step C who A).2.1.sa, sc := (m.t.step C who A).2.1.sc, got := true, pc := 2 }, (m.t.step C who A).2.1⟩, (m.t.step C who A).2.2)
  else (true, ⟨({ m.a with sa := 0, sc := 0, got := false, pc := 2 } : Mo).endm 4, (m.t.step C who A).2.1⟩, (m.t.step C who A).2.2)
 else if m.a.pc = 2 then (false, { m with a := { m.a with pc := 3 } }, (A.by who).store m.a.sa (m.a.hd 1))
 else if m.a.pc = 3 then (false, { m with a := { m.a with i := 0, pc := if A.w (C.slot m.a.hs) = m.a.w then 4 else 0 } }, (A.by who).cas (C.slot m.a.hs) m.a.w (m.a.as 2 m.a.addr 0))
 else if m.a.pc = 4 then (false, { m with a := { m.a with cell := A.w (m.a.addr + 1 + m.a.i), pc := if ceF (A.w (m.a.addr + 1 + m.a.i)) = true ∧ ceN (A.w (m.a.addr + 1 + m.a.i)) = slV m.a.w then 6 else 5 } }, (A.by who).load (m.a.addr + 1 + m.a.i))
 else if m.a.pc = 5 then (false, { m with a := { m.a with pc := if A.w (m.a.addr + 1 + m.a.i) = m.a.cell then 6 else 4 } }, (A.by who).cas (m.a.addr + 1 + m.a.i) m.a.cell (putCell (ceV m.a.cell) true (slV m.a.w)))
 else if m.a.pc = 6 then (false, { m with a := { m.a with i := m.a.i + 1, pc := if m.a.hz ≤ m.a.i + 1 then 7 else 4 } }, (A.by who).store (m.a.sa + 1 + m.a.i) (putCell (ceV m.a.cell) false 0))
 else if m.a.pc = 7 then
  if A.w (C.slot m.a.hs) = m.a.as 2 m.a.addr 0 then (false, { m with a := { m.a with pc := 8 } }, (A.by who).cas (C.slot m.a.hs) (m.a.as 2 m.a.addr 0) (m.a.as 1 m.a.sa 1))
  else if C.R ≤ m.a.nn + 1 then (!m.a.got, { m with a := ({ m.a with pc := 0, nn := m.a.nn + 1 } : Mo).endm 3 }, (A.by who).cas (C.slot m.a.hs) (m.a.as 2 m.a.addr 0) (m.a.as 1 m.a.sa 1))
  else (false, { m with a := { m.a with pc := 0, nn := m.a.nn + 1 } }, (A.by who).cas (C.slot m.a.hs) (m.a.as 2 m.a.addr 0) (m.a.as 1 m.a.sa 1))
 else if m.a.pc = 8 then (false, { m with a := { m.a with pc := 9 } }, (A.by who).store m.a.sa (m.a.hd 2))
 else if m.a.pc = 9 then (false, { m with a := { m.a with pc := 10 } }, (A.by who).add (C.chunk m.a.sc + 1) (IntKind.u64.wrap (roomOf (classOf m.a.hz))))
 else if m.a.pc = 10 then (true, { m with a := { m.a with out := 1 } }, (A.by who).add (C.chunk (ofC C m.a.addr) + 1) (IntKind.u64.wrap (-roomOf (classOf m.a.hz))))
 else (true, m, (A.by who).store m.a.sa (m.a.hd 3))
structure Mv.fit (C : Cf) (A : Ar) (m : Mv) : Prop where
 pc : 0 ≤ m.a.pc ∧ m.a.pc ≤ 11
 hs : 0 ≤ m.a.hs ∧ m.a.hs < C.S
 w : 0 ≤ m.a.w ∧ m.a.w < 18446744073709551616
 cell : 0 ≤ m.a.cell ∧ m.a.cell < 18446744073709551616
 cl : 0 ≤ classOf m.a.hz
 i : 0 ≤ m.a.i ∧ m.a.i ≤ 65536
 nn : 0 ≤ m.a.nn ∧ m.a.nn ≤ 65536
 n2 : (A.n : Int) ≤ 200000000
 pl : m.a.pc = 1 → m.t.fit C ∧ A.w (2 + m.t.cls) ≤ C.C
 sa : m.a.pc = 2 ∨ m.a.pc = 8 ∨ m.a.pc = 11 → 0 ≤ m.a.sa ∧ m.a.sa < A.n
 at' : m.a.pc = 4 ∨ m.a.pc = 5 → 0 ≤ m.a.addr ∧ m.a.addr + 1 + m.a.i < A.n
 c6 : m.a.pc = 6 → 0 ≤ m.a.sa ∧ m.a.sa + 1 + m.a.i < A.n
 c9 : m.a.pc = 9 → 0 ≤ m.a.sc ∧ m.a.sc < C.C
 c10 : m.a.pc = 10 → m.a.addr < 9223372036854775808 ∧ 0 ≤ ofC C m.a.addr ∧ ofC C m.a.addr < C.C
end Go.Fl
namespace Go.Fl
open Go
set_option linter.unusedVariables false
set_option linter.unusedSimpArgs false
variable {N : Nm} {A B : Ar} {σ : Mem} {K : Value → Mem → Prop} {C : Cf} {who : Int}
section
variable {p : Nat} {a : Mo}
theorem lM0 (hd : p ∉ N.l) : hLoad 1 false [.pointer (some ⟨p, 0, none⟩)] K (putA N A (σ.set p ⟨a.l, true⟩)) = K (.int .i64 a.addr) (putA N A (σ.set p ⟨a.l, true⟩)) := ldMo hd rfl
theorem lM2 (hd : p ∉ N.l) : hLoad 1 false [.pointer (some ⟨p, 2, none⟩)] K (putA N A (σ.set p ⟨a.l, true⟩)) = K (.int .i64 a.hz) (putA N A (σ.set p ⟨a.l, true⟩)) := ldMo hd rfl
theorem lM4 (hd : p ∉ N.l) : hLoad 1 false [.pointer (some ⟨p, 4, none⟩)] K (putA N A (σ.set p ⟨a.l, true⟩)) = K (.int .i64 a.hg) (putA N A (σ.set p ⟨a.l, true⟩)) := ldMo hd rfl
theorem lM6 (hd : p ∉ N.l) : hLoad 1 false [.pointer (some ⟨p, 6, none⟩)] K (putA N A (σ.set p ⟨a.l, true⟩)) = K (.int .i64 a.pc) (putA N A (σ.set p ⟨a.l, true⟩)) := ldMo hd rfl
theorem lM7 (hd : p ∉ N.l) : hLoad 1 false [.pointer (some ⟨p, 7, none⟩)] K (putA N A (σ.set p ⟨a.l, true⟩)) = K (.int .u64 a.w) (putA N A (σ.set p ⟨a.l, true⟩)) := ldMo hd rfl
theorem lM8 (hd : p ∉ N.l) : hLoad 1 false [.pointer (some ⟨p, 8, none⟩)] K (putA N A (σ.set p ⟨a.l, true⟩)) = K (obP a.p) (putA N A (σ.set p ⟨a.l, true⟩)) := ldMo hd rfl
theorem lM9 (hd : p ∉ N.l) : hLoad 1 false [.pointer (some ⟨p, 9, none⟩)] K (putA N A (σ.set p ⟨a.l, true⟩)) = K (.int .i64 a.sa) (putA N A (σ.set p ⟨a.l, true⟩)) := ldMo hd rfl
theorem lM10 (hd : p ∉ N.l) : hLoad 1 false [.pointer (some ⟨p, 10, none⟩)] K (putA N A (σ.set p ⟨a.l, true⟩)) = K (.int .i64 a.sc) (putA N A (σ.set p ⟨a.l, true⟩)) := ldMo hd rfl
theorem lM11 (hd : p ∉ N.l) : hLoad 1 false [.pointer (some ⟨p, 11, none⟩)] K (putA N A (σ.set p ⟨a.l, true⟩)) = K (.bool a.got) (putA N A (σ.set p ⟨a.l, true⟩)) := ldMo hd rfl
theorem lM12 (hd : p ∉ N.l) : hLoad 1 false [.pointer (some ⟨p, 12, none⟩)] K (putA N A (σ.set p ⟨a.l, true⟩)) = K (.int .i64 a.i) (putA N A (σ.set p ⟨a.l, true⟩)) := ldMo hd rfl
theorem lM13 (hd : p ∉ N.l) : hLoad 1 false [.pointer (some ⟨p, 13, none⟩)] K (putA N A (σ.set p ⟨a.l, true⟩)) = K (.int .u64 a.cell) (putA N A (σ.set p ⟨a.l, true⟩)) := ldMo hd rfl
theorem lM14 (hd : p ∉ N.l) : hLoad 1 false [.pointer (some ⟨p, 14, none⟩)] K (putA N A (σ.set p ⟨a.l, true⟩)) = K (.int .i64 a.nn) (putA N A (σ.set p ⟨a.l, true⟩)) := ldMo hd rfl
theorem sM6 (hd : p ∉ N.l) {v : Int} : hStore 1 [.pointer (some ⟨p, 6, none⟩), .int .i64 v] K (putA N A (σ.set p ⟨a.l, true⟩)) = K undef (putA N A (σ.set p ⟨({ a with pc := v } : Mo).l, true⟩)) := stMo _ hd rfl rfl (by decide) rfl
theorem sM7 (hd : p ∉ N.l) {v : Int} : hStore 1 [.pointer (some ⟨p, 7, none⟩), .int .u64 v] K (putA N A (σ.set p ⟨a.l, true⟩)) = K undef (putA N A (σ.set p ⟨({ a with w := v } : Mo).l, true⟩)) := stMo _ hd rfl rfl (by decide) rfl
theorem sM8 (hd : p ∉ N.l) {v : Nat} : hStore 1 [.pointer (some ⟨p, 8, none⟩), .pointer (some ⟨v, 0, none⟩)] K (putA N A (σ.set p ⟨a.l, true⟩)) = K undef (putA N A (σ.set p ⟨({ a with p := some v } : Mo).l, true⟩)) := stMo _ hd rfl rfl (by decide) rfl
theorem sM9 (hd : p ∉ N.l) {x y : Int} : hStore 2 [.pointer (some ⟨p, 9, none⟩), .agg #[.int .i64 x, .int .i64 y]] K (putA N A (σ.set p ⟨a.l, true⟩)) = K undef (putA N A (σ.set p ⟨({ a with sa := x, sc := y } : Mo).l, true⟩)) := stMoa (c := [.int .i64 x, .int .i64 y]) _ hd rfl rfl (by decide) rfl
theorem sM11 (hd : p ∉ N.l) {v : Bool} : hStore 1 [.pointer (some ⟨p, 11, none⟩), .bool v] K (putA N A (σ.set p ⟨a.l, true⟩)) = K undef (putA N A (σ.set p ⟨({ a with got := v } : Mo).l, true⟩)) := stMo _ hd rfl rfl (by decide) rfl
theorem sM12 (hd : p ∉ N.l) {v : Int} : hStore 1 [.pointer (some ⟨p, 12, none⟩), .int .i64 v] K (putA N A (σ.set p ⟨a.l, true⟩)) = K undef (putA N A (σ.set p ⟨({ a with i := v } : Mo).l, true⟩)) := stMo _ hd rfl rfl (by decide) rfl
theorem sM13 (hd : p ∉ N.l) {v : Int} : hStore 1 [.pointer (some ⟨p, 13, none⟩), .int .u64 v] K (putA N A (σ.set p ⟨a.l, true⟩)) = K undef (putA N A (σ.set p ⟨({ a with cell := v } : Mo).l, true⟩)) := stMo _ hd rfl rfl (by decide) rfl
theorem sM14 (hd : p ∉ N.l) {v : Int} : hStore 1 [.pointer (some ⟨p, 14, none⟩), .int .i64 v] K (putA N A (σ.set p ⟨a.l, true⟩)) = K undef (putA N A (σ.set p ⟨({ a with nn := v } : Mo).l, true⟩)) := stMo _ hd rfl rfl (by decide) rfl
theorem sM15 (hd : p ∉ N.l) {v : Int} : hStore 1 [.pointer (some ⟨p, 15, none⟩), .int .i64 v] K (putA N A (σ.set p ⟨a.l, true⟩)) = K undef (putA N A (σ.set p ⟨({ a with out := v } : Mo).l, true⟩)) := stMo _ hd rfl rfl (by decide) rfl
end
theorem c_Mv2 (hN : N.ok) (hA : isA N A σ) {p : Nat} {a : Mo} (hp : σ.get p = some ⟨a.l, true⟩) (hd : p ∉ N.l) (h : a.pc = 2) (h1 : 0 ≤ a.sa ∧ a.sa < A.n)
  (hk : ∀ τ, isA N ((A.by who).store a.sa (a.hd 1)) τ → τ.get p = some ⟨({ a with pc := 3 } : Mo).l, true⟩ → Keep (p :: N.l) σ τ → K (.bool false) τ) : s_cl [.pointer (some ⟨p, 0, none⟩), N.env C who] K σ := by
 rw [hA.obj hp]
 simp only [s_cl, w_cl, lM6 hd, h, lM9 hd, c_Mcopied hd, c_Store hN h1.1 h1.2, sM6 hd, w_cl_j1, w_cl_j1b, ruS, ruL, ruE, Nat.reduceAdd, reduceIte, Int.reduceLT, Int.reduceLE, Int.reduceEq, Int.reduceNeg, Int.reduceAdd, Int.reduceSub, Nat.reduceLeDiff, Nat.reduceLT]
 exact behind hN hd hk
theorem c_Mv3 (hN : N.ok) (hC : C.ok) (hA : isA N A σ) {p : Nat} {a : Mo} (hp : σ.get p = some ⟨a.l, true⟩) (hd : p ∉ N.l) (h : a.pc = 3) (hn : C.len ≤ A.n) (h2 : 0 ≤ a.hs ∧ a.hs < C.S) (h3 : 0 ≤ a.w ∧ a.w < 18446744073709551616)
  (hk : ∀ τ, isA N ((A.by who).cas (C.slot a.hs) a.w (a.as 2 a.addr 0)) τ → τ.get p = some ⟨({ a with i := 0, pc := if A.w (C.slot a.hs) = a.w then 4 else 0 } : Mo).l, true⟩ → Keep (p :: N.l) σ τ → K (.bool false) τ) : s_cl [.pointer (some ⟨p, 0, none⟩), N.env C who] K σ := by
 have hT := hC.T; have hS := hC.S; have hC3 := hC.C; have hl := len_bd hC
 have hch : C.chunk C.C = 6 + C.T + 2 * C.S + 3 * C.C := rfl
 have hsb : 0 ≤ C.slot a.hs ∧ C.slot a.hs < A.n := by unfold Cf.slot; omega
 rw [hA.obj hp]
 simp only [s_cl, w_cl, lM6 hd, h, sM12 hd, sM6 hd, ruS, ruL, ruE, Nat.reduceAdd, reduceIte, Int.reduceLT, Int.reduceLE, Int.reduceEq, Int.reduceNeg, Int.reduceAdd, Int.reduceSub, Nat.reduceLeDiff, Nat.reduceLT]
 rw [c_Mslot (a := { a with i := 0, pc := 0 }) hC hd h2]
 simp only [lM7 hd, lM0 hd, ruS, ruL, ruE, Nat.reduceAdd, reduceIte, Int.reduceLT, Int.reduceLE, Int.reduceEq, Int.reduceNeg, Int.reduceAdd, Int.reduceSub, Nat.reduceLeDiff, Nat.reduceLT]
 rw [c_Mas (a := { a with i := 0, pc := 0 }) hd h3 (by decide), c_Cas hN hsb.1 hsb.2]
 have e : ({ a with i := 0, pc := 0 } : Mo).as 2 a.addr 0 = a.as 2 a.addr 0 := rfl
 rw [e]
 by_cases c : A.w (C.slot a.hs) = a.w
 ·rw [if_pos c] at hk
  simp only [c, sM6 hd, w_cl_j1, w_cl_j1b, ruS, ruL, ruE, Nat.reduceAdd, reduceIte, Int.reduceLT, Int.reduceLE, Int.reduceEq, Int.reduceNeg, Int.reduceAdd, Int.reduceSub, Nat.reduceLeDiff, Nat.reduceLT]
  exact behind hN hd hk
 ·rw [if_neg c] at hk
  simp only [c, w_cl_j1, w_cl_j1b, ruS, ruL, ruE, Nat.reduceAdd, reduceIte, Int.reduceLT, Int.reduceLE, Int.reduceEq, Int.reduceNeg, Int.reduceAdd, Int.reduceSub, Nat.reduceLeDiff, Nat.reduceLT]
  exact behind hN hd hk
theorem c_Mv4 (hN : N.ok) (hA : isA N A σ) {p : Nat} {a : Mo} (hp : σ.get p = some ⟨a.l, true⟩) (hd : p ∉ N.l) (h : a.pc = 4) (hw : ∀ i, 0 ≤ A.w i ∧ A.w i < 18446744073709551616) (h2 : (A.n : Int) ≤ 200000000) (h3 : 0 ≤ a.w ∧ a.w < 18446744073709551616)
  (hi : 0 ≤ a.i) (h1 : 0 ≤ a.addr ∧ a.addr + 1 + a.i < A.n)
  (hk : ∀ τ, isA N ((A.by who).load (a.addr + 1 + a.i)) τ → τ.get p = some ⟨({ a with cell := A.w (a.addr + 1 + a.i), pc := if ceF (A.w (a.addr + 1 + a.i)) = true ∧ ceN (A.w (a.addr + 1 + a.i)) = slV a.w then 6 else 5 } : Mo).l, true⟩ → Keep (p :: N.l) σ τ → K (.bool false) τ) : s_cl [.pointer (some ⟨p, 0, none⟩), N.env C who] K σ := by
 have g3 : ∀ {k : Nat} {x y : Int} {b : Bool}, gStore 3 [.pointer (some ⟨k, 0, some 0⟩), .agg #[.int .i64 x, .bool b, .int .i64 y]] [.int .i64 0, .bool false, .int .i64 0] = some [.int .i64 x, .bool b, .int .i64 y] := fun {_ _ _ _} => rfl
 have f3 : ∀ (x y z w : Value) (K : Value → Prop), xF (fFldV 3 1 false) [.agg #[x, y, z, w]] K = K w := fun _ _ _ _ K => nr rfl
 have hwa := hw (a.addr + 1 + a.i)
 rw [hA.obj hp]
 simp only [s_cl, w_cl, lM6 hd, h, lM0 hd, lM12 hd, ruS, ruL, ruE, Nat.reduceAdd, reduceIte, Int.reduceLT, Int.reduceLE, Int.reduceEq, Int.reduceNeg, Int.reduceAdd, Int.reduceSub, Nat.reduceLeDiff, Nat.reduceLT]
 rw [IntWalk.i64_in (a.addr + 1) (by omega), IntWalk.i64_in (a.addr + 1 + a.i) (by omega), c_Load hN (by omega) h1.2]
 simp only [sM13 hd, sM6 hd, lM13 hd, ruS, ruL, ruE, Nat.reduceAdd, reduceIte, Int.reduceLT, Int.reduceLE, Int.reduceEq, Int.reduceNeg, Int.reduceAdd, Int.reduceSub, Nat.reduceLeDiff, Nat.reduceLT]
 rw [c_wCell hwa.1 hwa.2]
 simp only [g3, ruS, ruL, ruE, Nat.reduceAdd, reduceIte, Int.reduceLT, Int.reduceLE, Int.reduceEq, Int.reduceNeg, Int.reduceAdd, Int.reduceSub, Nat.reduceLeDiff, Nat.reduceLT]
 by_cases c1 : ceF (A.w (a.addr + 1 + a.i)) = true
 ·simp only [c1, lM7 hd, ruS, ruL, ruE, Nat.reduceAdd, reduceIte, Int.reduceLT, Int.reduceLE, Int.reduceEq, Int.reduceNeg, Int.reduceAdd, Int.reduceSub, Nat.reduceLeDiff, Nat.reduceLT]
  rw [c_wSlot h3.1 h3.2]
  by_cases c2 : ceN (A.w (a.addr + 1 + a.i)) = slV a.w
  ·rw [if_pos ⟨c1, c2⟩] at hk
   simp only [f3, c2, w_cl_j2, w_cl_j2b, sM6 hd, w_cl_j1, w_cl_j1b, ruS, ruL, ruE, Nat.reduceAdd, reduceIte, Int.reduceLT, Int.reduceLE, Int.reduceEq, Int.reduceNeg, Int.reduceAdd, Int.reduceSub, Nat.reduceLeDiff, Nat.reduceLT]
   exact behind hN hd hk
  ·rw [if_neg (fun q => c2 q.2)] at hk
   simp only [f3, c2, w_cl_j2, w_cl_j2b, sM6 hd, w_cl_j1, w_cl_j1b, ruS, ruL, ruE, Nat.reduceAdd, reduceIte, Int.reduceLT, Int.reduceLE, Int.reduceEq, Int.reduceNeg, Int.reduceAdd, Int.reduceSub, Nat.reduceLeDiff, Nat.reduceLT]
   exact behind hN hd hk
 ·rw [if_neg (fun q => c1 q.1)] at hk
  have c1' : ceF (A.w (a.addr + 1 + a.i)) = false := by simpa using c1
  simp only [c1', w_cl_j2, w_cl_j2b, sM6 hd, w_cl_j1, w_cl_j1b, ruS, ruL, ruE, Nat.reduceAdd, reduceIte, Int.reduceLT, Int.reduceLE, Int.reduceEq, Int.reduceNeg, Int.reduceAdd, Int.reduceSub, Nat.reduceLeDiff, Nat.reduceLT]
  exact behind hN hd hk
theorem c_Mv5 (hN : N.ok) (hA : isA N A σ) {p : Nat} {a : Mo} (hp : σ.get p = some ⟨a.l, true⟩) (hd : p ∉ N.l) (h : a.pc = 5) (h2 : (A.n : Int) ≤ 200000000) (h3 : 0 ≤ a.w ∧ a.w < 18446744073709551616) (h4 : 0 ≤ a.cell ∧ a.cell < 18446744073709551616)
  (hi : 0 ≤ a.i) (h1 : 0 ≤ a.addr ∧ a.addr + 1 + a.i < A.n)
  (hk : ∀ τ, isA N ((A.by who).cas (a.addr + 1 + a.i) a.cell (putCell (ceV a.cell) true (slV a.w))) τ → τ.get p = some ⟨({ a with pc := if A.w (a.addr + 1 + a.i) = a.cell then 6 else 4 } : Mo).l, true⟩ → Keep (p :: N.l) σ τ → K (.bool false) τ) : s_cl [.pointer (some ⟨p, 0, none⟩), N.env C who] K σ := by
 have g3 : ∀ {k : Nat} {x y : Int} {b : Bool}, gStore 3 [.pointer (some ⟨k, 0, some 0⟩), .agg #[.int .i64 x, .bool b, .int .i64 y]] [.int .i64 0, .bool false, .int .i64 0] = some [.int .i64 x, .bool b, .int .i64 y] := fun {_ _ _ _} => rfl
 have f3 : ∀ (x y z w : Value) (K : Value → Prop), xF (fFldV 3 1 false) [.agg #[x, y, z, w]] K = K w := fun _ _ _ _ K => nr rfl
 have f0 : ∀ (x y z : Value) (K : Value → Prop), xF (fFldV 0 1 false) [.agg #[x, y, z]] K = K x := fun _ _ _ K => nr rfl
 have s3 : ∀ x y z : Value, sub [x, y, z] 0 3 true = some (.agg #[x, y, z]) := fun _ _ _ => rfl
 have b3 : ∀ (x y : Int) (b : Bool) (K : Value → Prop), xF (fBuild [(0, 1), (1, 1), (2, 1)] [.int .i64 0, .bool false, .int .i64 0] [0, 1, 2]) [.int .i64 x, .bool b, .int .i64 y] K = K (.agg #[.int .i64 x, .bool b, .int .i64 y]) := fun _ _ _ K => nr rfl
 rw [hA.obj hp]
 simp only [s_cl, w_cl, lM6 hd, h, sM6 hd, lM13 hd, ruS, ruL, ruE, Nat.reduceAdd, reduceIte, Int.reduceLT, Int.reduceLE, Int.reduceEq, Int.reduceNeg, Int.reduceAdd, Int.reduceSub, Nat.reduceLeDiff, Nat.reduceLT]
 rw [c_wCell h4.1 h4.2]
 simp only [f0, lM7 hd, ruS, ruL, ruE, Nat.reduceAdd, reduceIte, Int.reduceLT, Int.reduceLE, Int.reduceEq, Int.reduceNeg, Int.reduceAdd, Int.reduceSub, Nat.reduceLeDiff, Nat.reduceLT]
 rw [c_wSlot h3.1 h3.2]
 simp only [f3, b3, g3, lM0 hd, lM12 hd, lM13 hd, s3, c_PutCell, ruS, ruL, ruE, Nat.reduceAdd, reduceIte, Int.reduceLT, Int.reduceLE, Int.reduceEq, Int.reduceNeg, Int.reduceAdd, Int.reduceSub, Nat.reduceLeDiff, Nat.reduceLT]
 rw [IntWalk.i64_in (a.addr + 1) (by omega), IntWalk.i64_in (a.addr + 1 + a.i) (by omega), c_Cas hN (by omega) h1.2]
 by_cases c : A.w (a.addr + 1 + a.i) = a.cell
 ·rw [if_pos c] at hk
  simp only [c, sM6 hd, w_cl_j1, w_cl_j1b, ruS, ruL, ruE, Nat.reduceAdd, reduceIte, Int.reduceLT, Int.reduceLE, Int.reduceEq, Int.reduceNeg, Int.reduceAdd, Int.reduceSub, Nat.reduceLeDiff, Nat.reduceLT]
  exact behind hN hd hk
 ·rw [if_neg c] at hk
  simp only [c, w_cl_j1, w_cl_j1b, ruS, ruL, ruE, Nat.reduceAdd, reduceIte, Int.reduceLT, Int.reduceLE, Int.reduceEq, Int.reduceNeg, Int.reduceAdd, Int.reduceSub, Nat.reduceLeDiff, Nat.reduceLT]
  exact behind hN hd hk
theorem c_Mv6 (hN : N.ok) (hA : isA N A σ) {p : Nat} {a : Mo} (hp : σ.get p = some ⟨a.l, true⟩) (hd : p ∉ N.l) (h : a.pc = 6) (h2 : (A.n : Int) ≤ 200000000) (h4 : 0 ≤ a.cell ∧ a.cell < 18446744073709551616)
  (hi : 0 ≤ a.i ∧ a.i ≤ 65536) (h1 : 0 ≤ a.sa ∧ a.sa + 1 + a.i < A.n)
  (hk : ∀ τ, isA N ((A.by who).store (a.sa + 1 + a.i) (putCell (ceV a.cell) false 0)) τ → τ.get p = some ⟨({ a with i := a.i + 1, pc := if a.hz ≤ a.i + 1 then 7 else 4 } : Mo).l, true⟩ → Keep (p :: N.l) σ τ → K (.bool false) τ) : s_cl [.pointer (some ⟨p, 0, none⟩), N.env C who] K σ := by
 have f0 : ∀ (x y z : Value) (K : Value → Prop), xF (fFldV 0 1 false) [.agg #[x, y, z]] K = K x := fun _ _ _ K => nr rfl
 have b1 : ∀ (x : Int) (K : Value → Prop), xF (fBuild [(0, 1), (1, 1), (2, 1)] [.int .i64 0, .bool false, .int .i64 0] [0]) [.int .i64 x] K = K (.agg #[.int .i64 x, .bool false, .int .i64 0]) := fun _ K => nr rfl
 rw [hA.obj hp]
 simp only [s_cl, w_cl, lM6 hd, h, lM9 hd, lM12 hd, lM13 hd, ruS, ruL, ruE, Nat.reduceAdd, reduceIte, Int.reduceLT, Int.reduceLE, Int.reduceEq, Int.reduceNeg, Int.reduceAdd, Int.reduceSub, Nat.reduceLeDiff, Nat.reduceLT]
 rw [c_wCell h4.1 h4.2]
 simp only [f0, b1, c_PutCell, ruS, ruL, ruE, Nat.reduceAdd, reduceIte, Int.reduceLT, Int.reduceLE, Int.reduceEq, Int.reduceNeg, Int.reduceAdd, Int.reduceSub, Nat.reduceLeDiff, Nat.reduceLT]
 rw [IntWalk.i64_in (a.sa + 1) (by omega), IntWalk.i64_in (a.sa + 1 + a.i) (by omega), c_Store hN (by omega) h1.2]
 simp only [lM12 hd, sM12 hd, sM6 hd, lM2 hd, ruS, ruL, ruE, Nat.reduceAdd, reduceIte, Int.reduceLT, Int.reduceLE, Int.reduceEq, Int.reduceNeg, Int.reduceAdd, Int.reduceSub, Nat.reduceLeDiff, Nat.reduceLT]
 rw [IntWalk.i64_in (a.i + 1) (by omega)]
 by_cases c : a.hz ≤ a.i + 1
 ·rw [if_pos c] at hk
  simp only [c, sM6 hd, w_cl_j1, w_cl_j1b, ruS, ruL, ruE, Nat.reduceAdd, reduceIte, Int.reduceLT, Int.reduceLE, Int.reduceEq, Int.reduceNeg, Int.reduceAdd, Int.reduceSub, Nat.reduceLeDiff, Nat.reduceLT]
  exact behind hN hd hk
 ·rw [if_neg c] at hk
  simp only [c, w_cl_j1, w_cl_j1b, ruS, ruL, ruE, Nat.reduceAdd, reduceIte, Int.reduceLT, Int.reduceLE, Int.reduceEq, Int.reduceNeg, Int.reduceAdd, Int.reduceSub, Nat.reduceLeDiff, Nat.reduceLT]
  exact behind hN hd hk
end Go.Fl
namespace Go.Fl
open Go
set_option linter.unusedVariables false
set_option linter.unusedSimpArgs false
variable {N : Nm} {A B : Ar} {σ : Mem} {K : Value → Mem → Prop} {C : Cf} {who : Int}
theorem c_Mv0 (hN : N.ok) (hC : C.ok) (hA : isA N A σ) {p : Nat} {a : Mo} (hp : σ.get p = some ⟨a.l, true⟩) (hd : p ∉ N.l) (h : a.pc = 0) (hn : C.len ≤ A.n) (hw : ∀ i, 0 ≤ A.w i ∧ A.w i < 18446744073709551616) (h2 : 0 ≤ a.hs ∧ a.hs < C.S) (hcl : 0 ≤ classOf a.hz)
  (k1 : ∀ e, (slS (A.w (C.slot a.hs)) = 4 ∧ slG (A.w (C.slot a.hs)) = a.hg ∧ slA (A.w (C.slot a.hs)) = a.addr) ∧ e = 3 ∨ ¬ (slS (A.w (C.slot a.hs)) = 4 ∧ slG (A.w (C.slot a.hs)) = a.hg ∧ slA (A.w (C.slot a.hs)) = a.addr) ∧ ((slS (A.w (C.slot a.hs)) ≠ 1 ∨ slG (A.w (C.slot a.hs)) ≠ a.hg ∨ slA (A.w (C.slot a.hs)) ≠ a.addr) ∧ e = 2 ∨
    ¬ (slS (A.w (C.slot a.hs)) ≠ 1 ∨ slG (A.w (C.slot a.hs)) ≠ a.hg ∨ slA (A.w (C.slot a.hs)) ≠ a.addr) ∧ 4194302 ≤ slV (A.w (C.slot a.hs)) ∧ e = 3) → ∀ τ, isA N ((A.by who).load (C.slot a.hs)) τ → τ.get p = some ⟨(({ a with w := A.w (C.slot a.hs) } : Mo).endm e).l, true⟩ → Keep (p :: N.l) σ τ → K (.bool (!a.got)) τ)
  (k2 : ¬ (slS (A.w (C.slot a.hs)) ≠ 1 ∨ slG (A.w (C.slot a.hs)) ≠ a.hg ∨ slA (A.w (C.slot a.hs)) ≠ a.addr) → ¬ 4194302 ≤ slV (A.w (C.slot a.hs)) → a.got = true → ∀ τ, isA N ((A.by who).load (C.slot a.hs)) τ → τ.get p = some ⟨({ a with w := A.w (C.slot a.hs), pc := 3 } : Mo).l, true⟩ → Keep (p :: N.l) σ τ → K (.bool false) τ)
  (k3 : ¬ (slS (A.w (C.slot a.hs)) ≠ 1 ∨ slG (A.w (C.slot a.hs)) ≠ a.hg ∨ slA (A.w (C.slot a.hs)) ≠ a.addr) → ¬ 4194302 ≤ slV (A.w (C.slot a.hs)) → a.got = false → ∀ q τ, σ.get q = none → q ≠ p → isA N ((A.by who).load (C.slot a.hs)) τ → τ.get p = some ⟨({ a with w := A.w (C.slot a.hs), pc := 1, p := some q } : Mo).l, true⟩ → τ.get q = some ⟨(Pl.new (classOf a.hz)).l, true⟩ → Keep (p :: N.l) σ τ → K (.bool false) τ) :
  s_cl [.pointer (some ⟨p, 0, none⟩), N.env C who] K σ := by
 have hT := hC.T; have hS := hC.S; have hC3 := hC.C; have hl := len_bd hC
 have hch : C.chunk C.C = 6 + C.T + 2 * C.S + 3 * C.C := rfl
 have hsb : 0 ≤ C.slot a.hs ∧ C.slot a.hs < A.n := by unfold Cf.slot; omega
 have g4 : ∀ {k : Nat} {x y z w : Int}, gStore 4 [.pointer (some ⟨k, 0, some 0⟩), .agg #[.int .i64 x, .int .i64 y, .int .i64 z, .int .i64 w]] [.int .i64 0, .int .i64 0, .int .i64 0, .int .i64 0] = some [.int .i64 x, .int .i64 y, .int .i64 z, .int .i64 w] := fun {_ _ _ _ _} => rfl
 have hW := hw (C.slot a.hs)
 rw [hA.obj hp]
 simp only [s_cl, w_cl, lM6 hd, h, s_cq, w_cq, ruS, ruL, ruE, Nat.reduceAdd, reduceIte, Int.reduceLT, Int.reduceLE, Int.reduceEq, Int.reduceNeg, Int.reduceAdd, Int.reduceSub, Nat.reduceLeDiff, Nat.reduceLT]
 rw [c_Mslot hC hd h2, c_Load hN hsb.1 hsb.2]
 generalize hWe : A.w (C.slot a.hs) = W at *
 simp only [sM7 hd, lM7 hd, ruS, ruL, ruE, Nat.reduceAdd, reduceIte, Int.reduceLT, Int.reduceLE, Int.reduceEq, Int.reduceNeg, Int.reduceAdd, Int.reduceSub, Nat.reduceLeDiff, Nat.reduceLT]
 rw [c_wSlot hW.1 hW.2]
 -- it ends
 have fin : ∀ e (K' : Value → Mem → Prop), (∀ v τ, K' v τ = K v τ) → ((slS W = 4 ∧ slG W = a.hg ∧ slA W = a.addr) ∧ e = 3 ∨ ¬ (slS W = 4 ∧ slG W = a.hg ∧ slA W = a.addr) ∧ ((slS W ≠ 1 ∨ slG W ≠ a.hg ∨ slA W ≠ a.addr) ∧ e = 2 ∨ ¬ (slS W ≠ 1 ∨ slG W ≠ a.hg ∨ slA W ≠ a.addr) ∧ 4194302 ≤ slV W ∧ e = 3)) →
   s_cp [.pointer (some ⟨p, 0, none⟩), .int .i64 e] K' (putA N ((A.by who).load (C.slot a.hs)) (σ.set p ⟨({ a with w := W } : Mo).l, true⟩)) := by
  intro e K' hK hc
  rw [c_Mend (a := { a with w := W }) hd, hK]
  exact behind hN hd (k1 e hc)
 -- the second look
 have j3 : ¬ (slS W = 4 ∧ slG W = a.hg ∧ slA W = a.addr) → ∀ b : Bool, (b = true ↔ (slS W ≠ 1 ∨ slG W ≠ a.hg ∨ slA W ≠ a.addr)) → w_cq_j3 K (w_cq_j1 K) [.pointer (some ⟨p, 0, none⟩), .bool b] [[.int .i64 (slS W), .int .i64 (slA W), .int .i64 (slG W), .int .i64 (slV W)]] (putA N ((A.by who).load (C.slot a.hs)) (σ.set p ⟨({ a with w := W } : Mo).l, true⟩)) := by
  intro n1 b hb
  simp only [w_cq_j3, w_cq_j3b, ruS, ruL, ruE, Nat.reduceAdd, reduceIte, Int.reduceLT, Int.reduceLE, Int.reduceEq, Int.reduceNeg, Int.reduceAdd, Int.reduceSub, Nat.reduceLeDiff, Nat.reduceLT]
  cases b with
  | true =>
   simp only [ruS, ruL, ruE, Nat.reduceAdd, reduceIte, Int.reduceLT, Int.reduceLE, Int.reduceEq, Int.reduceNeg, Int.reduceAdd, Int.reduceSub, Nat.reduceLeDiff, Nat.reduceLT]
   exact fin 2 _ (fun _ _ => rfl) (.inr ⟨n1, .inl ⟨hb.1 rfl, rfl⟩⟩)
  | false =>
   have n2 : ¬ (slS W ≠ 1 ∨ slG W ≠ a.hg ∨ slA W ≠ a.addr) := fun q => by have := hb.2 q; cases this
   by_cases c3 : 4194302 ≤ slV W
   ·simp only [c3, ruS, ruL, ruE, Nat.reduceAdd, reduceIte, Int.reduceLT, Int.reduceLE, Int.reduceEq, Int.reduceNeg, Int.reduceAdd, Int.reduceSub, Nat.reduceLeDiff, Nat.reduceLT]
    exact fin 3 _ (fun _ _ => rfl) (.inr ⟨n1, .inr ⟨n2, c3, rfl⟩⟩)
   ·cases e : a.got with
    | true =>
     simp only [c3, lM11 hd, e, sM6 hd, w_cq_j1, w_cq_j1b, ruS, ruL, ruE, Nat.reduceAdd, reduceIte, Int.reduceLT, Int.reduceLE, Int.reduceEq, Int.reduceNeg, Int.reduceAdd, Int.reduceSub, Nat.reduceLeDiff, Nat.reduceLT]
     have := k2 n2 c3 e
     obtain ⟨addr, hk, hz, hs, hg, ho, pc, w, p', sa, sc, got, i, cell, nn, out⟩ := a
     dsimp only at *
     subst e
     exact behind hN hd this
    | false =>
     have k3' := k3 n2 c3 e
     obtain ⟨addr, hk, hz, hs, hg, ho, pc, w, p', sa, sc, got, i, cell, nn, out⟩ := a
     dsimp only at *
     subst e
     simp only [c3, lM11 hd, lM2 hd, ruS, ruL, ruE, Nat.reduceAdd, reduceIte, Int.reduceLT, Int.reduceLE, Int.reduceEq, Int.reduceNeg, Int.reduceAdd, Int.reduceSub, Nat.reduceLeDiff, Nat.reduceLT]
     refine c_Class ?_
     refine behind (K := fun _ σ => s_cw [.int .i64 (classOf hz)] _ σ) (v := undef) hN hd fun υ u1 u2 u3 => ?_
     refine c_PlaceNew fun id ω hid gid x => ?_
     have hx1 := u1.ext x
     have hx2 := x _ _ u2
     have ip : id ≠ p := by rintro rfl; rw [u2] at hid; cases hid
     have inn := u1.new hid
     have ids : σ.get id = none := by
      cases e : σ.get id with
      | none => rfl
      | some b => rw [u3 id b e (by simp only [List.mem_cons, not_or]; exact ⟨ip, inn⟩)] at hid; cases hid
     rw [hx1.obj hx2]
     simp only [sM8 hd, sM6 hd, w_cq_j1, w_cq_j1b, ruS, ruL, ruE, Nat.reduceAdd, reduceIte, Int.reduceLT, Int.reduceLE, Int.reduceEq, Int.reduceNeg, Int.reduceAdd, Int.reduceSub, Nat.reduceLeDiff, Nat.reduceLT]
     refine behind hN hd fun ρ r1 r2 r3 => k3' id ρ ids ip r1 r2 ?_ ((u3.trans x.keep).trans r3)
     exact r3 id _ gid (by simp only [List.mem_cons, not_or]; exact ⟨ip, inn⟩)
 have j2f : ¬ (slS W = 4 ∧ slG W = a.hg ∧ slA W = a.addr) → w_cq_j2 K (w_cq_j1 K) [.pointer (some ⟨p, 0, none⟩), .bool false] [[.int .i64 (slS W), .int .i64 (slA W), .int .i64 (slG W), .int .i64 (slV W)]] (putA N ((A.by who).load (C.slot a.hs)) (σ.set p ⟨({ a with w := W } : Mo).l, true⟩)) := by
  intro n1
  simp only [w_cq_j2, w_cq_j2b, ruS, ruL, ruE, Nat.reduceAdd, reduceIte, Int.reduceLT, Int.reduceLE, Int.reduceEq, Int.reduceNeg, Int.reduceAdd, Int.reduceSub, Nat.reduceLeDiff, Nat.reduceLT]
  by_cases s1 : slS W = 1
  ·by_cases s2 : slG W = a.hg
   ·by_cases s3 : slA W = a.addr
    ·simp only [s1, s2, s3, lM4 hd, lM0 hd, ne_eq, not_true_eq_false, ruS, ruL, ruE, Nat.reduceAdd, reduceIte, Int.reduceLT, Int.reduceLE, Int.reduceEq, Int.reduceNeg, Int.reduceAdd, Int.reduceSub, Nat.reduceLeDiff, Nat.reduceLT]
     have := j3 n1 false ⟨fun q => (by cases q), fun q => by rcases q with q | q | q <;> exact absurd (by assumption) q⟩
     simpa only [s1, s2, s3] using this
    ·simp only [s1, s2, s3, lM4 hd, lM0 hd, ne_eq, not_true_eq_false, not_false_eq_true, ruS, ruL, ruE, Nat.reduceAdd, reduceIte, Int.reduceLT, Int.reduceLE, Int.reduceEq, Int.reduceNeg, Int.reduceAdd, Int.reduceSub, Nat.reduceLeDiff, Nat.reduceLT]
     have := j3 n1 true ⟨fun _ => .inr (.inr s3), fun _ => rfl⟩
     simpa only [s1, s2, s3] using this
   ·simp only [s1, s2, lM4 hd, ne_eq, not_true_eq_false, not_false_eq_true, ruS, ruL, ruE, Nat.reduceAdd, reduceIte, Int.reduceLT, Int.reduceLE, Int.reduceEq, Int.reduceNeg, Int.reduceAdd, Int.reduceSub, Nat.reduceLeDiff, Nat.reduceLT]
    have := j3 n1 true ⟨fun _ => .inr (.inl s2), fun _ => rfl⟩
    simpa only [s1, s2] using this
  ·simp only [s1, ne_eq, not_false_eq_true, ruS, ruL, ruE, Nat.reduceAdd, reduceIte, Int.reduceLT, Int.reduceLE, Int.reduceEq, Int.reduceNeg, Int.reduceAdd, Int.reduceSub, Nat.reduceLeDiff, Nat.reduceLT]
   exact j3 n1 true ⟨fun _ => .inl s1, fun _ => rfl⟩
 by_cases s1 : slS W = 4
 ·by_cases s2 : slG W = a.hg
  ·by_cases s3 : slA W = a.addr
   ·simp only [g4, s1, s2, s3, lM4 hd, lM0 hd, w_cq_j2, w_cq_j2b, ruS, ruL, ruE, Nat.reduceAdd, reduceIte, Int.reduceLT, Int.reduceLE, Int.reduceEq, Int.reduceNeg, Int.reduceAdd, Int.reduceSub, Nat.reduceLeDiff, Nat.reduceLT]
    exact fin 3 _ (fun _ _ => rfl) (.inl ⟨⟨s1, s2, s3⟩, rfl⟩)
   ·simp only [g4, s1, s2, s3, lM4 hd, lM0 hd, ruS, ruL, ruE, Nat.reduceAdd, reduceIte, Int.reduceLT, Int.reduceLE, Int.reduceEq, Int.reduceNeg, Int.reduceAdd, Int.reduceSub, Nat.reduceLeDiff, Nat.reduceLT]
    have := j2f (fun q => s3 q.2.2)
    simpa only [s1, s2, s3] using this
  ·simp only [g4, s1, s2, lM4 hd, ruS, ruL, ruE, Nat.reduceAdd, reduceIte, Int.reduceLT, Int.reduceLE, Int.reduceEq, Int.reduceNeg, Int.reduceAdd, Int.reduceSub, Nat.reduceLeDiff, Nat.reduceLT]
   have := j2f (fun q => s2 q.2.1)
   simpa only [s1, s2] using this
 ·simp only [g4, s1, ruS, ruL, ruE, Nat.reduceAdd, reduceIte, Int.reduceLT, Int.reduceLE, Int.reduceEq, Int.reduceNeg, Int.reduceAdd, Int.reduceSub, Nat.reduceLeDiff, Nat.reduceLT]
  exact j2f (fun q => s1 q.1)
theorem c_Mv7 (hN : N.ok) (hC : C.ok) (hA : isA N A σ) {p : Nat} {a : Mo} (hp : σ.get p = some ⟨a.l, true⟩) (hd : p ∉ N.l) (h : a.pc = 7) (hn : C.len ≤ A.n) (h2 : 0 ≤ a.hs ∧ a.hs < C.S) (h3 : 0 ≤ a.w ∧ a.w < 18446744073709551616) (hnn : 0 ≤ a.nn ∧ a.nn ≤ 65536)
  (k1 : A.w (C.slot a.hs) = a.as 2 a.addr 0 → ∀ τ, isA N ((A.by who).cas (C.slot a.hs) (a.as 2 a.addr 0) (a.as 1 a.sa 1)) τ → τ.get p = some ⟨({ a with pc := 8 } : Mo).l, true⟩ → Keep (p :: N.l) σ τ → K (.bool false) τ)
  (k2 : A.w (C.slot a.hs) ≠ a.as 2 a.addr 0 → C.R ≤ a.nn + 1 → ∀ τ, isA N ((A.by who).cas (C.slot a.hs) (a.as 2 a.addr 0) (a.as 1 a.sa 1)) τ → τ.get p = some ⟨(({ a with pc := 0, nn := a.nn + 1 } : Mo).endm 3).l, true⟩ → Keep (p :: N.l) σ τ → K (.bool (!a.got)) τ)
  (k3 : A.w (C.slot a.hs) ≠ a.as 2 a.addr 0 → ¬ C.R ≤ a.nn + 1 → ∀ τ, isA N ((A.by who).cas (C.slot a.hs) (a.as 2 a.addr 0) (a.as 1 a.sa 1)) τ → τ.get p = some ⟨({ a with pc := 0, nn := a.nn + 1 } : Mo).l, true⟩ → Keep (p :: N.l) σ τ → K (.bool false) τ) :
  s_cl [.pointer (some ⟨p, 0, none⟩), N.env C who] K σ := by
 have hT := hC.T; have hS := hC.S; have hC3 := hC.C; have hl := len_bd hC
 have hch : C.chunk C.C = 6 + C.T + 2 * C.S + 3 * C.C := rfl
 have hsb : 0 ≤ C.slot a.hs ∧ C.slot a.hs < A.n := by unfold Cf.slot; omega
 rw [hA.obj hp]
 simp only [s_cl, w_cl, lM6 hd, h, s_cr, w_cr, ruS, ruL, ruE, Nat.reduceAdd, reduceIte, Int.reduceLT, Int.reduceLE, Int.reduceEq, Int.reduceNeg, Int.reduceAdd, Int.reduceSub, Nat.reduceLeDiff, Nat.reduceLT]
 rw [c_Mslot hC hd h2]
 simp only [lM0 hd, ruS, ruL, ruE, Nat.reduceAdd, reduceIte, Int.reduceLT, Int.reduceLE, Int.reduceEq, Int.reduceNeg, Int.reduceAdd, Int.reduceSub, Nat.reduceLeDiff, Nat.reduceLT]
 rw [c_Mas hd h3 (by decide)]
 simp only [lM9 hd, ruS, ruL, ruE, Nat.reduceAdd, reduceIte, Int.reduceLT, Int.reduceLE, Int.reduceEq, Int.reduceNeg, Int.reduceAdd, Int.reduceSub, Nat.reduceLeDiff, Nat.reduceLT]
 rw [c_Mas hd h3 (by decide), c_Cas hN hsb.1 hsb.2]
 by_cases c : A.w (C.slot a.hs) = a.as 2 a.addr 0
 ·simp only [c, sM6 hd, ruS, ruL, ruE, Nat.reduceAdd, reduceIte, Int.reduceLT, Int.reduceLE, Int.reduceEq, Int.reduceNeg, Int.reduceAdd, Int.reduceSub, Nat.reduceLeDiff, Nat.reduceLT]
  exact behind hN hd (k1 c)
 ·simp only [c, sM6 hd, lM14 hd, sM14 hd, ruS, ruL, ruE, Nat.reduceAdd, reduceIte, Int.reduceLT, Int.reduceLE, Int.reduceEq, Int.reduceNeg, Int.reduceAdd, Int.reduceSub, Nat.reduceLeDiff, Nat.reduceLT]
  rw [IntWalk.i64_in (a.nn + 1) (by omega)]
  by_cases c2 : C.R ≤ a.nn + 1
  ·simp only [c2, ruS, ruL, ruE, Nat.reduceAdd, reduceIte, Int.reduceLT, Int.reduceLE, Int.reduceEq, Int.reduceNeg, Int.reduceAdd, Int.reduceSub, Nat.reduceLeDiff, Nat.reduceLT]
   rw [c_Mend (a := { a with pc := 0, nn := a.nn + 1 }) hd]
   exact behind hN hd (k2 c c2)
  ·simp only [c2, ruS, ruL, ruE, Nat.reduceAdd, reduceIte, Int.reduceLT, Int.reduceLE, Int.reduceEq, Int.reduceNeg, Int.reduceAdd, Int.reduceSub, Nat.reduceLeDiff, Nat.reduceLT]
   exact behind hN hd (k3 c c2)
theorem c_Mv8 (hN : N.ok) (hC : C.ok) (hA : isA N A σ) {p : Nat} {a : Mo} (hp : σ.get p = some ⟨a.l, true⟩) (hd : p ∉ N.l) (h : a.pc = 8) (h1 : 0 ≤ a.sa ∧ a.sa < A.n) (hcl : 0 ≤ classOf a.hz)
  (hk : ∀ τ, isA N ((A.by who).store a.sa (a.hd 2)) τ → τ.get p = some ⟨({ a with pc := 9 } : Mo).l, true⟩ → Keep (p :: N.l) σ τ → K (.bool false) τ) : s_cl [.pointer (some ⟨p, 0, none⟩), N.env C who] K σ := by
 have hc3 := (class_bd a.hz).2
 rw [hA.obj hp]
 simp only [s_cl, w_cl, lM6 hd, h, s_cn, w_cn, lM2 hd, ruS, ruL, ruE, Nat.reduceAdd, reduceIte, Int.reduceLT, Int.reduceLE, Int.reduceEq, Int.reduceNeg, Int.reduceAdd, Int.reduceSub, Nat.reduceLeDiff, Nat.reduceLT]
 refine c_Class ?_
 rw [c_Room hcl hc3]
 simp only [lM6 hd, h, lM9 hd, c_Mcopied hd, c_Store hN h1.1 h1.2, sM6 hd, w_cn_j1, w_cn_j1b, ruS, ruL, ruE, Nat.reduceAdd, reduceIte, Int.reduceLT, Int.reduceLE, Int.reduceEq, Int.reduceNeg, Int.reduceAdd, Int.reduceSub, Nat.reduceLeDiff, Nat.reduceLT]
 exact behind hN hd hk
theorem c_Mv11 (hN : N.ok) (hC : C.ok) (hA : isA N A σ) {p : Nat} {a : Mo} (hp : σ.get p = some ⟨a.l, true⟩) (hd : p ∉ N.l) (h : a.pc = 11) (h1 : 0 ≤ a.sa ∧ a.sa < A.n) (hcl : 0 ≤ classOf a.hz)
  (hk : ∀ τ, isA N ((A.by who).store a.sa (a.hd 3)) τ → τ.get p = some ⟨a.l, true⟩ → Keep (p :: N.l) σ τ → K (.bool true) τ) : s_cl [.pointer (some ⟨p, 0, none⟩), N.env C who] K σ := by
 have hc3 := (class_bd a.hz).2
 rw [hA.obj hp]
 simp only [s_cl, w_cl, lM6 hd, h, s_cn, w_cn, lM2 hd, ruS, ruL, ruE, Nat.reduceAdd, reduceIte, Int.reduceLT, Int.reduceLE, Int.reduceEq, Int.reduceNeg, Int.reduceAdd, Int.reduceSub, Nat.reduceLeDiff, Nat.reduceLT]
 refine c_Class ?_
 rw [c_Room hcl hc3]
 simp only [lM6 hd, h, lM9 hd, c_Mcopied hd, c_Store hN h1.1 h1.2, ruS, ruL, ruE, Nat.reduceAdd, reduceIte, Int.reduceLT, Int.reduceLE, Int.reduceEq, Int.reduceNeg, Int.reduceAdd, Int.reduceSub, Nat.reduceLeDiff, Nat.reduceLT]
 exact behind hN hd hk
theorem c_Mv9 (hN : N.ok) (hC : C.ok) (hA : isA N A σ) {p : Nat} {a : Mo} (hp : σ.get p = some ⟨a.l, true⟩) (hd : p ∉ N.l) (h : a.pc = 9) (hn : C.len ≤ A.n) (h1 : 0 ≤ a.sc ∧ a.sc < C.C) (hcl : 0 ≤ classOf a.hz)
  (hk : ∀ τ, isA N ((A.by who).add (C.chunk a.sc + 1) (IntKind.u64.wrap (roomOf (classOf a.hz)))) τ → τ.get p = some ⟨({ a with pc := 10 } : Mo).l, true⟩ → Keep (p :: N.l) σ τ → K (.bool false) τ) : s_cl [.pointer (some ⟨p, 0, none⟩), N.env C who] K σ := by
 have hc3 := (class_bd a.hz).2
 have hT := hC.T; have hS := hC.S; have hC3 := hC.C; have hl := len_bd hC
 have hch : C.chunk C.C = 6 + C.T + 2 * C.S + 3 * C.C := rfl
 have hcj : C.chunk a.sc = 6 + C.T + 2 * C.S + 3 * a.sc := rfl
 rw [hA.obj hp]
 simp only [s_cl, w_cl, lM6 hd, h, s_cn, w_cn, lM2 hd, ruS, ruL, ruE, Nat.reduceAdd, reduceIte, Int.reduceLT, Int.reduceLE, Int.reduceEq, Int.reduceNeg, Int.reduceAdd, Int.reduceSub, Nat.reduceLeDiff, Nat.reduceLT]
 refine c_Class ?_
 rw [c_Room hcl hc3]
 simp only [lM6 hd, h, lM10 hd, ruS, ruL, ruE, Nat.reduceAdd, reduceIte, Int.reduceLT, Int.reduceLE, Int.reduceEq, Int.reduceNeg, Int.reduceAdd, Int.reduceSub, Nat.reduceLeDiff, Nat.reduceLT]
 rw [c_Chunk hC h1.1 (by omega)]
 simp only [ruS, ruL, ruE, Nat.reduceAdd, reduceIte, Int.reduceLT, Int.reduceLE, Int.reduceEq, Int.reduceNeg, Int.reduceAdd, Int.reduceSub, Nat.reduceLeDiff, Nat.reduceLT]
 rw [IntWalk.i64_in (C.chunk a.sc + 1) (by omega), c_Add hN (by omega) (by omega)]
 simp only [sM6 hd, w_cn_j1, w_cn_j1b, ruS, ruL, ruE, Nat.reduceAdd, reduceIte, Int.reduceLT, Int.reduceLE, Int.reduceEq, Int.reduceNeg, Int.reduceAdd, Int.reduceSub, Nat.reduceLeDiff, Nat.reduceLT]
 exact behind hN hd hk
theorem c_Mv10 (hN : N.ok) (hC : C.ok) (hA : isA N A σ) {p : Nat} {a : Mo} (hp : σ.get p = some ⟨a.l, true⟩) (hd : p ∉ N.l) (h : a.pc = 10) (hn : C.len ≤ A.n) (h1 : a.addr < 9223372036854775808 ∧ 0 ≤ ofC C a.addr ∧ ofC C a.addr < C.C) (hcl : 0 ≤ classOf a.hz)
  (hk : ∀ τ, isA N ((A.by who).add (C.chunk (ofC C a.addr) + 1) (IntKind.u64.wrap (-roomOf (classOf a.hz)))) τ → τ.get p = some ⟨({ a with out := 1 } : Mo).l, true⟩ → Keep (p :: N.l) σ τ → K (.bool true) τ) : s_cl [.pointer (some ⟨p, 0, none⟩), N.env C who] K σ := by
 have hc3 := (class_bd a.hz).2
 have hr := room_bd hcl hc3
 have hT := hC.T; have hS := hC.S; have hC3 := hC.C; have hl := len_bd hC
 have hch : C.chunk C.C = 6 + C.T + 2 * C.S + 3 * C.C := rfl
 have hcj : C.chunk (ofC C a.addr) = 6 + C.T + 2 * C.S + 3 * ofC C a.addr := rfl
 rw [hA.obj hp]
 simp only [s_cl, w_cl, lM6 hd, h, s_cn, w_cn, lM2 hd, ruS, ruL, ruE, Nat.reduceAdd, reduceIte, Int.reduceLT, Int.reduceLE, Int.reduceEq, Int.reduceNeg, Int.reduceAdd, Int.reduceSub, Nat.reduceLeDiff, Nat.reduceLT]
 refine c_Class ?_
 rw [c_Room hcl hc3]
 simp only [lM6 hd, h, lM0 hd, ruS, ruL, ruE, Nat.reduceAdd, reduceIte, Int.reduceLT, Int.reduceLE, Int.reduceEq, Int.reduceNeg, Int.reduceAdd, Int.reduceSub, Nat.reduceLeDiff, Nat.reduceLT]
 rw [c_Of hC h1.1]
 simp only [xMove, c_Chunk hC h1.2.1 (show ofC C a.addr ≤ 65536 by omega)]
 simp only [ruS, ruL, ruE, Nat.reduceAdd, reduceIte, Int.reduceLT, Int.reduceLE, Int.reduceEq, Int.reduceNeg, Int.reduceAdd, Int.reduceSub, Nat.reduceLeDiff, Nat.reduceLT]
 rw [IntWalk.i64_in (C.chunk (ofC C a.addr) + 1) (by omega), xNeg]
 rw [IntWalk.i64_in (-roomOf (classOf a.hz)) (by omega), c_Add hN (by omega) (by omega)]
 simp only [sM15 hd, ruS, ruL, ruE, Nat.reduceAdd, reduceIte, Int.reduceLT, Int.reduceLE, Int.reduceEq, Int.reduceNeg, Int.reduceAdd, Int.reduceSub, Nat.reduceLeDiff, Nat.reduceLT]
 exact behind hN hd hk
theorem c_Mv1 (hN : N.ok) (hC : C.ok) (hA : isA N A σ) {p q : Nat} {a : Mo} {t : Pl} (hp : σ.get p = some ⟨a.l, true⟩) (hd : p ∉ N.l) (hq : σ.get q = some ⟨[] ++ t.l ++ [], true⟩) (hqd : q ∉ N.l) (hqp : q ≠ p)
  (hw : ∀ i, 0 ≤ A.w i ∧ A.w i < 18446744073709551616) (hn : C.len ≤ A.n) (h : a.pc = 1) (ha : a.p = some q) (hf : t.fit C) (ho : A.w (2 + t.cls) ≤ C.C)
  (k0 : (t.step C who A).1 = false → ∀ τ, isA N (t.step C who A).2.2 τ → τ.get p = some ⟨a.l, true⟩ → τ.get q = some ⟨[] ++ (t.step C who A).2.1.l ++ [], true⟩ → Keep (q :: p :: N.l) σ τ → K (.bool false) τ)
  (k1 : (t.step C who A).1 = true → (t.step C who A).2.1.ok = true → ∀ τ, isA N (t.step C who A).2.2 τ → τ.get p = some ⟨({ a with sa := (t.step C who A).2.1.sa, sc := (t.step C who A).2.1.sc, got := true, pc := 2 } : Mo).l, true⟩ → Keep (q :: p :: N.l) σ τ → K (.bool false) τ)
  (k2 : (t.step C who A).1 = true → (t.step C who A).2.1.ok = false → ∀ τ, isA N (t.step C who A).2.2 τ → τ.get p = some ⟨(({ a with sa := 0, sc := 0, got := false, pc := 2 } : Mo).endm 4).l, true⟩ → Keep (q :: p :: N.l) σ τ → K (.bool true) τ) :
  s_cl [.pointer (some ⟨p, 0, none⟩), N.env C who] K σ := by
 rw [hA.obj hp]
 simp only [s_cl, w_cl, lM6 hd, h, lM8 hd, ha, obP_s, ruS, ruL, ruE, Nat.reduceAdd, reduceIte, Int.reduceLT, Int.reduceLE, Int.reduceEq, Int.reduceNeg, Int.reduceAdd, Int.reduceSub, Nat.reduceLeDiff, Nat.reduceLT]
 rw [← hA.obj hp]
 refine c_Place_Step hN hC hA (t := t) (pre := []) (post := []) hq hqd hw hn hf ho fun τ hA' hq' hK => ?_
 generalize t.step C who A = r at *
 obtain ⟨d, t', A'⟩ := r
 dsimp only at *
 have hp' : τ.get p = some ⟨a.l, true⟩ := hK.get hp (by simp only [List.mem_cons, not_or]; exact ⟨fun e => hqp e.symm, hd⟩)
 have hK2 : Keep (q :: p :: N.l) σ τ := hK.mono (by intro i hi; rcases List.mem_cons.1 hi with rfl | hi <;> simp [*])
 have hpL : ∀ i ∈ p :: N.l, i ∈ q :: p :: N.l := fun i hi => List.mem_cons_of_mem _ hi
 cases d with
 | false =>
  simp only [w_cl_j1, w_cl_j1b, ruS, ruL, ruE, Nat.reduceAdd, reduceIte, Int.reduceLT, Int.reduceLE, Int.reduceEq, Int.reduceNeg, Int.reduceAdd, Int.reduceSub, Nat.reduceLeDiff, Nat.reduceLT]; exact k0 rfl τ hA' hp' hq' hK2
 | true =>
  simp only [ruS, ruL, ruE, Nat.reduceAdd, reduceIte, Int.reduceLT, Int.reduceLE, Int.reduceEq, Int.reduceNeg, Int.reduceAdd, Int.reduceSub, Nat.reduceLeDiff, Nat.reduceLT]
  rw [hA'.obj hp']
  simp only [lM8 hd, ha, obP_s]
  rw [← hA'.obj hp']
  refine c_Place_Spot hA' (pre := []) (post := []) hq' hqd ?_
  rw [hA'.obj hp']
  cases o : t'.ok with
  | true =>
   simp only [o, sM9 hd, sM11 hd, sM6 hd, lM11 hd, w_cl_j1, w_cl_j1b, ruS, ruL, ruE, Nat.reduceAdd, reduceIte, Int.reduceLT, Int.reduceLE, Int.reduceEq, Int.reduceNeg, Int.reduceAdd, Int.reduceSub, Nat.reduceLeDiff, Nat.reduceLT]
   exact behind hN hd fun υ u1 u2 u3 => k1 rfl o υ u1 u2 (hK2.trans (u3.mono hpL))
  | false =>
   simp only [o, sM9 hd, sM11 hd, sM6 hd, lM11 hd, ruS, ruL, ruE, Nat.reduceAdd, reduceIte, Int.reduceLT, Int.reduceLE, Int.reduceEq, Int.reduceNeg, Int.reduceAdd, Int.reduceSub, Nat.reduceLeDiff, Nat.reduceLT]
   rw [c_Mend (a := { a with sa := 0, sc := 0, got := false, pc := 2 }) hd]
   exact behind hN hd fun υ u1 u2 u3 => k2 rfl o υ u1 u2 (hK2.trans (u3.mono hpL))
end Go.Fl
namespace Go.Fl
open Go
set_option linter.unusedVariables false
set_option linter.unusedSimpArgs false
variable {N : Nm} {A B : Ar} {σ : Mem} {K : Value → Mem → Prop} {C : Cf} {who : Int}
def Mo.wp (a : Mo) (x : Option Nat) : Mo := { a with p := x }
structure MOb (N : Nm) (p : Nat) (O : List Nat) (m : Mv) (τ : Mem) : Prop where
 obj : ∃ x, τ.get p = some ⟨(m.a.wp x).l, true⟩ ∧ (m.a.pc = 1 → ∃ q, x = some q ∧ q ∈ O ∧ q ≠ p ∧ τ.get q = some ⟨[] ++ m.t.l ++ [], true⟩)
 own : ∀ i ∈ O, i ∉ N.l
 p : p ∈ O
theorem MOb.ext {p : Nat} {O : List Nat} {m : Mv} {τ : Mem} (h : MOb N p O m σ) (x : Ext σ τ) : MOb N p O m τ := by
 obtain ⟨⟨a, h1, h2⟩, h4, h5⟩ := h
 refine ⟨⟨a, x _ _ h1, fun e => ?_⟩, h4, h5⟩
 obtain ⟨q, q1, q2, q3, q4⟩ := h2 e; exact ⟨q, q1, q2, q3, x _ _ q4⟩
theorem MOb.keep {p : Nat} {O L : List Nat} {m : Mv} {τ : Mem} (h : MOb N p O m σ) (x : Keep L σ τ) (hL : ∀ i ∈ O, i ∉ L) : MOb N p O m τ := by
 obtain ⟨⟨a, h1, h2⟩, h4, h5⟩ := h
 refine ⟨⟨a, x.get h1 (hL p h5), fun e => ?_⟩, h4, h5⟩
 obtain ⟨q, q1, q2, q3, q4⟩ := h2 e; exact ⟨q, q1, q2, q3, x.get q4 (hL q q2)⟩
theorem MOb.out {p : Nat} {O : List Nat} {m : Mv} (h : MOb N p O m σ) : ∃ a : Mo, σ.get p = some ⟨a.l, true⟩ ∧ a.out = m.a.out ∧ a.got = m.a.got ∧ a.sa = m.a.sa ∧ a.sc = m.a.sc := by
 obtain ⟨⟨x, h1, _⟩, _⟩ := h; exact ⟨_, h1, rfl, rfl, rfl, rfl⟩
theorem endm_pc {a : Mo} {e : Int} (h : a.pc ≠ 1) : (a.endm e).pc ≠ 1 := by unfold Mo.endm; dsimp only; split <;> omega
theorem c_Mv_Step (hN : N.ok) (hC : C.ok) (hA : isA N A σ) {p : Nat} {O : List Nat} {m : Mv} (hO : MOb N p O m σ) (hw : ∀ i, 0 ≤ A.w i ∧ A.w i < 18446744073709551616) (hn : C.len ≤ A.n) (hf : m.fit C A)
  (hk : ∀ O' τ, (∀ i ∈ O', i ∈ O ∨ σ.get i = none) → isA N (m.step C who A).2.2 τ → MOb N p O' (m.step C who A).2.1 τ → Keep (O ++ N.l) σ τ → K (.bool (m.step C who A).1) τ) : s_cl [.pointer (some ⟨p, 0, none⟩), N.env C who] K σ := by
 obtain ⟨⟨x, hp, h3⟩, own, pO⟩ := hO
 have hd := own p pO
 have k1 : ∀ {τ : Mem}, Keep (p :: N.l) σ τ → Keep (O ++ N.l) σ τ := fun k => k.mono fun i hi => by
  rcases List.mem_cons.1 hi with rfl | hi
  ·exact List.mem_append_left _ pO
  ·exact List.mem_append_right _ hi
 have same : ∀ i ∈ O, i ∈ O ∨ σ.get i = none := fun i hi => .inl hi
 have cons : ∀ {q : Nat}, σ.get q = none → ∀ i ∈ q :: O, i ∈ O ∨ σ.get i = none := fun h i hi => by rcases List.mem_cons.1 hi with rfl | hi; exact .inr h; exact .inl hi
 have ownc : ∀ {q : Nat}, q ∉ N.l → ∀ i ∈ q :: O, i ∉ N.l := fun h i hi => by rcases List.mem_cons.1 hi with rfl | hi; exact h; exact own i hi
 have hpc := hf.pc
 unfold Mv.step at hk
 by_cases c0 : m.a.pc = 0
 ·simp only [if_pos c0] at hk
  refine c_Mv0 hN hC hA (a := m.a.wp x) hp hd c0 hn hw hf.hs hf.cl (fun e he τ u1 u2 u3 => ?_) (fun n1 n2 g τ u1 u2 u3 => ?_) (fun n1 n2 g q τ q1 q2 u1 u2 u3 u4 => ?_)
  ·have np : (({ m.a with w := A.w (C.slot m.a.hs) } : Mo).endm e).pc ≠ 1 := endm_pc (by show m.a.pc ≠ 1; omega)
   rcases he with ⟨c, rfl⟩ | ⟨n, ⟨c, rfl⟩ | ⟨n2, c, rfl⟩⟩
   ·rw [if_pos (show slS (A.w (C.slot m.a.hs)) = 4 ∧ slG (A.w (C.slot m.a.hs)) = m.a.hg ∧ slA (A.w (C.slot m.a.hs)) = m.a.addr from c)] at hk
    exact hk O τ same u1 ⟨⟨x, u2, fun q => absurd q np⟩, own, pO⟩ (k1 u3)
   ·rw [if_neg (show ¬ (slS (A.w (C.slot m.a.hs)) = 4 ∧ slG (A.w (C.slot m.a.hs)) = m.a.hg ∧ slA (A.w (C.slot m.a.hs)) = m.a.addr) from n), if_pos (show slS (A.w (C.slot m.a.hs)) ≠ 1 ∨ slG (A.w (C.slot m.a.hs)) ≠ m.a.hg ∨ slA (A.w (C.slot m.a.hs)) ≠ m.a.addr from c)] at hk
    exact hk O τ same u1 ⟨⟨x, u2, fun q => absurd q np⟩, own, pO⟩ (k1 u3)
   ·rw [if_neg (show ¬ (slS (A.w (C.slot m.a.hs)) = 4 ∧ slG (A.w (C.slot m.a.hs)) = m.a.hg ∧ slA (A.w (C.slot m.a.hs)) = m.a.addr) from n), if_neg (show ¬ (slS (A.w (C.slot m.a.hs)) ≠ 1 ∨ slG (A.w (C.slot m.a.hs)) ≠ m.a.hg ∨ slA (A.w (C.slot m.a.hs)) ≠ m.a.addr) from n2),
     if_pos (show 4194302 ≤ slV (A.w (C.slot m.a.hs)) from c)] at hk
    exact hk O τ same u1 ⟨⟨x, u2, fun q => absurd q np⟩, own, pO⟩ (k1 u3)
  ·have n3 : ¬ (slS (A.w (C.slot m.a.hs)) = 4 ∧ slG (A.w (C.slot m.a.hs)) = m.a.hg ∧ slA (A.w (C.slot m.a.hs)) = m.a.addr) := fun q => n1 (.inl (by show slS (A.w (C.slot m.a.hs)) ≠ 1; omega))
   rw [if_neg n3, if_neg (show ¬ (slS (A.w (C.slot m.a.hs)) ≠ 1 ∨ slG (A.w (C.slot m.a.hs)) ≠ m.a.hg ∨ slA (A.w (C.slot m.a.hs)) ≠ m.a.addr) from n1), if_neg (show ¬ 4194302 ≤ slV (A.w (C.slot m.a.hs)) from n2), if_pos (show m.a.got = true from g)] at hk
   exact hk O τ same u1 ⟨⟨x, u2, fun q => by cases q⟩, own, pO⟩ (k1 u3)
  ·have n3 : ¬ (slS (A.w (C.slot m.a.hs)) = 4 ∧ slG (A.w (C.slot m.a.hs)) = m.a.hg ∧ slA (A.w (C.slot m.a.hs)) = m.a.addr) := fun q => n1 (.inl (by show slS (A.w (C.slot m.a.hs)) ≠ 1; omega))
   rw [if_neg n3, if_neg (show ¬ (slS (A.w (C.slot m.a.hs)) ≠ 1 ∨ slG (A.w (C.slot m.a.hs)) ≠ m.a.hg ∨ slA (A.w (C.slot m.a.hs)) ≠ m.a.addr) from n1), if_neg (show ¬ 4194302 ≤ slV (A.w (C.slot m.a.hs)) from n2), if_neg (show ¬ m.a.got = true by rw [show m.a.got = false from g]; decide)] at hk
   exact hk (q :: O) τ (cons q1) u1 ⟨⟨some q, u2, fun _ => ⟨q, rfl, List.mem_cons_self .., q2, by rw [List.nil_append, List.append_nil]; exact u3⟩⟩, ownc (hA.new q1), List.mem_cons_of_mem _ pO⟩ (k1 u4)
 by_cases c1 : m.a.pc = 1
 ·simp only [if_neg c0, if_pos c1] at hk
  obtain ⟨q, rfl, qO, qp, gq⟩ := h3 c1
  obtain ⟨f1, f2⟩ := hf.pl c1
  have k2 : ∀ {τ : Mem}, Keep (q :: p :: N.l) σ τ → Keep (O ++ N.l) σ τ := fun k => k.mono fun i hi => by
   rcases List.mem_cons.1 hi with rfl | hi
   ·exact List.mem_append_left _ qO
   ·rcases List.mem_cons.1 hi with rfl | hi
    ·exact List.mem_append_left _ pO
    ·exact List.mem_append_right _ hi
  refine c_Mv1 hN hC hA (a := m.a.wp (some q)) (t := m.t) hp hd gq (own q qO) qp hw hn c1 rfl f1 f2 (fun d τ u1 u2 u3 u4 => ?_) (fun d o τ u1 u2 u3 => ?_) (fun d o τ u1 u2 u3 => ?_)
  ·rw [if_pos d] at hk
   exact hk O τ same u1 ⟨⟨some q, u2, fun _ => ⟨q, rfl, qO, qp, u3⟩⟩, own, pO⟩ (k2 u4)
  ·rw [if_neg (by rw [d]; decide), if_pos o] at hk
   exact hk O τ same u1 ⟨⟨some q, u2, fun e => by cases e⟩, own, pO⟩ (k2 u3)
  ·rw [if_neg (by rw [d]; decide), if_neg (by rw [o]; decide)] at hk
   exact hk O τ same u1 ⟨⟨some q, u2, fun e => absurd e (endm_pc (by decide : (2 : Int) ≠ 1))⟩, own, pO⟩ (k2 u3)
 by_cases c2 : m.a.pc = 2
 ·simp only [if_neg c0, if_neg c1, if_pos c2] at hk
  exact c_Mv2 hN hA (a := m.a.wp x) hp hd c2 (hf.sa (.inl c2)) fun τ u1 u2 u3 => hk O τ same u1 ⟨⟨x, u2, fun e => by cases e⟩, own, pO⟩ (k1 u3)
 by_cases c3 : m.a.pc = 3
 ·simp only [if_neg c0, if_neg c1, if_neg c2, if_pos c3] at hk
  exact c_Mv3 hN hC hA (a := m.a.wp x) hp hd c3 hn hf.hs hf.w fun τ u1 u2 u3 => hk O τ same u1 ⟨⟨x, u2, fun e => by dsimp only at e; split at e <;> cases e⟩, own, pO⟩ (k1 u3)
 by_cases c4 : m.a.pc = 4
 ·simp only [if_neg c0, if_neg c1, if_neg c2, if_neg c3, if_pos c4] at hk
  exact c_Mv4 hN hA (a := m.a.wp x) hp hd c4 hw hf.n2 hf.w hf.i.1 (hf.at' (.inl c4)) fun τ u1 u2 u3 => hk O τ same u1 ⟨⟨x, u2, fun e => by dsimp only at e; split at e <;> cases e⟩, own, pO⟩ (k1 u3)
 by_cases c5 : m.a.pc = 5
 ·simp only [if_neg c0, if_neg c1, if_neg c2, if_neg c3, if_neg c4, if_pos c5] at hk
  exact c_Mv5 hN hA (a := m.a.wp x) hp hd c5 hf.n2 hf.w hf.cell hf.i.1 (hf.at' (.inr c5)) fun τ u1 u2 u3 => hk O τ same u1 ⟨⟨x, u2, fun e => by dsimp only at e; split at e <;> cases e⟩, own, pO⟩ (k1 u3)
 by_cases c6 : m.a.pc = 6
 ·simp only [if_neg c0, if_neg c1, if_neg c2, if_neg c3, if_neg c4, if_neg c5, if_pos c6] at hk
  exact c_Mv6 hN hA (a := m.a.wp x) hp hd c6 hf.n2 hf.cell hf.i (hf.c6 c6) fun τ u1 u2 u3 => hk O τ same u1 ⟨⟨x, u2, fun e => by dsimp only at e; split at e <;> cases e⟩, own, pO⟩ (k1 u3)
 by_cases c7 : m.a.pc = 7
 ·simp only [if_neg c0, if_neg c1, if_neg c2, if_neg c3, if_neg c4, if_neg c5, if_neg c6, if_pos c7] at hk
  refine c_Mv7 hN hC hA (a := m.a.wp x) hp hd c7 hn hf.hs hf.w hf.nn (fun c τ u1 u2 u3 => ?_) (fun c d τ u1 u2 u3 => ?_) (fun c d τ u1 u2 u3 => ?_)
  ·rw [if_pos (show A.w (C.slot m.a.hs) = m.a.as 2 m.a.addr 0 from c)] at hk
   exact hk O τ same u1 ⟨⟨x, u2, fun e => by cases e⟩, own, pO⟩ (k1 u3)
  ·rw [if_neg (show ¬ A.w (C.slot m.a.hs) = m.a.as 2 m.a.addr 0 from c), if_pos (show C.R ≤ m.a.nn + 1 from d)] at hk
   exact hk O τ same u1 ⟨⟨x, u2, fun e => absurd e (endm_pc (by decide : (0 : Int) ≠ 1))⟩, own, pO⟩ (k1 u3)
  ·rw [if_neg (show ¬ A.w (C.slot m.a.hs) = m.a.as 2 m.a.addr 0 from c), if_neg (show ¬ C.R ≤ m.a.nn + 1 from d)] at hk
   exact hk O τ same u1 ⟨⟨x, u2, fun e => by cases e⟩, own, pO⟩ (k1 u3)
 by_cases c8 : m.a.pc = 8
 ·simp only [if_neg c0, if_neg c1, if_neg c2, if_neg c3, if_neg c4, if_neg c5, if_neg c6, if_neg c7, if_pos c8] at hk
  exact c_Mv8 hN hC hA (a := m.a.wp x) hp hd c8 (hf.sa (.inr (.inl c8))) hf.cl fun τ u1 u2 u3 => hk O τ same u1 ⟨⟨x, u2, fun e => by cases e⟩, own, pO⟩ (k1 u3)
 by_cases c9 : m.a.pc = 9
 ·simp only [if_neg c0, if_neg c1, if_neg c2, if_neg c3, if_neg c4, if_neg c5, if_neg c6, if_neg c7, if_neg c8, if_pos c9] at hk
  exact c_Mv9 hN hC hA (a := m.a.wp x) hp hd c9 hn (hf.c9 c9) hf.cl fun τ u1 u2 u3 => hk O τ same u1 ⟨⟨x, u2, fun e => by cases e⟩, own, pO⟩ (k1 u3)
 by_cases c10 : m.a.pc = 10
 ·simp only [if_neg c0, if_neg c1, if_neg c2, if_neg c3, if_neg c4, if_neg c5, if_neg c6, if_neg c7, if_neg c8, if_neg c9, if_pos c10] at hk
  exact c_Mv10 hN hC hA (a := m.a.wp x) hp hd c10 hn (hf.c10 c10) hf.cl fun τ u1 u2 u3 => hk O τ same u1 ⟨⟨x, u2, fun e => absurd (show m.a.pc = 1 from e) c1⟩, own, pO⟩ (k1 u3)
 have c11 : m.a.pc = 11 := by omega
 simp only [if_neg c0, if_neg c1, if_neg c2, if_neg c3, if_neg c4, if_neg c5, if_neg c6, if_neg c7, if_neg c8, if_neg c9, if_neg c10] at hk
 exact c_Mv11 hN hC hA (a := m.a.wp x) hp hd c11 (hf.sa (.inr (.inr c11))) hf.cl fun τ u1 u2 u3 => hk O τ same u1 ⟨⟨x, u2, fun e => absurd e c1⟩, own, pO⟩ (k1 u3)
theorem mob_new {ad k z s g : Int} {o : Bool} (hA : isA N A σ) (hk : ∀ p τ, σ.get p = none → MOb N p [p] (Mv.new ad k z s g o) τ → Ext σ τ → K (.pointer (some ⟨p, 0, none⟩)) τ) : s_ct [.int .i64 ad, .agg #[.int .i64 k, .int .i64 z, .int .i64 s, .int .i64 g, .bool o]] K σ := by
 refine c_MoveNew fun p τ hp gp x => hk p τ hp ⟨⟨none, gp, (fun e => by cases e)⟩, fun i hi => ?_, List.mem_singleton.2 rfl⟩ x
 rw [List.mem_singleton.1 hi]; exact hA.new hp
end Go.Fl
namespace Go.Fl
open Go
set_option linter.unusedVariables false
set_option linter.unusedSimpArgs false
variable {N : Nm} {A B : Ar} {σ : Mem} {K : Value → Mem → Prop} {C : Cf} {who : Int}
structure Sn where
 st : Int
 cl : Int
 us : Int
 sp : Int
 live : Int
 op : Bool
def Sn.l (x : Sn) : List Value := [.int .i64 x.st, .int .i64 x.cl, .int .i64 x.us, .int .i64 x.sp, .int .i64 x.live, .bool x.op]
def snL : List Sn → List Value
 | [] => []
 | x :: l => x.l ++ snL l
theorem snL_len : ∀ {l : List Sn}, (snL l).length = l.length * 6
 | [] => rfl
 | x :: l => by show (x.l ++ snL l).length = _; rw [List.length_append, snL_len (l := l)]; show 6 + l.length * 6 = (l.length + 1) * 6; omega
theorem snL_app : ∀ {l m : List Sn}, snL (l ++ m) = snL l ++ snL m
 | [], m => rfl
 | x :: l, m => by show x.l ++ snL (l ++ m) = (x.l ++ snL l) ++ snL m; rw [snL_app, List.append_assoc]
theorem snL_split {l : List Sn} {i : Nat} {x : Sn} (h : l[i]? = some x) : snL l = snL (l.take i) ++ x.l ++ snL (l.drop (i + 1)) ∧ (snL (l.take i)).length = i * 6 := by
 have hi : i < l.length := (List.getElem?_eq_some_iff.1 h).1
 have e : l = l.take i ++ x :: l.drop (i + 1) := by
  have hx : l[i] = x := (List.getElem?_eq_some_iff.1 h).2
  rw [← hx, List.getElem_cons_drop]; exact (List.take_append_drop i l).symm
 refine ⟨?_, by rw [snL_len, List.length_take]; congr 1; omega⟩
 conv => lhs; rw [e]
 rw [snL_app]
 show snL (l.take i) ++ (x.l ++ snL (l.drop (i + 1))) = _
 rw [List.append_assoc]
theorem sn_sub {l : List Sn} {i k sz : Nat} {ag : Bool} {x : Sn} {v : Value} (h : l[i]? = some x) (hz : 0 < sz) (hk : k + sz ≤ 6) (hv : sub x.l k sz ag = some v) : sub (snL l) (i * 6 + k) sz ag = some v := by
 obtain ⟨e, hl⟩ := snL_split h
 rw [e, ← hl, sub_app hz hk, hv]
theorem sn_lay {l : List Sn} {i k : Nat} {x y : Sn} {vs : List Value} (h : l[i]? = some x) (hk : k + vs.length ≤ 6) (hv : lay x.l k vs = y.l) : lay (snL l) (i * 6 + k) vs = snL (l.set i y) := by
 obtain ⟨e, hl⟩ := snL_split h
 have hi : i < l.length := (List.getElem?_eq_some_iff.1 h).1
 have h2 : (l.set i y)[i]? = some y := by rw [List.getElem?_set]; simp [hi]
 obtain ⟨e2, _⟩ := snL_split h2
 rw [e, ← hl, lay_app hk, hv, e2, List.take_set_of_le (Nat.le_refl i), List.drop_set_of_lt (Nat.lt_succ_self i)]
def Sn.may (C : Cf) (x : Sn) : Prop := x.st = 1 ∧ x.op = false ∧ 0 < x.us ∧ (x.live ≤ 0 ∨ IntKind.i64.wrap (1000 * x.live) < IntKind.i64.wrap (C.P * x.us))
instance {x : Sn} : Decidable (x.may C) := inferInstanceAs (Decidable (_ ∧ _))
def Chosen (C : Cf) (l : List Sn) (r : Int) : Prop := r = -1 ∧ (∀ x ∈ l, ¬ x.may C) ∨ 0 ≤ r ∧ ∃ x, l[r.toNat]? = some x ∧ x.may C
theorem ldSn {b : Nat} {rw : Bool} {l : List Sn} {i k sz : Nat} {ag : Bool} {x : Sn} {v : Value} (hb : σ.get b = some ⟨snL l, rw⟩) (h : l[i]? = some x) (hz : 0 < sz) (hk : k + sz ≤ 6) (hv : sub x.l k sz ag = some v) : hLoad sz ag [.pointer (some ⟨b, i * 6 + k, none⟩)] K σ = K v σ := by
 rw [hLoad_eq hb, sn_sub h hz hk hv, xOs]
theorem box6 {x : Sn} : gBox 6 [.agg x.l.toArray] [] = some x.l := nr rfl
theorem c_May {x : Sn} : s_c3 [C.v, .agg x.l.toArray] K σ = K (.bool (decide (x.may C))) σ := by
 have e0 : sub x.l 0 1 false = some (.int .i64 x.st) := rfl
 have e2 : sub x.l 2 1 false = some (.int .i64 x.us) := rfl
 have e4 : sub x.l 4 1 false = some (.int .i64 x.live) := rfl
 have e5 : sub x.l 5 1 false = some (.bool x.op) := rfl
 have e6 : sub C.l 5 1 false = some (.int .i64 C.P) := rfl
 have key : decide (x.may C) = (decide (x.st = 1) && (!x.op) && decide (0 < x.us) && (decide (x.live ≤ 0) || decide (IntKind.i64.wrap (1000 * x.live) < IntKind.i64.wrap (C.P * x.us)))) := by
  have e : decide (x.may C) = true ↔ x.st = 1 ∧ x.op = false ∧ 0 < x.us ∧ (x.live ≤ 0 ∨ IntKind.i64.wrap (1000 * x.live) < IntKind.i64.wrap (C.P * x.us)) := decide_eq_true_iff
  rw [Bool.eq_iff_iff, e]
  simp only [Bool.and_eq_true, Bool.or_eq_true, decide_eq_true_eq, Bool.not_eq_true']
  constructor
  ·rintro ⟨a, b, c, d⟩; exact ⟨⟨⟨a, b⟩, c⟩, d⟩
  ·rintro ⟨⟨⟨a, b⟩, c⟩, d⟩; exact ⟨a, b, c, d⟩
 rw [key]
 simp only [s_c3, w_c3, gBoxC, box6, e0, e2, e4, e5, e6, ruS, ruL, ruE, Nat.reduceAdd, reduceIte, Int.reduceLT, Int.reduceLE, Int.reduceEq, Int.reduceNeg, Int.reduceAdd, Int.reduceSub, Nat.reduceLeDiff, Nat.reduceLT]
 cases x.op <;> by_cases c1 : x.st = 1 <;> by_cases c2 : 0 < x.us <;> by_cases c3 : x.live ≤ 0 <;> simp only [c1, c2, c3, e0, e2, e4, e5, e6, Bool.not_true, Bool.not_false, decide_true, decide_false, Bool.and_true, Bool.true_and, Bool.false_and, Bool.and_false, Bool.true_or, Bool.false_or, ruS, ruL, ruE, Nat.reduceAdd, reduceIte, Int.reduceLT, Int.reduceLE, Int.reduceEq, Int.reduceNeg, Int.reduceAdd, Int.reduceSub, Nat.reduceLeDiff, Nat.reduceLT]
theorem c_better {b : Nat} {rw : Bool} {l : List Sn} {x y : Int} (hb : σ.get b = some ⟨snL l, rw⟩) (hx : x = -1 ∨ 0 ≤ x ∧ x < l.length) (hy : 0 ≤ y ∧ y < l.length) (hk : ∀ r, (r = x ∧ 0 ≤ x ∨ r = y) → K (.int .i64 r) σ) :
  s_c4 [.slice (some ⟨b, 0, none⟩) l.length 6, .int .i64 x, .int .i64 y] K σ := by
 have fin : ∀ c : Bool, (c = true → 0 ≤ x) → w_c4_j1 K [.int .i64 x, .int .i64 y, .bool c] [] σ := fun c hc => by
  cases c with
  | true => simp only [w_c4_j1, w_c4_j1b, ruS, ruL, ruE, Nat.reduceAdd, reduceIte, Int.reduceLT, Int.reduceLE, Int.reduceEq, Int.reduceNeg, Int.reduceAdd, Int.reduceSub, Nat.reduceLeDiff, Nat.reduceLT]; exact hk x (.inl ⟨rfl, hc rfl⟩)
  | false => simp only [w_c4_j1, w_c4_j1b, ruS, ruL, ruE, Nat.reduceAdd, reduceIte, Int.reduceLT, Int.reduceLE, Int.reduceEq, Int.reduceNeg, Int.reduceAdd, Int.reduceSub, Nat.reduceLeDiff, Nat.reduceLT]; exact hk y (.inr rfl)
 simp only [s_c4, w_c4, ruS, ruL, ruE, Nat.reduceAdd, reduceIte, Int.reduceLT, Int.reduceLE, Int.reduceEq, Int.reduceNeg, Int.reduceAdd, Int.reduceSub, Nat.reduceLeDiff, Nat.reduceLT]
 rcases hx with rfl | hx
 ·simp only [ruS, ruL, ruE, Nat.reduceAdd, reduceIte, Int.reduceLT, Int.reduceLE, Int.reduceEq, Int.reduceNeg, Int.reduceAdd, Int.reduceSub, Nat.reduceLeDiff, Nat.reduceLT]; exact fin false fun q => by cases q
 ·have c0 : 0 ≤ x := hx.1
  obtain ⟨a, ha⟩ : ∃ a, l[x.toNat]? = some a := ⟨_, List.getElem?_eq_getElem (by omega)⟩
  obtain ⟨d, hd⟩ : ∃ d, l[y.toNat]? = some d := ⟨_, List.getElem?_eq_getElem (by omega)⟩
  simp only [c0, xIxS hx.1 hx.2, xIxS hy.1 hy.2, Nat.zero_add, ruS, ruL, ruE, Nat.reduceAdd, reduceIte, Int.reduceLT, Int.reduceLE, Int.reduceEq, Int.reduceNeg, Int.reduceAdd, Int.reduceSub, Nat.reduceLeDiff, Nat.reduceLT]
  rw [ldSn hb ha (by decide) (by decide) (show sub a.l 4 1 false = some (.int .i64 a.live) from rfl), ldSn hb hd (by decide) (by decide) (show sub d.l 4 1 false = some (.int .i64 d.live) from rfl)]
  simp only [ruS, ruL, ruE, Nat.reduceAdd, reduceIte, Int.reduceLT, Int.reduceLE, Int.reduceEq, Int.reduceNeg, Int.reduceAdd, Int.reduceSub, Nat.reduceLeDiff, Nat.reduceLT]
  exact fin _ fun _ => hx.1
theorem c_Choose {b : Nat} {rw : Bool} {l : List Sn} (hl : l.length ≤ 1000) (hb : σ.get b = some ⟨snL l, rw⟩) (hk : ∀ r, Chosen C l r → K (.int .i64 r) σ) : s_c2 [C.v, .slice (some ⟨b, 0, none⟩) l.length 6] K σ := by
 simp only [s_c2, w_c2, gBoxC, xLen, ruS, ruL, ruE, Nat.reduceAdd, reduceIte, Int.reduceLT, Int.reduceLE, Int.reduceEq, Int.reduceNeg, Int.reduceAdd, Int.reduceSub, Nat.reduceLeDiff, Nat.reduceLT]
 refine xLoop_r (fun m ts ls τ => ∃ i best : Int, m = (l.length - i).toNat ∧ ts = [.slice (some ⟨b, 0, none⟩) l.length 6, .int .i64 best, .slice (some ⟨b, 0, none⟩) l.length 6, .int .i64 l.length, .int .i64 i] ∧ ls = [C.l] ∧ τ = σ ∧ 0 ≤ i ∧ i ≤ l.length ∧
   (best = -1 ∧ (∀ k : Int, 0 ≤ k → k < i → ∀ x, l[k.toNat]? = some x → ¬ x.may C) ∨ (0 ≤ best ∧ best < i) ∧ ∃ x, l[best.toNat]? = some x ∧ x.may C)) ?_ (n := l.length)
  ⟨0, -1, by omega, rfl, rfl, rfl, by omega, by omega, .inl ⟨rfl, fun k k0 k1 => by omega⟩⟩
 rintro m ts ls τ ⟨i, best, rfl, rfl, rfl, rfl, i0, i1, hI⟩ R hR
 simp only [w_policy_Choose_l4, w_policy_Choose_l4b, ruS, ruL, ruE, Nat.reduceAdd, reduceIte, Int.reduceLT, Int.reduceLE, Int.reduceEq, Int.reduceNeg, Int.reduceAdd, Int.reduceSub, Nat.reduceLeDiff, Nat.reduceLT]
 by_cases ci : i < l.length
 rotate_left
 ·simp only [ci, w_c2_j1, w_c2_j1b, ruS, ruL, ruE, Nat.reduceAdd, reduceIte, Int.reduceLT, Int.reduceLE, Int.reduceEq, Int.reduceNeg, Int.reduceAdd, Int.reduceSub, Nat.reduceLeDiff, Nat.reduceLT]
  refine hk best ?_
  rcases hI with ⟨e, h⟩ | ⟨h1, h2⟩
  ·refine .inl ⟨e, fun x hx => ?_⟩
   obtain ⟨k, hk', e2⟩ := List.getElem_of_mem hx
   exact h k (by omega) (by omega) x (by rw [Int.toNat_natCast]; exact List.getElem?_eq_some_iff.2 ⟨hk', e2⟩)
  ·exact .inr ⟨h1.1, h2⟩
 obtain ⟨x, hx⟩ : ∃ x, l[i.toNat]? = some x := ⟨_, List.getElem?_eq_getElem (by omega)⟩
 have g6 : ∀ {q : Nat}, gStore 6 [.pointer (some ⟨q, 0, some 0⟩), .agg x.l.toArray] [.int .i64 0, .int .i64 0, .int .i64 0, .int .i64 0, .int .i64 0, .bool false] = some x.l := fun {q} => rfl
 have s6 : ∀ x : Sn, sub x.l 0 6 true = some (.agg x.l.toArray) := fun x => rfl
 have nxt : ∀ best', (best' = -1 ∧ (∀ k : Int, 0 ≤ k → k < i + 1 → ∀ x, l[k.toNat]? = some x → ¬ x.may C) ∨ (0 ≤ best' ∧ best' < i + 1) ∧ ∃ x, l[best'.toNat]? = some x ∧ x.may C) →
   w_c2_j2 K (w_c2_j1 K) R [.slice (some ⟨b, 0, none⟩) l.length 6, .int .i64 best', .slice (some ⟨b, 0, none⟩) l.length 6, .int .i64 l.length, .int .i64 i] [C.l] τ := by
  intro best' h
  simp only [w_c2_j2, w_c2_j2b, ruS, ruL, ruE, Nat.reduceAdd, reduceIte, Int.reduceLT, Int.reduceLE, Int.reduceEq, Int.reduceNeg, Int.reduceAdd, Int.reduceSub, Nat.reduceLeDiff, Nat.reduceLT]
  rw [IntWalk.i64_in (i + 1) (by omega)]
  exact hR (l.length - (i + 1)).toNat _ _ _ (by omega) ⟨i + 1, best', rfl, rfl, rfl, rfl, by omega, by omega, h⟩
 simp only [ci, xIxS i0 ci, Nat.zero_add, ruS, ruL, ruE, Nat.reduceAdd, reduceIte, Int.reduceLT, Int.reduceLE, Int.reduceEq, Int.reduceNeg, Int.reduceAdd, Int.reduceSub, Nat.reduceLeDiff, Nat.reduceLT]
 have h0 := ldSn (K := fun v σ => xC (gStore 6 [.pointer (some ⟨7, 0, some 0⟩), v] [.int .i64 0, .int .i64 0, .int .i64 0, .int .i64 0, .int .i64 0, .bool false]) fun c7 => xO (sub C.l 0 7 true) fun v16 => xO (sub c7 0 6 true) fun v17 => s_c3 [v16, v17] (fun v18 σ => xF (fUn .not) [v18] fun v19 => xIf v19 (w_c2_j2 K (w_c2_j1 K) R [.slice (some ⟨b, 0, none⟩) l.length 6, .int .i64 best, .slice (some ⟨b, 0, none⟩) l.length 6, .int .i64 l.length, .int .i64 i] [C.l] σ) True) σ) hb hx (k := 0) (by decide) (by decide) (s6 x)
 clear h0
 rw [show i.toNat * 6 = i.toNat * 6 + 0 from rfl, ldSn hb hx (by decide) (by decide) (s6 x)]
 simp only [g6, subC, s6, c_May, ruS, ruL, ruE, Nat.reduceAdd, reduceIte, Int.reduceLT, Int.reduceLE, Int.reduceEq, Int.reduceNeg, Int.reduceAdd, Int.reduceSub, Nat.reduceLeDiff, Nat.reduceLT]
 by_cases cm : x.may C
 rotate_left
 ·simp only [cm, decide_false, Bool.not_false, ruS, ruL, ruE, Nat.reduceAdd, reduceIte, Int.reduceLT, Int.reduceLE, Int.reduceEq, Int.reduceNeg, Int.reduceAdd, Int.reduceSub, Nat.reduceLeDiff, Nat.reduceLT]
  refine nxt best ?_
  rcases hI with ⟨e, h⟩ | ⟨h1, h2⟩
  ·refine .inl ⟨e, fun k k0 k1 y hy => ?_⟩
   by_cases q : k = i
   ·subst q; rw [hx] at hy; cases hy; exact cm
   ·exact h k k0 (by omega) y hy
  ·exact .inr ⟨by omega, h2⟩
 simp only [cm, decide_true, Bool.not_true, ruS, ruL, ruE, Nat.reduceAdd, reduceIte, Int.reduceLT, Int.reduceLE, Int.reduceEq, Int.reduceNeg, Int.reduceAdd, Int.reduceSub, Nat.reduceLeDiff, Nat.reduceLT]
 refine xLoop_r (fun m ts ls τ' => ∃ k : Int, m = (i - k).toNat ∧ ts = [.slice (some ⟨b, 0, none⟩) l.length 6, .int .i64 best, .int .i64 i, .slice (some ⟨b, 0, none⟩) l.length 6, .int .i64 l.length, .int .i64 i, .int .i64 i, .int .i64 k] ∧ ls = [C.l, x.l] ∧ τ' = τ ∧ 0 ≤ k ∧ k ≤ i) ?_ (n := i.toNat)
  ⟨0, by omega, rfl, rfl, rfl, by omega, by omega⟩
 rintro m ts ls τ' ⟨k, rfl, rfl, rfl, rfl, k0, k1⟩ R4 hR4
 simp only [w_policy_Choose_l8, w_policy_Choose_l8b, ruS, ruL, ruE, Nat.reduceAdd, reduceIte, Int.reduceLT, Int.reduceLE, Int.reduceEq, Int.reduceNeg, Int.reduceAdd, Int.reduceSub, Nat.reduceLeDiff, Nat.reduceLT]
 by_cases ck : k < i
 rotate_left
 ·simp only [ck, w_c2_j3, w_c2_j3b, ruS, ruL, ruE, Nat.reduceAdd, reduceIte, Int.reduceLT, Int.reduceLE, Int.reduceEq, Int.reduceNeg, Int.reduceAdd, Int.reduceSub, Nat.reduceLeDiff, Nat.reduceLT]
  refine c_better hb (by rcases hI with ⟨e, _⟩ | ⟨h1, _⟩ <;> omega) ⟨i0, ci⟩ fun r hr => ?_
  refine nxt r (.inr ?_)
  rcases hr with ⟨rfl, hr⟩ | rfl
  ·rcases hI with ⟨e, _⟩ | ⟨h1, h2⟩
   ·omega
   ·exact ⟨by omega, h2⟩
  ·exact ⟨by omega, x, hx, cm⟩
 obtain ⟨y, hy⟩ : ∃ y, l[k.toNat]? = some y := ⟨_, List.getElem?_eq_getElem (by omega)⟩
 have kl : k < (l.length : Int) := by omega
 have on : w_c2_j4 K (w_c2_j1 K) R (w_c2_j2 K (w_c2_j1 K) R) (w_c2_j3 K (w_c2_j1 K) R (w_c2_j2 K (w_c2_j1 K) R)) R4
   [.slice (some ⟨b, 0, none⟩) l.length 6, .int .i64 best, .int .i64 i, .slice (some ⟨b, 0, none⟩) l.length 6, .int .i64 l.length, .int .i64 i, .int .i64 i, .int .i64 k] [C.l, x.l] τ' := by
  simp only [w_c2_j4, w_c2_j4b, ruS, ruL, ruE, Nat.reduceAdd, reduceIte, Int.reduceLT, Int.reduceLE, Int.reduceEq, Int.reduceNeg, Int.reduceAdd, Int.reduceSub, Nat.reduceLeDiff, Nat.reduceLT]
  rw [IntWalk.i64_in (k + 1) (by omega)]
  exact hR4 (i - (k + 1)).toNat _ _ _ (by omega) ⟨k + 1, rfl, rfl, rfl, rfl, by omega, by omega⟩
 have e4 : sub x.l 4 1 false = some (.int .i64 x.live) := rfl
 simp only [ck, subC, xIxS k0 kl, Nat.zero_add, ruS, ruL, ruE, Nat.reduceAdd, reduceIte, Int.reduceLT, Int.reduceLE, Int.reduceEq, Int.reduceNeg, Int.reduceAdd, Int.reduceSub, Nat.reduceLeDiff, Nat.reduceLT]
 rw [show k.toNat * 6 = k.toNat * 6 + 0 from rfl, ldSn hb hy (by decide) (by decide) (s6 y)]
 simp only [c_May, ruS, ruL, ruE, Nat.reduceAdd, reduceIte, Int.reduceLT, Int.reduceLE, Int.reduceEq, Int.reduceNeg, Int.reduceAdd, Int.reduceSub, Nat.reduceLeDiff, Nat.reduceLT]
 by_cases cy : y.may C
 rotate_left
 ·simp only [cy, decide_false, ruS, ruL, ruE, Nat.reduceAdd, reduceIte, Int.reduceLT, Int.reduceLE, Int.reduceEq, Int.reduceNeg, Int.reduceAdd, Int.reduceSub, Nat.reduceLeDiff, Nat.reduceLT]; exact on
 simp only [cy, decide_true, xIxS k0 kl, Nat.zero_add, ruS, ruL, ruE, Nat.reduceAdd, reduceIte, Int.reduceLT, Int.reduceLE, Int.reduceEq, Int.reduceNeg, Int.reduceAdd, Int.reduceSub, Nat.reduceLeDiff, Nat.reduceLT]
 rw [ldSn hb hy (by decide) (by decide) (show sub y.l 4 1 false = some (.int .i64 y.live) from rfl)]
 by_cases cl : y.live ≤ x.live
 ·simp only [e4, cl, ruS, ruL, ruE, Nat.reduceAdd, reduceIte, Int.reduceLT, Int.reduceLE, Int.reduceEq, Int.reduceNeg, Int.reduceAdd, Int.reduceSub, Nat.reduceLeDiff, Nat.reduceLT]
  refine nxt best ?_
  rcases hI with ⟨e, h⟩ | ⟨h1, h2⟩
  ·exact absurd cy (h k k0 ck y hy)
  ·exact .inr ⟨by omega, h2⟩
 ·simp only [e4, cl, ruS, ruL, ruE, Nat.reduceAdd, reduceIte, Int.reduceLT, Int.reduceLE, Int.reduceEq, Int.reduceNeg, Int.reduceAdd, Int.reduceSub, Nat.reduceLeDiff, Nat.reduceLT]; exact on
end Go.Fl
namespace Go.Fl
open Go
set_option linter.unusedVariables false
set_option linter.unusedSimpArgs false
variable {N : Nm} {A B : Ar} {σ : Mem} {K : Value → Mem → Prop} {C : Cf} {who : Int}
theorem ldX {L : List Value} {p k sz : Nat} {ag : Bool} {v : Value} (hd : p ∉ N.l) (h : sub L k sz ag = some v) : hLoad sz ag [.pointer (some ⟨p, k, none⟩)] K (putA N A (σ.set p ⟨L, true⟩)) = K v (putA N A (σ.set p ⟨L, true⟩)) := by
 rw [hLoad_eq ((putA_get hd).trans (Mem.get_set_same _ _ _)), h, xOs]
theorem stL {L : List Value} {p k : Nat} (L' : List Value) {x : Value} (hd : p ∉ N.l) (hx : cellsOf x 1 = some [x]) (ho : oneB x = true) (hk : k + 1 ≤ L.length) (e : lay L k [x] = L') :
  hStore 1 [.pointer (some ⟨p, k, none⟩), x] K (putA N A (σ.set p ⟨L, true⟩)) = K undef (putA N A (σ.set p ⟨L', true⟩)) := by
 have := stO (K := K) (N := N) (A := A) (σ := σ) (p := p) (pre := []) (L := L) (post := []) (k := k) (sz := 1) (x := x) (c := [x]) hd hx rfl hk (by simp [ho])
 rw [e] at this
 simpa only [List.nil_append, List.append_nil, List.length_nil, Nat.zero_add] using this
theorem stLa {L : List Value} {p k sz : Nat} (L' : List Value) {c : List Value} (hd : p ∉ N.l) (hl : c.length = sz) (ho : c.all oneB = true) (hk : k + sz ≤ L.length) (e : lay L k c = L') :
  hStore sz [.pointer (some ⟨p, k, none⟩), .agg c.toArray] K (putA N A (σ.set p ⟨L, true⟩)) = K undef (putA N A (σ.set p ⟨L', true⟩)) := by
 have := stOa (K := K) (N := N) (A := A) (σ := σ) (p := p) (pre := []) (L := L) (post := []) (k := k) (sz := sz) (c := c) hd hl hk ho
 rw [e] at this
 simpa only [List.nil_append, List.append_nil, List.length_nil, Nat.zero_add] using this
structure Adv where
 pc : Int
 now : Int
 at' : Int
 went : Bool
def Adv.l (a : Adv) : List Value := [.int .i64 a.pc, .int .u64 a.now, .int .i64 a.at', .bool a.went]
def Adv.new : Adv := ⟨0, 0, 0, false⟩
def Adv.step (C : Cf) (who : Int) (A : Ar) (a : Adv) : Bool × Adv × Ar :=
 if a.pc = 0 then (false, { a with now := A.w 0, pc := 1 }, (A.by who).load 0)
 else if a.pc = 1 then
  if A.w (6 + a.at') ≠ 0 ∧ A.w (6 + a.at') ≠ IntKind.u64.wrap (a.now + 1) then (true, a, (A.by who).load (6 + a.at'))
  else (false, { a with at' := a.at' + 1, pc := if C.T ≤ a.at' + 1 then 2 else a.pc }, (A.by who).load (6 + a.at'))
 else (true, { a with went := decide (A.w 0 = a.now) }, (A.by who).cas 0 a.now (IntKind.u64.wrap (a.now + 1)))
structure Adv.fit (C : Cf) (a : Adv) : Prop where
 pc : 0 ≤ a.pc ∧ a.pc ≤ 2
 at' : 0 ≤ a.at' ∧ (a.pc ≤ 1 → a.at' < C.T)
theorem Adv.new_fit (hC : C.ok) : Adv.new.fit C := ⟨⟨Int.le_refl 0, by decide⟩, Int.le_refl 0, fun _ => by have := hC.T; show 0 < C.T; omega⟩
section
variable {p : Nat} {a : Adv}
theorem lA0 (hd : p ∉ N.l) : hLoad 1 false [.pointer (some ⟨p, 0, none⟩)] K (putA N A (σ.set p ⟨a.l, true⟩)) = K (.int .i64 a.pc) (putA N A (σ.set p ⟨a.l, true⟩)) := ldX hd rfl
theorem lA1 (hd : p ∉ N.l) : hLoad 1 false [.pointer (some ⟨p, 1, none⟩)] K (putA N A (σ.set p ⟨a.l, true⟩)) = K (.int .u64 a.now) (putA N A (σ.set p ⟨a.l, true⟩)) := ldX hd rfl
theorem lA2 (hd : p ∉ N.l) : hLoad 1 false [.pointer (some ⟨p, 2, none⟩)] K (putA N A (σ.set p ⟨a.l, true⟩)) = K (.int .i64 a.at') (putA N A (σ.set p ⟨a.l, true⟩)) := ldX hd rfl
theorem sA0 (hd : p ∉ N.l) {v : Int} : hStore 1 [.pointer (some ⟨p, 0, none⟩), .int .i64 v] K (putA N A (σ.set p ⟨a.l, true⟩)) = K undef (putA N A (σ.set p ⟨({ a with pc := v } : Adv).l, true⟩)) := stL _ hd rfl rfl (by show _ ≤ 4; decide) rfl
theorem sA1 (hd : p ∉ N.l) {v : Int} : hStore 1 [.pointer (some ⟨p, 1, none⟩), .int .u64 v] K (putA N A (σ.set p ⟨a.l, true⟩)) = K undef (putA N A (σ.set p ⟨({ a with now := v } : Adv).l, true⟩)) := stL _ hd rfl rfl (by show _ ≤ 4; decide) rfl
theorem sA2 (hd : p ∉ N.l) {v : Int} : hStore 1 [.pointer (some ⟨p, 2, none⟩), .int .i64 v] K (putA N A (σ.set p ⟨a.l, true⟩)) = K undef (putA N A (σ.set p ⟨({ a with at' := v } : Adv).l, true⟩)) := stL _ hd rfl rfl (by show _ ≤ 4; decide) rfl
theorem sA3 (hd : p ∉ N.l) {v : Bool} : hStore 1 [.pointer (some ⟨p, 3, none⟩), .bool v] K (putA N A (σ.set p ⟨a.l, true⟩)) = K undef (putA N A (σ.set p ⟨({ a with went := v } : Adv).l, true⟩)) := stL _ hd rfl rfl (by show _ ≤ 4; decide) rfl
end
theorem c_Adv (hN : N.ok) (hC : C.ok) (hA : isA N A σ) {p : Nat} {a : Adv} (hp : σ.get p = some ⟨a.l, true⟩) (hd : p ∉ N.l) (hn : C.len ≤ A.n) (hf : a.fit C)
  (hk : ∀ τ, isA N (a.step C who A).2.2 τ → τ.get p = some ⟨(a.step C who A).2.1.l, true⟩ → Keep (p :: N.l) σ τ → K (.bool (a.step C who A).1) τ) : s_a6 [.pointer (some ⟨p, 0, none⟩), N.env C who] K σ := by
 have hT := hC.T; have hS := hC.S; have hC3 := hC.C; have hl := len_bd hC
 have hch : C.chunk C.C = 6 + C.T + 2 * C.S + 3 * C.C := rfl
 have b0 : (0 : Int) < A.n := by omega
 obtain ⟨⟨p0, p1⟩, a0, a1⟩ := hf
 rw [hA.obj hp]
 unfold Adv.step at hk
 by_cases c0 : a.pc = 0
 ·simp only [if_pos c0] at hk
  simp only [s_a6, w_a6, lA0 hd, c0, c_Epoch, c_Load hN (Int.le_refl 0) b0, sA1 hd, sA0 hd, w_a6_j1, w_a6_j1b, ruS, ruL, ruE, Nat.reduceAdd, reduceIte, Int.reduceLT, Int.reduceLE, Int.reduceEq, Int.reduceNeg, Int.reduceAdd, Int.reduceSub, Nat.reduceLeDiff, Nat.reduceLT]
  exact behind hN hd hk
 by_cases c1 : a.pc = 1
 ·simp only [if_neg c0, if_pos c1] at hk
  have q := a1 (by omega)
  simp only [s_a6, w_a6, lA0 hd, c1, lA2 hd, ruS, ruL, ruE, Nat.reduceAdd, reduceIte, Int.reduceLT, Int.reduceLE, Int.reduceEq, Int.reduceNeg, Int.reduceAdd, Int.reduceSub, Nat.reduceLeDiff, Nat.reduceLT]
  rw [c_Pin a0 (by omega)]
  simp only [c_Load hN (show 0 ≤ 6 + a.at' by omega) (show 6 + a.at' < A.n by omega), ruS, ruL, ruE, Nat.reduceAdd, reduceIte, Int.reduceLT, Int.reduceLE, Int.reduceEq, Int.reduceNeg, Int.reduceAdd, Int.reduceSub, Nat.reduceLeDiff, Nat.reduceLT]
  have on : ¬ (A.w (6 + a.at') ≠ 0 ∧ A.w (6 + a.at') ≠ IntKind.u64.wrap (a.now + 1)) → w_a6_j2 K (w_a6_j1 K) [.pointer (some ⟨p, 0, none⟩), .bool false] [Nm.el N C who] (putA N ((A.by who).load (6 + a.at')) (σ.set p ⟨a.l, true⟩)) := fun c => by
   rw [if_neg c] at hk
   simp only [w_a6_j2, w_a6_j2b, lA2 hd, sA2 hd, ruS, ruL, ruE, Nat.reduceAdd, reduceIte, Int.reduceLT, Int.reduceLE, Int.reduceEq, Int.reduceNeg, Int.reduceAdd, Int.reduceSub, Nat.reduceLeDiff, Nat.reduceLT]
   rw [IntWalk.i64_in (a.at' + 1) (by omega)]
   by_cases c2 : C.T ≤ a.at' + 1
   ·simp only [if_pos c2] at hk
    simp only [c2, sA0 hd, w_a6_j1, w_a6_j1b, ruS, ruL, ruE, Nat.reduceAdd, reduceIte, Int.reduceLT, Int.reduceLE, Int.reduceEq, Int.reduceNeg, Int.reduceAdd, Int.reduceSub, Nat.reduceLeDiff, Nat.reduceLT]
    exact behind hN hd hk
   ·simp only [if_neg c2] at hk
    simp only [c2, w_a6_j1, w_a6_j1b, ruS, ruL, ruE, Nat.reduceAdd, reduceIte, Int.reduceLT, Int.reduceLE, Int.reduceEq, Int.reduceNeg, Int.reduceAdd, Int.reduceSub, Nat.reduceLeDiff, Nat.reduceLT]
    exact behind hN hd hk
  by_cases c2 : A.w (6 + a.at') = 0
  ·simp only [c2, ruS, ruL, ruE, Nat.reduceAdd, reduceIte, Int.reduceLT, Int.reduceLE, Int.reduceEq, Int.reduceNeg, Int.reduceAdd, Int.reduceSub, Nat.reduceLeDiff, Nat.reduceLT]; exact on fun q => q.1 c2
  ·by_cases c3 : A.w (6 + a.at') = IntKind.u64.wrap (a.now + 1)
   ·simp only [c2, lA1 hd, ← c3, ruS, ruL, ruE, Nat.reduceAdd, reduceIte, Int.reduceLT, Int.reduceLE, Int.reduceEq, Int.reduceNeg, Int.reduceAdd, Int.reduceSub, Nat.reduceLeDiff, Nat.reduceLT]; exact on fun q => q.2 c3
   ·rw [if_pos ⟨c2, c3⟩] at hk
    simp only [c2, lA1 hd, c3, w_a6_j2, w_a6_j2b, ruS, ruL, ruE, Nat.reduceAdd, reduceIte, Int.reduceLT, Int.reduceLE, Int.reduceEq, Int.reduceNeg, Int.reduceAdd, Int.reduceSub, Nat.reduceLeDiff, Nat.reduceLT]
    exact behind hN hd hk
 ·simp only [if_neg c0, if_neg c1] at hk
  simp only [s_a6, w_a6, lA0 hd, c0, c1, c_Epoch, lA1 hd, c_Cas hN (Int.le_refl 0) b0, sA3 hd, ruS, ruL, ruE, Nat.reduceAdd, reduceIte, Int.reduceLT, Int.reduceLE, Int.reduceEq, Int.reduceNeg, Int.reduceAdd, Int.reduceSub, Nat.reduceLeDiff, Nat.reduceLT]
  exact behind hN hd hk
structure Stl where
 ch : Int
 pc : Int
 w : Int
 since : Int
 at' : Int
 freed : Bool
def Stl.l (a : Stl) : List Value := [.int .i64 a.ch, .int .i64 a.pc, .int .u64 a.w, .int .u64 a.since, .int .i64 a.at', .bool a.freed]
def Stl.new (ch : Int) : Stl := ⟨ch, 0, 0, 0, 0, false⟩
def Stl.step (C : Cf) (who : Int) (A : Ar) (a : Stl) : Bool × Stl × Ar :=
 if a.pc = 0 then (!decide (chS (A.w (C.chunk a.ch)) = 3), { a with w := A.w (C.chunk a.ch), pc := 1 }, (A.by who).load (C.chunk a.ch))
 else if a.pc = 1 then (false, { a with since := A.w (C.chunk a.ch + 2), pc := 2 }, (A.by who).load (C.chunk a.ch + 2))
 else if a.pc = 2 then (decide (A.w 0 < IntKind.u64.wrap (a.since + 2)), { a with pc := 3 }, (A.by who).load 0)
 else if a.pc = 3 then (false, { a with at' := a.at' + 1, pc := if chU a.w ≤ a.at' + 1 then 4 else a.pc }, (A.by who).store (C.base a.ch + a.at') 0)
 else if a.pc = 4 then (false, { a with pc := 5 }, (A.by who).store (C.chunk a.ch + 1) 0)
 else (true, { a with freed := true }, (A.by who).store (C.chunk a.ch) (putChunk 0 0 0 (chN a.w + 1)))
structure Stl.fit (C : Cf) (A : Ar) (a : Stl) : Prop where
 pc : 0 ≤ a.pc ∧ a.pc ≤ 5
 ch : 0 ≤ a.ch ∧ a.ch < C.C
 w : 0 ≤ a.w ∧ a.w < 18446744073709551616
 at' : a.pc = 3 → 0 ≤ a.at' ∧ C.base a.ch + a.at' < A.n
section
variable {p : Nat} {a : Stl}
theorem lS0 (hd : p ∉ N.l) : hLoad 1 false [.pointer (some ⟨p, 0, none⟩)] K (putA N A (σ.set p ⟨a.l, true⟩)) = K (.int .i64 a.ch) (putA N A (σ.set p ⟨a.l, true⟩)) := ldX hd rfl
theorem lS1 (hd : p ∉ N.l) : hLoad 1 false [.pointer (some ⟨p, 1, none⟩)] K (putA N A (σ.set p ⟨a.l, true⟩)) = K (.int .i64 a.pc) (putA N A (σ.set p ⟨a.l, true⟩)) := ldX hd rfl
theorem lS2 (hd : p ∉ N.l) : hLoad 1 false [.pointer (some ⟨p, 2, none⟩)] K (putA N A (σ.set p ⟨a.l, true⟩)) = K (.int .u64 a.w) (putA N A (σ.set p ⟨a.l, true⟩)) := ldX hd rfl
theorem lS3 (hd : p ∉ N.l) : hLoad 1 false [.pointer (some ⟨p, 3, none⟩)] K (putA N A (σ.set p ⟨a.l, true⟩)) = K (.int .u64 a.since) (putA N A (σ.set p ⟨a.l, true⟩)) := ldX hd rfl
theorem lS4 (hd : p ∉ N.l) : hLoad 1 false [.pointer (some ⟨p, 4, none⟩)] K (putA N A (σ.set p ⟨a.l, true⟩)) = K (.int .i64 a.at') (putA N A (σ.set p ⟨a.l, true⟩)) := ldX hd rfl
theorem sS1 (hd : p ∉ N.l) {v : Int} : hStore 1 [.pointer (some ⟨p, 1, none⟩), .int .i64 v] K (putA N A (σ.set p ⟨a.l, true⟩)) = K undef (putA N A (σ.set p ⟨({ a with pc := v } : Stl).l, true⟩)) := stL _ hd rfl rfl (by show _ ≤ 6; decide) rfl
theorem sS2 (hd : p ∉ N.l) {v : Int} : hStore 1 [.pointer (some ⟨p, 2, none⟩), .int .u64 v] K (putA N A (σ.set p ⟨a.l, true⟩)) = K undef (putA N A (σ.set p ⟨({ a with w := v } : Stl).l, true⟩)) := stL _ hd rfl rfl (by show _ ≤ 6; decide) rfl
theorem sS3 (hd : p ∉ N.l) {v : Int} : hStore 1 [.pointer (some ⟨p, 3, none⟩), .int .u64 v] K (putA N A (σ.set p ⟨a.l, true⟩)) = K undef (putA N A (σ.set p ⟨({ a with since := v } : Stl).l, true⟩)) := stL _ hd rfl rfl (by show _ ≤ 6; decide) rfl
theorem sS4 (hd : p ∉ N.l) {v : Int} : hStore 1 [.pointer (some ⟨p, 4, none⟩), .int .i64 v] K (putA N A (σ.set p ⟨a.l, true⟩)) = K undef (putA N A (σ.set p ⟨({ a with at' := v } : Stl).l, true⟩)) := stL _ hd rfl rfl (by show _ ≤ 6; decide) rfl
theorem sS5 (hd : p ∉ N.l) {v : Bool} : hStore 1 [.pointer (some ⟨p, 5, none⟩), .bool v] K (putA N A (σ.set p ⟨a.l, true⟩)) = K undef (putA N A (σ.set p ⟨({ a with freed := v } : Stl).l, true⟩)) := stL _ hd rfl rfl (by show _ ≤ 6; decide) rfl
end
theorem c_Stl (hN : N.ok) (hC : C.ok) (hA : isA N A σ) {p : Nat} {a : Stl} (hp : σ.get p = some ⟨a.l, true⟩) (hd : p ∉ N.l) (hn : C.len ≤ A.n) (hnn : (A.n : Int) ≤ 200000000) (hw : ∀ i, 0 ≤ A.w i ∧ A.w i < 18446744073709551616) (hf : a.fit C A)
  (hk : ∀ τ, isA N (a.step C who A).2.2 τ → τ.get p = some ⟨(a.step C who A).2.1.l, true⟩ → Keep (p :: N.l) σ τ → K (.bool (a.step C who A).1) τ) : s_a9 [.pointer (some ⟨p, 0, none⟩), N.env C who] K σ := by
 have hT := hC.T; have hS := hC.S; have hC3 := hC.C; have hl := len_bd hC
 have hch : C.chunk C.C = 6 + C.T + 2 * C.S + 3 * C.C := rfl
 have b0 : (0 : Int) < A.n := by omega
 obtain ⟨⟨p0, p1⟩, ⟨h0, h1⟩, ⟨w0, w1⟩, a1⟩ := hf
 have cb : 0 ≤ C.chunk a.ch ∧ C.chunk a.ch + 2 < A.n := by unfold Cf.chunk at *; omega
 have g4 : ∀ {k : Nat} {x y z w : Int}, gStore 4 [.pointer (some ⟨k, 0, some 0⟩), .agg #[.int .i64 x, .int .i64 y, .int .i64 z, .int .i64 w]] [.int .i64 0, .int .i64 0, .int .i64 0, .int .i64 0] = some [.int .i64 x, .int .i64 y, .int .i64 z, .int .i64 w] := fun {_ _ _ _ _} => rfl
 have f0 : ∀ (x y z w : Value) (K : Value → Prop), xF (fFldV 0 1 false) [.agg #[x, y, z, w]] K = K x := fun _ _ _ _ K => nr rfl
 have s7 : sub (N.el C who) 0 7 true = some C.v := rfl
 rw [hA.obj hp]
 unfold Stl.step at hk
 by_cases c0 : a.pc = 0
 ·simp only [if_pos c0] at hk
  simp only [s_a9, w_a9, lS0 hd, lS2 hd, lS1 hd, c_Chunk hC h0 (show a.ch ≤ 65536 by omega), c_wChunk w0 w1, g4, c0, c_Load hN cb.1 (show C.chunk a.ch < A.n by omega), sS2 hd, sS1 hd, c_wChunk (hw (C.chunk a.ch)).1 (hw (C.chunk a.ch)).2, f0, ruS, ruL, ruE, Nat.reduceAdd, reduceIte, Int.reduceLT, Int.reduceLE, Int.reduceEq, Int.reduceNeg, Int.reduceAdd, Int.reduceSub, Nat.reduceLeDiff, Nat.reduceLT]
  exact behind hN hd hk
 by_cases c1 : a.pc = 1
 ·simp only [if_neg c0, if_pos c1] at hk
  simp only [s_a9, w_a9, lS0 hd, lS2 hd, lS1 hd, c_Chunk hC h0 (show a.ch ≤ 65536 by omega), c_wChunk w0 w1, g4, c1, ruS, ruL, ruE, Nat.reduceAdd, reduceIte, Int.reduceLT, Int.reduceLE, Int.reduceEq, Int.reduceNeg, Int.reduceAdd, Int.reduceSub, Nat.reduceLeDiff, Nat.reduceLT]
  rw [IntWalk.i64_in (C.chunk a.ch + 2) (by omega)]
  simp only [c_Load hN (show 0 ≤ C.chunk a.ch + 2 by omega) cb.2, sS3 hd, sS1 hd, w_a9_j1, w_a9_j1b, ruS, ruL, ruE, Nat.reduceAdd, reduceIte, Int.reduceLT, Int.reduceLE, Int.reduceEq, Int.reduceNeg, Int.reduceAdd, Int.reduceSub, Nat.reduceLeDiff, Nat.reduceLT]
  exact behind hN hd hk
 by_cases c2 : a.pc = 2
 ·simp only [if_neg c0, if_neg c1, if_pos c2] at hk
  simp only [s_a9, w_a9, lS0 hd, lS2 hd, lS1 hd, c_Chunk hC h0 (show a.ch ≤ 65536 by omega), c_wChunk w0 w1, g4, c2, sS1 hd, c_Epoch, c_Load hN (Int.le_refl 0) b0, lS3 hd, and_self, ruS, ruL, ruE, Nat.reduceAdd, reduceIte, Int.reduceLT, Int.reduceLE, Int.reduceEq, Int.reduceNeg, Int.reduceAdd, Int.reduceSub, Nat.reduceLeDiff, Nat.reduceLT]
  exact behind hN hd hk
 by_cases c3 : a.pc = 3
 ·simp only [if_neg c0, if_neg c1, if_neg c2, if_pos c3] at hk
  obtain ⟨q0, q1⟩ := a1 c3
  have bb : 0 ≤ C.base a.ch := by have := hC.W; have := base_ge hC h0 h1 (Int.le_refl 0); omega
  simp only [s_a9, w_a9, lS0 hd, lS2 hd, lS1 hd, c_Chunk hC h0 (show a.ch ≤ 65536 by omega), c_wChunk w0 w1, g4, c3, c_Base hC h0 (show a.ch ≤ 65536 by omega), lS4 hd, ruS, ruL, ruE, Nat.reduceAdd, reduceIte, Int.reduceLT, Int.reduceLE, Int.reduceEq, Int.reduceNeg, Int.reduceAdd, Int.reduceSub, Nat.reduceLeDiff, Nat.reduceLT]
  rw [IntWalk.i64_in (C.base a.ch + a.at') (by omega)]
  simp only [c_Store hN (show 0 ≤ C.base a.ch + a.at' by omega) q1, lS4 hd, sS4 hd, ruS, ruL, ruE, Nat.reduceAdd, reduceIte, Int.reduceLT, Int.reduceLE, Int.reduceEq, Int.reduceNeg, Int.reduceAdd, Int.reduceSub, Nat.reduceLeDiff, Nat.reduceLT]
  rw [IntWalk.i64_in (a.at' + 1) (by omega)]
  by_cases c : chU a.w ≤ a.at' + 1
  ·simp only [if_pos c] at hk
   simp only [c, sS1 hd, w_a9_j1, w_a9_j1b, ruS, ruL, ruE, Nat.reduceAdd, reduceIte, Int.reduceLT, Int.reduceLE, Int.reduceEq, Int.reduceNeg, Int.reduceAdd, Int.reduceSub, Nat.reduceLeDiff, Nat.reduceLT]
   exact behind hN hd hk
  ·simp only [if_neg c] at hk
   simp only [c, w_a9_j1, w_a9_j1b, ruS, ruL, ruE, Nat.reduceAdd, reduceIte, Int.reduceLT, Int.reduceLE, Int.reduceEq, Int.reduceNeg, Int.reduceAdd, Int.reduceSub, Nat.reduceLeDiff, Nat.reduceLT]
   exact behind hN hd hk
 by_cases c4 : a.pc = 4
 ·simp only [if_neg c0, if_neg c1, if_neg c2, if_neg c3, if_pos c4] at hk
  simp only [s_a9, w_a9, lS0 hd, lS2 hd, lS1 hd, c_Chunk hC h0 (show a.ch ≤ 65536 by omega), c_wChunk w0 w1, g4, c4, ruS, ruL, ruE, Nat.reduceAdd, reduceIte, Int.reduceLT, Int.reduceLE, Int.reduceEq, Int.reduceNeg, Int.reduceAdd, Int.reduceSub, Nat.reduceLeDiff, Nat.reduceLT]
  rw [IntWalk.i64_in (C.chunk a.ch + 1) (by omega)]
  simp only [c_Store hN (show 0 ≤ C.chunk a.ch + 1 by omega) (show C.chunk a.ch + 1 < A.n by omega), sS1 hd, w_a9_j1, w_a9_j1b, ruS, ruL, ruE, Nat.reduceAdd, reduceIte, Int.reduceLT, Int.reduceLE, Int.reduceEq, Int.reduceNeg, Int.reduceAdd, Int.reduceSub, Nat.reduceLeDiff, Nat.reduceLT]
  exact behind hN hd hk
 have c5 : a.pc = 5 := by omega
 have b4 : ∀ (x : Int) (K : Value → Prop), xF (fBuild [(0, 1), (1, 1), (2, 1), (3, 1)] [.int .i64 0, .int .i64 0, .int .i64 0, .int .i64 0] [3]) [.int .i64 x] K = K (.agg #[.int .i64 0, .int .i64 0, .int .i64 0, .int .i64 x]) := fun _ K => nr rfl
 have hcn : 0 ≤ chN a.w ∧ chN a.w ≤ 68719476735 := by unfold chN; omega
 simp only [if_neg c0, if_neg c1, if_neg c2, if_neg c3, if_neg c4] at hk
 simp only [s_a9, w_a9, lS0 hd, lS2 hd, lS1 hd, c_Chunk hC h0 (show a.ch ≤ 65536 by omega), c_wChunk w0 w1, g4, c5, ruS, ruL, ruE, Nat.reduceAdd, reduceIte, Int.reduceLT, Int.reduceLE, Int.reduceEq, Int.reduceNeg, Int.reduceAdd, Int.reduceSub, Nat.reduceLeDiff, Nat.reduceLT]
 rw [IntWalk.i64_in (chN a.w + 1) (by omega)]
 simp only [b4, c_PutChunk, c_Store hN cb.1 (show C.chunk a.ch < A.n by omega), sS5 hd, ruS, ruL, ruE, Nat.reduceAdd, reduceIte, Int.reduceLT, Int.reduceLE, Int.reduceEq, Int.reduceNeg, Int.reduceAdd, Int.reduceSub, Nat.reduceLeDiff, Nat.reduceLT]
 exact behind hN hd hk
theorem c_NewStl {ch : Int} (hk : ∀ id τ, σ.get id = none → τ.get id = some ⟨(Stl.new ch).l, true⟩ → Ext σ τ → K (.pointer (some ⟨id, 0, none⟩)) τ) : s_a7 [.int .i64 ch] K σ := by
 have b : ∀ K : Value → Prop, xF (fBuild [(0, 1), (1, 1), (2, 1), (3, 1), (4, 1), (5, 1)] [.int .i64 0, .int .i64 0, .int .u64 0, .int .u64 0, .int .i64 0, .bool false] [0]) [.int .i64 ch] K = K (.agg (Stl.new ch).l.toArray) := fun K => nr rfl
 simp only [s_a7, w_a7, b, ruS, ruL, ruE, Nat.reduceAdd, reduceIte, Int.reduceLT, Int.reduceLE, Int.reduceEq, Int.reduceNeg, Int.reduceAdd, Int.reduceSub, Nat.reduceLeDiff, Nat.reduceLT]
 exact hBox_i (cs := (Stl.new ch).l) rfl hk
theorem c_Freed {p : Nat} {a : Stl} (hp : σ.get p = some ⟨a.l, true⟩) (hk : K (.bool a.freed) σ) : s_a8 [.pointer (some ⟨p, 0, none⟩)] K σ := by
 simp only [s_a8, w_a8, ruS, ruL, ruE, Nat.reduceAdd, reduceIte, Int.reduceLT, Int.reduceLE, Int.reduceEq, Int.reduceNeg, Int.reduceAdd, Int.reduceSub, Nat.reduceLeDiff, Nat.reduceLT]
 rw [ldG hp (show sub a.l 5 1 false = some (.bool a.freed) from rfl)]
 exact hk
end Go.Fl
namespace Go.Fl
open Go
set_option linter.unusedVariables false
set_option linter.unusedSimpArgs false
variable {N : Nm} {A B : Ar} {σ : Mem} {K : Value → Mem → Prop} {C : Cf} {who : Int}
structure Cr where
 pc : Int
 x1 : Value
 at' : Int
 pos : Int
 w : Int
 now : Int
 x6 : Value
 x7 : Value
 x8 : Value
 ev : Int
 lf : Int
 fd : Int
 mo : Int
 rd : Int
 ev2 : Int
 lf2 : Int
 fd2 : Int
 mo2 : Int
 rd2 : Int
 idle : Int
def Cr.l (c : Cr) : List Value := [.int .i64 c.pc, c.x1, .int .i64 c.at', .int .i64 c.pos, .int .u64 c.w, .int .u64 c.now, c.x6, c.x7, c.x8, .int .i64 c.ev, .int .i64 c.lf, .int .i64 c.fd, .int .i64 c.mo, .int .i64 c.rd, .int .i64 c.ev2, .int .i64 c.lf2, .int .i64 c.fd2, .int .i64 c.mo2, .int .i64 c.rd2, .int .i64 c.idle]
section
variable {p : Nat} {c : Cr}
theorem lC0 (hd : p ∉ N.l) : hLoad 1 false [.pointer (some ⟨p, 0, none⟩)] K (putA N A (σ.set p ⟨c.l, true⟩)) = K (.int .i64 c.pc) (putA N A (σ.set p ⟨c.l, true⟩)) := ldX hd rfl
theorem lC1 (hd : p ∉ N.l) : hLoad 1 false [.pointer (some ⟨p, 1, none⟩)] K (putA N A (σ.set p ⟨c.l, true⟩)) = K c.x1 (putA N A (σ.set p ⟨c.l, true⟩)) := ldX hd rfl
theorem lC2 (hd : p ∉ N.l) : hLoad 1 false [.pointer (some ⟨p, 2, none⟩)] K (putA N A (σ.set p ⟨c.l, true⟩)) = K (.int .i64 c.at') (putA N A (σ.set p ⟨c.l, true⟩)) := ldX hd rfl
theorem lC3 (hd : p ∉ N.l) : hLoad 1 false [.pointer (some ⟨p, 3, none⟩)] K (putA N A (σ.set p ⟨c.l, true⟩)) = K (.int .i64 c.pos) (putA N A (σ.set p ⟨c.l, true⟩)) := ldX hd rfl
theorem lC4 (hd : p ∉ N.l) : hLoad 1 false [.pointer (some ⟨p, 4, none⟩)] K (putA N A (σ.set p ⟨c.l, true⟩)) = K (.int .u64 c.w) (putA N A (σ.set p ⟨c.l, true⟩)) := ldX hd rfl
theorem lC5 (hd : p ∉ N.l) : hLoad 1 false [.pointer (some ⟨p, 5, none⟩)] K (putA N A (σ.set p ⟨c.l, true⟩)) = K (.int .u64 c.now) (putA N A (σ.set p ⟨c.l, true⟩)) := ldX hd rfl
theorem lC6 (hd : p ∉ N.l) : hLoad 1 false [.pointer (some ⟨p, 6, none⟩)] K (putA N A (σ.set p ⟨c.l, true⟩)) = K c.x6 (putA N A (σ.set p ⟨c.l, true⟩)) := ldX hd rfl
theorem lC7 (hd : p ∉ N.l) : hLoad 1 false [.pointer (some ⟨p, 7, none⟩)] K (putA N A (σ.set p ⟨c.l, true⟩)) = K c.x7 (putA N A (σ.set p ⟨c.l, true⟩)) := ldX hd rfl
theorem lC8 (hd : p ∉ N.l) : hLoad 1 false [.pointer (some ⟨p, 8, none⟩)] K (putA N A (σ.set p ⟨c.l, true⟩)) = K c.x8 (putA N A (σ.set p ⟨c.l, true⟩)) := ldX hd rfl
theorem lC9 (hd : p ∉ N.l) : hLoad 1 false [.pointer (some ⟨p, 9, none⟩)] K (putA N A (σ.set p ⟨c.l, true⟩)) = K (.int .i64 c.ev) (putA N A (σ.set p ⟨c.l, true⟩)) := ldX hd rfl
theorem lC10 (hd : p ∉ N.l) : hLoad 1 false [.pointer (some ⟨p, 10, none⟩)] K (putA N A (σ.set p ⟨c.l, true⟩)) = K (.int .i64 c.lf) (putA N A (σ.set p ⟨c.l, true⟩)) := ldX hd rfl
theorem lC11 (hd : p ∉ N.l) : hLoad 1 false [.pointer (some ⟨p, 11, none⟩)] K (putA N A (σ.set p ⟨c.l, true⟩)) = K (.int .i64 c.fd) (putA N A (σ.set p ⟨c.l, true⟩)) := ldX hd rfl
theorem lC12 (hd : p ∉ N.l) : hLoad 1 false [.pointer (some ⟨p, 12, none⟩)] K (putA N A (σ.set p ⟨c.l, true⟩)) = K (.int .i64 c.mo) (putA N A (σ.set p ⟨c.l, true⟩)) := ldX hd rfl
theorem lC13 (hd : p ∉ N.l) : hLoad 1 false [.pointer (some ⟨p, 13, none⟩)] K (putA N A (σ.set p ⟨c.l, true⟩)) = K (.int .i64 c.rd) (putA N A (σ.set p ⟨c.l, true⟩)) := ldX hd rfl
theorem lC14 (hd : p ∉ N.l) : hLoad 1 false [.pointer (some ⟨p, 14, none⟩)] K (putA N A (σ.set p ⟨c.l, true⟩)) = K (.int .i64 c.ev2) (putA N A (σ.set p ⟨c.l, true⟩)) := ldX hd rfl
theorem lC16 (hd : p ∉ N.l) : hLoad 1 false [.pointer (some ⟨p, 16, none⟩)] K (putA N A (σ.set p ⟨c.l, true⟩)) = K (.int .i64 c.fd2) (putA N A (σ.set p ⟨c.l, true⟩)) := ldX hd rfl
theorem lC17 (hd : p ∉ N.l) : hLoad 1 false [.pointer (some ⟨p, 17, none⟩)] K (putA N A (σ.set p ⟨c.l, true⟩)) = K (.int .i64 c.mo2) (putA N A (σ.set p ⟨c.l, true⟩)) := ldX hd rfl
theorem lC19 (hd : p ∉ N.l) : hLoad 1 false [.pointer (some ⟨p, 19, none⟩)] K (putA N A (σ.set p ⟨c.l, true⟩)) = K (.int .i64 c.idle) (putA N A (σ.set p ⟨c.l, true⟩)) := ldX hd rfl
theorem sC0 (hd : p ∉ N.l) {v : Int} : hStore 1 [.pointer (some ⟨p, 0, none⟩), .int .i64 v] K (putA N A (σ.set p ⟨c.l, true⟩)) = K undef (putA N A (σ.set p ⟨({ c with pc := v } : Cr).l, true⟩)) := stL _ hd rfl rfl (by show _ ≤ 20; decide) rfl
theorem sC1n (hd : p ∉ N.l) : hStore 1 [.pointer (some ⟨p, 1, none⟩), .slice none 0 0] K (putA N A (σ.set p ⟨c.l, true⟩)) = K undef (putA N A (σ.set p ⟨({ c with x1 := .slice none 0 0 } : Cr).l, true⟩)) := stL _ hd rfl rfl (by show _ ≤ 20; decide) rfl
theorem sC1p (hd : p ∉ N.l) {q n : Nat} : hStore 1 [.pointer (some ⟨p, 1, none⟩), .slice (some ⟨q, 0, none⟩) n 6] K (putA N A (σ.set p ⟨c.l, true⟩)) = K undef (putA N A (σ.set p ⟨({ c with x1 := .slice (some ⟨q, 0, none⟩) n 6 } : Cr).l, true⟩)) := stL _ hd rfl rfl (by show _ ≤ 20; decide) rfl
theorem sC2 (hd : p ∉ N.l) {v : Int} : hStore 1 [.pointer (some ⟨p, 2, none⟩), .int .i64 v] K (putA N A (σ.set p ⟨c.l, true⟩)) = K undef (putA N A (σ.set p ⟨({ c with at' := v } : Cr).l, true⟩)) := stL _ hd rfl rfl (by show _ ≤ 20; decide) rfl
theorem sC3 (hd : p ∉ N.l) {v : Int} : hStore 1 [.pointer (some ⟨p, 3, none⟩), .int .i64 v] K (putA N A (σ.set p ⟨c.l, true⟩)) = K undef (putA N A (σ.set p ⟨({ c with pos := v } : Cr).l, true⟩)) := stL _ hd rfl rfl (by show _ ≤ 20; decide) rfl
theorem sC4 (hd : p ∉ N.l) {v : Int} : hStore 1 [.pointer (some ⟨p, 4, none⟩), .int .u64 v] K (putA N A (σ.set p ⟨c.l, true⟩)) = K undef (putA N A (σ.set p ⟨({ c with w := v } : Cr).l, true⟩)) := stL _ hd rfl rfl (by show _ ≤ 20; decide) rfl
theorem sC5 (hd : p ∉ N.l) {v : Int} : hStore 1 [.pointer (some ⟨p, 5, none⟩), .int .u64 v] K (putA N A (σ.set p ⟨c.l, true⟩)) = K undef (putA N A (σ.set p ⟨({ c with now := v } : Cr).l, true⟩)) := stL _ hd rfl rfl (by show _ ≤ 20; decide) rfl
theorem sC6p (hd : p ∉ N.l) {q : Nat} : hStore 1 [.pointer (some ⟨p, 6, none⟩), .pointer (some ⟨q, 0, none⟩)] K (putA N A (σ.set p ⟨c.l, true⟩)) = K undef (putA N A (σ.set p ⟨({ c with x6 := .pointer (some ⟨q, 0, none⟩) } : Cr).l, true⟩)) := stL _ hd rfl rfl (by show _ ≤ 20; decide) rfl
theorem sC7n (hd : p ∉ N.l) : hStore 1 [.pointer (some ⟨p, 7, none⟩), .pointer none] K (putA N A (σ.set p ⟨c.l, true⟩)) = K undef (putA N A (σ.set p ⟨({ c with x7 := .pointer none } : Cr).l, true⟩)) := stL _ hd rfl rfl (by show _ ≤ 20; decide) rfl
theorem sC7p (hd : p ∉ N.l) {q : Nat} : hStore 1 [.pointer (some ⟨p, 7, none⟩), .pointer (some ⟨q, 0, none⟩)] K (putA N A (σ.set p ⟨c.l, true⟩)) = K undef (putA N A (σ.set p ⟨({ c with x7 := .pointer (some ⟨q, 0, none⟩) } : Cr).l, true⟩)) := stL _ hd rfl rfl (by show _ ≤ 20; decide) rfl
theorem sC8n (hd : p ∉ N.l) : hStore 1 [.pointer (some ⟨p, 8, none⟩), .pointer none] K (putA N A (σ.set p ⟨c.l, true⟩)) = K undef (putA N A (σ.set p ⟨({ c with x8 := .pointer none } : Cr).l, true⟩)) := stL _ hd rfl rfl (by show _ ≤ 20; decide) rfl
theorem sC8p (hd : p ∉ N.l) {q : Nat} : hStore 1 [.pointer (some ⟨p, 8, none⟩), .pointer (some ⟨q, 0, none⟩)] K (putA N A (σ.set p ⟨c.l, true⟩)) = K undef (putA N A (σ.set p ⟨({ c with x8 := .pointer (some ⟨q, 0, none⟩) } : Cr).l, true⟩)) := stL _ hd rfl rfl (by show _ ≤ 20; decide) rfl
theorem sC9 (hd : p ∉ N.l) {v : Int} : hStore 1 [.pointer (some ⟨p, 9, none⟩), .int .i64 v] K (putA N A (σ.set p ⟨c.l, true⟩)) = K undef (putA N A (σ.set p ⟨({ c with ev := v } : Cr).l, true⟩)) := stL _ hd rfl rfl (by show _ ≤ 20; decide) rfl
theorem sC10 (hd : p ∉ N.l) {v : Int} : hStore 1 [.pointer (some ⟨p, 10, none⟩), .int .i64 v] K (putA N A (σ.set p ⟨c.l, true⟩)) = K undef (putA N A (σ.set p ⟨({ c with lf := v } : Cr).l, true⟩)) := stL _ hd rfl rfl (by show _ ≤ 20; decide) rfl
theorem sC11 (hd : p ∉ N.l) {v : Int} : hStore 1 [.pointer (some ⟨p, 11, none⟩), .int .i64 v] K (putA N A (σ.set p ⟨c.l, true⟩)) = K undef (putA N A (σ.set p ⟨({ c with fd := v } : Cr).l, true⟩)) := stL _ hd rfl rfl (by show _ ≤ 20; decide) rfl
theorem sC12 (hd : p ∉ N.l) {v : Int} : hStore 1 [.pointer (some ⟨p, 12, none⟩), .int .i64 v] K (putA N A (σ.set p ⟨c.l, true⟩)) = K undef (putA N A (σ.set p ⟨({ c with mo := v } : Cr).l, true⟩)) := stL _ hd rfl rfl (by show _ ≤ 20; decide) rfl
theorem sC13 (hd : p ∉ N.l) {v : Int} : hStore 1 [.pointer (some ⟨p, 13, none⟩), .int .i64 v] K (putA N A (σ.set p ⟨c.l, true⟩)) = K undef (putA N A (σ.set p ⟨({ c with rd := v } : Cr).l, true⟩)) := stL _ hd rfl rfl (by show _ ≤ 20; decide) rfl
theorem sC19 (hd : p ∉ N.l) {v : Int} : hStore 1 [.pointer (some ⟨p, 19, none⟩), .int .i64 v] K (putA N A (σ.set p ⟨c.l, true⟩)) = K undef (putA N A (σ.set p ⟨({ c with idle := v } : Cr).l, true⟩)) := stL _ hd rfl rfl (by show _ ≤ 20; decide) rfl
end
theorem lC9w {p : Nat} {c : Cr} (hd : p ∉ N.l) : hLoad 5 true [.pointer (some ⟨p, 9, none⟩)] K (putA N A (σ.set p ⟨c.l, true⟩)) = K (.agg #[.int .i64 c.ev, .int .i64 c.lf, .int .i64 c.fd, .int .i64 c.mo, .int .i64 c.rd]) (putA N A (σ.set p ⟨c.l, true⟩)) := ldX hd rfl
theorem sC14w {p : Nat} {c : Cr} (hd : p ∉ N.l) {a b d e f : Int} : hStore 5 [.pointer (some ⟨p, 14, none⟩), .agg #[.int .i64 a, .int .i64 b, .int .i64 d, .int .i64 e, .int .i64 f]] K (putA N A (σ.set p ⟨c.l, true⟩)) = K undef (putA N A (σ.set p ⟨({ c with ev2 := a, lf2 := b, fd2 := d, mo2 := e, rd2 := f } : Cr).l, true⟩)) :=
 stLa (c := [.int .i64 a, .int .i64 b, .int .i64 d, .int .i64 e, .int .i64 f]) _ hd rfl rfl (by show _ ≤ 20; decide) rfl
def chw (w st : Int) : Int := putChunk st (chC w) (chU w) (chN w + 1)
theorem g4s {k : Nat} {x y z w : Int} : gStore 4 [.pointer (some ⟨k, 0, some 0⟩), .agg #[.int .i64 x, .int .i64 y, .int .i64 z, .int .i64 w]] [.int .i64 0, .int .i64 0, .int .i64 0, .int .i64 0] = some [.int .i64 x, .int .i64 y, .int .i64 z, .int .i64 w] := rfl
theorem s4s {x y z w : Value} : sub [x, y, z, w] 0 4 true = some (.agg #[x, y, z, w]) := rfl
theorem c_Cochunk {p : Nat} {c : Cr} {st : Int} (hd : p ∉ N.l) (hw : 0 ≤ c.w ∧ c.w < 18446744073709551616) : s_aq [.pointer (some ⟨p, 0, none⟩), .int .i64 st] K (putA N A (σ.set p ⟨c.l, true⟩)) = K (.int .u64 (chw c.w st)) (putA N A (σ.set p ⟨c.l, true⟩)) := by
 have hcn := chN_bd c.w
 have p3 : ∀ {k : Nat} {x a b d e : Int}, gStore 1 [.pointer (some ⟨k, 3, some 0⟩), .int .i64 x] [.int .i64 a, .int .i64 b, .int .i64 d, .int .i64 e] = some [.int .i64 a, .int .i64 b, .int .i64 d, .int .i64 x] := fun {_ _ _ _ _ _} => rfl
 have p0 : ∀ {k : Nat} {x a b d e : Int}, gStore 1 [.pointer (some ⟨k, 0, some 0⟩), .int .i64 x] [.int .i64 a, .int .i64 b, .int .i64 d, .int .i64 e] = some [.int .i64 x, .int .i64 b, .int .i64 d, .int .i64 e] := fun {_ _ _ _ _ _} => rfl
 have l4 : ∀ {k : Nat} {x y z w : Value}, gLoad 4 true [.pointer (some ⟨k, 0, some 0⟩)] [x, y, z, w] = some (.agg #[x, y, z, w]) := fun {_ _ _ _ _} => rfl
 simp only [s_aq, w_aq, lC4 hd, c_wChunk hw.1 hw.2, g4s, ruS, ruL, ruE, Nat.reduceAdd, reduceIte, Int.reduceLT, Int.reduceLE, Int.reduceEq, Int.reduceNeg, Int.reduceAdd, Int.reduceSub, Nat.reduceLeDiff, Nat.reduceLT]
 rw [IntWalk.i64_in (chN c.w + 1) (by omega)]
 simp only [p3, p0, s4s, l4, c_PutChunk, ruS, ruL, ruE, Nat.reduceAdd, reduceIte, Int.reduceLT, Int.reduceLE, Int.reduceEq, Int.reduceNeg, Int.reduceAdd, Int.reduceSub, Nat.reduceLeDiff, Nat.reduceLT]
 rfl
def Cr.next (c : Cr) (k u : Int) : Cr := { c with pos := c.pos + roomOf k, pc := if u ≤ c.pos + roomOf k then 6 else 4 }
theorem c_Conext {p : Nat} {c : Cr} {st k u n : Int} (hd : p ∉ N.l) (hk : 0 ≤ k ∧ k ≤ 3) (hp : 0 ≤ c.pos ∧ c.pos ≤ 200000000) : s_at [.pointer (some ⟨p, 0, none⟩), .agg #[.int .i64 st, .int .i64 k, .int .i64 u, .int .i64 n]] K (putA N A (σ.set p ⟨c.l, true⟩)) =
  K (.tuple #[]) (putA N A (σ.set p ⟨(c.next k u).l, true⟩)) := by
 have g4 : gBox 4 [.agg #[.int .i64 st, .int .i64 k, .int .i64 u, .int .i64 n]] [] = some [.int .i64 st, .int .i64 k, .int .i64 u, .int .i64 n] := rfl
 have hr := room_bd hk.1 hk.2
 simp only [s_at, w_at, g4, lC3 hd, c_Room hk.1 hk.2, ruS, ruL, ruE, Nat.reduceAdd, reduceIte, Int.reduceLT, Int.reduceLE, Int.reduceEq, Int.reduceNeg, Int.reduceAdd, Int.reduceSub, Nat.reduceLeDiff, Nat.reduceLT]
 rw [IntWalk.i64_in (c.pos + roomOf k) (by omega)]
 simp only [sC3 hd, sC0 hd, lC3 hd, ruS, ruL, ruE, Nat.reduceAdd, reduceIte, Int.reduceLT, Int.reduceLE, Int.reduceEq, Int.reduceNeg, Int.reduceAdd, Int.reduceSub, Nat.reduceLeDiff, Nat.reduceLT]
 unfold Cr.next
 by_cases c1 : u ≤ c.pos + roomOf k
 ·simp only [c1, sC0 hd, ruS, ruL, ruE, Nat.reduceAdd, reduceIte, Int.reduceLT, Int.reduceLE, Int.reduceEq, Int.reduceNeg, Int.reduceAdd, Int.reduceSub, Nat.reduceLeDiff, Nat.reduceLT]
 ·simp only [c1, ruS, ruL, ruE, Nat.reduceAdd, reduceIte, Int.reduceLT, Int.reduceLE, Int.reduceEq, Int.reduceNeg, Int.reduceAdd, Int.reduceSub, Nat.reduceLeDiff, Nat.reduceLT]
theorem c_Co3 (hN : N.ok) (hC : C.ok) (hA : isA N A σ) {p : Nat} {c : Cr} (hp : σ.get p = some ⟨c.l, true⟩) (hd : p ∉ N.l) (h : c.pc = 3) (hn : C.len ≤ A.n) (h0 : 0 ≤ c.at' ∧ c.at' < C.C) (hw : 0 ≤ c.w ∧ c.w < 18446744073709551616)
  (hk : ∀ τ, isA N ((A.by who).cas (C.chunk c.at') c.w (chw c.w 2)) τ → τ.get p = some ⟨({ c with pos := 0, pc := if A.w (C.chunk c.at') = c.w then 4 else 10, w := if A.w (C.chunk c.at') = c.w then chw c.w 2 else c.w } : Cr).l, true⟩ → Keep (p :: N.l) σ τ → K (.tuple #[]) τ) : s_ao [.pointer (some ⟨p, 0, none⟩), N.env C who] K σ := by
 have hT := hC.T; have hS := hC.S; have hC3 := hC.C; have hl := len_bd hC
 have hch : C.chunk C.C = 6 + C.T + 2 * C.S + 3 * C.C := rfl
 have cb : 0 ≤ C.chunk c.at' ∧ C.chunk c.at' < A.n := by unfold Cf.chunk at *; omega
 rw [hA.obj hp]
 simp only [s_ao, w_ao, w_ao_j1, w_ao_j1b, lC0 hd, h, sC3 hd, sC0 hd, lC2 hd, c_Chunk hC h0.1 (show c.at' ≤ 65536 by omega), lC4 hd, ruS, ruL, ruE, Nat.reduceAdd, reduceIte, Int.reduceLT, Int.reduceLE, Int.reduceEq, Int.reduceNeg, Int.reduceAdd, Int.reduceSub, Nat.reduceLeDiff, Nat.reduceLT]
 rw [c_Cochunk (c := { c with pos := 0, pc := 10 }) hd hw, c_Cas hN cb.1 cb.2]
 by_cases e : A.w (C.chunk c.at') = c.w
 ·simp only [if_pos e] at hk
  simp only [e, decide_true, ruS, ruL, ruE, Nat.reduceAdd, reduceIte, Int.reduceLT, Int.reduceLE, Int.reduceEq, Int.reduceNeg, Int.reduceAdd, Int.reduceSub, Nat.reduceLeDiff, Nat.reduceLT]
  rw [c_Cochunk (c := { c with pos := 0, pc := 10 }) hd hw]
  simp only [sC4 hd, sC0 hd, ruS, ruL, ruE, Nat.reduceAdd, reduceIte, Int.reduceLT, Int.reduceLE, Int.reduceEq, Int.reduceNeg, Int.reduceAdd, Int.reduceSub, Nat.reduceLeDiff, Nat.reduceLT]
  exact behind hN hd hk
 ·simp only [if_neg e] at hk
  simp only [e, decide_false, ruS, ruL, ruE, Nat.reduceAdd, reduceIte, Int.reduceLT, Int.reduceLE, Int.reduceEq, Int.reduceNeg, Int.reduceAdd, Int.reduceSub, Nat.reduceLeDiff, Nat.reduceLT]
  exact behind hN hd hk
theorem c_Co6 (hN : N.ok) (hC : C.ok) (hA : isA N A σ) {p : Nat} {c : Cr} (hp : σ.get p = some ⟨c.l, true⟩) (hd : p ∉ N.l) (h : c.pc = 6) (hn : C.len ≤ A.n)
  (hk : ∀ τ, isA N ((A.by who).load 0) τ → τ.get p = some ⟨({ c with now := A.w 0, pc := 7 } : Cr).l, true⟩ → Keep (p :: N.l) σ τ → K (.tuple #[]) τ) : s_ao [.pointer (some ⟨p, 0, none⟩), N.env C who] K σ := by
 have hT := hC.T; have hS := hC.S; have hC3 := hC.C; have hl := len_bd hC
 have hch : C.chunk C.C = 6 + C.T + 2 * C.S + 3 * C.C := rfl
 have b0 : (0 : Int) < A.n := by omega
 rw [hA.obj hp]
 simp only [s_ao, w_ao, w_ao_j1, w_ao_j1b, lC0 hd, h, c_Epoch, c_Load hN (Int.le_refl 0) b0, sC5 hd, sC0 hd, ruS, ruL, ruE, Nat.reduceAdd, reduceIte, Int.reduceLT, Int.reduceLE, Int.reduceEq, Int.reduceNeg, Int.reduceAdd, Int.reduceSub, Nat.reduceLeDiff, Nat.reduceLT]
 exact behind hN hd hk
theorem c_Co7 (hN : N.ok) (hC : C.ok) (hA : isA N A σ) {p : Nat} {c : Cr} (hp : σ.get p = some ⟨c.l, true⟩) (hd : p ∉ N.l) (h : c.pc = 7) (hn : C.len ≤ A.n) (hnn : (A.n : Int) ≤ 200000000) (h0 : 0 ≤ c.at' ∧ c.at' < C.C)
  (hk : ∀ τ, isA N ((A.by who).store (C.chunk c.at' + 2) c.now) τ → τ.get p = some ⟨({ c with pc := 8 } : Cr).l, true⟩ → Keep (p :: N.l) σ τ → K (.tuple #[]) τ) : s_ao [.pointer (some ⟨p, 0, none⟩), N.env C who] K σ := by
 have hT := hC.T; have hS := hC.S; have hC3 := hC.C; have hl := len_bd hC
 have hch : C.chunk C.C = 6 + C.T + 2 * C.S + 3 * C.C := rfl
 have cb : 0 ≤ C.chunk c.at' ∧ C.chunk c.at' + 2 < A.n := by unfold Cf.chunk at *; omega
 rw [hA.obj hp]
 simp only [s_ao, w_ao, w_ao_j1, w_ao_j1b, lC0 hd, h, lC2 hd, c_Chunk hC h0.1 (show c.at' ≤ 65536 by omega), ruS, ruL, ruE, Nat.reduceAdd, reduceIte, Int.reduceLT, Int.reduceLE, Int.reduceEq, Int.reduceNeg, Int.reduceAdd, Int.reduceSub, Nat.reduceLeDiff, Nat.reduceLT]
 rw [IntWalk.i64_in (C.chunk c.at' + 2) (by omega)]
 simp only [lC5 hd, c_Store hN (show 0 ≤ C.chunk c.at' + 2 by omega) cb.2, sC0 hd, ruS, ruL, ruE, Nat.reduceAdd, reduceIte, Int.reduceLT, Int.reduceLE, Int.reduceEq, Int.reduceNeg, Int.reduceAdd, Int.reduceSub, Nat.reduceLeDiff, Nat.reduceLT]
 exact behind hN hd hk
theorem c_Co8 (hN : N.ok) (hC : C.ok) (hA : isA N A σ) {p : Nat} {c : Cr} (hp : σ.get p = some ⟨c.l, true⟩) (hd : p ∉ N.l) (h : c.pc = 8) (hn : C.len ≤ A.n) (h0 : 0 ≤ c.at' ∧ c.at' < C.C) (hw : 0 ≤ c.w ∧ c.w < 18446744073709551616) (he : 0 ≤ c.ev ∧ c.ev ≤ 1000000000)
  (hk : ∀ τ, isA N ((A.by who).store (C.chunk c.at') (chw c.w 3)) τ → τ.get p = some ⟨({ c with ev := c.ev + 1, pc := 10 } : Cr).l, true⟩ → Keep (p :: N.l) σ τ → K (.tuple #[]) τ) : s_ao [.pointer (some ⟨p, 0, none⟩), N.env C who] K σ := by
 have hT := hC.T; have hS := hC.S; have hC3 := hC.C; have hl := len_bd hC
 have hch : C.chunk C.C = 6 + C.T + 2 * C.S + 3 * C.C := rfl
 have cb : 0 ≤ C.chunk c.at' ∧ C.chunk c.at' < A.n := by unfold Cf.chunk at *; omega
 rw [hA.obj hp]
 simp only [s_ao, w_ao, w_ao_j1, w_ao_j1b, lC0 hd, h, lC2 hd, c_Chunk hC h0.1 (show c.at' ≤ 65536 by omega), c_Cochunk hd hw, c_Store hN cb.1 cb.2, lC9 hd, ruS, ruL, ruE, Nat.reduceAdd, reduceIte, Int.reduceLT, Int.reduceLE, Int.reduceEq, Int.reduceNeg, Int.reduceAdd, Int.reduceSub, Nat.reduceLeDiff, Nat.reduceLT]
 rw [IntWalk.i64_in (c.ev + 1) (by omega)]
 simp only [sC9 hd, sC0 hd, ruS, ruL, ruE, Nat.reduceAdd, reduceIte, Int.reduceLT, Int.reduceLE, Int.reduceEq, Int.reduceNeg, Int.reduceAdd, Int.reduceSub, Nat.reduceLeDiff, Nat.reduceLT]
 exact behind hN hd hk
theorem c_Co9 (hN : N.ok) (hC : C.ok) (hA : isA N A σ) {p : Nat} {c : Cr} (hp : σ.get p = some ⟨c.l, true⟩) (hd : p ∉ N.l) (h : c.pc = 9) (hn : C.len ≤ A.n) (h0 : 0 ≤ c.at' ∧ c.at' < C.C) (hw : 0 ≤ c.w ∧ c.w < 18446744073709551616) (he : 0 ≤ c.lf ∧ c.lf ≤ 1000000000)
  (hk : ∀ τ, isA N ((A.by who).store (C.chunk c.at') (chw c.w 1)) τ → τ.get p = some ⟨({ c with lf := c.lf + 1, pc := 10 } : Cr).l, true⟩ → Keep (p :: N.l) σ τ → K (.tuple #[]) τ) : s_ao [.pointer (some ⟨p, 0, none⟩), N.env C who] K σ := by
 have hT := hC.T; have hS := hC.S; have hC3 := hC.C; have hl := len_bd hC
 have hch : C.chunk C.C = 6 + C.T + 2 * C.S + 3 * C.C := rfl
 have cb : 0 ≤ C.chunk c.at' ∧ C.chunk c.at' < A.n := by unfold Cf.chunk at *; omega
 rw [hA.obj hp]
 simp only [s_ao, w_ao, w_ao_j1, w_ao_j1b, lC0 hd, h, lC2 hd, c_Chunk hC h0.1 (show c.at' ≤ 65536 by omega), c_Cochunk hd hw, c_Store hN cb.1 cb.2, lC10 hd, ruS, ruL, ruE, Nat.reduceAdd, reduceIte, Int.reduceLT, Int.reduceLE, Int.reduceEq, Int.reduceNeg, Int.reduceAdd, Int.reduceSub, Nat.reduceLeDiff, Nat.reduceLT]
 rw [IntWalk.i64_in (c.lf + 1) (by omega)]
 simp only [sC10 hd, sC0 hd, ruS, ruL, ruE, Nat.reduceAdd, reduceIte, Int.reduceLT, Int.reduceLE, Int.reduceEq, Int.reduceNeg, Int.reduceAdd, Int.reduceSub, Nat.reduceLeDiff, Nat.reduceLT]
 exact behind hN hd hk
theorem c_Co4 (hN : N.ok) (hC : C.ok) (hA : isA N A σ) {p : Nat} {c : Cr} (hp : σ.get p = some ⟨c.l, true⟩) (hd : p ∉ N.l) (h : c.pc = 4) (hn : C.len ≤ A.n) (hnn : (A.n : Int) ≤ 200000000) (h0 : 0 ≤ c.at' ∧ c.at' < C.C) (hw : 0 ≤ c.w ∧ c.w < 18446744073709551616) (hcl : chC c.w ≤ 3) (hpo : 0 ≤ c.pos ∧ C.base c.at' + c.pos < A.n)
  (hwA : ∀ i, 0 ≤ A.w i ∧ A.w i < 18446744073709551616)
  (k3 : hdK (A.w (C.base c.at' + c.pos)) = 3 → ∀ τ, isA N ((A.by who).load (C.base c.at' + c.pos)) τ → τ.get p = some ⟨(c.next (chC c.w) (chU c.w)).l, true⟩ → Keep (p :: N.l) σ τ → K (.tuple #[]) τ)
  (k2 : hdK (A.w (C.base c.at' + c.pos)) = 2 → ∀ q τ, σ.get q = none → isA N ((A.by who).load (C.base c.at' + c.pos)) τ → τ.get p = some ⟨({ c with x6 := .pointer (some ⟨q, 0, none⟩), pc := 5 } : Cr).l, true⟩ →
   MOb N q [q] (Mv.new (C.base c.at' + c.pos) (hdK (A.w (C.base c.at' + c.pos))) (hdS (A.w (C.base c.at' + c.pos))) (hdT (A.w (C.base c.at' + c.pos))) (hdG (A.w (C.base c.at' + c.pos))) (hdO (A.w (C.base c.at' + c.pos)))) τ → Keep (p :: N.l) σ τ → K (.tuple #[]) τ)
  (k1 : hdK (A.w (C.base c.at' + c.pos)) ≠ 3 → hdK (A.w (C.base c.at' + c.pos)) ≠ 2 → ∀ τ, isA N ((A.by who).load (C.base c.at' + c.pos)) τ → τ.get p = some ⟨({ c with pc := 9 } : Cr).l, true⟩ → Keep (p :: N.l) σ τ → K (.tuple #[]) τ) :
  s_ao [.pointer (some ⟨p, 0, none⟩), N.env C who] K σ := by
 have hT := hC.T; have hS := hC.S; have hC3 := hC.C; have hl := len_bd hC
 have hch : C.chunk C.C = 6 + C.T + 2 * C.S + 3 * C.C := rfl
 have bb : 0 ≤ C.base c.at' := by have := base_ge hC h0.1 h0.2 (Int.le_refl 0); omega
 have g5 : ∀ {k : Nat} {x y z w : Int} {u : Bool}, gStore 5 [.pointer (some ⟨k, 0, some 0⟩), .agg #[.int .i64 x, .int .i64 y, .int .i64 z, .int .i64 w, .bool u]] [.int .i64 0, .int .i64 0, .int .i64 0, .int .i64 0, .bool false] = some [.int .i64 x, .int .i64 y, .int .i64 z, .int .i64 w, .bool u] := fun {_ _ _ _ _ _} => rfl
 have l5 : ∀ {k : Nat} {x y z u w : Value}, gLoad 5 true [.pointer (some ⟨k, 0, some 0⟩)] [x, y, z, u, w] = some (.agg #[x, y, z, u, w]) := fun {_ _ _ _ _ _} => rfl
 have s5 : ∀ {x y z u w : Value}, sub [x, y, z, u, w] 0 5 true = some (.agg #[x, y, z, u, w]) := fun {_ _ _ _ _} => rfl
 have l4 : ∀ {k : Nat} {x y z w : Value}, gLoad 4 true [.pointer (some ⟨k, 0, some 0⟩)] [x, y, z, w] = some (.agg #[x, y, z, w]) := fun {_ _ _ _ _} => rfl
 have hcb := chC_bd c.w
 rw [hA.obj hp]
 simp only [s_ao, w_ao, w_ao_j1, w_ao_j1b, s_av, w_av, lC0 hd, h, lC4 hd, c_wChunk hw.1 hw.2, g4s, lC2 hd, c_Base hC h0.1 (show c.at' ≤ 65536 by omega), lC3 hd, ruS, ruL, ruE, Nat.reduceAdd, reduceIte, Int.reduceLT, Int.reduceLE, Int.reduceEq, Int.reduceNeg, Int.reduceAdd, Int.reduceSub, Nat.reduceLeDiff, Nat.reduceLT]
 rw [IntWalk.i64_in (C.base c.at' + c.pos) (by omega)]
 simp only [c_Load hN (show 0 ≤ C.base c.at' + c.pos by omega) hpo.2, c_wHead (hwA (C.base c.at' + c.pos)).1 (hwA (C.base c.at' + c.pos)).2, g5, ruS, ruL, ruE, Nat.reduceAdd, reduceIte, Int.reduceLT, Int.reduceLE, Int.reduceEq, Int.reduceNeg, Int.reduceAdd, Int.reduceSub, Nat.reduceLeDiff, Nat.reduceLT]
 have hp2 : 0 ≤ c.pos ∧ c.pos ≤ 200000000 := by omega
 generalize C.base c.at' + c.pos = ad at *
 by_cases e3 : hdK (A.w ad) = 3
 ·simp only [e3, l4, s4s, c_Conext hd ⟨hcb.1, hcl⟩ hp2, ruS, ruL, ruE, Nat.reduceAdd, reduceIte, Int.reduceLT, Int.reduceLE, Int.reduceEq, Int.reduceNeg, Int.reduceAdd, Int.reduceSub, Nat.reduceLeDiff, Nat.reduceLT]
  exact behind hN hd (k3 e3)
 by_cases e2 : hdK (A.w ad) = 2
 ·simp only [e2, l5, s5, ruS, ruL, ruE, Nat.reduceAdd, reduceIte, Int.reduceLT, Int.reduceLE, Int.reduceEq, Int.reduceNeg, Int.reduceAdd, Int.reduceSub, Nat.reduceLeDiff, Nat.reduceLT]
  have hA1 : isA N ((A.by who).load ad) (putA N ((A.by who).load ad) (σ.set p ⟨c.l, true⟩)) := isA_put hN
  have k0 : Keep (p :: N.l) σ (putA N ((A.by who).load ad) (σ.set p ⟨c.l, true⟩)) := behind (K := fun _ τ => Keep (p :: N.l) σ τ) (v := undef) hN hd fun τ _ _ k => k
  have gp : (putA N ((A.by who).load ad) (σ.set p ⟨c.l, true⟩)).get p = some ⟨c.l, true⟩ := (putA_get hd).trans (Mem.get_set_same _ _ _)
  refine mob_new hA1 fun q τ1 hq hob x1 => ?_
  have hqp : q ≠ p := by rintro rfl; rw [gp] at hq; cases hq
  rw [(hA1.ext x1).obj (x1 _ _ gp)]
  simp only [sC6p hd, sC0 hd, ruS, ruL, ruE, Nat.reduceAdd, reduceIte, Int.reduceLT, Int.reduceLE, Int.reduceEq, Int.reduceNeg, Int.reduceAdd, Int.reduceSub, Nat.reduceLeDiff, Nat.reduceLT]
  refine behind hN hd fun τ2 u1 u2 u3 => ?_
  have hqN := hob.own q (List.mem_singleton.2 rfl)
  have hqL : ∀ i ∈ [q], i ∉ p :: N.l := fun i hi => by
   rw [List.mem_singleton] at hi; subst hi
   exact fun hm => by rcases List.mem_cons.1 hm with r | r; exact hqp r; exact hqN r
  refine k2 e2 q τ2 ?_ u1 u2 (by rw [e2]; exact hob.keep u3 hqL) (Keep.trans k0 (Keep.trans (L := p :: N.l) (Ext.keep (L := p :: N.l) x1) u3))
  ·cases e : σ.get q with
   | none => rfl
   | some b =>
    have := k0 _ _ e (fun hm => by rcases List.mem_cons.1 hm with r | r; exact hqp r; exact hqN r)
    rw [this] at hq; cases hq
 ·simp only [e3, e2, sC0 hd, ruS, ruL, ruE, Nat.reduceAdd, reduceIte, Int.reduceLT, Int.reduceLE, Int.reduceEq, Int.reduceNeg, Int.reduceAdd, Int.reduceSub, Nat.reduceLeDiff, Nat.reduceLT]
  exact behind hN hd (k1 e3 e2)
end Go.Fl
namespace Go.Fl
open Go
set_option linter.unusedVariables false
set_option linter.unusedSimpArgs false
variable {N : Nm} {A B : Ar} {σ : Mem} {K : Value → Mem → Prop} {C : Cf} {who : Int}
theorem appSn {q l : Nat} {L : List Sn} {x : Sn} (h : σ.get q = some ⟨snL L, true⟩) (hl : L.length < 1073741823) (hk : ∀ id τ, σ.get id = none → τ.get id = some ⟨snL (L ++ [x]), true⟩ → Keep [q] σ τ → K (.slice (some ⟨id, 0, none⟩) (L.length + 1) 6) τ) :
  hAppendL 6 48 x.l [.slice (some ⟨q, 0, none⟩) L.length 6, locS l 1 6] K σ := by
 simp only [hAppendL, locS, app, h]
 rw [if_pos ⟨by decide, rfl, rfl⟩, if_pos ⟨trivial, trivial, by decide, by rw [snL_len]; omega, by omega⟩, List.drop_zero]
 intro id hid
 have hne : id ≠ q := by rintro rfl; rw [h] at hid; cases hid
 refine hk id _ hid (by rw [snL_app]; simp [Mem.del, Mem.set, hne, snL]) fun i c hi hn => ?_
 simp only [List.mem_cons, List.not_mem_nil, or_false] at hn
 have : i ≠ id := by rintro rfl; rw [hid] at hi; cases hi
 simp [Mem.del, Mem.set, hn, this, hi]
theorem appSn0 {l : Nat} {x : Sn} (hk : ∀ id τ, σ.get id = none → τ.get id = some ⟨snL [x], true⟩ → Ext σ τ → K (.slice (some ⟨id, 0, none⟩) 1 6) τ) :
  hAppendL 6 48 x.l [.slice none 0 0, locS l 1 6] K σ := by
 simp only [hAppendL, locS, app]
 rw [if_pos ⟨by decide, rfl, rfl⟩, if_neg (by decide), if_pos (by decide)]
 intro id hid
 refine hk id _ hid (by simp [Mem.set, snL]) fun i c hi => ?_
 have : i ≠ id := by rintro rfl; rw [hid] at hi; cases hi
 simp [Mem.set, this, hi]
theorem mid (hN : N.ok) {p : Nat} (hd : p ∉ N.l) {b : Blk} : isA N A (putA N A (σ.set p b)) ∧ (putA N A (σ.set p b)).get p = some b ∧ Keep (p :: N.l) σ (putA N A (σ.set p b)) ∧ ∀ id, (putA N A (σ.set p b)).get id = none → σ.get id = none ∧ id ≠ p ∧ id ∉ N.l := by
 have h1 : isA N A (putA N A (σ.set p b)) := isA_put hN
 have h2 : (putA N A (σ.set p b)).get p = some b := (putA_get hd).trans (Mem.get_set_same _ _ _)
 have h3 : Keep (p :: N.l) σ (putA N A (σ.set p b)) := behind (K := fun _ τ => Keep (p :: N.l) σ τ) (v := undef) hN hd fun τ _ _ k => k
 refine ⟨h1, h2, h3, fun id h => ?_⟩
 have n1 : id ∉ N.l := h1.new h
 have n2 : id ≠ p := by rintro rfl; rw [h2] at h; cases h
 refine ⟨?_, n2, n1⟩
 cases e : σ.get id with
 | none => rfl
 | some x => rw [h3 _ _ e (by simp [n1, n2])] at h; cases h
def seeS (w : Int) : Sn := ⟨chS w, chC w, chU w, chN w, 0, false⟩
theorem notin_cons {p : Nat} {L : List Nat} {i : Nat} (h1 : i ≠ p) (h2 : i ∉ L) : i ∉ p :: L := fun h => by rcases List.mem_cons.1 h with r | r; exact h1 r; exact h2 r
theorem bSn {w : Int} {K : Value → Prop} : xF (fBuild [(0, 4), (4, 1), (5, 1)] [.int .i64 0, .int .i64 0, .int .i64 0, .int .i64 0, .int .i64 0, .bool false] [0]) [.agg #[.int .i64 (chS w), .int .i64 (chC w), .int .i64 (chU w), .int .i64 (chN w)]] K = K (.agg (seeS w).l.toArray) := nr rfl
theorem gSn {x : Sn} : gBuildS 6 1 [.int .i64 0, .int .i64 0, .int .i64 0, .int .i64 0, .int .i64 0, .bool false] [0] [.agg x.l.toArray] [] = some x.l := nr rfl
def opS (L : List Sn) (n : Int) : List Sn := if 0 < n then (match L[(n - 1).toNat]? with
 | none => L
 | some x => L.set (n - 1).toNat { x with op := true }) else L
theorem opS_len {L : List Sn} {n : Int} : (opS L n).length = L.length := by
 unfold opS; split
 ·split
  ·rfl
  ·exact List.length_set
 ·rfl
theorem c_Choose' {b n : Nat} {rw : Bool} {l : List Sn} (e : l.length = n) (hl : l.length ≤ 1000) (hb : σ.get b = some ⟨snL l, rw⟩) (hk : ∀ r, Chosen C l r → K (.int .i64 r) σ) : s_c2 [C.v, .slice (some ⟨b, 0, none⟩) n 6] K σ := by
 subst e; exact c_Choose hl hb hk
theorem c_Co0a (hN : N.ok) (hC : C.ok) (hA : isA N A σ) {p : Nat} {c : Cr} (hp : σ.get p = some ⟨c.l, true⟩) (hd : p ∉ N.l) (h : c.pc = 0) (hn : C.len ≤ A.n) (h0 : c.at' = 0)
  (hwA : ∀ i, 0 ≤ A.w i ∧ A.w i < 18446744073709551616)
  (hk : ∀ id τ, σ.get id = none → id ≠ p → id ∉ N.l → isA N ((A.by who).load (C.chunk c.at')) τ → τ.get p = some ⟨({ c with x1 := .slice (some ⟨id, 0, none⟩) 1 6, pc := 1 } : Cr).l, true⟩ →
   τ.get id = some ⟨snL [seeS (A.w (C.chunk c.at'))], true⟩ → Keep (p :: N.l) σ τ → K (.tuple #[]) τ) : s_ao [.pointer (some ⟨p, 0, none⟩), N.env C who] K σ := by
 rcases c with ⟨pc, x1, at', pos, w, now, x6, x7, x8, ev, lf, fd, mo, rd, ev2, lf2, fd2, mo2, rd2, idle⟩
 dsimp only at *
 subst h; subst h0
 have hT := hC.T; have hS := hC.S; have hC3 := hC.C; have hl := len_bd hC
 have hch : C.chunk C.C = 6 + C.T + 2 * C.S + 3 * C.C := rfl
 have cb : 0 ≤ C.chunk 0 ∧ C.chunk 0 < A.n := by unfold Cf.chunk at *; omega
 rw [hA.obj hp]
 simp only [s_ao, w_ao, w_ao_j1, w_ao_j1b, s_ar, w_ar, lC0 hd, lC2 hd, sC1n hd, w_ar_j1, w_ar_j1b, lC1 hd,
  c_Chunk hC (Int.le_refl 0) (show (0 : Int) ≤ 65536 by decide), c_Load hN cb.1 cb.2, c_wChunk (hwA (C.chunk 0)).1 (hwA (C.chunk 0)).2, bSn, gSn, and_self, ruS, ruL, ruE, Nat.reduceAdd, reduceIte, Int.reduceLT, Int.reduceLE, Int.reduceEq, Int.reduceNeg, Int.reduceAdd, Int.reduceSub, Nat.reduceLeDiff, Nat.reduceLT]
 obtain ⟨hA1, gp1, k1, n1⟩ := mid (σ := σ) (A := (A.by who).load (C.chunk 0)) hN hd (b := ⟨(⟨0, .slice none 0 0, 0, pos, w, now, x6, x7, x8, ev, lf, fd, mo, rd, ev2, lf2, fd2, mo2, rd2, idle⟩ : Cr).l, true⟩)
 refine appSn0 fun id τ1 hid gid x1 => ?_
 obtain ⟨q1, q2, q3⟩ := n1 id hid
 rw [(hA1.ext x1).obj (x1 _ _ gp1)]
 simp only [w_ar_j2, w_ar_j2b, sC1p hd, sC0 hd, ruS, ruL, ruE, Nat.reduceAdd, reduceIte, Int.reduceLT, Int.reduceLE, Int.reduceEq, Int.reduceNeg, Int.reduceAdd, Int.reduceSub, Nat.reduceLeDiff, Nat.reduceLT]
 refine behind hN hd fun τ2 u1 u2 u3 => ?_
 exact hk id τ2 q1 q2 q3 u1 u2 (u3.get gid (notin_cons q2 q3)) (Keep.trans k1 (Keep.trans (L := p :: N.l) (Ext.keep (L := p :: N.l) x1) u3))
theorem c_Co0b (hN : N.ok) (hC : C.ok) (hA : isA N A σ) {p q : Nat} {c : Cr} {L : List Sn} (hp : σ.get p = some ⟨({ c with x1 := .slice (some ⟨q, 0, none⟩) L.length 6 } : Cr).l, true⟩) (hd : p ∉ N.l) (h : c.pc = 0) (hn : C.len ≤ A.n) (h0 : 0 < c.at' ∧ c.at' < C.C)
  (hwA : ∀ i, 0 ≤ A.w i ∧ A.w i < 18446744073709551616) (hq : σ.get q = some ⟨snL L, true⟩) (hqd : q ∉ N.l) (hqp : q ≠ p) (hL : L.length < 1073741823)
  (hk : ∀ id τ, σ.get id = none → id ≠ p → id ∉ N.l → isA N ((A.by who).load (C.chunk c.at')) τ → τ.get p = some ⟨({ c with x1 := .slice (some ⟨id, 0, none⟩) (L.length + 1) 6, pc := 1 } : Cr).l, true⟩ →
   τ.get id = some ⟨snL (L ++ [seeS (A.w (C.chunk c.at'))]), true⟩ → Keep (q :: p :: N.l) σ τ → K (.tuple #[]) τ) : s_ao [.pointer (some ⟨p, 0, none⟩), N.env C who] K σ := by
 rcases c with ⟨pc, x1, at', pos, w, now, x6, x7, x8, ev, lf, fd, mo, rd, ev2, lf2, fd2, mo2, rd2, idle⟩
 dsimp only at *
 subst h
 have hT := hC.T; have hS := hC.S; have hC3 := hC.C; have hl := len_bd hC
 have hch : C.chunk C.C = 6 + C.T + 2 * C.S + 3 * C.C := rfl
 have cb : 0 ≤ C.chunk at' ∧ C.chunk at' < A.n := by unfold Cf.chunk at *; omega
 have ne0 : ¬ at' = 0 := by omega
 rw [hA.obj hp]
 simp only [s_ao, w_ao, w_ao_j1, w_ao_j1b, s_ar, w_ar, lC0 hd, lC2 hd, ne0, w_ar_j1, w_ar_j1b, lC1 hd,
  c_Chunk hC (show 0 ≤ at' by omega) (show at' ≤ 65536 by omega), c_Load hN cb.1 cb.2, c_wChunk (hwA (C.chunk at')).1 (hwA (C.chunk at')).2, bSn, gSn, and_self, ruS, ruL, ruE, Nat.reduceAdd, reduceIte, Int.reduceLT, Int.reduceLE, Int.reduceEq, Int.reduceNeg, Int.reduceAdd, Int.reduceSub, Nat.reduceLeDiff, Nat.reduceLT]
 obtain ⟨hA1, gp1, k1, n1⟩ := mid (σ := σ) (A := (A.by who).load (C.chunk at')) hN hd (b := ⟨(⟨0, .slice (some ⟨q, 0, none⟩) L.length 6, at', pos, w, now, x6, x7, x8, ev, lf, fd, mo, rd, ev2, lf2, fd2, mo2, rd2, idle⟩ : Cr).l, true⟩)
 refine appSn (k1.get hq (notin_cons hqp hqd)) hL fun id τ1 hid gid x1 => ?_
 obtain ⟨q1, q2, q3⟩ := n1 id hid
 have hA2 : isA N ((A.by who).load (C.chunk at')) τ1 := hA1.keep x1 (by simp only [Nm.l, List.mem_cons, List.not_mem_nil, or_false, not_or] at hqd ⊢; exact ⟨Ne.symm hqd.1, Ne.symm hqd.2.1, Ne.symm hqd.2.2⟩)
 rw [hA2.obj (x1.get gp1 (by simp; exact fun e => hqp e.symm))]
 simp only [w_ar_j2, w_ar_j2b, sC1p hd, sC0 hd, ruS, ruL, ruE, Nat.reduceAdd, reduceIte, Int.reduceLT, Int.reduceLE, Int.reduceEq, Int.reduceNeg, Int.reduceAdd, Int.reduceSub, Nat.reduceLeDiff, Nat.reduceLT]
 refine behind hN hd fun τ2 u1 u2 u3 => ?_
 refine hk id τ2 q1 q2 q3 u1 u2 (u3.get gid (notin_cons q2 q3)) (Keep.trans (k1.mono fun i hi => List.mem_cons_of_mem _ hi) (Keep.trans (x1.mono fun i hi => ?_) (u3.mono fun i hi => List.mem_cons_of_mem _ hi)))
 rw [List.mem_singleton] at hi; subst hi; exact List.mem_cons_self ..
theorem c_Co1 (hN : N.ok) (hC : C.ok) (hA : isA N A σ) {p q : Nat} {c : Cr} {L : List Sn} {x : Sn} (hp : σ.get p = some ⟨({ c with x1 := .slice (some ⟨q, 0, none⟩) L.length 6 } : Cr).l, true⟩) (hd : p ∉ N.l) (h : c.pc = 1) (hn : C.len ≤ A.n) (h0 : 0 ≤ c.at' ∧ c.at' < C.C)
  (hq : σ.get q = some ⟨snL L, true⟩) (hqd : q ∉ N.l) (hqp : q ≠ p) (hx : L[c.at'.toNat]? = some x)
  (hk : ∀ τ, isA N ((A.by who).load (C.chunk c.at' + 1)) τ → τ.get p = some ⟨({ c with x1 := .slice (some ⟨q, 0, none⟩) L.length 6, at' := if C.C ≤ c.at' + 1 then 0 else c.at' + 1, pc := if C.C ≤ c.at' + 1 then 2 else 0 } : Cr).l, true⟩ →
   τ.get q = some ⟨snL (L.set c.at'.toNat { x with live := IntKind.i64.wrap (A.w (C.chunk c.at' + 1)) }), true⟩ → Keep (q :: p :: N.l) σ τ → K (.tuple #[]) τ) : s_ao [.pointer (some ⟨p, 0, none⟩), N.env C who] K σ := by
 rcases c with ⟨pc, x1, at', pos, w, now, x6, x7, x8, ev, lf, fd, mo, rd, ev2, lf2, fd2, mo2, rd2, idle⟩
 dsimp only at *
 subst h
 have hT := hC.T; have hS := hC.S; have hC3 := hC.C; have hl := len_bd hC
 have hch : C.chunk C.C = 6 + C.T + 2 * C.S + 3 * C.C := rfl
 have cb : 0 ≤ C.chunk at' + 1 ∧ C.chunk at' + 1 < A.n := by unfold Cf.chunk at *; omega
 have cb2 : C.chunk at' + 1 ≤ 300000 := by unfold Cf.chunk at *; omega
 have hlen : at' < (L.length : Int) := by have := (List.getElem?_eq_some_iff.1 hx).1; omega
 rw [hA.obj hp]
 simp only [s_ao, w_ao, w_ao_j1, w_ao_j1b, s_ar, w_ar, lC0 hd, lC2 hd, lC1 hd,
  c_Chunk hC h0.1 (show at' ≤ 65536 by omega), IntWalk.i64_in (C.chunk at' + 1) (by omega), c_Load hN cb.1 cb.2, xIxS h0.1 hlen, Nat.zero_add, and_self, ruS, ruL, ruE, Nat.reduceAdd, reduceIte, Int.reduceLT, Int.reduceLE, Int.reduceEq, Int.reduceNeg, Int.reduceAdd, Int.reduceSub, Nat.reduceLeDiff, Nat.reduceLT]
 obtain ⟨hA1, gp1, k1, n1⟩ := mid (σ := σ) (A := (A.by who).load (C.chunk at' + 1)) hN hd (b := ⟨(⟨1, .slice (some ⟨q, 0, none⟩) L.length 6, at', pos, w, now, x6, x7, x8, ev, lf, fd, mo, rd, ev2, lf2, fd2, mo2, rd2, idle⟩ : Cr).l, true⟩)
 have gq1 := k1.get hq (notin_cons hqp hqd)
 have hlay : lay (snL L) (at'.toNat * 6 + 4) [.int .i64 (IntKind.i64.wrap (A.w (C.chunk at' + 1)))] = snL (L.set at'.toNat { x with live := IntKind.i64.wrap (A.w (C.chunk at' + 1)) }) := sn_lay hx (by simp) rfl
 rw [hStore_eq gq1 (show cellsOf (.int .i64 (IntKind.i64.wrap (A.w (C.chunk at' + 1)))) 1 = some [.int .i64 (IntKind.i64.wrap (A.w (C.chunk at' + 1)))] from rfl) (by rw [snL_len]; omega) rfl, hlay]
 generalize hM : (putA N ((A.by who).load (C.chunk at' + 1)) (σ.set p ⟨(⟨1, .slice (some ⟨q, 0, none⟩) L.length 6, at', pos, w, now, x6, x7, x8, ev, lf, fd, mo, rd, ev2, lf2, fd2, mo2, rd2, idle⟩ : Cr).l, true⟩)) = M at *
 have kq : Keep [q] M (M.set q ⟨snL (L.set at'.toNat { x with live := IntKind.i64.wrap (A.w (C.chunk at' + 1)) }), true⟩) := fun i b hi hn => by rw [Mem.get_set_ne _ _ (by simpa using hn)]; exact hi
 have gq2 : (M.set q ⟨snL (L.set at'.toNat { x with live := IntKind.i64.wrap (A.w (C.chunk at' + 1)) }), true⟩).get q = some ⟨snL (L.set at'.toNat { x with live := IntKind.i64.wrap (A.w (C.chunk at' + 1)) }), true⟩ := Mem.get_set_same _ _ _
 generalize (M.set q ⟨snL (L.set at'.toNat { x with live := IntKind.i64.wrap (A.w (C.chunk at' + 1)) }), true⟩) = M2 at *
 have hA2 : isA N ((A.by who).load (C.chunk at' + 1)) M2 := hA1.keep kq (by simp only [Nm.l, List.mem_cons, List.not_mem_nil, or_false, not_or] at hqd ⊢; exact ⟨Ne.symm hqd.1, Ne.symm hqd.2.1, Ne.symm hqd.2.2⟩)
 rw [hA2.obj (kq.get gp1 (by simp; exact fun e => hqp e.symm))]
 simp only [w_ar_j3, w_ar_j3b, lC2 hd, sC2 hd, sC0 hd, IntWalk.i64_in (at' + 1) (by omega), ruS, ruL, ruE, Nat.reduceAdd, reduceIte, Int.reduceLT, Int.reduceLE, Int.reduceEq, Int.reduceNeg, Int.reduceAdd, Int.reduceSub, Nat.reduceLeDiff, Nat.reduceLT]
 have fin : ∀ {b : Blk} {v : Value}, (∀ τ, isA N ((A.by who).load (C.chunk at' + 1)) τ → τ.get p = some b → τ.get q = some ⟨snL (L.set at'.toNat { x with live := IntKind.i64.wrap (A.w (C.chunk at' + 1)) }), true⟩ → Keep (q :: p :: N.l) σ τ → K v τ) →
   K v (putA N ((A.by who).load (C.chunk at' + 1)) (M2.set p b)) := fun hh => by
  refine behind hN hd fun τ u1 u2 u3 => hh τ u1 u2 (u3.get gq2 (notin_cons hqp hqd)) (Keep.trans (k1.mono fun i hi => List.mem_cons_of_mem _ hi) (Keep.trans (kq.mono fun i hi => ?_) (u3.mono fun i hi => List.mem_cons_of_mem _ hi)))
  rw [List.mem_singleton] at hi; subst hi; exact List.mem_cons_self ..
 by_cases e : C.C ≤ at' + 1
 ·simp only [if_pos e] at hk
  simp only [e, sC2 hd, sC0 hd, ruS, ruL, ruE, Nat.reduceAdd, reduceIte, Int.reduceLT, Int.reduceLE, Int.reduceEq, Int.reduceNeg, Int.reduceAdd, Int.reduceSub, Nat.reduceLeDiff, Nat.reduceLT]
  exact fin hk
 ·simp only [if_neg e] at hk
  simp only [e, ruS, ruL, ruE, Nat.reduceAdd, reduceIte, Int.reduceLT, Int.reduceLE, Int.reduceEq, Int.reduceNeg, Int.reduceAdd, Int.reduceSub, Nat.reduceLeDiff, Nat.reduceLT]
  exact fin hk
theorem c_Co2 (hN : N.ok) (hC : C.ok) (hA : isA N A σ) {p q : Nat} {c : Cr} {L : List Sn} (hp : σ.get p = some ⟨({ c with x1 := .slice (some ⟨q, 0, none⟩) L.length 6 } : Cr).l, true⟩) (hd : p ∉ N.l) (h : c.pc = 2) (hn : C.len ≤ A.n) (h0 : 0 ≤ c.at' ∧ c.at' < 4)
  (hq : σ.get q = some ⟨snL L, true⟩) (hqd : q ∉ N.l) (hqp : q ≠ p) (hL : (L.length : Int) = C.C) (hop : 0 ≤ A.w (2 + c.at') ∧ A.w (2 + c.at') ≤ C.C)
  (k1 : c.at' + 1 < 4 → ∀ τ, isA N ((A.by who).load (2 + c.at')) τ → τ.get p = some ⟨({ c with x1 := .slice (some ⟨q, 0, none⟩) L.length 6, at' := c.at' + 1 } : Cr).l, true⟩ → τ.get q = some ⟨snL (opS L (A.w (2 + c.at'))), true⟩ → Keep (q :: p :: N.l) σ τ → K (.tuple #[]) τ)
  (k2 : ¬ c.at' + 1 < 4 → (∀ x ∈ opS L (A.w (2 + c.at')), ¬ x.may C) → ∀ τ, isA N ((A.by who).load (2 + c.at')) τ → τ.get p = some ⟨({ c with x1 := .slice (some ⟨q, 0, none⟩) L.length 6, at' := -1, pc := 10 } : Cr).l, true⟩ → Keep (q :: p :: N.l) σ τ → K (.tuple #[]) τ)
  (k3 : ¬ c.at' + 1 < 4 → ∀ r x, 0 ≤ r → r < C.C → (opS L (A.w (2 + c.at')))[r.toNat]? = some x → x.may C → ∀ τ, isA N ((A.by who).load (2 + c.at')) τ → τ.get p = some ⟨({ c with x1 := .slice (some ⟨q, 0, none⟩) L.length 6, at' := r, pc := 3, w := putChunk x.st x.cl x.us x.sp } : Cr).l, true⟩ → Keep (q :: p :: N.l) σ τ → K (.tuple #[]) τ) :
  s_ao [.pointer (some ⟨p, 0, none⟩), N.env C who] K σ := by
 rcases c with ⟨pc, x1, at', pos, w, now, x6, x7, x8, ev, lf, fd, mo, rd, ev2, lf2, fd2, mo2, rd2, idle⟩
 dsimp only at *
 subst h
 have hT := hC.T; have hS := hC.S; have hC3 := hC.C; have hl := len_bd hC
 have hch : C.chunk C.C = 6 + C.T + 2 * C.S + 3 * C.C := rfl
 have cb : 0 ≤ 2 + at' ∧ 2 + at' < A.n := by omega
 have hlen : (opS L (A.w (2 + at'))).length = L.length := opS_len
 have s7 : sub (N.el C who) 0 7 true = some C.v := rfl
 have fin : ∀ M : Mem, isA N ((A.by who).load (2 + at')) M → M.get p = some ⟨(⟨2, .slice (some ⟨q, 0, none⟩) L.length 6, at', pos, w, now, x6, x7, x8, ev, lf, fd, mo, rd, ev2, lf2, fd2, mo2, rd2, idle⟩ : Cr).l, true⟩ →
   M.get q = some ⟨snL (opS L (A.w (2 + at'))), true⟩ → Keep (q :: p :: N.l) σ M → w_ar_j4 (fun v17 σ => K (.tuple #[]) σ) [.pointer (some ⟨p, 0, none⟩)] [N.el C who] M := by
  intro M hA1 gp gq kp
  have out : ∀ {b : Blk} {v : Value}, (∀ τ, isA N ((A.by who).load (2 + at')) τ → τ.get p = some b → τ.get q = some ⟨snL (opS L (A.w (2 + at'))), true⟩ → Keep (q :: p :: N.l) σ τ → K v τ) →
    K v (putA N ((A.by who).load (2 + at')) (M.set p b)) := fun hh =>
   behind hN hd fun τ u1 u2 u3 => hh τ u1 u2 (u3.get gq (notin_cons hqp hqd)) (Keep.trans kp (u3.mono fun i hi => List.mem_cons_of_mem _ hi))
  rw [hA1.obj gp]
  simp only [w_ar_j4, w_ar_j4b, lC2 hd, sC2 hd, IntWalk.i64_in (at' + 1) (by omega), ruS, ruL, ruE, Nat.reduceAdd, reduceIte, Int.reduceLT, Int.reduceLE, Int.reduceEq, Int.reduceNeg, Int.reduceAdd, Int.reduceSub, Nat.reduceLeDiff, Nat.reduceLT]
  by_cases c4 : at' + 1 < 4
  ·simp only [c4, ruS, ruL, ruE, Nat.reduceAdd, reduceIte, Int.reduceLT, Int.reduceLE, Int.reduceEq, Int.reduceNeg, Int.reduceAdd, Int.reduceSub, Nat.reduceLeDiff, Nat.reduceLT]
   exact out (k1 c4)
  ·simp only [c4, lC1 hd, s7, ruS, ruL, ruE, Nat.reduceAdd, reduceIte, Int.reduceLT, Int.reduceLE, Int.reduceEq, Int.reduceNeg, Int.reduceAdd, Int.reduceSub, Nat.reduceLeDiff, Nat.reduceLT]
   obtain ⟨hA2, gp2, kp2, _⟩ := mid (σ := M) (A := (A.by who).load (2 + at')) hN hd (b := ⟨(⟨2, .slice (some ⟨q, 0, none⟩) L.length 6, at' + 1, pos, w, now, x6, x7, x8, ev, lf, fd, mo, rd, ev2, lf2, fd2, mo2, rd2, idle⟩ : Cr).l, true⟩)
   have gq2 := kp2.get gq (notin_cons hqp hqd)
   refine c_Choose' hlen (by omega) gq2 fun r hr => ?_
   simp only [sC2 hd, sC0 hd, lC2 hd, ruS, ruL, ruE, Nat.reduceAdd, reduceIte, Int.reduceLT, Int.reduceLE, Int.reduceEq, Int.reduceNeg, Int.reduceAdd, Int.reduceSub, Nat.reduceLeDiff, Nat.reduceLT]
   rcases hr with ⟨rfl, hr⟩ | ⟨r0, x, hx, hm⟩
   ·simp only [sC0 hd, ruS, ruL, ruE, Nat.reduceAdd, reduceIte, Int.reduceLT, Int.reduceLE, Int.reduceEq, Int.reduceNeg, Int.reduceAdd, Int.reduceSub, Nat.reduceLeDiff, Nat.reduceLT]
    exact out fun τ a b _ d => k2 c4 hr τ a b d
   ·have rl : r < (L.length : Int) := by have := (List.getElem?_eq_some_iff.1 hx).1; omega
    have nr0 : ¬ r < 0 := by omega
    simp only [nr0, lC1 hd, lC2 hd, xIxS r0 rl, Nat.zero_add, ruS, ruL, ruE, Nat.reduceAdd, reduceIte, Int.reduceLT, Int.reduceLE, Int.reduceEq, Int.reduceNeg, Int.reduceAdd, Int.reduceSub, Nat.reduceLeDiff, Nat.reduceLT]
    obtain ⟨hA3, gp3, kp3, _⟩ := mid (σ := M) (A := (A.by who).load (2 + at')) hN hd (b := ⟨(⟨3, .slice (some ⟨q, 0, none⟩) L.length 6, r, pos, w, now, x6, x7, x8, ev, lf, fd, mo, rd, ev2, lf2, fd2, mo2, rd2, idle⟩ : Cr).l, true⟩)
    have gq3 := kp3.get gq (notin_cons hqp hqd)
    rw [show r.toNat * 6 = r.toNat * 6 + 0 from rfl, ldSn gq3 hx (by decide) (by decide) (show sub x.l 0 4 true = some (.agg #[.int .i64 x.st, .int .i64 x.cl, .int .i64 x.us, .int .i64 x.sp]) from rfl)]
    simp only [c_PutChunk, sC4 hd, ruS, ruL, ruE, Nat.reduceAdd, reduceIte, Int.reduceLT, Int.reduceLE, Int.reduceEq, Int.reduceNeg, Int.reduceAdd, Int.reduceSub, Nat.reduceLeDiff, Nat.reduceLT]
    exact out fun τ a b _ d => k3 c4 r x r0 (by omega) hx hm τ a b d
 rw [hA.obj hp]
 simp only [s_ao, w_ao, w_ao_j1, w_ao_j1b, s_ar, w_ar, lC0 hd, lC2 hd, c_Open h0.1 (show at' ≤ 65536 by omega), c_Load hN cb.1 cb.2, IntWalk.i64_in (A.w (2 + at')) (by omega), ruS, ruL, ruE, Nat.reduceAdd, reduceIte, Int.reduceLT, Int.reduceLE, Int.reduceEq, Int.reduceNeg, Int.reduceAdd, Int.reduceSub, Nat.reduceLeDiff, Nat.reduceLT]
 obtain ⟨hA1, gp1, kp1, n1⟩ := mid (σ := σ) (A := (A.by who).load (2 + at')) hN hd (b := ⟨(⟨2, .slice (some ⟨q, 0, none⟩) L.length 6, at', pos, w, now, x6, x7, x8, ev, lf, fd, mo, rd, ev2, lf2, fd2, mo2, rd2, idle⟩ : Cr).l, true⟩)
 have gq1 := kp1.get hq (notin_cons hqp hqd)
 by_cases cn : 0 < A.w (2 + at')
 ·obtain ⟨x, hx⟩ : ∃ x, L[(A.w (2 + at') - 1).toNat]? = some x := ⟨_, List.getElem?_eq_getElem (by omega)⟩
  have e : opS L (A.w (2 + at')) = L.set (A.w (2 + at') - 1).toNat { x with op := true } := by unfold opS; rw [if_pos cn, hx]
  have hn1 : 0 ≤ A.w (2 + at') - 1 := by omega
  have hn2 : A.w (2 + at') - 1 < (L.length : Int) := by omega
  simp only [cn, lC1 hd, IntWalk.i64_in (A.w (2 + at') - 1) (by omega), xIxS hn1 hn2, Nat.zero_add, ruS, ruL, ruE, Nat.reduceAdd, reduceIte, Int.reduceLT, Int.reduceLE, Int.reduceEq, Int.reduceNeg, Int.reduceAdd, Int.reduceSub, Nat.reduceLeDiff, Nat.reduceLT]
  have hlay : lay (snL L) ((A.w (2 + at') - 1).toNat * 6 + 5) [.bool true] = snL (opS L (A.w (2 + at'))) := by rw [e]; exact sn_lay hx (by simp) rfl
  rw [hStore_eq gq1 (show cellsOf (.bool true) 1 = some [.bool true] from rfl) (by rw [snL_len]; omega) rfl, hlay]
  refine fin _ ?_ ?_ (Mem.get_set_same _ _ _) ?_
  ·refine hA1.keep (L := [q]) (fun i b hi hn => by rw [Mem.get_set_ne _ _ (by simpa using hn)]; exact hi) ?_
   simp only [Nm.l, List.mem_cons, List.not_mem_nil, or_false, not_or] at hqd ⊢; exact ⟨Ne.symm hqd.1, Ne.symm hqd.2.1, Ne.symm hqd.2.2⟩
  ·rw [Mem.get_set_ne _ _ (Ne.symm hqp)]; exact gp1
  ·intro i b hi hn
   simp only [List.mem_cons, not_or] at hn
   rw [Mem.get_set_ne _ _ hn.1]
   exact kp1 i b hi (notin_cons hn.2.1 hn.2.2)
 ·have e : opS L (A.w (2 + at')) = L := by unfold opS; rw [if_neg cn]
  simp only [cn, ruS, ruL, ruE, Nat.reduceAdd, reduceIte, Int.reduceLT, Int.reduceLE, Int.reduceEq, Int.reduceNeg, Int.reduceAdd, Int.reduceSub, Nat.reduceLeDiff, Nat.reduceLT]
  exact fin _ hA1 gp1 (by rw [e]; exact gq1) (kp1.mono fun i hi => List.mem_cons_of_mem _ hi)
end Go.Fl
namespace Go.Fl
open Go
set_option linter.unusedVariables false
set_option linter.unusedSimpArgs false
variable {N : Nm} {A B : Ar} {σ : Mem} {K : Value → Mem → Prop} {C : Cf} {who : Int}
def Cr.moved (c : Cr) (done : Bool) (out : Int) : Cr :=
 if done = false then c else if out = 1 then ({ c with mo := c.mo + 1 } : Cr).next (chC c.w) (chU c.w) else if out = 2 then c.next (chC c.w) (chU c.w) else { c with pc := 9 }
theorem c_Co5 (hN : N.ok) (hC : C.ok) (hA : isA N A σ) {p q : Nat} {Q : List Nat} {c : Cr} {m : Mv} (hp : σ.get p = some ⟨({ c with x6 := .pointer (some ⟨q, 0, none⟩) } : Cr).l, true⟩) (hd : p ∉ N.l) (h : c.pc = 5) (hn : C.len ≤ A.n)
  (hwA : ∀ i, 0 ≤ A.w i ∧ A.w i < 18446744073709551616) (hob : MOb N q Q m σ) (hpQ : p ∉ Q) (hf : m.fit C A) (hw : 0 ≤ c.w ∧ c.w < 18446744073709551616) (hcl : chC c.w ≤ 3) (hpo : 0 ≤ c.pos ∧ c.pos ≤ 200000000) (hmo : 0 ≤ c.mo ∧ c.mo ≤ 1000000000)
  (hk : ∀ O' τ, (∀ i ∈ O', i ∈ Q ∨ σ.get i = none) → p ∉ O' → isA N (m.step C who A).2.2 τ → MOb N q O' (m.step C who A).2.1 τ → τ.get p = some ⟨(({ c with x6 := .pointer (some ⟨q, 0, none⟩) } : Cr).moved (m.step C who A).1 (m.step C who A).2.1.a.out).l, true⟩ →
   Keep (p :: (Q ++ N.l)) σ τ → K (.tuple #[]) τ) : s_ao [.pointer (some ⟨p, 0, none⟩), N.env C who] K σ := by
 rcases c with ⟨pc, x1, at', pos, w, now, x6, x7, x8, ev, lf, fd, mo, rd, ev2, lf2, fd2, mo2, rd2, idle⟩
 dsimp only at *
 subst h
 have hcb := chC_bd w
 rw [hA.obj hp]
 simp only [s_ao, w_ao, w_ao_j1, w_ao_j1b, lC0 hd, lC6 hd, ruS, ruL, ruE, Nat.reduceAdd, reduceIte, Int.reduceLT, Int.reduceLE, Int.reduceEq, Int.reduceNeg, Int.reduceAdd, Int.reduceSub, Nat.reduceLeDiff, Nat.reduceLT]
 rw [← hA.obj hp]
 refine c_Mv_Step hN hC hA hob hwA hn hf fun O' τ hO hA' hob' kp => ?_
 have hpO : p ∉ O' := fun hm => by
  rcases hO p hm with r | r
  ·exact hpQ r
  ·rw [hp] at r; cases r
 have gp := kp.get hp (fun hm => by rcases List.mem_append.1 hm with r | r; exact hpQ r; exact hd r)
 have kp' : Keep (p :: (Q ++ N.l)) σ τ := kp.mono fun i hi => List.mem_cons_of_mem _ hi
 have out : ∀ {b : Blk} {v : Value}, (∀ τ', isA N (m.step C who A).2.2 τ' → τ'.get p = some b → MOb N q O' (m.step C who A).2.1 τ' → Keep (p :: (Q ++ N.l)) σ τ' → K v τ') → K v (putA N (m.step C who A).2.2 (τ.set p b)) := fun hh =>
  behind hN hd fun τ' u1 u2 u3 => hh τ' u1 u2 (hob'.keep u3 fun i hi hm => by
   rcases List.mem_cons.1 hm with r | r
   ·subst r; exact hpO hi
   ·exact hob'.own i hi r) (Keep.trans kp' (u3.mono fun i hi => by
    rcases List.mem_cons.1 hi with r | r
    ·subst r; exact List.mem_cons_self ..
    ·exact List.mem_cons_of_mem _ (List.mem_append_right _ r)))
 unfold Cr.moved at hk
 by_cases d : (m.step C who A).1 = false
 ·rw [if_pos d] at hk
  simp only [d, ruS, ruL, ruE, Nat.reduceAdd, reduceIte, Int.reduceLT, Int.reduceLE, Int.reduceEq, Int.reduceNeg, Int.reduceAdd, Int.reduceSub, Nat.reduceLeDiff, Nat.reduceLT]
  exact hk O' τ hO hpO hA' hob' gp kp'
 ·rw [if_neg d] at hk
  have d' : (m.step C who A).1 = true := by simpa using d
  obtain ⟨a, ga, ho, _⟩ := hob'.out
  simp only [d', s_as, w_as, ruS, ruL, ruE, Nat.reduceAdd, reduceIte, Int.reduceLT, Int.reduceLE, Int.reduceEq, Int.reduceNeg, Int.reduceAdd, Int.reduceSub, Nat.reduceLeDiff, Nat.reduceLT]
  rw [hA'.obj gp]
  simp only [lC6 hd, ruS, ruL, ruE, Nat.reduceAdd, reduceIte, Int.reduceLT, Int.reduceLE, Int.reduceEq, Int.reduceNeg, Int.reduceAdd, Int.reduceSub, Nat.reduceLeDiff, Nat.reduceLT]
  rw [← hA'.obj gp]
  refine c_MoveOut ga ?_
  rw [hA'.obj gp, ho]
  by_cases o1 : (m.step C who A).2.1.a.out = 1
  ·rw [if_pos o1] at hk
   simp only [o1, lC12 hd, ruS, ruL, ruE, Nat.reduceAdd, reduceIte, Int.reduceLT, Int.reduceLE, Int.reduceEq, Int.reduceNeg, Int.reduceAdd, Int.reduceSub, Nat.reduceLeDiff, Nat.reduceLT]
   rw [IntWalk.i64_in (mo + 1) (by omega)]
   simp only [sC12 hd, lC4 hd, c_wChunk hw.1 hw.2, ruS, ruL, ruE, Nat.reduceAdd, reduceIte, Int.reduceLT, Int.reduceLE, Int.reduceEq, Int.reduceNeg, Int.reduceAdd, Int.reduceSub, Nat.reduceLeDiff, Nat.reduceLT]
   rw [c_Conext hd ⟨hcb.1, hcl⟩ hpo]
   exact out fun τ' u1 u2 u3 u4 => hk O' τ' hO hpO u1 u3 u2 u4
  ·rw [if_neg o1] at hk
   by_cases o2 : (m.step C who A).2.1.a.out = 2
   ·rw [if_pos o2] at hk
    simp only [o1, o2, lC4 hd, c_wChunk hw.1 hw.2, ruS, ruL, ruE, Nat.reduceAdd, reduceIte, Int.reduceLT, Int.reduceLE, Int.reduceEq, Int.reduceNeg, Int.reduceAdd, Int.reduceSub, Nat.reduceLeDiff, Nat.reduceLT]
    rw [c_Conext hd ⟨hcb.1, hcl⟩ hpo]
    exact out fun τ' u1 u2 u3 u4 => hk O' τ' hO hpO u1 u3 u2 u4
   ·rw [if_neg o2] at hk
    simp only [o1, o2, sC0 hd, ruS, ruL, ruE, Nat.reduceAdd, reduceIte, Int.reduceLT, Int.reduceLE, Int.reduceEq, Int.reduceNeg, Int.reduceAdd, Int.reduceSub, Nat.reduceLeDiff, Nat.reduceLT]
    exact out fun τ' u1 u2 u3 u4 => hk O' τ' hO hpO u1 u3 u2 u4
theorem c_Co10j (hN : N.ok) (hC : C.ok) (hA : isA N A σ) {p q : Nat} {c : Cr} {a : Adv} (hp : σ.get p = some ⟨({ c with x7 := .pointer (some ⟨q, 0, none⟩) } : Cr).l, true⟩) (hd : p ∉ N.l) (hn : C.len ≤ A.n)
  (hq : σ.get q = some ⟨a.l, true⟩) (hqd : q ∉ N.l) (hqp : q ≠ p) (hf : a.fit C)
  (k1 : (a.step C who A).1 = false → ∀ τ, isA N (a.step C who A).2.2 τ → τ.get p = some ⟨({ c with x7 := .pointer (some ⟨q, 0, none⟩) } : Cr).l, true⟩ → τ.get q = some ⟨(a.step C who A).2.1.l, true⟩ → Keep (q :: p :: N.l) σ τ → K (.tuple #[]) τ)
  (k2 : (a.step C who A).1 = true → ∀ τ, isA N (a.step C who A).2.2 τ → τ.get p = some ⟨({ c with x7 := .pointer none, at' := 0, pc := 11 } : Cr).l, true⟩ → Keep (q :: p :: N.l) σ τ → K (.tuple #[]) τ) :
  w_au_j1 (fun v σ => K (.tuple #[]) σ) [.pointer (some ⟨p, 0, none⟩)] [N.el C who] σ := by
 rcases c with ⟨pc, x1, at', pos, w, now, x6, x7, x8, ev, lf, fd, mo, rd, ev2, lf2, fd2, mo2, rd2, idle⟩
 dsimp only at *
 rw [hA.obj hp]
 simp only [w_au_j1, w_au_j1b, lC7 hd, ruS, ruL, ruE, Nat.reduceAdd, reduceIte, Int.reduceLT, Int.reduceLE, Int.reduceEq, Int.reduceNeg, Int.reduceAdd, Int.reduceSub, Nat.reduceLeDiff, Nat.reduceLT]
 rw [← hA.obj hp]
 refine c_Adv hN hC hA hq hqd hn hf fun τ hA' gq kq => ?_
 have gp := kq.get hp (notin_cons (Ne.symm hqp) hd)
 have kq' : Keep (q :: p :: N.l) σ τ := kq.mono fun i hi => by
  rcases List.mem_cons.1 hi with r | r
  ·subst r; exact List.mem_cons_self ..
  ·exact List.mem_cons_of_mem _ (List.mem_cons_of_mem _ r)
 cases d : (a.step C who A).1 with
 | false =>
  simp only [ruS, ruL, ruE, Nat.reduceAdd, reduceIte, Int.reduceLT, Int.reduceLE, Int.reduceEq, Int.reduceNeg, Int.reduceAdd, Int.reduceSub, Nat.reduceLeDiff, Nat.reduceLT]
  exact k1 d τ hA' gp gq kq'
 | true =>
  simp only [ruS, ruL, ruE, Nat.reduceAdd, reduceIte, Int.reduceLT, Int.reduceLE, Int.reduceEq, Int.reduceNeg, Int.reduceAdd, Int.reduceSub, Nat.reduceLeDiff, Nat.reduceLT]
  rw [hA'.obj gp]
  simp only [sC7n hd, sC2 hd, sC0 hd, ruS, ruL, ruE, Nat.reduceAdd, reduceIte, Int.reduceLT, Int.reduceLE, Int.reduceEq, Int.reduceNeg, Int.reduceAdd, Int.reduceSub, Nat.reduceLeDiff, Nat.reduceLT]
  exact behind hN hd fun τ' u1 u2 u3 => k2 d τ' u1 u2 (Keep.trans kq' (u3.mono fun i hi => List.mem_cons_of_mem _ hi))
theorem c_Co10a (hN : N.ok) (hC : C.ok) (hA : isA N A σ) {p q : Nat} {c : Cr} {a : Adv} (hp : σ.get p = some ⟨({ c with x7 := .pointer (some ⟨q, 0, none⟩) } : Cr).l, true⟩) (hd : p ∉ N.l) (h : c.pc = 10) (hn : C.len ≤ A.n)
  (hq : σ.get q = some ⟨a.l, true⟩) (hqd : q ∉ N.l) (hqp : q ≠ p) (hf : a.fit C)
  (k1 : (a.step C who A).1 = false → ∀ τ, isA N (a.step C who A).2.2 τ → τ.get p = some ⟨({ c with x7 := .pointer (some ⟨q, 0, none⟩) } : Cr).l, true⟩ → τ.get q = some ⟨(a.step C who A).2.1.l, true⟩ → Keep (q :: p :: N.l) σ τ → K (.tuple #[]) τ)
  (k2 : (a.step C who A).1 = true → ∀ τ, isA N (a.step C who A).2.2 τ → τ.get p = some ⟨({ c with x7 := .pointer none, at' := 0, pc := 11 } : Cr).l, true⟩ → Keep (q :: p :: N.l) σ τ → K (.tuple #[]) τ) :
  s_ao [.pointer (some ⟨p, 0, none⟩), N.env C who] K σ := by
 rcases c with ⟨pc, x1, at', pos, w, now, x6, x7, x8, ev, lf, fd, mo, rd, ev2, lf2, fd2, mo2, rd2, idle⟩
 dsimp only at *
 subst h
 rw [hA.obj hp]
 simp only [s_ao, w_ao, w_ao_j1, w_ao_j1b, s_au, w_au, lC0 hd, lC7 hd, ruS, ruL, ruE, Nat.reduceAdd, reduceIte, Int.reduceLT, Int.reduceLE, Int.reduceEq, Int.reduceNeg, Int.reduceAdd, Int.reduceSub, Nat.reduceLeDiff, Nat.reduceLT]
 rw [← hA.obj hp]
 exact c_Co10j (c := ⟨10, x1, at', pos, w, now, x6, x7, x8, ev, lf, fd, mo, rd, ev2, lf2, fd2, mo2, rd2, idle⟩) hN hC hA hp hd hn hq hqd hqp hf k1 k2
theorem c_Co10n (hN : N.ok) (hC : C.ok) (hA : isA N A σ) {p : Nat} {c : Cr} (hp : σ.get p = some ⟨({ c with x7 := .pointer none } : Cr).l, true⟩) (hd : p ∉ N.l) (h : c.pc = 10) (hn : C.len ≤ A.n)
  (k1 : (Adv.new.step C who A).1 = false → ∀ q τ, σ.get q = none → q ≠ p → q ∉ N.l → isA N (Adv.new.step C who A).2.2 τ → τ.get p = some ⟨({ c with x7 := .pointer (some ⟨q, 0, none⟩) } : Cr).l, true⟩ → τ.get q = some ⟨(Adv.new.step C who A).2.1.l, true⟩ → Keep (p :: N.l) σ τ → K (.tuple #[]) τ) :
  s_ao [.pointer (some ⟨p, 0, none⟩), N.env C who] K σ := by
 rcases c with ⟨pc, x1, at', pos, w, now, x6, x7, x8, ev, lf, fd, mo, rd, ev2, lf2, fd2, mo2, rd2, idle⟩
 dsimp only at *
 subst h
 have b : ∀ K : Value → Prop, xF (fBuild [(0, 1), (1, 1), (2, 1), (3, 1)] [.int .i64 0, .int .u64 0, .int .i64 0, .bool false] []) [] K = K (.agg Adv.new.l.toArray) := fun K => nr rfl
 rw [hA.obj hp]
 simp only [s_ao, w_ao, w_ao_j1, w_ao_j1b, s_au, w_au, lC0 hd, lC7 hd, b, ruS, ruL, ruE, Nat.reduceAdd, reduceIte, Int.reduceLT, Int.reduceLE, Int.reduceEq, Int.reduceNeg, Int.reduceAdd, Int.reduceSub, Nat.reduceLeDiff, Nat.reduceLT]
 rw [← hA.obj hp]
 refine hBox_i (cs := Adv.new.l) rfl fun q τ hq gq x => ?_
 have hA1 := hA.ext x
 have hqN := hA.new hq
 have hqp : q ≠ p := by rintro rfl; rw [hp] at hq; cases hq
 rw [hA1.obj (x _ _ hp)]
 simp only [sC7p hd, ruS, ruL, ruE, Nat.reduceAdd, reduceIte, Int.reduceLT, Int.reduceLE, Int.reduceEq, Int.reduceNeg, Int.reduceAdd, Int.reduceSub, Nat.reduceLeDiff, Nat.reduceLT]
 obtain ⟨hA2, gp2, kp2, _⟩ := mid (σ := τ) (A := A) hN hd (b := ⟨(⟨10, x1, at', pos, w, now, x6, .pointer (some ⟨q, 0, none⟩), x8, ev, lf, fd, mo, rd, ev2, lf2, fd2, mo2, rd2, idle⟩ : Cr).l, true⟩)
 have kk : ∀ {τ' : Mem}, Keep (q :: p :: N.l) (putA N A (τ.set p ⟨(⟨10, x1, at', pos, w, now, x6, .pointer (some ⟨q, 0, none⟩), x8, ev, lf, fd, mo, rd, ev2, lf2, fd2, mo2, rd2, idle⟩ : Cr).l, true⟩)) τ' → Keep (p :: N.l) σ τ' := fun k i b hi hn => by
  have : i ≠ q := by rintro rfl; rw [hq] at hi; cases hi
  exact k i b (kp2 i b (x i b hi) hn) (notin_cons this hn)
 refine c_Co10j (c := ⟨10, x1, at', pos, w, now, x6, x7, x8, ev, lf, fd, mo, rd, ev2, lf2, fd2, mo2, rd2, idle⟩) hN hC hA2 gp2 hd hn (kp2.get gq (notin_cons hqp hqN)) hqN hqp (Adv.new_fit hC) (fun d τ' u1 u2 u3 u4 => k1 d q τ' hq hqp hqN u1 u2 u3 (kk u4)) fun d => ?_
 exact absurd d (by unfold Adv.step; rw [if_pos (show Adv.new.pc = 0 from rfl)]; exact Bool.false_ne_true)
def Cr.settled (C : Cf) (c : Cr) (f : Bool) : Cr :=
 let fd' := (if f = true then c.fd + 1 else c.fd)
 if C.C ≤ c.at' + 1 then ⟨0, c.x1, 0, c.pos, c.w, c.now, c.x6, c.x7, .pointer none, c.ev, c.lf, fd', c.mo, c.rd + 1, c.ev, c.lf, fd', c.mo, c.rd + 1, (if c.ev ≠ c.ev2 ∨ c.mo ≠ c.mo2 ∨ fd' ≠ c.fd2 then 0 else c.idle + 1)⟩
 else ⟨c.pc, c.x1, c.at' + 1, c.pos, c.w, c.now, c.x6, c.x7, .pointer none, c.ev, c.lf, fd', c.mo, c.rd, c.ev2, c.lf2, c.fd2, c.mo2, c.rd2, c.idle⟩
structure Cr.cnt (c : Cr) : Prop where
 fd : 0 ≤ c.fd ∧ c.fd ≤ 1000000000
 rd : 0 ≤ c.rd ∧ c.rd ≤ 1000000000
 idle : 0 ≤ c.idle ∧ c.idle ≤ 1000000000
theorem c_Co11s (hN : N.ok) (hA : isA N A σ) {p : Nat} {c : Cr} (f : Bool) (hp : σ.get p = some ⟨({ c with fd := if f = true then c.fd + 1 else c.fd } : Cr).l, true⟩) (hd : p ∉ N.l) (h : c.pc = 11) (h0 : 0 ≤ c.at' ∧ c.at' < C.C) (hc : c.cnt) (hC3 : C.C ≤ 64)
  (hk : ∀ τ, isA N A τ → τ.get p = some ⟨(c.settled C f).l, true⟩ → Keep (p :: N.l) σ τ → K (.tuple #[]) τ) :
  w_au_j3 (fun v σ => K (.tuple #[]) σ) [.pointer (some ⟨p, 0, none⟩)] [N.el C who] σ := by
 rcases c with ⟨pc, x1, at', pos, w, now, x6, x7, x8, ev, lf, fd, mo, rd, ev2, lf2, fd2, mo2, rd2, idle⟩
 obtain ⟨h1, h2, h3⟩ := hc
 unfold Cr.settled at hk
 dsimp only at *
 subst h
 generalize hfd : (if f = true then fd + 1 else fd) = fd' at *
 rw [hA.obj hp]
 simp only [w_au_j3, w_au_j3b, sC8n hd, lC2 hd, sC2 hd, ruS, ruL, ruE, Nat.reduceAdd, reduceIte, Int.reduceLT, Int.reduceLE, Int.reduceEq, Int.reduceNeg, Int.reduceAdd, Int.reduceSub, Nat.reduceLeDiff, Nat.reduceLT]
 rw [IntWalk.i64_in (at' + 1) (by omega)]
 by_cases e : C.C ≤ at' + 1
 rotate_left
 ·rw [if_neg e] at hk
  simp only [e, ruS, ruL, ruE, Nat.reduceAdd, reduceIte, Int.reduceLT, Int.reduceLE, Int.reduceEq, Int.reduceNeg, Int.reduceAdd, Int.reduceSub, Nat.reduceLeDiff, Nat.reduceLT]
  exact behind hN hd hk
 rw [if_pos e] at hk
 simp only [e, sC2 hd, sC0 hd, lC13 hd, ruS, ruL, ruE, Nat.reduceAdd, reduceIte, Int.reduceLT, Int.reduceLE, Int.reduceEq, Int.reduceNeg, Int.reduceAdd, Int.reduceSub, Nat.reduceLeDiff, Nat.reduceLT]
 rw [IntWalk.i64_in (rd + 1) (by omega)]
 simp only [sC13 hd, lC19 hd, ruS, ruL, ruE, Nat.reduceAdd, reduceIte, Int.reduceLT, Int.reduceLE, Int.reduceEq, Int.reduceNeg, Int.reduceAdd, Int.reduceSub, Nat.reduceLeDiff, Nat.reduceLT]
 rw [IntWalk.i64_in (idle + 1) (by omega)]
 simp only [sC19 hd, lC9 hd, lC14 hd, ruS, ruL, ruE, Nat.reduceAdd, reduceIte, Int.reduceLT, Int.reduceLE, Int.reduceEq, Int.reduceNeg, Int.reduceAdd, Int.reduceSub, Nat.reduceLeDiff, Nat.reduceLT]
 have j4 : ∀ idle', idle' = (if ev ≠ ev2 ∨ mo ≠ mo2 ∨ fd' ≠ fd2 then 0 else idle + 1) → w_au_j4 (fun v σ => K (.tuple #[]) σ) [.pointer (some ⟨p, 0, none⟩)] [] (putA N A (σ.set p ⟨(⟨0, x1, 0, pos, w, now, x6, x7, .pointer none, ev, lf, fd', mo, rd + 1, ev2, lf2, fd2, mo2, rd2, idle'⟩ : Cr).l, true⟩)) := by
  rintro _ rfl
  simp only [w_au_j4, w_au_j4b, lC9w hd, sC14w hd, ruS, ruL, ruE, Nat.reduceAdd, reduceIte, Int.reduceLT, Int.reduceLE, Int.reduceEq, Int.reduceNeg, Int.reduceAdd, Int.reduceSub, Nat.reduceLeDiff, Nat.reduceLT]
  exact behind hN hd hk
 have j5 : ∀ b : Bool, (b = true ↔ ev ≠ ev2 ∨ mo ≠ mo2 ∨ fd' ≠ fd2) → w_au_j5 (fun v σ => K (.tuple #[]) σ) (w_au_j4 fun v σ => K (.tuple #[]) σ) [.pointer (some ⟨p, 0, none⟩), .bool b] [] (putA N A (σ.set p ⟨(⟨0, x1, 0, pos, w, now, x6, x7, .pointer none, ev, lf, fd', mo, rd + 1, ev2, lf2, fd2, mo2, rd2, idle + 1⟩ : Cr).l, true⟩)) := by
  intro b hb
  cases b with
  | true =>
   simp only [w_au_j5, w_au_j5b, sC19 hd, ruS, ruL, ruE, Nat.reduceAdd, reduceIte, Int.reduceLT, Int.reduceLE, Int.reduceEq, Int.reduceNeg, Int.reduceAdd, Int.reduceSub, Nat.reduceLeDiff, Nat.reduceLT]
   exact j4 0 (by rw [if_pos (hb.1 rfl)])
  | false =>
   simp only [w_au_j5, w_au_j5b, ruS, ruL, ruE, Nat.reduceAdd, reduceIte, Int.reduceLT, Int.reduceLE, Int.reduceEq, Int.reduceNeg, Int.reduceAdd, Int.reduceSub, Nat.reduceLeDiff, Nat.reduceLT]
   exact j4 (idle + 1) (by rw [if_neg fun q => by cases hb.2 q])
 by_cases e1 : ev = ev2
 rotate_left
 ·simp only [e1, ruS, ruL, ruE, Nat.reduceAdd, reduceIte, Int.reduceLT, Int.reduceLE, Int.reduceEq, Int.reduceNeg, Int.reduceAdd, Int.reduceSub, Nat.reduceLeDiff, Nat.reduceLT]; exact j5 true ⟨fun _ => .inl e1, fun _ => rfl⟩
 subst e1
 by_cases e2 : mo = mo2
 rotate_left
 ·simp only [lC12 hd, lC17 hd, e2, ruS, ruL, ruE, Nat.reduceAdd, reduceIte, Int.reduceLT, Int.reduceLE, Int.reduceEq, Int.reduceNeg, Int.reduceAdd, Int.reduceSub, Nat.reduceLeDiff, Nat.reduceLT]; exact j5 true ⟨fun _ => .inr (.inl e2), fun _ => rfl⟩
 subst e2
 simp only [lC12 hd, lC17 hd, lC11 hd, lC16 hd, ruS, ruL, ruE, Nat.reduceAdd, reduceIte, Int.reduceLT, Int.reduceLE, Int.reduceEq, Int.reduceNeg, Int.reduceAdd, Int.reduceSub, Nat.reduceLeDiff, Nat.reduceLT]
 by_cases e3 : fd' = fd2
 ·subst e3; simp only [ruS, ruL, ruE, Nat.reduceAdd, reduceIte, Int.reduceLT, Int.reduceLE, Int.reduceEq, Int.reduceNeg, Int.reduceAdd, Int.reduceSub, Nat.reduceLeDiff, Nat.reduceLT]; exact j5 false ⟨fun q => (by cases q), fun q => by rcases q with q | q | q <;> exact absurd rfl q⟩
 ·simp only [e3, ruS, ruL, ruE, Nat.reduceAdd, reduceIte, Int.reduceLT, Int.reduceLE, Int.reduceEq, Int.reduceNeg, Int.reduceAdd, Int.reduceSub, Nat.reduceLeDiff, Nat.reduceLT]; exact j5 true ⟨fun _ => .inr (.inr e3), fun _ => rfl⟩
theorem c_Co11j (hN : N.ok) (hC : C.ok) (hA : isA N A σ) {p q : Nat} {c : Cr} {a : Stl} (hp : σ.get p = some ⟨({ c with x8 := .pointer (some ⟨q, 0, none⟩) } : Cr).l, true⟩) (hd : p ∉ N.l) (h : c.pc = 11) (hn : C.len ≤ A.n) (hnn : (A.n : Int) ≤ 200000000) (hwA : ∀ i, 0 ≤ A.w i ∧ A.w i < 18446744073709551616)
  (hq : σ.get q = some ⟨a.l, true⟩) (hqd : q ∉ N.l) (hqp : q ≠ p) (hf : a.fit C A) (h0 : 0 ≤ c.at' ∧ c.at' < C.C) (hc : c.cnt)
  (k1 : (a.step C who A).1 = false → ∀ τ, isA N (a.step C who A).2.2 τ → τ.get p = some ⟨({ c with x8 := .pointer (some ⟨q, 0, none⟩) } : Cr).l, true⟩ → τ.get q = some ⟨(a.step C who A).2.1.l, true⟩ → Keep (q :: p :: N.l) σ τ → K (.tuple #[]) τ)
  (k2 : (a.step C who A).1 = true → ∀ τ, isA N (a.step C who A).2.2 τ → τ.get p = some ⟨(c.settled C (a.step C who A).2.1.freed).l, true⟩ → Keep (q :: p :: N.l) σ τ → K (.tuple #[]) τ) :
  w_au_j2 (fun v σ => K (.tuple #[]) σ) [.pointer (some ⟨p, 0, none⟩)] [N.el C who] σ := by
 rcases c with ⟨pc, x1, at', pos, w, now, x6, x7, x8, ev, lf, fd, mo, rd, ev2, lf2, fd2, mo2, rd2, idle⟩
 dsimp only at *
 subst h
 have hcb := hC.C
 have hfd := hc.fd
 dsimp only at hfd
 rw [hA.obj hp]
 simp only [w_au_j2, w_au_j2b, lC8 hd, ruS, ruL, ruE, Nat.reduceAdd, reduceIte, Int.reduceLT, Int.reduceLE, Int.reduceEq, Int.reduceNeg, Int.reduceAdd, Int.reduceSub, Nat.reduceLeDiff, Nat.reduceLT]
 rw [← hA.obj hp]
 refine c_Stl hN hC hA hq hqd hn hnn hwA hf fun τ hA' gq kq => ?_
 have gp := kq.get hp (notin_cons (Ne.symm hqp) hd)
 have kq' : Keep (q :: p :: N.l) σ τ := kq.mono fun i hi => by
  rcases List.mem_cons.1 hi with r | r
  ·subst r; exact List.mem_cons_self ..
  ·exact List.mem_cons_of_mem _ (List.mem_cons_of_mem _ r)
 cases d : (a.step C who A).1 with
 | false =>
  simp only [ruS, ruL, ruE, Nat.reduceAdd, reduceIte, Int.reduceLT, Int.reduceLE, Int.reduceEq, Int.reduceNeg, Int.reduceAdd, Int.reduceSub, Nat.reduceLeDiff, Nat.reduceLT]
  exact k1 d τ hA' gp gq kq'
 | true =>
  have k2' := k2 d
  simp only [Bool.not_true, ruS, ruL, ruE, Nat.reduceAdd, reduceIte, Int.reduceLT, Int.reduceLE, Int.reduceEq, Int.reduceNeg, Int.reduceAdd, Int.reduceSub, Nat.reduceLeDiff, Nat.reduceLT]
  rw [hA'.obj gp]
  simp only [lC8 hd, ruS, ruL, ruE, Nat.reduceAdd, reduceIte, Int.reduceLT, Int.reduceLE, Int.reduceEq, Int.reduceNeg, Int.reduceAdd, Int.reduceSub, Nat.reduceLeDiff, Nat.reduceLT]
  rw [← hA'.obj gp]
  refine c_Freed gq ?_
  have hc' : Cr.cnt ⟨11, x1, at', pos, w, now, x6, x7, .pointer (some ⟨q, 0, none⟩), ev, lf, fd, mo, rd, ev2, lf2, fd2, mo2, rd2, idle⟩ := ⟨hc.fd, hc.rd, hc.idle⟩
  cases hfr : (a.step C who A).2.1.freed with
  | true =>
   rw [hfr] at k2'
   rw [hA'.obj gp]
   simp only [lC11 hd, ruS, ruL, ruE, Nat.reduceAdd, reduceIte, Int.reduceLT, Int.reduceLE, Int.reduceEq, Int.reduceNeg, Int.reduceAdd, Int.reduceSub, Nat.reduceLeDiff, Nat.reduceLT]
   rw [IntWalk.i64_in (fd + 1) (by omega)]
   simp only [sC11 hd, ruS, ruL, ruE, Nat.reduceAdd, reduceIte, Int.reduceLT, Int.reduceLE, Int.reduceEq, Int.reduceNeg, Int.reduceAdd, Int.reduceSub, Nat.reduceLeDiff, Nat.reduceLT]
   obtain ⟨hA2, gp2, kp2, _⟩ := mid (σ := τ) (A := (a.step C who A).2.2) hN hd (b := ⟨(⟨11, x1, at', pos, w, now, x6, x7, .pointer (some ⟨q, 0, none⟩), ev, lf, fd + 1, mo, rd, ev2, lf2, fd2, mo2, rd2, idle⟩ : Cr).l, true⟩)
   exact c_Co11s (c := ⟨11, x1, at', pos, w, now, x6, x7, .pointer (some ⟨q, 0, none⟩), ev, lf, fd, mo, rd, ev2, lf2, fd2, mo2, rd2, idle⟩) hN hA2 true gp2 hd rfl h0 hc' hcb.2 fun τ' u1 u2 u3 => k2' τ' u1 u2 (Keep.trans kq' (Keep.trans (kp2.mono fun i hi => List.mem_cons_of_mem _ hi) (u3.mono fun i hi => List.mem_cons_of_mem _ hi)))
  | false =>
   rw [hfr] at k2'
   simp only [ruS, ruL, ruE, Nat.reduceAdd, reduceIte, Int.reduceLT, Int.reduceLE, Int.reduceEq, Int.reduceNeg, Int.reduceAdd, Int.reduceSub, Nat.reduceLeDiff, Nat.reduceLT]
   exact c_Co11s (c := ⟨11, x1, at', pos, w, now, x6, x7, .pointer (some ⟨q, 0, none⟩), ev, lf, fd, mo, rd, ev2, lf2, fd2, mo2, rd2, idle⟩) hN hA' false gp hd rfl h0 hc' hcb.2 fun τ' u1 u2 u3 => k2' τ' u1 u2 (Keep.trans kq' (u3.mono fun i hi => List.mem_cons_of_mem _ hi))
theorem c_Co11a (hN : N.ok) (hC : C.ok) (hA : isA N A σ) {p q : Nat} {c : Cr} {a : Stl} (hp : σ.get p = some ⟨({ c with x8 := .pointer (some ⟨q, 0, none⟩) } : Cr).l, true⟩) (hd : p ∉ N.l) (h : c.pc = 11) (hn : C.len ≤ A.n) (hnn : (A.n : Int) ≤ 200000000) (hwA : ∀ i, 0 ≤ A.w i ∧ A.w i < 18446744073709551616)
  (hq : σ.get q = some ⟨a.l, true⟩) (hqd : q ∉ N.l) (hqp : q ≠ p) (hf : a.fit C A) (h0 : 0 ≤ c.at' ∧ c.at' < C.C) (hc : c.cnt)
  (k1 : (a.step C who A).1 = false → ∀ τ, isA N (a.step C who A).2.2 τ → τ.get p = some ⟨({ c with x8 := .pointer (some ⟨q, 0, none⟩) } : Cr).l, true⟩ → τ.get q = some ⟨(a.step C who A).2.1.l, true⟩ → Keep (q :: p :: N.l) σ τ → K (.tuple #[]) τ)
  (k2 : (a.step C who A).1 = true → ∀ τ, isA N (a.step C who A).2.2 τ → τ.get p = some ⟨(c.settled C (a.step C who A).2.1.freed).l, true⟩ → Keep (q :: p :: N.l) σ τ → K (.tuple #[]) τ) :
  s_ao [.pointer (some ⟨p, 0, none⟩), N.env C who] K σ := by
 rcases c with ⟨pc, x1, at', pos, w, now, x6, x7, x8, ev, lf, fd, mo, rd, ev2, lf2, fd2, mo2, rd2, idle⟩
 dsimp only at *
 subst h
 rw [hA.obj hp]
 simp only [s_ao, w_ao, w_ao_j1, w_ao_j1b, s_au, w_au, lC0 hd, lC8 hd, ruS, ruL, ruE, Nat.reduceAdd, reduceIte, Int.reduceLT, Int.reduceLE, Int.reduceEq, Int.reduceNeg, Int.reduceAdd, Int.reduceSub, Nat.reduceLeDiff, Nat.reduceLT]
 rw [← hA.obj hp]
 exact c_Co11j (c := ⟨11, x1, at', pos, w, now, x6, x7, x8, ev, lf, fd, mo, rd, ev2, lf2, fd2, mo2, rd2, idle⟩) hN hC hA hp hd rfl hn hnn hwA hq hqd hqp hf h0 hc k1 k2
theorem c_Co11n (hN : N.ok) (hC : C.ok) (hA : isA N A σ) {p : Nat} {c : Cr} (hp : σ.get p = some ⟨({ c with x8 := .pointer none } : Cr).l, true⟩) (hd : p ∉ N.l) (h : c.pc = 11) (hn : C.len ≤ A.n) (hnn : (A.n : Int) ≤ 200000000) (hwA : ∀ i, 0 ≤ A.w i ∧ A.w i < 18446744073709551616)
  (h0 : 0 ≤ c.at' ∧ c.at' < C.C) (hc : c.cnt)
  (k1 : ((Stl.new c.at').step C who A).1 = false → ∀ q τ, σ.get q = none → q ≠ p → q ∉ N.l → isA N ((Stl.new c.at').step C who A).2.2 τ → τ.get p = some ⟨({ c with x8 := .pointer (some ⟨q, 0, none⟩) } : Cr).l, true⟩ → τ.get q = some ⟨((Stl.new c.at').step C who A).2.1.l, true⟩ → Keep (p :: N.l) σ τ → K (.tuple #[]) τ)
  (k2 : ((Stl.new c.at').step C who A).1 = true → ∀ τ, isA N ((Stl.new c.at').step C who A).2.2 τ → τ.get p = some ⟨(c.settled C ((Stl.new c.at').step C who A).2.1.freed).l, true⟩ → Keep (p :: N.l) σ τ → K (.tuple #[]) τ) :
  s_ao [.pointer (some ⟨p, 0, none⟩), N.env C who] K σ := by
 rcases c with ⟨pc, x1, at', pos, w, now, x6, x7, x8, ev, lf, fd, mo, rd, ev2, lf2, fd2, mo2, rd2, idle⟩
 dsimp only at *
 subst h
 rw [hA.obj hp]
 simp only [s_ao, w_ao, w_ao_j1, w_ao_j1b, s_au, w_au, lC0 hd, lC8 hd, lC2 hd, ruS, ruL, ruE, Nat.reduceAdd, reduceIte, Int.reduceLT, Int.reduceLE, Int.reduceEq, Int.reduceNeg, Int.reduceAdd, Int.reduceSub, Nat.reduceLeDiff, Nat.reduceLT]
 rw [← hA.obj hp]
 refine c_NewStl fun q τ hq gq x => ?_
 have hA1 := hA.ext x
 have hqN := hA.new hq
 have hqp : q ≠ p := by rintro rfl; rw [hp] at hq; cases hq
 rw [hA1.obj (x _ _ hp)]
 simp only [sC8p hd, ruS, ruL, ruE, Nat.reduceAdd, reduceIte, Int.reduceLT, Int.reduceLE, Int.reduceEq, Int.reduceNeg, Int.reduceAdd, Int.reduceSub, Nat.reduceLeDiff, Nat.reduceLT]
 obtain ⟨hA2, gp2, kp2, _⟩ := mid (σ := τ) (A := A) hN hd (b := ⟨(⟨11, x1, at', pos, w, now, x6, x7, .pointer (some ⟨q, 0, none⟩), ev, lf, fd, mo, rd, ev2, lf2, fd2, mo2, rd2, idle⟩ : Cr).l, true⟩)
 have kk : ∀ {τ' : Mem}, Keep (q :: p :: N.l) (putA N A (τ.set p ⟨(⟨11, x1, at', pos, w, now, x6, x7, .pointer (some ⟨q, 0, none⟩), ev, lf, fd, mo, rd, ev2, lf2, fd2, mo2, rd2, idle⟩ : Cr).l, true⟩)) τ' → Keep (p :: N.l) σ τ' := fun k i b hi hn => by
  have : i ≠ q := by rintro rfl; rw [hq] at hi; cases hi
  exact k i b (kp2 i b (x i b hi) hn) (notin_cons this hn)
 have hft : (Stl.new at').fit C A := ⟨by show (0 : Int) ≤ 0 ∧ (0 : Int) ≤ 5; decide, h0, by show (0 : Int) ≤ 0 ∧ (0 : Int) < 18446744073709551616; decide, fun e => by cases e⟩
 exact c_Co11j (c := ⟨11, x1, at', pos, w, now, x6, x7, x8, ev, lf, fd, mo, rd, ev2, lf2, fd2, mo2, rd2, idle⟩) hN hC hA2 gp2 hd rfl hn hnn hwA (kp2.get gq (notin_cons hqp hqN)) hqN hqp hft h0 hc (fun d τ' u1 u2 u3 u4 => k1 d q τ' hq hqp hqN u1 u2 u3 (kk u4)) fun d τ' u1 u2 u3 => k2 d τ' u1 u2 (kk u3)
end Go.Fl
namespace Go.Fl
open Go
set_option linter.unusedVariables false
set_option linter.unusedSimpArgs false
variable {N : Nm} {A B : Ar} {σ : Mem} {K : Value → Mem → Prop} {C : Cf} {who : Int}
structure Co where
 r : Cr
 seen : List Sn
 a : Option Adv
 s : Option Stl
 m : Mv
def Cr.px (c : Cr) (x1 x6 x7 x8 : Value) : Cr := { c with x1 := x1, x6 := x6, x7 := x7, x8 := x8 }
theorem px_settled {c : Cr} {x1 x6 x7 x8 : Value} {f : Bool} : (c.px x1 x6 x7 x8).settled C f = (c.settled C f).px x1 x6 x7 (.pointer none) := by
 unfold Cr.settled Cr.px; dsimp only; split <;> rfl
theorem px_moved {c : Cr} {x1 x6 x7 x8 : Value} {d : Bool} {o : Int} : (c.px x1 x6 x7 x8).moved d o = (c.moved d o).px x1 x6 x7 x8 := by
 unfold Cr.moved; (repeat' split) <;> rfl
def Cr.new : Cr := ⟨0, .pointer none, 0, 0, 0, 0, .pointer none, .pointer none, .pointer none, 0, 0, 0, 0, 0, 0, 0, 0, 0, 0, 0⟩
def Co.new : Co := ⟨Cr.new, [], none, none, Mv.new 0 0 0 0 0 false⟩
def liveS (L : List Sn) (i : Nat) (v : Int) : List Sn := match L[i]? with
 | none => L
 | some x => L.set i { x with live := v }
theorem liveS_len {L : List Sn} {i : Nat} {v : Int} : (liveS L i v).length = L.length := by unfold liveS; split <;> simp
def wordS (L : List Sn) (i : Nat) : Int := match L[i]? with
 | none => 0
 | some x => putChunk x.st x.cl x.us x.sp
def Co.step (C : Cf) (who : Int) (A : Ar) (r : Int) (c : Co) : Co × Ar :=
 if c.r.pc = 0 then ({ c with seen := (if c.r.at' = 0 then [] else c.seen) ++ [seeS (A.w (C.chunk c.r.at'))], r := { c.r with pc := 1 } }, (A.by who).load (C.chunk c.r.at'))
 else if c.r.pc = 1 then ({ c with seen := liveS c.seen c.r.at'.toNat (IntKind.i64.wrap (A.w (C.chunk c.r.at' + 1))), r := { c.r with at' := if C.C ≤ c.r.at' + 1 then 0 else c.r.at' + 1, pc := if C.C ≤ c.r.at' + 1 then 2 else 0 } }, (A.by who).load (C.chunk c.r.at' + 1))
 else if c.r.pc = 2 then
  if c.r.at' + 1 < 4 then ({ c with seen := opS c.seen (A.w (2 + c.r.at')), r := { c.r with at' := c.r.at' + 1 } }, (A.by who).load (2 + c.r.at'))
  else if r < 0 then ({ c with seen := opS c.seen (A.w (2 + c.r.at')), r := { c.r with at' := -1, pc := 10 } }, (A.by who).load (2 + c.r.at'))
  else ({ c with seen := opS c.seen (A.w (2 + c.r.at')), r := { c.r with at' := r, pc := 3, w := wordS (opS c.seen (A.w (2 + c.r.at'))) r.toNat } }, (A.by who).load (2 + c.r.at'))
 else if c.r.pc = 3 then ({ c with r := { c.r with pos := 0, pc := if A.w (C.chunk c.r.at') = c.r.w then 4 else 10, w := if A.w (C.chunk c.r.at') = c.r.w then chw c.r.w 2 else c.r.w } }, (A.by who).cas (C.chunk c.r.at') c.r.w (chw c.r.w 2))
 else if c.r.pc = 4 then
  if hdK (A.w (C.base c.r.at' + c.r.pos)) = 3 then ({ c with r := c.r.next (chC c.r.w) (chU c.r.w) }, (A.by who).load (C.base c.r.at' + c.r.pos))
  else if hdK (A.w (C.base c.r.at' + c.r.pos)) = 2 then ({ c with r := { c.r with pc := 5 }, m := Mv.new (C.base c.r.at' + c.r.pos) (hdK (A.w (C.base c.r.at' + c.r.pos))) (hdS (A.w (C.base c.r.at' + c.r.pos))) (hdT (A.w (C.base c.r.at' + c.r.pos))) (hdG (A.w (C.base c.r.at' + c.r.pos))) (hdO (A.w (C.base c.r.at' + c.r.pos))) }, (A.by who).load (C.base c.r.at' + c.r.pos))
  else ({ c with r := { c.r with pc := 9 } }, (A.by who).load (C.base c.r.at' + c.r.pos))
 else if c.r.pc = 5 then ({ c with r := c.r.moved (c.m.step C who A).1 (c.m.step C who A).2.1.a.out, m := (c.m.step C who A).2.1 }, (c.m.step C who A).2.2)
 else if c.r.pc = 6 then ({ c with r := { c.r with now := A.w 0, pc := 7 } }, (A.by who).load 0)
 else if c.r.pc = 7 then ({ c with r := { c.r with pc := 8 } }, (A.by who).store (C.chunk c.r.at' + 2) c.r.now)
 else if c.r.pc = 8 then ({ c with r := { c.r with ev := c.r.ev + 1, pc := 10 } }, (A.by who).store (C.chunk c.r.at') (chw c.r.w 3))
 else if c.r.pc = 9 then ({ c with r := { c.r with lf := c.r.lf + 1, pc := 10 } }, (A.by who).store (C.chunk c.r.at') (chw c.r.w 1))
 else if c.r.pc = 10 then
  if ((c.a.getD Adv.new).step C who A).1 = true then ({ c with a := none, r := { c.r with at' := 0, pc := 11 } }, ((c.a.getD Adv.new).step C who A).2.2)
  else ({ c with a := some ((c.a.getD Adv.new).step C who A).2.1 }, ((c.a.getD Adv.new).step C who A).2.2)
 else
  if ((c.s.getD (Stl.new c.r.at')).step C who A).1 = true then ({ c with s := none, r := c.r.settled C ((c.s.getD (Stl.new c.r.at')).step C who A).2.1.freed }, ((c.s.getD (Stl.new c.r.at')).step C who A).2.2)
  else ({ c with s := some ((c.s.getD (Stl.new c.r.at')).step C who A).2.1 }, ((c.s.getD (Stl.new c.r.at')).step C who A).2.2)
def Co.may (C : Cf) (A : Ar) (c : Co) (r : Int) : Prop := c.r.pc = 2 → ¬ c.r.at' + 1 < 4 → Chosen C (opS c.seen (A.w (2 + c.r.at'))) r ∧ -1 ≤ r ∧ r < C.C
structure Co.fit (C : Cf) (A : Ar) (c : Co) : Prop where
 pc : 0 ≤ c.r.pc ∧ c.r.pc ≤ 11
 at' : c.r.pc ≠ 10 → 0 ≤ c.r.at' ∧ (c.r.pc = 2 → c.r.at' < 4) ∧ (c.r.pc ≠ 2 → c.r.at' < C.C)
 sn : c.r.pc ≤ 2 → ¬ (c.r.pc = 0 ∧ c.r.at' = 0) → (c.seen.length : Int) = if c.r.pc = 0 then c.r.at' else if c.r.pc = 1 then c.r.at' + 1 else C.C
 op : c.r.pc = 2 → 0 ≤ A.w (2 + c.r.at') ∧ A.w (2 + c.r.at') ≤ C.C
 w : 3 ≤ c.r.pc → c.r.pc ≤ 9 → 0 ≤ c.r.w ∧ c.r.w < 18446744073709551616
 cl : 4 ≤ c.r.pc → c.r.pc ≤ 5 → chC c.r.w ≤ 3
 po : 4 ≤ c.r.pc → c.r.pc ≤ 5 → 0 ≤ c.r.pos ∧ C.base c.r.at' + c.r.pos < A.n
 m : c.r.pc = 5 → c.m.fit C A
 a : ∀ a, c.a = some a → c.r.pc = 10 ∧ a.fit C
 s : ∀ s, c.s = some s → c.r.pc = 11 ∧ s.fit C A
 cnt : c.r.cnt
 cev : 0 ≤ c.r.ev ∧ c.r.ev ≤ 1000000000
 clf : 0 ≤ c.r.lf ∧ c.r.lf ≤ 1000000000
 cmo : 0 ≤ c.r.mo ∧ c.r.mo ≤ 1000000000
structure COa (N : Nm) (p : Nat) (O : List Nat) (c : Co) (τ : Mem) (x1 x6 x7 x8 : Value) : Prop where
 sn : c.r.pc ≤ 2 → ¬ (c.r.pc = 0 ∧ c.r.at' = 0) → ∃ q, x1 = .slice (some ⟨q, 0, none⟩) c.seen.length 6 ∧ q ∈ O ∧ q ≠ p ∧ τ.get q = some ⟨snL c.seen, true⟩
 m : c.r.pc = 5 → ∃ q Q, x6 = .pointer (some ⟨q, 0, none⟩) ∧ MOb N q Q c.m τ ∧ p ∉ Q ∧ ∀ i ∈ Q, i ∈ O
 a0 : c.a = none → x7 = .pointer none
 a1 : ∀ a, c.a = some a → ∃ q, x7 = .pointer (some ⟨q, 0, none⟩) ∧ q ∈ O ∧ q ≠ p ∧ τ.get q = some ⟨a.l, true⟩
 s0 : c.s = none → x8 = .pointer none
 s1 : ∀ s, c.s = some s → ∃ q, x8 = .pointer (some ⟨q, 0, none⟩) ∧ q ∈ O ∧ q ≠ p ∧ τ.get q = some ⟨s.l, true⟩
structure COb (N : Nm) (p : Nat) (O : List Nat) (c : Co) (τ : Mem) : Prop where
 obj : ∃ x1 x6 x7 x8, τ.get p = some ⟨(c.r.px x1 x6 x7 x8).l, true⟩ ∧ COa N p O c τ x1 x6 x7 x8
 own : ∀ i ∈ O, i ∉ N.l
 p : p ∈ O
theorem COb.keep {p : Nat} {O L : List Nat} {c : Co} {τ : Mem} (h : COb N p O c σ) (x : Keep L σ τ) (hL : ∀ i ∈ O, i ∉ L) : COb N p O c τ := by
 obtain ⟨⟨x1, x6, x7, x8, h1, h2, h3, h4, h5, h6, h7⟩, own, pO⟩ := h
 refine ⟨⟨x1, x6, x7, x8, x.get h1 (hL p pO), fun a b => ?_, fun e => ?_, h4, fun a e => ?_, h6, fun a e => ?_⟩, own, pO⟩
 ·obtain ⟨q, q1, q2, q3, q4⟩ := h2 a b; exact ⟨q, q1, q2, q3, x.get q4 (hL q q2)⟩
 ·obtain ⟨q, Q, q1, q2, q3, q4⟩ := h3 e; exact ⟨q, Q, q1, q2.keep x fun i hi => hL i (q4 i hi), q3, q4⟩
 ·obtain ⟨q, q1, q2, q3, q4⟩ := h5 a e; exact ⟨q, q1, q2, q3, x.get q4 (hL q q2)⟩
 ·obtain ⟨q, q1, q2, q3, q4⟩ := h7 a e; exact ⟨q, q1, q2, q3, x.get q4 (hL q q2)⟩
theorem COb.ext {p : Nat} {O : List Nat} {c : Co} {τ : Mem} (h : COb N p O c σ) (x : Ext σ τ) : COb N p O c τ := h.keep (L := []) x.keep fun _ _ => by simp
theorem COb.bare {p : Nat} {O : List Nat} {c : Co} {τ : Mem} {x1 x6 : Value} (h1 : τ.get p = some ⟨(c.r.px x1 x6 (.pointer none) (.pointer none)).l, true⟩) (hpc : (3 ≤ c.r.pc ∧ c.r.pc ≠ 5) ∨ c.r.pc = 0 ∧ c.r.at' = 0) (ha : c.a = none) (hs : c.s = none) (own : ∀ i ∈ O, i ∉ N.l) (pO : p ∈ O) : COb N p O c τ :=
 ⟨⟨x1, x6, _, _, h1, fun a b => by omega, fun e => by omega, fun _ => rfl, fun a e => (by rw [ha] at e; cases e), fun _ => rfl, fun a e => (by rw [hs] at e; cases e)⟩, own, pO⟩
theorem c_Co_Step (hN : N.ok) (hC : C.ok) (hA : isA N A σ) {p : Nat} {O : List Nat} {c : Co} (hO : COb N p O c σ) (hn : C.len ≤ A.n) (hnn : (A.n : Int) ≤ 200000000) (hwA : ∀ i, 0 ≤ A.w i ∧ A.w i < 18446744073709551616) (hf : c.fit C A)
  (hk : ∀ r O' τ, c.may C A r → (∀ i ∈ O', i ∈ O ∨ σ.get i = none) → isA N (c.step C who A r).2 τ → COb N p O' (c.step C who A r).1 τ → Keep (O ++ N.l) σ τ → K (.tuple #[]) τ) : s_ao [.pointer (some ⟨p, 0, none⟩), N.env C who] K σ := by
 obtain ⟨⟨x1, x6, x7, x8, hp, hX⟩, own, pO⟩ := hO
 have hd := own p pO
 have hC3 := hC.C
 have k1 : ∀ {τ : Mem}, Keep (p :: N.l) σ τ → Keep (O ++ N.l) σ τ := fun k => k.mono fun i hi => by
  rcases List.mem_cons.1 hi with rfl | hi
  ·exact List.mem_append_left _ pO
  ·exact List.mem_append_right _ hi
 have k2 : ∀ {τ : Mem} {q : Nat}, q ∈ O → Keep (q :: p :: N.l) σ τ → Keep (O ++ N.l) σ τ := fun hq k => k.mono fun i hi => by
  rcases List.mem_cons.1 hi with rfl | hi
  ·exact List.mem_append_left _ hq
  ·rcases List.mem_cons.1 hi with rfl | hi
   ·exact List.mem_append_left _ pO
   ·exact List.mem_append_right _ hi
 have same : ∀ i ∈ O, i ∈ O ∨ σ.get i = none := fun i hi => .inl hi
 have cons : ∀ {q : Nat}, σ.get q = none → ∀ i ∈ q :: O, i ∈ O ∨ σ.get i = none := fun h i hi => by rcases List.mem_cons.1 hi with rfl | hi; exact .inr h; exact .inl hi
 have ownc : ∀ {q : Nat}, q ∉ N.l → ∀ i ∈ q :: O, i ∉ N.l := fun h i hi => by rcases List.mem_cons.1 hi with rfl | hi; exact h; exact own i hi
 have hpc := hf.pc
 have an : c.r.pc ≠ 10 → c.a = none := fun h => by cases e : c.a with | none => rfl | some a => exact absurd (hf.a a e).1 h
 have sn : c.r.pc ≠ 11 → c.s = none := fun h => by cases e : c.s with | none => rfl | some a => exact absurd (hf.s a e).1 h
 have may0 : c.r.pc ≠ 2 → c.may C A 0 := fun h e => absurd e h
 unfold Co.step at hk
 by_cases c0 : c.r.pc = 0
 ·simp only [if_pos c0] at hk
  have ea := an (by omega); have es := sn (by omega)
  have e7 := hX.a0 ea; have e8 := hX.s0 es; subst e7; subst e8
  have ha := hf.at' (by omega)
  by_cases z : c.r.at' = 0
  ·refine c_Co0a hN hC hA (c := c.r.px x1 x6 (.pointer none) (.pointer none)) hp hd c0 hn z hwA fun q τ hq qp qN u1 u2 u3 u4 => ?_
   simp only [if_pos z] at hk
   exact hk 0 (q :: O) τ (may0 (by omega)) (cons hq) u1 ⟨⟨.slice (some ⟨q, 0, none⟩) 1 6, x6, _, _, u2, fun _ _ => ⟨q, rfl, List.mem_cons_self .., qp, u3⟩, fun e => (by cases e), fun _ => rfl, fun a e => (by rw [show c.a = some a from e] at ea; cases ea), fun _ => rfl, fun a e => (by rw [show c.s = some a from e] at es; cases es)⟩, ownc qN, List.mem_cons_of_mem _ pO⟩ (k1 u4)
  ·obtain ⟨q, rfl, qO, qp, gq⟩ := hX.sn (by omega) (by omega)
   have hl := hf.sn (by omega) (by omega)
   rw [if_pos c0] at hl
   refine c_Co0b hN hC hA (c := c.r.px (.slice (some ⟨q, 0, none⟩) c.seen.length 6) x6 (.pointer none) (.pointer none)) (L := c.seen) hp hd c0 hn (by show 0 < c.r.at' ∧ c.r.at' < C.C; omega) hwA gq (own q qO) qp (by omega) fun q' τ hq' qp' qN' u1 u2 u3 u4 => ?_
   simp only [if_neg z] at hk
   exact hk 0 (q' :: O) τ (may0 (by omega)) (cons hq') u1 ⟨⟨.slice (some ⟨q', 0, none⟩) (c.seen.length + 1) 6, x6, _, _, u2, fun _ _ => ⟨q', by rw [List.length_append]; rfl, List.mem_cons_self .., qp', u3⟩, fun e => (by cases e), fun _ => rfl, fun a e => (by rw [show c.a = some a from e] at ea; cases ea), fun _ => rfl, fun a e => (by rw [show c.s = some a from e] at es; cases es)⟩, ownc qN', List.mem_cons_of_mem _ pO⟩ (k2 qO u4)
 by_cases c1 : c.r.pc = 1
 ·simp only [if_neg c0, if_pos c1] at hk
  have ea := an (by omega); have es := sn (by omega)
  have e7 := hX.a0 ea; have e8 := hX.s0 es; subst e7; subst e8
  have ha := hf.at' (by omega)
  obtain ⟨q, rfl, qO, qp, gq⟩ := hX.sn (by omega) (by omega)
  have hl := hf.sn (by omega) (by omega)
  rw [if_neg c0, if_pos c1] at hl
  obtain ⟨x, hx⟩ : ∃ x, c.seen[c.r.at'.toNat]? = some x := ⟨_, List.getElem?_eq_getElem (by omega)⟩
  have el : liveS c.seen c.r.at'.toNat (IntKind.i64.wrap (A.w (C.chunk c.r.at' + 1))) = c.seen.set c.r.at'.toNat { x with live := IntKind.i64.wrap (A.w (C.chunk c.r.at' + 1)) } := by unfold liveS; rw [hx]
  refine c_Co1 hN hC hA (c := c.r.px (.slice (some ⟨q, 0, none⟩) c.seen.length 6) x6 (.pointer none) (.pointer none)) (L := c.seen) (x := x) hp hd c1 hn (by show 0 ≤ c.r.at' ∧ c.r.at' < C.C; omega) gq (own q qO) qp hx fun τ u1 u2 u3 u4 => ?_
  exact hk 0 O τ (may0 (by omega)) same u1 ⟨⟨.slice (some ⟨q, 0, none⟩) c.seen.length 6, x6, _, _, u2, fun _ _ => ⟨q, by rw [liveS_len], qO, qp, by rw [el]; exact u3⟩, fun e => (by dsimp only at e; split at e <;> cases e), fun _ => rfl, fun a e => (by rw [show c.a = some a from e] at ea; cases ea), fun _ => rfl, fun a e => (by rw [show c.s = some a from e] at es; cases es)⟩, own, pO⟩ (k2 qO u4)
 by_cases c2 : c.r.pc = 2
 ·simp only [if_neg c0, if_neg c1, if_pos c2] at hk
  have ea := an (by omega); have es := sn (by omega)
  have e7 := hX.a0 ea; have e8 := hX.s0 es; subst e7; subst e8
  have ha := hf.at' (by omega)
  obtain ⟨q, rfl, qO, qp, gq⟩ := hX.sn (by omega) (by omega)
  have hl := hf.sn (by omega) (by omega)
  rw [if_neg c0, if_neg c1] at hl
  refine c_Co2 hN hC hA (c := c.r.px (.slice (some ⟨q, 0, none⟩) c.seen.length 6) x6 (.pointer none) (.pointer none)) (L := c.seen) hp hd c2 hn (by show 0 ≤ c.r.at' ∧ c.r.at' < 4; omega) gq (own q qO) qp hl (hf.op c2) (fun d τ u1 u2 u3 u4 => ?_) (fun d hr τ u1 u2 u3 => ?_) (fun d r x r0 r1 hx hm τ u1 u2 u3 => ?_)
  ·have d' : c.r.at' + 1 < 4 := d
   simp only [if_pos d'] at hk
   exact hk 0 O τ (fun _ q => absurd d' q) same u1 ⟨⟨.slice (some ⟨q, 0, none⟩) c.seen.length 6, x6, _, _, u2, fun _ _ => ⟨q, by rw [opS_len], qO, qp, u3⟩, fun e => (by have : c.r.pc = 5 := e; omega), fun _ => rfl, fun a e => (by rw [show c.a = some a from e] at ea; cases ea), fun _ => rfl, fun a e => (by rw [show c.s = some a from e] at es; cases es)⟩, own, pO⟩ (k2 qO u4)
  ·have d' : ¬ c.r.at' + 1 < 4 := d
   simp only [if_neg d'] at hk
   have := hk (-1) O τ (fun _ _ => ⟨.inl ⟨rfl, hr⟩, by omega, by omega⟩) same
   rw [if_pos (show (-1 : Int) < 0 by decide)] at this
   exact this u1 (COb.bare (x1 := .slice (some ⟨q, 0, none⟩) c.seen.length 6) (x6 := x6) u2 (.inl ⟨by show (3 : Int) ≤ 10; decide, by show (10 : Int) ≠ 5; decide⟩) ea es own pO) (k2 qO u3)
  ·have d' : ¬ c.r.at' + 1 < 4 := d
   simp only [if_neg d'] at hk
   have := hk r O τ (fun _ _ => ⟨.inr ⟨r0, x, hx, hm⟩, by omega, r1⟩) same
   rw [if_neg (show ¬ r < 0 by omega)] at this
   have ew : wordS (opS c.seen (A.w (2 + c.r.at'))) r.toNat = putChunk x.st x.cl x.us x.sp := by unfold wordS; rw [show (opS c.seen (A.w (2 + c.r.at')))[r.toNat]? = some x from hx]
   rw [ew] at this
   exact this u1 (COb.bare (x1 := .slice (some ⟨q, 0, none⟩) c.seen.length 6) (x6 := x6) u2 (.inl ⟨by show (3 : Int) ≤ 3; decide, by show (3 : Int) ≠ 5; decide⟩) ea es own pO) (k2 qO u3)
 by_cases c3 : c.r.pc = 3
 ·simp only [if_neg c0, if_neg c1, if_neg c2, if_pos c3] at hk
  have ea := an (by omega); have es := sn (by omega)
  have e7 := hX.a0 ea; have e8 := hX.s0 es; subst e7; subst e8
  have ha := hf.at' (by omega)
  refine c_Co3 hN hC hA (c := c.r.px x1 x6 (.pointer none) (.pointer none)) hp hd c3 hn (by show 0 ≤ c.r.at' ∧ c.r.at' < C.C; omega) (hf.w (by omega) (by omega)) fun τ u1 u2 u3 => ?_
  refine hk 0 O τ (may0 (by omega)) same u1 (COb.bare (x1 := x1) (x6 := x6) u2 (.inl ?_) ea es own pO) (k1 u3)
  show 3 ≤ (if A.w (C.chunk c.r.at') = c.r.w then (4 : Int) else 10) ∧ (if A.w (C.chunk c.r.at') = c.r.w then (4 : Int) else 10) ≠ 5
  split <;> decide
 by_cases c4 : c.r.pc = 4
 ·simp only [if_neg c0, if_neg c1, if_neg c2, if_neg c3, if_pos c4] at hk
  have ea := an (by omega); have es := sn (by omega)
  have e7 := hX.a0 ea; have e8 := hX.s0 es; subst e7; subst e8
  have ha := hf.at' (by omega)
  refine c_Co4 hN hC hA (c := c.r.px x1 x6 (.pointer none) (.pointer none)) hp hd c4 hn hnn (by show 0 ≤ c.r.at' ∧ c.r.at' < C.C; omega) (hf.w (by omega) (by omega)) (hf.cl (by omega) (by omega)) (hf.po (by omega) (by omega)) hwA (fun d τ u1 u2 u3 => ?_) (fun d q τ hq u1 u2 u3 u4 => ?_) (fun d d2 τ u1 u2 u3 => ?_)
  ·rw [if_pos (show hdK (A.w (C.base c.r.at' + c.r.pos)) = 3 from d)] at hk
   refine hk 0 O τ (may0 (by omega)) same u1 (COb.bare (x1 := x1) (x6 := x6) u2 (.inl ?_) ea es own pO) (k1 u3)
   show 3 ≤ (if chU c.r.w ≤ c.r.pos + roomOf (chC c.r.w) then (6 : Int) else 4) ∧ (if chU c.r.w ≤ c.r.pos + roomOf (chC c.r.w) then (6 : Int) else 4) ≠ 5
   split <;> decide
  ·have d' : hdK (A.w (C.base c.r.at' + c.r.pos)) = 2 := d
   rw [if_neg (show ¬ hdK (A.w (C.base c.r.at' + c.r.pos)) = 3 by omega), if_pos d'] at hk
   have qp : q ≠ p := by rintro rfl; rw [hp] at hq; cases hq
   exact hk 0 (q :: O) τ (may0 (by omega)) (cons hq) u1 ⟨⟨x1, .pointer (some ⟨q, 0, none⟩), _, _, u2, fun a b => absurd (show (5 : Int) ≤ 2 from a) (by decide), fun _ => ⟨q, [q], rfl, u3, by simp; exact fun e => qp e.symm, fun i hi => by rw [List.mem_singleton] at hi; subst hi; exact List.mem_cons_self ..⟩, fun _ => rfl, fun a e => (by rw [show c.a = some a from e] at ea; cases ea), fun _ => rfl, fun a e => (by rw [show c.s = some a from e] at es; cases es)⟩, ownc (u3.own q (List.mem_singleton.2 rfl)), List.mem_cons_of_mem _ pO⟩ (k1 u4)
  ·rw [if_neg (show ¬ hdK (A.w (C.base c.r.at' + c.r.pos)) = 3 from d), if_neg (show ¬ hdK (A.w (C.base c.r.at' + c.r.pos)) = 2 from d2)] at hk
   exact hk 0 O τ (may0 (by omega)) same u1 (COb.bare (x1 := x1) (x6 := x6) u2 (.inl ⟨by show (3 : Int) ≤ 9; decide, by show (9 : Int) ≠ 5; decide⟩) ea es own pO) (k1 u3)
 by_cases c5 : c.r.pc = 5
 ·simp only [if_neg c0, if_neg c1, if_neg c2, if_neg c3, if_neg c4, if_pos c5] at hk
  have ea := an (by omega); have es := sn (by omega)
  have e7 := hX.a0 ea; have e8 := hX.s0 es; subst e7; subst e8
  have ha := hf.at' (by omega)
  obtain ⟨q, Q, rfl, q2, q3, q4⟩ := hX.m c5
  have hpo := hf.po (by omega) (by omega)
  have hbb := base_ge hC ha.1 (ha.2.2 (by omega)) (Int.le_refl 0)
  refine c_Co5 hN hC hA (c := c.r.px x1 (.pointer none) (.pointer none) (.pointer none)) (q := q) (Q := Q) (m := c.m) hp hd c5 hn hwA q2 q3 (hf.m c5) (hf.w (by omega) (by omega)) (hf.cl (by omega) (by omega)) (by show 0 ≤ c.r.pos ∧ c.r.pos ≤ 200000000; have := hC.T; have := hC.S; omega) hf.cmo fun O' τ v1 v2 u1 u2 u3 u4 => ?_
  have u3' : τ.get p = some ⟨((c.r.moved (c.m.step C who A).1 (c.m.step C who A).2.1.a.out).px x1 (.pointer (some ⟨q, 0, none⟩)) (.pointer none) (.pointer none)).l, true⟩ := by rw [← px_moved]; exact u3
  refine hk 0 (p :: O') τ (may0 (by omega)) (fun i hi => ?_) u1 ⟨⟨x1, _, _, _, u3', fun a b => ?_, fun _ => ⟨q, O', rfl, u2, v2, fun i hi => List.mem_cons_of_mem _ hi⟩, fun _ => rfl, fun a e => (by rw [show c.a = some a from e] at ea; cases ea), fun _ => rfl, fun a e => (by rw [show c.s = some a from e] at es; cases es)⟩, fun i hi => ?_, List.mem_cons_self ..⟩ (u4.mono fun i hi => ?_)
  ·rcases List.mem_cons.1 hi with rfl | hi
   ·exact .inl pO
   ·rcases v1 i hi with r | r
    ·exact .inl (q4 i r)
    ·exact .inr r
  ·exfalso
   have nx : ∀ (c : Cr) k u, 4 ≤ (c.next k u).pc := fun c k u => by show 4 ≤ (if u ≤ c.pos + roomOf k then (6 : Int) else 4); split <;> decide
   have : 4 ≤ (c.r.moved (c.m.step C who A).1 (c.m.step C who A).2.1.a.out).pc := by
    unfold Cr.moved
    split
    ·omega
    ·split
     ·exact nx _ _ _
     ·split
      ·exact nx _ _ _
      ·show (4 : Int) ≤ 9; decide
   have a' : (c.r.moved (c.m.step C who A).1 (c.m.step C who A).2.1.a.out).pc ≤ 2 := a
   omega
  ·rcases List.mem_cons.1 hi with rfl | hi
   ·exact hd
   ·exact u2.own i hi
  ·rcases List.mem_cons.1 hi with rfl | hi
   ·exact List.mem_append_left _ pO
   ·rcases List.mem_append.1 hi with r | r
    ·exact List.mem_append_left _ (q4 i r)
    ·exact List.mem_append_right _ r
 by_cases c6 : c.r.pc = 6
 ·simp only [if_neg c0, if_neg c1, if_neg c2, if_neg c3, if_neg c4, if_neg c5, if_pos c6] at hk
  have ea := an (by omega); have es := sn (by omega)
  have e7 := hX.a0 ea; have e8 := hX.s0 es; subst e7; subst e8
  refine c_Co6 hN hC hA (c := c.r.px x1 x6 (.pointer none) (.pointer none)) hp hd c6 hn fun τ u1 u2 u3 => ?_
  exact hk 0 O τ (may0 (by omega)) same u1 (COb.bare (x1 := x1) (x6 := x6) u2 (.inl ⟨by show (3 : Int) ≤ 7; decide, by show (7 : Int) ≠ 5; decide⟩) ea es own pO) (k1 u3)
 by_cases c7 : c.r.pc = 7
 ·simp only [if_neg c0, if_neg c1, if_neg c2, if_neg c3, if_neg c4, if_neg c5, if_neg c6, if_pos c7] at hk
  have ea := an (by omega); have es := sn (by omega)
  have e7 := hX.a0 ea; have e8 := hX.s0 es; subst e7; subst e8
  have ha := hf.at' (by omega)
  refine c_Co7 hN hC hA (c := c.r.px x1 x6 (.pointer none) (.pointer none)) hp hd c7 hn hnn (by show 0 ≤ c.r.at' ∧ c.r.at' < C.C; omega) fun τ u1 u2 u3 => ?_
  exact hk 0 O τ (may0 (by omega)) same u1 (COb.bare (x1 := x1) (x6 := x6) u2 (.inl ⟨by show (3 : Int) ≤ 8; decide, by show (8 : Int) ≠ 5; decide⟩) ea es own pO) (k1 u3)
 by_cases c8 : c.r.pc = 8
 ·simp only [if_neg c0, if_neg c1, if_neg c2, if_neg c3, if_neg c4, if_neg c5, if_neg c6, if_neg c7, if_pos c8] at hk
  have ea := an (by omega); have es := sn (by omega)
  have e7 := hX.a0 ea; have e8 := hX.s0 es; subst e7; subst e8
  have ha := hf.at' (by omega)
  refine c_Co8 hN hC hA (c := c.r.px x1 x6 (.pointer none) (.pointer none)) hp hd c8 hn (by show 0 ≤ c.r.at' ∧ c.r.at' < C.C; omega) (hf.w (by omega) (by omega)) hf.cev fun τ u1 u2 u3 => ?_
  exact hk 0 O τ (may0 (by omega)) same u1 (COb.bare (x1 := x1) (x6 := x6) u2 (.inl ⟨by show (3 : Int) ≤ 10; decide, by show (10 : Int) ≠ 5; decide⟩) ea es own pO) (k1 u3)
 by_cases c9 : c.r.pc = 9
 ·simp only [if_neg c0, if_neg c1, if_neg c2, if_neg c3, if_neg c4, if_neg c5, if_neg c6, if_neg c7, if_neg c8, if_pos c9] at hk
  have ea := an (by omega); have es := sn (by omega)
  have e7 := hX.a0 ea; have e8 := hX.s0 es; subst e7; subst e8
  have ha := hf.at' (by omega)
  refine c_Co9 hN hC hA (c := c.r.px x1 x6 (.pointer none) (.pointer none)) hp hd c9 hn (by show 0 ≤ c.r.at' ∧ c.r.at' < C.C; omega) (hf.w (by omega) (by omega)) hf.clf fun τ u1 u2 u3 => ?_
  exact hk 0 O τ (may0 (by omega)) same u1 (COb.bare (x1 := x1) (x6 := x6) u2 (.inl ⟨by show (3 : Int) ≤ 10; decide, by show (10 : Int) ≠ 5; decide⟩) ea es own pO) (k1 u3)
 by_cases c10 : c.r.pc = 10
 ·simp only [if_neg c0, if_neg c1, if_neg c2, if_neg c3, if_neg c4, if_neg c5, if_neg c6, if_neg c7, if_neg c8, if_neg c9, if_pos c10] at hk
  have es := sn (by omega)
  have e8 := hX.s0 es; subst e8
  cases ea : c.a with
  | none =>
   have e7 := hX.a0 ea; subst e7
   rw [ea] at hk
   simp only [Option.getD_none] at hk
   refine c_Co10n hN hC hA (c := c.r.px x1 x6 (.pointer none) (.pointer none)) hp hd c10 hn fun d q τ hq qp qN u1 u2 u3 u4 => ?_
   rw [if_neg (by rw [d]; decide)] at hk
   exact hk 0 (q :: O) τ (may0 (by omega)) (cons hq) u1 ⟨⟨x1, x6, .pointer (some ⟨q, 0, none⟩), _, u2, fun a b => absurd (show c.r.pc ≤ 2 from a) (by omega), fun e => absurd (show c.r.pc = 5 from e) (by omega), (fun e => by cases e), fun a e => by cases e; exact ⟨q, rfl, List.mem_cons_self .., qp, u3⟩, fun _ => rfl, fun a e => (by rw [show c.s = some a from e] at es; cases es)⟩, ownc qN, List.mem_cons_of_mem _ pO⟩ (k1 u4)
  | some a =>
   obtain ⟨q, rfl, qO, qp, gq⟩ := hX.a1 a ea
   rw [ea] at hk
   simp only [Option.getD_some] at hk
   refine c_Co10a hN hC hA (c := c.r.px x1 x6 (.pointer none) (.pointer none)) (q := q) (a := a) hp hd c10 hn gq (own q qO) qp (hf.a a ea).2 (fun d τ u1 u2 u3 u4 => ?_) (fun d τ u1 u2 u3 => ?_)
   ·rw [if_neg (by rw [d]; decide)] at hk
    exact hk 0 O τ (may0 (by omega)) same u1 ⟨⟨x1, x6, .pointer (some ⟨q, 0, none⟩), _, u2, fun a b => absurd (show c.r.pc ≤ 2 from a) (by omega), fun e => absurd (show c.r.pc = 5 from e) (by omega), (fun e => by cases e), fun a e => by cases e; exact ⟨q, rfl, qO, qp, u3⟩, fun _ => rfl, fun a e => (by rw [show c.s = some a from e] at es; cases es)⟩, own, pO⟩ (k2 qO u4)
   ·rw [if_pos d] at hk
    exact hk 0 O τ (may0 (by omega)) same u1 (COb.bare (x1 := x1) (x6 := x6) u2 (.inl ⟨by show (3 : Int) ≤ 11; decide, by show (11 : Int) ≠ 5; decide⟩) rfl es own pO) (k2 qO u3)
 have c11 : c.r.pc = 11 := by omega
 simp only [if_neg c0, if_neg c1, if_neg c2, if_neg c3, if_neg c4, if_neg c5, if_neg c6, if_neg c7, if_neg c8, if_neg c9, if_neg c10] at hk
 have ea := an (by omega)
 have e7 := hX.a0 ea; subst e7
 have ha := hf.at' (by omega)
 have ha' : 0 ≤ c.r.at' ∧ c.r.at' < C.C := by omega
 have stp : ∀ f, (3 ≤ (c.r.settled C f).pc ∧ (c.r.settled C f).pc ≠ 5) ∨ (c.r.settled C f).pc = 0 ∧ (c.r.settled C f).at' = 0 := fun f => by
  unfold Cr.settled; dsimp only; split
  ·exact .inr ⟨rfl, rfl⟩
  ·exact .inl ⟨by show 3 ≤ c.r.pc; omega, by show c.r.pc ≠ 5; omega⟩
 cases es : c.s with
 | none =>
  have e8 := hX.s0 es; subst e8
  rw [es] at hk
  simp only [Option.getD_none] at hk
  refine c_Co11n hN hC hA (c := c.r.px x1 x6 (.pointer none) (.pointer none)) hp hd c11 hn hnn hwA ha' ⟨hf.cnt.1, hf.cnt.2, hf.cnt.3⟩ (fun d q τ hq qp qN u1 u2 u3 u4 => ?_) (fun d τ u1 u2 u3 => ?_)
  ·have d' : ((Stl.new c.r.at').step C who A).1 = false := d
   rw [if_neg (by rw [d']; decide)] at hk
   exact hk 0 (q :: O) τ (may0 (by omega)) (cons hq) u1 ⟨⟨x1, x6, _, .pointer (some ⟨q, 0, none⟩), u2, fun a b => absurd (show c.r.pc ≤ 2 from a) (by omega), fun e => absurd (show c.r.pc = 5 from e) (by omega), fun _ => rfl, fun a e => (by rw [show c.a = some a from e] at ea; cases ea), (fun e => by cases e), fun a e => by cases e; exact ⟨q, rfl, List.mem_cons_self .., qp, u3⟩⟩, ownc qN, List.mem_cons_of_mem _ pO⟩ (k1 u4)
  ·have d' : ((Stl.new c.r.at').step C who A).1 = true := d
   simp only [if_pos d'] at hk
   rw [px_settled] at u2
   exact hk 0 O τ (may0 (by omega)) same u1 (COb.bare (x1 := x1) (x6 := x6) u2 (stp _) ea rfl own pO) (k1 u3)
 | some a =>
  obtain ⟨q, rfl, qO, qp, gq⟩ := hX.s1 a es
  rw [es] at hk
  simp only [Option.getD_some] at hk
  refine c_Co11a hN hC hA (c := c.r.px x1 x6 (.pointer none) (.pointer none)) (q := q) (a := a) hp hd c11 hn hnn hwA gq (own q qO) qp (hf.s a es).2 ha' ⟨hf.cnt.1, hf.cnt.2, hf.cnt.3⟩ (fun d τ u1 u2 u3 u4 => ?_) (fun d τ u1 u2 u3 => ?_)
  ·rw [if_neg (by rw [d]; decide)] at hk
   exact hk 0 O τ (may0 (by omega)) same u1 ⟨⟨x1, x6, _, .pointer (some ⟨q, 0, none⟩), u2, fun a b => absurd (show c.r.pc ≤ 2 from a) (by omega), fun e => absurd (show c.r.pc = 5 from e) (by omega), fun _ => rfl, fun a e => (by rw [show c.a = some a from e] at ea; cases ea), (fun e => by cases e), fun a e => by cases e; exact ⟨q, rfl, qO, qp, u3⟩⟩, own, pO⟩ (k2 qO u4)
  ·rw [if_pos d] at hk
   rw [px_settled] at u2
   exact hk 0 O τ (may0 (by omega)) same u1 (COb.bare (x1 := x1) (x6 := x6) u2 (stp _) ea rfl own pO) (k2 qO u3)
end Go.Fl
namespace Go.Fl
open Go
set_option linter.unusedVariables false
set_option linter.unusedSimpArgs false
variable {N : Nm} {A B : Ar} {σ : Mem} {K : Value → Mem → Prop} {C : Cf} {who : Int}
def cnt (f : Int → Bool) : Nat → Nat
 | 0 => 0
 | n + 1 => cnt f n + (if f n = true then 1 else 0)
theorem cnt_congr {f g : Int → Bool} : ∀ {n : Nat}, (∀ j : Int, 0 ≤ j → j < n → f j = g j) → cnt f n = cnt g n
 | 0, _ => rfl
 | n + 1, h => by unfold cnt; rw [cnt_congr (n := n) fun j j0 j1 => h j j0 (by omega), h n (by omega) (by omega)]
theorem cnt_le {f : Int → Bool} : ∀ {n : Nat}, cnt f n ≤ n
 | 0 => Nat.le_refl 0
 | n + 1 => by unfold cnt; have := cnt_le (f := f) (n := n); split <;> omega
theorem cnt_off {f g : Int → Bool} {i : Int} (hf : f i = true) (hg : g i = false) : ∀ {n : Nat}, 0 ≤ i → i < n → (∀ j : Int, 0 ≤ j → j < n → j ≠ i → f j = g j) → cnt f n = cnt g n + 1
 | 0, h0, h1, _ => by omega
 | n + 1, h0, h1, h => by
  unfold cnt
  by_cases e : i = n
  ·subst e
   rw [cnt_congr (g := g) fun j j0 j1 => h j j0 (by omega) (by omega), hf, hg]; simp
  ·rw [cnt_off hf hg (n := n) h0 (by omega) fun j j0 j1 hj => h j j0 (by omega) hj, h n (by omega) (by omega) (fun q => e q.symm)]; omega
theorem cnt_zero {f : Int → Bool} : ∀ {n : Nat}, cnt f n = 0 → ∀ j : Int, 0 ≤ j → j < n → f j = false
 | 0, _, j, j0, j1 => by omega
 | n + 1, h, j, j0, j1 => by
  unfold cnt at h
  by_cases e : j = n
  ·subst e
   cases q : f n with
   | false => rfl
   | true => rw [q] at h; simp at h
  ·exact cnt_zero (n := n) (by omega) j j0 (by omega)
theorem cnt_none {f : Int → Bool} {n : Nat} (h : ∀ j : Int, 0 ≤ j → j < n → f j = false) : cnt f n = 0 := by
 rw [cnt_congr (g := fun _ => false) h]
 have : ∀ n, cnt (fun _ => false) n = 0 := fun n => by
  induction n with
  | zero => rfl
  | succ n ih => unfold cnt; rw [ih]; rfl
 exact this n
theorem cnt_pos {f : Int → Bool} {n : Nat} {j : Int} (j0 : 0 ≤ j) (j1 : j < n) (h : f j = true) : 0 < cnt f n := by
 rcases Nat.eq_zero_or_pos (cnt f n) with q | q
 ·have := cnt_zero q j j0 j1; rw [h] at this; cases this
 ·exact q
theorem c_many (hN : N.ok) (hC : C.ok) (hA : isA N A σ) (hn : C.len ≤ A.n) (hw : ∀ i, 0 ≤ A.w i ∧ A.w i < 18446744073709551616) {st : Int} (hk : K (.int .i64 (cnt (fun j => decide (chS (A.w (C.chunk j)) = st)) C.C.toNat)) σ) : s_bl [N.env C who, .int .i64 st] K σ := by
 have hT := hC.T; have hS := hC.S; have hC3 := hC.C; have hl := len_bd hC
 have hch : C.chunk C.C = 6 + C.T + 2 * C.S + 3 * C.C := rfl
 have f0 : ∀ (x y z w : Value) (K : Value → Prop), xF (fFldV 0 1 false) [.agg #[x, y, z, w]] K = K x := fun _ _ _ _ K => nr rfl
 simp only [s_bl, w_bl, ruS, ruL, ruE, Nat.reduceAdd, reduceIte, Int.reduceLT, Int.reduceLE, Int.reduceEq, Int.reduceNeg, Int.reduceAdd, Int.reduceSub, Nat.reduceLeDiff, Nat.reduceLT]
 refine xLoop_i (fun i => [.int .i64 st, .int .i64 (cnt (fun j => decide (chS (A.w (C.chunk j)) = st)) i.toNat), .int .i64 i]) [N.el C who] C.C (fun i τ => (0 ≤ i ∧ i ≤ C.C) ∧ τ = σ) ?_ ⟨⟨Int.le_refl 0, by omega⟩, rfl⟩
 rintro i τ ⟨⟨i0, i1⟩, rfl⟩ R hR
 simp only [w_law14_many_l4, w_law14_many_l4b, ruS, ruL, ruE, Nat.reduceAdd, reduceIte, Int.reduceLT, Int.reduceLE, Int.reduceEq, Int.reduceNeg, Int.reduceAdd, Int.reduceSub, Nat.reduceLeDiff, Nat.reduceLT]
 by_cases c : i < C.C
 ·have cb : 0 ≤ C.chunk i ∧ C.chunk i < A.n := by unfold Cf.chunk at *; omega
  have hcl := cnt_le (f := fun j => decide (chS (A.w (C.chunk j)) = st)) (n := i.toNat)
  have hs : cnt (fun j => decide (chS (A.w (C.chunk j)) = st)) (i + 1).toNat = cnt (fun j => decide (chS (A.w (C.chunk j)) = st)) i.toNat + (if chS (A.w (C.chunk i)) = st then 1 else 0) := by
   rw [show (i + 1).toNat = i.toNat + 1 by omega]
   show cnt _ i.toNat + (if decide (chS (A.w (C.chunk (i.toNat : Int))) = st) = true then 1 else 0) = _
   rw [show ((i.toNat : Nat) : Int) = i by omega]
   simp
  have nx := hR τ c ⟨⟨by omega, by omega⟩, rfl⟩
  rw [hs] at nx
  have hP : N.el C who = [.int .i64 C.T, .int .i64 C.S, .int .i64 C.C, .int .i64 C.W, .int .i64 C.G, .int .i64 C.P, .int .i64 C.R, N.p, .int .i64 who] := rfl
  have p7 : sub (N.el C who) 7 1 false = some N.p := rfl
  simp only [c, p7, c_Chunk hC i0 (show i ≤ 65536 by omega), c_PeekA hN hA cb.1 cb.2, c_wChunk (hw (C.chunk i)).1 (hw (C.chunk i)).2, f0, ruS, ruL, ruE, Nat.reduceAdd, reduceIte, Int.reduceLT, Int.reduceLE, Int.reduceEq, Int.reduceNeg, Int.reduceAdd, Int.reduceSub, Nat.reduceLeDiff, Nat.reduceLT]
  by_cases e : chS (A.w (C.chunk i)) = st
  ·rw [if_pos e] at nx
   simp only [e, w_bl_j2, w_bl_j2b, ruS, ruL, ruE, Nat.reduceAdd, reduceIte, Int.reduceLT, Int.reduceLE, Int.reduceEq, Int.reduceNeg, Int.reduceAdd, Int.reduceSub, Nat.reduceLeDiff, Nat.reduceLT]
   rw [IntWalk.i64_in ((cnt (fun j => decide (chS (A.w (C.chunk j)) = st)) i.toNat : Int) + 1) (by omega), IntWalk.i64_in (i + 1) (by omega)]
   exact nx
  ·rw [if_neg e] at nx
   simp only [e, w_bl_j2, w_bl_j2b, ruS, ruL, ruE, Nat.reduceAdd, reduceIte, Int.reduceLT, Int.reduceLE, Int.reduceEq, Int.reduceNeg, Int.reduceAdd, Int.reduceSub, Nat.reduceLeDiff, Nat.reduceLT]
   rw [IntWalk.i64_in (i + 1) (by omega)]
   exact nx
 ·have : i = C.C := by omega
  subst this
  simp only [c, w_bl_j1, w_bl_j1b, ruS, ruL, ruE, Nat.reduceAdd, reduceIte, Int.reduceLT, Int.reduceLE, Int.reduceEq, Int.reduceNeg, Int.reduceAdd, Int.reduceSub, Nat.reduceLeDiff, Nat.reduceLT]
  exact hk
theorem c_CoNew (hA : isA N A σ) (hk : ∀ p τ, σ.get p = none → COb N p [p] Co.new τ → Ext σ τ → K (.pointer (some ⟨p, 0, none⟩)) τ) : s_aw [] K σ := by
 have b : ∀ K : Value → Prop, xF (fBuild [(0, 1), (1, 1), (2, 1), (3, 1), (4, 1), (5, 1), (6, 1), (7, 1), (8, 1), (9, 5), (14, 5), (19, 1)] [.int .i64 0, .slice none 0 0, .int .i64 0, .int .i64 0, .int .u64 0, .int .u64 0, .pointer none, .pointer none, .pointer none, .int .i64 0, .int .i64 0, .int .i64 0, .int .i64 0, .int .i64 0, .int .i64 0, .int .i64 0, .int .i64 0, .int .i64 0, .int .i64 0, .int .i64 0] []) [] K =
  K (.agg (Cr.new.px (.slice none 0 0) (.pointer none) (.pointer none) (.pointer none)).l.toArray) := fun K => nr rfl
 simp only [s_aw, w_aw, b, ruS, ruL, ruE, Nat.reduceAdd, reduceIte, Int.reduceLT, Int.reduceLE, Int.reduceEq, Int.reduceNeg, Int.reduceAdd, Int.reduceSub, Nat.reduceLeDiff, Nat.reduceLT]
 refine hBox_i (cs := (Cr.new.px (.slice none 0 0) (.pointer none) (.pointer none) (.pointer none)).l) rfl fun p τ hp gp x => ?_
 refine hk p τ hp (COb.bare (x1 := .slice none 0 0) (x6 := .pointer none) gp (.inr ⟨rfl, rfl⟩) rfl rfl (fun i hi => ?_) (List.mem_singleton.2 rfl)) x
 rw [List.mem_singleton] at hi; subst hi; exact hA.new hp
theorem COb.get {p : Nat} {O : List Nat} {c : Co} (h : COb N p O c σ) : ∃ x1 x6 x7 x8, σ.get p = some ⟨(c.r.px x1 x6 x7 x8).l, true⟩ := by obtain ⟨⟨x1, x6, x7, x8, h, _⟩, _⟩ := h; exact ⟨x1, x6, x7, x8, h⟩
theorem c_CoWork {p : Nat} {O : List Nat} {c : Co} (h : COb N p O c σ) : s_ap [.pointer (some ⟨p, 0, none⟩)] K σ = K (.agg #[.int .i64 c.r.ev, .int .i64 c.r.lf, .int .i64 c.r.fd, .int .i64 c.r.mo, .int .i64 c.r.rd]) σ := by
 obtain ⟨x1, x6, x7, x8, g⟩ := h.get
 have g5 : ∀ x y z u w : Int, gStore 5 [.pointer (some ⟨2, 0, some 0⟩), .agg #[.int .i64 x, .int .i64 y, .int .i64 z, .int .i64 u, .int .i64 w]] [.int .i64 0, .int .i64 0, .int .i64 0, .int .i64 0, .int .i64 0] = some [.int .i64 x, .int .i64 y, .int .i64 z, .int .i64 u, .int .i64 w] := fun _ _ _ _ _ => rfl
 have s5 : ∀ {x y z u w : Value}, sub [x, y, z, u, w] 0 5 true = some (.agg #[x, y, z, u, w]) := fun {_ _ _ _ _} => rfl
 simp only [s_ap, w_ap, ruS, ruL, ruE, Nat.reduceAdd, reduceIte, Int.reduceLT, Int.reduceLE, Int.reduceEq, Int.reduceNeg, Int.reduceAdd, Int.reduceSub, Nat.reduceLeDiff, Nat.reduceLT]
 rw [ldG g (show sub (c.r.px x1 x6 x7 x8).l 9 5 true = some (.agg #[.int .i64 c.r.ev, .int .i64 c.r.lf, .int .i64 c.r.fd, .int .i64 c.r.mo, .int .i64 c.r.rd]) from rfl)]
 simp only [g5, s5, ruS, ruL, ruE, Nat.reduceAdd, reduceIte, Int.reduceLT, Int.reduceLE, Int.reduceEq, Int.reduceNeg, Int.reduceAdd, Int.reduceSub, Nat.reduceLeDiff, Nat.reduceLT]
theorem c_CoIdle {p : Nat} {O : List Nat} {c : Co} (h : COb N p O c σ) : s_an [.pointer (some ⟨p, 0, none⟩)] K σ = K (.int .i64 c.r.idle) σ := by
 obtain ⟨x1, x6, x7, x8, g⟩ := h.get
 simp only [s_an, w_an, ruS, ruL, ruE, Nat.reduceAdd, reduceIte, Int.reduceLT, Int.reduceLE, Int.reduceEq, Int.reduceNeg, Int.reduceAdd, Int.reduceSub, Nat.reduceLeDiff, Nat.reduceLT]
 rw [ldG g (show sub (c.r.px x1 x6 x7 x8).l 19 1 false = some (.int .i64 c.r.idle) from rfl)]
theorem keep_on {O O' : List Nat} {τ υ : Mem} {A' : Ar} (hA : isA N A' τ) (h1 : Keep (O ++ N.l) σ τ) (h2 : ∀ i ∈ O', i ∈ O ∨ σ.get i = none) (h3 : Keep (O' ++ N.l) τ υ) : Keep (O ++ N.l) σ υ := fun i b hi hn => by
 refine h3 i b (h1 i b hi hn) fun hm => ?_
 rcases List.mem_append.1 hm with r | r
 ·rcases h2 i r with q | q
  ·exact hn (List.mem_append_left _ q)
  ·rw [q] at hi; cases hi
 ·exact hn (List.mem_append_right _ r)
theorem c_rounds (hN : N.ok) (hC : C.ok) (hA : isA N A σ) {p : Nat} {O : List Nat} {c : Co} {n : Int} (hn : 0 ≤ n ∧ n ≤ 1000) (hO : COb N p O c σ) (I : Co → Ar → Prop) (left : Co → Ar → Int) (h0 : I c A) (hrd : 0 ≤ c.r.rd ∧ c.r.rd ≤ 1000000)
  (hF : ∀ c1 A, I c1 A → c.r.rd ≤ c1.r.rd → c1.r.rd ≤ c.r.rd + n → c1.fit C A ∧ C.len ≤ A.n ∧ (A.n : Int) ≤ 200000000 ∧ (∀ i, 0 ≤ A.w i ∧ A.w i < 18446744073709551616) ∧ 1 ≤ left c1 A ∧ left c1 A ≤ 3000)
  (hS : ∀ c1 A r, I c1 A → c.r.rd ≤ c1.r.rd → c1.r.rd < c.r.rd + n → c1.may C A r → I (c1.step C (-1) A r).1 (c1.step C (-1) A r).2 ∧ ((c1.step C (-1) A r).1.r.rd = c1.r.rd ∧ left (c1.step C (-1) A r).1 (c1.step C (-1) A r).2 < left c1 A ∨ (c1.step C (-1) A r).1.r.rd = c1.r.rd + 1 ∧ (c1.step C (-1) A r).1.r.pc = 0 ∧ (c1.step C (-1) A r).1.r.at' = 0))
  (hk : ∀ c' A' O' τ, I c' A' → c'.r.rd = c.r.rd + n → (n = 0 ∨ c'.r.pc = 0 ∧ c'.r.at' = 0) → isA N A' τ → COb N p O' c' τ → (∀ i ∈ O', i ∈ O ∨ σ.get i = none) → Keep (O ++ N.l) σ τ → K (.bool true) τ) :
  s_bn [N.env C who, .pointer (some ⟨p, 0, none⟩), .int .i64 n] K σ := by
 have f4 : ∀ (x y z u w : Value) (K : Value → Prop), xF (fFldV 4 1 false) [.agg #[x, y, z, u, w]] K = K w := fun _ _ _ _ _ K => nr rfl
 have g9 : gStore 1 [.pointer (some ⟨3, 8, some 0⟩), .int .i64 (-1)] (N.el C who) = some (N.el C (-1)) := rfl
 simp only [s_bn, w_bn, g9, c_CoWork hO, f4, ruS, ruL, ruE, Nat.reduceAdd, reduceIte, Int.reduceLT, Int.reduceLE, Int.reduceEq, Int.reduceNeg, Int.reduceAdd, Int.reduceSub, Nat.reduceLeDiff, Nat.reduceLT]
 rw [IntWalk.i64_in (c.r.rd + n) (by omega)]
 refine xLoop_r (fun x ts ls τ => ∃ (i : Int) (c' : Co) (A' : Ar) (O' : List Nat), x = (3000 * n + 1 - i).toNat ∧ ts = [.pointer (some ⟨p, 0, none⟩), .int .i64 n, .int .i64 (c.r.rd + n), .int .i64 i] ∧ ls = [N.el C (-1)] ∧ (0 ≤ i ∧ i ≤ 3000 * n) ∧ I c' A' ∧ (c.r.rd ≤ c'.r.rd ∧ c'.r.rd ≤ c.r.rd + n) ∧
   i + left c' A' ≤ 3000 * (c'.r.rd - c.r.rd + 1) ∧ (c'.r.rd = c.r.rd + n → n = 0 ∨ c'.r.pc = 0 ∧ c'.r.at' = 0) ∧ isA N A' τ ∧ COb N p O' c' τ ∧ (∀ i ∈ O', i ∈ O ∨ σ.get i = none) ∧ Keep (O ++ N.l) σ τ) ?_ (n := (3000 * n + 1).toNat)
  ⟨0, c, A, O, by simp, rfl, rfl, ⟨Int.le_refl 0, by omega⟩, h0, ⟨Int.le_refl _, by omega⟩, by have := (hF c A h0 (Int.le_refl _) (by omega)).2.2.2.2.2; omega, fun e => .inl (by omega), hA, hO, fun i hi => .inl hi, Keep.refl⟩
 rintro x ts ls τ ⟨i, c', A', O', rfl, rfl, rfl, ⟨i0, i1⟩, hI, ⟨r0, r1⟩, hb, hz, hA', hO', hown, hK⟩ R hR
 obtain ⟨hfit, hlen, hnn, hw, l1, l2⟩ := hF c' A' hI r0 r1
 have fin : c'.r.rd = c.r.rd + n → w_bn_j1 K [.pointer (some ⟨p, 0, none⟩), .int .i64 (c.r.rd + n)] [] τ := fun e => by
  simp only [w_bn_j1, w_bn_j1b, c_CoWork hO', f4, ruS, ruL, ruE, Nat.reduceAdd, reduceIte, Int.reduceLT, Int.reduceLE, Int.reduceEq, Int.reduceNeg, Int.reduceAdd, Int.reduceSub, Nat.reduceLeDiff, Nat.reduceLT]
  have : c.r.rd + n ≤ c'.r.rd := by omega
  simp only [this, decide_true]
  exact hk c' A' O' τ hI e (hz e) hA' hO' hown hK
 simp only [w_law14_rounds_l5, w_law14_rounds_l5b, ruS, ruL, ruE, Nat.reduceAdd, reduceIte, Int.reduceLT, Int.reduceLE, Int.reduceEq, Int.reduceNeg, Int.reduceAdd, Int.reduceSub, Nat.reduceLeDiff, Nat.reduceLT]
 rw [IntWalk.i64_in (3000 * n) (by omega)]
 by_cases c1 : i < 3000 * n
 ·simp only [c1, c_CoWork hO', f4, ruS, ruL, ruE, Nat.reduceAdd, reduceIte, Int.reduceLT, Int.reduceLE, Int.reduceEq, Int.reduceNeg, Int.reduceAdd, Int.reduceSub, Nat.reduceLeDiff, Nat.reduceLT]
  by_cases c2 : c'.r.rd < c.r.rd + n
  ·simp only [c2, w_bn_j2, w_bn_j2b, ruS, ruL, ruE, Nat.reduceAdd, reduceIte, Int.reduceLT, Int.reduceLE, Int.reduceEq, Int.reduceNeg, Int.reduceAdd, Int.reduceSub, Nat.reduceLeDiff, Nat.reduceLT]
   refine c_Co_Step hN hC hA' hO' hlen hnn hw hfit fun r O2 τ2 hm ho2 hA2 hO2 hK2 => ?_
   rw [IntWalk.i64_in (i + 1) (by omega)]
   obtain ⟨hI2, hd⟩ := hS c' A' r hI r0 c2 hm
   obtain ⟨_, _, _, _, m1, m2⟩ := hF _ _ hI2 (by rcases hd with ⟨e, _⟩ | ⟨e, _⟩ <;> omega) (by rcases hd with ⟨e, _⟩ | ⟨e, _⟩ <;> omega)
   refine hR (3000 * n + 1 - (i + 1)).toNat _ _ _ (by omega) ⟨i + 1, _, _, O2, rfl, rfl, rfl, ⟨by omega, by omega⟩, hI2, by rcases hd with ⟨e, _⟩ | ⟨e, _⟩ <;> omega, by rcases hd with ⟨e, _⟩ | ⟨e, _⟩ <;> (rw [e]; omega), fun e => ?_, hA2, hO2, ?_, keep_on hA' hK hown hK2⟩
   ·rcases hd with ⟨e', _⟩ | ⟨_, e', e''⟩
    ·omega
    ·exact .inr ⟨e', e''⟩
   ·intro j hj
    rcases ho2 j hj with q | q
    ·exact hown j q
    ·cases e : σ.get j with
     | none => exact .inr rfl
     | some b =>
      by_cases r : j ∈ O
      ·exact .inl r
      ·rw [hK j b e (fun hm => by rcases List.mem_append.1 hm with u | u; exact r u; exact hO2.own j hj u)] at q; cases q
  ·simp only [c2, ruS, ruL, ruE, Nat.reduceAdd, reduceIte, Int.reduceLT, Int.reduceLE, Int.reduceEq, Int.reduceNeg, Int.reduceAdd, Int.reduceSub, Nat.reduceLeDiff, Nat.reduceLT]
   exact fin (by omega)
 ·simp only [c1, ruS, ruL, ruE, Nat.reduceAdd, reduceIte, Int.reduceLT, Int.reduceLE, Int.reduceEq, Int.reduceNeg, Int.reduceAdd, Int.reduceSub, Nat.reduceLeDiff, Nat.reduceLT]
  exact fin (by omega)
end Go.Fl
namespace Go.Fl
open Go
set_option linter.unusedVariables false
set_option linter.unusedSimpArgs false
variable {N : Nm} {A B : Ar} {σ : Mem} {K : Value → Mem → Prop} {C : Cf} {who : Int}
theorem putChunk_self {w : Int} (h0 : 0 ≤ w) (h1 : w < 18446744073709551616) : putChunk (chS w) (chC w) (chU w) (chN w) = w := by
 unfold putChunk chS chC chU chN
 rw [cl_in (by omega) (by omega), cl_in (by omega) (by omega), cl_in (by omega) (by omega), cl_in (by omega) (by omega)]
 omega
theorem chw_put {w st : Int} (h1 : 0 ≤ st ∧ st ≤ 3) : chS (chw w st) = st ∧ chC (chw w st) = chC w ∧ chU (chw w st) = chU w ∧ (0 ≤ chw w st ∧ chw w st < 18446744073709551616) := by
 refine ⟨?_, ?_, ?_, putChunk_in _ _ _ _⟩ <;> (unfold chw putChunk; (try unfold chS); unfold chC chU chN cl; omega)
def opB (w : Int → Int) (k j : Int) : Bool := decide ((0 < k ∧ w 2 = j + 1) ∨ (1 < k ∧ w 3 = j + 1) ∨ (2 < k ∧ w 4 = j + 1) ∨ (3 < k ∧ w 5 = j + 1))
theorem opB_0 {w : Int → Int} {j : Int} : opB w 0 j = false := by unfold opB; exact decide_eq_false (by omega)
theorem opB_next {w : Int → Int} {k j : Int} (h0 : 0 ≤ k) (h1 : k < 4) : opB w (k + 1) j = (opB w k j || decide (w (2 + k) = j + 1)) := by
 have : opB w (k + 1) j = true ↔ (opB w k j || decide (w (2 + k) = j + 1)) = true := by
  unfold opB
  simp only [Bool.or_eq_true, decide_eq_true_eq]
  rcases (show k = 0 ∨ k = 1 ∨ k = 2 ∨ k = 3 by omega) with rfl | rfl | rfl | rfl
  ·rw [show (2 : Int) + 0 = 2 by decide]; omega
  ·rw [show (2 : Int) + 1 = 3 by decide]; omega
  ·rw [show (2 : Int) + 2 = 4 by decide]; omega
  ·rw [show (2 : Int) + 3 = 5 by decide]; omega
 cases e1 : opB w (k + 1) j <;> cases e2 : (opB w k j || decide (w (2 + k) = j + 1)) <;> simp_all
def see (C : Cf) (w : Int → Int) (k j : Int) : Sn := ⟨chS (w (C.chunk j)), chC (w (C.chunk j)), chU (w (C.chunk j)), chN (w (C.chunk j)), IntKind.i64.wrap (w (C.chunk j + 1)), opB w k j⟩
theorem opS_get {L : List Sn} {n : Int} {i : Nat} {x : Sn} (h : L[i]? = some x) : (opS L n)[i]? = some { x with op := x.op || decide (n = (i : Int) + 1) } := by
 unfold opS
 by_cases c : 0 < n
 ·rw [if_pos c]
  by_cases e : n = (i : Int) + 1
  ·have ei : (n - 1).toNat = i := by omega
   rw [ei, h]
   show (L.set i _)[i]? = _
   have hi := (List.getElem?_eq_some_iff.1 h).1
   rw [List.getElem?_set]; simp [hi, e]
  ·have ei : ¬ (n - 1).toNat = i := by omega
   have e2 : { x with op := x.op || decide (n = (i : Int) + 1) } = x := by simp [e]
   rw [e2]
   split
   ·exact h
   ·rw [List.getElem?_set, if_neg ei]; exact h
 ·rw [if_neg c]
  have e2 : { x with op := x.op || decide (n = (i : Int) + 1) } = x := by
   have : ¬ n = (i : Int) + 1 := by omega
   simp [this]
  rw [e2]; exact h
theorem see_next {C : Cf} {w : Int → Int} {k : Int} {L : List Sn} {i : Nat} (h0 : 0 ≤ k) (h1 : k < 4) (h : L[i]? = some (see C w k i)) : (opS L (w (2 + k)))[i]? = some (see C w (k + 1) i) := by
 rw [opS_get h]
 unfold see
 rw [opB_next h0 h1]
theorem liveS_get {L : List Sn} {i j : Nat} {v : Int} {x : Sn} (h : L[i]? = some x) : (liveS L j v)[i]? = some (if i = j then { x with live := v } else x) := by
 unfold liveS
 by_cases e : i = j
 ·subst e
  rw [h, if_pos rfl]
  show (L.set i _)[i]? = _
  have hi := (List.getElem?_eq_some_iff.1 h).1
  rw [List.getElem?_set]; simp [hi]
 ·rw [if_neg e]
  split
  ·exact h
  ·rw [List.getElem?_set]; simp [Ne.symm e, h]
def goneH (C : Cf) (w : Int → Int) (a : Int) : Prop := hdK (w a) = 3 ∨ hdK (w a) = 2 ∧ (0 ≤ hdT (w a) ∧ hdT (w a) < C.S) ∧ 0 ≤ classOf (hdS (w a)) ∧ (slG (w (C.slot (hdT (w a)))) ≠ hdG (w a) ∨ slA (w (C.slot (hdT (w a)))) ≠ a ∨ slS (w (C.slot (hdT (w a)))) ≠ 1 ∧ slS (w (C.slot (hdT (w a)))) ≠ 4)
structure TP where
 K0 : Int
 Ks : Int
 r0 : Int
 e0 : Int
 pn : Bool
 w0 : Int → Int
 D : Int → Bool
structure TS (C : Cf) (P : TP) : Prop where
 cc : C.C ≤ 8 ∧ C.W ≤ 40
 op : ∀ k, 0 ≤ k → k ≤ 3 → 0 ≤ P.w0 (2 + k) ∧ P.w0 (2 + k) ≤ C.C
 dd : ∀ j, 0 ≤ j → j < C.C → P.D j = true → chC (P.w0 (C.chunk j)) ≤ 3 ∧ (0 < chU (P.w0 (C.chunk j)) ∧ chU (P.w0 (C.chunk j)) ≤ C.W) ∧ opB P.w0 4 j = false ∧ IntKind.i64.wrap (P.w0 (C.chunk j + 1)) ≤ 0 ∧ chS (P.w0 (C.chunk j)) = 1 ∧
  ∀ x, 0 ≤ x → x < chU (P.w0 (C.chunk j)) → x % roomOf (chC (P.w0 (C.chunk j))) = 0 → goneH C P.w0 (C.base j + x)
 nd : ∀ j, 0 ≤ j → j < C.C → P.D j = false → ¬ (see C P.w0 4 j).may C ∧ (chS (P.w0 (C.chunk j)) = 0 ∨ chS (P.w0 (C.chunk j)) = 1)
 ni : ∀ j x, 0 ≤ j → j < C.C → chU (P.w0 (C.chunk j)) ≤ x → x < C.W → P.w0 (C.base j + x) = 0
 pi : P.pn = false → ∀ i, 0 ≤ i → i < C.T → P.w0 (6 + i) = 0
 pj : P.pn = true → C.T = 2 ∧ P.w0 6 = 0 ∧ P.w0 7 = P.e0 + 1
 e0 : 0 ≤ P.e0 ∧ P.e0 ≤ 1000000
 k0 : P.K0 ≤ 64
structure TW (C : Cf) (P : TP) (w : Int → Int) : Prop where
 ot : ∀ i, 1 ≤ i → (∀ j, 0 ≤ j → j < C.C → P.D j = true → i ≠ C.chunk j ∧ i ≠ C.chunk j + 1 ∧ i ≠ C.chunk j + 2 ∧ ∀ x, 0 ≤ x → x < C.W → i ≠ C.base j + x) → w i = P.w0 i
 one : ∀ j, 0 ≤ j → j < C.C → P.D j = true → chS (w (C.chunk j)) = 1 → w (C.chunk j) = P.w0 (C.chunk j) ∧ w (C.chunk j + 1) = P.w0 (C.chunk j + 1)
 wd : ∀ j x, 0 ≤ j → j < C.C → P.D j = true → chS (w (C.chunk j)) = 1 ∨ chS (w (C.chunk j)) = 2 → 0 ≤ x → x < C.W → w (C.base j + x) = P.w0 (C.base j + x)
 qu : ∀ j, 0 ≤ j → j < C.C → P.D j = true → chS (w (C.chunk j)) = 2 ∨ chS (w (C.chunk j)) = 3 → chU (w (C.chunk j)) = chU (P.w0 (C.chunk j)) ∧ chC (w (C.chunk j)) = chC (P.w0 (C.chunk j))
 qn : ∀ j x, 0 ≤ j → j < C.C → P.D j = true → chS (w (C.chunk j)) = 3 → chU (P.w0 (C.chunk j)) ≤ x → x < C.W → w (C.base j + x) = 0
 fr : ∀ j x, 0 ≤ j → j < C.C → P.D j = true → chS (w (C.chunk j)) = 0 → 0 ≤ x → x < C.W → w (C.base j + x) = 0
section
variable {P : TP} {w : Int → Int}
theorem ck_lt (hC : C.ok) {j : Int} (j0 : 0 ≤ j) (j1 : j < C.C) : 8 ≤ C.chunk j ∧ C.chunk j + 2 < 6 + C.T + 2 * C.S + 3 * C.C := by have := hC.T; have := hC.S; unfold Cf.chunk; omega
theorem ck_ne {j k : Int} (h : j ≠ k) : C.chunk j ≠ C.chunk k ∧ C.chunk j ≠ C.chunk k + 1 ∧ C.chunk j ≠ C.chunk k + 2 ∧ C.chunk j + 1 ≠ C.chunk k ∧ C.chunk j + 1 ≠ C.chunk k + 1 ∧ C.chunk j + 1 ≠ C.chunk k + 2 ∧ C.chunk j + 2 ≠ C.chunk k ∧ C.chunk j + 2 ≠ C.chunk k + 1 ∧ C.chunk j + 2 ≠ C.chunk k + 2 := by unfold Cf.chunk; omega
theorem TW.low (h : TW C P w) (hC : C.ok) {i : Int} (h1 : 1 ≤ i) (h2 : i < C.chunk 0) : w i = P.w0 i := h.ot i h1 fun j j0 j1 _ => by
 have := base_ge hC j0 j1 (Int.le_refl 0)
 have hC3 := hC.C
 unfold Cf.chunk at *
 refine ⟨by omega, by omega, by omega, fun x x0 x1 => by omega⟩
theorem low_lt (hC : C.ok) : 9 ≤ C.chunk 0 ∧ C.chunk 0 = 6 + C.T + 2 * C.S := by have := hC.T; have := hC.S; unfold Cf.chunk; omega
theorem TW.un (h : TW C P w) (hC : C.ok) {j : Int} (j0 : 0 ≤ j) (j1 : j < C.C) (hD : P.D j = false) : w (C.chunk j) = P.w0 (C.chunk j) ∧ w (C.chunk j + 1) = P.w0 (C.chunk j + 1) ∧ ∀ x, 0 ≤ x → x < C.W → w (C.base j + x) = P.w0 (C.base j + x) := by
 have b := ck_lt hC j0 j1
 have ne : ∀ k, P.D k = true → j ≠ k := fun k q e => by rw [e, q] at hD; cases hD
 refine ⟨h.ot _ (by omega) fun k k0 k1 q => ?_, h.ot _ (by omega) fun k k0 k1 q => ?_, fun x x0 x1 => h.ot _ (by have := base_ge hC j0 j1 x0; have := hC.T; have := hC.S; omega) fun k k0 k1 q => ?_⟩
 ·have := ck_ne (C := C) (ne k q)
  exact ⟨this.1, this.2.1, this.2.2.1, fun x x0 _ => by have := base_ge hC k0 k1 x0; omega⟩
 ·have := ck_ne (C := C) (ne k q)
  exact ⟨this.2.2.2.1, this.2.2.2.2.1, this.2.2.2.2.2.1, fun x x0 _ => by have := base_ge hC k0 k1 x0; omega⟩
 ·have b1 := ck_lt hC k0 k1
  have b2 := base_ge hC j0 j1 x0
  exact ⟨by omega, by omega, by omega, fun y y0 y1 e => ne k q (base_inj hC j0 j1 x0 x1 k0 k1 y0 y1 e).1⟩
theorem TW.see (h : TW C P w) (hC : C.ok) {k j : Int} (j0 : 0 ≤ j) (j1 : j < C.C) (hs : P.D j = true → chS (w (C.chunk j)) = 1) : see C w k j = see C P.w0 k j := by
 have l := low_lt hC
 have e2 := h.low hC (i := 2) (by decide) (by omega)
 have e3 := h.low hC (i := 3) (by decide) (by omega)
 have e4 := h.low hC (i := 4) (by decide) (by omega)
 have e5 := h.low hC (i := 5) (by decide) (by omega)
 have : w (C.chunk j) = P.w0 (C.chunk j) ∧ w (C.chunk j + 1) = P.w0 (C.chunk j + 1) := by
  cases q : P.D j with
  | true => exact h.one j j0 j1 q (hs q)
  | false => have := h.un hC j0 j1 q; exact ⟨this.1, this.2.1⟩
 unfold Fl.see opB
 rw [this.1, this.2, e2, e3, e4, e5]
theorem TW.may (h : TW C P w) (hS : TS C P) (hC : C.ok) {j : Int} (j0 : 0 ≤ j) (j1 : j < C.C) : (Fl.see C w 4 j).may C ↔ P.D j = true ∧ chS (w (C.chunk j)) = 1 := by
 constructor
 ·intro hm
  have h1 : chS (w (C.chunk j)) = 1 := hm.1
  cases q : P.D j with
  | true => exact ⟨rfl, h1⟩
  | false =>
   rw [h.see hC j0 j1 (fun e => by rw [q] at e; cases e)] at hm
   exact absurd hm (hS.nd j j0 j1 q).1
 ·rintro ⟨q, h1⟩
  rw [h.see hC j0 j1 fun _ => h1]
  obtain ⟨d1, d2, d3, d4, d5, _⟩ := hS.dd j j0 j1 q
  exact ⟨d5, d3, d2.1, .inl d4⟩
theorem TW.e0 (h : TW C P w) (hC : C.ok) (v : Int) : TW C P (upd w 0 v) := by
 have ck : ∀ j, 0 ≤ j → j < C.C → upd w 0 v (C.chunk j) = w (C.chunk j) := fun j j0 j1 => upd_ne _ _ (by have := ck_lt hC j0 j1; omega)
 have ck1 : ∀ j, 0 ≤ j → j < C.C → upd w 0 v (C.chunk j + 1) = w (C.chunk j + 1) := fun j j0 j1 => upd_ne _ _ (by have := ck_lt hC j0 j1; omega)
 have cb : ∀ j x, 0 ≤ j → j < C.C → 0 ≤ x → upd w 0 v (C.base j + x) = w (C.base j + x) := fun j x j0 j1 x0 => upd_ne _ _ (by have := base_ge hC j0 j1 x0; have := hC.T; have := hC.S; omega)
 refine ⟨fun i i1 hi => by rw [upd_ne _ _ (by omega)]; exact h.ot i i1 hi, fun j j0 j1 hD hs => ?_, fun j x j0 j1 hD hs x0 x1 => ?_, fun j j0 j1 hD hs => ?_, fun j x j0 j1 hD hs x0 x1 => ?_, fun j x j0 j1 hD hs x0 x1 => ?_⟩
 ·rw [ck j j0 j1] at hs ⊢; rw [ck1 j j0 j1]; exact h.one j j0 j1 hD hs
 ·rw [ck j j0 j1] at hs; rw [cb j x j0 j1 x0]; exact h.wd j x j0 j1 hD hs x0 x1
 ·rw [ck j j0 j1] at hs ⊢; exact h.qu j j0 j1 hD hs
 ·rw [ck j j0 j1] at hs
  have u := chU_bd (P.w0 (C.chunk j))
  rw [cb j x j0 j1 (by omega)]; exact h.qn j x j0 j1 hD hs x0 x1
 ·rw [ck j j0 j1] at hs; rw [cb j x j0 j1 x0]; exact h.fr j x j0 j1 hD hs x0 x1
theorem TW.ck (h : TW C P w) (hC : C.ok) {i v : Int} (i0 : 0 ≤ i) (i1 : i < C.C) (hD : P.D i = true) (h1 : chS v ≠ 1) (h2 : chS v = 2 → ∀ x, 0 ≤ x → x < C.W → w (C.base i + x) = P.w0 (C.base i + x))
  (h3 : chS v = 2 ∨ chS v = 3 → chU v = chU (P.w0 (C.chunk i)) ∧ chC v = chC (P.w0 (C.chunk i))) (h4 : chS v = 3 → ∀ x, chU (P.w0 (C.chunk i)) ≤ x → x < C.W → w (C.base i + x) = 0)
  (h5 : chS v = 0 → ∀ x, 0 ≤ x → x < C.W → w (C.base i + x) = 0) : TW C P (upd w (C.chunk i) v) := by
 have bi := ck_lt hC i0 i1
 have ck : ∀ j, j ≠ i → upd w (C.chunk i) v (C.chunk j) = w (C.chunk j) := fun j e => upd_ne _ _ (ck_ne e).1
 have ck1 : ∀ j, upd w (C.chunk i) v (C.chunk j + 1) = w (C.chunk j + 1) := fun j => upd_ne _ _ (by unfold Cf.chunk; omega)
 have cb : ∀ j x, 0 ≤ j → j < C.C → 0 ≤ x → upd w (C.chunk i) v (C.base j + x) = w (C.base j + x) := fun j x j0 j1 x0 => upd_ne _ _ (by have := base_ge hC j0 j1 x0; omega)
 have u := chU_bd (P.w0 (C.chunk i))
 refine ⟨fun k k1 hk => by rw [upd_ne _ _ (hk i i0 i1 hD).1]; exact h.ot k k1 hk, fun j j0 j1 hDj hs => ?_, fun j x j0 j1 hDj hs x0 x1 => ?_, fun j j0 j1 hDj hs => ?_, fun j x j0 j1 hDj hs x0 x1 => ?_, fun j x j0 j1 hDj hs x0 x1 => ?_⟩
 ·by_cases e : j = i
  ·subst e; rw [upd_same] at hs; exact absurd hs h1
  ·rw [ck j e] at hs ⊢; rw [ck1 j]; exact h.one j j0 j1 hDj hs
 ·rw [cb j x j0 j1 x0]
  by_cases e : j = i
  ·subst e; rw [upd_same] at hs
   rcases hs with q | q
   ·exact absurd q h1
   ·exact h2 q x x0 x1
  ·rw [ck j e] at hs; exact h.wd j x j0 j1 hDj hs x0 x1
 ·by_cases e : j = i
  ·subst e; rw [upd_same] at hs ⊢; exact h3 hs
  ·rw [ck j e] at hs ⊢; exact h.qu j j0 j1 hDj hs
 ·have uj := chU_bd (P.w0 (C.chunk j))
  rw [cb j x j0 j1 (by omega)]
  by_cases e : j = i
  ·subst e; rw [upd_same] at hs; exact h4 hs x x0 x1
  ·rw [ck j e] at hs; exact h.qn j x j0 j1 hDj hs x0 x1
 ·rw [cb j x j0 j1 x0]
  by_cases e : j = i
  ·subst e; rw [upd_same] at hs; exact h5 hs x x0 x1
  ·rw [ck j e] at hs; exact h.fr j x j0 j1 hDj hs x0 x1
theorem TW.ck12 (h : TW C P w) (hC : C.ok) {i v a : Int} (i0 : 0 ≤ i) (i1 : i < C.C) (hD : P.D i = true) (hs : chS (w (C.chunk i)) ≠ 1) (ha : a = C.chunk i + 1 ∨ a = C.chunk i + 2) : TW C P (upd w a v) := by
 have bi := ck_lt hC i0 i1
 have ck : ∀ j, upd w a v (C.chunk j) = w (C.chunk j) := fun j => upd_ne _ _ (by unfold Cf.chunk at *; omega)
 have cb : ∀ j x, 0 ≤ j → j < C.C → 0 ≤ x → upd w a v (C.base j + x) = w (C.base j + x) := fun j x j0 j1 x0 => upd_ne _ _ (by have := base_ge hC j0 j1 x0; omega)
 refine ⟨fun k k1 hk => ?_, fun j j0 j1 hDj q => ?_, fun j x j0 j1 hDj q x0 x1 => ?_, fun j j0 j1 hDj q => ?_, fun j x j0 j1 hDj q x0 x1 => ?_, fun j x j0 j1 hDj q x0 x1 => ?_⟩
 ·have := hk i i0 i1 hD
  rw [upd_ne _ _ (by omega)]; exact h.ot k k1 hk
 ·rw [ck j] at q ⊢
  have e : j ≠ i := fun e => hs (e ▸ q)
  rw [upd_ne _ _ (by have := ck_ne (C := C) e; omega)]; exact h.one j j0 j1 hDj q
 ·rw [ck j] at q; rw [cb j x j0 j1 x0]; exact h.wd j x j0 j1 hDj q x0 x1
 ·rw [ck j] at q ⊢; exact h.qu j j0 j1 hDj q
 ·have uj := chU_bd (P.w0 (C.chunk j))
  rw [ck j] at q; rw [cb j x j0 j1 (by omega)]; exact h.qn j x j0 j1 hDj q x0 x1
 ·rw [ck j] at q; rw [cb j x j0 j1 x0]; exact h.fr j x j0 j1 hDj q x0 x1
theorem TW.nul (h : TW C P w) (hC : C.ok) {i y : Int} (i0 : 0 ≤ i) (i1 : i < C.C) (hD : P.D i = true) (hs : chS (w (C.chunk i)) = 3) (y0 : 0 ≤ y) (y1 : y < C.W) : TW C P (upd w (C.base i + y) 0) := by
 have bi := base_ge hC i0 i1 y0
 have ck : ∀ j, 0 ≤ j → j < C.C → upd w (C.base i + y) 0 (C.chunk j) = w (C.chunk j) := fun j j0 j1 => upd_ne _ _ (by have := ck_lt hC j0 j1; omega)
 have ck1 : ∀ j, 0 ≤ j → j < C.C → upd w (C.base i + y) 0 (C.chunk j + 1) = w (C.chunk j + 1) := fun j j0 j1 => upd_ne _ _ (by have := ck_lt hC j0 j1; omega)
 refine ⟨fun k k1 hk => ?_, fun j j0 j1 hDj q => ?_, fun j x j0 j1 hDj q x0 x1 => ?_, fun j j0 j1 hDj q => ?_, fun j x j0 j1 hDj q x0 x1 => ?_, fun j x j0 j1 hDj q x0 x1 => ?_⟩
 ·rw [upd_ne _ _ ((hk i i0 i1 hD).2.2.2 y y0 y1)]; exact h.ot k k1 hk
 ·rw [ck j j0 j1] at q ⊢; rw [ck1 j j0 j1]; exact h.one j j0 j1 hDj q
 ·rw [ck j j0 j1] at q
  rw [upd_ne _ _ fun e => ?_]
  ·exact h.wd j x j0 j1 hDj q x0 x1
  ·have := (base_inj hC j0 j1 x0 x1 i0 i1 y0 y1 e).1
   subst this; omega
 ·rw [ck j j0 j1] at q ⊢; exact h.qu j j0 j1 hDj q
 ·rw [ck j j0 j1] at q
  unfold upd; split
  ·rfl
  ·exact h.qn j x j0 j1 hDj q x0 x1
 ·rw [ck j j0 j1] at q
  unfold upd; split
  ·rfl
  ·exact h.fr j x j0 j1 hDj q x0 x1
end
end Go.Fl
namespace Go.Fl
open Go
set_option linter.unusedVariables false
set_option linter.unusedSimpArgs false
variable {N : Nm} {A B : Ar} {σ : Mem} {K : Value → Mem → Prop} {C : Cf} {who : Int} {P : TP} {w : Int → Int}
theorem u64w {x : Int} (h0 : 0 ≤ x) (h1 : x < 18446744073709551616) : IntKind.u64.wrap x = x := IntWalk.u64_in x ⟨h0, by omega⟩
def kS (C : Cf) (P : TP) (w : Int → Int) (s : Int) : Int := cnt (fun j => P.D j && decide (chS (w (C.chunk j)) = s)) C.C.toNat
theorem kS_nn {s : Int} : 0 ≤ kS C P w s := by unfold kS; omega
theorem kS_le {s : Int} (h : 0 ≤ C.C) : kS C P w s ≤ C.C := by
 have := cnt_le (f := fun j => P.D j && decide (chS (w (C.chunk j)) = s)) (n := C.C.toNat)
 unfold kS; omega
theorem kS_congr {w' : Int → Int} {s : Int} (h : ∀ j, 0 ≤ j → j < C.C → w' (C.chunk j) = w (C.chunk j)) : kS C P w' s = kS C P w s := by
 unfold kS; rw [cnt_congr fun j j0 j1 => by rw [h j j0 (by omega)]]
theorem kS_off {i v s : Int} (i0 : 0 ≤ i) (i1 : i < C.C) (hD : P.D i = true) (h1 : chS (w (C.chunk i)) = s) (h2 : chS v ≠ s) : kS C P w s = kS C P (upd w (C.chunk i) v) s + 1 := by
 unfold kS
 rw [cnt_off (i := i) (g := fun j => P.D j && decide (chS (upd w (C.chunk i) v (C.chunk j)) = s)) (by simp [hD, h1]) (by simp [upd_same, h2]) i0 (by omega) fun j j0 j1 e => by rw [upd_ne _ _ (ck_ne e).1]]
 omega
theorem kS_on {i v s : Int} (i0 : 0 ≤ i) (i1 : i < C.C) (hD : P.D i = true) (h1 : chS (w (C.chunk i)) ≠ s) (h2 : chS v = s) : kS C P (upd w (C.chunk i) v) s = kS C P w s + 1 := by
 unfold kS
 rw [cnt_off (i := i) (f := fun j => P.D j && decide (chS (upd w (C.chunk i) v (C.chunk j)) = s)) (g := fun j => P.D j && decide (chS (w (C.chunk j)) = s)) (by simp [hD, h2, upd_same]) (by simp [h1]) i0 (by omega) fun j j0 j1 e => by rw [upd_ne _ _ (ck_ne e).1]]
 omega
theorem kS_same {i v s : Int} (h1 : chS (w (C.chunk i)) ≠ s) (h2 : chS v ≠ s) : kS C P (upd w (C.chunk i) v) s = kS C P w s := by
 unfold kS
 rw [cnt_congr fun j j0 j1 => ?_]
 by_cases e : j = i
 ·subst e; rw [upd_same]; simp [h1, h2]
 ·rw [upd_ne _ _ (ck_ne e).1]
theorem kS_zero {s j : Int} (h : kS C P w s = 0) (j0 : 0 ≤ j) (j1 : j < C.C) (hD : P.D j = true) : chS (w (C.chunk j)) ≠ s := by
 have := cnt_zero (f := fun j => P.D j && decide (chS (w (C.chunk j)) = s)) (n := C.C.toNat) (by unfold kS at h; omega) j j0 (by omega)
 simpa [hD] using this
theorem kS_none {s : Int} (h : ∀ j, 0 ≤ j → j < C.C → P.D j = true → chS (w (C.chunk j)) ≠ s) : kS C P w s = 0 := by
 unfold kS
 rw [cnt_none fun j j0 j1 => ?_]
 ·rfl
 ·cases q : P.D j with
  | false => rfl
  | true => simpa using h j j0 (by omega) q
structure Ctl (C : Cf) (P : TP) (w : Int → Int) (pc at' pos cw : Int) (seen : List Sn) (a : Option Adv) (s : Option Stl) (m : Mv) : Prop where
 pb : 0 ≤ pc ∧ pc ≤ 11 ∧ pc ≠ 9
 p5 : pc = 5 → hdK (w (C.base at' + pos)) = 2 ∧ m = Mv.new (C.base at' + pos) (hdK (w (C.base at' + pos))) (hdS (w (C.base at' + pos))) (hdT (w (C.base at' + pos))) (hdG (w (C.base at' + pos))) (hdO (w (C.base at' + pos)))
 p0 : pc = 0 → (0 ≤ at' ∧ at' < C.C) ∧ (at' ≠ 0 → (seen.length : Int) = at' ∧ ∀ i : Nat, (i : Int) < at' → seen[i]? = some (see C w 0 i))
 p1 : pc = 1 → (0 ≤ at' ∧ at' < C.C) ∧ (seen.length : Int) = at' + 1 ∧ (∀ i : Nat, (i : Int) < at' → seen[i]? = some (see C w 0 i)) ∧ seen[at'.toNat]? = some (seeS (w (C.chunk at')))
 p2 : pc = 2 → (0 ≤ at' ∧ at' < 4) ∧ (seen.length : Int) = C.C ∧ ∀ i : Nat, (i : Int) < C.C → seen[i]? = some (see C w at' i)
 p3 : pc = 3 → (0 ≤ at' ∧ at' < C.C) ∧ P.D at' = true ∧ chS (w (C.chunk at')) = 1 ∧ cw = w (C.chunk at')
 p4 : pc = 4 ∨ pc = 5 → 0 ≤ pos ∧ pos < chU (P.w0 (C.chunk at')) ∧ pos % roomOf (chC (P.w0 (C.chunk at'))) = 0
 p8 : 4 ≤ pc → pc ≤ 8 → (0 ≤ at' ∧ at' < C.C) ∧ P.D at' = true ∧ chS cw = 2 ∧ cw = w (C.chunk at')
 p10 : pc = 10 → ∀ v, a = some v → v.now = w 0 ∧ (v.pc = 1 ∧ 0 ≤ v.at' ∧ v.at' < C.T ∨ v.pc = 2 ∧ 0 ≤ v.at' ∧ (P.pn = true → w 0 = P.e0))
 an : pc ≠ 10 → a = none
 p11 : pc = 11 → (0 ≤ at' ∧ at' < C.C) ∧ ∀ v, s = some v → v.ch = at' ∧ P.D at' = true ∧ chS (w (C.chunk at')) = 3 ∧ v.w = w (C.chunk at') ∧ v.freed = false ∧ (v.pc = 1 ∧ v.at' = 0 ∨ v.pc = 2 ∧ v.at' = 0 ∧ v.since = w (C.chunk at' + 2) ∨
   P.pn = false ∧ (v.pc = 3 ∧ (0 ≤ v.at' ∧ v.at' < chU (P.w0 (C.chunk at'))) ∧ (∀ x, 0 ≤ x → x < v.at' → w (C.base at' + x) = 0) ∨ (v.pc = 4 ∨ v.pc = 5) ∧ ∀ x, 0 ≤ x → x < chU (P.w0 (C.chunk at')) → w (C.base at' + x) = 0))
 sn : pc ≠ 11 → s = none
 st2 : ∀ j, 0 ≤ j → j < C.C → P.D j = true → chS (w (C.chunk j)) = 2 → 4 ≤ pc ∧ pc ≤ 8 ∧ j = at'
structure Num (C : Cf) (P : TP) (w : Int → Int) (pc ev fd lf mo mo2 rd idle : Int) : Prop where
 ck : ev + (if 4 ≤ pc ∧ pc ≤ 8 then 1 else 0) + kS C P w 1 = P.K0
 cq : kS C P w 3 + fd = ev
 z : lf = 0 ∧ mo = 0 ∧ mo2 = 0
 nn : 0 ≤ fd ∧ 0 ≤ idle ∧ idle ≤ rd ∧ P.r0 ≤ rd ∧ 0 ≤ P.r0
structure Tim (C : Cf) (P : TP) (w : Int → Int) (pc at' now ev ev2 fd fd2 rd idle : Int) : Prop where
 e : 0 ≤ w 0 ∧ w 0 ≤ P.e0 + (rd - P.r0) + (if pc = 11 then 1 else 0)
 kt : kS C P w 1 + (rd - P.r0) + (if 4 ≤ pc then 1 else 0) ≤ P.Ks ∨ kS C P w 1 = 0
 eb : ev2 ≤ ev ∧ (ev ≠ ev2 → rd - P.r0 + 1 ≤ P.Ks) ∧ (pc ≤ 8 → ev = ev2) ∧ (4 ≤ pc → pc ≤ 8 → rd - P.r0 + 1 ≤ P.Ks)
 n7 : pc = 7 → 0 ≤ now ∧ now ≤ w 0 ∧ (P.pn = true → P.e0 ≤ now)
 n8 : pc = 8 → 0 ≤ w (C.chunk at' + 2) ∧ w (C.chunk at' + 2) ≤ w 0 ∧ (P.pn = true → P.e0 ≤ w (C.chunk at' + 2))
 uq : P.pn = false → pc ≤ 10 → ∀ j, 0 ≤ j → j < C.C → P.D j = true → chS (w (C.chunk j)) = 3 → w (C.chunk j + 2) + 1 ≤ w 0 ∨ w (C.chunk j + 2) ≤ w 0 ∧ (rd = P.r0 ∨ pc = 10 ∧ ev ≠ ev2)
 us : P.pn = false → pc = 11 → ∀ j, 0 ≤ j → j < C.C → P.D j = true → chS (w (C.chunk j)) = 3 → w (C.chunk j + 2) + 1 ≤ w 0 ∧ (w (C.chunk j + 2) + 2 ≤ w 0 ∧ at' ≤ j ∨ ev ≠ ev2 ∨ rd = P.r0)
 fq : P.pn = false → P.Ks + 2 ≤ rd - P.r0 → kS C P w 3 = 0 ∧ fd = fd2
 fi : P.pn = false → P.Ks + 3 ≤ rd - P.r0 → 1 ≤ idle
 pq : P.pn = true → P.e0 ≤ w 0 ∧ w 0 ≤ P.e0 + 1 ∧ fd = 0 ∧ ∀ j, 0 ≤ j → j < C.C → P.D j = true → chS (w (C.chunk j)) = 3 → P.e0 ≤ w (C.chunk j + 2) ∧ w (C.chunk j + 2) ≤ w 0
 ks : 0 ≤ P.Ks
structure TI (C : Cf) (P : TP) (c : Co) (A : Ar) : Prop where
 st : TS C P
 nn : C.len ≤ A.n ∧ (A.n : Int) ≤ 200000000
 w64 : ∀ i, 0 ≤ A.w i ∧ A.w i < 18446744073709551616
 tw : TW C P A.w
 cl : Ctl C P A.w c.r.pc c.r.at' c.r.pos c.r.w c.seen c.a c.s c.m
 nm : Num C P A.w c.r.pc c.r.ev c.r.fd c.r.lf c.r.mo c.r.mo2 c.r.rd c.r.idle
 tm : Tim C P A.w c.r.pc c.r.at' c.r.now c.r.ev c.r.ev2 c.r.fd c.r.fd2 c.r.rd c.r.idle
theorem TI.of {pc at' pos cw now ev lf fd mo rd ev2 lf2 fd2 mo2 rd2 idle : Int} {x1 x6 x7 x8 : Value} {seen : List Sn} {a : Option Adv} {s : Option Stl} {m : Mv} {A : Ar} (w : Int → Int) (e : A.w = w) (hS : TS C P) (nn : C.len ≤ A.n ∧ (A.n : Int) ≤ 200000000) (w64 : ∀ i, 0 ≤ w i ∧ w i < 18446744073709551616)
  (tw : TW C P w) (cl : Ctl C P w pc at' pos cw seen a s m) (nm : Num C P w pc ev fd lf mo mo2 rd idle) (tm : Tim C P w pc at' now ev ev2 fd fd2 rd idle) :
  TI C P ⟨⟨pc, x1, at', pos, cw, now, x6, x7, x8, ev, lf, fd, mo, rd, ev2, lf2, fd2, mo2, rd2, idle⟩, seen, a, s, m⟩ A := by subst e; exact ⟨hS, nn, w64, tw, cl, nm, tm⟩
def apA : Option Adv → Int
 | none => 0
 | some a => if a.pc = 1 then 1 + a.at' else 10
def spS : Option Stl → Int
 | none => 0
 | some s => if s.pc ≤ 2 then s.pc else if s.pc = 3 then 3 + s.at' else 40 + s.pc
def leftT (C : Cf) (c : Co) : Int :=
 if c.r.pc = 0 then 2 * (C.C - c.r.at') + 620 else if c.r.pc = 1 then 2 * (C.C - c.r.at') + 619 else if c.r.pc = 2 then 620 - c.r.at' else if c.r.pc = 3 then 615
 else if c.r.pc = 4 then 530 + 2 * (chU c.r.w - c.r.pos) else if c.r.pc = 5 then 529 + 2 * (chU c.r.w - c.r.pos) else if c.r.pc = 6 then 529 else if c.r.pc = 7 then 528 else if c.r.pc = 8 then 527 else if c.r.pc = 10 then 520 - apA c.a else 50 * (C.C - c.r.at') - spS c.s
theorem Num.keep {w' : Int → Int} {pc pc' ev fd lf mo mo2 rd idle : Int} (h : Num C P w pc ev fd lf mo mo2 rd idle) (hw : ∀ j, 0 ≤ j → j < C.C → w' (C.chunk j) = w (C.chunk j)) (hp : (4 ≤ pc ∧ pc ≤ 8) ↔ (4 ≤ pc' ∧ pc' ≤ 8)) : Num C P w' pc' ev fd lf mo mo2 rd idle := by
 refine ⟨?_, by rw [kS_congr hw]; exact h.cq, h.z, h.nn⟩
 have := h.ck
 rw [kS_congr hw]
 by_cases q : 4 ≤ pc ∧ pc ≤ 8
 ·rw [if_pos q] at this; rw [if_pos (hp.1 q)]; exact this
 ·rw [if_neg q] at this; rw [if_neg fun r => q (hp.2 r)]; exact this
section
variable {c : Co}
theorem TI.s0 (hC : C.ok) (h : TI C P c A) (hp : c.r.pc = 0) (r : Int) : TI C P (c.step C (-1) A r).1 (c.step C (-1) A r).2 ∧ (c.step C (-1) A r).1.r.rd = c.r.rd ∧ leftT C (c.step C (-1) A r).1 < leftT C c := by
 have st : c.step C (-1) A r = ({ c with seen := (if c.r.at' = 0 then [] else c.seen) ++ [seeS (A.w (C.chunk c.r.at'))], r := { c.r with pc := 1 } }, (A.by (-1)).load (C.chunk c.r.at')) := by unfold Co.step; rw [if_pos hp]
 rw [st]
 obtain ⟨hS, nn, w64, tw, cl, nm, tm⟩ := h
 rw [hp] at cl nm tm
 obtain ⟨⟨a0, a1⟩, hs⟩ := cl.p0 rfl
 refine ⟨TI.of (pc := 1) A.w rfl hS nn w64 tw ?_ (nm.keep (fun _ _ _ => rfl) (by constructor <;> omega)) ⟨tm.e, ?_, ⟨tm.eb.1, tm.eb.2.1, fun _ => tm.eb.2.2.1 (by decide), fun q => absurd q (by decide)⟩, fun q => absurd q (by decide), fun q => absurd q (by decide), fun a b j j0 j1 d q => ?_, fun _ q => absurd q (by decide), tm.fq, tm.fi, tm.pq, tm.ks⟩, rfl, ?_⟩
 ·have hl : ((if c.r.at' = 0 then [] else c.seen).length : Int) = c.r.at' := by
   by_cases z : c.r.at' = 0
   ·rw [if_pos z, z]; rfl
   ·rw [if_neg z]; exact (hs z).1
  refine ⟨by decide, fun q => absurd q (by decide), fun q => absurd q (by decide), fun _ => ⟨⟨a0, a1⟩, by rw [List.length_append]; show ((_ + 1 : Nat) : Int) = _; omega, fun i hi => ?_, ?_⟩, fun q => absurd q (by decide), fun q => absurd q (by decide), fun q => absurd q (by decide), fun q => absurd q (by decide), fun q => absurd q (by decide), fun _ => cl.an (by decide), fun q => absurd q (by decide), fun _ => cl.sn (by decide), fun j j0 j1 d q => absurd (cl.st2 j j0 j1 d q).1 (by decide)⟩
  ·rw [List.getElem?_append_left (by omega)]
   have z : c.r.at' ≠ 0 := by omega
   rw [if_neg z]; exact (hs z).2 i hi
  ·rw [List.getElem?_append_right (by omega), show c.r.at'.toNat - (if c.r.at' = 0 then [] else c.seen).length = 0 by omega]; rfl
 ·have := tm.kt; rw [if_neg (by decide)] at this ⊢; exact this
 ·rcases tm.uq a (by decide) j j0 j1 d q with q | ⟨q, q' | q'⟩
  ·exact .inl q
  ·exact .inr ⟨q, .inl q'⟩
  ·exact absurd q'.1 (by decide)
 ·unfold leftT; dsimp only; rw [if_neg (by decide), if_pos rfl, if_pos hp]; omega
theorem TI.s1 (hC : C.ok) (h : TI C P c A) (hp : c.r.pc = 1) (r : Int) : TI C P (c.step C (-1) A r).1 (c.step C (-1) A r).2 ∧ (c.step C (-1) A r).1.r.rd = c.r.rd ∧ leftT C (c.step C (-1) A r).1 < leftT C c := by
 have st : c.step C (-1) A r = ({ c with seen := liveS c.seen c.r.at'.toNat (IntKind.i64.wrap (A.w (C.chunk c.r.at' + 1))), r := { c.r with at' := if C.C ≤ c.r.at' + 1 then 0 else c.r.at' + 1, pc := if C.C ≤ c.r.at' + 1 then 2 else 0 } }, (A.by (-1)).load (C.chunk c.r.at' + 1)) := by unfold Co.step; rw [if_neg (by omega), if_pos hp]
 rw [st]
 obtain ⟨hS, nn, w64, tw, cl, nm, tm⟩ := h
 rw [hp] at cl nm tm
 obtain ⟨⟨a0, a1⟩, hl, hs, hx⟩ := cl.p1 rfl
 have el : ∀ i : Nat, (i : Int) ≤ c.r.at' → (liveS c.seen c.r.at'.toNat (IntKind.i64.wrap (A.w (C.chunk c.r.at' + 1))))[i]? = some (see C A.w 0 i) := fun i hi => by
  by_cases e : (i : Int) = c.r.at'
  ·have ei : i = c.r.at'.toNat := by omega
   subst ei
   rw [liveS_get hx, if_pos rfl, e]
   unfold see seeS; rw [opB_0]
  ·rw [liveS_get (hs i (by omega)), if_neg (by omega)]
 have e1 : (if C.C ≤ c.r.at' + 1 then (2 : Int) else 0) ≤ 2 ∧ 0 ≤ (if C.C ≤ c.r.at' + 1 then (2 : Int) else 0) := by split <;> decide
 have tmk : Tim C P A.w (if C.C ≤ c.r.at' + 1 then 2 else 0) (if C.C ≤ c.r.at' + 1 then 0 else c.r.at' + 1) c.r.now c.r.ev c.r.ev2 c.r.fd c.r.fd2 c.r.rd c.r.idle := by
  refine ⟨?_, ?_, ⟨tm.eb.1, tm.eb.2.1, fun _ => tm.eb.2.2.1 (by decide), fun q => by omega⟩, fun q => by omega, fun q => by omega, fun a b j j0 j1 d q => ?_, fun _ q => by omega, tm.fq, tm.fi, tm.pq, tm.ks⟩
  ·have := tm.e; rw [if_neg (by decide)] at this; rw [if_neg (by omega)]; exact this
  ·have := tm.kt; rw [if_neg (by decide)] at this; rw [if_neg (by omega)]; exact this
  ·rcases tm.uq a (by decide) j j0 j1 d q with q | ⟨q, q' | q'⟩
   ·exact .inl q
   ·exact .inr ⟨q, .inl q'⟩
   ·exact absurd q'.1 (by decide)
 refine ⟨TI.of (pc := if C.C ≤ c.r.at' + 1 then 2 else 0) (at' := if C.C ≤ c.r.at' + 1 then 0 else c.r.at' + 1) A.w rfl hS nn w64 tw ?_ (nm.keep (fun _ _ _ => rfl) (by omega)) tmk, rfl, ?_⟩
 ·by_cases z : C.C ≤ c.r.at' + 1
  ·simp only [if_pos z]
   refine ⟨by decide, fun q => absurd q (by decide), fun q => absurd q (by decide), fun q => absurd q (by decide), fun _ => ⟨by decide, by rw [liveS_len]; omega, fun i hi => el i (by omega)⟩, fun q => absurd q (by decide), fun q => absurd q (by decide), fun q => absurd q (by decide), fun q => absurd q (by decide), fun _ => cl.an (by decide), fun q => absurd q (by decide), fun _ => cl.sn (by decide), fun j j0 j1 d q => absurd (cl.st2 j j0 j1 d q).1 (by decide)⟩
  ·simp only [if_neg z]
   refine ⟨by decide, fun q => absurd q (by decide), fun _ => ⟨⟨by omega, by omega⟩, fun _ => ⟨by rw [liveS_len]; omega, fun i hi => el i (by omega)⟩⟩, fun q => absurd q (by decide), fun q => absurd q (by decide), fun q => absurd q (by decide), fun q => absurd q (by decide), fun q => absurd q (by decide), fun q => absurd q (by decide), fun _ => cl.an (by decide), fun q => absurd q (by decide), fun _ => cl.sn (by decide), fun j j0 j1 d q => absurd (cl.st2 j j0 j1 d q).1 (by decide)⟩
 ·unfold leftT; dsimp only
  by_cases z : C.C ≤ c.r.at' + 1
  ·simp only [if_pos z]; rw [if_neg (by decide), if_neg (by decide), if_pos (by decide), if_neg (by omega), if_pos hp]; omega
  ·simp only [if_neg z]; rw [if_pos (by decide), if_neg (by omega), if_pos hp]; omega
theorem TI.s2 (hC : C.ok) (h : TI C P c A) (hp : c.r.pc = 2) (r : Int) (hr : c.may C A r) : TI C P (c.step C (-1) A r).1 (c.step C (-1) A r).2 ∧ (c.step C (-1) A r).1.r.rd = c.r.rd ∧ leftT C (c.step C (-1) A r).1 < leftT C c := by
 obtain ⟨hS, nn, w64, tw, cl, nm, tm⟩ := h
 have cl' := cl; have nm' := nm; have tm' := tm
 rw [hp] at cl nm tm
 obtain ⟨⟨a0, a1⟩, hl, hs⟩ := cl.p2 rfl
 have el : ∀ i : Nat, (i : Int) < C.C → (opS c.seen (A.w (2 + c.r.at')))[i]? = some (see C A.w (c.r.at' + 1) i) := fun i hi => see_next a0 a1 (hs i hi)
 have uq' : ∀ pc', P.pn = false → ∀ j, 0 ≤ j → j < C.C → P.D j = true → chS (A.w (C.chunk j)) = 3 → A.w (C.chunk j + 2) + 1 ≤ A.w 0 ∨ A.w (C.chunk j + 2) ≤ A.w 0 ∧ (c.r.rd = P.r0 ∨ pc' = (10 : Int) ∧ c.r.ev ≠ c.r.ev2) := fun pc' a j j0 j1 d q => by
  rcases tm.uq a (by decide) j j0 j1 d q with q | ⟨q, q' | q'⟩
  ·exact .inl q
  ·exact .inr ⟨q, .inl q'⟩
  ·exact absurd q'.1 (by decide)
 by_cases c4 : c.r.at' + 1 < 4
 ·have st : c.step C (-1) A r = ({ c with seen := opS c.seen (A.w (2 + c.r.at')), r := { c.r with at' := c.r.at' + 1 } }, (A.by (-1)).load (2 + c.r.at')) := by unfold Co.step; rw [if_neg (by omega), if_neg (by omega), if_pos hp, if_pos c4]
  rw [st]
  refine ⟨TI.of (pc := c.r.pc) (at' := c.r.at' + 1) A.w rfl hS nn w64 tw ?_ nm' ?_, rfl, ?_⟩
  ·rw [hp]
   refine ⟨by decide, fun q => absurd q (by decide), fun q => absurd q (by decide), fun q => absurd q (by decide), fun _ => ⟨⟨by omega, c4⟩, by rw [opS_len]; exact hl, el⟩, fun q => absurd q (by decide), fun q => absurd q (by decide), fun q => absurd q (by decide), fun q => absurd q (by decide), fun _ => cl.an (by decide), fun q => absurd q (by decide), fun _ => cl.sn (by decide), fun j j0 j1 d q => absurd (cl.st2 j j0 j1 d q).1 (by decide)⟩
  ·rw [hp]
   exact ⟨tm.e, tm.kt, tm.eb, fun q => absurd q (by decide), fun q => absurd q (by decide), tm.uq, fun _ q => absurd q (by decide), tm.fq, tm.fi, tm.pq, tm.ks⟩
  ·unfold leftT; dsimp only; rw [if_neg (by omega), if_neg (by omega), if_pos hp, if_neg (by omega), if_neg (by omega), if_pos hp]; omega
 have e3 : c.r.at' = 3 := by omega
 obtain ⟨hch, r0, r1⟩ := hr hp c4
 rw [e3] at el
 by_cases rn : r < 0
 ·have hnone : ∀ x ∈ opS c.seen (A.w (2 + c.r.at')), ¬ x.may C := by
   rcases hch with ⟨_, q⟩ | ⟨q, _⟩
   ·exact q
   ·omega
  have kz : kS C P A.w 1 = 0 := kS_none fun j j0 j1 d q => by
   have hm := (tw.may hS hC j0 j1).2 ⟨d, q⟩
   have := el j.toNat (by omega)
   rw [show ((j.toNat : Nat) : Int) = j by omega, ← e3] at this
   exact hnone _ (List.mem_iff_getElem?.2 ⟨_, this⟩) (by rw [e3]; exact hm)
  have st : c.step C (-1) A r = ({ c with seen := opS c.seen (A.w (2 + c.r.at')), r := { c.r with at' := -1, pc := 10 } }, (A.by (-1)).load (2 + c.r.at')) := by unfold Co.step; rw [if_neg (by omega), if_neg (by omega), if_pos hp, if_neg c4, if_pos rn]
  rw [st]
  refine ⟨TI.of (pc := 10) (at' := -1) A.w rfl hS nn w64 tw ?_ (nm.keep (fun _ _ _ => rfl) (by constructor <;> omega)) ?_, rfl, ?_⟩
  ·refine ⟨by decide, fun q => absurd q (by decide), fun q => absurd q (by decide), fun q => absurd q (by decide), fun q => absurd q (by decide), fun q => absurd q (by decide), fun q => absurd q (by decide), fun _ q => absurd q (by decide), fun _ v e => ?_, fun q => absurd rfl q, fun q => absurd q (by decide), fun _ => cl.sn (by decide), fun j j0 j1 d q => absurd (cl.st2 j j0 j1 d q).1 (by decide)⟩
   rw [show c.a = none from cl.an (by decide)] at e; cases e
  ·refine ⟨?_, .inr kz, ⟨tm.eb.1, tm.eb.2.1, fun q => absurd q (by decide), fun _ q => absurd q (by decide)⟩, fun q => absurd q (by decide), fun q => absurd q (by decide), fun a _ => uq' 10 a, fun _ q => absurd q (by decide), tm.fq, tm.fi, tm.pq, tm.ks⟩
   have := tm.e; rw [if_neg (by decide)] at this ⊢; exact this
  ·unfold leftT; dsimp only; rw [if_neg (by decide), if_neg (by decide), if_neg (by decide), if_neg (by decide), if_neg (by decide), if_neg (by decide), if_neg (by decide), if_neg (by decide), if_pos rfl, if_neg (by omega), if_neg (by omega), if_pos hp, cl.an (by decide)]; show 520 - (0 : Int) < _; omega
 ·obtain ⟨x, hx, hm⟩ : ∃ x, (opS c.seen (A.w (2 + c.r.at')))[r.toNat]? = some x ∧ x.may C := by
   rcases hch with ⟨q, _⟩ | ⟨_, q⟩
   ·omega
   ·exact q
  have hx' := el r.toNat (by omega)
  rw [show ((r.toNat : Nat) : Int) = r by omega, ← e3, hx] at hx'
  obtain rfl : x = see C A.w (c.r.at' + 1) r := by injection hx'
  obtain ⟨hD, hs1⟩ := (tw.may hS hC (by omega) r1).1 (by rw [show (4 : Int) = c.r.at' + 1 by omega]; exact hm)
  have ew : wordS (opS c.seen (A.w (2 + c.r.at'))) r.toNat = A.w (C.chunk r) := by
   unfold wordS; rw [hx]
   exact putChunk_self (w64 _).1 (w64 _).2
  have st : c.step C (-1) A r = ({ c with seen := opS c.seen (A.w (2 + c.r.at')), r := { c.r with at' := r, pc := 3, w := A.w (C.chunk r) } }, (A.by (-1)).load (2 + c.r.at')) := by unfold Co.step; rw [if_neg (by omega), if_neg (by omega), if_pos hp, if_neg c4, if_neg rn, ew]
  rw [st]
  refine ⟨TI.of (pc := 3) (at' := r) A.w rfl hS nn w64 tw ?_ (nm.keep (fun _ _ _ => rfl) (by constructor <;> omega)) ?_, rfl, ?_⟩
  ·exact ⟨by decide, fun q => absurd q (by decide), fun q => absurd q (by decide), fun q => absurd q (by decide), fun q => absurd q (by decide), fun _ => ⟨⟨by show 0 ≤ r; omega, r1⟩, hD, hs1, rfl⟩, fun q => absurd q (by decide), fun q => absurd q (by decide), fun q => absurd q (by decide), fun _ => cl.an (by decide), fun q => absurd q (by decide), fun _ => cl.sn (by decide), fun j j0 j1 d q => absurd (cl.st2 j j0 j1 d q).1 (by decide)⟩
  ·refine ⟨?_, ?_, ⟨tm.eb.1, tm.eb.2.1, fun _ => tm.eb.2.2.1 (by decide), fun q => absurd q (by decide)⟩, fun q => absurd q (by decide), fun q => absurd q (by decide), fun a _ => uq' 3 a, fun _ q => absurd q (by decide), tm.fq, tm.fi, tm.pq, tm.ks⟩
   ·have := tm.e; rw [if_neg (by decide)] at this ⊢; exact this
   ·have := tm.kt; rw [if_neg (by decide)] at this ⊢; exact this
  ·unfold leftT; dsimp only; rw [if_neg (by decide), if_neg (by decide), if_neg (by decide), if_pos rfl, if_neg (by omega), if_neg (by omega), if_pos hp]; omega
end
end Go.Fl
