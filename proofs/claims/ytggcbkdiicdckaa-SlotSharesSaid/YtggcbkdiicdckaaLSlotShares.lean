/- However many take and give slots, whoever is picked: no slot is had by two, and at the end all are free, each once: the reading of the law answers true. No condition. -/
import Derived.Test.YtggcbkdiicdckaaFlY
namespace Go.Fl
open Go
set_option linter.unusedVariables false
set_option linter.unusedSimpArgs false
variable {N : Nm} {A B : Ar} {σ : Mem} {K : Value → Mem → Prop} {C : Cf} {who : Int}

/-! ### Those who take and give, in plain terms -/

/-- Somebody who takes a slot, or gives one back; where that one's object lies. -/
inductive Ps where
  | tk (p : Nat) (t : Tk)
  | gv (p : Nat) (g : Gv)
def Ps.p : Ps → Nat
  | .tk p _ => p
  | .gv p _ => p
/-- Which slot that one has. -/
def Ps.has : Ps → Int → Prop
  | .tk _ _, _ => False
  | .gv _ g, s => g.slot = s
def W64 (x : Int) : Prop := 0 ≤ x ∧ x < 18446744073709551616
/-- What holds of each. -/
def Ps.fine (C : Cf) (w : Int → Int) (F : List Int) : Ps → Prop
  | .tk _ t => W64 t.top ∧ 0 ≤ t.next + 1 ∧ t.ok = false ∧ (t.pc = 0 ∨ (t.pc = 1 ∨ t.pc = 2) ∧ 0 ≤ t.slot ∧ t.slot < C.S ∧ topN t.top ≤ topN (w 1) ∧
      (t.top = w 1 → t.slot = topS (w 1) ∧ (t.pc = 2 → t.next = topS (w (C.slot t.slot + 1)))))
  | .gv _ g => W64 g.top ∧ 0 ≤ g.slot ∧ g.slot < C.S ∧ g.slot ∉ F ∧ (g.pc = 0 ∨ (g.pc = 1 ∨ g.pc = 2) ∧ topN g.top ≤ topN (w 1) ∧ topS g.top < C.S ∧ (g.pc = 2 → topS (w (C.slot g.slot + 1)) = topS g.top))
structure Sh (C : Cf) (w : Int → Int) (P : Int → Ps) (F : List Int) (k : Int) : Prop where
  fre : Fre C w F
  each : ∀ i, 0 ≤ i → i < 3 → (P i).fine C w F
  apart : ∀ i j s, 0 ≤ i → i < 3 → 0 ≤ j → j < 3 → (P i).has s → (P j).has s → i = j
  all : ∀ s, 0 ≤ s → s < C.S → s ∈ F ∨ ∃ i, 0 ≤ i ∧ i < 3 ∧ (P i).has s
  num : 0 ≤ topN (w 1) ∧ topN (w 1) ≤ k
def updP (P : Int → Ps) (i : Int) (x : Ps) : Int → Ps := fun j => if j = i then x else P j
theorem updP_same {P : Int → Ps} {i : Int} {x : Ps} : updP P i x i = x := by simp [updP]
theorem updP_ne {P : Int → Ps} {i j : Int} {x : Ps} (h : j ≠ i) : updP P i x j = P j := by simp [updP, h]

/-- Those who were not picked, when nothing is changed that they look at. -/
theorem Ps.fine.keep {w w' : Int → Int} {F F' : List Int} {x : Ps} (h : x.fine C w F) (h1 : w' 1 = w 1) (hF : ∀ s, x.has s → s ∉ F → s ∉ F')
    (hl : ∀ s, 0 ≤ s → s < C.S → (x.has s ∨ s = topS (w 1)) → topS (w' (C.slot s + 1)) = topS (w (C.slot s + 1))) : x.fine C w' F' := by
  cases x with
  | tk p t =>
    obtain ⟨a, b, c, d⟩ := h
    refine ⟨a, b, c, d.imp id ?_⟩
    rintro ⟨e, f, g, i, j⟩
    rw [h1]
    refine ⟨e, f, g, i, fun q => ?_⟩
    obtain ⟨j1, j2⟩ := j q
    refine ⟨j1, fun r => ?_⟩
    rw [j2 r, hl t.slot f g (.inr j1)]
  | gv p t =>
    obtain ⟨a, b, c, d, e⟩ := h
    refine ⟨a, b, c, hF _ rfl d, e.imp id ?_⟩
    rintro ⟨f, g, h, i⟩
    rw [h1]
    exact ⟨f, g, h, fun q => by rw [hl t.slot b c (.inl rfl)]; exact i q⟩
/-- Those who were not picked, when the first slot's word is another one. -/
theorem Ps.fine.next {w w' : Int → Int} {F F' : List Int} {x : Ps} (h : x.fine C w F) (h1 : topN (w' 1) = topN (w 1) + 1) (hF : ∀ s, x.has s → s ∉ F → s ∉ F')
    (hl : ∀ s, 0 ≤ s → s < C.S → x.has s → topS (w' (C.slot s + 1)) = topS (w (C.slot s + 1))) : x.fine C w' F' := by
  cases x with
  | tk p t =>
    obtain ⟨a, b, c, d⟩ := h
    refine ⟨a, b, c, d.imp id ?_⟩
    rintro ⟨e, f, g, i, j⟩
    refine ⟨e, f, g, by omega, fun q => ?_⟩
    rw [q] at i; omega
  | gv p t =>
    obtain ⟨a, b, c, d, e⟩ := h
    refine ⟨a, b, c, hF _ rfl d, e.imp id ?_⟩
    rintro ⟨f, g, h, i⟩
    exact ⟨f, by omega, h, fun q => by rw [hl t.slot b c rfl]; exact i q⟩

theorem Sh.same {w : Int → Int} {P : Int → Ps} {F : List Int} {k : Int} (h : Sh C w P F k) {i : Int} {x : Ps} (hx : x.fine C w F) (hh : ∀ s, x.has s ↔ (P i).has s) (h0 : 0 ≤ i) (h3 : i < 3) : Sh C w (updP P i x) F k := by
  have e : ∀ j s, (updP P i x j).has s ↔ (P j).has s := by
    intro j s
    by_cases q : j = i
    · subst q; rw [updP_same]; exact hh s
    · rw [updP_ne q]
  refine ⟨h.fre, fun j j0 j3 => ?_, fun a b s a0 a3 b0 b3 ha hb => h.apart a b s a0 a3 b0 b3 ((e a s).1 ha) ((e b s).1 hb), fun s s0 s1 => (h.all s s0 s1).imp id fun ⟨j, j0, j3, hj⟩ => ⟨j, j0, j3, (e j s).2 hj⟩, h.num⟩
  by_cases q : j = i
  · subst q; rw [updP_same]; exact hx
  · rw [updP_ne q]; exact h.each j j0 j3

theorem topS_lt (hC : C.ok) {w : Int → Int} {F : List Int} (h : Fre C w F) : -1 ≤ topS (w 1) ∧ topS (w 1) < C.S := by
  have := h.c.first; have := hC.S; omega
theorem Sh.mono {w : Int → Int} {P : Int → Ps} {F : List Int} {k k' : Int} (h : Sh C w P F k) (hk : k ≤ k') : Sh C w P F k' := ⟨h.fre, h.each, h.apart, h.all, h.num.1, Int.le_trans h.num.2 hk⟩
section
variable {w : Int → Int} {P : Int → Ps} {F : List Int} {k i : Int} {p : Nat} {t : Tk} {g : Gv}

theorem Sh.tk_new (h : Sh C w P F k) (h0 : 0 ≤ i) (h3 : i < 3) (hP : P i = .tk p t) (q : Nat) : Sh C w (updP P i (.tk q Tk.new)) F k :=
  h.same ⟨⟨Int.le_refl 0, by decide⟩, by decide, rfl, .inl rfl⟩ (fun s => by rw [hP]; exact Iff.rfl) h0 h3
theorem Sh.tk_look (hC : C.ok) (h : Sh C w P F k) (h0 : 0 ≤ i) (h3 : i < 3) (hw : ∀ i, W64 (w i)) (hP : P i = .tk p t) (ht : ¬ topS (w 1) < 0) :
    Sh C w (updP P i (.tk p ⟨1, w 1, t.next, topS (w 1), t.ok⟩)) F k := by
  have hx := h.each i h0 h3
  rw [hP] at hx
  have := topS_lt hC h.fre
  refine h.same ⟨hw 1, hx.2.1, hx.2.2.1, .inr ⟨.inl rfl, by dsimp only; omega, this.2, Int.le_refl _, fun _ => ⟨rfl, fun h => by cases h⟩⟩⟩ (fun s => by rw [hP]; exact Iff.rfl) h0 h3
theorem Sh.tk_link (h : Sh C w P F k) (h0 : 0 ≤ i) (h3 : i < 3) (hw : ∀ i, W64 (w i)) (hP : P i = .tk p t) (hpc : t.pc = 1) :
    Sh C w (updP P i (.tk p ⟨2, t.top, topS (w (C.slot t.slot + 1)), t.slot, t.ok⟩)) F k := by
  have hx := h.each i h0 h3
  rw [hP] at hx
  obtain ⟨a, b, c, d⟩ := hx
  rcases d with d | ⟨_, e, f, g, j⟩
  · omega
  have := topS_ge _ (hw (C.slot t.slot + 1)).1
  refine h.same ⟨a, by dsimp only; omega, c, .inr ⟨.inr rfl, e, f, g, fun q => ⟨(j q).1, fun _ => rfl⟩⟩⟩ (fun s => by rw [hP]; exact Iff.rfl) h0 h3
theorem Sh.tk_fail (h : Sh C w P F k) (h0 : 0 ≤ i) (h3 : i < 3) (hP : P i = .tk p t) : Sh C w (updP P i (.tk p ⟨0, t.top, t.next, t.slot, false⟩)) F k := by
  have hx := h.each i h0 h3
  rw [hP] at hx
  exact h.same ⟨hx.1, hx.2.1, rfl, .inl rfl⟩ (fun s => by rw [hP]; exact Iff.rfl) h0 h3
theorem Sh.tk_take (hC : C.ok) (h : Sh C w P F k) (hk : k < 100000) (h0 : 0 ≤ i) (h3 : i < 3) (hP : P i = .tk p t) (hpc : t.pc = 2) (he : w 1 = t.top) (q : Nat) :
    ∃ F', F = t.slot :: F' ∧ upd w 1 (putTop t.next (topN t.top + 1)) = tookW C w ∧ Sh C (tookW C w) (updP P i (.gv q ⟨0, t.slot, 0⟩)) F' (k + 1) ∧ ∀ j, 0 ≤ j → j < 3 → ¬ (P j).has t.slot := by
  have hx := h.each i h0 h3
  rw [hP] at hx
  obtain ⟨a, b, c, d⟩ := hx
  rcases d with d | ⟨_, e, f, g, j⟩
  · omega
  obtain ⟨j1, j2⟩ := j he.symm
  have hF : ∃ F', F = t.slot :: F' := by
    cases F with
    | nil => have : topS (w 1) = -1 := h.fre.c; omega
    | cons x F' => exact ⟨F', by rw [j1, h.fre.c.1]⟩
  obtain ⟨F', rfl⟩ := hF
  have hs := h.fre.c.1
  have ew : upd w 1 (putTop t.next (topN t.top + 1)) = tookW C w := by
    unfold tookW; rw [j2 hpc, ← he, hs]
  have hno : ∀ j, 0 ≤ j → j < 3 → ¬ (P j).has t.slot := by
    intro j j0 j3 hj
    have := h.each j j0 j3
    cases hq : P j with
    | tk _ _ => rw [hq] at hj; exact hj
    | gv _ g => rw [hq] at hj this; exact this.2.2.2.1 (by rw [show g.slot = t.slot from hj]; simp)
  obtain ⟨fr', _⟩ := h.fre.took hC
  have hnum := h.num
  have hn := topN_took (C := C) h.num.1 (by omega)
  have hl : ∀ s, 0 ≤ s → topS (tookW C w (C.slot s + 1)) = topS (w (C.slot s + 1)) := by
    intro s s0
    unfold tookW; rw [upd_ne]
    have := hC.T; unfold Cf.slot; omega
  refine ⟨F', rfl, ew, ⟨fr', fun j j0 j3 => ?_, fun a b s a0 a3 b0 b3 ha hb => ?_, fun s s0 s1 => ?_, by omega, by omega⟩, hno⟩
  · by_cases q : j = i
    · subst q; rw [updP_same]
      exact ⟨⟨Int.le_refl 0, (by decide : (0 : Int) < 18446744073709551616)⟩, e, f, (List.nodup_cons.1 h.fre.nd).1, .inl rfl⟩
    · rw [updP_ne q]
      exact (h.each j j0 j3).next hn (fun s _ hs hm => hs (by simp [hm])) (fun s s0 _ _ => hl s s0)
  · by_cases qa : a = i <;> by_cases qb : b = i
    · omega
    · subst qa; rw [updP_same] at ha; rw [updP_ne qb] at hb
      have : t.slot = s := ha
      subst this; exact absurd hb (hno b b0 b3)
    · subst qb; rw [updP_same] at hb; rw [updP_ne qa] at ha
      have : t.slot = s := hb
      subst this; exact absurd ha (hno a a0 a3)
    · rw [updP_ne qa] at ha; rw [updP_ne qb] at hb; exact h.apart a b s a0 a3 b0 b3 ha hb
  · rcases h.all s s0 s1 with hm | ⟨j, j0, j3, hj⟩
    · rcases List.mem_cons.1 hm with rfl | hm
      · exact .inr ⟨i, h0, h3, by rw [updP_same]; rfl⟩
      · exact .inl hm
    · have : j ≠ i := by rintro rfl; rw [hP] at hj; exact hj
      exact .inr ⟨j, j0, j3, by rw [updP_ne this]; exact hj⟩
theorem Sh.gv_look (hC : C.ok) (h : Sh C w P F k) (h0 : 0 ≤ i) (h3 : i < 3) (hw : ∀ i, W64 (w i)) (hP : P i = .gv p g) : Sh C w (updP P i (.gv p ⟨1, g.slot, w 1⟩)) F k := by
  have hx := h.each i h0 h3
  rw [hP] at hx
  have := topS_lt hC h.fre
  exact h.same ⟨hw 1, hx.2.1, hx.2.2.1, hx.2.2.2.1, .inr ⟨.inl rfl, Int.le_refl _, this.2, fun h => by cases h⟩⟩ (fun s => by rw [hP]; exact Iff.rfl) h0 h3
theorem Sh.gv_fail (h : Sh C w P F k) (h0 : 0 ≤ i) (h3 : i < 3) (hP : P i = .gv p g) : Sh C w (updP P i (.gv p ⟨0, g.slot, g.top⟩)) F k := by
  have hx := h.each i h0 h3
  rw [hP] at hx
  exact h.same ⟨hx.1, hx.2.1, hx.2.2.1, hx.2.2.2.1, .inl rfl⟩ (fun s => by rw [hP]; exact Iff.rfl) h0 h3
theorem Sh.gv_link (hC : C.ok) (h : Sh C w P F k) (h0 : 0 ≤ i) (h3 : i < 3) (hP : P i = .gv p g) (hpc : g.pc = 1) :
    Sh C (upd w (C.slot g.slot + 1) (putTop (topS g.top) 0)) (updP P i (.gv p ⟨2, g.slot, g.top⟩)) F k := by
  have hx := h.each i h0 h3
  rw [hP] at hx
  obtain ⟨a, b, c, d, e⟩ := hx
  rcases e with e | ⟨_, f, g1, _⟩
  · omega
  have hT := hC.T
  have hS := hC.S
  have e1 : upd w (C.slot g.slot + 1) (putTop (topS g.top) 0) 1 = w 1 := upd_ne _ _ (by unfold Cf.slot; omega)
  have hl : ∀ s, s ≠ g.slot → topS (upd w (C.slot g.slot + 1) (putTop (topS g.top) 0) (C.slot s + 1)) = topS (w (C.slot s + 1)) := by
    intro s hs
    rw [upd_ne]
    intro q; exact hs (slot_inj C q)
  have ht := topS_ge _ a.1
  refine ⟨⟨?_, h.fre.nd⟩, fun j j0 j3 => ?_, fun a b s a0 a3 b0 b3 ha hb => ?_, fun s s0 s1 => ?_, by rw [e1]; exact h.num⟩
  · rw [e1]
    exact h.fre.c.congr fun s hs => hl s (by rintro rfl; exact d hs)
  · by_cases q : j = i
    · subst q; rw [updP_same]
      refine ⟨a, b, c, d, .inr ⟨.inr rfl, by rw [e1]; exact f, g1, fun _ => ?_⟩⟩
      dsimp only
      rw [upd_same, topS_put (by omega) (by omega)]
    · rw [updP_ne q]
      refine (h.each j j0 j3).keep e1 (fun s _ hs => hs) fun s s0 s1 hs => hl s ?_
      rcases hs with hs | hs
      · rintro rfl
        exact q (h.apart j i g.slot j0 j3 h0 h3 hs (by rw [hP]; rfl))
      · rintro rfl
        cases F with
        | nil => have : topS (w 1) = -1 := h.fre.c; omega
        | cons x F => exact d (by rw [hs, h.fre.c.1]; simp)
  · have key : ∀ j s, (updP P i (.gv p ⟨2, g.slot, g.top⟩) j).has s ↔ (P j).has s := by
      intro j s
      by_cases q : j = i
      · subst q; rw [updP_same, hP]; exact Iff.rfl
      · rw [updP_ne q]
    exact h.apart a b s a0 a3 b0 b3 ((key a s).1 ha) ((key b s).1 hb)
  · refine (h.all s s0 s1).imp id fun ⟨j, j0, j3, hj⟩ => ⟨j, j0, j3, ?_⟩
    by_cases q : j = i
    · subst q; rw [updP_same]; rw [hP] at hj; exact hj
    · rw [updP_ne q]; exact hj
theorem Sh.gv_give (hC : C.ok) (h : Sh C w P F k) (hk : k < 100000) (h0 : 0 ≤ i) (h3 : i < 3) (hP : P i = .gv p g) (hpc : g.pc = 2) (he : w 1 = g.top) (q : Nat) :
    Sh C (upd w 1 (putTop g.slot (topN g.top + 1))) (updP P i (.tk q Tk.new)) (g.slot :: F) (k + 1) := by
  have hx := h.each i h0 h3
  rw [hP] at hx
  obtain ⟨a, b, c, d, e⟩ := hx
  rcases e with e | ⟨_, f, g1, g2⟩
  · omega
  have hT := hC.T
  have hS := hC.S
  have hnum := h.num
  have e1 : upd w 1 (putTop g.slot (topN g.top + 1)) 1 = putTop g.slot (topN (w 1) + 1) := by rw [upd_same, he]
  have hl : ∀ s, 0 ≤ s → topS (upd w 1 (putTop g.slot (topN g.top + 1)) (C.slot s + 1)) = topS (w (C.slot s + 1)) := by
    intro s s0
    rw [upd_ne]; unfold Cf.slot; omega
  have hn : topN (upd w 1 (putTop g.slot (topN g.top + 1)) 1) = topN (w 1) + 1 := by rw [e1, topN_put (by omega) (by omega)]
  refine ⟨⟨⟨by rw [e1, topS_put (by omega) (by omega)], b, c, ?_⟩, List.nodup_cons.2 ⟨d, h.fre.nd⟩⟩, fun j j0 j3 => ?_, fun x y s a0 a3 b0 b3 ha hb => ?_, fun s s0 s1 => ?_, by omega, by omega⟩
  · have hc := h.fre.c
    have hm := hc.mem
    rw [he] at hc
    rw [hl _ b, g2 hpc]
    exact hc.congr fun s hs => hl s (hm s hs).1
  · by_cases r : j = i
    · subst r; rw [updP_same]; exact ⟨⟨Int.le_refl 0, by decide⟩, by decide, rfl, .inl rfl⟩
    · rw [updP_ne r]
      refine (h.each j j0 j3).next hn (fun s hs hm hm' => ?_) (fun s s0 _ _ => hl s s0)
      rcases List.mem_cons.1 hm' with rfl | hm'
      · exact r (h.apart j i _ j0 j3 h0 h3 hs (by rw [hP]; rfl))
      · exact hm hm'
  · have ra : x ≠ i := by rintro rfl; rw [updP_same] at ha; exact ha
    have rb : y ≠ i := by rintro rfl; rw [updP_same] at hb; exact hb
    rw [updP_ne ra] at ha; rw [updP_ne rb] at hb
    exact h.apart x y s a0 a3 b0 b3 ha hb
  · rcases h.all s s0 s1 with hm | ⟨j, j0, j3, hj⟩
    · exact .inl (by simp [hm])
    · by_cases r : j = i
      · subst r; rw [hP] at hj
        exact .inl (by rw [← show g.slot = s from hj]; simp)
      · exact .inr ⟨j, j0, j3, by rw [updP_ne r]; exact hj⟩
end

/-! ### The law's row of three -/

def Ps.cells : Ps → List Value
  | .tk p _ => [.pointer (some ⟨p, 0, none⟩), .pointer none, .int .i64 (-1)]
  | .gv p g => [.pointer none, .pointer (some ⟨p, 0, none⟩), .int .i64 g.slot]
theorem Ps.cells_len (x : Ps) : x.cells.length = 3 := by cases x <;> rfl
def c9 (P : Int → Ps) : List Value := (P 0).cells ++ (P 1).cells ++ (P 2).cells
def Ps.l : Ps → List Value
  | .tk _ t => t.l
  | .gv _ g => g.l

theorem c9_len (P : Int → Ps) : (c9 P).length = 9 := by simp [c9, Ps.cells_len]
theorem c9_sub {P : Int → Ps} {i : Int} (h0 : 0 ≤ i) (h3 : i < 3) : sub (c9 P) (i.toNat * 3) 3 true = some (.agg (P i).cells.toArray) := by
  have l0 := (P 0).cells_len
  have l1 := (P 1).cells_len
  have l2 := (P 2).cells_len
  rcases (show i = 0 ∨ i = 1 ∨ i = 2 by omega) with rfl | rfl | rfl
  · have := sub_app (pre := []) (L := (P 0).cells) (post := (P 1).cells ++ (P 2).cells) (k := 0) (sz := 3) (ag := true) (by decide) (by omega)
    rw [List.nil_append, ← List.append_assoc] at this
    refine Eq.trans this ?_
    rw [sub_l, if_pos (by omega), List.drop_zero, List.take_of_length_le (by omega)]
  · have := sub_app (pre := (P 0).cells) (L := (P 1).cells) (post := (P 2).cells) (k := 0) (sz := 3) (ag := true) (by decide) (by omega)
    rw [l0] at this
    refine Eq.trans this ?_
    rw [sub_l, if_pos (by omega), List.drop_zero, List.take_of_length_le (by omega)]
  · have := sub_app (pre := (P 0).cells ++ (P 1).cells) (L := (P 2).cells) (post := []) (k := 0) (sz := 3) (ag := true) (by decide) (by omega)
    rw [List.append_nil, List.length_append, l0, l1] at this
    refine Eq.trans this ?_
    rw [sub_l, if_pos (by omega), List.drop_zero, List.take_of_length_le (by omega)]
theorem c9_sub1 {P : Int → Ps} {i : Int} (h0 : 0 ≤ i) (h3 : i < 3) {j : Nat} (hj : j < 3) : sub (c9 P) (i.toNat * 3 + j) 1 false = sub (P i).cells j 1 false := by
  have l0 := (P 0).cells_len
  have l1 := (P 1).cells_len
  have l2 := (P 2).cells_len
  rcases (show i = 0 ∨ i = 1 ∨ i = 2 by omega) with rfl | rfl | rfl
  · have := sub_app (pre := []) (L := (P 0).cells) (post := (P 1).cells ++ (P 2).cells) (k := j) (sz := 1) (ag := false) (by decide) (by omega)
    rw [List.nil_append, ← List.append_assoc] at this
    exact this
  · have := sub_app (pre := (P 0).cells) (L := (P 1).cells) (post := (P 2).cells) (k := j) (sz := 1) (ag := false) (by decide) (by omega)
    rw [l0] at this; exact this
  · have := sub_app (pre := (P 0).cells ++ (P 1).cells) (L := (P 2).cells) (post := []) (k := j) (sz := 1) (ag := false) (by decide) (by omega)
    rw [List.append_nil, List.length_append, l0, l1] at this; exact this
theorem c9_lay {P : Int → Ps} {i : Int} {x : Ps} (h0 : 0 ≤ i) (h3 : i < 3) : lay (c9 P) (i.toNat * 3) x.cells = c9 (updP P i x) := by
  have l0 := (P 0).cells_len
  have l1 := (P 1).cells_len
  have l2 := (P 2).cells_len
  have lx := x.cells_len
  have whole : ∀ L : List Value, L.length = 3 → lay L 0 x.cells = x.cells := by
    intro L hL
    rw [lay_z, List.drop_of_length_le (by omega), List.append_nil]
  rcases (show i = 0 ∨ i = 1 ∨ i = 2 by omega) with rfl | rfl | rfl
  · have := lay_app (pre := []) (L := (P 0).cells) (post := (P 1).cells ++ (P 2).cells) (k := 0) (vs := x.cells) (by omega)
    rw [List.nil_append, ← List.append_assoc, whole _ l0] at this
    refine Eq.trans this ?_
    simp [c9, updP]
  · have := lay_app (pre := (P 0).cells) (L := (P 1).cells) (post := (P 2).cells) (k := 0) (vs := x.cells) (by omega)
    rw [l0, whole _ l1] at this
    refine Eq.trans this ?_
    simp [c9, updP]
  · have := lay_app (pre := (P 0).cells ++ (P 1).cells) (L := (P 2).cells) (post := []) (k := 0) (vs := x.cells) (by omega)
    rw [List.append_nil, List.length_append, l0, l1, whole _ l2, List.append_nil] at this
    refine Eq.trans this ?_
    simp [c9, updP]
theorem tmod3 (a : Int) : -3 < a.tmod 3 ∧ a.tmod 3 < 3 := by
  rcases Int.le_total 0 a with h | h
  · rw [Int.tmod_eq_emod_of_nonneg h]; omega
  · obtain ⟨b, rfl⟩ : ∃ b, a = -b := ⟨-a, by omega⟩
    rw [Int.neg_tmod, Int.tmod_eq_emod_of_nonneg (by omega)]; omega
theorem pick3 (a : Int) : IntKind.i64.wrap (a.tmod 3 + 3) = a.tmod 3 + 3 ∧ 0 ≤ (a.tmod 3 + 3).tmod 3 ∧ (a.tmod 3 + 3).tmod 3 < 3 := by
  have := tmod3 a
  refine ⟨IntWalk.i64_in _ (by omega), ?_⟩
  rw [Int.tmod_eq_emod_of_nonneg (by omega)]; omega

structure Hp (N : Nm) (C : Cf) (σ0 : Mem) (i : Int) (P : Int → Ps) (A : Ar) (F : List Int) (τ : Mem) : Prop where
  i0 : 0 ≤ i
  isA : isA N A τ
  n : C.len ≤ A.n
  ok : A.ok (1000 + i)
  ext : Ext σ0 τ
  sh : Sh C A.w P F i
  obj : ∀ j, 0 ≤ j → j < 3 → τ.get (P j).p = some ⟨(P j).l, true⟩ ∧ (P j).p ∉ N.l ∧ σ0.get (P j).p = none
  dif : ∀ a b, 0 ≤ a → a < 3 → 0 ≤ b → b < 3 → (P a).p = (P b).p → a = b
theorem Hp.step {σ0 : Mem} {i k : Int} {P : Int → Ps} {F F' : List Int} {A' : Ar} {τ τ' : Mem} {x : Ps} (h : Hp N C σ0 i P A F τ) (k0 : 0 ≤ k) (k3 : k < 3) (hf : N.fr σ0) (hA : Fl.isA N A' τ') (hn : A'.n = A.n) (ok : A'.ok (1000 + i + 1))
    (hS : Sh C A'.w (updP P k x) F' (i + 1)) (hx : τ'.get x.p = some ⟨x.l, true⟩) (hxd : x.p ∉ N.l) (hx0 : σ0.get x.p = none) (hK : Keep ((P k).p :: N.l) τ τ') (hne : ∀ j, 0 ≤ j → j < 3 → j ≠ k → x.p ≠ (P j).p) :
    Hp N C σ0 (i + 1) (updP P k x) A' F' τ' := by
  have hall : ∀ j ∈ (P k).p :: N.l, σ0.get j = none := by
    intro j hj
    rcases List.mem_cons.1 hj with rfl | hj
    · exact (h.obj k k0 k3).2.2
    · exact hf.all j hj
  refine ⟨by have := h.i0; omega, hA, by rw [hn]; exact h.n, by rw [show 1000 + (i + 1) = 1000 + i + 1 by omega]; exact ok, h.ext.keep' hK hall, hS, fun j j0 j3 => ?_, fun a b a0 a3 b0 b3 e => ?_⟩
  · by_cases q : j = k
    · subst q; rw [updP_same]; exact ⟨hx, hxd, hx0⟩
    · rw [updP_ne q]
      obtain ⟨o1, o2, o3⟩ := h.obj j j0 j3
      refine ⟨hK.get o1 ?_, o2, o3⟩
      simp only [List.mem_cons, not_or]
      exact ⟨fun e => q (h.dif j k j0 j3 k0 k3 e), o2⟩
  · by_cases qa : a = k <;> by_cases qb : b = k
    · omega
    · subst qa; rw [updP_same, updP_ne qb] at e; exact absurd e (hne b b0 b3 qb)
    · subst qb; rw [updP_same, updP_ne qa] at e; exact absurd e.symm (hne a a0 a3 qa)
    · rw [updP_ne qa, updP_ne qb] at e; exact h.dif a b a0 a3 b0 b3 e

section
variable {σ0 : Mem} {i k : Int} {P : Int → Ps} {F : List Int} {τ : Mem} {J3 R1 : List Value → List (List Value) → Mem → Prop} {s : Value} {n : Int}
theorem j6_run {x : Ps} {c12 : List Value} (hc : c12 = x.cells) (i0 : 0 ≤ i) (i1 : i < 1000) (k0 : 0 ≤ k) (k3 : k < 3) (hR : R1 [s, .int .i64 n, .int .i64 (i + 1)] [N.el C 0, c9 (updP P k x)] τ) :
    w_law06_SlotShares_j6 K J3 R1 (w_law06_SlotShares_j4 K J3 R1) [s, .int .i64 n, .int .i64 i, .int .i64 k] [N.el C 0, c9 P, c12] τ := by
  subst hc
  have e1 : sub x.cells 0 3 true = some (.agg x.cells.toArray) := by rw [sub_l, x.cells_len, List.drop_zero, List.take_of_length_le (by rw [x.cells_len]; exact Nat.le_refl 3)]; rfl
  have e2 : gStore 3 [.pointer (some ⟨8, k.toNat * 3, some 0⟩), .agg x.cells.toArray] (c9 P) = some (lay (c9 P) (k.toNat * 3) x.cells) :=
    gStore_a x.cells_len (by rw [c9_len]; omega) (by cases x <;> rfl)
  simp only [w_law06_SlotShares_j6, w_law06_SlotShares_j6b, w_law06_SlotShares_j4, w_law06_SlotShares_j4b, xMove, List.getD_cons_zero, List.getD_cons_succ, locP_e, gLoad_s, e1, xOs, xIxA k0 k3, Nat.zero_add, e2, xCs, c9_lay k0 k3, xAdd]
  rw [IntWalk.i64_in (i + 1) (by omega)]
  exact hR
theorem j5_run (hN : N.ok) (hC : C.ok) (hf : N.fr σ0) (h : Hp N C σ0 i P A F τ) (i1 : i < 1000) (k0 : 0 ≤ k) (k3 : k < 3)
    (hR : ∀ P' A' F' τ', Hp N C σ0 (i + 1) P' A' F' τ' → R1 [s, .int .i64 n, .int .i64 (i + 1)] [N.el C 0, c9 P'] τ') :
    w_law06_SlotShares_j5 K J3 R1 (w_law06_SlotShares_j4 K J3 R1) [s, .int .i64 n, .int .i64 i, .int .i64 k] [N.el C 0, c9 P] τ := by
  obtain ⟨o1, o2, o3⟩ := h.obj k k0 k3
  have hx := h.sh.each k k0 k3
  have b0 : ∀ K : Value → Prop, xF (fBuild [(0, 1), (1, 1), (2, 1), (3, 1), (4, 1)] [.int .i64 0, .int .u64 0, .int .i64 0, .int .i64 0, .bool false] []) [] K = K (.agg #[.int .i64 0, .int .u64 0, .int .i64 0, .int .i64 0, .bool false]) := fun K => nr rfl
  simp only [w_law06_SlotShares_j5, w_law06_SlotShares_j5b, xMove, List.getD_cons_zero, List.getD_cons_succ, locP_e, xIxA k0 k3, Nat.zero_add, gLoad_s, c9_sub k0 k3, xOs]
  cases hP : P k with
  | tk p t =>
    rw [hP] at o1 o2 o3 hx
    simp only [Ps.cells, b0, xMove, xPickT, xPickF, xNil, xFld, xExt0, xExt1, xExt30, xExt31, xExt32, xAdd, xSub, xMul, xEql, xNeq, xLss, xLeq, xGtr, xGeq, xEqPN, xEqNN, xNePN, xNeNN, xEqBB, xNeBB, xNot, xConv, xLen, xMin, xMax, xIfc, xIfT, xIfF, xIfD, xJoinE, xOs, xCs, xFldV, List.getD_cons_zero, List.getD_cons_succ, Nat.zero_add, Nat.reduceAdd, Mem.get_set_same, Mem.set_set, if_true, if_false, Bool.not_true, Bool.not_false, decide_true, decide_false, decide_eq_true_eq, decide_not, Bool.not_eq_true, Bool.false_eq_true, reduceIte, Int.reduceLT, Int.reduceLE, Int.reduceEq, Int.reduceNeg, Int.reduceAdd, Int.reduceSub, locP_e, gBox_a, gBox_i, gBox_b, gBox_p, gLoad_s, gAlloc_s, gStore_a, gStore_i, gStore_b, gStore_p, sub_z, sub_s, lay_z, lay_s, List.length_cons, List.length_nil, Nat.reduceLeDiff, Nat.le_refl, List.drop_zero, List.drop_succ_cons, List.take_succ_cons, List.take_zero, List.drop_nil, List.cons_append, List.nil_append, List.all_cons, List.all_nil, oneB_i, oneB_b, oneB_p, oneB_sl, Bool.and_true, Nat.reduceLT, Nat.lt_irrefl, Nat.zero_lt_one, gBoxE, gBoxC, subE, subEC, subE0, subE1, subE2, subE3, subE4, subE6, subE7, subE8, subC, subC0, subC1, subC2, subC3, subC4, subC5, subC6]
    obtain ⟨a, b, c, d⟩ := hx
    have hw : ∀ i, W64 (A.w i) := h.ok.w
    have dif : ∀ j, 0 ≤ j → j < 3 → j ≠ k → p ≠ (P j).p := fun j j0 j3 q e => q ((h.dif k j k0 k3 j0 j3 (by rw [hP]; exact e)).symm)
    have dif' : ∀ {q : Nat} {υ : Mem}, Ext τ υ → υ.get q = none → ∀ j, 0 ≤ j → j < 3 → j ≠ k → q ≠ (P j).p := by
      rintro q υ hx hq j j0 j3 _ rfl
      rw [hx _ _ (h.obj j j0 j3).1] at hq; cases hq
    refine c_Take_Step hN hC h.isA (t := t) (pre := []) (post := []) (by simpa [Ps.l, Ps.p] using o1) o2 h.ok.w h.n a (fun q => by rcases d with d | d; omega; exact ⟨d.2.1, d.2.2.1⟩) b fun τ' hA' g' k' => ?_
    have ext' := h.ext.keep' k' (by intro j hj; rcases List.mem_cons.1 hj with rfl | hj; exact o3; exact hf.all j hj)
    rcases d with d | ⟨d | d, d1, d2, d3, d4⟩
    · have e : t.step C 0 A = (decide (topS (A.w 1) < 0), ⟨1, A.w 1, t.next, topS (A.w 1), t.ok⟩, (A.by 0).load 1) := by unfold Tk.step; rw [if_pos d]
      rw [e] at hA' g' ⊢
      have a1 := aft_load (who := 0) (a := 1) h.ok (by omega)
      have ok1 := a1.ok (by decide) h.ok h.ok.w
      by_cases ht : topS (A.w 1) < 0
      · simp only [ht, xMove, xPickT, xPickF, xNil, xFld, xExt0, xExt1, xExt30, xExt31, xExt32, xAdd, xSub, xMul, xEql, xNeq, xLss, xLeq, xGtr, xGeq, xEqPN, xEqNN, xNePN, xNeNN, xEqBB, xNeBB, xNot, xConv, xLen, xMin, xMax, xIfc, xIfT, xIfF, xIfD, xJoinE, xOs, xCs, xFldV, List.getD_cons_zero, List.getD_cons_succ, Nat.zero_add, Nat.reduceAdd, Mem.get_set_same, Mem.set_set, if_true, if_false, Bool.not_true, Bool.not_false, decide_true, decide_false, decide_eq_true_eq, decide_not, Bool.not_eq_true, Bool.false_eq_true, reduceIte, Int.reduceLT, Int.reduceLE, Int.reduceEq, Int.reduceNeg, Int.reduceAdd, Int.reduceSub, locP_e, gBox_a, gBox_i, gBox_b, gBox_p, gLoad_s, gAlloc_s, gStore_a, gStore_i, gStore_b, gStore_p, sub_z, sub_s, lay_z, lay_s, List.length_cons, List.length_nil, Nat.reduceLeDiff, Nat.le_refl, List.drop_zero, List.drop_succ_cons, List.take_succ_cons, List.take_zero, List.drop_nil, List.cons_append, List.nil_append, List.all_cons, List.all_nil, oneB_i, oneB_b, oneB_p, oneB_sl, Bool.and_true, Nat.reduceLT, Nat.lt_irrefl, Nat.zero_lt_one, gBoxE, gBoxC, subE, subEC, subE0, subE1, subE2, subE3, subE4, subE6, subE7, subE8, subC, subC0, subC1, subC2, subC3, subC4, subC5, subC6]
        refine c_Take_Slot hA' (pre := []) (post := []) g' o2 ?_
        simp only [c, xMove, xPickT, xPickF, xNil, xFld, xExt0, xExt1, xExt30, xExt31, xExt32, xAdd, xSub, xMul, xEql, xNeq, xLss, xLeq, xGtr, xGeq, xEqPN, xEqNN, xNePN, xNeNN, xEqBB, xNeBB, xNot, xConv, xLen, xMin, xMax, xIfc, xIfT, xIfF, xIfD, xJoinE, xOs, xCs, xFldV, List.getD_cons_zero, List.getD_cons_succ, Nat.zero_add, Nat.reduceAdd, Mem.get_set_same, Mem.set_set, if_true, if_false, Bool.not_true, Bool.not_false, decide_true, decide_false, decide_eq_true_eq, decide_not, Bool.not_eq_true, Bool.false_eq_true, reduceIte, Int.reduceLT, Int.reduceLE, Int.reduceEq, Int.reduceNeg, Int.reduceAdd, Int.reduceSub, locP_e, gBox_a, gBox_i, gBox_b, gBox_p, gLoad_s, gAlloc_s, gStore_a, gStore_i, gStore_b, gStore_p, sub_z, sub_s, lay_z, lay_s, List.length_cons, List.length_nil, Nat.reduceLeDiff, Nat.le_refl, List.drop_zero, List.drop_succ_cons, List.take_succ_cons, List.take_zero, List.drop_nil, List.cons_append, List.nil_append, List.all_cons, List.all_nil, oneB_i, oneB_b, oneB_p, oneB_sl, Bool.and_true, Nat.reduceLT, Nat.lt_irrefl, Nat.zero_lt_one, gBoxE, gBoxC, subE, subEC, subE0, subE1, subE2, subE3, subE4, subE6, subE7, subE8, subC, subC0, subC1, subC2, subC3, subC4, subC5, subC6]
        refine hBox_i (cs := [_, _, _, _, _]) rfl fun q υ hq gq xq => ?_
        refine j6_run (x := .tk q Tk.new) rfl h.i0 i1 k0 k3 (hR _ _ F _ (h.step k0 k3 hf (hA'.ext xq) rfl ok1 ((h.sh.tk_new k0 k3 hP q).mono (by omega)) gq (hA'.new hq) (ext'.none hq) ?_ ?_))
        · rw [hP]; exact fun i b hi hn => xq i b (k' i b hi hn)
        · intro j j0 j3 q' e'
          obtain ⟨p1, p2, p3⟩ := h.obj j j0 j3
          have := k'.get p1 (by simp only [List.mem_cons, not_or]; exact ⟨fun e => dif j j0 j3 q' e.symm, p2⟩)
          rw [← e'] at this
          rw [show (Ps.tk q Tk.new).p = q from rfl, hq] at this; cases this
      · simp only [ht, xMove, xPickT, xPickF, xNil, xFld, xExt0, xExt1, xExt30, xExt31, xExt32, xAdd, xSub, xMul, xEql, xNeq, xLss, xLeq, xGtr, xGeq, xEqPN, xEqNN, xNePN, xNeNN, xEqBB, xNeBB, xNot, xConv, xLen, xMin, xMax, xIfc, xIfT, xIfF, xIfD, xJoinE, xOs, xCs, xFldV, List.getD_cons_zero, List.getD_cons_succ, Nat.zero_add, Nat.reduceAdd, Mem.get_set_same, Mem.set_set, if_true, if_false, Bool.not_true, Bool.not_false, decide_true, decide_false, decide_eq_true_eq, decide_not, Bool.not_eq_true, Bool.false_eq_true, reduceIte, Int.reduceLT, Int.reduceLE, Int.reduceEq, Int.reduceNeg, Int.reduceAdd, Int.reduceSub, locP_e, gBox_a, gBox_i, gBox_b, gBox_p, gLoad_s, gAlloc_s, gStore_a, gStore_i, gStore_b, gStore_p, sub_z, sub_s, lay_z, lay_s, List.length_cons, List.length_nil, Nat.reduceLeDiff, Nat.le_refl, List.drop_zero, List.drop_succ_cons, List.take_succ_cons, List.take_zero, List.drop_nil, List.cons_append, List.nil_append, List.all_cons, List.all_nil, oneB_i, oneB_b, oneB_p, oneB_sl, Bool.and_true, Nat.reduceLT, Nat.lt_irrefl, Nat.zero_lt_one, gBoxE, gBoxC, subE, subEC, subE0, subE1, subE2, subE3, subE4, subE6, subE7, subE8, subC, subC0, subC1, subC2, subC3, subC4, subC5, subC6]
        exact j6_run (x := .tk p ⟨1, A.w 1, t.next, topS (A.w 1), t.ok⟩) rfl h.i0 i1 k0 k3 (hR _ _ F _ (h.step k0 k3 hf hA' rfl ok1 ((h.sh.tk_look hC k0 k3 hw hP ht).mono (by omega)) (by simpa [Ps.l, Ps.p] using g') o2 o3 (by rw [hP]; exact k') dif))
    · have e : t.step C 0 A = (t.ok, ⟨2, t.top, topS (A.w (C.slot t.slot + 1)), t.slot, t.ok⟩, (A.by 0).load (C.slot t.slot + 1)) := by unfold Tk.step; rw [if_neg (by omega), if_pos d]
      rw [e] at hA' g' ⊢
      have a1 := aft_load (who := 0) (a := C.slot t.slot + 1) h.ok (by omega)
      have ok1 := a1.ok (by decide) h.ok h.ok.w
      simp only [c, xMove, xPickT, xPickF, xNil, xFld, xExt0, xExt1, xExt30, xExt31, xExt32, xAdd, xSub, xMul, xEql, xNeq, xLss, xLeq, xGtr, xGeq, xEqPN, xEqNN, xNePN, xNeNN, xEqBB, xNeBB, xNot, xConv, xLen, xMin, xMax, xIfc, xIfT, xIfF, xIfD, xJoinE, xOs, xCs, xFldV, List.getD_cons_zero, List.getD_cons_succ, Nat.zero_add, Nat.reduceAdd, Mem.get_set_same, Mem.set_set, if_true, if_false, Bool.not_true, Bool.not_false, decide_true, decide_false, decide_eq_true_eq, decide_not, Bool.not_eq_true, Bool.false_eq_true, reduceIte, Int.reduceLT, Int.reduceLE, Int.reduceEq, Int.reduceNeg, Int.reduceAdd, Int.reduceSub, locP_e, gBox_a, gBox_i, gBox_b, gBox_p, gLoad_s, gAlloc_s, gStore_a, gStore_i, gStore_b, gStore_p, sub_z, sub_s, lay_z, lay_s, List.length_cons, List.length_nil, Nat.reduceLeDiff, Nat.le_refl, List.drop_zero, List.drop_succ_cons, List.take_succ_cons, List.take_zero, List.drop_nil, List.cons_append, List.nil_append, List.all_cons, List.all_nil, oneB_i, oneB_b, oneB_p, oneB_sl, Bool.and_true, Nat.reduceLT, Nat.lt_irrefl, Nat.zero_lt_one, gBoxE, gBoxC, subE, subEC, subE0, subE1, subE2, subE3, subE4, subE6, subE7, subE8, subC, subC0, subC1, subC2, subC3, subC4, subC5, subC6]
      exact j6_run (x := .tk p ⟨2, t.top, topS (A.w (C.slot t.slot + 1)), t.slot, t.ok⟩) rfl h.i0 i1 k0 k3 (hR _ _ F _ (h.step k0 k3 hf hA' rfl ok1 ((h.sh.tk_link k0 k3 hw hP d).mono (by omega)) (by simpa [Ps.l, Ps.p] using g') o2 o3 (by rw [hP]; exact k') dif))
    · have e : t.step C 0 A = (decide (A.w 1 = t.top), ⟨0, t.top, t.next, t.slot, decide (A.w 1 = t.top)⟩, (A.by 0).cas 1 t.top (putTop t.next (topN t.top + 1))) := by unfold Tk.step; rw [if_neg (by omega), if_neg (by omega)]
      rw [e] at hA' g' ⊢
      by_cases ht : A.w 1 = t.top
      · have a1 := aft_cas (who := 0) (a := 1) (o := t.top) (v := putTop t.next (topN t.top + 1)) h.ok (by omega)
        obtain ⟨F', _, ew, _, hno⟩ := h.sh.tk_take hC (by omega) k0 k3 hP d ht 0
        rw [if_pos ht, ew] at a1
        have ok1 := a1.ok (by decide) h.ok (took_ok h.ok.w)
        simp only [ht, xMove, xPickT, xPickF, xNil, xFld, xExt0, xExt1, xExt30, xExt31, xExt32, xAdd, xSub, xMul, xEql, xNeq, xLss, xLeq, xGtr, xGeq, xEqPN, xEqNN, xNePN, xNeNN, xEqBB, xNeBB, xNot, xConv, xLen, xMin, xMax, xIfc, xIfT, xIfF, xIfD, xJoinE, xOs, xCs, xFldV, List.getD_cons_zero, List.getD_cons_succ, Nat.zero_add, Nat.reduceAdd, Mem.get_set_same, Mem.set_set, if_true, if_false, Bool.not_true, Bool.not_false, decide_true, decide_false, decide_eq_true_eq, decide_not, Bool.not_eq_true, Bool.false_eq_true, reduceIte, Int.reduceLT, Int.reduceLE, Int.reduceEq, Int.reduceNeg, Int.reduceAdd, Int.reduceSub, locP_e, gBox_a, gBox_i, gBox_b, gBox_p, gLoad_s, gAlloc_s, gStore_a, gStore_i, gStore_b, gStore_p, sub_z, sub_s, lay_z, lay_s, List.length_cons, List.length_nil, Nat.reduceLeDiff, Nat.le_refl, List.drop_zero, List.drop_succ_cons, List.take_succ_cons, List.take_zero, List.drop_nil, List.cons_append, List.nil_append, List.all_cons, List.all_nil, oneB_i, oneB_b, oneB_p, oneB_sl, Bool.and_true, Nat.reduceLT, Nat.lt_irrefl, Nat.zero_lt_one, gBoxE, gBoxC, subE, subEC, subE0, subE1, subE2, subE3, subE4, subE6, subE7, subE8, subC, subC0, subC1, subC2, subC3, subC4, subC5, subC6] at g' hA' ⊢
        refine c_Take_Slot hA' (pre := []) (post := []) g' o2 ?_
        simp only [xMove, xPickT, xPickF, xNil, xFld, xExt0, xExt1, xExt30, xExt31, xExt32, xAdd, xSub, xMul, xEql, xNeq, xLss, xLeq, xGtr, xGeq, xEqPN, xEqNN, xNePN, xNeNN, xEqBB, xNeBB, xNot, xConv, xLen, xMin, xMax, xIfc, xIfT, xIfF, xIfD, xJoinE, xOs, xCs, xFldV, List.getD_cons_zero, List.getD_cons_succ, Nat.zero_add, Nat.reduceAdd, Mem.get_set_same, Mem.set_set, if_true, if_false, Bool.not_true, Bool.not_false, decide_true, decide_false, decide_eq_true_eq, decide_not, Bool.not_eq_true, Bool.false_eq_true, reduceIte, Int.reduceLT, Int.reduceLE, Int.reduceEq, Int.reduceNeg, Int.reduceAdd, Int.reduceSub, locP_e, gBox_a, gBox_i, gBox_b, gBox_p, gLoad_s, gAlloc_s, gStore_a, gStore_i, gStore_b, gStore_p, sub_z, sub_s, lay_z, lay_s, List.length_cons, List.length_nil, Nat.reduceLeDiff, Nat.le_refl, List.drop_zero, List.drop_succ_cons, List.take_succ_cons, List.take_zero, List.drop_nil, List.cons_append, List.nil_append, List.all_cons, List.all_nil, oneB_i, oneB_b, oneB_p, oneB_sl, Bool.and_true, Nat.reduceLT, Nat.lt_irrefl, Nat.zero_lt_one, gBoxE, gBoxC, subE, subEC, subE0, subE1, subE2, subE3, subE4, subE6, subE7, subE8, subC, subC0, subC1, subC2, subC3, subC4, subC5, subC6]
        refine xLoop_i (fun j => [s, .int .i64 n, .int .i64 i, .int .i64 k, .int .i64 t.slot, .int .i64 j]) [N.el C 0, c9 P, [.pointer (some ⟨p, 0, none⟩), .pointer none, .int .i64 (-1)]] 3 (fun j υ => 0 ≤ j ∧ j ≤ 3 ∧ υ = τ') ?_ ⟨by omega, by omega, rfl⟩
        rintro j υ ⟨j0, j3, rfl⟩ R hR'
        simp only [w_law06_SlotShares_l27, w_law06_SlotShares_l27b, xMove, xPickT, xPickF, xNil, xFld, xExt0, xExt1, xExt30, xExt31, xExt32, xAdd, xSub, xMul, xEql, xNeq, xLss, xLeq, xGtr, xGeq, xEqPN, xEqNN, xNePN, xNeNN, xEqBB, xNeBB, xNot, xConv, xLen, xMin, xMax, xIfc, xIfT, xIfF, xIfD, xJoinE, xOs, xCs, xFldV, List.getD_cons_zero, List.getD_cons_succ, Nat.zero_add, Nat.reduceAdd, Mem.get_set_same, Mem.set_set, if_true, if_false, Bool.not_true, Bool.not_false, decide_true, decide_false, decide_eq_true_eq, decide_not, Bool.not_eq_true, Bool.false_eq_true, reduceIte, Int.reduceLT, Int.reduceLE, Int.reduceEq, Int.reduceNeg, Int.reduceAdd, Int.reduceSub, locP_e, gBox_a, gBox_i, gBox_b, gBox_p, gLoad_s, gAlloc_s, gStore_a, gStore_i, gStore_b, gStore_p, sub_z, sub_s, lay_z, lay_s, List.length_cons, List.length_nil, Nat.reduceLeDiff, Nat.le_refl, List.drop_zero, List.drop_succ_cons, List.take_succ_cons, List.take_zero, List.drop_nil, List.cons_append, List.nil_append, List.all_cons, List.all_nil, oneB_i, oneB_b, oneB_p, oneB_sl, Bool.and_true, Nat.reduceLT, Nat.lt_irrefl, Nat.zero_lt_one, gBoxE, gBoxC, subE, subEC, subE0, subE1, subE2, subE3, subE4, subE6, subE7, subE8, subC, subC0, subC1, subC2, subC3, subC4, subC5, subC6]
        by_cases hj : j < 3
        · rw [if_pos hj, xIxA j0 hj]
          simp only [xMove, xPickT, xPickF, xNil, xFld, xExt0, xExt1, xExt30, xExt31, xExt32, xAdd, xSub, xMul, xEql, xNeq, xLss, xLeq, xGtr, xGeq, xEqPN, xEqNN, xNePN, xNeNN, xEqBB, xNeBB, xNot, xConv, xLen, xMin, xMax, xIfc, xIfT, xIfF, xIfD, xJoinE, xOs, xCs, xFldV, List.getD_cons_zero, List.getD_cons_succ, Nat.zero_add, Nat.reduceAdd, Mem.get_set_same, Mem.set_set, if_true, if_false, Bool.not_true, Bool.not_false, decide_true, decide_false, decide_eq_true_eq, decide_not, Bool.not_eq_true, Bool.false_eq_true, reduceIte, Int.reduceLT, Int.reduceLE, Int.reduceEq, Int.reduceNeg, Int.reduceAdd, Int.reduceSub, gLoad_s, c9_sub1 j0 hj (by decide : (2 : Nat) < 3)]
          have ez : IntKind.i64.wrap (j + 1) = j + 1 := IntWalk.i64_in _ (by omega)
          have go := hR' υ hj ⟨by omega, by omega, rfl⟩
          cases hPj : P j with
          | tk p' t' =>
            have e1 : ¬ ((-1 : Int) = t.slot) := by omega
            simp only [Ps.cells, e1, w_law06_SlotShares_j8, w_law06_SlotShares_j8b, ez, xMove, xPickT, xPickF, xNil, xFld, xExt0, xExt1, xExt30, xExt31, xExt32, xAdd, xSub, xMul, xEql, xNeq, xLss, xLeq, xGtr, xGeq, xEqPN, xEqNN, xNePN, xNeNN, xEqBB, xNeBB, xNot, xConv, xLen, xMin, xMax, xIfc, xIfT, xIfF, xIfD, xJoinE, xOs, xCs, xFldV, List.getD_cons_zero, List.getD_cons_succ, Nat.zero_add, Nat.reduceAdd, Mem.get_set_same, Mem.set_set, if_true, if_false, Bool.not_true, Bool.not_false, decide_true, decide_false, decide_eq_true_eq, decide_not, Bool.not_eq_true, Bool.false_eq_true, reduceIte, Int.reduceLT, Int.reduceLE, Int.reduceEq, Int.reduceNeg, Int.reduceAdd, Int.reduceSub, locP_e, gBox_a, gBox_i, gBox_b, gBox_p, gLoad_s, gAlloc_s, gStore_a, gStore_i, gStore_b, gStore_p, sub_z, sub_s, lay_z, lay_s, List.length_cons, List.length_nil, Nat.reduceLeDiff, Nat.le_refl, List.drop_zero, List.drop_succ_cons, List.take_succ_cons, List.take_zero, List.drop_nil, List.cons_append, List.nil_append, List.all_cons, List.all_nil, oneB_i, oneB_b, oneB_p, oneB_sl, Bool.and_true, Nat.reduceLT, Nat.lt_irrefl, Nat.zero_lt_one, gBoxE, gBoxC, subE, subEC, subE0, subE1, subE2, subE3, subE4, subE6, subE7, subE8, subC, subC0, subC1, subC2, subC3, subC4, subC5, subC6]
            exact go
          | gv p' g =>
            have e1 : ¬ (g.slot = t.slot) := fun e => hno j j0 hj (by rw [hPj]; exact e)
            simp only [Ps.cells, e1, w_law06_SlotShares_j8, w_law06_SlotShares_j8b, ez, xMove, xPickT, xPickF, xNil, xFld, xExt0, xExt1, xExt30, xExt31, xExt32, xAdd, xSub, xMul, xEql, xNeq, xLss, xLeq, xGtr, xGeq, xEqPN, xEqNN, xNePN, xNeNN, xEqBB, xNeBB, xNot, xConv, xLen, xMin, xMax, xIfc, xIfT, xIfF, xIfD, xJoinE, xOs, xCs, xFldV, List.getD_cons_zero, List.getD_cons_succ, Nat.zero_add, Nat.reduceAdd, Mem.get_set_same, Mem.set_set, if_true, if_false, Bool.not_true, Bool.not_false, decide_true, decide_false, decide_eq_true_eq, decide_not, Bool.not_eq_true, Bool.false_eq_true, reduceIte, Int.reduceLT, Int.reduceLE, Int.reduceEq, Int.reduceNeg, Int.reduceAdd, Int.reduceSub, locP_e, gBox_a, gBox_i, gBox_b, gBox_p, gLoad_s, gAlloc_s, gStore_a, gStore_i, gStore_b, gStore_p, sub_z, sub_s, lay_z, lay_s, List.length_cons, List.length_nil, Nat.reduceLeDiff, Nat.le_refl, List.drop_zero, List.drop_succ_cons, List.take_succ_cons, List.take_zero, List.drop_nil, List.cons_append, List.nil_append, List.all_cons, List.all_nil, oneB_i, oneB_b, oneB_p, oneB_sl, Bool.and_true, Nat.reduceLT, Nat.lt_irrefl, Nat.zero_lt_one, gBoxE, gBoxC, subE, subEC, subE0, subE1, subE2, subE3, subE4, subE6, subE7, subE8, subC, subC0, subC1, subC2, subC3, subC4, subC5, subC6]
            exact go
        · rw [if_neg hj]
          simp only [w_law06_SlotShares_j7, w_law06_SlotShares_j7b, xMove, xPickT, xPickF, xNil, xFld, xExt0, xExt1, xExt30, xExt31, xExt32, xAdd, xSub, xMul, xEql, xNeq, xLss, xLeq, xGtr, xGeq, xEqPN, xEqNN, xNePN, xNeNN, xEqBB, xNeBB, xNot, xConv, xLen, xMin, xMax, xIfc, xIfT, xIfF, xIfD, xJoinE, xOs, xCs, xFldV, List.getD_cons_zero, List.getD_cons_succ, Nat.zero_add, Nat.reduceAdd, Mem.get_set_same, Mem.set_set, if_true, if_false, Bool.not_true, Bool.not_false, decide_true, decide_false, decide_eq_true_eq, decide_not, Bool.not_eq_true, Bool.false_eq_true, reduceIte, Int.reduceLT, Int.reduceLE, Int.reduceEq, Int.reduceNeg, Int.reduceAdd, Int.reduceSub, locP_e, gBox_a, gBox_i, gBox_b, gBox_p, gLoad_s, gAlloc_s, gStore_a, gStore_i, gStore_b, gStore_p, sub_z, sub_s, lay_z, lay_s, List.length_cons, List.length_nil, Nat.reduceLeDiff, Nat.le_refl, List.drop_zero, List.drop_succ_cons, List.take_succ_cons, List.take_zero, List.drop_nil, List.cons_append, List.nil_append, List.all_cons, List.all_nil, oneB_i, oneB_b, oneB_p, oneB_sl, Bool.and_true, Nat.reduceLT, Nat.lt_irrefl, Nat.zero_lt_one, gBoxE, gBoxC, subE, subEC, subE0, subE1, subE2, subE3, subE4, subE6, subE7, subE8, subC, subC0, subC1, subC2, subC3, subC4, subC5, subC6]
          refine c_NewGive fun q υ' hq gq xq => ?_
          obtain ⟨F', _, ew, sh', _⟩ := h.sh.tk_take hC (by omega) k0 k3 hP d ht q
          have b1 : ∀ K : Value → Prop, xF (fBuild [(0, 1), (1, 1), (2, 1)] [.pointer none, .pointer none, .int .i64 0] [1, 2]) [.pointer (some ⟨q, 0, none⟩), .int .i64 t.slot] K = K (.agg #[.pointer none, .pointer (some ⟨q, 0, none⟩), .int .i64 t.slot]) := fun K => nr rfl
          simp only [b1, xMove, xPickT, xPickF, xNil, xFld, xExt0, xExt1, xExt30, xExt31, xExt32, xAdd, xSub, xMul, xEql, xNeq, xLss, xLeq, xGtr, xGeq, xEqPN, xEqNN, xNePN, xNeNN, xEqBB, xNeBB, xNot, xConv, xLen, xMin, xMax, xIfc, xIfT, xIfF, xIfD, xJoinE, xOs, xCs, xFldV, List.getD_cons_zero, List.getD_cons_succ, Nat.zero_add, Nat.reduceAdd, Mem.get_set_same, Mem.set_set, if_true, if_false, Bool.not_true, Bool.not_false, decide_true, decide_false, decide_eq_true_eq, decide_not, Bool.not_eq_true, Bool.false_eq_true, reduceIte, Int.reduceLT, Int.reduceLE, Int.reduceEq, Int.reduceNeg, Int.reduceAdd, Int.reduceSub, locP_e, gBox_a, gBox_i, gBox_b, gBox_p, gLoad_s, gAlloc_s, gStore_a, gStore_i, gStore_b, gStore_p, sub_z, sub_s, lay_z, lay_s, List.length_cons, List.length_nil, Nat.reduceLeDiff, Nat.le_refl, List.drop_zero, List.drop_succ_cons, List.take_succ_cons, List.take_zero, List.drop_nil, List.cons_append, List.nil_append, List.all_cons, List.all_nil, oneB_i, oneB_b, oneB_p, oneB_sl, Bool.and_true, Nat.reduceLT, Nat.lt_irrefl, Nat.zero_lt_one, gBoxE, gBoxC, subE, subEC, subE0, subE1, subE2, subE3, subE4, subE6, subE7, subE8, subC, subC0, subC1, subC2, subC3, subC4, subC5, subC6]
          refine j6_run (x := .gv q ⟨0, t.slot, 0⟩) rfl h.i0 i1 k0 k3 (hR _ _ F' _ (h.step k0 k3 hf (hA'.ext xq) a1.n ok1 (by rw [a1.w]; exact sh') gq (hA'.new hq) (ext'.none hq) ?_ ?_))
          · rw [hP]; exact fun i b hi hn => xq i b (k' i b hi hn)
          · intro j j0 j3 q' e'
            obtain ⟨p1, p2, p3⟩ := h.obj j j0 j3
            have := k'.get p1 (by simp only [List.mem_cons, not_or]; exact ⟨fun e => dif j j0 j3 q' e.symm, p2⟩)
            rw [← e'] at this
            rw [show (Ps.gv q ⟨0, t.slot, 0⟩).p = q from rfl, hq] at this; cases this
      · have e2 : (A.by 0).cas 1 t.top (putTop t.next (topN t.top + 1)) = (A.by 0).load 1 := cas_no (by exact ht)
        rw [e2] at hA'
        have a1 := aft_load (who := 0) (a := 1) h.ok (by omega)
        have ok1 := a1.ok (by decide) h.ok h.ok.w
        simp only [ht, xMove, xPickT, xPickF, xNil, xFld, xExt0, xExt1, xExt30, xExt31, xExt32, xAdd, xSub, xMul, xEql, xNeq, xLss, xLeq, xGtr, xGeq, xEqPN, xEqNN, xNePN, xNeNN, xEqBB, xNeBB, xNot, xConv, xLen, xMin, xMax, xIfc, xIfT, xIfF, xIfD, xJoinE, xOs, xCs, xFldV, List.getD_cons_zero, List.getD_cons_succ, Nat.zero_add, Nat.reduceAdd, Mem.get_set_same, Mem.set_set, if_true, if_false, Bool.not_true, Bool.not_false, decide_true, decide_false, decide_eq_true_eq, decide_not, Bool.not_eq_true, Bool.false_eq_true, reduceIte, Int.reduceLT, Int.reduceLE, Int.reduceEq, Int.reduceNeg, Int.reduceAdd, Int.reduceSub, locP_e, gBox_a, gBox_i, gBox_b, gBox_p, gLoad_s, gAlloc_s, gStore_a, gStore_i, gStore_b, gStore_p, sub_z, sub_s, lay_z, lay_s, List.length_cons, List.length_nil, Nat.reduceLeDiff, Nat.le_refl, List.drop_zero, List.drop_succ_cons, List.take_succ_cons, List.take_zero, List.drop_nil, List.cons_append, List.nil_append, List.all_cons, List.all_nil, oneB_i, oneB_b, oneB_p, oneB_sl, Bool.and_true, Nat.reduceLT, Nat.lt_irrefl, Nat.zero_lt_one, gBoxE, gBoxC, subE, subEC, subE0, subE1, subE2, subE3, subE4, subE6, subE7, subE8, subC, subC0, subC1, subC2, subC3, subC4, subC5, subC6] at g' ⊢
        exact j6_run (x := .tk p ⟨0, t.top, t.next, t.slot, false⟩) rfl h.i0 i1 k0 k3 (hR _ _ F _ (h.step k0 k3 hf hA' rfl ok1 ((h.sh.tk_fail k0 k3 hP).mono (by omega)) (by simpa [Ps.l, Ps.p] using g') o2 o3 (by rw [hP]; exact k') dif))
  | gv p g =>
    rw [hP] at o1 o2 o3 hx
    simp only [Ps.cells, b0, xMove, xPickT, xPickF, xNil, xFld, xExt0, xExt1, xExt30, xExt31, xExt32, xAdd, xSub, xMul, xEql, xNeq, xLss, xLeq, xGtr, xGeq, xEqPN, xEqNN, xNePN, xNeNN, xEqBB, xNeBB, xNot, xConv, xLen, xMin, xMax, xIfc, xIfT, xIfF, xIfD, xJoinE, xOs, xCs, xFldV, List.getD_cons_zero, List.getD_cons_succ, Nat.zero_add, Nat.reduceAdd, Mem.get_set_same, Mem.set_set, if_true, if_false, Bool.not_true, Bool.not_false, decide_true, decide_false, decide_eq_true_eq, decide_not, Bool.not_eq_true, Bool.false_eq_true, reduceIte, Int.reduceLT, Int.reduceLE, Int.reduceEq, Int.reduceNeg, Int.reduceAdd, Int.reduceSub, locP_e, gBox_a, gBox_i, gBox_b, gBox_p, gLoad_s, gAlloc_s, gStore_a, gStore_i, gStore_b, gStore_p, sub_z, sub_s, lay_z, lay_s, List.length_cons, List.length_nil, Nat.reduceLeDiff, Nat.le_refl, List.drop_zero, List.drop_succ_cons, List.take_succ_cons, List.take_zero, List.drop_nil, List.cons_append, List.nil_append, List.all_cons, List.all_nil, oneB_i, oneB_b, oneB_p, oneB_sl, Bool.and_true, Nat.reduceLT, Nat.lt_irrefl, Nat.zero_lt_one, gBoxE, gBoxC, subE, subEC, subE0, subE1, subE2, subE3, subE4, subE6, subE7, subE8, subC, subC0, subC1, subC2, subC3, subC4, subC5, subC6]
    obtain ⟨a, b, c, d, e⟩ := hx
    have hw : ∀ i, W64 (A.w i) := h.ok.w
    have dif : ∀ j, 0 ≤ j → j < 3 → j ≠ k → p ≠ (P j).p := fun j j0 j3 q e => q ((h.dif k j k0 k3 j0 j3 (by rw [hP]; exact e)).symm)
    refine c_Give_Step hN hC h.isA (t := g) (pre := []) (post := []) (by simpa [Ps.l, Ps.p] using o1) o2 h.ok.w h.n a ⟨b, c⟩ fun τ' hA' g' k' => ?_
    have ext' := h.ext.keep' k' (by intro j hj; rcases List.mem_cons.1 hj with rfl | hj; exact o3; exact hf.all j hj)
    rcases e with e0 | ⟨e0 | e0, e1, e2, e3⟩
    · have q : g.step C 0 A = (false, ⟨1, g.slot, A.w 1⟩, (A.by 0).load 1) := by unfold Gv.step; rw [if_pos e0]
      rw [q] at hA' g' ⊢
      have a1 := aft_load (who := 0) (a := 1) h.ok (by omega)
      have ok1 := a1.ok (by decide) h.ok h.ok.w
      simp only [xMove, xPickT, xPickF, xNil, xFld, xExt0, xExt1, xExt30, xExt31, xExt32, xAdd, xSub, xMul, xEql, xNeq, xLss, xLeq, xGtr, xGeq, xEqPN, xEqNN, xNePN, xNeNN, xEqBB, xNeBB, xNot, xConv, xLen, xMin, xMax, xIfc, xIfT, xIfF, xIfD, xJoinE, xOs, xCs, xFldV, List.getD_cons_zero, List.getD_cons_succ, Nat.zero_add, Nat.reduceAdd, Mem.get_set_same, Mem.set_set, if_true, if_false, Bool.not_true, Bool.not_false, decide_true, decide_false, decide_eq_true_eq, decide_not, Bool.not_eq_true, Bool.false_eq_true, reduceIte, Int.reduceLT, Int.reduceLE, Int.reduceEq, Int.reduceNeg, Int.reduceAdd, Int.reduceSub, locP_e, gBox_a, gBox_i, gBox_b, gBox_p, gLoad_s, gAlloc_s, gStore_a, gStore_i, gStore_b, gStore_p, sub_z, sub_s, lay_z, lay_s, List.length_cons, List.length_nil, Nat.reduceLeDiff, Nat.le_refl, List.drop_zero, List.drop_succ_cons, List.take_succ_cons, List.take_zero, List.drop_nil, List.cons_append, List.nil_append, List.all_cons, List.all_nil, oneB_i, oneB_b, oneB_p, oneB_sl, Bool.and_true, Nat.reduceLT, Nat.lt_irrefl, Nat.zero_lt_one, gBoxE, gBoxC, subE, subEC, subE0, subE1, subE2, subE3, subE4, subE6, subE7, subE8, subC, subC0, subC1, subC2, subC3, subC4, subC5, subC6]
      exact j6_run (x := .gv p ⟨1, g.slot, A.w 1⟩) rfl h.i0 i1 k0 k3 (hR _ _ F _ (h.step k0 k3 hf hA' rfl ok1 ((h.sh.gv_look hC k0 k3 hw hP).mono (by omega)) (by simpa [Ps.l, Ps.p] using g') o2 o3 (by rw [hP]; exact k') dif))
    · have q : g.step C 0 A = (false, ⟨2, g.slot, g.top⟩, (A.by 0).store (C.slot g.slot + 1) (putTop (topS g.top) 0)) := by unfold Gv.step; rw [if_neg (by omega), if_pos e0]
      rw [q] at hA' g' ⊢
      have a1 := aft_store (who := 0) (a := C.slot g.slot + 1) (v := putTop (topS g.top) 0) h.ok (by omega)
      have ok1 := a1.ok (by decide) h.ok (fun j => upd_cases (P := fun x => 0 ≤ x ∧ x < 18446744073709551616) (putTop_in _ _) (h.ok.w j))
      simp only [xMove, xPickT, xPickF, xNil, xFld, xExt0, xExt1, xExt30, xExt31, xExt32, xAdd, xSub, xMul, xEql, xNeq, xLss, xLeq, xGtr, xGeq, xEqPN, xEqNN, xNePN, xNeNN, xEqBB, xNeBB, xNot, xConv, xLen, xMin, xMax, xIfc, xIfT, xIfF, xIfD, xJoinE, xOs, xCs, xFldV, List.getD_cons_zero, List.getD_cons_succ, Nat.zero_add, Nat.reduceAdd, Mem.get_set_same, Mem.set_set, if_true, if_false, Bool.not_true, Bool.not_false, decide_true, decide_false, decide_eq_true_eq, decide_not, Bool.not_eq_true, Bool.false_eq_true, reduceIte, Int.reduceLT, Int.reduceLE, Int.reduceEq, Int.reduceNeg, Int.reduceAdd, Int.reduceSub, locP_e, gBox_a, gBox_i, gBox_b, gBox_p, gLoad_s, gAlloc_s, gStore_a, gStore_i, gStore_b, gStore_p, sub_z, sub_s, lay_z, lay_s, List.length_cons, List.length_nil, Nat.reduceLeDiff, Nat.le_refl, List.drop_zero, List.drop_succ_cons, List.take_succ_cons, List.take_zero, List.drop_nil, List.cons_append, List.nil_append, List.all_cons, List.all_nil, oneB_i, oneB_b, oneB_p, oneB_sl, Bool.and_true, Nat.reduceLT, Nat.lt_irrefl, Nat.zero_lt_one, gBoxE, gBoxC, subE, subEC, subE0, subE1, subE2, subE3, subE4, subE6, subE7, subE8, subC, subC0, subC1, subC2, subC3, subC4, subC5, subC6]
      exact j6_run (x := .gv p ⟨2, g.slot, g.top⟩) rfl h.i0 i1 k0 k3 (hR _ _ F _ (h.step k0 k3 hf hA' rfl ok1 ((h.sh.gv_link hC k0 k3 hP e0).mono (by omega)) (by simpa [Ps.l, Ps.p] using g') o2 o3 (by rw [hP]; exact k') dif))
    · have q : g.step C 0 A = (decide (A.w 1 = g.top), ⟨0, g.slot, g.top⟩, (A.by 0).cas 1 g.top (putTop g.slot (topN g.top + 1))) := by unfold Gv.step; rw [if_neg (by omega), if_neg (by omega)]
      rw [q] at hA' g' ⊢
      by_cases ht : A.w 1 = g.top
      · have a1 := aft_cas (who := 0) (a := 1) (o := g.top) (v := putTop g.slot (topN g.top + 1)) h.ok (by omega)
        rw [if_pos ht] at a1
        have ok1 := a1.ok (by decide) h.ok (fun j => upd_cases (P := fun x => 0 ≤ x ∧ x < 18446744073709551616) (putTop_in _ _) (h.ok.w j))
        simp only [ht, xMove, xPickT, xPickF, xNil, xFld, xExt0, xExt1, xExt30, xExt31, xExt32, xAdd, xSub, xMul, xEql, xNeq, xLss, xLeq, xGtr, xGeq, xEqPN, xEqNN, xNePN, xNeNN, xEqBB, xNeBB, xNot, xConv, xLen, xMin, xMax, xIfc, xIfT, xIfF, xIfD, xJoinE, xOs, xCs, xFldV, List.getD_cons_zero, List.getD_cons_succ, Nat.zero_add, Nat.reduceAdd, Mem.get_set_same, Mem.set_set, if_true, if_false, Bool.not_true, Bool.not_false, decide_true, decide_false, decide_eq_true_eq, decide_not, Bool.not_eq_true, Bool.false_eq_true, reduceIte, Int.reduceLT, Int.reduceLE, Int.reduceEq, Int.reduceNeg, Int.reduceAdd, Int.reduceSub, locP_e, gBox_a, gBox_i, gBox_b, gBox_p, gLoad_s, gAlloc_s, gStore_a, gStore_i, gStore_b, gStore_p, sub_z, sub_s, lay_z, lay_s, List.length_cons, List.length_nil, Nat.reduceLeDiff, Nat.le_refl, List.drop_zero, List.drop_succ_cons, List.take_succ_cons, List.take_zero, List.drop_nil, List.cons_append, List.nil_append, List.all_cons, List.all_nil, oneB_i, oneB_b, oneB_p, oneB_sl, Bool.and_true, Nat.reduceLT, Nat.lt_irrefl, Nat.zero_lt_one, gBoxE, gBoxC, subE, subEC, subE0, subE1, subE2, subE3, subE4, subE6, subE7, subE8, subC, subC0, subC1, subC2, subC3, subC4, subC5, subC6] at g' hA' ⊢
        refine hBox_i (cs := [_, _, _, _, _]) rfl fun q υ hq gq xq => ?_
        have b1 : ∀ K : Value → Prop, xF (fBuild [(0, 1), (1, 1), (2, 1)] [.pointer none, .pointer none, .int .i64 0] [0, 2]) [.pointer (some ⟨q, 0, none⟩), .int .i64 (-1)] K = K (.agg #[.pointer (some ⟨q, 0, none⟩), .pointer none, .int .i64 (-1)]) := fun K => nr rfl
        simp only [b1, xMove, xPickT, xPickF, xNil, xFld, xExt0, xExt1, xExt30, xExt31, xExt32, xAdd, xSub, xMul, xEql, xNeq, xLss, xLeq, xGtr, xGeq, xEqPN, xEqNN, xNePN, xNeNN, xEqBB, xNeBB, xNot, xConv, xLen, xMin, xMax, xIfc, xIfT, xIfF, xIfD, xJoinE, xOs, xCs, xFldV, List.getD_cons_zero, List.getD_cons_succ, Nat.zero_add, Nat.reduceAdd, Mem.get_set_same, Mem.set_set, if_true, if_false, Bool.not_true, Bool.not_false, decide_true, decide_false, decide_eq_true_eq, decide_not, Bool.not_eq_true, Bool.false_eq_true, reduceIte, Int.reduceLT, Int.reduceLE, Int.reduceEq, Int.reduceNeg, Int.reduceAdd, Int.reduceSub, locP_e, gBox_a, gBox_i, gBox_b, gBox_p, gLoad_s, gAlloc_s, gStore_a, gStore_i, gStore_b, gStore_p, sub_z, sub_s, lay_z, lay_s, List.length_cons, List.length_nil, Nat.reduceLeDiff, Nat.le_refl, List.drop_zero, List.drop_succ_cons, List.take_succ_cons, List.take_zero, List.drop_nil, List.cons_append, List.nil_append, List.all_cons, List.all_nil, oneB_i, oneB_b, oneB_p, oneB_sl, Bool.and_true, Nat.reduceLT, Nat.lt_irrefl, Nat.zero_lt_one, gBoxE, gBoxC, subE, subEC, subE0, subE1, subE2, subE3, subE4, subE6, subE7, subE8, subC, subC0, subC1, subC2, subC3, subC4, subC5, subC6]
        refine j6_run (x := .tk q Tk.new) rfl h.i0 i1 k0 k3 (hR _ _ (g.slot :: F) _ (h.step k0 k3 hf (hA'.ext xq) a1.n ok1 (by rw [a1.w]; exact h.sh.gv_give hC (by omega) k0 k3 hP e0 ht q) gq (hA'.new hq) (ext'.none hq) ?_ ?_))
        · rw [hP]; exact fun i b hi hn => xq i b (k' i b hi hn)
        · intro j j0 j3 q' e'
          obtain ⟨p1, p2, p3⟩ := h.obj j j0 j3
          have := k'.get p1 (by simp only [List.mem_cons, not_or]; exact ⟨fun e => dif j j0 j3 q' e.symm, p2⟩)
          rw [← e'] at this
          rw [show (Ps.tk q Tk.new).p = q from rfl, hq] at this; cases this
      · have e2 : (A.by 0).cas 1 g.top (putTop g.slot (topN g.top + 1)) = (A.by 0).load 1 := cas_no (by exact ht)
        rw [e2] at hA'
        have a1 := aft_load (who := 0) (a := 1) h.ok (by omega)
        have ok1 := a1.ok (by decide) h.ok h.ok.w
        simp only [ht, xMove, xPickT, xPickF, xNil, xFld, xExt0, xExt1, xExt30, xExt31, xExt32, xAdd, xSub, xMul, xEql, xNeq, xLss, xLeq, xGtr, xGeq, xEqPN, xEqNN, xNePN, xNeNN, xEqBB, xNeBB, xNot, xConv, xLen, xMin, xMax, xIfc, xIfT, xIfF, xIfD, xJoinE, xOs, xCs, xFldV, List.getD_cons_zero, List.getD_cons_succ, Nat.zero_add, Nat.reduceAdd, Mem.get_set_same, Mem.set_set, if_true, if_false, Bool.not_true, Bool.not_false, decide_true, decide_false, decide_eq_true_eq, decide_not, Bool.not_eq_true, Bool.false_eq_true, reduceIte, Int.reduceLT, Int.reduceLE, Int.reduceEq, Int.reduceNeg, Int.reduceAdd, Int.reduceSub, locP_e, gBox_a, gBox_i, gBox_b, gBox_p, gLoad_s, gAlloc_s, gStore_a, gStore_i, gStore_b, gStore_p, sub_z, sub_s, lay_z, lay_s, List.length_cons, List.length_nil, Nat.reduceLeDiff, Nat.le_refl, List.drop_zero, List.drop_succ_cons, List.take_succ_cons, List.take_zero, List.drop_nil, List.cons_append, List.nil_append, List.all_cons, List.all_nil, oneB_i, oneB_b, oneB_p, oneB_sl, Bool.and_true, Nat.reduceLT, Nat.lt_irrefl, Nat.zero_lt_one, gBoxE, gBoxC, subE, subEC, subE0, subE1, subE2, subE3, subE4, subE6, subE7, subE8, subC, subC0, subC1, subC2, subC3, subC4, subC5, subC6] at g' ⊢
        exact j6_run (x := .gv p ⟨0, g.slot, g.top⟩) rfl h.i0 i1 k0 k3 (hR _ _ F _ (h.step k0 k3 hf hA' rfl ok1 ((h.sh.gv_fail k0 k3 hP).mono (by omega)) (by simpa [Ps.l, Ps.p] using g') o2 o3 (by rw [hP]; exact k') dif))
end

/-! ### At the end -/

def updB (f : Int → Bool) (a : Int) (v : Bool) : Int → Bool := fun i => if i = a then v else f i
theorem stCellsB {n q : Nat} {g : Int → Bool} {i : Int} {v : Bool} (h : σ.get q = some ⟨cellsB n g, true⟩) (h0 : 0 ≤ i) (h1 : i < n) :
    hStore 1 [.pointer (some ⟨q, i.toNat * 1, none⟩), .bool v] K σ = K undef (σ.set q ⟨cellsB n (updB g i v), true⟩) := by
  have hl : (cellsB n g).length = n := by simp [cellsB]
  rw [hStore_eq h rfl (by rw [hl]; omega) rfl, Nat.mul_one, lay_set (by rw [hl]; omega)]
  congr 3
  apply List.ext_getElem?
  intro j
  rw [List.getElem?_set]
  by_cases hj : j < n
  · simp only [cellsB, List.getElem?_map, List.getElem?_range hj, Option.map_some, List.length_map, List.length_range]
    by_cases e : i.toNat = j
    · subst e
      rw [if_pos rfl, if_pos hj]
      have : ((i.toNat : Nat) : Int) = i := by omega
      simp [updB, this]
    · rw [if_neg e]
      have : (j : Int) ≠ i := by omega
      simp [updB, this]
  · have h2 : ¬ i.toNat = j := by omega
    rw [if_neg h2]
    simp [cellsB, hj]
theorem ixB {n q : Nat} {g : Int → Bool} {i : Int} {kd : IntKind} {b : Bool} (h : σ.get q = some ⟨cellsB n g, b⟩) (h0 : 0 ≤ i) (h1 : i < n) :
    (xF (fIxS 1) [.slice (some ⟨q, 0, none⟩) n 1, .int kd i] fun v => hLoad 1 false [v] K σ) = K (.bool (g i)) σ := by
  rw [xIxS h0 h1]; simp only [Nat.zero_add]; exact ldCellsB h h0 h1
theorem cellsB_repl (n : Nat) : (List.replicate n [Value.bool false]).flatten = cellsB n fun _ => false := by
  rw [List.flatten_replicate_singleton]
  apply List.ext_getElem?
  intro i
  by_cases hi : i < n
  · simp [cellsB, hi, List.getElem?_replicate, List.getElem?_range hi]
  · simp [cellsB, hi, List.getElem?_replicate]
theorem fre_len {w : Int → Int} {F : List Int} (hC : C.ok) (h : Fre C w F) (ha : ∀ s, 0 ≤ s → s < C.S → s ∈ F) : F.length = C.S.toNat := by
  have hS := hC.S
  have : F.Perm (upL 0 C.S.toNat) := (List.perm_ext_iff_of_nodup h.nd upL_nodup).2 fun a => by
    rw [upL_mem]
    constructor
    · intro m; have := h.c.mem a m; omega
    · intro m; exact ha a (by omega) (by omega)
  rw [this.length_eq, upL_len]

/-- All slots are free: so many are taken, each once, then none. -/
theorem free_take {σ0 : Mem} (hN : N.ok) (hC : C.ok) (hf : N.fr σ0) (hA : isA N A σ) (hn : C.len ≤ A.n) (ok : A.ok 3000) (hext : Ext σ0 σ) {F : List Int} (fre : Fre C A.w F) (ha : ∀ s, 0 ≤ s → s < C.S → s ∈ F) (hS : C.S ≤ 100)
    (hk : ∀ τ, K (.bool true) τ) : w_law06_free_j1 K [.int .i64 C.S] [N.el C 0] σ := by
  have hS1 := hC.S
  simp only [w_law06_free_j1, w_law06_free_j1b, xMove, xPickT, xPickF, xNil, xFld, xExt0, xExt1, xExt30, xExt31, xExt32, xAdd, xSub, xMul, xEql, xNeq, xLss, xLeq, xGtr, xGeq, xEqPN, xEqNN, xNePN, xNeNN, xEqBB, xNeBB, xNot, xConv, xLen, xMin, xMax, xIfc, xIfT, xIfF, xIfD, xJoinE, xOs, xCs, xFldV, List.getD_cons_zero, List.getD_cons_succ, Nat.zero_add, Nat.reduceAdd, Mem.get_set_same, Mem.set_set, if_true, if_false, Bool.not_true, Bool.not_false, decide_true, decide_false, decide_eq_true_eq, decide_not, Bool.not_eq_true, Bool.false_eq_true, reduceIte, Int.reduceLT, Int.reduceLE, Int.reduceEq, Int.reduceNeg, Int.reduceAdd, Int.reduceSub, locP_e, gBox_a, gBox_i, gBox_b, gBox_p, gLoad_s, gAlloc_s, gStore_a, gStore_i, gStore_b, gStore_p, sub_z, sub_s, lay_z, lay_s, List.length_cons, List.length_nil, Nat.reduceLeDiff, Nat.le_refl, List.drop_zero, List.drop_succ_cons, List.take_succ_cons, List.take_zero, List.drop_nil, List.cons_append, List.nil_append, List.all_cons, List.all_nil, oneB_i, oneB_b, oneB_p, oneB_sl, Bool.and_true, Nat.reduceLT, Nat.lt_irrefl, Nat.zero_lt_one, gBoxE, gBoxC, subE, subEC, subE0, subE1, subE2, subE3, subE4, subE6, subE7, subE8, subC, subC0, subC1, subC2, subC3, subC4, subC5, subC6]
  refine hMakeS_i (by omega) (by omega) (by decide) fun q τ1 hq gq x1 => ?_
  rw [cellsB_repl] at gq
  have hqd := hA.new hq
  have hnN : ((C.S.toNat : Nat) : Int) = C.S := by omega
  refine xLoop_i (fun i => [.int .i64 C.S, .slice (some ⟨q, 0, none⟩) C.S.toNat 1, .int .i64 i]) [N.el C 0] C.S
    (fun i τ => ∃ A F g, 0 ≤ i ∧ i ≤ C.S ∧ isA N A τ ∧ C.len ≤ A.n ∧ A.ok (3000 + 3 * i) ∧ Fre C A.w F ∧ F.length = (C.S - i).toNat ∧ τ.get q = some ⟨cellsB C.S.toNat g, true⟩ ∧ ∀ s ∈ F, g s = false) ?_
    ⟨A, F, _, by omega, by omega, hA.ext x1, hn, by simpa using ok, fre, by rw [fre_len hC fre ha]; congr 1; omega, gq, fun _ _ => rfl⟩
  rintro i τ ⟨A, F, g, i0, i1, hA, hn, ok, fre, hl, gq, hg⟩ R hR
  simp only [w_law06_free_l12, w_law06_free_l12b, xMove, xPickT, xPickF, xNil, xFld, xExt0, xExt1, xExt30, xExt31, xExt32, xAdd, xSub, xMul, xEql, xNeq, xLss, xLeq, xGtr, xGeq, xEqPN, xEqNN, xNePN, xNeNN, xEqBB, xNeBB, xNot, xConv, xLen, xMin, xMax, xIfc, xIfT, xIfF, xIfD, xJoinE, xOs, xCs, xFldV, List.getD_cons_zero, List.getD_cons_succ, Nat.zero_add, Nat.reduceAdd, Mem.get_set_same, Mem.set_set, if_true, if_false, Bool.not_true, Bool.not_false, decide_true, decide_false, decide_eq_true_eq, decide_not, Bool.not_eq_true, Bool.false_eq_true, reduceIte, Int.reduceLT, Int.reduceLE, Int.reduceEq, Int.reduceNeg, Int.reduceAdd, Int.reduceSub, locP_e, gBox_a, gBox_i, gBox_b, gBox_p, gLoad_s, gAlloc_s, gStore_a, gStore_i, gStore_b, gStore_p, sub_z, sub_s, lay_z, lay_s, List.length_cons, List.length_nil, Nat.reduceLeDiff, Nat.le_refl, List.drop_zero, List.drop_succ_cons, List.take_succ_cons, List.take_zero, List.drop_nil, List.cons_append, List.nil_append, List.all_cons, List.all_nil, oneB_i, oneB_b, oneB_p, oneB_sl, Bool.and_true, Nat.reduceLT, Nat.lt_irrefl, Nat.zero_lt_one, gBoxE, gBoxC, subE, subEC, subE0, subE1, subE2, subE3, subE4, subE6, subE7, subE8, subC, subC0, subC1, subC2, subC3, subC4, subC5, subC6]
  by_cases hi : i < C.S
  · rw [if_pos hi]
    cases F with
    | nil => simp at hl; omega
    | cons x F =>
      obtain ⟨fr', hx⟩ := fre.took hC
      have hx0 := fre.c.2.1
      have hx1 := fre.c.2.2.1
      have gx := hg x (by simp)
      refine c_take hN hC hA ok (by omega) hn (by omega) (fun h => by omega) fun _ A' τ' aft hA' hk' => ?_
      have gq' := hk'.get gq hqd
      have e1 : ¬ topS (A.w 1) < 0 := by omega
      have e2 : ¬ C.S ≤ topS (A.w 1) := by omega
      simp only [hx, xMove, xPickT, xPickF, xNil, xFld, xExt0, xExt1, xExt30, xExt31, xExt32, xAdd, xSub, xMul, xEql, xNeq, xLss, xLeq, xGtr, xGeq, xEqPN, xEqNN, xNePN, xNeNN, xEqBB, xNeBB, xNot, xConv, xLen, xMin, xMax, xIfc, xIfT, xIfF, xIfD, xJoinE, xOs, xCs, xFldV, List.getD_cons_zero, List.getD_cons_succ, Nat.zero_add, Nat.reduceAdd, Mem.get_set_same, Mem.set_set, if_true, if_false, Bool.not_true, Bool.not_false, decide_true, decide_false, decide_eq_true_eq, decide_not, Bool.not_eq_true, Bool.false_eq_true, reduceIte, Int.reduceLT, Int.reduceLE, Int.reduceEq, Int.reduceNeg, Int.reduceAdd, Int.reduceSub, locP_e, gBox_a, gBox_i, gBox_b, gBox_p, gLoad_s, gAlloc_s, gStore_a, gStore_i, gStore_b, gStore_p, sub_z, sub_s, lay_z, lay_s, List.length_cons, List.length_nil, Nat.reduceLeDiff, Nat.le_refl, List.drop_zero, List.drop_succ_cons, List.take_succ_cons, List.take_zero, List.drop_nil, List.cons_append, List.nil_append, List.all_cons, List.all_nil, oneB_i, oneB_b, oneB_p, oneB_sl, Bool.and_true, Nat.reduceLT, Nat.lt_irrefl, Nat.zero_lt_one, gBoxE, gBoxC, subE, subEC, subE0, subE1, subE2, subE3, subE4, subE6, subE7, subE8, subC, subC0, subC1, subC2, subC3, subC4, subC5, subC6] at e1 e2 ⊢
      rw [if_neg e1]
      simp only [e2, xMove, xPickT, xPickF, xNil, xFld, xExt0, xExt1, xExt30, xExt31, xExt32, xAdd, xSub, xMul, xEql, xNeq, xLss, xLeq, xGtr, xGeq, xEqPN, xEqNN, xNePN, xNeNN, xEqBB, xNeBB, xNot, xConv, xLen, xMin, xMax, xIfc, xIfT, xIfF, xIfD, xJoinE, xOs, xCs, xFldV, List.getD_cons_zero, List.getD_cons_succ, Nat.zero_add, Nat.reduceAdd, Mem.get_set_same, Mem.set_set, if_true, if_false, Bool.not_true, Bool.not_false, decide_true, decide_false, decide_eq_true_eq, decide_not, Bool.not_eq_true, Bool.false_eq_true, reduceIte, Int.reduceLT, Int.reduceLE, Int.reduceEq, Int.reduceNeg, Int.reduceAdd, Int.reduceSub, locP_e, gBox_a, gBox_i, gBox_b, gBox_p, gLoad_s, gAlloc_s, gStore_a, gStore_i, gStore_b, gStore_p, sub_z, sub_s, lay_z, lay_s, List.length_cons, List.length_nil, Nat.reduceLeDiff, Nat.le_refl, List.drop_zero, List.drop_succ_cons, List.take_succ_cons, List.take_zero, List.drop_nil, List.cons_append, List.nil_append, List.all_cons, List.all_nil, oneB_i, oneB_b, oneB_p, oneB_sl, Bool.and_true, Nat.reduceLT, Nat.lt_irrefl, Nat.zero_lt_one, gBoxE, gBoxC, subE, subEC, subE0, subE1, subE2, subE3, subE4, subE6, subE7, subE8, subC, subC0, subC1, subC2, subC3, subC4, subC5, subC6]
      rw [ixB gq' hx0 (by omega)]
      simp only [gx, w_law06_free_j3, w_law06_free_j3b, xMove, xPickT, xPickF, xNil, xFld, xExt0, xExt1, xExt30, xExt31, xExt32, xAdd, xSub, xMul, xEql, xNeq, xLss, xLeq, xGtr, xGeq, xEqPN, xEqNN, xNePN, xNeNN, xEqBB, xNeBB, xNot, xConv, xLen, xMin, xMax, xIfc, xIfT, xIfF, xIfD, xJoinE, xOs, xCs, xFldV, List.getD_cons_zero, List.getD_cons_succ, Nat.zero_add, Nat.reduceAdd, Mem.get_set_same, Mem.set_set, if_true, if_false, Bool.not_true, Bool.not_false, decide_true, decide_false, decide_eq_true_eq, decide_not, Bool.not_eq_true, Bool.false_eq_true, reduceIte, Int.reduceLT, Int.reduceLE, Int.reduceEq, Int.reduceNeg, Int.reduceAdd, Int.reduceSub, locP_e, gBox_a, gBox_i, gBox_b, gBox_p, gLoad_s, gAlloc_s, gStore_a, gStore_i, gStore_b, gStore_p, sub_z, sub_s, lay_z, lay_s, List.length_cons, List.length_nil, Nat.reduceLeDiff, Nat.le_refl, List.drop_zero, List.drop_succ_cons, List.take_succ_cons, List.take_zero, List.drop_nil, List.cons_append, List.nil_append, List.all_cons, List.all_nil, oneB_i, oneB_b, oneB_p, oneB_sl, Bool.and_true, Nat.reduceLT, Nat.lt_irrefl, Nat.zero_lt_one, gBoxE, gBoxC, subE, subEC, subE0, subE1, subE2, subE3, subE4, subE6, subE7, subE8, subC, subC0, subC1, subC2, subC3, subC4, subC5, subC6]
      rw [xIxS hx0 (by omega)]
      simp only [Nat.zero_add]
      rw [stCellsB gq' hx0 (by omega)]
      have ez : IntKind.i64.wrap (i + 1) = i + 1 := IntWalk.i64_in _ (by omega)
      rw [ez]
      refine hR _ hi ⟨A', F, _, by omega, by omega, hA'.setO hqd, by rw [aft.n]; exact hn, ?_, by rw [aft.w]; exact fr', by simp at hl; omega, Mem.get_set_same _ _ _, fun s hs => ?_⟩
      · have := aft.ok (by decide) ok (took_ok ok.w)
        rw [show 3000 + 3 * (i + 1) = 3000 + 3 * i + 3 by omega]; exact this
      · unfold updB
        rw [if_neg (by rintro rfl; exact (List.nodup_cons.1 fre.nd).1 hs)]
        exact hg s (by simp [hs])
  · rw [if_neg hi]
    have : F = [] := List.eq_nil_of_length_eq_zero (by omega)
    subst this
    have ht : topS (A.w 1) = -1 := fre.c
    simp only [w_law06_free_j2, w_law06_free_j2b, xMove, xPickT, xPickF, xNil, xFld, xExt0, xExt1, xExt30, xExt31, xExt32, xAdd, xSub, xMul, xEql, xNeq, xLss, xLeq, xGtr, xGeq, xEqPN, xEqNN, xNePN, xNeNN, xEqBB, xNeBB, xNot, xConv, xLen, xMin, xMax, xIfc, xIfT, xIfF, xIfD, xJoinE, xOs, xCs, xFldV, List.getD_cons_zero, List.getD_cons_succ, Nat.zero_add, Nat.reduceAdd, Mem.get_set_same, Mem.set_set, if_true, if_false, Bool.not_true, Bool.not_false, decide_true, decide_false, decide_eq_true_eq, decide_not, Bool.not_eq_true, Bool.false_eq_true, reduceIte, Int.reduceLT, Int.reduceLE, Int.reduceEq, Int.reduceNeg, Int.reduceAdd, Int.reduceSub, locP_e, gBox_a, gBox_i, gBox_b, gBox_p, gLoad_s, gAlloc_s, gStore_a, gStore_i, gStore_b, gStore_p, sub_z, sub_s, lay_z, lay_s, List.length_cons, List.length_nil, Nat.reduceLeDiff, Nat.le_refl, List.drop_zero, List.drop_succ_cons, List.take_succ_cons, List.take_zero, List.drop_nil, List.cons_append, List.nil_append, List.all_cons, List.all_nil, oneB_i, oneB_b, oneB_p, oneB_sl, Bool.and_true, Nat.reduceLT, Nat.lt_irrefl, Nat.zero_lt_one, gBoxE, gBoxC, subE, subEC, subE0, subE1, subE2, subE3, subE4, subE6, subE7, subE8, subC, subC0, subC1, subC2, subC3, subC4, subC5, subC6]
    refine c_take hN hC hA ok (by omega) hn (by omega) (fun _ A' τ' aft hA' hk' => ?_) (fun h => by omega)
    simp only [xMove, xPickT, xPickF, xNil, xFld, xExt0, xExt1, xExt30, xExt31, xExt32, xAdd, xSub, xMul, xEql, xNeq, xLss, xLeq, xGtr, xGeq, xEqPN, xEqNN, xNePN, xNeNN, xEqBB, xNeBB, xNot, xConv, xLen, xMin, xMax, xIfc, xIfT, xIfF, xIfD, xJoinE, xOs, xCs, xFldV, List.getD_cons_zero, List.getD_cons_succ, Nat.zero_add, Nat.reduceAdd, Mem.get_set_same, Mem.set_set, if_true, if_false, Bool.not_true, Bool.not_false, decide_true, decide_false, decide_eq_true_eq, decide_not, Bool.not_eq_true, Bool.false_eq_true, reduceIte, Int.reduceLT, Int.reduceLE, Int.reduceEq, Int.reduceNeg, Int.reduceAdd, Int.reduceSub, locP_e, gBox_a, gBox_i, gBox_b, gBox_p, gLoad_s, gAlloc_s, gStore_a, gStore_i, gStore_b, gStore_p, sub_z, sub_s, lay_z, lay_s, List.length_cons, List.length_nil, Nat.reduceLeDiff, Nat.le_refl, List.drop_zero, List.drop_succ_cons, List.take_succ_cons, List.take_zero, List.drop_nil, List.cons_append, List.nil_append, List.all_cons, List.all_nil, oneB_i, oneB_b, oneB_p, oneB_sl, Bool.and_true, Nat.reduceLT, Nat.lt_irrefl, Nat.zero_lt_one, gBoxE, gBoxC, subE, subEC, subE0, subE1, subE2, subE3, subE4, subE6, subE7, subE8, subC, subC0, subC1, subC2, subC3, subC4, subC5, subC6]
    exact hk _

/-- Behind all: those from a place on have not ended yet. -/
structure Hf (N : Nm) (C : Cf) (σ0 : Mem) (lo i : Int) (P : Int → Ps) (A : Ar) (F : List Int) (τ : Mem) : Prop where
  i0 : 0 ≤ i
  isA : isA N A τ
  n : C.len ≤ A.n
  ok : A.ok (1000 + i)
  ext : Ext σ0 τ
  sh : Sh C A.w P F i
  obj : ∀ j, lo ≤ j → j < 3 → τ.get (P j).p = some ⟨(P j).l, true⟩ ∧ (P j).p ∉ N.l ∧ σ0.get (P j).p = none
  dif : ∀ a b, lo ≤ a → a < 3 → lo ≤ b → b < 3 → (P a).p = (P b).p → a = b
  done : ∀ j, 0 ≤ j → j < lo → ∃ t, P j = .tk 0 t
theorem Hp.toHf {σ0 : Mem} {i : Int} {P : Int → Ps} {F : List Int} {τ : Mem} (h : Hp N C σ0 i P A F τ) : Hf N C σ0 0 i P A F τ :=
  ⟨h.i0, h.isA, h.n, h.ok, h.ext, h.sh, h.obj, h.dif, fun j a b => by omega⟩
theorem Sh.tk_none {w : Int → Int} {P : Int → Ps} {F : List Int} {k i : Int} {p : Nat} {t : Tk} (h : Sh C w P F k) (h0 : 0 ≤ i) (h3 : i < 3) (hP : P i = .tk p t) (q : Nat) : Sh C w (updP P i (.tk q Tk.new)) F k := h.tk_new h0 h3 hP q
/-- Somebody ends. -/
theorem Hf.next {σ0 : Mem} {lo i i' : Int} {P : Int → Ps} {F F' : List Int} {A' : Ar} {τ τ' : Mem} (h : Hf N C σ0 lo i P A F τ) (hlo : 0 ≤ lo) (hlo3 : lo < 3) (hi : i ≤ i') (hf : N.fr σ0) (hA : Fl.isA N A' τ') (hn : A'.n = A.n) (ok : A'.ok (1000 + i'))
    (hS : Sh C A'.w (updP P lo (.tk 0 Tk.new)) F' i') (hK : Keep ((P lo).p :: N.l) τ τ') : Hf N C σ0 (lo + 1) i' (updP P lo (.tk 0 Tk.new)) A' F' τ' := by
  have hall : ∀ j ∈ (P lo).p :: N.l, σ0.get j = none := by
    intro j hj
    rcases List.mem_cons.1 hj with rfl | hj
    · exact (h.obj lo (Int.le_refl _) hlo3).2.2
    · exact hf.all j hj
  refine ⟨by have := h.i0; omega, hA, by rw [hn]; exact h.n, ok, h.ext.keep' hK hall, hS, fun j j0 j3 => ?_, fun a b a0 a3 b0 b3 e => ?_, fun j j0 j1 => ?_⟩
  · rw [updP_ne (by omega)]
    obtain ⟨o1, o2, o3⟩ := h.obj j (by omega) j3
    refine ⟨hK.get o1 ?_, o2, o3⟩
    simp only [List.mem_cons, not_or]
    exact ⟨fun e => by have := h.dif j lo (by omega) j3 (by omega) hlo3 e; omega, o2⟩
  · rw [updP_ne (by omega), updP_ne (by omega)] at e; exact h.dif a b (by omega) a3 (by omega) b3 e
  · by_cases q : j = lo
    · subst q; exact ⟨_, updP_same⟩
    · rw [updP_ne q]; exact h.done j j0 (by omega)
/-- A step of somebody who gives, that does not end it. -/
theorem Hf.stay {σ0 : Mem} {lo i : Int} {P : Int → Ps} {F : List Int} {A' : Ar} {τ τ' : Mem} {p : Nat} {g g' : Gv} (h : Hf N C σ0 lo i P A F τ) (hlo : 0 ≤ lo) (hlo3 : lo < 3) (hP : P lo = .gv p g) (hf : N.fr σ0) (hA : Fl.isA N A' τ') (hn : A'.n = A.n) (ok : A'.ok (1000 + (i + 1)))
    (hS : Sh C A'.w (updP P lo (.gv p g')) F (i + 1)) (hg : τ'.get p = some ⟨g'.l, true⟩) (hK : Keep (p :: N.l) τ τ') : Hf N C σ0 lo (i + 1) (updP P lo (.gv p g')) A' F τ' := by
  obtain ⟨q1, q2, q3⟩ := h.obj lo (Int.le_refl _) hlo3
  rw [hP] at q1 q2 q3
  have hall : ∀ j ∈ p :: N.l, σ0.get j = none := by
    intro j hj
    rcases List.mem_cons.1 hj with rfl | hj
    · exact q3
    · exact hf.all j hj
  have ep : ∀ j, ((updP P lo (.gv p g')) j).p = (P j).p := by
    intro j
    by_cases q : j = lo
    · subst q; rw [updP_same, hP]; rfl
    · rw [updP_ne q]
  refine ⟨by have := h.i0; omega, hA, by rw [hn]; exact h.n, ok, h.ext.keep' hK hall, hS, fun j j0 j3 => ?_, fun a b a0 a3 b0 b3 e => ?_, fun j j0 j1 => ?_⟩
  · by_cases q : j = lo
    · subst q; rw [updP_same]; exact ⟨hg, q2, q3⟩
    · rw [updP_ne q]
      obtain ⟨o1, o2, o3⟩ := h.obj j (by omega) j3
      refine ⟨hK.get o1 ?_, o2, o3⟩
      simp only [List.mem_cons, not_or]
      exact ⟨fun e => by have := h.dif j lo (by omega) j3 (by omega) hlo3 (by rw [hP]; exact e); omega, o2⟩
  · rw [ep, ep] at e; exact h.dif a b a0 a3 b0 b3 e
  · rw [updP_ne (by omega)]; exact h.done j j0 j1

section
variable {σ0 : Mem} {lo i m : Int} {P : Int → Ps} {F : List Int} {τ : Mem} {J1 R1 : List Value → List (List Value) → Mem → Prop} {n : Int} {c5 : List Value}
theorem free_gave {R : List Value → List (List Value) → Mem → Prop} (hlo : 0 ≤ lo) (hlo3 : lo < 3) (m0 : 0 ≤ m) (hc : c5.length = 9) (h1 : sub c5 (lo.toNat * 3 + 1) 1 false = some (.pointer none)) (hR : R1 [.int .i64 n, .int .i64 (lo + 1)] [N.el C 0, c5] τ) :
    w_law06_free_l6 K J1 R1 (w_law06_free_j4 K J1 R1) R [.int .i64 n, .int .i64 lo, .int .i64 m] [N.el C 0, c5] τ := by
  simp only [w_law06_free_l6, w_law06_free_l6b, xIxA hlo hlo3, h1, xMove, xPickT, xPickF, xNil, xFld, xExt0, xExt1, xExt30, xExt31, xExt32, xAdd, xSub, xMul, xEql, xNeq, xLss, xLeq, xGtr, xGeq, xEqPN, xEqNN, xNePN, xNeNN, xEqBB, xNeBB, xNot, xConv, xLen, xMin, xMax, xIfc, xIfT, xIfF, xIfD, xJoinE, xOs, xCs, xFldV, List.getD_cons_zero, List.getD_cons_succ, Nat.zero_add, Nat.reduceAdd, Mem.get_set_same, Mem.set_set, if_true, if_false, Bool.not_true, Bool.not_false, decide_true, decide_false, decide_eq_true_eq, decide_not, Bool.not_eq_true, Bool.false_eq_true, reduceIte, Int.reduceLT, Int.reduceLE, Int.reduceEq, Int.reduceNeg, Int.reduceAdd, Int.reduceSub, locP_e, gBox_a, gBox_i, gBox_b, gBox_p, gLoad_s, gAlloc_s, gStore_a, gStore_i, gStore_b, gStore_p, sub_z, sub_s, lay_z, lay_s, List.length_cons, List.length_nil, Nat.reduceLeDiff, Nat.le_refl, List.drop_zero, List.drop_succ_cons, List.take_succ_cons, List.take_zero, List.drop_nil, List.cons_append, List.nil_append, List.all_cons, List.all_nil, oneB_i, oneB_b, oneB_p, oneB_sl, Bool.and_true, Nat.reduceLT, Nat.lt_irrefl, Nat.zero_lt_one, gBoxE, gBoxC, subE, subEC, subE0, subE1, subE2, subE3, subE4, subE6, subE7, subE8, subC, subC0, subC1, subC2, subC3, subC4, subC5, subC6]
  have e : w_law06_free_j4 K J1 R1 [.int .i64 n, .int .i64 lo] [N.el C 0, c5] τ := by
    simp only [w_law06_free_j4, w_law06_free_j4b, xMove, xPickT, xPickF, xNil, xFld, xExt0, xExt1, xExt30, xExt31, xExt32, xAdd, xSub, xMul, xEql, xNeq, xLss, xLeq, xGtr, xGeq, xEqPN, xEqNN, xNePN, xNeNN, xEqBB, xNeBB, xNot, xConv, xLen, xMin, xMax, xIfc, xIfT, xIfF, xIfD, xJoinE, xOs, xCs, xFldV, List.getD_cons_zero, List.getD_cons_succ, Nat.zero_add, Nat.reduceAdd, Mem.get_set_same, Mem.set_set, if_true, if_false, Bool.not_true, Bool.not_false, decide_true, decide_false, decide_eq_true_eq, decide_not, Bool.not_eq_true, Bool.false_eq_true, reduceIte, Int.reduceLT, Int.reduceLE, Int.reduceEq, Int.reduceNeg, Int.reduceAdd, Int.reduceSub]
    rw [IntWalk.i64_in _ (by omega)]; exact hR
  by_cases hm : m < 40
  · simp only [hm, xMove, xPickT, xPickF, xNil, xFld, xExt0, xExt1, xExt30, xExt31, xExt32, xAdd, xSub, xMul, xEql, xNeq, xLss, xLeq, xGtr, xGeq, xEqPN, xEqNN, xNePN, xNeNN, xEqBB, xNeBB, xNot, xConv, xLen, xMin, xMax, xIfc, xIfT, xIfF, xIfD, xJoinE, xOs, xCs, xFldV, List.getD_cons_zero, List.getD_cons_succ, Nat.zero_add, Nat.reduceAdd, Mem.get_set_same, Mem.set_set, if_true, if_false, Bool.not_true, Bool.not_false, decide_true, decide_false, decide_eq_true_eq, decide_not, Bool.not_eq_true, Bool.false_eq_true, reduceIte, Int.reduceLT, Int.reduceLE, Int.reduceEq, Int.reduceNeg, Int.reduceAdd, Int.reduceSub, locP_e, gBox_a, gBox_i, gBox_b, gBox_p, gLoad_s, gAlloc_s, gStore_a, gStore_i, gStore_b, gStore_p, sub_z, sub_s, lay_z, lay_s, List.length_cons, List.length_nil, Nat.reduceLeDiff, Nat.le_refl, List.drop_zero, List.drop_succ_cons, List.take_succ_cons, List.take_zero, List.drop_nil, List.cons_append, List.nil_append, List.all_cons, List.all_nil, oneB_i, oneB_b, oneB_p, oneB_sl, Bool.and_true, Nat.reduceLT, Nat.lt_irrefl, Nat.zero_lt_one, gBoxE, gBoxC, subE, subEC, subE0, subE1, subE2, subE3, subE4, subE6, subE7, subE8, subC, subC0, subC1, subC2, subC3, subC4, subC5, subC6]; exact e
  · simp only [hm, xMove, xPickT, xPickF, xNil, xFld, xExt0, xExt1, xExt30, xExt31, xExt32, xAdd, xSub, xMul, xEql, xNeq, xLss, xLeq, xGtr, xGeq, xEqPN, xEqNN, xNePN, xNeNN, xEqBB, xNeBB, xNot, xConv, xLen, xMin, xMax, xIfc, xIfT, xIfF, xIfD, xJoinE, xOs, xCs, xFldV, List.getD_cons_zero, List.getD_cons_succ, Nat.zero_add, Nat.reduceAdd, Mem.get_set_same, Mem.set_set, if_true, if_false, Bool.not_true, Bool.not_false, decide_true, decide_false, decide_eq_true_eq, decide_not, Bool.not_eq_true, Bool.false_eq_true, reduceIte, Int.reduceLT, Int.reduceLE, Int.reduceEq, Int.reduceNeg, Int.reduceAdd, Int.reduceSub, locP_e, gBox_a, gBox_i, gBox_b, gBox_p, gLoad_s, gAlloc_s, gStore_a, gStore_i, gStore_b, gStore_p, sub_z, sub_s, lay_z, lay_s, List.length_cons, List.length_nil, Nat.reduceLeDiff, Nat.le_refl, List.drop_zero, List.drop_succ_cons, List.take_succ_cons, List.take_zero, List.drop_nil, List.cons_append, List.nil_append, List.all_cons, List.all_nil, oneB_i, oneB_b, oneB_p, oneB_sl, Bool.and_true, Nat.reduceLT, Nat.lt_irrefl, Nat.zero_lt_one, gBoxE, gBoxC, subE, subEC, subE0, subE1, subE2, subE3, subE4, subE6, subE7, subE8, subC, subC0, subC1, subC2, subC3, subC4, subC5, subC6]; exact e
/-- How many steps are left to somebody who gives, alone. -/
def left (g : Gv) (w1 : Int) : Int := if g.pc = 0 then 3 else if g.pc = 1 then (if g.top = w1 then 2 else 5) else (if g.top = w1 then 1 else 4)
theorem left_pos (g : Gv) (w1 : Int) : 1 ≤ left g w1 ∧ left g w1 ≤ 5 := by unfold left; split <;> (try split) <;> (try split) <;> omega
theorem free_give (hN : N.ok) (hC : C.ok) (hf : N.fr σ0) (hlo : 0 ≤ lo) (hlo3 : lo < 3) (hR : ∀ P' A' F' τ' c, c.length = 9 → (∀ j, lo < j → j < 3 → sub c (j.toNat * 3 + 1) 1 false = sub c5 (j.toNat * 3 + 1) 1 false) → (∀ j, lo < j → P' j = P j) →
      (∃ i', i' ≤ i + 10 ∧ Hf N C σ0 (lo + 1) i' P' A' F' τ') → R1 [.int .i64 n, .int .i64 (lo + 1)] [N.el C 0, c] τ') (hi : i < 1000)
    (h : Hf N C σ0 lo i P A F τ) (hc : c5.length = 9) (h1 : sub c5 (lo.toNat * 3 + 1) 1 false = sub (P lo).cells 1 1 false) :
    xLoop (w_law06_free_l6 K J1 R1 (w_law06_free_j4 K J1 R1)) [.int .i64 n, .int .i64 lo, .int .i64 0] [N.el C 0, c5] τ := by
  cases hP : P lo with
  | tk p t =>
    rw [hP] at h1
    refine xLoop_fold (free_gave hlo hlo3 (Int.le_refl 0) hc h1 (hR (updP P lo (.tk 0 Tk.new)) A F τ c5 hc (fun _ _ _ => rfl) (fun j hj => updP_ne (by omega)) ⟨i, by omega, ?_⟩))
    exact h.next hlo hlo3 (Int.le_refl _) hf h.isA rfl h.ok (h.sh.tk_none hlo hlo3 hP 0) Keep.refl
  | gv p g0 =>
    have hsub : sub c5 (lo.toNat * 3 + 1) 1 false = some (.pointer (some ⟨p, 0, none⟩)) := by rw [h1, hP]; rfl
    refine xLoop_r (fun k ts ls υ => (∃ g P' A' F' m i', k = (left g (A'.w 1)).toNat ∧ ts = [.int .i64 n, .int .i64 lo, .int .i64 m] ∧ ls = [N.el C 0, c5] ∧ 0 ≤ m ∧ m + left g (A'.w 1) ≤ 5 ∧ i' = i + m ∧ P' lo = .gv p g ∧ (∀ j, lo < j → P' j = P j) ∧ Hf N C σ0 lo i' P' A' F' υ) ∨
        (∃ P' A' F' m c i', k = 0 ∧ ts = [.int .i64 n, .int .i64 lo, .int .i64 m] ∧ ls = [N.el C 0, c] ∧ 0 ≤ m ∧ c.length = 9 ∧ sub c (lo.toNat * 3 + 1) 1 false = some (.pointer none) ∧ (∀ j, lo < j → j < 3 → sub c (j.toNat * 3 + 1) 1 false = sub c5 (j.toNat * 3 + 1) 1 false) ∧
          (∀ j, lo < j → P' j = P j) ∧ i' ≤ i + 10 ∧ Hf N C σ0 (lo + 1) i' P' A' F' υ)) ?_
      (.inl ⟨g0, P, A, F, 0, i, rfl, rfl, rfl, Int.le_refl 0, by have := left_pos g0 (A.w 1); omega, by omega, hP, fun _ _ => rfl, h⟩)
    rintro k ts ls υ (⟨g, P', A', F', m, i', rfl, rfl, rfl, m0, m5, rfl, hP', hPj, h'⟩ | ⟨P', A', F', m, c, i', rfl, rfl, rfl, m0, hc', h1', h2', hPj, hi', h'⟩) R hR'
    rotate_left
    · exact free_gave hlo hlo3 m0 hc' h1' (hR _ _ _ _ c hc' h2' hPj ⟨i', hi', h'⟩)
    obtain ⟨o1, o2, o3⟩ := h'.obj lo (Int.le_refl _) hlo3
    have hx := h'.sh.each lo hlo hlo3
    rw [hP'] at o1 o2 o3 hx
    obtain ⟨a, b, c, d, e⟩ := hx
    have lp := left_pos g (A'.w 1)
    have m40 : m < 40 := by omega
    have ez : IntKind.i64.wrap (m + 1) = m + 1 := IntWalk.i64_in _ (by omega)
    simp only [w_law06_free_l6, w_law06_free_l6b, xIxA hlo hlo3, hsub, m40, w_law06_free_j5, w_law06_free_j5b, xMove, xPickT, xPickF, xNil, xFld, xExt0, xExt1, xExt30, xExt31, xExt32, xAdd, xSub, xMul, xEql, xNeq, xLss, xLeq, xGtr, xGeq, xEqPN, xEqNN, xNePN, xNeNN, xEqBB, xNeBB, xNot, xConv, xLen, xMin, xMax, xIfc, xIfT, xIfF, xIfD, xJoinE, xOs, xCs, xFldV, List.getD_cons_zero, List.getD_cons_succ, Nat.zero_add, Nat.reduceAdd, Mem.get_set_same, Mem.set_set, if_true, if_false, Bool.not_true, Bool.not_false, decide_true, decide_false, decide_eq_true_eq, decide_not, Bool.not_eq_true, Bool.false_eq_true, reduceIte, Int.reduceLT, Int.reduceLE, Int.reduceEq, Int.reduceNeg, Int.reduceAdd, Int.reduceSub, locP_e, gBox_a, gBox_i, gBox_b, gBox_p, gLoad_s, gAlloc_s, gStore_a, gStore_i, gStore_b, gStore_p, sub_z, sub_s, lay_z, lay_s, List.length_cons, List.length_nil, Nat.reduceLeDiff, Nat.le_refl, List.drop_zero, List.drop_succ_cons, List.take_succ_cons, List.take_zero, List.drop_nil, List.cons_append, List.nil_append, List.all_cons, List.all_nil, oneB_i, oneB_b, oneB_p, oneB_sl, Bool.and_true, Nat.reduceLT, Nat.lt_irrefl, Nat.zero_lt_one, gBoxE, gBoxC, subE, subEC, subE0, subE1, subE2, subE3, subE4, subE6, subE7, subE8, subC, subC0, subC1, subC2, subC3, subC4, subC5, subC6]
    refine c_Give_Step hN hC h'.isA (t := g) (pre := []) (post := []) (by simpa [Ps.l, Ps.p] using o1) o2 h'.ok.w h'.n a ⟨b, c⟩ fun τ' hA' g' k' => ?_
    have hw : ∀ i, W64 (A'.w i) := h'.ok.w
    have nx : ∀ j, lo < j → ∀ x, updP P' lo x j = P j := fun j hj x => by rw [updP_ne (by omega)]; exact hPj j hj
    rcases e with e0 | ⟨e0 | e0, e1, e2, e3⟩
    · have q : g.step C 0 A' = (false, ⟨1, g.slot, A'.w 1⟩, (A'.by 0).load 1) := by unfold Gv.step; rw [if_pos e0]
      rw [q] at hA' g' ⊢
      have a1 := aft_load (who := 0) (a := 1) h'.ok (by omega)
      have ok1 := a1.ok (by decide) h'.ok h'.ok.w
      have L1 : left g (A'.w 1) = 3 := by unfold left; rw [if_pos e0]
      have L2 : left ⟨1, g.slot, A'.w 1⟩ (((A'.by 0).load 1).w 1) = 2 := by unfold left; rw [if_neg (show ¬ (1 : Int) = 0 by decide), if_pos rfl]; exact if_pos rfl
      simp only [w_law06_free_j6, w_law06_free_j6b, ez, xMove, xPickT, xPickF, xNil, xFld, xExt0, xExt1, xExt30, xExt31, xExt32, xAdd, xSub, xMul, xEql, xNeq, xLss, xLeq, xGtr, xGeq, xEqPN, xEqNN, xNePN, xNeNN, xEqBB, xNeBB, xNot, xConv, xLen, xMin, xMax, xIfc, xIfT, xIfF, xIfD, xJoinE, xOs, xCs, xFldV, List.getD_cons_zero, List.getD_cons_succ, Nat.zero_add, Nat.reduceAdd, Mem.get_set_same, Mem.set_set, if_true, if_false, Bool.not_true, Bool.not_false, decide_true, decide_false, decide_eq_true_eq, decide_not, Bool.not_eq_true, Bool.false_eq_true, reduceIte, Int.reduceLT, Int.reduceLE, Int.reduceEq, Int.reduceNeg, Int.reduceAdd, Int.reduceSub, locP_e, gBox_a, gBox_i, gBox_b, gBox_p, gLoad_s, gAlloc_s, gStore_a, gStore_i, gStore_b, gStore_p, sub_z, sub_s, lay_z, lay_s, List.length_cons, List.length_nil, Nat.reduceLeDiff, Nat.le_refl, List.drop_zero, List.drop_succ_cons, List.take_succ_cons, List.take_zero, List.drop_nil, List.cons_append, List.nil_append, List.all_cons, List.all_nil, oneB_i, oneB_b, oneB_p, oneB_sl, Bool.and_true, Nat.reduceLT, Nat.lt_irrefl, Nat.zero_lt_one, gBoxE, gBoxC, subE, subEC, subE0, subE1, subE2, subE3, subE4, subE6, subE7, subE8, subC, subC0, subC1, subC2, subC3, subC4, subC5, subC6]
      refine hR' 2 _ _ _ (by omega) (.inl ⟨_, updP P' lo (.gv p ⟨1, g.slot, A'.w 1⟩), _, F', m + 1, i + (m + 1), by rw [L2]; rfl, rfl, rfl, by omega, by rw [L2]; omega, rfl, updP_same, fun j hj => nx j hj _, ?_⟩)
      have := h'.stay hlo hlo3 hP' hf hA' rfl (by rw [show 1000 + (i + m + 1) = 1000 + (i + m) + 1 by omega]; exact ok1) ((h'.sh.gv_look hC hlo hlo3 hw hP').mono (by omega)) (by simpa using g') k'
      rw [show i + (m + 1) = i + m + 1 by omega]; exact this
    · have q : g.step C 0 A' = (false, ⟨2, g.slot, g.top⟩, (A'.by 0).store (C.slot g.slot + 1) (putTop (topS g.top) 0)) := by unfold Gv.step; rw [if_neg (by omega), if_pos e0]
      rw [q] at hA' g' ⊢
      have a1 := aft_store (who := 0) (a := C.slot g.slot + 1) (v := putTop (topS g.top) 0) h'.ok (by omega)
      have ok1 := a1.ok (by decide) h'.ok (fun j => upd_cases (P := fun x => 0 ≤ x ∧ x < 18446744073709551616) (putTop_in _ _) (h'.ok.w j))
      have hT := hC.T
      have ew : ((A'.by 0).store (C.slot g.slot + 1) (putTop (topS g.top) 0)).w 1 = A'.w 1 := upd_ne _ _ (by unfold Cf.slot; omega)
      have L1 : left g (A'.w 1) = if g.top = A'.w 1 then 2 else 5 := by unfold left; rw [if_neg (by omega), if_pos e0]
      have L2 : left ⟨2, g.slot, g.top⟩ (((A'.by 0).store (C.slot g.slot + 1) (putTop (topS g.top) 0)).w 1) = if g.top = A'.w 1 then 1 else 4 := by
        rw [ew]; unfold left; rw [if_neg (show ¬ (2 : Int) = 0 by decide), if_neg (show ¬ (2 : Int) = 1 by decide)]
      have L3 : left ⟨2, g.slot, g.top⟩ (((A'.by 0).store (C.slot g.slot + 1) (putTop (topS g.top) 0)).w 1) + 1 ≤ left g (A'.w 1) := by rw [L1, L2]; split <;> omega
      have L4 := left_pos ⟨2, g.slot, g.top⟩ (((A'.by 0).store (C.slot g.slot + 1) (putTop (topS g.top) 0)).w 1)
      simp only [w_law06_free_j6, w_law06_free_j6b, ez, xMove, xPickT, xPickF, xNil, xFld, xExt0, xExt1, xExt30, xExt31, xExt32, xAdd, xSub, xMul, xEql, xNeq, xLss, xLeq, xGtr, xGeq, xEqPN, xEqNN, xNePN, xNeNN, xEqBB, xNeBB, xNot, xConv, xLen, xMin, xMax, xIfc, xIfT, xIfF, xIfD, xJoinE, xOs, xCs, xFldV, List.getD_cons_zero, List.getD_cons_succ, Nat.zero_add, Nat.reduceAdd, Mem.get_set_same, Mem.set_set, if_true, if_false, Bool.not_true, Bool.not_false, decide_true, decide_false, decide_eq_true_eq, decide_not, Bool.not_eq_true, Bool.false_eq_true, reduceIte, Int.reduceLT, Int.reduceLE, Int.reduceEq, Int.reduceNeg, Int.reduceAdd, Int.reduceSub, locP_e, gBox_a, gBox_i, gBox_b, gBox_p, gLoad_s, gAlloc_s, gStore_a, gStore_i, gStore_b, gStore_p, sub_z, sub_s, lay_z, lay_s, List.length_cons, List.length_nil, Nat.reduceLeDiff, Nat.le_refl, List.drop_zero, List.drop_succ_cons, List.take_succ_cons, List.take_zero, List.drop_nil, List.cons_append, List.nil_append, List.all_cons, List.all_nil, oneB_i, oneB_b, oneB_p, oneB_sl, Bool.and_true, Nat.reduceLT, Nat.lt_irrefl, Nat.zero_lt_one, gBoxE, gBoxC, subE, subEC, subE0, subE1, subE2, subE3, subE4, subE6, subE7, subE8, subC, subC0, subC1, subC2, subC3, subC4, subC5, subC6]
      refine hR' _ _ _ _ ?_ (.inl ⟨_, updP P' lo (.gv p ⟨2, g.slot, g.top⟩), (A'.by 0).store (C.slot g.slot + 1) (putTop (topS g.top) 0), F', m + 1, i + (m + 1), rfl, rfl, rfl, by omega, by omega, rfl, updP_same, fun j hj => nx j hj _, ?_⟩)
      · omega
      have := h'.stay hlo hlo3 hP' hf hA' rfl (by rw [show 1000 + (i + m + 1) = 1000 + (i + m) + 1 by omega]; exact ok1) ((h'.sh.gv_link hC hlo hlo3 hP' e0).mono (by omega)) (by simpa using g') k'
      rw [show i + (m + 1) = i + m + 1 by omega]; exact this
    · have q : g.step C 0 A' = (decide (A'.w 1 = g.top), ⟨0, g.slot, g.top⟩, (A'.by 0).cas 1 g.top (putTop g.slot (topN g.top + 1))) := by unfold Gv.step; rw [if_neg (by omega), if_neg (by omega)]
      rw [q] at hA' g' ⊢
      by_cases ht : A'.w 1 = g.top
      · have a1 := aft_cas (who := 0) (a := 1) (o := g.top) (v := putTop g.slot (topN g.top + 1)) h'.ok (by omega)
        rw [if_pos ht] at a1
        have ok1 := a1.ok (by decide) h'.ok (fun j => upd_cases (P := fun x => 0 ≤ x ∧ x < 18446744073709551616) (putTop_in _ _) (h'.ok.w j))
        have hst : gStore 1 [.pointer (some ⟨5, lo.toNat * 3 + 1, some 0⟩), .pointer none] c5 = some (lay c5 (lo.toNat * 3 + 1) [.pointer none]) := gStore_p (by rw [hc]; omega)
        have hls : lay c5 (lo.toNat * 3 + 1) [.pointer none] = c5.set (lo.toNat * 3 + 1) (.pointer none) := lay_set (by rw [hc]; omega)
        rw [hls] at hst
        simp only [ht, xIxA hlo hlo3, hst, w_law06_free_j6, w_law06_free_j6b, ez, xMove, xPickT, xPickF, xNil, xFld, xExt0, xExt1, xExt30, xExt31, xExt32, xAdd, xSub, xMul, xEql, xNeq, xLss, xLeq, xGtr, xGeq, xEqPN, xEqNN, xNePN, xNeNN, xEqBB, xNeBB, xNot, xConv, xLen, xMin, xMax, xIfc, xIfT, xIfF, xIfD, xJoinE, xOs, xCs, xFldV, List.getD_cons_zero, List.getD_cons_succ, Nat.zero_add, Nat.reduceAdd, Mem.get_set_same, Mem.set_set, if_true, if_false, Bool.not_true, Bool.not_false, decide_true, decide_false, decide_eq_true_eq, decide_not, Bool.not_eq_true, Bool.false_eq_true, reduceIte, Int.reduceLT, Int.reduceLE, Int.reduceEq, Int.reduceNeg, Int.reduceAdd, Int.reduceSub, locP_e, gBox_a, gBox_i, gBox_b, gBox_p, gLoad_s, gAlloc_s, gStore_a, gStore_i, gStore_b, gStore_p, sub_z, sub_s, lay_z, lay_s, List.length_cons, List.length_nil, Nat.reduceLeDiff, Nat.le_refl, List.drop_zero, List.drop_succ_cons, List.take_succ_cons, List.take_zero, List.drop_nil, List.cons_append, List.nil_append, List.all_cons, List.all_nil, oneB_i, oneB_b, oneB_p, oneB_sl, Bool.and_true, Nat.reduceLT, Nat.lt_irrefl, Nat.zero_lt_one, gBoxE, gBoxC, subE, subEC, subE0, subE1, subE2, subE3, subE4, subE6, subE7, subE8, subC, subC0, subC1, subC2, subC3, subC4, subC5, subC6] at g' hA' ⊢
        refine hR' 0 _ _ _ (by omega) (.inr ⟨updP P' lo (.tk 0 Tk.new), (A'.by 0).cas 1 g.top (putTop g.slot (topN g.top + 1)), g.slot :: F', m + 1, c5.set (lo.toNat * 3 + 1) (.pointer none), i + m + 1, rfl, rfl, rfl, by omega, by simp [hc], sub_one (by rw [List.getElem?_set_self (by rw [hc]; omega)]), fun j j0 j3 => ?_, fun j hj => nx j hj _, by omega, ?_⟩)
        · simp only [sub, List.length_set, Bool.false_eq_true, if_false]
          rw [List.getElem?_set_ne (by omega)]
        · exact h'.next hlo hlo3 (by omega) hf hA' a1.n (by rw [show 1000 + (i + m + 1) = 1000 + (i + m) + 1 by omega]; exact ok1) (by rw [a1.w]; exact h'.sh.gv_give hC (by omega) hlo hlo3 hP' e0 ht 0) (by rw [hP']; exact k')
      · have e2 : (A'.by 0).cas 1 g.top (putTop g.slot (topN g.top + 1)) = (A'.by 0).load 1 := cas_no (by exact ht)
        rw [e2] at hA'
        have a1 := aft_load (who := 0) (a := 1) h'.ok (by omega)
        have ok1 := a1.ok (by decide) h'.ok h'.ok.w
        have L1 : left g (A'.w 1) = 4 := by unfold left; rw [if_neg (by omega), if_neg (by omega), if_neg (fun e => ht e.symm)]
        have L2 : left ⟨0, g.slot, g.top⟩ (((A'.by 0).load 1).w 1) = 3 := by unfold left; exact if_pos rfl
        simp only [ht, w_law06_free_j6, w_law06_free_j6b, ez, xMove, xPickT, xPickF, xNil, xFld, xExt0, xExt1, xExt30, xExt31, xExt32, xAdd, xSub, xMul, xEql, xNeq, xLss, xLeq, xGtr, xGeq, xEqPN, xEqNN, xNePN, xNeNN, xEqBB, xNeBB, xNot, xConv, xLen, xMin, xMax, xIfc, xIfT, xIfF, xIfD, xJoinE, xOs, xCs, xFldV, List.getD_cons_zero, List.getD_cons_succ, Nat.zero_add, Nat.reduceAdd, Mem.get_set_same, Mem.set_set, if_true, if_false, Bool.not_true, Bool.not_false, decide_true, decide_false, decide_eq_true_eq, decide_not, Bool.not_eq_true, Bool.false_eq_true, reduceIte, Int.reduceLT, Int.reduceLE, Int.reduceEq, Int.reduceNeg, Int.reduceAdd, Int.reduceSub, locP_e, gBox_a, gBox_i, gBox_b, gBox_p, gLoad_s, gAlloc_s, gStore_a, gStore_i, gStore_b, gStore_p, sub_z, sub_s, lay_z, lay_s, List.length_cons, List.length_nil, Nat.reduceLeDiff, Nat.le_refl, List.drop_zero, List.drop_succ_cons, List.take_succ_cons, List.take_zero, List.drop_nil, List.cons_append, List.nil_append, List.all_cons, List.all_nil, oneB_i, oneB_b, oneB_p, oneB_sl, Bool.and_true, Nat.reduceLT, Nat.lt_irrefl, Nat.zero_lt_one, gBoxE, gBoxC, subE, subEC, subE0, subE1, subE2, subE3, subE4, subE6, subE7, subE8, subC, subC0, subC1, subC2, subC3, subC4, subC5, subC6] at g' ⊢
        refine hR' 3 _ _ _ (by omega) (.inl ⟨_, updP P' lo (.gv p ⟨0, g.slot, g.top⟩), _, F', m + 1, i + (m + 1), by rw [L2]; rfl, rfl, rfl, by omega, by rw [L2]; omega, rfl, updP_same, fun j hj => nx j hj _, ?_⟩)
        have := h'.stay hlo hlo3 hP' hf hA' rfl (by rw [show 1000 + (i + m + 1) = 1000 + (i + m) + 1 by omega]; exact ok1) ((h'.sh.gv_fail hlo hlo3 hP').mono (by omega)) (by simpa using g') k'
        rw [show i + (m + 1) = i + m + 1 by omega]; exact this
end

theorem c_free {σ0 : Mem} {i : Int} {P : Int → Ps} {F : List Int} {τ : Mem} (hN : N.ok) (hC : C.ok) (hf : N.fr σ0) (h : Hp N C σ0 i P A F τ) (hi : i < 900) (hS : C.S ≤ 100) (hk : ∀ τ, K (.bool true) τ) :
    s_law06_free [N.env C 0, .int .i64 C.S, .agg (c9 P).toArray] K τ := by
  have hb : gBox 9 [.agg (c9 P).toArray] [] = some (c9 P) := gBox_a (c9_len P)
  simp only [s_law06_free, w_law06_free, hb, gBoxE, xCs, xMove, xJoinE]
  refine xLoop_r (fun k ts ls υ => ∃ lo P' A' F' c i', k = (3 - lo).toNat ∧ ts = [.int .i64 C.S, .int .i64 lo] ∧ ls = [N.el C 0, c] ∧ 0 ≤ lo ∧ lo ≤ 3 ∧ c.length = 9 ∧ (∀ j, lo ≤ j → j < 3 → sub c (j.toNat * 3 + 1) 1 false = sub (P' j).cells 1 1 false) ∧ i' ≤ i + 10 * lo ∧ Hf N C σ0 lo i' P' A' F' υ) ?_
    (n := (3 - 0 : Int).toNat) ⟨0, P, A, F, c9 P, i, rfl, rfl, rfl, by omega, by omega, c9_len P, fun j j0 j3 => c9_sub1 j0 j3 (by decide), by omega, h.toHf⟩
  rintro k ts ls υ ⟨lo, P', A', F', c, i', rfl, rfl, rfl, l0, l3, hc, hs, hi', h'⟩ R hR
  simp only [w_law06_free_l3, w_law06_free_l3b, xMove, xPickT, xPickF, xNil, xFld, xExt0, xExt1, xExt30, xExt31, xExt32, xAdd, xSub, xMul, xEql, xNeq, xLss, xLeq, xGtr, xGeq, xEqPN, xEqNN, xNePN, xNeNN, xEqBB, xNeBB, xNot, xConv, xLen, xMin, xMax, xIfc, xIfT, xIfF, xIfD, xJoinE, xOs, xCs, xFldV, List.getD_cons_zero, List.getD_cons_succ, Nat.zero_add, Nat.reduceAdd, Mem.get_set_same, Mem.set_set, if_true, if_false, Bool.not_true, Bool.not_false, decide_true, decide_false, decide_eq_true_eq, decide_not, Bool.not_eq_true, Bool.false_eq_true, reduceIte, Int.reduceLT, Int.reduceLE, Int.reduceEq, Int.reduceNeg, Int.reduceAdd, Int.reduceSub]
  by_cases hlo : lo < 3
  · rw [if_pos hlo]
    refine free_give hN hC hf l0 hlo (fun P2 A2 F2 τ2 c2 hc2 hs2 hP2 ⟨i2, hi2, h2⟩ => hR (3 - (lo + 1)).toNat _ _ _ (by omega) ⟨lo + 1, P2, A2, F2, c2, i2, rfl, rfl, rfl, by omega, by omega, hc2, fun j j0 j3 => ?_, by omega, h2⟩) (by omega) h' hc (hs lo (Int.le_refl _) hlo)
    rw [hs2 j (by omega) j3, hP2 j (by omega)]; exact hs j (by omega) j3
  · rw [if_neg hlo]
    refine free_take hN hC hf h'.isA h'.n ⟨h'.ok.w, ⟨h'.ok.s.1, by have := h'.ok.s.2; omega⟩, h'.ok.t⟩ h'.ext h'.sh.fre (fun s s0 s1 => ?_) hS hk
    rcases h'.sh.all s s0 s1 with hm | ⟨j, j0, j3, hj⟩
    · exact hm
    · obtain ⟨t, ht⟩ := h'.done j j0 (by omega)
      rw [ht] at hj; exact hj.elim

theorem law_SlotShares (σ : Mem) (a0 : Int) (w0 : (Lit.int .i64 a0).wf = true) (s : Value) (len : Nat) (cs : List Value) (sl : Sl σ 1 len cs s) (hm : len ≤ maxLen) (hf : FlatL (List.replicate len [some .i64]).flatten cs) :
    s_law06_SlotShares [.int .i64 a0, s] (fun v _ => v = .bool true) σ := by
  obtain ⟨g, hg, _⟩ := sl.argI hf
  have b0 : ∀ K : Value → Prop, xF (fBuild [(0, 1), (1, 1), (2, 1), (3, 1), (4, 1)] [.int .i64 0, .int .u64 0, .int .i64 0, .int .i64 0, .bool false] []) [] K = K (.agg #[.int .i64 0, .int .u64 0, .int .i64 0, .int .i64 0, .bool false]) := fun K => nr rfl
  simp only [s_law06_SlotShares, w_law06_SlotShares, andI3, xMove, xPickT, xPickF, xNil, xFld, xExt0, xExt1, xExt30, xExt31, xExt32, xAdd, xSub, xMul, xEql, xNeq, xLss, xLeq, xGtr, xGeq, xEqPN, xEqNN, xNePN, xNeNN, xEqBB, xNeBB, xNot, xConv, xLen, xMin, xMax, xIfc, xIfT, xIfF, xIfD, xJoinE, xOs, xCs, xFldV, List.getD_cons_zero, List.getD_cons_succ, Nat.zero_add, Nat.reduceAdd, Mem.get_set_same, Mem.set_set, if_true, if_false, Bool.not_true, Bool.not_false, decide_true, decide_false, decide_eq_true_eq, decide_not, Bool.not_eq_true, Bool.false_eq_true, reduceIte, Int.reduceLT, Int.reduceLE, Int.reduceEq, Int.reduceNeg, Int.reduceAdd, Int.reduceSub, locP_e, gBox_a, gBox_i, gBox_b, gBox_p, gLoad_s, gAlloc_s, gStore_a, gStore_i, gStore_b, gStore_p, sub_z, sub_s, lay_z, lay_s, List.length_cons, List.length_nil, Nat.reduceLeDiff, Nat.le_refl, List.drop_zero, List.drop_succ_cons, List.take_succ_cons, List.take_zero, List.drop_nil, List.cons_append, List.nil_append, List.all_cons, List.all_nil, oneB_i, oneB_b, oneB_p, oneB_sl, Bool.and_true, Nat.reduceLT, Nat.lt_irrefl, Nat.zero_lt_one, gBoxE, gBoxC, subE, subEC, subE0, subE1, subE2, subE3, subE4, subE6, subE7, subE8, subC, subC0, subC1, subC2, subC3, subC4, subC5, subC6]
  have hn : 1 ≤ 1 + a0 % 4 ∧ 1 + a0 % 4 ≤ 4 := by omega
  generalize 1 + a0 % 4 = n at hn
  rw [IntWalk.i64_in n (by omega)]
  have hC : (cA 4 n 1 20).ok := cA_ok (by omega) (by omega) (by omega) (by omega)
  have hS : (cA 4 n 1 20).S = n := rfl
  refine c_Arena (C := cA 4 n 1 20) hC rfl rfl rfl fun N A τ hN hF hA hE hfr => ?_
  have frA : Fre (cA 4 n 1 20) A.w (upL 0 n.toNat) := by have := fre0 hC; rw [hS] at this; rw [hF.w]; exact this
  have n0 : topN (A.w 1) = 0 := by rw [hF.w]; unfold Cf.w0; rw [if_pos rfl, topN_put (by omega) (by omega)]
  have ok : A.ok 1000 := ⟨hF.ok.w, by have := hF.ok.s; omega, hF.ok.t⟩
  have hl := len_bd hC
  have hn4 : (cA 4 n 1 20).len ≤ A.n := by rw [hF.n]; omega
  generalize hCC : cA 4 n 1 20 = C at *
  have b9 : ∀ K : Value → Prop, xF (fBuild [(0, 3), (3, 3), (6, 3)] [.pointer none, .pointer none, .int .i64 0, .pointer none, .pointer none, .int .i64 0, .pointer none, .pointer none, .int .i64 0] []) [] K = K (.agg #[.pointer none, .pointer none, .int .i64 0, .pointer none, .pointer none, .int .i64 0, .pointer none, .pointer none, .int .i64 0]) := fun K => nr rfl
  have b3 : ∀ (q : Nat) (K : Value → Prop), xF (fBuild [(0, 1), (1, 1), (2, 1)] [.pointer none, .pointer none, .int .i64 0] [0, 2]) [.pointer (some ⟨q, 0, none⟩), .int .i64 (-1)] K = K (.agg #[.pointer (some ⟨q, 0, none⟩), .pointer none, .int .i64 (-1)]) := fun q K => nr rfl
  simp only [c_awake6, gStoreE, b9, w_law06_SlotShares_j1, w_law06_SlotShares_j1b, xMove, xPickT, xPickF, xNil, xFld, xExt0, xExt1, xExt30, xExt31, xExt32, xAdd, xSub, xMul, xEql, xNeq, xLss, xLeq, xGtr, xGeq, xEqPN, xEqNN, xNePN, xNeNN, xEqBB, xNeBB, xNot, xConv, xLen, xMin, xMax, xIfc, xIfT, xIfF, xIfD, xJoinE, xOs, xCs, xFldV, List.getD_cons_zero, List.getD_cons_succ, Nat.zero_add, Nat.reduceAdd, Mem.get_set_same, Mem.set_set, if_true, if_false, Bool.not_true, Bool.not_false, decide_true, decide_false, decide_eq_true_eq, decide_not, Bool.not_eq_true, Bool.false_eq_true, reduceIte, Int.reduceLT, Int.reduceLE, Int.reduceEq, Int.reduceNeg, Int.reduceAdd, Int.reduceSub, locP_e, gBox_a, gBox_i, gBox_b, gBox_p, gLoad_s, gAlloc_s, gStore_a, gStore_i, gStore_b, gStore_p, sub_z, sub_s, lay_z, lay_s, List.length_cons, List.length_nil, Nat.reduceLeDiff, Nat.le_refl, List.drop_zero, List.drop_succ_cons, List.take_succ_cons, List.take_zero, List.drop_nil, List.cons_append, List.nil_append, List.all_cons, List.all_nil, oneB_i, oneB_b, oneB_p, oneB_sl, Bool.and_true, Nat.reduceLT, Nat.lt_irrefl, Nat.zero_lt_one, gBoxE, gBoxC, subE, subEC, subE0, subE1, subE2, subE3, subE4, subE6, subE7, subE8, subC, subC0, subC1, subC2, subC3, subC4, subC5, subC6]
  -- three of them
  refine xLoop_fold ?_
  simp only [w_law06_SlotShares_l8, w_law06_SlotShares_l8b, b0, xMove, xPickT, xPickF, xNil, xFld, xExt0, xExt1, xExt30, xExt31, xExt32, xAdd, xSub, xMul, xEql, xNeq, xLss, xLeq, xGtr, xGeq, xEqPN, xEqNN, xNePN, xNeNN, xEqBB, xNeBB, xNot, xConv, xLen, xMin, xMax, xIfc, xIfT, xIfF, xIfD, xJoinE, xOs, xCs, xFldV, List.getD_cons_zero, List.getD_cons_succ, Nat.zero_add, Nat.reduceAdd, Mem.get_set_same, Mem.set_set, if_true, if_false, Bool.not_true, Bool.not_false, decide_true, decide_false, decide_eq_true_eq, decide_not, Bool.not_eq_true, Bool.false_eq_true, reduceIte, Int.reduceLT, Int.reduceLE, Int.reduceEq, Int.reduceNeg, Int.reduceAdd, Int.reduceSub, locP_e, gBox_a, gBox_i, gBox_b, gBox_p, gLoad_s, gAlloc_s, gStore_a, gStore_i, gStore_b, gStore_p, sub_z, sub_s, lay_z, lay_s, List.length_cons, List.length_nil, Nat.reduceLeDiff, Nat.le_refl, List.drop_zero, List.drop_succ_cons, List.take_succ_cons, List.take_zero, List.drop_nil, List.cons_append, List.nil_append, List.all_cons, List.all_nil, oneB_i, oneB_b, oneB_p, oneB_sl, Bool.and_true, Nat.reduceLT, Nat.lt_irrefl, Nat.zero_lt_one, gBoxE, gBoxC, subE, subEC, subE0, subE1, subE2, subE3, subE4, subE6, subE7, subE8, subC, subC0, subC1, subC2, subC3, subC4, subC5, subC6]
  refine hBox_i (cs := [_, _, _, _, _]) rfl fun p0 τ1 hp0 gp0 x0 => ?_
  simp only [b3, xIxA (show (0 : Int) ≤ 0 by decide) (show (0 : Int) < 3 by decide), Int.toNat_zero, Nat.zero_mul, Nat.reduceMul, i64_1, xMove, xPickT, xPickF, xNil, xFld, xExt0, xExt1, xExt30, xExt31, xExt32, xAdd, xSub, xMul, xEql, xNeq, xLss, xLeq, xGtr, xGeq, xEqPN, xEqNN, xNePN, xNeNN, xEqBB, xNeBB, xNot, xConv, xLen, xMin, xMax, xIfc, xIfT, xIfF, xIfD, xJoinE, xOs, xCs, xFldV, List.getD_cons_zero, List.getD_cons_succ, Nat.zero_add, Nat.reduceAdd, Mem.get_set_same, Mem.set_set, if_true, if_false, Bool.not_true, Bool.not_false, decide_true, decide_false, decide_eq_true_eq, decide_not, Bool.not_eq_true, Bool.false_eq_true, reduceIte, Int.reduceLT, Int.reduceLE, Int.reduceEq, Int.reduceNeg, Int.reduceAdd, Int.reduceSub, locP_e, gBox_a, gBox_i, gBox_b, gBox_p, gLoad_s, gAlloc_s, gStore_a, gStore_i, gStore_b, gStore_p, sub_z, sub_s, lay_z, lay_s, List.length_cons, List.length_nil, Nat.reduceLeDiff, Nat.le_refl, List.drop_zero, List.drop_succ_cons, List.take_succ_cons, List.take_zero, List.drop_nil, List.cons_append, List.nil_append, List.all_cons, List.all_nil, oneB_i, oneB_b, oneB_p, oneB_sl, Bool.and_true, Nat.reduceLT, Nat.lt_irrefl, Nat.zero_lt_one, gBoxE, gBoxC, subE, subEC, subE0, subE1, subE2, subE3, subE4, subE6, subE7, subE8, subC, subC0, subC1, subC2, subC3, subC4, subC5, subC6]
  refine xLoop_fold ?_
  simp only [w_law06_SlotShares_l8, w_law06_SlotShares_l8b, b0, xMove, xPickT, xPickF, xNil, xFld, xExt0, xExt1, xExt30, xExt31, xExt32, xAdd, xSub, xMul, xEql, xNeq, xLss, xLeq, xGtr, xGeq, xEqPN, xEqNN, xNePN, xNeNN, xEqBB, xNeBB, xNot, xConv, xLen, xMin, xMax, xIfc, xIfT, xIfF, xIfD, xJoinE, xOs, xCs, xFldV, List.getD_cons_zero, List.getD_cons_succ, Nat.zero_add, Nat.reduceAdd, Mem.get_set_same, Mem.set_set, if_true, if_false, Bool.not_true, Bool.not_false, decide_true, decide_false, decide_eq_true_eq, decide_not, Bool.not_eq_true, Bool.false_eq_true, reduceIte, Int.reduceLT, Int.reduceLE, Int.reduceEq, Int.reduceNeg, Int.reduceAdd, Int.reduceSub, locP_e, gBox_a, gBox_i, gBox_b, gBox_p, gLoad_s, gAlloc_s, gStore_a, gStore_i, gStore_b, gStore_p, sub_z, sub_s, lay_z, lay_s, List.length_cons, List.length_nil, Nat.reduceLeDiff, Nat.le_refl, List.drop_zero, List.drop_succ_cons, List.take_succ_cons, List.take_zero, List.drop_nil, List.cons_append, List.nil_append, List.all_cons, List.all_nil, oneB_i, oneB_b, oneB_p, oneB_sl, Bool.and_true, Nat.reduceLT, Nat.lt_irrefl, Nat.zero_lt_one, gBoxE, gBoxC, subE, subEC, subE0, subE1, subE2, subE3, subE4, subE6, subE7, subE8, subC, subC0, subC1, subC2, subC3, subC4, subC5, subC6]
  refine hBox_i (cs := [_, _, _, _, _]) rfl fun p1 τ2 hp1 gp1 x1 => ?_
  simp only [b3, xIxA (show (0 : Int) ≤ 1 by decide) (show (1 : Int) < 3 by decide), show (1 : Int).toNat = 1 from rfl, Nat.reduceMul, i64_2, xMove, xPickT, xPickF, xNil, xFld, xExt0, xExt1, xExt30, xExt31, xExt32, xAdd, xSub, xMul, xEql, xNeq, xLss, xLeq, xGtr, xGeq, xEqPN, xEqNN, xNePN, xNeNN, xEqBB, xNeBB, xNot, xConv, xLen, xMin, xMax, xIfc, xIfT, xIfF, xIfD, xJoinE, xOs, xCs, xFldV, List.getD_cons_zero, List.getD_cons_succ, Nat.zero_add, Nat.reduceAdd, Mem.get_set_same, Mem.set_set, if_true, if_false, Bool.not_true, Bool.not_false, decide_true, decide_false, decide_eq_true_eq, decide_not, Bool.not_eq_true, Bool.false_eq_true, reduceIte, Int.reduceLT, Int.reduceLE, Int.reduceEq, Int.reduceNeg, Int.reduceAdd, Int.reduceSub, locP_e, gBox_a, gBox_i, gBox_b, gBox_p, gLoad_s, gAlloc_s, gStore_a, gStore_i, gStore_b, gStore_p, sub_z, sub_s, lay_z, lay_s, List.length_cons, List.length_nil, Nat.reduceLeDiff, Nat.le_refl, List.drop_zero, List.drop_succ_cons, List.take_succ_cons, List.take_zero, List.drop_nil, List.cons_append, List.nil_append, List.all_cons, List.all_nil, oneB_i, oneB_b, oneB_p, oneB_sl, Bool.and_true, Nat.reduceLT, Nat.lt_irrefl, Nat.zero_lt_one, gBoxE, gBoxC, subE, subEC, subE0, subE1, subE2, subE3, subE4, subE6, subE7, subE8, subC, subC0, subC1, subC2, subC3, subC4, subC5, subC6]
  refine xLoop_fold ?_
  simp only [w_law06_SlotShares_l8, w_law06_SlotShares_l8b, b0, xMove, xPickT, xPickF, xNil, xFld, xExt0, xExt1, xExt30, xExt31, xExt32, xAdd, xSub, xMul, xEql, xNeq, xLss, xLeq, xGtr, xGeq, xEqPN, xEqNN, xNePN, xNeNN, xEqBB, xNeBB, xNot, xConv, xLen, xMin, xMax, xIfc, xIfT, xIfF, xIfD, xJoinE, xOs, xCs, xFldV, List.getD_cons_zero, List.getD_cons_succ, Nat.zero_add, Nat.reduceAdd, Mem.get_set_same, Mem.set_set, if_true, if_false, Bool.not_true, Bool.not_false, decide_true, decide_false, decide_eq_true_eq, decide_not, Bool.not_eq_true, Bool.false_eq_true, reduceIte, Int.reduceLT, Int.reduceLE, Int.reduceEq, Int.reduceNeg, Int.reduceAdd, Int.reduceSub, locP_e, gBox_a, gBox_i, gBox_b, gBox_p, gLoad_s, gAlloc_s, gStore_a, gStore_i, gStore_b, gStore_p, sub_z, sub_s, lay_z, lay_s, List.length_cons, List.length_nil, Nat.reduceLeDiff, Nat.le_refl, List.drop_zero, List.drop_succ_cons, List.take_succ_cons, List.take_zero, List.drop_nil, List.cons_append, List.nil_append, List.all_cons, List.all_nil, oneB_i, oneB_b, oneB_p, oneB_sl, Bool.and_true, Nat.reduceLT, Nat.lt_irrefl, Nat.zero_lt_one, gBoxE, gBoxC, subE, subEC, subE0, subE1, subE2, subE3, subE4, subE6, subE7, subE8, subC, subC0, subC1, subC2, subC3, subC4, subC5, subC6]
  refine hBox_i (cs := [_, _, _, _, _]) rfl fun p2 τ3 hp2 gp2 x2 => ?_
  simp only [b3, xIxA (show (0 : Int) ≤ 2 by decide) (show (2 : Int) < 3 by decide), show (2 : Int).toNat = 2 from rfl, Nat.reduceMul, i64_3, xMove, xPickT, xPickF, xNil, xFld, xExt0, xExt1, xExt30, xExt31, xExt32, xAdd, xSub, xMul, xEql, xNeq, xLss, xLeq, xGtr, xGeq, xEqPN, xEqNN, xNePN, xNeNN, xEqBB, xNeBB, xNot, xConv, xLen, xMin, xMax, xIfc, xIfT, xIfF, xIfD, xJoinE, xOs, xCs, xFldV, List.getD_cons_zero, List.getD_cons_succ, Nat.zero_add, Nat.reduceAdd, Mem.get_set_same, Mem.set_set, if_true, if_false, Bool.not_true, Bool.not_false, decide_true, decide_false, decide_eq_true_eq, decide_not, Bool.not_eq_true, Bool.false_eq_true, reduceIte, Int.reduceLT, Int.reduceLE, Int.reduceEq, Int.reduceNeg, Int.reduceAdd, Int.reduceSub, locP_e, gBox_a, gBox_i, gBox_b, gBox_p, gLoad_s, gAlloc_s, gStore_a, gStore_i, gStore_b, gStore_p, sub_z, sub_s, lay_z, lay_s, List.length_cons, List.length_nil, Nat.reduceLeDiff, Nat.le_refl, List.drop_zero, List.drop_succ_cons, List.take_succ_cons, List.take_zero, List.drop_nil, List.cons_append, List.nil_append, List.all_cons, List.all_nil, oneB_i, oneB_b, oneB_p, oneB_sl, Bool.and_true, Nat.reduceLT, Nat.lt_irrefl, Nat.zero_lt_one, gBoxE, gBoxC, subE, subEC, subE0, subE1, subE2, subE3, subE4, subE6, subE7, subE8, subC, subC0, subC1, subC2, subC3, subC4, subC5, subC6]
  refine xLoop_fold ?_
  simp only [w_law06_SlotShares_l8, w_law06_SlotShares_l8b, w_law06_SlotShares_j2, w_law06_SlotShares_j2b, xMove, xPickT, xPickF, xNil, xFld, xExt0, xExt1, xExt30, xExt31, xExt32, xAdd, xSub, xMul, xEql, xNeq, xLss, xLeq, xGtr, xGeq, xEqPN, xEqNN, xNePN, xNeNN, xEqBB, xNeBB, xNot, xConv, xLen, xMin, xMax, xIfc, xIfT, xIfF, xIfD, xJoinE, xOs, xCs, xFldV, List.getD_cons_zero, List.getD_cons_succ, Nat.zero_add, Nat.reduceAdd, Mem.get_set_same, Mem.set_set, if_true, if_false, Bool.not_true, Bool.not_false, decide_true, decide_false, decide_eq_true_eq, decide_not, Bool.not_eq_true, Bool.false_eq_true, reduceIte, Int.reduceLT, Int.reduceLE, Int.reduceEq, Int.reduceNeg, Int.reduceAdd, Int.reduceSub, locP_e, gBox_a, gBox_i, gBox_b, gBox_p, gLoad_s, gAlloc_s, gStore_a, gStore_i, gStore_b, gStore_p, sub_z, sub_s, lay_z, lay_s, List.length_cons, List.length_nil, Nat.reduceLeDiff, Nat.le_refl, List.drop_zero, List.drop_succ_cons, List.take_succ_cons, List.take_zero, List.drop_nil, List.cons_append, List.nil_append, List.all_cons, List.all_nil, oneB_i, oneB_b, oneB_p, oneB_sl, Bool.and_true, Nat.reduceLT, Nat.lt_irrefl, Nat.zero_lt_one, gBoxE, gBoxC, subE, subEC, subE0, subE1, subE2, subE3, subE4, subE6, subE7, subE8, subC, subC0, subC1, subC2, subC3, subC4, subC5, subC6]
  have n01 : p0 ≠ p1 := by rintro rfl; rw [gp0] at hp1; cases hp1
  have n02 : p0 ≠ p2 := by rintro rfl; rw [x1 _ _ gp0] at hp2; cases hp2
  have n12 : p1 ≠ p2 := by rintro rfl; rw [gp1] at hp2; cases hp2
  have hA1 := hA.ext x0
  have hA2 := hA1.ext x1
  have hA3 := hA2.ext x2
  have ext3 := ((hE.trans x0).trans x1).trans x2
  let P0 : Int → Ps := fun j => if j = 0 then .tk p0 Tk.new else if j = 1 then .tk p1 Tk.new else .tk p2 Tk.new
  have hP : ∀ j, ∃ p, P0 j = .tk p Tk.new := by
    intro j; dsimp only [P0]; split
    · exact ⟨_, rfl⟩
    · split <;> exact ⟨_, rfl⟩
  have hH : Hp N C σ 0 P0 A (upL 0 n.toNat) τ3 := by
    refine ⟨by omega, hA3, hn4, by simpa using ok, ext3, ⟨frA, fun j _ _ => ?_, fun a b t _ _ _ _ ha _ => ?_, fun t t0 t1 => .inl (upL_mem.2 (by omega)), by omega⟩, fun j j0 j3 => ?_, fun a b a0 a3 b0 b3 e => ?_⟩
    · obtain ⟨p, hp⟩ := hP j
      rw [hp]
      exact ⟨⟨Int.le_refl 0, by decide⟩, by decide, rfl, .inl rfl⟩
    · obtain ⟨p, hp⟩ := hP a
      rw [hp] at ha; exact ha.elim
    · rcases (show j = 0 ∨ j = 1 ∨ j = 2 by omega) with rfl | rfl | rfl
      · exact ⟨x2 _ _ (x1 _ _ gp0), hA.new hp0, hE.none hp0⟩
      · exact ⟨x2 _ _ gp1, hA1.new hp1, (hE.trans x0).none hp1⟩
      · exact ⟨gp2, hA2.new hp2, ((hE.trans x0).trans x1).none hp2⟩
    · rcases (show a = 0 ∨ a = 1 ∨ a = 2 by omega) with rfl | rfl | rfl <;> rcases (show b = 0 ∨ b = 1 ∨ b = 2 by omega) with rfl | rfl | rfl <;> first | rfl | exact absurd e n01 | exact absurd e.symm n01 | exact absurd e n02 | exact absurd e.symm n02 | exact absurd e n12 | exact absurd e.symm n12
  refine xLoop_r (fun k ts ls υ => ∃ i P A F, k = (400 - i).toNat ∧ ts = [s, .int .i64 n, .int .i64 i] ∧ ls = [N.el C 0, c9 P] ∧ i ≤ 361 ∧ Hp N C σ i P A F υ) ?_
    (n := (400 - 0 : Int).toNat) ⟨0, P0, A, _, rfl, rfl, rfl, by omega, hH⟩
  rintro k ts ls υ ⟨i, P, A', F, rfl, rfl, rfl, i1, h⟩ R hR
  have hgk := hg.keep h.ext
  have i0 := h.i0
  have gL : sub (c9 P) 0 9 true = some (.agg (c9 P).toArray) := by rw [sub_l, if_pos (by rw [c9_len]; decide), List.drop_zero, List.take_of_length_le (by rw [c9_len]; decide)]
  have fin : w_law06_SlotShares_j3 (fun v x => v = Value.bool true) [.int .i64 n] [N.el C 0, c9 P] υ := by
    have hSn : C.S = n := hS
    rw [← hSn]
    simp only [w_law06_SlotShares_j3, w_law06_SlotShares_j3b, gL, xMove, xPickT, xPickF, xNil, xFld, xExt0, xExt1, xExt30, xExt31, xExt32, xAdd, xSub, xMul, xEql, xNeq, xLss, xLeq, xGtr, xGeq, xEqPN, xEqNN, xNePN, xNeNN, xEqBB, xNeBB, xNot, xConv, xLen, xMin, xMax, xIfc, xIfT, xIfF, xIfD, xJoinE, xOs, xCs, xFldV, List.getD_cons_zero, List.getD_cons_succ, Nat.zero_add, Nat.reduceAdd, Mem.get_set_same, Mem.set_set, if_true, if_false, Bool.not_true, Bool.not_false, decide_true, decide_false, decide_eq_true_eq, decide_not, Bool.not_eq_true, Bool.false_eq_true, reduceIte, Int.reduceLT, Int.reduceLE, Int.reduceEq, Int.reduceNeg, Int.reduceAdd, Int.reduceSub, locP_e, gBox_a, gBox_i, gBox_b, gBox_p, gLoad_s, gAlloc_s, gStore_a, gStore_i, gStore_b, gStore_p, sub_z, sub_s, lay_z, lay_s, List.length_cons, List.length_nil, Nat.reduceLeDiff, Nat.le_refl, List.drop_zero, List.drop_succ_cons, List.take_succ_cons, List.take_zero, List.drop_nil, List.cons_append, List.nil_append, List.all_cons, List.all_nil, oneB_i, oneB_b, oneB_p, oneB_sl, Bool.and_true, Nat.reduceLT, Nat.lt_irrefl, Nat.zero_lt_one, gBoxE, gBoxC, subE, subEC, subE0, subE1, subE2, subE3, subE4, subE6, subE7, subE8, subC, subC0, subC1, subC2, subC3, subC4, subC5, subC6]
    exact c_free hN hC hfr h (by omega) (by omega) fun τ => rfl
  have go : ∀ k : Int, 0 ≤ k → k < 3 → i < 361 → w_law06_SlotShares_j5 (fun v x => v = Value.bool true) (w_law06_SlotShares_j3 fun v x => v = Value.bool true) R (w_law06_SlotShares_j4 (fun v x => v = Value.bool true) (w_law06_SlotShares_j3 fun v x => v = Value.bool true) R) [s, .int .i64 n, .int .i64 i, .int .i64 k] [N.el C 0, c9 P] υ :=
    fun k k0 k3 hi => j5_run hN hC hfr h (by omega) k0 k3 fun P' A'' F' τ' h' => hR (400 - (i + 1)).toNat _ _ _ (by omega) ⟨i + 1, P', A'', F', rfl, rfl, rfl, by omega, h'⟩
  have km : 0 ≤ i.tmod 3 ∧ i.tmod 3 < 3 := by rw [Int.tmod_eq_emod_of_nonneg i0]; omega
  simp only [w_law06_SlotShares_l12, w_law06_SlotShares_l12b, hgk.len, xRem (show (3 : Int) ≠ 0 by decide), xMove, xPickT, xPickF, xNil, xFld, xExt0, xExt1, xExt30, xExt31, xExt32, xAdd, xSub, xMul, xEql, xNeq, xLss, xLeq, xGtr, xGeq, xEqPN, xEqNN, xNePN, xNeNN, xEqBB, xNeBB, xNot, xConv, xLen, xMin, xMax, xIfc, xIfT, xIfF, xIfD, xJoinE, xOs, xCs, xFldV, List.getD_cons_zero, List.getD_cons_succ, Nat.zero_add, Nat.reduceAdd, Mem.get_set_same, Mem.set_set, if_true, if_false, Bool.not_true, Bool.not_false, decide_true, decide_false, decide_eq_true_eq, decide_not, Bool.not_eq_true, Bool.false_eq_true, reduceIte, Int.reduceLT, Int.reduceLE, Int.reduceEq, Int.reduceNeg, Int.reduceAdd, Int.reduceSub]
  generalize IntKind.i64.wrap ((len : Int) + 60) = L
  split
  · by_cases c1 : i < len
    · by_cases c2 : i < 300
      · simp only [c1, c2, w_law06_SlotShares_j9, w_law06_SlotShares_j9b, xMove, xPickT, xPickF, xNil, xFld, xExt0, xExt1, xExt30, xExt31, xExt32, xAdd, xSub, xMul, xEql, xNeq, xLss, xLeq, xGtr, xGeq, xEqPN, xEqNN, xNePN, xNeNN, xEqBB, xNeBB, xNot, xConv, xLen, xMin, xMax, xIfc, xIfT, xIfF, xIfD, xJoinE, xOs, xCs, xFldV, List.getD_cons_zero, List.getD_cons_succ, Nat.zero_add, Nat.reduceAdd, Mem.get_set_same, Mem.set_set, if_true, if_false, Bool.not_true, Bool.not_false, decide_true, decide_false, decide_eq_true_eq, decide_not, Bool.not_eq_true, Bool.false_eq_true, reduceIte, Int.reduceLT, Int.reduceLE, Int.reduceEq, Int.reduceNeg, Int.reduceAdd, Int.reduceSub, locP_e, gBox_a, gBox_i, gBox_b, gBox_p, gLoad_s, gAlloc_s, gStore_a, gStore_i, gStore_b, gStore_p, sub_z, sub_s, lay_z, lay_s, List.length_cons, List.length_nil, Nat.reduceLeDiff, Nat.le_refl, List.drop_zero, List.drop_succ_cons, List.take_succ_cons, List.take_zero, List.drop_nil, List.cons_append, List.nil_append, List.all_cons, List.all_nil, oneB_i, oneB_b, oneB_p, oneB_sl, Bool.and_true, Nat.reduceLT, Nat.lt_irrefl, Nat.zero_lt_one, gBoxE, gBoxC, subE, subEC, subE0, subE1, subE2, subE3, subE4, subE6, subE7, subE8, subC, subC0, subC1, subC2, subC3, subC4, subC5, subC6]
        rw [hgk.ix i0 c1]
        obtain ⟨p1, p2, p3⟩ := pick3 (g i)
        simp only [xRem (show (3 : Int) ≠ 0 by decide), p1, xMove, xPickT, xPickF, xNil, xFld, xExt0, xExt1, xExt30, xExt31, xExt32, xAdd, xSub, xMul, xEql, xNeq, xLss, xLeq, xGtr, xGeq, xEqPN, xEqNN, xNePN, xNeNN, xEqBB, xNeBB, xNot, xConv, xLen, xMin, xMax, xIfc, xIfT, xIfF, xIfD, xJoinE, xOs, xCs, xFldV, List.getD_cons_zero, List.getD_cons_succ, Nat.zero_add, Nat.reduceAdd, Mem.get_set_same, Mem.set_set, if_true, if_false, Bool.not_true, Bool.not_false, decide_true, decide_false, decide_eq_true_eq, decide_not, Bool.not_eq_true, Bool.false_eq_true, reduceIte, Int.reduceLT, Int.reduceLE, Int.reduceEq, Int.reduceNeg, Int.reduceAdd, Int.reduceSub]
        exact go _ p2 p3 (by omega)
      · simp only [c1, c2, w_law06_SlotShares_j9, w_law06_SlotShares_j9b, xMove, xPickT, xPickF, xNil, xFld, xExt0, xExt1, xExt30, xExt31, xExt32, xAdd, xSub, xMul, xEql, xNeq, xLss, xLeq, xGtr, xGeq, xEqPN, xEqNN, xNePN, xNeNN, xEqBB, xNeBB, xNot, xConv, xLen, xMin, xMax, xIfc, xIfT, xIfF, xIfD, xJoinE, xOs, xCs, xFldV, List.getD_cons_zero, List.getD_cons_succ, Nat.zero_add, Nat.reduceAdd, Mem.get_set_same, Mem.set_set, if_true, if_false, Bool.not_true, Bool.not_false, decide_true, decide_false, decide_eq_true_eq, decide_not, Bool.not_eq_true, Bool.false_eq_true, reduceIte, Int.reduceLT, Int.reduceLE, Int.reduceEq, Int.reduceNeg, Int.reduceAdd, Int.reduceSub, locP_e, gBox_a, gBox_i, gBox_b, gBox_p, gLoad_s, gAlloc_s, gStore_a, gStore_i, gStore_b, gStore_p, sub_z, sub_s, lay_z, lay_s, List.length_cons, List.length_nil, Nat.reduceLeDiff, Nat.le_refl, List.drop_zero, List.drop_succ_cons, List.take_succ_cons, List.take_zero, List.drop_nil, List.cons_append, List.nil_append, List.all_cons, List.all_nil, oneB_i, oneB_b, oneB_p, oneB_sl, Bool.and_true, Nat.reduceLT, Nat.lt_irrefl, Nat.zero_lt_one, gBoxE, gBoxC, subE, subEC, subE0, subE1, subE2, subE3, subE4, subE6, subE7, subE8, subC, subC0, subC1, subC2, subC3, subC4, subC5, subC6]
        split
        · exact fin
        · exact go _ km.1 km.2 (by omega)
    · simp only [c1, w_law06_SlotShares_j9, w_law06_SlotShares_j9b, xMove, xPickT, xPickF, xNil, xFld, xExt0, xExt1, xExt30, xExt31, xExt32, xAdd, xSub, xMul, xEql, xNeq, xLss, xLeq, xGtr, xGeq, xEqPN, xEqNN, xNePN, xNeNN, xEqBB, xNeBB, xNot, xConv, xLen, xMin, xMax, xIfc, xIfT, xIfF, xIfD, xJoinE, xOs, xCs, xFldV, List.getD_cons_zero, List.getD_cons_succ, Nat.zero_add, Nat.reduceAdd, Mem.get_set_same, Mem.set_set, if_true, if_false, Bool.not_true, Bool.not_false, decide_true, decide_false, decide_eq_true_eq, decide_not, Bool.not_eq_true, Bool.false_eq_true, reduceIte, Int.reduceLT, Int.reduceLE, Int.reduceEq, Int.reduceNeg, Int.reduceAdd, Int.reduceSub, locP_e, gBox_a, gBox_i, gBox_b, gBox_p, gLoad_s, gAlloc_s, gStore_a, gStore_i, gStore_b, gStore_p, sub_z, sub_s, lay_z, lay_s, List.length_cons, List.length_nil, Nat.reduceLeDiff, Nat.le_refl, List.drop_zero, List.drop_succ_cons, List.take_succ_cons, List.take_zero, List.drop_nil, List.cons_append, List.nil_append, List.all_cons, List.all_nil, oneB_i, oneB_b, oneB_p, oneB_sl, Bool.and_true, Nat.reduceLT, Nat.lt_irrefl, Nat.zero_lt_one, gBoxE, gBoxC, subE, subEC, subE0, subE1, subE2, subE3, subE4, subE6, subE7, subE8, subC, subC0, subC1, subC2, subC3, subC4, subC5, subC6]
      split
      · exact fin
      · exact go _ km.1 km.2 (by omega)
  · exact fin
end Go.Fl
