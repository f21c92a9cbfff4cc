/- What the claim leans on, part 5: own readings of the program's functions, what they come to, laws of them. No condition. -/
import Derived.Test.YtbmcbcoaeclfbaaZActMany4
namespace Go.Fl
open Go
set_option linter.unusedVariables false
set_option linter.unusedSimpArgs false
variable {N : Nm} {A B : Ar} {σ : Mem} {K : Value → Mem → Prop} {C : Cf} {who : Int}
structure Bg where
 F : List Int
 o : Int → Int
 u : Int → Int
 lv : Int → Int
 nx : Int
def PhT (C : Cf) (b : Bg) (size : Int) (own : Bool) (k : Int) (m : Am) (w : Int → Int) : Prop :=
 Aw C b.F b.o b.u b.lv b.nx w ∧ m.a.size = size ∧ m.a.own = own ∧ m.a.pc = 0 ∧
  (m.a.tk = Tk.new ∧ k = 0 ∨ (∃ s F, b.F = s :: F ∧ m.a.tk = ⟨1, w 1, 0, s, false⟩) ∧ k = 1 ∨ (∃ s F, b.F = s :: F ∧ m.a.tk = ⟨2, w 1, topS (w (C.slot s + 1)), s, false⟩) ∧ k = 2)
theorem PhT.new {b : Bg} {w : Int → Int} (h : Aw C b.F b.o b.u b.lv b.nx w) {size : Int} {own : Bool} : PhT C b size own 0 (Am.new size own) w :=
 ⟨h, rfl, rfl, rfl, .inl ⟨rfl, rfl⟩⟩
theorem PhT.fit (hC : C.ok) {b : Bg} {size k bb : Int} {own : Bool} {m : Am} (h : PhT C b size own k m A.w) (ok : A.ok bb) : m.fit C A := by
 obtain ⟨hA, h1, h2, h3, h⟩ := h
 refine ⟨by omega, fun _ => ?_, fun e => absurd h3 e, fun e => absurd h3 e, fun e => by omega, fun e _ => by omega, fun e => by omega⟩
 have w1 := ok.w 1
 rcases h with ⟨e, _⟩ | ⟨⟨s, F, hF, e⟩, _⟩ | ⟨⟨s, F, hF, e⟩, _⟩
 ·rw [e]; exact ⟨⟨Int.le_refl 0, (by decide : (0 : Int) < 18446744073709551616)⟩, fun q => (by cases q), (by decide : (0 : Int) ≤ 0 + 1)⟩
 ·have hs := hA.fre.c.mem s (by rw [hF]; simp)
  rw [e]; exact ⟨w1, fun _ => hs, by show (0 : Int) ≤ 0 + 1; decide⟩
 ·have := topS_ge (A.w (C.slot s + 1)) (ok.w _).1
  rw [e]; exact ⟨w1, fun q => (by cases q), by show 0 ≤ topS (A.w (C.slot s + 1)) + 1; omega⟩
theorem PhT.step (hC : C.ok) {b : Bg} {size k bb : Int} {own : Bool} {m : Am} (h : PhT C b size own k m A.w) (ok : A.ok bb) (hb : bb < 4611686018427387904) (hcl : 0 ≤ classOf size) :
    ((m.step C who A).1 = false ∧ PhT C b size own (k + 1) (m.step C who A).2.1 (m.step C who A).2.2.w) ∨
    ((m.step C who A).1 = true ∧ b.F = [] ∧ (m.step C who A).2.1.a.oE = 7 ∧ (m.step C who A).2.1.a.oH = 0 ∧ (m.step C who A).2.1.a.oS = (m.step C who A).2.2.s ∧ Aw C b.F b.o b.u b.lv b.nx (m.step C who A).2.2.w) ∨
    ((m.step C who A).1 = false ∧ ∃ s F, b.F = s :: F ∧ (m.step C who A).2.1.a.pc = 1 ∧ (m.step C who A).2.1.a.at' = s ∧ (m.step C who A).2.1.a.size = size ∧ (m.step C who A).2.1.a.own = own ∧ Aw C F b.o b.u b.lv b.nx (m.step C who A).2.2.w) := by
  obtain ⟨hA, h1, h2, h3, h⟩ := h
  have hcl' : ¬ classOf m.a.size < 0 := by rw [h1]; omega
  have e : m.step C who A = (let r := m.a.tk.step C who A
    if r.1 = false then (false, { m with a := { m.a with tk := r.2.1 } }, r.2.2)
    else if r.2.1.ok = true then (false, { m with a := { m.a with tk := r.2.1, at' := r.2.1.slot, pc := 1 } }, r.2.2)
    else (true, { m with a := { m.a with tk := r.2.1, at' := 0, pc := 1, oE := 7, oH := 0, oV := 0, oS := r.2.2.s } }, r.2.2)) := by
    unfold Am.step; rw [if_pos h3, if_neg hcl']
  rw [e]
  rcases h with ⟨q, hk⟩ | ⟨⟨s, F, hF, q⟩, hk⟩ | ⟨⟨s, F, hF, q⟩, hk⟩
  · rw [q, Tk.new, Tk.step0]
    cases hF : b.F with
    | nil =>
      have ht : topS (A.w 1) < 0 := by have : topS (A.w 1) = -1 := by have := hA.fre.c; rw [hF] at this; exact this
                                       omega
      simp only [ht, decide_true, Bool.true_eq_false, Bool.false_eq_true, if_false]
      rw [← hF]
      exact .inr (.inl ⟨trivial, by first | trivial | exact hF, trivial, trivial, trivial, hA⟩)
    | cons s F =>
      have hc := hA.fre.c
      rw [hF] at hc
      have ht : ¬ topS (A.w 1) < 0 := by have := hc.1; have := hc.2.1; omega
      simp only [ht, decide_false, if_true]
      exact .inl ⟨trivial, hA, h1, h2, h3, .inr (.inl ⟨⟨s, F, hF, by rw [hc.1]; rfl⟩, by omega⟩)⟩
  · rw [q, Tk.step1]
    simp only [if_true]
    exact .inl ⟨trivial, hA, h1, h2, h3, .inr (.inr ⟨⟨s, F, hF, rfl⟩, by omega⟩)⟩
  · have hc := hA.fre.c
    rw [hF] at hc
    rw [q, Tk.step2]
    simp only [decide_true, Bool.true_eq_false, if_false, if_true]
    refine .inr (.inr ⟨trivial, s, F, hF, trivial, rfl, h1, h2, ?_⟩)
    have a1 := aft_cas (who := who) (A := A) (a := 1) (o := A.w 1) (v := putTop (topS (A.w (C.slot s + 1))) (topN (A.w 1) + 1)) ok (by omega)
    rw [if_pos rfl] at a1
    have hA' := hA
    rw [hF] at hA'
    have := hA'.took hC
    unfold tookW at this
    rw [hc.1] at this
    rw [a1.w]; exact this
structure Has (C : Cf) (size : Int) (own : Bool) (s : Int) (m : Am) : Prop where
 size : m.a.size = size
 own : m.a.own = own
 at' : m.a.at' = s
def PhP (C : Cf) (b : Bg) (F : List Int) (size : Int) (own : Bool) (s ge k : Int) (m : Am) (w : Int → Int) : Prop :=
 Has C size own s m ∧ m.a.gen = ge ∧ m.a.pc = 2 ∧ m.t.fit C ∧ Ph C b.o b.u b.nx (classOf size) k m.t w ∧ Rs C F b.u b.lv w
theorem PhP.step (hC : C.ok) {b : Bg} {F : List Int} {size s ge k bb : Int} {own : Bool} {m : Am} (h : PhP C b F size own s ge k m A.w) (hP : Pa C A bb) (hb : bb < 4611686018427387904) (hcl : 0 ≤ classOf size) (hcl3 : classOf size ≤ 3) (hu : ∀ j, 0 ≤ j → j < C.C → 0 ≤ b.u j) :
    ((m.step C who A).1 = false ∧ PhP C b F size own s ge (k + 1) (m.step C who A).2.1 (m.step C who A).2.2.w) ∨
    ((m.step C who A).1 = false ∧ Rs C F b.u b.lv (m.step C who A).2.2.w ∧ Has C size own s (m.step C who A).2.1 ∧ (m.step C who A).2.1.a.gen = ge ∧ Dn C b.o b.u b.nx (classOf size) (m.step C who A).2.1.t (m.step C who A).2.2.w ∧
      ((m.step C who A).2.1.t.ok = true ∧ (m.step C who A).2.1.a.pc = 3 ∧ (m.step C who A).2.1.a.sa = (m.step C who A).2.1.t.sa ∧ (m.step C who A).2.1.a.sc = (m.step C who A).2.1.t.sc ∨
       (m.step C who A).2.1.t.ok = false ∧ (m.step C who A).2.1.a.pc = 7 ∧ (m.step C who A).2.1.a.oE = 6 ∧ (m.step C who A).2.1.a.oH = 0 ∧ (m.step C who A).2.1.a.oS = (m.step C who A).2.2.s ∧ (m.step C who A).2.1.g = ⟨0, s, 0⟩)) := by
  obtain ⟨hs, hg, h2, hf, hp, hr⟩ := h
  have e : m.step C who A = (let r := m.t.step C who A
    if r.1 = false then (false, { m with t := r.2.1 }, r.2.2)
    else if r.2.1.ok = true then (false, { m with a := { m.a with sa := r.2.1.sa, sc := r.2.1.sc, pc := 3 }, t := r.2.1 }, r.2.2)
    else (false, { m with a := { m.a with sa := 0, sc := 0, pc := 7, oE := 6, oH := 0, oV := 0, oS := r.2.2.s }, t := r.2.1, g := ⟨0, m.a.at', 0⟩ }, r.2.2)) := by
    unfold Am.step; rw [if_neg (by omega), if_neg (by omega), if_pos h2]
  obtain ⟨q1, q2, a, q3⟩ := Pl.go (who := who) hC hb hP hf
  have hr' := hr.go hC hu hf q3
  have hst := hp.step (who := who) hC hcl hcl3 hP.ok hb hf
  rw [e]
  generalize m.t.step C who A = r at *
  obtain ⟨d, t', A'⟩ := r
  dsimp only at *
  cases d with
  | false =>
    simp only [Bool.false_eq_true, if_false, if_true] at hst ⊢
    exact .inl ⟨trivial, ⟨hs.size, hs.own, hs.at'⟩, hg, h2, q2 rfl, hst, hr'⟩
  | true =>
    simp only [if_true, Bool.true_eq_false, if_false] at hst ⊢
    cases o : t'.ok with
    | true =>
      simp only [if_true]
      exact .inr ⟨trivial, hr', ⟨hs.size, hs.own, hs.at'⟩, hg, hst, .inl (by simp [o])⟩
    | false =>
      simp only [Bool.false_eq_true, if_false]
      exact .inr ⟨trivial, hr', ⟨hs.size, hs.own, hs.at'⟩, hg, hst, .inr (by simp [o, hs.at'])⟩
theorem Ph.new {o u w : Int → Int} {nx c : Int} (h : Alo C o u nx w) : Ph C o u nx c 0 (Pl.new c) w := by
 have hbd := h.bd
 refine ⟨rfl, rfl, ?_⟩
 by_cases gd : good C o u c
 ·exact .inl ⟨.inl ⟨gd, h⟩, .inl ⟨rfl, by omega⟩⟩
 ·exact .inr ⟨gd, .inl ⟨h, .inl ⟨rfl, by omega⟩⟩⟩
theorem see_step (hC : C.ok) {b : Bg} {F : List Int} {size s : Int} {own : Bool} {m : Am} (hA : Aw C F b.o b.u b.lv b.nx A.w) (hs : Has C size own s m) (h1 : m.a.pc = 1) (hcl : 0 ≤ classOf size) (hcl3 : classOf size ≤ 3) :
  (m.step C who A).1 = false ∧ PhP C b F size own s (slG (A.w (C.slot s))) 0 (m.step C who A).2.1 (m.step C who A).2.2.w := by
 have e : m.step C who A = (false, { m with a := { m.a with gen := slG (A.w (C.slot m.a.at')), pc := 2 }, t := Pl.new (classOf m.a.size) }, (A.by who).load (C.slot m.a.at')) := by
  unfold Am.step; rw [if_neg (by omega), if_pos h1]
 rw [e]
 refine ⟨rfl, ⟨hs.size, hs.own, hs.at'⟩, by show slG (A.w (C.slot m.a.at')) = _; rw [hs.at'], rfl, ?_, ?_, hA.rs⟩
 ·show (Pl.new (classOf m.a.size)).fit C
  rw [hs.size]; exact Pl.new_fit hC hcl hcl3
 ·show Ph C b.o b.u b.nx (classOf size) 0 (Pl.new (classOf m.a.size)) A.w
  rw [hs.size]; exact Ph.new hA.alo
structure Spt (C : Cf) (size : Int) (own : Bool) (s ge j i : Int) (u : Int → Int) (m : Am) : Prop where
 has : Has C size own s m
 gen : m.a.gen = ge
 sc : m.a.sc = j
 sa : m.a.sa = C.base j + i
 j0 : 0 ≤ j ∧ j < C.C
 i0 : 0 ≤ i ∧ i + roomOf (classOf size) ≤ u j ∧ u j ≤ C.W
theorem count_step (hC : C.ok) {F : List Int} {o u lv : Int → Int} {nx size s ge j i bb : Int} {own : Bool} {m : Am} (hA : Aw C F o u lv nx A.w) (hs : Spt C size own s ge j i u m) (h3 : m.a.pc = 3) (ok : A.ok bb) (hb : bb < 4611686018427387904) (hl : 0 ≤ lv j + roomOf (classOf size) ∧ lv j + roomOf (classOf size) < 18446744073709551616) :
  (m.step C who A).1 = false ∧ (m.step C who A).2.1.a.pc = 4 ∧ Spt C size own s ge j i u (m.step C who A).2.1 ∧ Aw C F o u (upd lv j (lv j + roomOf (classOf size))) nx (m.step C who A).2.2.w := by
 have e : m.step C who A = (false, { m with a := { m.a with pc := 4 } }, (A.by who).add (C.chunk m.a.sc + 1) (roomOf (classOf m.a.size))) := by
  unfold Am.step; rw [if_neg (by omega), if_neg (by omega), if_neg (by omega), if_pos h3]
 rw [e]
 refine ⟨rfl, rfl, ⟨⟨hs.has.size, hs.has.own, hs.has.at'⟩, hs.gen, hs.sc, hs.sa, hs.j0, hs.i0⟩, ?_⟩
 have hw : ((A.by who).add (C.chunk m.a.sc + 1) (roomOf (classOf m.a.size))).w = upd A.w (C.chunk j + 1) (lv j + roomOf (classOf size)) := by
  show upd A.w (C.chunk m.a.sc + 1) (IntKind.u64.wrap (A.w (C.chunk m.a.sc + 1) + roomOf (classOf m.a.size))) = _
  rw [hs.sc, hs.has.size, hA.live j hs.j0.1 hs.j0.2, IntWalk.u64_in _ (by omega)]
 show Aw C F o u _ nx ((A.by who).add (C.chunk m.a.sc + 1) (roomOf (classOf m.a.size))).w
 rw [hw]
 exact hA.lives hC hs.j0.1 hs.j0.2
theorem head_step (hC : C.ok) {F : List Int} {o u lv : Int → Int} {nx size s ge j i : Int} {own : Bool} {m : Am} (hA : Aw C F o u lv nx A.w) (hs : Spt C size own s ge j i u m) (h4 : m.a.pc = 4) (hcl : 0 ≤ classOf size) (hcl3 : classOf size ≤ 3) :
  (m.step C who A).1 = false ∧ (m.step C who A).2.1.a.pc = 5 ∧ Spt C size own s ge j i u (m.step C who A).2.1 ∧ Aw C F o u lv nx (m.step C who A).2.2.w ∧ (m.step C who A).2.2.w = upd A.w (C.base j + i) (putHead 1 size s ge own) := by
 have e : m.step C who A = (false, { m with a := { m.a with pc := 5 } }, (A.by who).store m.a.sa (putHead 1 m.a.size m.a.at' m.a.gen m.a.own)) := by
  unfold Am.step; rw [if_neg (by omega), if_neg (by omega), if_neg (by omega), if_neg (by omega), if_pos h4]
 have hr := room_bd hcl hcl3
 have hi := hs.i0
 have hw : ((A.by who).store m.a.sa (putHead 1 m.a.size m.a.at' m.a.gen m.a.own)).w = upd A.w (C.base j + i) (putHead 1 size s ge own) := by
  rw [store_w, hs.sa, hs.has.size, hs.has.at', hs.gen, hs.has.own]; rfl
 rw [e]
 refine ⟨rfl, rfl, ⟨⟨hs.has.size, hs.has.own, hs.has.at'⟩, hs.gen, hs.sc, hs.sa, hs.j0, hs.i0⟩, ?_, hw⟩
 show Aw C F o u lv nx ((A.by who).store m.a.sa (putHead 1 m.a.size m.a.at' m.a.gen m.a.own)).w
 rw [hw]
 exact hA.word hC hs.j0.1 hs.j0.2 hi.1 (by omega) (by omega)
theorem show_step (hC : C.ok) {F : List Int} {o u lv : Int → Int} {nx size s ge j i bb : Int} {own : Bool} {m : Am} (hA : Aw C F o u lv nx A.w) (hs : Spt C size own s ge j i u m) (h5 : m.a.pc = 5) (s0 : 0 ≤ s ∧ s < C.S) (ok : A.ok bb) (hb : bb < 4611686018427387904) :
  (m.step C who A).1 = false ∧ (m.step C who A).2.1.a.pc = 6 ∧ Spt C size own s ge j i u (m.step C who A).2.1 ∧ Aw C F o u lv nx (m.step C who A).2.2.w ∧ (m.step C who A).2.2.w = upd A.w (C.slot s) (putSlot 1 (C.base j + i) ge 0) ∧
   (m.step C who A).2.1.a.oE = 0 ∧ (m.step C who A).2.1.a.oH = putHandle s ge ∧ (m.step C who A).2.1.a.oS = A.s + 1 := by
 have e : m.step C who A = (false, { m with a := { m.a with pc := 6, oE := 0, oH := putHandle m.a.at' m.a.gen, oV := 0, oS := ((A.by who).store (C.slot m.a.at') (putSlot 1 m.a.sa m.a.gen 0)).s } }, (A.by who).store (C.slot m.a.at') (putSlot 1 m.a.sa m.a.gen 0)) := by
  unfold Am.step; rw [if_neg (by omega), if_neg (by omega), if_neg (by omega), if_neg (by omega), if_neg (by omega), if_pos h5]
 have a1 := aft_store (who := who) (A := A) (a := C.slot m.a.at') (v := putSlot 1 m.a.sa m.a.gen 0) ok (by omega)
 have hw : ((A.by who).store (C.slot m.a.at') (putSlot 1 m.a.sa m.a.gen 0)).w = upd A.w (C.slot s) (putSlot 1 (C.base j + i) ge 0) := by
  rw [a1.w, hs.sa, hs.has.at', hs.gen]
 rw [e]
 refine ⟨rfl, rfl, ⟨⟨hs.has.size, hs.has.own, hs.has.at'⟩, hs.gen, hs.sc, hs.sa, hs.j0, hs.i0⟩, ?_, hw, rfl, by show putHandle m.a.at' m.a.gen = _; rw [hs.has.at', hs.gen], a1.s⟩
 show Aw C F o u lv nx ((A.by who).store (C.slot m.a.at') (putSlot 1 m.a.sa m.a.gen 0)).w
 rw [hw]
 exact hA.slotw hC s0.1 s0.2
theorem ready_step (hC : C.ok) {F : List Int} {o u lv : Int → Int} {nx size s ge j i : Int} {own : Bool} {m : Am} (hA : Aw C F o u lv nx A.w) (hs : Spt C size own s ge j i u m) (h6 : m.a.pc = 6) (hcl : 0 ≤ classOf size) (hcl3 : classOf size ≤ 3) :
  (m.step C who A).1 = true ∧ (m.step C who A).2.1 = m ∧ Aw C F o u lv nx (m.step C who A).2.2.w ∧ (m.step C who A).2.2.w = upd A.w (C.base j + i) (putHead 2 size s ge own) := by
 have e : m.step C who A = (true, m, (A.by who).store m.a.sa (putHead 2 m.a.size m.a.at' m.a.gen m.a.own)) := by
  unfold Am.step; rw [if_neg (by omega), if_neg (by omega), if_neg (by omega), if_neg (by omega), if_neg (by omega), if_neg (by omega), if_pos h6]
 have hr := room_bd hcl hcl3
 have hi := hs.i0
 have hw : ((A.by who).store m.a.sa (putHead 2 m.a.size m.a.at' m.a.gen m.a.own)).w = upd A.w (C.base j + i) (putHead 2 size s ge own) := by
  rw [store_w, hs.sa, hs.has.size, hs.has.at', hs.gen, hs.has.own]; rfl
 rw [e]
 refine ⟨rfl, rfl, ?_, hw⟩
 show Aw C F o u lv nx ((A.by who).store m.a.sa (putHead 2 m.a.size m.a.at' m.a.gen m.a.own)).w
 rw [hw]
 exact hA.word hC hs.j0.1 hs.j0.2 hi.1 (by omega) (by omega)
def PhG (C : Cf) (F : List Int) (o u lv : Int → Int) (nx s : Int) (k : Int) (m : Am) (w : Int → Int) : Prop :=
 m.a.pc = 7 ∧ (0 ≤ s ∧ s < C.S) ∧ s ∉ F ∧ (m.g = ⟨0, s, 0⟩ ∧ k = 0 ∧ Aw C F o u lv nx w ∨ m.g = ⟨1, s, w 1⟩ ∧ k = 1 ∧ Aw C F o u lv nx w ∨
  m.g = ⟨2, s, w 1⟩ ∧ k = 2 ∧ ∃ w0, Aw C F o u lv nx w0 ∧ w0 1 = w 1 ∧ w = upd w0 (C.slot s + 1) (putTop (topS (w0 1)) 0))
theorem PhG.step (hC : C.ok) {F : List Int} {o u lv : Int → Int} {nx s k bb : Int} {m : Am} (h : PhG C F o u lv nx s k m A.w) (ok : A.ok bb) (hb : bb < 4611686018427387904) :
  (m.step C who A).2.1.a = m.a ∧ (((m.step C who A).1 = false ∧ PhG C F o u lv nx s (k + 1) (m.step C who A).2.1 (m.step C who A).2.2.w) ∨ ((m.step C who A).1 = true ∧ Aw C (s :: F) o u lv nx (m.step C who A).2.2.w)) := by
 obtain ⟨h7, s0, hn, h⟩ := h
 have hT := hC.T
 have hS := hC.S
 have e : m.step C who A = ((m.g.step C who A).1, { m with g := (m.g.step C who A).2.1 }, (m.g.step C who A).2.2) := by
  unfold Am.step; rw [if_neg (by omega), if_neg (by omega), if_neg (by omega), if_neg (by omega), if_neg (by omega), if_neg (by omega), if_neg (by omega)]
 rw [e]
 refine ⟨rfl, ?_⟩
 rcases h with ⟨q, hk, hA⟩ | ⟨q, hk, hA⟩ | ⟨q, hk, w0, hA, e1, e2⟩
 ·rw [q, Gv.step0]
  exact .inl ⟨rfl, h7, s0, hn, .inr (.inl ⟨rfl, by omega, hA⟩)⟩
 ·rw [q, Gv.step1]
  have a1 := aft_store (who := who) (A := A) (a := C.slot s + 1) (v := putTop (topS (A.w 1)) 0) ok (by omega)
  have n1 : upd A.w (C.slot s + 1) (putTop (topS (A.w 1)) 0) 1 = A.w 1 := upd_ne _ _ (by unfold Cf.slot; omega)
  refine .inl ⟨rfl, h7, s0, hn, .inr (.inr ⟨?_, by omega, A.w, hA, ?_, a1.w⟩)⟩
  ·show Gv.mk 2 s (A.w 1) = ⟨2, s, _⟩; rw [a1.w, n1]
  ·rw [a1.w, n1]
 ·rw [q, Gv.step2]
  have a1 := aft_cas (who := who) (A := A) (a := 1) (o := A.w 1) (v := putTop s (topN (A.w 1) + 1)) ok (by omega)
  rw [if_pos rfl] at a1
  refine .inr ⟨decide_eq_true rfl, ?_⟩
  show Aw C (s :: F) o u lv nx ((A.by who).cas 1 (A.w 1) (putTop s (topN (A.w 1) + 1))).w
  have := hA.gave hC s0 hn
  unfold gaveW at this
  rw [a1.w, e2, upd_ne _ _ (by unfold Cf.slot; omega)]
  exact this
end Go.Fl
namespace Go.Fl
open Go
set_option linter.unusedVariables false
set_option linter.unusedSimpArgs false
variable {N : Nm} {A B : Ar} {σ : Mem} {K : Value → Mem → Prop} {C : Cf} {who : Int}
structure Tch (C : Cf) (A : Ar) (m : Am) (r : Bool × Am × Ar) (a : Int) : Prop where
 la : r.2.2.la = a
 s : r.2.2.s = A.s + 1
 n : r.2.2.n = A.n
 w : ∀ i, i ≠ a → r.2.2.w i = A.w i
 kind : (m.a.pc = 0 ∨ m.a.pc = 7) ∧ (a = 1 ∨ ∃ s, 0 ≤ s ∧ s < C.S ∧ a = C.slot s + 1) ∨ m.a.pc = 1 ∧ a = C.slot m.a.at' ∧ r.2.2.w = A.w ∨ m.a.pc = 2 ∧ (a = 2 + m.t.cls ∨ a = C.chunk m.t.at') ∨ m.a.pc = 3 ∧ a = C.chunk m.a.sc + 1 ∨
  (m.a.pc = 4 ∨ m.a.pc = 6) ∧ a = m.a.sa ∨ m.a.pc = 5 ∧ a = C.slot m.a.at'
theorem Am.go (hC : C.ok) {b : Int} (hb : b < 4611686018427387904) (hP : Pa C A b) {m : Am} (hf : m.fit C A) (hc : ¬ (m.a.pc = 0 ∧ classOf m.a.size < 0)) (hsa : m.a.pc = 4 ∨ m.a.pc = 6 → C.base 0 ≤ m.a.sa) :
  Pa C (m.step C who A).2.2 (b + 1) ∧ ∃ a, Tch C A m (m.step C who A) a := by
 obtain ⟨ok, n, op⟩ := hP
 have hT := hC.T
 have hS := hC.S
 have hCC := hC.C
 have hb0 : C.base 0 = 6 + C.T + 2 * C.S + 3 * C.C := by unfold Cf.base; omega
 have L : ∀ a, Pa C ((A.by who).load a) (b + 1) := fun a => ⟨(aft_load ok (by omega)).ok (by decide) ok ok.w, n, op⟩
 have W : ∀ a v, (∀ c, 0 ≤ c → c ≤ 3 → 2 + c ≠ a) → 0 ≤ v ∧ v < 18446744073709551616 → Pa C ((A.by who).store a v) (b + 1) := by
  intro a v ha hv
  have a1 := aft_store (who := who) (A := A) (a := a) (v := v) ok (by omega)
  refine ⟨a1.ok (by decide) ok fun i => upd_cases (P := fun x => 0 ≤ x ∧ x < 18446744073709551616) hv (ok.w i), n, fun c c0 c3 => ?_⟩
  rw [a1.w, upd_ne _ _ (ha c c0 c3)]; exact op c c0 c3
 have Z : ∀ a o v, (∀ c, 0 ≤ c → c ≤ 3 → 2 + c ≠ a) → 0 ≤ v ∧ v < 18446744073709551616 → Pa C ((A.by who).cas a o v) (b + 1) := by
  intro a o v ha hv
  have a1 := aft_cas (who := who) (A := A) (a := a) (o := o) (v := v) ok (by omega)
  refine ⟨a1.ok (by decide) ok fun i => ?_, by rw [a1.n]; exact n, fun c c0 c3 => ?_⟩
  ·split
   ·exact upd_cases (P := fun x => 0 ≤ x ∧ x < 18446744073709551616) hv (ok.w i)
   ·exact ok.w i
  ·rw [a1.w, aw (ha c c0 c3)]; exact op c c0 c3
 have sL := fun a => (aft_load (who := who) (a := a) ok (by omega)).s
 have sW := fun a v => (aft_store (who := who) (a := a) (v := v) ok (by omega)).s
 have aC := fun a o v => aft_cas (who := who) (A := A) (a := a) (o := o) (v := v) ok (by omega)
 have hpc := hf.pc
 by_cases c0 : m.a.pc = 0
 ·have hcl : ¬ classOf m.a.size < 0 := fun q => hc ⟨c0, q⟩
  obtain ⟨t1, t2, t3⟩ := hf.tk c0
  have e : (m.step C who A).2.2 = (m.a.tk.step C who A).2.2 := by
   unfold Am.step; rw [if_pos c0, if_neg hcl]; dsimp only
   split
   ·rfl
   ·split <;> rfl
  have key : ∃ a, (a = 1 ∨ ∃ s, 0 ≤ s ∧ s < C.S ∧ a = C.slot s + 1) ∧ Pa C (m.a.tk.step C who A).2.2 (b + 1) ∧ (m.a.tk.step C who A).2.2.la = a ∧ (m.a.tk.step C who A).2.2.s = A.s + 1 ∧ (m.a.tk.step C who A).2.2.n = A.n ∧ ∀ i, i ≠ a → (m.a.tk.step C who A).2.2.w i = A.w i := by
   unfold Tk.step
   by_cases q0 : m.a.tk.pc = 0
   ·rw [if_pos q0]; exact ⟨1, .inl rfl, L 1, rfl, sL 1, rfl, fun _ _ => rfl⟩
   ·rw [if_neg q0]
    by_cases q1 : m.a.tk.pc = 1
    ·rw [if_pos q1]; have := t2 q1; exact ⟨_, .inr ⟨_, this.1, this.2, rfl⟩, L _, rfl, sL _, rfl, fun _ _ => rfl⟩
    ·rw [if_neg q1]; exact ⟨1, .inl rfl, Z _ _ _ (fun c c0 c3 => by omega) (putTop_in _ _), cas_la, (aC _ _ _).s, (aC _ _ _).n, fun i hi => by rw [(aC _ _ _).w, aw hi]⟩
  obtain ⟨a, k1, k2, k3, k4, k5, k6⟩ := key
  exact ⟨by rw [e]; exact k2, a, ⟨by rw [e]; exact k3, by rw [e]; exact k4, by rw [e]; exact k5, by rw [e]; exact k6, .inl ⟨.inl c0, k1⟩⟩⟩
 have hat := hf.at' c0
 have hcl := hf.cl c0
 have hsl : C.slot m.a.at' = 6 + C.T + 2 * m.a.at' := rfl
 by_cases c1 : m.a.pc = 1
 ·have e : (m.step C who A).2.2 = (A.by who).load (C.slot m.a.at') := by unfold Am.step; rw [if_neg c0, if_pos c1]
  exact ⟨by rw [e]; exact L _, _, ⟨by rw [e]; exact load_la, by rw [e]; exact sL _, by rw [e]; rfl, fun i _ => by rw [e]; rfl, .inr (.inl ⟨c1, rfl, by rw [e]; rfl⟩)⟩⟩
 by_cases c2 : m.a.pc = 2
 ·obtain ⟨f1, f2⟩ := hf.pl c2
  obtain ⟨g1, _, a, g3⟩ := Pl.go (who := who) hC hb ⟨ok, n, op⟩ f1
  have e : (m.step C who A).2.2 = (m.t.step C who A).2.2 := by
   unfold Am.step; rw [if_neg c0, if_neg c1, if_pos c2]; dsimp only
   split
   ·rfl
   ·split <;> rfl
  exact ⟨by rw [e]; exact g1, a, ⟨by rw [e]; exact g3.la, by rw [e]; exact g3.s, by rw [e]; exact g3.n, by rw [e]; exact g3.w, .inr (.inr (.inl ⟨c2, g3.wh⟩))⟩⟩
 by_cases c3 : m.a.pc = 3
 ·have e : (m.step C who A).2.2 = (A.by who).add (C.chunk m.a.sc + 1) (roomOf (classOf m.a.size)) := by unfold Am.step; rw [if_neg c0, if_neg c1, if_neg c2, if_pos c3]
  have hsc := (hf.spot (by omega) (by omega)).1
  have hcj : C.chunk m.a.sc = 6 + C.T + 2 * C.S + 3 * m.a.sc := rfl
  have hwr : 0 ≤ IntKind.u64.wrap (A.w (C.chunk m.a.sc + 1) + roomOf (classOf m.a.size)) ∧ IntKind.u64.wrap (A.w (C.chunk m.a.sc + 1) + roomOf (classOf m.a.size)) < 18446744073709551616 := by
   show 0 ≤ (A.w (C.chunk m.a.sc + 1) + roomOf (classOf m.a.size)) % 18446744073709551616 ∧ (A.w (C.chunk m.a.sc + 1) + roomOf (classOf m.a.size)) % 18446744073709551616 < 18446744073709551616
   omega
  have := W (C.chunk m.a.sc + 1) (IntKind.u64.wrap (A.w (C.chunk m.a.sc + 1) + roomOf (classOf m.a.size))) (fun c c0 c3 => by omega) hwr
  exact ⟨by rw [e]; exact this, _, ⟨by rw [e]; rfl, by rw [e]; exact sW _ _, by rw [e]; rfl, fun i hi => by rw [e]; exact upd_ne _ _ hi, .inr (.inr (.inr (.inl ⟨c3, rfl⟩)))⟩⟩
 by_cases c4 : m.a.pc = 4
 ·have e : (m.step C who A).2.2 = (A.by who).store m.a.sa (putHead 1 m.a.size m.a.at' m.a.gen m.a.own) := by unfold Am.step; rw [if_neg c0, if_neg c1, if_neg c2, if_neg c3, if_pos c4]
  have hs := hsa (.inl c4)
  exact ⟨by rw [e]; exact W _ _ (fun c c0 c3 => by omega) (putHead_in _ _ _ _ _), _, ⟨by rw [e]; rfl, by rw [e]; exact sW _ _, by rw [e]; rfl, fun i hi => by rw [e]; exact upd_ne _ _ hi, .inr (.inr (.inr (.inr (.inl ⟨.inl c4, rfl⟩))))⟩⟩
 by_cases c5 : m.a.pc = 5
 ·have e : (m.step C who A).2.2 = (A.by who).store (C.slot m.a.at') (putSlot 1 m.a.sa m.a.gen 0) := by unfold Am.step; rw [if_neg c0, if_neg c1, if_neg c2, if_neg c3, if_neg c4, if_pos c5]
  exact ⟨by rw [e]; exact W _ _ (fun c c0 c3 => by omega) (putSlot_in _ _ _ _), _, ⟨by rw [e]; rfl, by rw [e]; exact sW _ _, by rw [e]; rfl, fun i hi => by rw [e]; exact upd_ne _ _ hi, .inr (.inr (.inr (.inr (.inr ⟨c5, rfl⟩))))⟩⟩
 by_cases c6 : m.a.pc = 6
 ·have e : (m.step C who A).2.2 = (A.by who).store m.a.sa (putHead 2 m.a.size m.a.at' m.a.gen m.a.own) := by unfold Am.step; rw [if_neg c0, if_neg c1, if_neg c2, if_neg c3, if_neg c4, if_neg c5, if_pos c6]
  have hs := hsa (.inr c6)
  exact ⟨by rw [e]; exact W _ _ (fun c c0 c3 => by omega) (putHead_in _ _ _ _ _), _, ⟨by rw [e]; rfl, by rw [e]; exact sW _ _, by rw [e]; rfl, fun i hi => by rw [e]; exact upd_ne _ _ hi, .inr (.inr (.inr (.inr (.inl ⟨.inr c6, rfl⟩))))⟩⟩
 have c7 : m.a.pc = 7 := by omega
 obtain ⟨g1, g2⟩ := hf.gv c7
 have e : (m.step C who A).2.2 = (m.g.step C who A).2.2 := by unfold Am.step; rw [if_neg c0, if_neg c1, if_neg c2, if_neg c3, if_neg c4, if_neg c5, if_neg c6]
 have key : ∃ a, (a = 1 ∨ ∃ s, 0 ≤ s ∧ s < C.S ∧ a = C.slot s + 1) ∧ Pa C (m.g.step C who A).2.2 (b + 1) ∧ (m.g.step C who A).2.2.la = a ∧ (m.g.step C who A).2.2.s = A.s + 1 ∧ (m.g.step C who A).2.2.n = A.n ∧ ∀ i, i ≠ a → (m.g.step C who A).2.2.w i = A.w i := by
  have hsg : C.slot m.g.slot = 6 + C.T + 2 * m.g.slot := rfl
  unfold Gv.step
  by_cases q0 : m.g.pc = 0
  ·rw [if_pos q0]; exact ⟨1, .inl rfl, L 1, rfl, sL 1, rfl, fun _ _ => rfl⟩
  ·rw [if_neg q0]
   by_cases q1 : m.g.pc = 1
   ·rw [if_pos q1]; exact ⟨_, .inr ⟨_, g2.1, g2.2, rfl⟩, W _ _ (fun c c0 c3 => by omega) (putTop_in _ _), rfl, sW _ _, rfl, fun i hi => upd_ne _ _ hi⟩
   ·rw [if_neg q1]; exact ⟨1, .inl rfl, Z _ _ _ (fun c c0 c3 => by omega) (putTop_in _ _), cas_la, (aC _ _ _).s, (aC _ _ _).n, fun i hi => by rw [(aC _ _ _).w, aw hi]⟩
 obtain ⟨a, k1, k2, k3, k4, k5, k6⟩ := key
 exact ⟨by rw [e]; exact k2, a, ⟨by rw [e]; exact k3, by rw [e]; exact k4, by rw [e]; exact k5, by rw [e]; exact k6, .inl ⟨.inr c7, k1⟩⟩⟩
end Go.Fl
namespace Go.Fl
open Go
set_option linter.unusedVariables false
set_option linter.unusedSimpArgs false
variable {N : Nm} {A B : Ar} {σ : Mem} {K : Value → Mem → Prop} {C : Cf} {who : Int}
def Got (C : Cf) (b : Bg) (F : List Int) (c j : Int) (b' : Bg) : Prop :=
 good C b.o b.u c ∧ j = b.o c ∧ b' = ⟨F, b.o, upd b.u j (b.u j + roomOf c), b.lv, b.nx⟩ ∨
 ¬ good C b.o b.u c ∧ b.nx < C.C ∧ j = b.nx ∧ b' = ⟨F, upd b.o c b.nx, upd b.u j (b.u j + roomOf c), b.lv, b.nx + 1⟩
def Bg.aw (b : Bg) (C : Cf) (w : Int → Int) : Prop := Aw C b.F b.o b.u b.lv b.nx w
def Bg.count (b : Bg) (j n : Int) : Bg := { b with lv := upd b.lv j (b.lv j + n) }
structure Fw (C : Cf) (b : Bg) (ch : Prop) (w0 w : Int → Int) : Prop where
 slot : ∀ t, 0 ≤ t → t < C.S → (ch → ∀ F, b.F ≠ t :: F) → w (C.slot t) = w0 (C.slot t)
 word : ∀ j i, 0 ≤ j → j < C.C → 0 ≤ i → i < b.u j → i < C.W → w (C.base j + i) = w0 (C.base j + i)
def PhS (C : Cf) (b : Bg) (size : Int) (own : Bool) (s ge : Int) (F : List Int) (s0 k : Int) (m : Am) (A : Ar) : Prop :=
  ∃ j b', Got C b F (classOf size) j b' ∧ Spt C size own s ge j (b.u j) b'.u m ∧ (∀ x, 1 ≤ x → x < roomOf (classOf size) → A.w (C.base j + (b.u j + x)) = 0) ∧
    (m.a.pc = 3 ∧ b'.aw C A.w ∧ A.w (C.base j + b.u j) = 0 ∧ k ≤ C.C + 16 ∨
     (b'.count j (roomOf (classOf size))).aw C A.w ∧ (m.a.pc = 4 ∧ A.w (C.base j + b.u j) = 0 ∧ k ≤ C.C + 17 ∨ A.w (C.base j + b.u j) = putHead 1 size s ge own ∧ (m.a.pc = 5 ∧ k ≤ C.C + 18 ∨
       m.a.pc = 6 ∧ A.w (C.slot s) = putSlot 1 (C.base j + b.u j) ge 0 ∧ m.a.oE = 0 ∧ m.a.oH = putHandle s ge ∧ (s0 < m.a.oS ∧ m.a.oS ≤ A.s) ∧ k ≤ C.C + 19)))
def PhM (C : Cf) (b : Bg) (size : Int) (own : Bool) (w0 : Int → Int) (s0 k : Int) (m : Am) (A : Ar) : Prop :=
 PhT C b size own k m A.w ∨ ∃ s F, b.F = s :: F ∧ (
  (m.a.pc = 1 ∧ Has C size own s m ∧ Aw C F b.o b.u b.lv b.nx A.w ∧ k ≤ 3) ∨
  (∃ kk, PhP C b F size own s (slG (w0 (C.slot s))) kk m A.w ∧ 0 ≤ kk ∧ k ≤ 4 + kk) ∨
  PhS C b size own s (slG (w0 (C.slot s))) F s0 k m A ∨
  (m.a.oE = 6 ∧ m.a.oH = 0 ∧ (s0 ≤ m.a.oS ∧ m.a.oS ≤ A.s) ∧ ¬ good C b.o b.u (classOf size) ∧ b.nx = C.C ∧ Has C size own s m ∧ ∃ kk, PhG C F b.o b.u b.lv b.nx s kk m A.w ∧ 0 ≤ kk ∧ k ≤ C.C + 16 + kk))
def Fin (C : Cf) (b : Bg) (size : Int) (own : Bool) (w0 : Int → Int) (s0 : Int) (m : Am) (A : Ar) : Prop :=
 m.a.oE = 7 ∧ m.a.oH = 0 ∧ b.F = [] ∧ b.aw C A.w ∨ ∃ s F, b.F = s :: F ∧ (
  m.a.oE = 6 ∧ m.a.oH = 0 ∧ ¬ good C b.o b.u (classOf size) ∧ b.nx = C.C ∧ b.aw C A.w ∨
  m.a.oE = 0 ∧ s0 < m.a.oS ∧ ∃ j b', Got C b F (classOf size) j b' ∧ (0 ≤ j ∧ j < C.C) ∧ (0 ≤ b.u j ∧ b.u j + roomOf (classOf size) ≤ b'.u j ∧ b'.u j ≤ C.W) ∧ m.a.oH = putHandle s (slG (w0 (C.slot s))) ∧ (b'.count j (roomOf (classOf size))).aw C A.w ∧
   A.w (C.slot s) = putSlot 1 (C.base j + b.u j) (slG (w0 (C.slot s))) 0 ∧ A.w (C.base j + b.u j) = putHead 2 size s (slG (w0 (C.slot s))) own ∧ ∀ x, 1 ≤ x → x < roomOf (classOf size) → A.w (C.base j + (b.u j + x)) = 0)
structure DnM (C : Cf) (b : Bg) (size : Int) (own : Bool) (w0 : Int → Int) (s0 : Int) (m : Am) (A : Ar) : Prop where
 n : (s0 ≤ m.a.oS ∧ m.a.oS ≤ A.s) ∧ A.s ≤ s0 + 100
 fw : Fw C b (m.a.oE = 0) w0 A.w
 r : Fin C b size own w0 s0 m A
structure Bg.lvok (b : Bg) (C : Cf) : Prop where
 lv : ∀ j, 0 ≤ j → j < C.C → 0 ≤ b.lv j ∧ b.lv j ≤ 1000000000
theorem Ph.kle {o u w : Int → Int} {nx c k : Int} {p : Pl} (h : Ph C o u nx c k p w) (hC : C.ok) : k ≤ C.C + 10 := by
 have hCC := hC.C
 rcases h.2.2 with ⟨h1, h2⟩ | ⟨hg, ⟨ha, h⟩ | h⟩
 ·dsimp only at h2; omega
 ·have := ha.bd; omega
 ·omega
theorem PhM.fit (hC : C.ok) {b : Bg} {size s0 k bb : Int} {own : Bool} {w0 : Int → Int} {m : Am} (h : PhM C b size own w0 s0 k m A) (hP : Pa C A bb) (hcl : 0 ≤ classOf size) (hF : ∀ s ∈ b.F, 0 ≤ s ∧ s < C.S) : m.fit C A := by
 have w1 := hP.ok.w 1
 have hT := hC.T
 have hS := hC.S
 rcases h with h | ⟨s, F, hb, h⟩
 ·exact h.fit hC hP.ok
 have hs := hF s (by rw [hb]; simp)
 rcases h with ⟨h1, h2, h3, _⟩ | ⟨kk, ⟨h1, h2, h3, h4, h5, h6⟩, _⟩ | ⟨j, b', hg, hp, hz, h⟩ | ⟨_, _, _, _, _, hh, kk, ⟨h1, h2, h3, h4⟩, _⟩
 ·exact ⟨by omega, fun e => by omega, fun _ => by rw [h2.size]; exact hcl, fun _ => by rw [h2.at']; exact hs, fun e => by omega, fun e _ => by omega, fun e => by omega⟩
 ·exact ⟨by omega, fun e => by omega, fun _ => by rw [h1.size]; exact hcl, fun _ => by rw [h1.at']; exact hs, fun _ => ⟨h4, hP.op _ h4.cls.1 h4.cls.2⟩, fun e _ => by omega, fun e => by omega⟩
 ·have hpc : 3 ≤ m.a.pc ∧ m.a.pc ≤ 6 := by omega
  have j0 := hp.j0
  have i0 := hp.i0
  have hr : 3 ≤ roomOf (classOf size) := by unfold roomOf; split <;> (try split) <;> (try split) <;> omega
  have hb := (base_of hC j0.1 j0.2 i0.1 (by omega)).2
  have hn := hP.n
  exact ⟨by omega, fun e => by omega, fun _ => by rw [hp.has.size]; exact hcl, fun _ => by rw [hp.has.at']; exact hs, fun e => by omega, fun _ _ => ⟨by rw [hp.sc]; exact j0, by rw [hp.sa]; omega⟩, fun e => by omega⟩
 ·refine ⟨by omega, fun e => by omega, fun _ => by rw [hh.size]; exact hcl, fun _ => by rw [hh.at']; exact hs, fun e => by omega, fun e _ => by omega, fun _ => ?_⟩
  rcases h4 with ⟨q, _⟩ | ⟨q, _⟩ | ⟨q, _⟩
  ·rw [q]; exact ⟨⟨Int.le_refl 0, (by decide : (0 : Int) < 18446744073709551616)⟩, h2⟩
  ·rw [q]; exact ⟨w1, h2⟩
  ·rw [q]; exact ⟨w1, h2⟩
theorem Got.has (hC : C.ok) {b b' : Bg} {F : List Int} {c j : Int} (h : Got C b F c j b') : b'.F = F ∧ b'.lv = b.lv := by
 rcases h with ⟨_, _, e⟩ | ⟨_, _, _, e⟩ <;> rw [e] <;> exact ⟨rfl, rfl⟩
theorem Got.bd (hC : C.ok) {b b' : Bg} {F : List Int} {c j : Int} {w : Int → Int} (h : Got C b F c j b') (hA : Alo C b.o b.u b.nx w) (c0 : 0 ≤ c) (c3 : c ≤ 3) :
  (0 ≤ j ∧ j < C.C) ∧ (0 ≤ b.u j ∧ b.u j + roomOf c ≤ b'.u j ∧ b'.u j ≤ C.W) ∧ (∀ i, b.u i ≤ b'.u i) ∧ b'.o c = j := by
 have hr := room_bd c0 c3
 have hbd := hA.bd
 have hW := hC.W
 rcases h with ⟨g, ej, e⟩ | ⟨g, hn, ej, e⟩
 ·have ho := hA.op c c0 c3
  have hold := hA.old _ g.1 ho.2.2
  have g2 := g.2
  subst ej
  rw [e]
  dsimp only
  refine ⟨⟨g.1, by omega⟩, by rw [upd_same]; omega, fun i => ?_, rfl⟩
  unfold upd; split
  ·rename_i q; rw [q]; omega
  ·omega
 ·have hnew := hA.new _ (Int.le_refl _) hn
  subst ej
  rw [e]
  dsimp only
  refine ⟨⟨hbd.1, hn⟩, by rw [upd_same]; omega, fun i => ?_, upd_same _ _ _⟩
  unfold upd; split
  ·rename_i q; rw [q]; omega
  ·omega
theorem Dn.got {b : Bg} {F : List Int} {c : Int} {p : Pl} {w : Int → Int} (h : Dn C b.o b.u b.nx c p w) (hr : Rs C F b.u b.lv w) (c0 : 0 ≤ c) (c3 : c ≤ 3) :
  p.ok = true ∧ (∃ j b', Got C b F c j b' ∧ p.sa = C.base j + b.u j ∧ p.sc = j ∧ b'.aw C w) ∨ p.ok = false ∧ ¬ good C b.o b.u c ∧ b.nx = C.C ∧ Aw C F b.o b.u b.lv b.nx w := by
 have hrm := room_bd c0 c3
 have hu : ∀ j i, b.u i ≤ upd b.u j (b.u j + roomOf c) i := by
  intro j i
  unfold upd; split
  ·rename_i q; rw [q]; omega
  ·omega
 rcases h with ⟨g, h1, h2, h3, h4⟩ | ⟨g, hn, h1, h2, h3, h4⟩ | ⟨g, hn, h1, h4⟩
 ·exact .inl ⟨h1, _, _, .inl ⟨g, rfl, rfl⟩, h2, h3, hr.aw h4 (hu _)⟩
 ·exact .inl ⟨h1, _, _, .inr ⟨g, hn, rfl, rfl⟩, h2, h3, hr.aw h4 (hu _)⟩
 ·exact .inr ⟨h1, g, hn, hr.aw h4 fun _ => Int.le_refl _⟩
theorem addr_ne (hC : C.ok) {j i : Int} (j0 : 0 ≤ j) (j1 : j < C.C) (i0 : 0 ≤ i) : (∀ s, s < C.S → C.base j + i ≠ C.slot s) ∧ (∀ k, k < C.C → C.base j + i ≠ C.chunk k + 1) := by
 have hb := base_ge hC j0 j1 i0
 have hT := hC.T
 have hCC := hC.C
 have hS := hC.S
 refine ⟨fun s hs => ?_, fun k hk => ?_⟩
 ·unfold Cf.slot; omega
 ·unfold Cf.chunk; omega
theorem PhS.step (hC : C.ok) {b : Bg} {F : List Int} {size s ge s0 k bb : Int} {own : Bool} {m : Am} (h : PhS C b size own s ge F s0 k m A) (ok : A.ok bb) (hb : bb < 4611686018427387904) (hcl : 0 ≤ classOf size) (hcl3 : classOf size ≤ 3) (hs : 0 ≤ s ∧ s < C.S) (hlv : b.lvok C) (hs0 : s0 ≤ A.s) :
  ((m.step C who A).1 = false ∧ PhS C b size own s ge F s0 (k + 1) (m.step C who A).2.1 (m.step C who A).2.2) ∨
  ((m.step C who A).1 = true ∧ (m.step C who A).2.1.a.oE = 0 ∧ s0 < (m.step C who A).2.1.a.oS ∧ (m.step C who A).2.1.a.oS ≤ A.s ∧ ∃ j b', Got C b F (classOf size) j b' ∧ Spt C size own s ge j (b.u j) b'.u m ∧ (m.step C who A).2.1.a.oH = putHandle s ge ∧ (b'.count j (roomOf (classOf size))).aw C (m.step C who A).2.2.w ∧
   (m.step C who A).2.2.w (C.slot s) = putSlot 1 (C.base j + b.u j) ge 0 ∧ (m.step C who A).2.2.w (C.base j + b.u j) = putHead 2 size s ge own ∧ ∀ x, 1 ≤ x → x < roomOf (classOf size) → (m.step C who A).2.2.w (C.base j + (b.u j + x)) = 0) := by
 have hr := room_bd hcl hcl3
 obtain ⟨j, b', hg, hp, hz, h⟩ := h
 have j0 := hp.j0
 have i0 := hp.i0
 have n0 := addr_ne hC j0.1 j0.2 i0.1
 have nx : ∀ x, 1 ≤ x → (∀ s, s < C.S → C.base j + (b.u j + x) ≠ C.slot s) ∧ (∀ k, k < C.C → C.base j + (b.u j + x) ≠ C.chunk k + 1) := fun x hx => addr_ne hC j0.1 j0.2 (by omega)
 obtain ⟨eF, eL⟩ := hg.has hC
 have hl := hlv.lv j j0.1 j0.2
 rcases h with ⟨h3, hA, hz0, hk⟩ | ⟨hA, ⟨h4, hz0, hk⟩ | ⟨hh, ⟨h5, hk⟩ | ⟨h6, hsl, e0, eH, hS, hk⟩⟩⟩
 ·obtain ⟨q1, q2, q3, q4⟩ := count_step (who := who) hC hA hp h3 ok hb (by rw [eL]; omega)
  have e : (m.step C who A).2.2 = (A.by who).add (C.chunk m.a.sc + 1) (roomOf (classOf m.a.size)) := by unfold Am.step; rw [if_neg (by omega), if_neg (by omega), if_neg (by omega), if_pos h3]
  refine .inl ⟨q1, j, b', hg, q3, fun x x1 x2 => ?_, .inr ⟨q4, .inl ⟨q2, by rw [e, add_eq, store_w, upd_ne _ _ (by rw [hp.sc]; exact n0.2 j j0.2)]; exact hz0, by omega⟩⟩⟩
  rw [e, add_eq, store_w, upd_ne _ _ (by rw [hp.sc]; exact (nx x x1).2 j j0.2)]
  exact hz x x1 x2
 ·obtain ⟨q1, q2, q3, q4, q5⟩ := head_step (who := who) hC hA hp h4 hcl hcl3
  refine .inl ⟨q1, j, b', hg, q3, fun x x1 x2 => ?_, .inr ⟨q4, .inr ⟨by rw [q5, upd_same], .inl ⟨q2, by omega⟩⟩⟩⟩
  rw [q5, upd_ne _ _ (by omega)]; exact hz x x1 x2
 ·obtain ⟨q1, q2, q3, q4, q5, q6, q7, q8⟩ := show_step (who := who) hC hA hp h5 hs ok hb
  have es := (aft_store (who := who) (A := A) (a := C.slot m.a.at') (v := putSlot 1 m.a.sa m.a.gen 0) ok (by omega)).s
  have e : (m.step C who A).2.2 = (A.by who).store (C.slot m.a.at') (putSlot 1 m.a.sa m.a.gen 0) := by unfold Am.step; rw [if_neg (by omega), if_neg (by omega), if_neg (by omega), if_neg (by omega), if_neg (by omega), if_pos h5]
  refine .inl ⟨q1, j, b', hg, q3, fun x x1 x2 => ?_, .inr ⟨q4, .inr ⟨?_, .inr ⟨q2, by rw [q5, upd_same], q6, q7, ?_, by omega⟩⟩⟩⟩
  ·rw [q5, upd_ne _ _ ((nx x x1).1 s hs.2)]; exact hz x x1 x2
  ·rw [q5, upd_ne _ _ (n0.1 s hs.2)]; exact hh
  ·rw [q8, e, es]; omega
 ·obtain ⟨q1, q2, q3, q4⟩ := ready_step (who := who) hC hA hp h6 hcl hcl3
  refine .inr ⟨q1, by rw [q2]; exact e0, by rw [q2]; exact hS.1, by rw [q2]; exact hS.2, j, b', hg, hp, by rw [q2]; exact eH, q3, ?_, by rw [q4, upd_same], fun x x1 x2 => ?_⟩
  ·rw [q4, upd_ne _ _ (fun q => n0.1 s hs.2 q.symm)]; exact hsl
  ·rw [q4, upd_ne _ _ (by omega)]; exact hz x x1 x2
theorem PhM.step (hC : C.ok) {b : Bg} {size s0 k bb : Int} {own : Bool} {w0 : Int → Int} {m : Am} (h : PhM C b size own w0 s0 k m A) (hP : Pa C A bb) (hb : bb < 4611686018427387904) (hcl : 0 ≤ classOf size) (hcl3 : classOf size ≤ 3) (hF : ∀ s ∈ b.F, 0 ≤ s ∧ s < C.S) (hnd : b.F.Nodup)
  (hlv : b.lvok C) (hu : ∀ j, 0 ≤ j → j < C.C → 0 ≤ b.u j) (hw : m.a.pc = 1 → ∀ t, 0 ≤ t → t < C.S → A.w (C.slot t) = w0 (C.slot t)) (hs0 : s0 ≤ A.s) (hs1 : (m.step C who A).2.2.s = A.s + 1) (hal : ∃ w, Alo C b.o b.u b.nx w) :
  ((m.step C who A).1 = false ∧ PhM C b size own w0 s0 (k + 1) (m.step C who A).2.1 (m.step C who A).2.2) ∨
  ((m.step C who A).1 = true ∧ (s0 ≤ (m.step C who A).2.1.a.oS ∧ (m.step C who A).2.1.a.oS ≤ (m.step C who A).2.2.s) ∧ Fin C b size own w0 s0 (m.step C who A).2.1 (m.step C who A).2.2) := by
 obtain ⟨wA, hal⟩ := hal
 rcases h with h | ⟨s, F, hbF, h⟩
 ·have hk : k ≤ 2 := by obtain ⟨_, _, _, _, h⟩ := h; omega
  rcases h.step (who := who) hC hP.ok hb hcl with ⟨q1, q2⟩ | ⟨q1, q2, q3, q4, q5, q6⟩ | ⟨q1, s, F, q2, q3, q4, q5, q6, q7⟩
  ·exact .inl ⟨q1, .inl q2⟩
  ·exact .inr ⟨q1, ⟨by rw [q5, hs1]; omega, by rw [q5]; exact Int.le_refl _⟩, .inl ⟨q3, q4, q2, q6⟩⟩
  ·exact .inl ⟨q1, .inr ⟨s, F, q2, .inl ⟨q3, ⟨q5, q6, q4⟩, q7, by omega⟩⟩⟩
 have hs := hF s (by rw [hbF]; simp)
 have hsF : s ∉ F := by rw [hbF] at hnd; exact (List.nodup_cons.1 hnd).1
 rcases h with ⟨h1, h2, h3, hk⟩ | ⟨kk, h, hk0, hk⟩ | h | ⟨e6, eH, eS, hng, hnx, hh, kk, h, hk0, hk⟩
 ·obtain ⟨q1, q2⟩ := see_step (who := who) (b := b) hC h3 h2 h1 hcl hcl3
  rw [hw h1 s hs.1 hs.2] at q2
  exact .inl ⟨q1, .inr ⟨s, F, hbF, .inr (.inl ⟨0, q2, Int.le_refl _, by omega⟩)⟩⟩
 ·have hkk : kk ≤ C.C + 10 := by obtain ⟨_, _, _, _, q, _⟩ := h; exact q.kle hC
  rcases h.step (who := who) hC hP hb hcl hcl3 hu with ⟨q1, q2⟩ | ⟨q1, q2, q3, q4, q5, q6⟩
  ·exact .inl ⟨q1, .inr ⟨s, F, hbF, .inr (.inl ⟨kk + 1, q2, by omega, by omega⟩)⟩⟩
  ·refine .inl ⟨q1, .inr ⟨s, F, hbF, .inr (.inr ?_)⟩⟩
   rcases q5.got q2 hcl hcl3 with ⟨o1, j, b', hg, g1, g2, g3⟩ | ⟨o1, o2, o3, o4⟩
   ·rcases q6 with ⟨r1, r2, r3, r4⟩ | ⟨r1, _⟩
    ·obtain ⟨d1, d2, d3, d4⟩ := hg.bd hC hal hcl hcl3
     refine .inl ⟨j, b', hg, ⟨q3, q4, r4.trans g2, r3.trans g1, d1, by omega⟩, fun x x1 x2 => q2.nil j _ d1.1 d1.2 (by omega) (by omega), .inl ⟨r2, g3, q2.nil j _ d1.1 d1.2 (Int.le_refl _) (by have := room_bd hcl hcl3; omega), by omega⟩⟩
    ·rw [o1] at r1; cases r1
   ·rcases q6 with ⟨r1, _⟩ | ⟨r1, r2, r3, r4, r5, r6⟩
    ·rw [o1] at r1; cases r1
    ·exact .inr ⟨r3, r4, ⟨by rw [r5, hs1]; omega, by rw [r5]; exact Int.le_refl _⟩, o2, o3, q3, 0, ⟨r2, hs, hsF, .inl ⟨r6, rfl, o4⟩⟩, Int.le_refl _, by omega⟩
 ·rcases h.step (who := who) hC hP.ok hb hcl hcl3 hs hlv hs0 with ⟨q1, q2⟩ | ⟨q1, q2, q3, q3b, j, b', q4, q5, q6, q7, q8, q9, q10⟩
  ·exact .inl ⟨q1, .inr ⟨s, F, hbF, .inr (.inr (.inl q2))⟩⟩
  ·obtain ⟨d1, d2, d3, d4⟩ := q4.bd hC hal hcl hcl3
   exact .inr ⟨q1, ⟨by omega, by omega⟩, .inr ⟨s, F, hbF, .inr ⟨q2, q3, j, b', q4, d1, d2, q6, q7, q8, q9, q10⟩⟩⟩
 ·obtain ⟨e1, q⟩ := h.step (who := who) hC hP.ok hb
  rcases q with ⟨q1, q2⟩ | ⟨q1, q2⟩
  ·refine .inl ⟨q1, .inr ⟨s, F, hbF, .inr (.inr (.inr ⟨by rw [e1]; exact e6, by rw [e1]; exact eH, ?_, hng, hnx, ?_, kk + 1, q2, by omega, by omega⟩))⟩⟩
   ·rw [e1, hs1]; omega
   ·exact ⟨by rw [e1]; exact hh.size, by rw [e1]; exact hh.own, by rw [e1]; exact hh.at'⟩
  ·refine .inr ⟨q1, ?_, .inr ⟨s, F, hbF, .inl ⟨by rw [e1]; exact e6, by rw [e1]; exact eH, hng, hnx, ?_⟩⟩⟩
   ·rw [e1, hs1]; omega
   ·unfold Bg.aw; rw [hbF]; exact q2
end Go.Fl
namespace Go.Fl
open Go
set_option linter.unusedVariables false
set_option linter.unusedSimpArgs false
variable {N : Nm} {A B : Ar} {σ : Mem} {K : Value → Mem → Prop} {C : Cf} {who : Int}
theorem PhM.kle (hC : C.ok) {b : Bg} {size s0 k : Int} {own : Bool} {w0 : Int → Int} {m : Am} (h : PhM C b size own w0 s0 k m A) : k ≤ C.C + 19 := by
 have hCC := hC.C
 rcases h with ⟨_, _, _, _, h⟩ | ⟨s, F, hb, ⟨_, _, _, h⟩ | ⟨kk, ⟨_, _, _, _, h1, h2⟩, h⟩ | ⟨j, b', _, _, _, h⟩ | ⟨_, _, _, _, _, _, kk, ⟨_, _, _, h1⟩, h⟩⟩
 ·omega
 ·omega
 ·have := h1.kle hC; omega
 ·omega
 ·omega
theorem PhM.spot (hC : C.ok) {b : Bg} {size s0 k : Int} {own : Bool} {w0 w : Int → Int} {m : Am} (h : PhM C b size own w0 s0 k m A) (hal : Alo C b.o b.u b.nx w) (hcl : 0 ≤ classOf size) (hcl3 : classOf size ≤ 3) (h3 : 3 ≤ m.a.pc) (h6 : m.a.pc ≤ 6) :
  ∃ s F j, b.F = s :: F ∧ m.a.at' = s ∧ m.a.sa = C.base j + b.u j ∧ (0 ≤ j ∧ j < C.C) ∧ 0 ≤ b.u j ∧ b.u j + roomOf (classOf size) ≤ C.W := by
 rcases h with ⟨_, _, _, h, _⟩ | ⟨s, F, hb, ⟨h, _⟩ | ⟨kk, ⟨_, _, h, _⟩, _⟩ | ⟨j, b', hg, hp, _⟩ | ⟨_, _, _, _, _, _, kk, ⟨h, _⟩, _⟩⟩
 ·omega
 ·omega
 ·omega
 ·obtain ⟨d1, d2, d3, d4⟩ := hg.bd hC hal hcl hcl3
  exact ⟨s, F, j, hb, hp.has.at', hp.sa, d1, by omega, by omega⟩
 ·omega
theorem Fw.mono {b : Bg} {c c' : Prop} {w0 w : Int → Int} (h : Fw C b c w0 w) (hc : c → c') : Fw C b c' w0 w := ⟨fun t t0 t1 ht => h.slot t t0 t1 fun q => ht (hc q), h.word⟩
theorem PhM.fw (hC : C.ok) {b : Bg} {size s0 k a : Int} {own : Bool} {w0 w : Int → Int} {m : Am} {r : Bool × Am × Ar} (hM : PhM C b size own w0 s0 k m A) (hfit : m.fit C A) (hal : Alo C b.o b.u b.nx w) (hcl : 0 ≤ classOf size) (hcl3 : classOf size ≤ 3)
  (ht : Tch C A m r a) (hf : Fw C b (m.a.pc = 6) w0 A.w) {ch : Prop} (hch : m.a.pc = 5 ∨ m.a.pc = 6 → ch) : Fw C b ch w0 r.2.2.w := by
 have hT := hC.T
 have hS := hC.S
 have hCC := hC.C
 have hr := room_bd hcl hcl3
 have low : a < C.base 0 ∨ (m.a.pc = 4 ∨ m.a.pc = 6) ∧ a = m.a.sa := by
  have hb0 : C.base 0 = 6 + C.T + 2 * C.S + 3 * C.C := by unfold Cf.base; omega
  rcases ht.kind with ⟨_, h | ⟨s, s0, s1, h⟩⟩ | ⟨h1, h, _⟩ | ⟨h1, h⟩ | ⟨h1, h⟩ | ⟨h1, h⟩ | ⟨h1, h⟩
  ·left; omega
  ·left; unfold Cf.slot at h; omega
  ·have := hfit.at' (by omega); left; unfold Cf.slot at h; omega
  ·have := (hfit.pl h1).1.at'; have := (hfit.pl h1).1.cls; left; unfold Cf.chunk at h; omega
  ·have := (hfit.spot (by omega) (by omega)).1; left; unfold Cf.chunk at h; omega
  ·exact .inr ⟨h1, h⟩
  ·have := hfit.at' (by omega); left; unfold Cf.slot at h; omega
 refine ⟨fun t t0 t1 hx => ?_, fun j i j0 j1 i0 i1 i2 => ?_⟩
 ·have hold : A.w (C.slot t) = w0 (C.slot t) := hf.slot t t0 t1 fun q => hx (hch (.inr q))
  by_cases e : C.slot t = a
  ·rcases ht.kind with ⟨_, h | ⟨s, s0, s1, h⟩⟩ | ⟨h1, h, h2⟩ | ⟨h1, h⟩ | ⟨h1, h⟩ | ⟨h1, h⟩ | ⟨h1, h⟩
   ·unfold Cf.slot at e; omega
   ·unfold Cf.slot at e h; omega
   ·rw [h2]; exact hold
   ·have := (hfit.pl h1).1.at'; have := (hfit.pl h1).1.cls; unfold Cf.chunk at h; unfold Cf.slot at e; omega
   ·have := (hfit.spot (by omega) (by omega)).1; unfold Cf.chunk at h; unfold Cf.slot at e; omega
   ·obtain ⟨s, F, j, q1, q2, q3, q4, q5, q6⟩ := hM.spot hC hal hcl hcl3 (by omega) (by omega)
    exact absurd (by rw [e, h, q3]) ((addr_ne hC q4.1 q4.2 q5).1 t t1).symm
   ·obtain ⟨s, F, j, q1, q2, q3, q4, q5, q6⟩ := hM.spot hC hal hcl hcl3 (by omega) (by omega)
    have : t = s := by rw [h, q2] at e; unfold Cf.slot at e; omega
    subst this
    exact absurd q1 (hx (hch (.inl h1)) F)
  ·rw [ht.w _ e]; exact hold
 ·have hge : C.base 0 ≤ C.base j + i := by have := mulW hC j0 (by omega); unfold Cf.base; omega
  rw [ht.w _ ?_]
  ·exact hf.word j i j0 j1 i0 i1 i2
  ·rcases low with q | ⟨q, e⟩
   ·omega
   ·obtain ⟨s, F, jj, q1, q2, q3, q4, q5, q6⟩ := hM.spot hC hal hcl hcl3 (by omega) (by omega)
    rw [e, q3]
    intro q7
    obtain ⟨rfl, q8⟩ := base_inj hC j0 j1 i0 i2 q4.1 q4.2 q5 (by omega) q7
    omega
theorem class_bd (n : Int) : -1 ≤ classOf n ∧ classOf n ≤ 3 := by unfold classOf; (repeat' split) <;> omega
theorem Tch.bd (hC : C.ok) {m : Am} {r : Bool × Am × Ar} {a : Int} (h : Tch C A m r a) (hf : m.fit C A) (hs : m.a.pc = 4 ∨ m.a.pc = 6 → C.base 0 ≤ m.a.sa ∧ m.a.sa < C.len) :
  (0 ≤ a ∧ a < C.len) ∧ (C.base 0 ≤ a → (m.a.pc = 4 ∨ m.a.pc = 6) ∧ a = m.a.sa) := by
 have hl := len_bd hC
 have hT := hC.T
 have hS := hC.S
 have hCC := hC.C
 have hb0 : C.base 0 = 6 + C.T + 2 * C.S + 3 * C.C := by unfold Cf.base; omega
 have hch : C.chunk C.C = 6 + C.T + 2 * C.S + 3 * C.C := rfl
 rcases h.kind with ⟨_, h | ⟨s, s0, s1, h⟩⟩ | ⟨h1, h, _⟩ | ⟨h1, h⟩ | ⟨h1, h⟩ | ⟨h1, h⟩ | ⟨h1, h⟩
 ·omega
 ·unfold Cf.slot at h; omega
 ·have := hf.at' (by omega); unfold Cf.slot at h; omega
 ·have := (hf.pl h1).1.at'; have := (hf.pl h1).1.cls; unfold Cf.chunk at *; omega
 ·have := (hf.spot (by omega) (by omega)).1; unfold Cf.chunk at *; omega
 ·have := hs h1
  exact ⟨by omega, fun _ => ⟨h1, h⟩⟩
 ·have := hf.at' (by omega); unfold Cf.slot at h; omega
structure Mkr (C : Cf) (b : Bg) (size : Int) (own : Bool) (A0 : Ar) (bb k : Int) (m : Am) (A : Ar) : Prop where
 ph : PhM C b size own A0.w A0.s k m A
 pa : Pa C A (bb + k)
 fw : Fw C b (m.a.pc = 6) A0.w A.w
 s : A.s = A0.s + k
 n : A.n = A0.n
 la : A0.la < C.len → A.la < C.len
theorem Mkr.new {b : Bg} {size bb : Int} {own : Bool} (hP : Pa C A bb) (hAw : b.aw C A.w) : Mkr C b size own A bb 0 (Am.new size own) A :=
 ⟨.inl (PhT.new hAw), by simpa using hP, ⟨fun _ _ _ _ => rfl, fun _ _ _ _ _ _ _ => rfl⟩, by omega, rfl, id⟩
theorem Mkr.fit (hC : C.ok) {b : Bg} {size bb k : Int} {own : Bool} {A0 : Ar} {m : Am} (h : Mkr C b size own A0 bb k m A) (hAw : b.aw C A0.w) (hcl : 0 ≤ classOf size) : m.fit C A :=
 h.ph.fit hC h.pa hcl fun s hs => hAw.fre.c.mem s hs
theorem Mkr.step (hC : C.ok) {b : Bg} {size bb k : Int} {own : Bool} {A0 : Ar} {m : Am} (h : Mkr C b size own A0 bb k m A) (hb : bb < 2305843009213693952) (hAw : b.aw C A0.w) (hlv : b.lvok C) (hcl : 0 ≤ classOf size) (k0 : 0 ≤ k) :
  ((∃ a, Tch C A m (m.step C who A) a) ∧ (m.step C who A).2.2.la < C.len) ∧ (((m.step C who A).1 = false ∧ Mkr C b size own A0 bb (k + 1) (m.step C who A).2.1 (m.step C who A).2.2) ∨
   ((m.step C who A).1 = true ∧ DnM C b size own A0.w A0.s (m.step C who A).2.1 (m.step C who A).2.2 ∧ Pa C (m.step C who A).2.2 (bb + k + 1))) := by
 obtain ⟨h, hP', hf, hs, hnn, hla⟩ := h
 have hcl3 := (class_bd size).2
 have hCC := hC.C
 have hF : ∀ s ∈ b.F, 0 ≤ s ∧ s < C.S := fun s hs => hAw.fre.c.mem s hs
 have hnd := hAw.fre.nd
 have hu : ∀ j, 0 ≤ j → j < C.C → 0 ≤ b.u j := fun j j0 j1 => Aw.u0 hAw j0 j1
 have hfit := h.fit hC hP' hcl hF
 have hkl := h.kle hC
 have hcz : ¬ (m.a.pc = 0 ∧ classOf m.a.size < 0) := by
  rintro ⟨q0, q⟩
  rcases h with ⟨_, e, _⟩ | ⟨s, F, hb, ⟨h, _⟩ | ⟨kk, ⟨_, _, h, _⟩, _⟩ | ⟨j, b', hg, hp, _, h⟩ | ⟨_, _, _, _, _, _, kk, ⟨h, _⟩, _⟩⟩
  ·rw [e] at q; omega
  all_goals omega
 obtain ⟨g1, a, g2⟩ := Am.go (who := who) hC (by omega) hP' hfit hcz (fun q => by
  obtain ⟨s, F, j, q1, q2, q3, q4, q5, q6⟩ := h.spot hC hAw.alo hcl hcl3 (by omega) (by omega)
  have := mulW hC q4.1 (by have := hC.C; omega)
  rw [q3]; unfold Cf.base; omega)
 have hst := h.step (who := who) hC hP' (by omega) hcl hcl3 hF hnd hlv hu (fun q t t0 t1 => hf.slot t t0 t1 fun e => by omega) (by omega) g2.s ⟨_, hAw.alo⟩
 have hpc : m.a.pc = 5 ∨ m.a.pc = 6 → (m.step C who A).2.1.a.pc = 6 ∧ ((m.step C who A).1 = true → (m.step C who A).2.1.a.oE = 0) := by
  intro q
  rcases q with q | q
  ·have e : m.step C who A = (false, { m with a := { m.a with pc := 6, oE := 0, oH := putHandle m.a.at' m.a.gen, oV := 0, oS := ((A.by who).store (C.slot m.a.at') (putSlot 1 m.a.sa m.a.gen 0)).s } }, (A.by who).store (C.slot m.a.at') (putSlot 1 m.a.sa m.a.gen 0)) := by
    unfold Am.step; rw [if_neg (by omega), if_neg (by omega), if_neg (by omega), if_neg (by omega), if_neg (by omega), if_pos q]
   rw [e]; exact ⟨rfl, fun x => by cases x⟩
  ·have e : m.step C who A = (true, m, (A.by who).store m.a.sa (putHead 2 m.a.size m.a.at' m.a.gen m.a.own)) := by
    unfold Am.step; rw [if_neg (by omega), if_neg (by omega), if_neg (by omega), if_neg (by omega), if_neg (by omega), if_neg (by omega), if_pos q]
   rw [e]
   refine ⟨q, fun _ => ?_⟩
   rcases h with ⟨_, _, _, h, _⟩ | ⟨s, F, hb, ⟨h, _⟩ | ⟨kk, ⟨_, _, h, _⟩, _⟩ | ⟨j, b', hg, hp, _, h⟩ | ⟨_, _, _, _, _, _, kk, ⟨h, _⟩, _⟩⟩
   ·omega
   ·omega
   ·omega
   ·rcases h with ⟨h, _⟩ | ⟨_, ⟨h, _⟩ | ⟨_, ⟨h, _⟩ | ⟨_, _, h, _⟩⟩⟩
    ·omega
    ·omega
    ·omega
    ·exact h
   ·omega
 have hla' : (m.step C who A).2.2.la < C.len := by
  rw [g2.la]
  refine (g2.bd hC hfit fun q => ?_).1.2
  obtain ⟨s, F, j, u1, u2, u3, u4, u5, u6⟩ := h.spot hC hAw.alo hcl hcl3 (by omega) (by omega)
  have hr := room_bd hcl hcl3
  have h1 := base_of hC u4.1 u4.2 u5 (by omega)
  have h2 := base_ge hC u4.1 u4.2 u5
  have hb0 : C.base 0 = 6 + C.T + 2 * C.S + 3 * C.C := by unfold Cf.base; omega
  rw [u3]; exact ⟨by omega, h1.2.2⟩
 have hg2s := g2.s
 refine ⟨⟨⟨a, g2⟩, hla'⟩, ?_⟩
 rcases hst with ⟨d, hst⟩ | ⟨d, hS, hst⟩
 ·exact .inl ⟨d, hst, by rw [show bb + (k + 1) = bb + k + 1 by omega]; exact g1, h.fw hC hfit hAw.alo hcl hcl3 g2 hf fun q => (hpc q).1, by omega, g2.n.trans hnn, fun _ => hla'⟩
 ·exact .inr ⟨d, ⟨⟨hS, by omega⟩, h.fw hC hfit hAw.alo hcl hcl3 g2 hf fun q => (hpc q).2 d, hst⟩, g1⟩
end Go.Fl
namespace Go.Fl
open Go
set_option linter.unusedVariables false
set_option linter.unusedSimpArgs false
variable {N : Nm} {A B : Ar} {σ : Mem} {K : Value → Mem → Prop} {C : Cf} {who : Int}
def Bg.fr (C : Cf) : Bg := ⟨upL 0 C.S.toNat, fun _ => -1, fun _ => 0, fun _ => 0, 0⟩
theorem w0_high (hC : C.ok) {a : Int} (h : C.chunk 0 ≤ a) : C.w0 a = 0 := by
 have := hC.T; have := hC.S
 unfold Cf.chunk at h
 unfold Cf.w0 Cf.fr Cf.slot
 rw [if_neg (by omega), if_neg (by omega), if_neg (by omega)]
theorem fr_aw (hC : C.ok) : (Bg.fr C).aw C C.w0 := by
 have hT := hC.T
 have hS := hC.S
 have hCC := hC.C
 have hW := hC.W
 have hb0 : C.base 0 = 6 + C.T + 2 * C.S + 3 * C.C := by unfold Cf.base; omega
 have hc0 : C.chunk 0 = 6 + C.T + 2 * C.S := by unfold Cf.chunk; omega
 refine ⟨fre0 hC, ⟨⟨(by decide : (0 : Int) ≤ 0), by show (0 : Int) ≤ C.C; omega⟩, fun c c0 c3 => ⟨w0_open hC c0 c3, (by decide : (-1 : Int) ≤ -1), (by decide : (-1 : Int) < 0)⟩, fun c _ _ h => absurd h (by decide : ¬ (0 : Int) ≤ -1), fun j j0 j1 => ?_, fun j j0 j1 => ⟨w0_chunk hC j0, rfl⟩⟩, fun j j0 j1 => ?_, fun j i j0 j1 i0 i1 => ?_⟩
 ·have : j < 0 := j1
  omega
 ·exact w0_high hC (by unfold Cf.chunk at *; omega)
 ·have : (0 : Int) ≤ i := i0
  have := mulW hC j0 (by omega)
  exact w0_high hC (by rw [hc0]; unfold Cf.base; omega)
theorem Frsh.pa (hC : C.ok) (h : Frsh N C A) : Pa C A (2 * C.S + 2) := by
 have hl := len_bd hC
 have hCC := hC.C
 refine ⟨h.ok, ?_, fun c c0 c3 => ?_⟩
 ·rw [h.n]; omega
 ·rw [h.w, w0_open hC c0 c3]; omega
theorem Frsh.aw (hC : C.ok) (h : Frsh N C A) : (Bg.fr C).aw C A.w := by rw [h.w]; exact fr_aw hC
structure Bg.lvM (b : Bg) (C : Cf) (M : Int) : Prop where
 lv : ∀ j, 0 ≤ j → j < C.C → 0 ≤ b.lv j ∧ b.lv j ≤ M
theorem Bg.lvM.ok {b : Bg} {M : Int} (h : b.lvM C M) (hM : M ≤ 1000000000) : b.lvok C := ⟨fun j j0 j1 => by have := h.lv j j0 j1; omega⟩
theorem Bg.lvM.mono {b : Bg} {M M' : Int} (h : b.lvM C M) (hM : M ≤ M') : b.lvM C M' := ⟨fun j j0 j1 => by have := h.lv j j0 j1; omega⟩
theorem fr_lv : (Bg.fr C).lvM C 0 := ⟨fun _ _ _ => ⟨Int.le_refl 0, Int.le_refl 0⟩⟩
theorem Bg.lvM.count {b b' : Bg} {F : List Int} {M c j : Int} (hC : C.ok) (h : b.lvM C M) (hg : Got C b F c j b') (c0 : 0 ≤ c) (c3 : c ≤ 3) : (b'.count j (roomOf c)).lvM C (M + 17) := by
 have hr := room_bd c0 c3
 refine ⟨fun i i0 i1 => ?_⟩
 have e : (b'.count j (roomOf c)).lv = upd b.lv j (b.lv j + roomOf c) := by
  show upd b'.lv j (b'.lv j + roomOf c) = _
  rw [(hg.has hC).2]
 have := h.lv i i0 i1
 rw [e]
 unfold upd
 split
 ·rename_i q; subst q; omega
 ·omega
theorem Fin.ok {b : Bg} {size s0 s : Int} {own : Bool} {w0 : Int → Int} {m : Am} {F : List Int} (h : Fin C b size own w0 s0 m A) (hF : b.F = s :: F) (hr : good C b.o b.u (classOf size) ∨ b.nx ≠ C.C) :
  m.a.oE = 0 ∧ s0 < m.a.oS ∧ ∃ j b', Got C b F (classOf size) j b' ∧ (0 ≤ j ∧ j < C.C) ∧ (0 ≤ b.u j ∧ b.u j + roomOf (classOf size) ≤ b'.u j ∧ b'.u j ≤ C.W) ∧ m.a.oH = putHandle s (slG (w0 (C.slot s))) ∧ (b'.count j (roomOf (classOf size))).aw C A.w ∧
   A.w (C.slot s) = putSlot 1 (C.base j + b.u j) (slG (w0 (C.slot s))) 0 ∧ A.w (C.base j + b.u j) = putHead 2 size s (slG (w0 (C.slot s))) own ∧ ∀ x, 1 ≤ x → x < roomOf (classOf size) → A.w (C.base j + (b.u j + x)) = 0 := by
 rcases h with ⟨_, _, h, _⟩ | ⟨s', F', h, ⟨_, _, h1, h2, _⟩ | h'⟩
 ·rw [hF] at h; cases h
 ·rcases hr with q | q
  ·exact absurd q h1
  ·exact absurd h2 q
 ·rw [hF] at h
  cases h
  exact h'
theorem Ob.ext {p : Nat} {O : List Nat} {m : Am} {τ : Mem} (h : Ob N p O m σ) (x : Ext σ τ) : Ob N p O m τ := by
 obtain ⟨⟨a, b, h1, h2, h3⟩, h4, h5⟩ := h
 refine ⟨⟨a, b, x _ _ h1, fun e => ?_, fun e => ?_⟩, h4, h5⟩
 ·obtain ⟨q, q1, q2, q3, q4⟩ := h2 e; exact ⟨q, q1, q2, q3, x _ _ q4⟩
 ·obtain ⟨q, q1, q2, q3, q4⟩ := h3 e; exact ⟨q, q1, q2, q3, x _ _ q4⟩
end Go.Fl
namespace Go.Fl
open Go
set_option linter.unusedVariables false
set_option linter.unusedSimpArgs false
variable {N : Nm} {A B : Ar} {σ : Mem} {K : Value → Mem → Prop} {C : Cf} {who : Int}
structure Do where
 n : Int
 ws : Int
 z : Int
 own : Bool
 j : Int
 i : Int
def Do.s (d : Do) : Int := hdSl d.n
def Do.ge (d : Do) : Int := hdGe d.n
def Do.a (d : Do) (C : Cf) : Int := C.base d.j + d.i
def Do.v (d : Do) (C : Cf) : Int := putSlot 4 (d.a C) d.ge (slV d.ws + 1)
def Do.nx (d : Do) (C : Cf) : Int := if C.G ≤ d.ge then putSlot 3 0 d.ge 0 else putSlot 0 0 (d.ge + 1) 0
structure Do.ok (d : Do) (C : Cf) (b : Bg) (w : Int → Int) : Prop where
 n : 0 ≤ d.n ∧ d.n < 18446744073709551616
 hok : hdOk d.n = true
 s : 0 ≤ d.s ∧ d.s < C.S
 sF : d.s ∉ b.F
 ge : 0 ≤ d.ge ∧ d.ge ≤ 65535
 ws : w (C.slot d.s) = d.ws
 st : slS d.ws = 1 ∨ slS d.ws = 2
 sa : slA d.ws = d.a C
 sg : slG d.ws = d.ge
 hd : hdS (w (d.a C)) = d.z ∧ hdO (w (d.a C)) = d.own
 cl : 0 ≤ classOf d.z
 j : 0 ≤ d.j ∧ d.j < C.C
 i : 0 ≤ d.i ∧ d.i + roomOf (classOf d.z) ≤ b.u d.j
 z : d.z + 1 ≤ roomOf (classOf d.z)
 lv : roomOf (classOf d.z) ≤ b.lv d.j
def Do.fr (d : Do) (C : Cf) (w0 w : Int → Int) : Prop := ∀ a, a ≠ C.slot d.s → a ≠ 1 → a ≠ C.slot d.s + 1 → a ≠ C.chunk d.j + 1 → ¬ (d.a C < a ∧ a ≤ d.a C + d.z) → w a = w0 a
def Bg.less (b : Bg) (j n : Int) : Bg := { b with lv := upd b.lv j (b.lv j - n) }
end Go.Fl
namespace Go.Fl
open Go
set_option linter.unusedVariables false
set_option linter.unusedSimpArgs false
variable {N : Nm} {A B : Ar} {σ : Mem} {K : Value → Mem → Prop} {C : Cf} {who : Int}
theorem Bg.aw.pa {b : Bg} {bb : Int} (hC : C.ok) (h : b.aw C A.w) (ok : A.ok bb) (hn : C.len ≤ A.n) : Pa C A bb := by
 refine ⟨ok, hn, fun c c0 c3 => ?_⟩
 have := h.alo.op c c0 c3
 have := h.alo.bd
 omega
theorem Dm.new_fit (hC : C.ok) {n : Int} {o : Bool} (hn : 0 ≤ n ∧ n < 18446744073709551616) : (Dm.new n o).fit C A := by
 have hS := hC.S
 exact ⟨⟨Int.le_refl 0, (by decide : (0 : Int) ≤ 6)⟩, hn, ⟨Int.le_refl 0, by show (0 : Int) < C.S; omega⟩, ⟨Int.le_refl 0, (by decide : (0 : Int) < 18446744073709551616)⟩, fun e => (by cases e), fun e => (by rcases e with e | e <;> cases e), fun e => (by cases e), fun e => (by cases e)⟩
theorem ok_mono {bb b' : Int} (h : A.ok bb) (hb : bb ≤ b') : A.ok b' := ⟨h.w, ⟨h.s.1, by have := h.s.2; omega⟩, h.t⟩
end Go.Fl
namespace Go.Fl
open Go
set_option linter.unusedVariables false
set_option linter.unusedSimpArgs false
variable {N : Nm} {A B : Ar} {σ : Mem} {K : Value → Mem → Prop} {C : Cf} {who : Int}
theorem Ak.new_fit (hC : C.ok) {kd n ix v old : Int} {o : Bool} (hn : 0 ≤ n ∧ n < 18446744073709551616) (hb : (A.n : Int) ≤ 200000000) : (Ak.new kd n ix v old o).fit C A := by
 have hS := hC.S
 exact ⟨⟨⟨Int.le_refl 0, (by decide : (0 : Int) ≤ 6)⟩, hn, ⟨Int.le_refl 0, by show (0 : Int) < C.S; omega⟩, ⟨Int.le_refl 0, (by decide : (0 : Int) < 18446744073709551616)⟩, ⟨Int.le_refl 0, (by decide : (0 : Int) < 18446744073709551616)⟩, fun e => (by cases e), fun e => (by rcases e with e | e <;> cases e), hb⟩, fun e => (by cases e)⟩
end Go.Fl
namespace Go.Fl
open Go
set_option linter.unusedVariables false
set_option linter.unusedSimpArgs false
variable {N : Nm} {A B : Ar} {σ : Mem} {K : Value → Mem → Prop} {C : Cf} {who : Int}
def okAct (k v old : Int) : Prop := (1 ≤ k ∧ k ≤ 5) ∧ (0 ≤ v ∧ v ≤ 1099511627775) ∧ (0 ≤ old ∧ old ≤ 1099511627775)
instance {k v old : Int} : Decidable (okAct k v old) := inferInstanceAs (Decidable (_ ∧ _))
theorem box7 {k sz h ix v old : Int} {own : Bool} : gBox 7 [.agg #[.int .i64 k, .int .i64 sz, .int .u64 h, .int .i64 ix, .int .i64 v, .int .i64 old, .bool own]] [] = some [.int .i64 k, .int .i64 sz, .int .u64 h, .int .i64 ix, .int .i64 v, .int .i64 old, .bool own] := nr rfl
theorem sub7 {a b c d e f g : Value} : sub [a, b, c, d, e, f, g] 0 7 true = some (.agg #[a, b, c, d, e, f, g]) := nr rfl
theorem c_ActCheck {k sz h ix v old : Int} {own : Bool} : s_aj [.agg #[.int .i64 k, .int .i64 sz, .int .u64 h, .int .i64 ix, .int .i64 v, .int .i64 old, .bool own]] K σ = K (.bool (decide (okAct k v old))) σ := by
 have fin : ∀ b : Bool, (b = true ↔ (0 ≤ v ∧ v ≤ 1099511627775) ∧ (0 ≤ old ∧ old ≤ 1099511627775)) → w_aj_j1 K [.bool b] [[.int .i64 k, .int .i64 sz, .int .u64 h, .int .i64 ix, .int .i64 v, .int .i64 old, .bool own]] σ = K (.bool (decide (okAct k v old))) σ := by
  intro b hb
  simp only [w_aj_j1, w_aj_j1b, ruS, ruL, ruE, Nat.reduceAdd, reduceIte, Int.reduceLT, Int.reduceLE, Int.reduceEq, Int.reduceNeg, Int.reduceAdd, Int.reduceSub, Nat.reduceLeDiff, Nat.reduceLT]
  have key : (decide (okAct k v old)) = (decide (1 ≤ k) && decide (k ≤ 5) && b) := by
   rw [Bool.eq_iff_iff]
   simp only [Bool.and_eq_true, decide_eq_true_eq, hb]
   unfold okAct
   exact Iff.rfl
  rw [key]
  by_cases c1 : 1 ≤ k
  ·by_cases c2 : k ≤ 5
   ·simp only [c1, c2, ruS, ruL, ruE, Nat.reduceAdd, reduceIte, Int.reduceLT, Int.reduceLE, Int.reduceEq, Int.reduceNeg, Int.reduceAdd, Int.reduceSub, Nat.reduceLeDiff, Nat.reduceLT]; simp
   ·simp only [c1, c2, ruS, ruL, ruE, Nat.reduceAdd, reduceIte, Int.reduceLT, Int.reduceLE, Int.reduceEq, Int.reduceNeg, Int.reduceAdd, Int.reduceSub, Nat.reduceLeDiff, Nat.reduceLT]; simp
  ·simp only [c1, ruS, ruL, ruE, Nat.reduceAdd, reduceIte, Int.reduceLT, Int.reduceLE, Int.reduceEq, Int.reduceNeg, Int.reduceAdd, Int.reduceSub, Nat.reduceLeDiff, Nat.reduceLT]; simp
 simp only [s_aj, w_aj, box7, ruS, ruL, ruE, Nat.reduceAdd, reduceIte, Int.reduceLT, Int.reduceLE, Int.reduceEq, Int.reduceNeg, Int.reduceAdd, Int.reduceSub, Nat.reduceLeDiff, Nat.reduceLT]
 by_cases c1 : 0 ≤ v
 ·by_cases c2 : v ≤ 1099511627775
  ·by_cases c3 : 0 ≤ old
   ·by_cases c4 : old ≤ 1099511627775
    ·simp only [c1, c2, c3, c4, ruS, ruL, ruE, Nat.reduceAdd, reduceIte, Int.reduceLT, Int.reduceLE, Int.reduceEq, Int.reduceNeg, Int.reduceAdd, Int.reduceSub, Nat.reduceLeDiff, Nat.reduceLT]; exact fin true (by simp [c1, c2, c3, c4])
    ·simp only [c1, c2, c3, c4, ruS, ruL, ruE, Nat.reduceAdd, reduceIte, Int.reduceLT, Int.reduceLE, Int.reduceEq, Int.reduceNeg, Int.reduceAdd, Int.reduceSub, Nat.reduceLeDiff, Nat.reduceLT]; exact fin false (by simp [c4])
   ·simp only [c1, c2, c3, ruS, ruL, ruE, Nat.reduceAdd, reduceIte, Int.reduceLT, Int.reduceLE, Int.reduceEq, Int.reduceNeg, Int.reduceAdd, Int.reduceSub, Nat.reduceLeDiff, Nat.reduceLT]; exact fin false (by simp [c3])
  ·simp only [c1, c2, ruS, ruL, ruE, Nat.reduceAdd, reduceIte, Int.reduceLT, Int.reduceLE, Int.reduceEq, Int.reduceNeg, Int.reduceAdd, Int.reduceSub, Nat.reduceLeDiff, Nat.reduceLT]; exact fin false (by simp [c2])
 ·simp only [c1, ruS, ruL, ruE, Nat.reduceAdd, reduceIte, Int.reduceLT, Int.reduceLE, Int.reduceEq, Int.reduceNeg, Int.reduceAdd, Int.reduceSub, Nat.reduceLeDiff, Nat.reduceLT]; exact fin false (by simp [c1])
theorem c_awake15 : s_a3 [] K σ = K (.bool true) σ := by unfold s_a3; exact nr rfl
end Go.Fl
namespace Go.Fl
open Go
set_option linter.unusedVariables false
set_option linter.unusedSimpArgs false
variable {N : Nm} {A B : Ar} {σ : Mem} {K : Value → Mem → Prop} {C : Cf} {who : Int}
inductive Wk where
 | al (m : Am)
 | dr (m : Dm)
 | ac (m : Ak)
def Wk.ty : Wk → Nat
 | .al _ => 83
 | .dr _ => 85
 | .ac _ => 87
def Wk.step (C : Cf) (who : Int) (A : Ar) : Wk → Bool × Wk × Ar
 | .al m => ((m.step C who A).1, .al (m.step C who A).2.1, (m.step C who A).2.2)
 | .dr m => ((m.step C who A).1, .dr (m.step C who A).2.1, (m.step C who A).2.2)
 | .ac m => ((m.step C who A).1, .ac (m.step C who A).2.1, (m.step C who A).2.2)
def Wk.fit (C : Cf) (A : Ar) : Wk → Prop
 | .al m => m.fit C A
 | .dr m => m.fit C A
 | .ac m => m.fit C A
def Wk.ob (N : Nm) (q : Nat) (O : List Nat) (τ : Mem) : Wk → Prop
 | .al m => Ob N q O m τ
 | .dr m => DOb N q O m τ
 | .ac m => AOb N q O m τ
def Wk.oE : Wk → Int
 | .al m => m.a.oE
 | .dr m => m.d.oE
 | .ac m => m.a.oE
def Wk.oH : Wk → Int
 | .al m => m.a.oH
 | .dr m => m.d.oH
 | .ac m => m.a.oH
def Wk.oV : Wk → Int
 | .al m => m.a.oV
 | .dr m => m.d.oV
 | .ac m => m.a.oV
def Wk.oS : Wk → Int
 | .al m => m.a.oS
 | .dr m => m.d.oS
 | .ac m => m.a.oS
theorem Wk.ty_step {k : Wk} : (k.step C who A).2.1.ty = k.ty := by cases k <;> rfl
theorem c_WkStep (hN : N.ok) (hC : C.ok) (hA : isA N A σ) {q : Nat} {O : List Nat} {k : Wk} (hO : k.ob N q O σ) (hw : ∀ i, 0 ≤ A.w i ∧ A.w i < 18446744073709551616) (hn : C.len ≤ A.n) (hf : k.fit C A)
  (hk : ∀ O' τ, (∀ i ∈ O', i ∈ O ∨ σ.get i = none) → isA N (k.step C who A).2.2 τ → (k.step C who A).2.1.ob N q O' τ → Keep (O ++ N.l) σ τ → K (.bool (k.step C who A).1) τ) :
  hInv [(83, s_an), (85, s_as), (87, s_ab)] [.iface k.ty (.pointer (some ⟨q, 0, none⟩)), N.env C who] K σ := by
 cases k with
 | al m => exact c_Alloc_Step hN hC hA hO hw hn hf hk
 | dr m => exact c_Drop_Step hN hC hA hO hw hn hf hk
 | ac m => exact c_Acc_Step hN hC hA hO hw hn hf hk
theorem c_WkDone (hA : isA N A σ) {q : Nat} {O : List Nat} {k : Wk} (hO : k.ob N q O σ) (hk : K (.agg #[.int .i64 k.oE, .int .u64 k.oH, .int .i64 k.oV, .int .i64 k.oS]) σ) :
  hInv [(83, s_am), (85, s_ar), (87, s_aa)] [.iface k.ty (.pointer (some ⟨q, 0, none⟩))] K σ := by
 cases k with
 | al m => exact Ob.done hA hO hk
 | dr m => exact DOb.done hA hO hk
 | ac m => exact AOb.done hA hO hk
structure Aa where
 ip : Int
 ep : Int
 pc : Int
 wk : Wk
 oE : Int
 oH : Int
 oV : Int
 oS : Int
def Aa.l (a : Aa) (q : Nat) : List Value := [.int .i64 a.ip, .int .u64 a.ep, .int .i64 a.pc, .iface a.wk.ty (.pointer (some ⟨q, 0, none⟩)), .int .i64 a.oE, .int .u64 a.oH, .int .i64 a.oV, .int .i64 a.oS]
def Aa.new (k : Wk) : Aa := ⟨0, 0, 0, k, 0, 0, 0, 0⟩
def Aa.step (C : Cf) (who : Int) (A : Ar) (a : Aa) : Bool × Aa × Ar :=
 if a.pc = 0 then
  if a.ip = 0 then (false, { a with ip := 1, ep := A.w 0 }, (A.by who).load 0)
  else if a.ip = 1 then (false, { a with ip := 2 }, (A.by who).store (6 + who) (IntKind.u64.wrap (a.ep + 1)))
  else if A.w 0 = a.ep then (false, { a with pc := 1 }, (A.by who).load 0)
  else (false, { a with ip := 1, ep := A.w 0 }, (A.by who).load 0)
 else if a.pc = 1 then
  if (a.wk.step C who A).1 = true then (false, { a with wk := (a.wk.step C who A).2.1, oE := (a.wk.step C who A).2.1.oE, oH := (a.wk.step C who A).2.1.oH, oV := (a.wk.step C who A).2.1.oV, oS := (a.wk.step C who A).2.1.oS, pc := 2 }, (a.wk.step C who A).2.2)
  else (false, { a with wk := (a.wk.step C who A).2.1 }, (a.wk.step C who A).2.2)
 else (true, a, (A.by who).store (6 + who) 0)
theorem ldAa {p q k sz : Nat} {ag : Bool} {a : Aa} {v : Value} (hd : p ∉ N.l) (h : sub (a.l q) k sz ag = some v) : hLoad sz ag [.pointer (some ⟨p, k, none⟩)] K (putA N A (σ.set p ⟨a.l q, true⟩)) = K v (putA N A (σ.set p ⟨a.l q, true⟩)) := by
 rw [hLoad_eq ((putA_get hd).trans (Mem.get_set_same _ _ _)), h, xOs]
theorem stAa {p q k : Nat} {a : Aa} (a' : Aa) {x : Value} (hd : p ∉ N.l) (hx : cellsOf x 1 = some [x]) (ho : oneB x = true) (hk : k + 1 ≤ 8) (e : lay (a.l q) k [x] = a'.l q) :
  hStore 1 [.pointer (some ⟨p, k, none⟩), x] K (putA N A (σ.set p ⟨a.l q, true⟩)) = K undef (putA N A (σ.set p ⟨a'.l q, true⟩)) := by
 have := stO (K := K) (N := N) (A := A) (σ := σ) (p := p) (pre := []) (L := a.l q) (post := []) (k := k) (sz := 1) (x := x) (c := [x]) hd hx rfl hk (by simp [ho])
 rw [e] at this
 simpa only [List.nil_append, List.append_nil, List.length_nil, Nat.zero_add] using this
theorem stAaa {p q k sz : Nat} {a : Aa} (a' : Aa) {c : List Value} (hd : p ∉ N.l) (hl : c.length = sz) (ho : c.all oneB = true) (hk : k + sz ≤ 8) (e : lay (a.l q) k c = a'.l q) :
  hStore sz [.pointer (some ⟨p, k, none⟩), .agg c.toArray] K (putA N A (σ.set p ⟨a.l q, true⟩)) = K undef (putA N A (σ.set p ⟨a'.l q, true⟩)) := by
 have := stOa (K := K) (N := N) (A := A) (σ := σ) (p := p) (pre := []) (L := a.l q) (post := []) (k := k) (sz := sz) (c := c) hd hl hk ho
 rw [e] at this
 simpa only [List.nil_append, List.append_nil, List.length_nil, Nat.zero_add] using this
theorem stA4 {p q : Nat} {a : Aa} {e h v s : Int} (a' : Aa) (hd : p ∉ N.l) (e' : lay (a.l q) 4 [.int .i64 e, .int .u64 h, .int .i64 v, .int .i64 s] = a'.l q) :
  hStore 4 [.pointer (some ⟨p, 4, none⟩), .agg #[.int .i64 e, .int .u64 h, .int .i64 v, .int .i64 s]] K (putA N A (σ.set p ⟨a.l q, true⟩)) = K undef (putA N A (σ.set p ⟨a'.l q, true⟩)) :=
 stAaa (sz := 4) (k := 4) (c := [.int .i64 e, .int .u64 h, .int .i64 v, .int .i64 s]) a' hd rfl rfl (by decide) e'
theorem box9 {c : Cf} : gBox 9 [N.env c who] [] = some (N.el c who) := nr rfl
theorem c_InStep (hN : N.ok) (hC : C.ok) {p q : Nat} {a : Aa} (hd : p ∉ N.l) (hn : C.len ≤ A.n) (hw : 0 ≤ who ∧ who < C.T) (hip : a.ip = 0 ∨ a.ip = 1 ∨ a.ip = 2) :
  s_by [.pointer (some ⟨p, 0, none⟩), N.env C who] K (putA N A (σ.set p ⟨a.l q, true⟩)) =
   (if a.ip = 0 then K (.bool false) (putA N ((A.by who).load 0) (σ.set p ⟨({ a with ip := 1, ep := A.w 0 } : Aa).l q, true⟩))
   else if a.ip = 1 then K (.bool false) (putA N ((A.by who).store (6 + who) (IntKind.u64.wrap (a.ep + 1))) (σ.set p ⟨({ a with ip := 2 } : Aa).l q, true⟩))
   else if A.w 0 = a.ep then K (.bool true) (putA N ((A.by who).load 0) (σ.set p ⟨a.l q, true⟩))
   else K (.bool false) (putA N ((A.by who).load 0) (σ.set p ⟨({ a with ip := 1, ep := A.w 0 } : Aa).l q, true⟩))) := by
 have hT := hC.T; have hS := hC.S; have hC3 := hC.C; have hl := len_bd hC
 have hch : C.chunk C.C = 6 + C.T + 2 * C.S + 3 * C.C := rfl
 have e8 : sub (N.el C who) 8 1 false = some (.int .i64 who) := rfl
 simp only [s_by, w_by, box9, ldAa (K := _) hd (show sub (a.l q) 0 1 false = some (.int .i64 a.ip) from rfl), ruS, ruL, ruE, Nat.reduceAdd, reduceIte, Int.reduceLT, Int.reduceLE, Int.reduceEq, Int.reduceNeg, Int.reduceAdd, Int.reduceSub, Nat.reduceLeDiff, Nat.reduceLT]
 rcases hip with h | h | h
 ·simp only [h, ruS, ruL, ruE, Nat.reduceAdd, reduceIte, Int.reduceLT, Int.reduceLE, Int.reduceEq, Int.reduceNeg, Int.reduceAdd, Int.reduceSub, Nat.reduceLeDiff, Nat.reduceLT]
  rw [c_Epoch, c_Load hN (by decide) (by omega)]
  rw [stAa ({ a with ep := A.w 0 } : Aa) hd rfl rfl (by decide) rfl]
  rw [stAa ({ a with ip := 1, ep := A.w 0 } : Aa) hd rfl rfl (by decide) rfl]
  simp only [w_by_j1, w_by_j1b, ruS, ruL, ruE, Nat.reduceAdd, reduceIte, Int.reduceLT, Int.reduceLE, Int.reduceEq, Int.reduceNeg, Int.reduceAdd, Int.reduceSub, Nat.reduceLeDiff, Nat.reduceLT]
 ·simp only [h, e8, ruS, ruL, ruE, Nat.reduceAdd, reduceIte, Int.reduceLT, Int.reduceLE, Int.reduceEq, Int.reduceNeg, Int.reduceAdd, Int.reduceSub, Nat.reduceLeDiff, Nat.reduceLT]
  rw [c_Pin hw.1 (by omega)]
  rw [ldAa hd (show sub (a.l q) 1 1 false = some (.int .u64 a.ep) from rfl)]
  simp only [ruS, ruL, ruE, Nat.reduceAdd, reduceIte, Int.reduceLT, Int.reduceLE, Int.reduceEq, Int.reduceNeg, Int.reduceAdd, Int.reduceSub, Nat.reduceLeDiff, Nat.reduceLT]
  rw [c_Store hN (by omega) (by omega)]
  rw [stAa ({ a with ip := 2 } : Aa) hd rfl rfl (by decide) rfl]
  simp only [w_by_j1, w_by_j1b, ruS, ruL, ruE, Nat.reduceAdd, reduceIte, Int.reduceLT, Int.reduceLE, Int.reduceEq, Int.reduceNeg, Int.reduceAdd, Int.reduceSub, Nat.reduceLeDiff, Nat.reduceLT]
 ·simp only [h, ruS, ruL, ruE, Nat.reduceAdd, reduceIte, Int.reduceLT, Int.reduceLE, Int.reduceEq, Int.reduceNeg, Int.reduceAdd, Int.reduceSub, Nat.reduceLeDiff, Nat.reduceLT]
  rw [c_Epoch, c_Load hN (by decide) (by omega)]
  rw [ldAa hd (show sub (a.l q) 1 1 false = some (.int .u64 a.ep) from rfl)]
  by_cases c : A.w 0 = a.ep
  ·simp only [c, ruS, ruL, ruE, Nat.reduceAdd, reduceIte, Int.reduceLT, Int.reduceLE, Int.reduceEq, Int.reduceNeg, Int.reduceAdd, Int.reduceSub, Nat.reduceLeDiff, Nat.reduceLT]
  ·simp only [c, ruS, ruL, ruE, Nat.reduceAdd, reduceIte, Int.reduceLT, Int.reduceLE, Int.reduceEq, Int.reduceNeg, Int.reduceAdd, Int.reduceSub, Nat.reduceLeDiff, Nat.reduceLT]
   rw [stAa ({ a with ep := A.w 0 } : Aa) hd rfl rfl (by decide) rfl]
   rw [stAa ({ a with ip := 1, ep := A.w 0 } : Aa) hd rfl rfl (by decide) rfl]
   simp only [w_by_j1, w_by_j1b, ruS, ruL, ruE, Nat.reduceAdd, reduceIte, Int.reduceLT, Int.reduceLE, Int.reduceEq, Int.reduceNeg, Int.reduceAdd, Int.reduceSub, Nat.reduceLeDiff, Nat.reduceLT]
structure TOb (N : Nm) (p : Nat) (O : List Nat) (a : Aa) (τ : Mem) : Prop where
 obj : ∃ q, τ.get p = some ⟨a.l q, true⟩ ∧ a.wk.ob N q O τ
 po : p ∉ O
 pn : p ∉ N.l
theorem Ob.keep {p : Nat} {O L : List Nat} {m : Am} {τ : Mem} (h : Ob N p O m σ) (x : Keep L σ τ) (hL : ∀ i ∈ O, i ∉ L) : Ob N p O m τ := by
 obtain ⟨⟨a, b, h1, h2, h3⟩, h4, h5⟩ := h
 refine ⟨⟨a, b, x.get h1 (hL p h5), fun e => ?_, fun e => ?_⟩, h4, h5⟩
 ·obtain ⟨q, q1, q2, q3, q4⟩ := h2 e; exact ⟨q, q1, q2, q3, x.get q4 (hL q q2)⟩
 ·obtain ⟨q, q1, q2, q3, q4⟩ := h3 e; exact ⟨q, q1, q2, q3, x.get q4 (hL q q2)⟩
theorem DOb.keep {p : Nat} {O L : List Nat} {m : Dm} {τ : Mem} (h : DOb N p O m σ) (x : Keep L σ τ) (hL : ∀ i ∈ O, i ∉ L) : DOb N p O m τ := by
 obtain ⟨⟨a, b, h1, h2, h3⟩, h4, h5⟩ := h
 refine ⟨⟨a, b, x.get h1 (hL p h5), fun e => ?_, fun e => ?_⟩, h4, h5⟩
 ·obtain ⟨q, q1, q2, q3, q4⟩ := h2 e; exact ⟨q, q1, q2, q3, x.get q4 (hL q q2)⟩
 ·obtain ⟨q, q1, q2, q3, q4⟩ := h3 e; exact ⟨q, q1, q2, q3, x.get q4 (hL q q2)⟩
theorem Wk.ob_own {q : Nat} {O : List Nat} {k : Wk} (h : k.ob N q O σ) : ∀ i ∈ O, i ∉ N.l := by cases k <;> exact h.own
theorem Wk.ob_keep {q : Nat} {O L : List Nat} {k : Wk} {τ : Mem} (h : k.ob N q O σ) (x : Keep L σ τ) (hL : ∀ i ∈ O, i ∉ L) : k.ob N q O τ := by
 cases k with
 | al m => exact Ob.keep h x hL
 | dr m => exact DOb.keep h x hL
 | ac m => exact AOb.keep h x hL
theorem c_ActStep (hN : N.ok) (hC : C.ok) (hA : isA N A σ) {p : Nat} {O : List Nat} {a : Aa} (hO : TOb N p O a σ) (hw : ∀ i, 0 ≤ A.w i ∧ A.w i < 18446744073709551616) (hn : C.len ≤ A.n) (hwho : 0 ≤ who ∧ who < C.T) (hip : a.ip = 0 ∨ a.ip = 1 ∨ a.ip = 2) (hpc : a.pc = 0 ∨ a.pc = 1 ∨ a.pc = 2) (hf : a.pc = 1 → a.wk.fit C A)
  (hk : ∀ O' τ, (∀ i ∈ O', i ∈ O ∨ σ.get i = none) → isA N (a.step C who A).2.2 τ → TOb N p O' (a.step C who A).2.1 τ → Keep (p :: (O ++ N.l)) σ τ → K (.bool (a.step C who A).1) τ) : s_ai [.pointer (some ⟨p, 0, none⟩), N.env C who] K σ := by
 obtain ⟨⟨q, gp, wo⟩, pO, hd⟩ := hO
 have hT := hC.T; have hS := hC.S; have hC3 := hC.C; have hl := len_bd hC
 have hch : C.chunk C.C = 6 + C.T + 2 * C.S + 3 * C.C := rfl
 have own := Wk.ob_own wo
 have dj : ∀ i ∈ O, i ∉ p :: N.l := fun i hi => by
  simp only [List.mem_cons, not_or]; exact ⟨fun e => pO (e ▸ hi), own i hi⟩
 have kk : ∀ {τ : Mem}, Keep (p :: N.l) σ τ → Keep (p :: (O ++ N.l)) σ τ := fun k => k.mono fun i hi => by
  rcases List.mem_cons.1 hi with rfl | hi
  ·exact List.mem_cons_self ..
  ·exact List.mem_cons_of_mem _ (List.mem_append_right _ hi)
 have e8 : sub (N.el C who) 8 1 false = some (.int .i64 who) := rfl
 have bO : ∀ K : Value → Prop, xF (fBuild [] [] []) [] K = K (.agg #[]) := fun K => nr rfl
 rcases hpc with h | h | h
 · -- pinning
  unfold Aa.step at hk
  rw [if_pos h] at hk
  rw [hA.obj gp]
  simp only [s_ai, w_ai, box9, ldAa (K := _) hd (show sub (a.l q) 2 1 false = some (.int .i64 a.pc) from rfl), h, ruS, ruL, ruE, Nat.reduceAdd, reduceIte, Int.reduceLT, Int.reduceLE, Int.reduceEq, Int.reduceNeg, Int.reduceAdd, Int.reduceSub, Nat.reduceLeDiff, Nat.reduceLT]
  rw [c_InStep hN hC hd hn hwho hip]
  have done : ∀ {A' : Ar} {a' : Aa}, a'.wk = a.wk → (∀ τ, isA N A' τ → TOb N p O a' τ → Keep (p :: (O ++ N.l)) σ τ → K (.bool false) τ) → K (.bool false) (putA N A' (σ.set p ⟨a'.l q, true⟩)) := fun {A' a'} e hk =>
   behind hN hd fun τ h1 h2 h3 => hk τ h1 ⟨⟨q, h2, by rw [e]; exact Wk.ob_keep wo h3 dj⟩, pO, hd⟩ (kk h3)
  by_cases c0 : a.ip = 0
  ·rw [if_pos c0] at hk ⊢
   simp only [w_ai_j1, w_ai_j1b, ruS, ruL, ruE, Nat.reduceAdd, reduceIte, Int.reduceLT, Int.reduceLE, Int.reduceEq, Int.reduceNeg, Int.reduceAdd, Int.reduceSub, Nat.reduceLeDiff, Nat.reduceLT]
   exact done rfl fun τ h1 h2 h3 => hk O τ (fun i hi => .inl hi) h1 h2 h3
  ·rw [if_neg c0] at hk ⊢
   by_cases c1 : a.ip = 1
   ·rw [if_pos c1] at hk ⊢
    simp only [w_ai_j1, w_ai_j1b, ruS, ruL, ruE, Nat.reduceAdd, reduceIte, Int.reduceLT, Int.reduceLE, Int.reduceEq, Int.reduceNeg, Int.reduceAdd, Int.reduceSub, Nat.reduceLeDiff, Nat.reduceLT]
    exact done rfl fun τ h1 h2 h3 => hk O τ (fun i hi => .inl hi) h1 h2 h3
   ·rw [if_neg c1] at hk ⊢
    by_cases c2 : A.w 0 = a.ep
    ·rw [if_pos c2] at hk ⊢
     simp only [ruS, ruL, ruE, Nat.reduceAdd, reduceIte, Int.reduceLT, Int.reduceLE, Int.reduceEq, Int.reduceNeg, Int.reduceAdd, Int.reduceSub, Nat.reduceLeDiff, Nat.reduceLT]
     rw [stAa ({ a with pc := 1 } : Aa) hd rfl rfl (by decide) rfl]
     simp only [w_ai_j1, w_ai_j1b, ruS, ruL, ruE, Nat.reduceAdd, reduceIte, Int.reduceLT, Int.reduceLE, Int.reduceEq, Int.reduceNeg, Int.reduceAdd, Int.reduceSub, Nat.reduceLeDiff, Nat.reduceLT]
     exact done rfl fun τ h1 h2 h3 => hk O τ (fun i hi => .inl hi) h1 h2 h3
    ·rw [if_neg c2] at hk ⊢
     simp only [w_ai_j1, w_ai_j1b, ruS, ruL, ruE, Nat.reduceAdd, reduceIte, Int.reduceLT, Int.reduceLE, Int.reduceEq, Int.reduceNeg, Int.reduceAdd, Int.reduceSub, Nat.reduceLeDiff, Nat.reduceLT]
     exact done rfl fun τ h1 h2 h3 => hk O τ (fun i hi => .inl hi) h1 h2 h3
 · -- doing
  unfold Aa.step at hk
  rw [if_neg (by omega), if_pos h] at hk
  simp only [s_ai, w_ai, box9, ldG gp (show sub (a.l q) 2 1 false = some (.int .i64 a.pc) from rfl), ldG gp (show sub (a.l q) 3 1 false = some (.iface a.wk.ty (.pointer (some ⟨q, 0, none⟩))) from rfl), h, ruS, ruL, ruE, Nat.reduceAdd, reduceIte, Int.reduceLT, Int.reduceLE, Int.reduceEq, Int.reduceNeg, Int.reduceAdd, Int.reduceSub, Nat.reduceLeDiff, Nat.reduceLT]
  refine c_WkStep hN hC hA wo hw hn (hf h) fun O' τ1 hO' hA1 hO1 hK1 => ?_
  have gp1 : τ1.get p = some ⟨a.l q, true⟩ := hK1.get gp (by simp only [List.mem_append, not_or]; exact ⟨pO, hd⟩)
  have pO' : p ∉ O' := fun hp => by
   rcases hO' p hp with y | y
   ·exact pO y
   ·rw [gp] at y; cases y
  have ety : (a.wk.step C who A).2.1.ty = a.wk.ty := Wk.ty_step
  have k1 : Keep (p :: (O ++ N.l)) σ τ1 := hK1.mono fun i hi => List.mem_cons_of_mem _ hi
  have own1 := Wk.ob_own hO1
  generalize a.wk.step C who A = r at *
  obtain ⟨d, k', A'⟩ := r
  dsimp only at *
  have gp2 : τ1.get p = some ⟨({ a with wk := k' } : Aa).l q, true⟩ := by rw [gp1]; unfold Aa.l; dsimp only; rw [ety]
  cases d with
  | false =>
   rw [if_neg (by decide)] at hk
   simp only [w_ai_j1, w_ai_j1b, ruS, ruL, ruE, Nat.reduceAdd, reduceIte, Int.reduceLT, Int.reduceLE, Int.reduceEq, Int.reduceNeg, Int.reduceAdd, Int.reduceSub, Nat.reduceLeDiff, Nat.reduceLT]
   exact hk O' τ1 hO' hA1 ⟨⟨q, gp2, hO1⟩, pO', hd⟩ k1
  | true =>
   rw [if_pos rfl] at hk
   simp only [ldG gp1 (show sub (a.l q) 3 1 false = some (.iface a.wk.ty (.pointer (some ⟨q, 0, none⟩))) from rfl), ruS, ruL, ruE, Nat.reduceAdd, reduceIte, Int.reduceLT, Int.reduceLE, Int.reduceEq, Int.reduceNeg, Int.reduceAdd, Int.reduceSub, Nat.reduceLeDiff, Nat.reduceLT]
   rw [← ety]
   refine c_WkDone hA1 hO1 ?_
   rw [hA1.obj gp2]
   rw [stA4 (a := { a with wk := k' }) (e := k'.oE) (h := k'.oH) (v := k'.oV) (s := k'.oS) ({ a with wk := k', oE := k'.oE, oH := k'.oH, oV := k'.oV, oS := k'.oS } : Aa) hd rfl]
   rw [stAa ({ a with wk := k', oE := k'.oE, oH := k'.oH, oV := k'.oV, oS := k'.oS, pc := 2 } : Aa) hd rfl rfl (by decide) rfl]
   simp only [w_ai_j1, w_ai_j1b, ruS, ruL, ruE, Nat.reduceAdd, reduceIte, Int.reduceLT, Int.reduceLE, Int.reduceEq, Int.reduceNeg, Int.reduceAdd, Int.reduceSub, Nat.reduceLeDiff, Nat.reduceLT]
   refine behind hN hd fun τ h1 h2 h3 => hk O' τ hO' h1 ⟨⟨q, h2, Wk.ob_keep hO1 h3 fun i hi => ?_⟩, pO', hd⟩ fun i b hi hn => ?_
   ·simp only [List.mem_cons, not_or]; exact ⟨fun e => pO' (e ▸ hi), own1 i hi⟩
   ·refine h3 i b (k1 i b hi hn) fun hm => hn ?_
    rcases List.mem_cons.1 hm with rfl | hm
    ·exact List.mem_cons_self ..
    ·exact List.mem_cons_of_mem _ (List.mem_append_right _ hm)
 · -- letting go
  unfold Aa.step at hk
  rw [if_neg (by omega), if_neg (by omega)] at hk
  have bx0 : gBox 0 [.agg #[]] [] = some [] := rfl
  rw [hA.obj gp]
  simp only [s_ai, w_ai, box9, ldAa (K := _) hd (show sub (a.l q) 2 1 false = some (.int .i64 a.pc) from rfl), h, bO, s_bz, w_bz, bx0, e8, ruS, ruL, ruE, Nat.reduceAdd, reduceIte, Int.reduceLT, Int.reduceLE, Int.reduceEq, Int.reduceNeg, Int.reduceAdd, Int.reduceSub, Nat.reduceLeDiff, Nat.reduceLT]
  rw [c_Pin hwho.1 (by omega), c_Store hN (by omega) (by omega)]
  exact behind hN hd fun τ h1 h2 h3 => hk O τ (fun i hi => .inl hi) h1 ⟨⟨q, h2, Wk.ob_keep wo h3 dj⟩, pO, hd⟩ (kk h3)
end Go.Fl
namespace Go.Fl
open Go
set_option linter.unusedVariables false
set_option linter.unusedSimpArgs false
variable {N : Nm} {A B : Ar} {σ : Mem} {K : Value → Mem → Prop} {C : Cf} {who : Int}
def Wk.of (k sz h ix v old : Int) (own : Bool) : Wk := if k = 1 then .al (Am.new sz own) else if k = 2 then .dr (Dm.new h own) else .ac (Ak.new (k - 2) h ix v old own)
theorem c_of (hA : isA N A σ) {k sz h ix v old : Int} {own : Bool} (hok : 1 ≤ k ∧ k ≤ 5) (hk : ∀ q τ, σ.get q = none → (Wk.of k sz h ix v old own).ob N q [q] τ → Ext σ τ → K (.iface (Wk.of k sz h ix v old own).ty (.pointer (some ⟨q, 0, none⟩))) τ) :
  s_al [.agg #[.int .i64 k, .int .i64 sz, .int .u64 h, .int .i64 ix, .int .i64 v, .int .i64 old, .bool own]] K σ := by
 have b5 : ∀ (a b c d e : Int) (K : Value → Prop), xF (fBuild [(0, 1), (1, 1), (2, 1), (3, 1), (4, 1)] [.int .i64 0, .int .u64 0, .int .i64 0, .int .i64 0, .int .i64 0] [0, 1, 2, 3, 4]) [.int .i64 a, .int .u64 b, .int .i64 c, .int .i64 d, .int .i64 e] K = K (.agg #[.int .i64 a, .int .u64 b, .int .i64 c, .int .i64 d, .int .i64 e]) := fun _ _ _ _ _ K => nr rfl
 unfold Wk.of at hk
 simp only [s_al, w_al, box7, ruS, ruL, ruE, Nat.reduceAdd, reduceIte, Int.reduceLT, Int.reduceLE, Int.reduceEq, Int.reduceNeg, Int.reduceAdd, Int.reduceSub, Nat.reduceLeDiff, Nat.reduceLT]
 by_cases c1 : k = 1
 ·rw [if_pos c1] at hk
  simp only [c1, ruS, ruL, ruE, Nat.reduceAdd, reduceIte, Int.reduceLT, Int.reduceLE, Int.reduceEq, Int.reduceNeg, Int.reduceAdd, Int.reduceSub, Nat.reduceLeDiff, Nat.reduceLT]
  exact ob_new hA fun p τ hp ho x => hk p τ hp ho x
 ·rw [if_neg c1] at hk
  by_cases c2 : k = 2
  ·rw [if_pos c2] at hk
   simp only [c1, c2, ruS, ruL, ruE, Nat.reduceAdd, reduceIte, Int.reduceLT, Int.reduceLE, Int.reduceEq, Int.reduceNeg, Int.reduceAdd, Int.reduceSub, Nat.reduceLeDiff, Nat.reduceLT]
   exact dob_new hA fun p τ hp ho x => hk p τ hp ho x
  ·rw [if_neg c2] at hk
   simp only [c1, c2, b5, ruS, ruL, ruE, Nat.reduceAdd, reduceIte, Int.reduceLT, Int.reduceLE, Int.reduceEq, Int.reduceNeg, Int.reduceAdd, Int.reduceSub, Nat.reduceLeDiff, Nat.reduceLT]
   rw [IntWalk.i64_in (k - 3) (by omega), IntWalk.i64_in (k - 3 + 1) (by omega), show k - 3 + 1 = k - 2 by omega]
   exact aob_new hA fun p τ hp ho x => hk p τ hp ho x
theorem c_ActNew (hA : isA N A σ) {k sz h ix v old : Int} {own : Bool} (hok : okAct k v old) (hk : ∀ p q τ, σ.get p = none → σ.get q = none → TOb N p [q] (Aa.new (Wk.of k sz h ix v old own)) τ → Ext σ τ → K (.tuple #[.pointer (some ⟨p, 0, none⟩), .int .i64 0]) τ) :
  s_ak [.agg #[.int .i64 k, .int .i64 sz, .int .u64 h, .int .i64 ix, .int .i64 v, .int .i64 old, .bool own]] K σ := by
 have b8 : ∀ (t q : Nat) (K : Value → Prop), xF (fBuild [(0, 2), (2, 1), (3, 1), (4, 4)] [.int .i64 0, .int .u64 0, .int .i64 0, .nilIface, .int .i64 0, .int .u64 0, .int .i64 0, .int .i64 0] [2]) [.iface t (.pointer (some ⟨q, 0, none⟩))] K =
   K (.agg #[.int .i64 0, .int .u64 0, .int .i64 0, .iface t (.pointer (some ⟨q, 0, none⟩)), .int .i64 0, .int .u64 0, .int .i64 0, .int .i64 0]) := fun _ _ K => nr rfl
 simp only [s_ak, w_ak, box7, sub7, c_ActCheck, hok, ruS, ruL, ruE, Nat.reduceAdd, reduceIte, Int.reduceLT, Int.reduceLE, Int.reduceEq, Int.reduceNeg, Int.reduceAdd, Int.reduceSub, Nat.reduceLeDiff, Nat.reduceLT]
 refine c_of hA hok.1 fun q τ hq ho x => ?_
 rw [b8]
 refine hBox_i (cs := (Aa.new (Wk.of k sz h ix v old own)).l q) rfl fun p τ2 hp gp x2 => ?_
 have hA1 := hA.ext x
 have hqn : τ.get q ≠ none := by
  revert ho
  generalize Wk.of k sz h ix v old own = wk
  intro ho
  cases wk with
  | al m => obtain ⟨⟨_, _, g, _⟩, _⟩ := ho; rw [g]; simp
  | dr m => obtain ⟨⟨_, _, g, _⟩, _⟩ := ho; rw [g]; simp
  | ac m => obtain ⟨⟨_, g, _⟩, _⟩ := ho; rw [g]; simp
 refine hk p q τ2 (x.none hp) hq ⟨⟨q, gp, Wk.ob_keep (L := []) ho x2.keep fun _ _ => by simp⟩, fun e => ?_, hA1.new hp⟩ (x.trans x2)
 rw [List.mem_singleton.1 e] at hp
 exact hqn hp
theorem TOb.done {p : Nat} {O : List Nat} {a : Aa} (h : TOb N p O a σ) (hk : K (.agg #[.int .i64 a.oE, .int .u64 a.oH, .int .i64 a.oV, .int .i64 a.oS]) σ) : s_ah [.pointer (some ⟨p, 0, none⟩)] K σ := by
 obtain ⟨⟨q, gp, _⟩, _⟩ := h
 have gU : ∀ {k : Nat} {x y z w : Int}, gStore 4 [.pointer (some ⟨k, 0, some 0⟩), .agg #[.int .i64 x, .int .u64 y, .int .i64 z, .int .i64 w]] [.int .i64 0, .int .u64 0, .int .i64 0, .int .i64 0] = some [.int .i64 x, .int .u64 y, .int .i64 z, .int .i64 w] := fun {_ _ _ _ _} => rfl
 simp only [s_ah, w_ah, ldG gp (show sub (a.l q) 4 4 true = some (.agg #[.int .i64 a.oE, .int .u64 a.oH, .int .i64 a.oV, .int .i64 a.oS]) from rfl), gU, sub4, ruS, ruL, ruE, Nat.reduceAdd, reduceIte, Int.reduceLT, Int.reduceLE, Int.reduceEq, Int.reduceNeg, Int.reduceAdd, Int.reduceSub, Nat.reduceLeDiff, Nat.reduceLT]
 exact hk
theorem c_ActDo (hN : N.ok) (hC : C.ok) (hA : isA N A σ) (hwho : 0 ≤ who ∧ who < C.T) {k sz h ix v old : Int} {own : Bool} (hok : okAct k v old) (I : Int → Aa → Ar → Prop) (D : Aa → Ar → Prop) (h0 : I 0 (Aa.new (Wk.of k sz h ix v old own)) A)
  (hs : ∀ i a A, 0 ≤ i → i < 500 → I i a A → (a.ip = 0 ∨ a.ip = 1 ∨ a.ip = 2) ∧ (a.pc = 0 ∨ a.pc = 1 ∨ a.pc = 2) ∧ (a.pc = 1 → a.wk.fit C A) ∧ (∀ i, 0 ≤ A.w i ∧ A.w i < 18446744073709551616) ∧ C.len ≤ A.n ∧ if (a.step C who A).1 = true then D (a.step C who A).2.1 (a.step C who A).2.2 else I (i + 1) (a.step C who A).2.1 (a.step C who A).2.2)
  (he : ∀ a A, I 500 a A → D a A) (hk : ∀ a A' τ, D a A' → isA N A' τ → Keep N.l σ τ → K (.agg #[.int .i64 a.oE, .int .u64 a.oH, .int .i64 a.oV, .int .i64 a.oS]) τ) :
  s_a2 [N.env C who, .agg #[.int .i64 k, .int .i64 sz, .int .u64 h, .int .i64 ix, .int .i64 v, .int .i64 old, .bool own]] K σ := by
 have gs : ∀ x y z w : Int, gStore 4 [.pointer (some ⟨4, 0, some 0⟩), .agg #[.int .i64 x, .int .u64 y, .int .i64 z, .int .i64 w]] [.int .i64 0, .int .u64 0, .int .i64 0, .int .i64 0] = some [.int .i64 x, .int .u64 y, .int .i64 z, .int .i64 w] := fun _ _ _ _ => rfl
 simp only [s_a2, w_a2, box9, box7, sub7, ruS, ruL, ruE, Nat.reduceAdd, reduceIte, Int.reduceLT, Int.reduceLE, Int.reduceEq, Int.reduceNeg, Int.reduceAdd, Int.reduceSub, Nat.reduceLeDiff, Nat.reduceLT]
 refine c_ActNew hA hok fun p q τ0 hp hq ho x0 => ?_
 simp only [ruS, ruL, ruE, Nat.reduceAdd, reduceIte, Int.reduceLT, Int.reduceLE, Int.reduceEq, Int.reduceNeg, Int.reduceAdd, Int.reduceSub, Nat.reduceLeDiff, Nat.reduceLT]
 have fin : ∀ a A' τ, D a A' → isA N A' τ → (∃ O, TOb N p O a τ) → Keep N.l σ τ → w_a2_j1 K [.pointer (some ⟨p, 0, none⟩)] [[.int .i64 0, .int .u64 0, .int .i64 0, .int .i64 0]] τ := by
  rintro a A' τ hD hA' ⟨O, hO⟩ hK
  simp only [w_a2_j1, w_a2_j1b, ruS, ruL, ruE, Nat.reduceAdd, reduceIte, Int.reduceLT, Int.reduceLE, Int.reduceEq, Int.reduceNeg, Int.reduceAdd, Int.reduceSub, Nat.reduceLeDiff, Nat.reduceLT]
  refine TOb.done hO ?_
  simp only [gs, sub4, ruS, ruL, ruE, Nat.reduceAdd, reduceIte, Int.reduceLT, Int.reduceLE, Int.reduceEq, Int.reduceNeg, Int.reduceAdd, Int.reduceSub, Nat.reduceLeDiff, Nat.reduceLT]
  exact hk a A' τ hD hA' hK
 refine xLoop_i (fun i => [.pointer (some ⟨p, 0, none⟩), .int .i64 i]) [N.el C who, [.int .i64 0, .int .u64 0, .int .i64 0, .int .i64 0]] 500
  (fun i τ => ∃ a A' O, 0 ≤ i ∧ i ≤ 500 ∧ isA N A' τ ∧ I i a A' ∧ TOb N p O a τ ∧ (∀ j ∈ O, σ.get j = none) ∧ Keep N.l σ τ) ?_ ⟨_, A, [q], by omega, by omega, hA.ext x0, h0, ho, fun j hj => by rw [List.mem_singleton.1 hj]; exact hq, x0.keep⟩
 rintro i τ ⟨a, A', O, i0, i1, hA', hI, hO, hOn, hK⟩ R hR
 simp only [w_law15_Do_l6, w_law15_Do_l6b, ruS, ruL, ruE, Nat.reduceAdd, reduceIte, Int.reduceLT, Int.reduceLE, Int.reduceEq, Int.reduceNeg, Int.reduceAdd, Int.reduceSub, Nat.reduceLeDiff, Nat.reduceLT]
 by_cases ci : i < 500
 ·simp only [ci, ruS, ruL, ruE, Nat.reduceAdd, reduceIte, Int.reduceLT, Int.reduceLE, Int.reduceEq, Int.reduceNeg, Int.reduceAdd, Int.reduceSub, Nat.reduceLeDiff, Nat.reduceLT]
  obtain ⟨hip, hpc, hf, hw, hn, hst⟩ := hs i a A' i0 ci hI
  refine c_ActStep hN hC hA' hO hw hn hwho hip hpc hf fun O' τ' hO' hA2 hO2 hK2 => ?_
  have hK3 : Keep N.l σ τ' := by
   intro j b hj hn'
   refine hK2 j b (hK j b hj hn') fun hm => ?_
   rcases List.mem_cons.1 hm with rfl | hm
   ·rw [hp] at hj; cases hj
   rcases List.mem_append.1 hm with h | h
   ·rw [hOn j h] at hj; cases hj
   ·exact hn' h
  have hOn' : ∀ j ∈ O', σ.get j = none := by
   intro j hj
   rcases hO' j hj with h | h
   ·exact hOn j h
   ·cases e : σ.get j with
    | none => rfl
    | some b => rw [hK j b e (hA'.new h)] at h; cases h
  generalize a.step C who A' = r at *
  obtain ⟨d, a', A2⟩ := r
  dsimp only at *
  cases d with
  | true =>
   simp only [ruS, ruL, ruE, Nat.reduceAdd, reduceIte, Int.reduceLT, Int.reduceLE, Int.reduceEq, Int.reduceNeg, Int.reduceAdd, Int.reduceSub, Nat.reduceLeDiff, Nat.reduceLT] at hst ⊢
   exact fin a' A2 τ' hst hA2 ⟨O', hO2⟩ hK3
  | false =>
   simp only [ruS, ruL, ruE, Nat.reduceAdd, reduceIte, Int.reduceLT, Int.reduceLE, Int.reduceEq, Int.reduceNeg, Int.reduceAdd, Int.reduceSub, Nat.reduceLeDiff, Nat.reduceLT] at hst ⊢
   rw [IntWalk.i64_in (i + 1) (by omega)]
   exact hR _ ci ⟨a', A2, O', by omega, by omega, hA2, hst, hO2, hOn', hK3⟩
 ·simp only [ci, ruS, ruL, ruE, Nat.reduceAdd, reduceIte, Int.reduceLT, Int.reduceLE, Int.reduceEq, Int.reduceNeg, Int.reduceAdd, Int.reduceSub, Nat.reduceLeDiff, Nat.reduceLT]
  have : i = 500 := by omega
  subst this
  exact fin a A' τ (he _ _ hI) hA' ⟨O, hO⟩ hK
end Go.Fl
namespace Go.Fl
open Go
set_option linter.unusedVariables false
set_option linter.unusedSimpArgs false
variable {N : Nm} {A B : Ar} {σ : Mem} {K : Value → Mem → Prop} {C : Cf} {who : Int}
def Ar.pin (A : Ar) (who : Int) : Ar := ((((((A.by who).load 0).by who).store (6 + who) (IntKind.u64.wrap (A.w 0 + 1))).by who).load 0)
def Ar.out (A : Ar) (who : Int) : Ar := (A.by who).store (6 + who) 0
def AcJ (who : Int) (A0 : Ar) (k0 : Wk) (I : Int → Wk → Ar → Prop) (D : Wk → Ar → Prop) (i : Int) (a : Aa) (A : Ar) : Prop :=
 (i = 0 ∧ a = Aa.new k0 ∧ A = A0) ∨
 (i = 1 ∧ a = { Aa.new k0 with ip := 1, ep := A0.w 0 } ∧ A = (A0.by who).load 0) ∨
 (i = 2 ∧ a = { Aa.new k0 with ip := 2, ep := A0.w 0 } ∧ A = (((A0.by who).load 0).by who).store (6 + who) (IntKind.u64.wrap (A0.w 0 + 1))) ∨
 (3 ≤ i ∧ i ≤ 490 ∧ a.ip = 2 ∧ a.pc = 1 ∧ I (i - 3) a.wk A) ∨
 (i ≤ 491 ∧ a.ip = 2 ∧ a.pc = 2 ∧ a.oE = a.wk.oE ∧ a.oH = a.wk.oH ∧ a.oV = a.wk.oV ∧ a.oS = a.wk.oS ∧ D a.wk A)
theorem Aa.st_wk {a : Aa} (e : a.pc = 1) (c : (a.wk.step C who A).1 = true) : a.step C who A = (false, { a with wk := (a.wk.step C who A).2.1, oE := (a.wk.step C who A).2.1.oE, oH := (a.wk.step C who A).2.1.oH, oV := (a.wk.step C who A).2.1.oV, oS := (a.wk.step C who A).2.1.oS, pc := 2 }, (a.wk.step C who A).2.2) := by
 unfold Aa.step; rw [if_neg (by omega), if_pos e, if_pos c]
theorem Aa.st_go {a : Aa} (e : a.pc = 1) (c : ¬ (a.wk.step C who A).1 = true) : a.step C who A = (false, { a with wk := (a.wk.step C who A).2.1 }, (a.wk.step C who A).2.2) := by
 unfold Aa.step; rw [if_neg (by omega), if_pos e, if_neg c]
theorem Aa.st_out {a : Aa} (e : a.pc = 2) : a.step C who A = (true, a, A.out who) := by
 unfold Aa.step; rw [if_neg (by omega), if_neg (by omega)]; rfl
theorem c_ActW (hN : N.ok) (hC : C.ok) (hA : isA N A σ) (hwho : 0 ≤ who ∧ who < C.T) (hw : ∀ i, 0 ≤ A.w i ∧ A.w i < 18446744073709551616) (hn : C.len ≤ A.n) {k sz h ix v old : Int} {own : Bool} (hok : okAct k v old) (I : Int → Wk → Ar → Prop) (D : Wk → Ar → Prop) (h0 : I 0 (Wk.of k sz h ix v old own) (A.pin who))
  (hs : ∀ i m A, 0 ≤ i → i < 487 → I i m A → m.fit C A ∧ (∀ i, 0 ≤ A.w i ∧ A.w i < 18446744073709551616) ∧ C.len ≤ A.n ∧ if (m.step C who A).1 = true then D (m.step C who A).2.1 (m.step C who A).2.2 else I (i + 1) (m.step C who A).2.1 (m.step C who A).2.2)
  (hb : ∀ m A, D m A → (∀ i, 0 ≤ A.w i ∧ A.w i < 18446744073709551616) ∧ C.len ≤ A.n)
  (he : ∀ m A, ¬ I 487 m A) (hk : ∀ m A' τ, D m A' → isA N (A'.out who) τ → Keep N.l σ τ → K (.agg #[.int .i64 m.oE, .int .u64 m.oH, .int .i64 m.oV, .int .i64 m.oS]) τ) :
  s_a2 [N.env C who, .agg #[.int .i64 k, .int .i64 sz, .int .u64 h, .int .i64 ix, .int .i64 v, .int .i64 old, .bool own]] K σ := by
 have hT := hC.T; have hS := hC.S; have hC3 := hC.C; have hl := len_bd hC
 refine c_ActDo hN hC hA hwho hok (AcJ who A (Wk.of k sz h ix v old own) I D) (fun a A' => a.oE = a.wk.oE ∧ a.oH = a.wk.oH ∧ a.oV = a.wk.oV ∧ a.oS = a.wk.oS ∧ ∃ B, D a.wk B ∧ A' = B.out who) (.inl ⟨rfl, rfl, rfl⟩) ?_ ?_ ?_
 ·rintro i a A' i0 i5 (⟨rfl, rfl, rfl⟩ | ⟨rfl, rfl, rfl⟩ | ⟨rfl, rfl, rfl⟩ | ⟨i1, i2, e1, e2, hI⟩ | ⟨i1, e1, e2, o1, o2, o3, o4, hD⟩)
  ·refine ⟨.inl rfl, .inl rfl, fun e => absurd e (by show ¬ (0 : Int) = 1; decide), hw, hn, ?_⟩
   exact .inr (.inl ⟨rfl, rfl, rfl⟩)
  ·refine ⟨.inr (.inl rfl), .inl rfl, fun e => absurd e (by show ¬ (0 : Int) = 1; decide), hw, hn, ?_⟩
   exact .inr (.inr (.inl ⟨rfl, rfl, rfl⟩))
  ·have hW := wrap_in (A.w 0 + 1)
   have e0 : ((((A.by who).load 0).by who).store (6 + who) (IntKind.u64.wrap (A.w 0 + 1))).w 0 = A.w 0 := by
    rw [store_w, upd_ne _ _ (by omega)]; rfl
   refine ⟨.inr (.inr rfl), .inl rfl, fun e => absurd e (by show ¬ (0 : Int) = 1; decide), ?_, ?_, ?_⟩
   ·intro j
    rw [store_w]
    unfold upd
    split
    ·exact hW
    ·exact hw j
   ·exact hn
   ·have st : (({ Aa.new (Wk.of k sz h ix v old own) with ip := 2, ep := A.w 0 } : Aa).step C who ((((A.by who).load 0).by who).store (6 + who) (IntKind.u64.wrap (A.w 0 + 1)))) = (false, { Aa.new (Wk.of k sz h ix v old own) with ip := 2, ep := A.w 0, pc := 1 }, A.pin who) := by
     unfold Aa.step; dsimp only [Aa.new]; simp only [e0, if_true, show ¬ (2 : Int) = 0 by decide, show ¬ (2 : Int) = 1 by decide, if_false]; rfl
    rw [st]
    exact .inr (.inr (.inr (.inl ⟨by omega, by omega, rfl, rfl, h0⟩)))
  ·by_cases c : i = 490
   ·subst c; exact absurd hI (he _ _)
   obtain ⟨hf, hw', hn', hst⟩ := hs (i - 3) a.wk A' (by omega) (by omega) hI
   refine ⟨.inr (.inr e1), .inr (.inl e2), fun _ => hf, hw', hn', ?_⟩
   by_cases c1 : (a.wk.step C who A').1 = true
   ·rw [if_pos c1] at hst
    rw [Aa.st_wk e2 c1]
    exact .inr (.inr (.inr (.inr ⟨by omega, e1, rfl, rfl, rfl, rfl, rfl, hst⟩)))
   ·rw [if_neg c1] at hst
    rw [Aa.st_go e2 c1]
    exact .inr (.inr (.inr (.inl ⟨by omega, by omega, e1, e2, by rw [show i + 1 - 3 = i - 3 + 1 by omega]; exact hst⟩)))
  ·obtain ⟨hw', hn'⟩ := hb _ _ hD
   refine ⟨.inr (.inr e1), .inr (.inr e2), fun e => by omega, hw', hn', ?_⟩
   rw [Aa.st_out e2]
   exact ⟨o1, o2, o3, o4, A', hD, rfl⟩
 ·rintro a A' (⟨e, _⟩ | ⟨e, _⟩ | ⟨e, _⟩ | ⟨_, e, _⟩ | ⟨e, _⟩) <;> omega
 ·rintro a A' τ ⟨o1, o2, o3, o4, B, hD, rfl⟩ hA' hK
  rw [o1, o2, o3, o4]
  exact hk _ _ _ hD hA' hK
end Go.Fl
namespace Go.Fl
open Go
set_option linter.unusedVariables false
set_option linter.unusedSimpArgs false
variable {N : Nm} {A B : Ar} {σ : Mem} {K : Value → Mem → Prop} {C : Cf} {who : Int}
theorem pin_w : (A.pin who).w = upd A.w (6 + who) (IntKind.u64.wrap (A.w 0 + 1)) := rfl
theorem out_w : (A.out who).w = upd A.w (6 + who) 0 := rfl
theorem pin_far (hC : C.ok) (hwho : 0 ≤ who ∧ who < C.T) {u : Int → Int} (hu : ∀ j, 0 ≤ j → j < C.C → 0 ≤ u j) {a : Int} (h : a = 1 ∨ (2 ≤ a ∧ a < 6) ∨ (∃ s, 0 ≤ s ∧ s < C.S ∧ a = C.slot s + 1) ∨ (∃ j, 0 ≤ j ∧ j < C.C ∧ (a = C.chunk j ∨ a = C.chunk j + 1)) ∨ (∃ j i, 0 ≤ j ∧ j < C.C ∧ u j ≤ i ∧ i < C.W ∧ a = C.base j + i)) : a ≠ 6 + who := by
 have hT := hC.T; have hS := hC.S; have hC3 := hC.C
 rcases h with h | h | ⟨s, s0, s1, h⟩ | ⟨j, j0, j1, h⟩ | ⟨j, i, j0, j1, i0, i1, h⟩
 ·omega
 ·omega
 ·unfold Cf.slot at h; omega
 ·unfold Cf.chunk at h; omega
 ·have := hu j j0 j1
  have hm := mulW hC j0 (by omega)
  unfold Cf.base at h; omega
theorem Bg.aw_pin {b : Bg} (hC : C.ok) (hwho : 0 ≤ who ∧ who < C.T) {w : Int → Int} {x : Int} (h : b.aw C w) : b.aw C (upd w (6 + who) x) :=
 Aw.keep hC h fun a ha => upd_ne _ _ (pin_far hC hwho (fun j j0 j1 => Aw.u0 h j0 j1) ha)
theorem Pa.pin {b : Int} (hC : C.ok) (hwho : 0 ≤ who ∧ who < C.T) (h : Pa C A b) (hb : b < 9000000000000000000) : Pa C (A.pin who) (b + 3) := by
 have h1 := (h.ok.by (who := who)).load (a := 0) (by omega)
 have h2 := (h1.by (who := who)).store (a := 6 + who) (by omega) (wrap_in (A.w 0 + 1))
 have h3 := (h2.by (who := who)).load (a := 0) (by omega)
 refine ⟨?_, h.n, fun c c0 c3 => ?_⟩
 ·rw [show b + 3 = b + 1 + 1 + 1 by omega]; exact h3
 ·rw [pin_w, upd_ne _ _ (by omega)]; exact h.op c c0 c3
theorem Pa.out {b : Int} (hC : C.ok) (hwho : 0 ≤ who ∧ who < C.T) (h : Pa C A b) (hb : b < 9000000000000000000) : Pa C (A.out who) (b + 1) := by
 refine ⟨(h.ok.by (who := who)).store (a := 6 + who) (by omega) ⟨by decide, by decide⟩, h.n, fun c c0 c3 => ?_⟩
 rw [out_w, upd_ne _ _ (by omega)]; exact h.op c c0 c3
end Go.Fl
namespace Go.Fl
open Go
set_option linter.unusedVariables false
set_option linter.unusedSimpArgs false
variable {N : Nm} {A B : Ar} {σ : Mem} {K : Value → Mem → Prop} {C : Cf} {who : Int}
structure Ol (C : Cf) (w : Int → Int) (n : Int) (own : Bool) (z a : Int) : Prop where
 nb : 0 ≤ n ∧ n < 18446744073709551616
 ok : hdOk n = true
 s : hdSl n < C.S
 st : slS (w (C.slot (hdSl n))) = 1
 ad : slA (w (C.slot (hdSl n))) = a
 ge : slG (w (C.slot (hdSl n))) = hdGe n
 hd : hdO (w a) = own ∧ hdS (w a) = z
 bd : C.base 0 ≤ a ∧ a + z < C.len
 z1 : 1 ≤ z
 cl : ∀ x, 0 ≤ x → x < z → ceF (w (a + 1 + x)) = false
end Go.Fl
namespace Go.Fl
open Go
set_option linter.unusedVariables false
set_option linter.unusedSimpArgs false
variable {N : Nm} {A B : Ar} {σ : Mem} {K : Value → Mem → Prop} {C : Cf} {who : Int}
theorem ceF_lay {v : Int} : ceF (putCell v false 0) = false := decide_eq_false (by unfold putCell cl; simp only [Bool.false_eq_true, if_false]; omega)
theorem ceV_lay {v : Int} (h : 0 ≤ v ∧ v ≤ 1099511627775) : ceV (putCell v false 0) = v := (ce_put h (by decide)).1
def Lk (kd old c : Int) : Prop := kd = 1 ∨ kd = 3 ∧ ceV c ≠ old
instance {kd old c : Int} : Decidable (Lk kd old c) := by unfold Lk; infer_instance
structure Lo (C : Cf) (n : Int) (own : Bool) (z W kd ix v old : Int) (m : Ak) : Prop where
 f : m.a.kd = kd ∧ m.a.n = n ∧ m.a.ix = ix ∧ m.a.v = v ∧ m.a.old = old ∧ m.a.own = own
 hs : 0 ≤ m.a.hs ∧ m.a.hs < C.S
 w : 0 ≤ m.a.w ∧ m.a.w < 18446744073709551616
 cell : 0 ≤ m.a.cell ∧ m.a.cell < 18446744073709551616
 at' : m.a.pc = 0 ∨ (m.a.hs = hdSl n ∧ m.a.hg = hdGe n ∧ m.a.w = W) ∧ (m.a.pc = 1 ∨ (0 ≤ ix ∧ ix < z) ∧ (m.a.pc = 2 ∨ ceF m.a.cell = false ∧ (m.a.pc = 5 ∧ ¬ Lk kd old m.a.cell ∨ m.a.pc = 6 ∧ Lk kd old m.a.cell)))
theorem Lo.new (hC : C.ok) {n z W kd ix v old : Int} {own : Bool} : Lo C n own z W kd ix v old (Ak.new kd n ix v old own) := by
 have hS := hC.S
 exact ⟨⟨rfl, rfl, rfl, rfl, rfl, rfl⟩, ⟨Int.le_refl 0, by show (0 : Int) < C.S; omega⟩, ⟨Int.le_refl 0, (by decide : (0 : Int) < 18446744073709551616)⟩, ⟨Int.le_refl 0, (by decide : (0 : Int) < 18446744073709551616)⟩, .inl rfl⟩
inductive LoR (C : Cf) (who n : Int) (own : Bool) (z a W kd ix v old : Int) (A : Ar) (m : Ak) : Bool → Ak → Ar → Prop
 | see {m' : Ak} : m.a.pc = 0 → Lo C n own z W kd ix v old m' → m'.a.pc = 1 → m'.a.seen = A.s + 1 → LoR C who n own z a W kd ix v old A m false m' ((A.by who).load (C.slot (hdSl n)))
 | head {m' : Ak} : m.a.pc = 1 → Lo C n own z W kd ix v old m' → m'.a.pc = 2 → 0 ≤ ix ∧ ix < z → LoR C who n own z a W kd ix v old A m false m' ((A.by who).load a)
 | index {m' : Ak} : m.a.pc = 1 → ¬ (0 ≤ ix ∧ ix < z) → m'.a.oE = 4 ∧ m'.a.oH = 0 ∧ m'.a.oV = 0 ∧ m'.a.oS = m.a.seen → LoR C who n own z a W kd ix v old A m true m' ((A.by who).load a)
 | load {m' : Ak} : m.a.pc = 2 → 0 ≤ ix ∧ ix < z → Lo C n own z W kd ix v old m' → m'.a.cell = A.w (a + 1 + ix) → m'.a.rd = A.s + 1 → (m'.a.pc = 5 ∧ ¬ Lk kd old m'.a.cell ∨ m'.a.pc = 6 ∧ Lk kd old m'.a.cell) → LoR C who n own z a W kd ix v old A m false m' ((A.by who).load (a + 1 + ix))
 | lay {m' : Ak} : m.a.pc = 5 → 0 ≤ ix ∧ ix < z → ¬ Lk kd old m.a.cell → A.w (a + 1 + ix) = m.a.cell → m'.a.oE = 0 ∧ m'.a.oH = 0 ∧ m'.a.oV = ceV m.a.cell ∧ m'.a.oS = A.s + 1 → LoR C who n own z a W kd ix v old A m true m' ((A.by who).store (a + 1 + ix) (putCell v false 0))
 | again {m' : Ak} : m.a.pc = 5 → 0 ≤ ix ∧ ix < z → ¬ Lk kd old m.a.cell → A.w (a + 1 + ix) ≠ m.a.cell → Lo C n own z W kd ix v old m' → m'.a.pc = 0 → LoR C who n own z a W kd ix v old A m false m' ((A.by who).load (a + 1 + ix))
 | look {m' : Ak} : m.a.pc = 6 → 0 ≤ ix ∧ ix < z → Lk kd old m.a.cell → m'.a.oE = (if kd = 3 then 8 else 0) ∧ m'.a.oH = 0 ∧ m'.a.oV = ceV m.a.cell ∧ m'.a.oS = m.a.rd → LoR C who n own z a W kd ix v old A m true m' ((A.by who).load (C.slot (hdSl n)))
theorem Lo.step (hC : C.ok) {bb n z a W kd ix v old : Int} {own : Bool} {m : Ak} (h : Lo C n own z W kd ix v old m) (ho : Ol C A.w n own z a) (hW : A.w (C.slot (hdSl n)) = W) (ok : A.ok bb) (hb : bb < 4611686018427387904) (hl : C.len ≤ A.n) (hb2 : (A.n : Int) ≤ 200000000) :
  m.fit C A ∧ LoR C who n own z a W kd ix v old A m (m.step C who A).1 (m.step C who A).2.1 (m.step C who A).2.2 := by
 have hT := hC.T
 have hS := hC.S
 have hCC := hC.C
 have hll := len_bd hC
 have hsl := hdSl_bd ho.nb.1
 have hos := ho.s
 have hbd := ho.bd
 have hz1 := ho.z1
 have hb0 : C.base 0 = 6 + C.T + 2 * C.S + 3 * C.C := by unfold Cf.base; omega
 have hsb : 0 ≤ C.slot (hdSl n) ∧ C.slot (hdSl n) < C.base 0 := by unfold Cf.slot; omega
 have hWl : slS W = 1 ∧ slA W = a ∧ slG W = hdGe n := by rw [← hW]; exact ⟨ho.st, ho.ad, ho.ge⟩
 have hlv : lives W (hdGe n) := ⟨.inl hWl.1, hWl.2.2⟩
 obtain ⟨⟨f1, f2, f3, f4, f5, f6⟩, g1, g2, g3, h⟩ := h
 have hat : m.a.w = W → m.a.at' = a + 1 + ix := fun e => by unfold Ac.at'; rw [e, hWl.2.1, f3]
 have hfit : m.fit C A := by
  refine ⟨⟨?_, by rw [f2]; exact ho.nb, g1, g2, g3, fun e => ?_, fun e => ?_, by omega⟩, fun e => ?_⟩
  ·rcases h with h | ⟨_, h | ⟨_, h | ⟨_, ⟨h, _⟩ | ⟨h, _⟩⟩⟩⟩ <;> omega
  ·rcases h with h | ⟨⟨_, _, q⟩, _⟩
   ·omega
   ·rw [q, hWl.2.1]; omega
  ·rcases h with h | ⟨⟨_, _, q⟩, h | ⟨hi, _⟩⟩
   ·omega
   ·omega
   ·rw [hat q]; omega
  ·rcases h with h | ⟨_, h | ⟨_, h | ⟨_, ⟨h, _⟩ | ⟨h, _⟩⟩⟩⟩ <;> omega
 refine ⟨hfit, ?_⟩
 have hs1 := ok.s1 (by omega)
 have ls : ∀ x, ((A.by who).load x).s = A.s + 1 := fun x => (aft_load (who := who) (A := A) (a := x) ok (by omega)).s
 have n4 : m.a.pc ≠ 4 := by rcases h with h | ⟨_, h | ⟨_, h | ⟨_, ⟨h, _⟩ | ⟨h, _⟩⟩⟩⟩ <;> omega
 have e0 : m.step C who A = ((m.a.step C who A).1, ⟨(m.a.step C who A).2.1, if m.a.pc = 2 then Hl.new m.a.hs m.a.w m.a.size else m.h⟩, (m.a.step C who A).2.2) := by
  unfold Ak.step; rw [if_neg n4]
 rw [e0]
 rcases h with hp | ⟨⟨q1, q2, q3⟩, h⟩
 ·have e : m.a.step C who A = (false, { m.a with hs := hdSl m.a.n, hg := hdGe m.a.n, w := A.w (C.slot (hdSl m.a.n)), seen := ((A.by who).load (C.slot (hdSl m.a.n))).s, pc := 1 }, (A.by who).load (C.slot (hdSl m.a.n))) := by
   unfold Ac.step; rw [if_pos hp, if_neg (by rw [f2]; rintro (q | q); rw [ho.ok] at q; cases q; omega), if_pos (by rw [f2, hW]; exact hlv)]
  rw [e, f2]
  exact .see hp ⟨⟨f1, by first | rfl | exact f2, f3, f4, f5, f6⟩, ⟨hsl.1.1, hos⟩, ok.w (C.slot (hdSl n)), g3, .inr ⟨⟨rfl, rfl, hW⟩, .inl rfl⟩⟩ rfl (ls (C.slot (hdSl n)))
 rcases h with hp | ⟨hi, h⟩
 ·have own' : ¬ hdO (A.w (slA m.a.w)) ≠ m.a.own := by rw [q3, hWl.2.1, f6, ho.hd.1]; simp
  by_cases c : ix < 0 ∨ hdS (A.w a) ≤ ix
  ·have e : m.a.step C who A = (true, ({ m.a with size := hdS (A.w (slA m.a.w)), pc := 2 } : Ac).fin 4 0 m.a.seen, (A.by who).load (slA m.a.w)) := by
    unfold Ac.step; rw [if_neg (by omega), if_pos hp, if_neg own', if_pos (by rw [q3, hWl.2.1, f3]; exact c)]
   rw [e, q3, hWl.2.1]
   rw [ho.hd.2] at c
   exact .index hp (by omega) ⟨rfl, rfl, rfl, rfl⟩
  ·have e : m.a.step C who A = (false, { m.a with size := hdS (A.w (slA m.a.w)), pc := 2 }, (A.by who).load (slA m.a.w)) := by
    unfold Ac.step; rw [if_neg (by omega), if_pos hp, if_neg own', if_neg (by rw [q3, hWl.2.1, f3]; exact c)]
   rw [e, q3, hWl.2.1]
   rw [ho.hd.2] at c
   have hi : 0 ≤ ix ∧ ix < z := by omega
   exact .head hp ⟨⟨f1, f2, f3, f4, f5, f6⟩, g1, g2, g3, .inr ⟨⟨q1, q2, q3⟩, .inr ⟨hi, .inl rfl⟩⟩⟩ rfl hi
 rcases h with hp | ⟨hc, h⟩
 ·have e : m.a.step C who A = (false, { m.a with cell := A.w m.a.at', rd := ((A.by who).load m.a.at').s, pc := ({ m.a with cell := A.w m.a.at' } : Ac).nxt }, (A.by who).load m.a.at') := by
   unfold Ac.step; rw [if_neg (by omega), if_neg (by omega), if_pos hp]
  have hce := ho.cl ix hi.1 hi.2
  have nx : ({ m.a with cell := A.w m.a.at' } : Ac).nxt = if Lk kd old (A.w m.a.at') then 6 else 5 := by
   unfold Ac.nxt Lk
   dsimp only
   have hs1 : ¬ slS m.a.w = 4 := by rw [q3, hWl.1]; decide
   rw [if_neg hs1, if_pos (show ceF (A.w m.a.at') = false ∨ ceN (A.w m.a.at') < slV m.a.w from .inl (by rw [hat q3]; exact hce)), f1, f5]
  rw [e, nx, hat q3]
  have hpc : (if Lk kd old (A.w (a + 1 + ix)) then (6 : Int) else 5) = 5 ∧ ¬ Lk kd old (A.w (a + 1 + ix)) ∨ (if Lk kd old (A.w (a + 1 + ix)) then (6 : Int) else 5) = 6 ∧ Lk kd old (A.w (a + 1 + ix)) := by
   by_cases c : Lk kd old (A.w (a + 1 + ix))
   ·rw [if_pos c]; exact .inr ⟨rfl, c⟩
   ·rw [if_neg c]; exact .inl ⟨rfl, c⟩
  exact .load hp hi ⟨⟨f1, f2, f3, f4, f5, f6⟩, g1, g2, ok.w (a + 1 + ix), .inr ⟨⟨q1, q2, q3⟩, .inr ⟨hi, .inr ⟨hce, hpc⟩⟩⟩⟩ rfl (ls (a + 1 + ix)) hpc
 rcases h with ⟨hp, hq⟩ | ⟨hp, hq⟩
 ·by_cases c : A.w (a + 1 + ix) = m.a.cell
  ·have e : m.a.step C who A = (true, ({ m.a with pc := 0 } : Ac).fin 0 (ceV m.a.cell) ((A.by who).cas m.a.at' m.a.cell (putCell m.a.v false 0)).s, (A.by who).cas m.a.at' m.a.cell (putCell m.a.v false 0)) := by
    unfold Ac.step; rw [if_neg (by omega), if_neg (by omega), if_neg (by omega), if_neg (by omega), if_pos hp, if_pos (by rw [hat q3]; exact c)]
   rw [e, hat q3, cas_yes (show (A.by who).w (a + 1 + ix) = m.a.cell from c), f4]
   exact .lay hp hi hq c ⟨rfl, rfl, rfl, (aft_store (who := who) (A := A) (a := a + 1 + ix) (v := putCell v false 0) ok (by omega)).s⟩
  ·have e : m.a.step C who A = (false, { m.a with pc := 0 }, (A.by who).cas m.a.at' m.a.cell (putCell m.a.v false 0)) := by
    unfold Ac.step; rw [if_neg (by omega), if_neg (by omega), if_neg (by omega), if_neg (by omega), if_pos hp, if_neg (by rw [hat q3]; exact c)]
   rw [e, hat q3, cas_no (show (A.by who).w (a + 1 + ix) ≠ m.a.cell from c)]
   exact .again hp hi hq c ⟨⟨f1, f2, f3, f4, f5, f6⟩, g1, g2, g3, .inl rfl⟩ rfl
 ·have l1 : lives (A.w (C.slot m.a.hs)) m.a.hg := by rw [q1, q2, hW]; exact hlv
  have l2 : slA (A.w (C.slot m.a.hs)) = slA m.a.w := by rw [q1, q3, hW]
  have e : m.a.step C who A = (true, m.a.fin (if m.a.kd = 3 then 8 else 0) (ceV m.a.cell) m.a.rd, (A.by who).load (C.slot m.a.hs)) := by
   unfold Ac.step; rw [if_neg (by omega), if_neg (by omega), if_neg (by omega), if_neg (by omega), if_neg (by omega), if_pos l1, if_pos l2]
  rw [e, q1, f1]
  exact .look hp hi hq ⟨rfl, rfl, rfl, rfl⟩
theorem Ol.lay (hC : C.ok) {w : Int → Int} {n z a x v : Int} {own : Bool} (h : Ol C w n own z a) (x0 : 0 ≤ x) (x1 : x < z) : Ol C (upd w (a + 1 + x) (putCell v false 0)) n own z a := by
 have hT := hC.T
 have hS := hC.S
 have hCC := hC.C
 have hsl := hdSl_bd h.nb.1
 have hos := h.s
 have hbd := h.bd
 have hb0 : C.base 0 = 6 + C.T + 2 * C.S + 3 * C.C := by unfold Cf.base; omega
 have e1 : upd w (a + 1 + x) (putCell v false 0) (C.slot (hdSl n)) = w (C.slot (hdSl n)) := upd_ne _ _ (by unfold Cf.slot; omega)
 have e2 : upd w (a + 1 + x) (putCell v false 0) a = w a := upd_ne _ _ (by omega)
 refine ⟨h.nb, h.ok, h.s, by rw [e1]; exact h.st, by rw [e1]; exact h.ad, by rw [e1]; exact h.ge, by rw [e2]; exact h.hd, h.bd, h.z1, fun y y0 y1 => ?_⟩
 by_cases c : y = x
 ·subst c; rw [upd_same]; exact ceF_lay
 ·rw [upd_ne _ _ (by omega)]; exact h.cl y y0 y1
theorem Ol.slot_ne (hC : C.ok) {w : Int → Int} {n z a x : Int} {own : Bool} (h : Ol C w n own z a) (x0 : 0 ≤ x) : C.slot (hdSl n) ≠ a + 1 + x := by
 have hT := hC.T
 have hS := hC.S
 have hCC := hC.C
 have hsl := hdSl_bd h.nb.1
 have hos := h.s
 have hbd := h.bd
 have hb0 : C.base 0 = 6 + C.T + 2 * C.S + 3 * C.C := by unfold Cf.base; omega
 unfold Cf.slot; omega
structure LoK (C : Cf) (n : Int) (own : Bool) (z a W bb : Int) (A A' : Ar) : Prop where
 ol : Ol C A'.w n own z a
 W : A'.w (C.slot (hdSl n)) = W
 ok : A'.ok (bb + 1)
 n : A'.n = A.n
 s : A'.s = A.s + 1
 la : 0 ≤ A'.la ∧ A'.la < C.len
theorem LoR.keep (hC : C.ok) {bb n z a W kd ix v old : Int} {own d : Bool} {m m' : Ak} {A' : Ar} (h : LoR C who n own z a W kd ix v old A m d m' A') (ho : Ol C A.w n own z a) (hW : A.w (C.slot (hdSl n)) = W) (ok : A.ok bb) (hb : bb < 4611686018427387904) : LoK C n own z a W bb A A' := by
 have hT := hC.T
 have hS := hC.S
 have hCC := hC.C
 have hll := len_bd hC
 have hsl := hdSl_bd ho.nb.1
 have hos := ho.s
 have hbd := ho.bd
 have hz1 := ho.z1
 have hb0 : C.base 0 = 6 + C.T + 2 * C.S + 3 * C.C := by unfold Cf.base; omega
 have hsb : 0 ≤ C.slot (hdSl n) ∧ C.slot (hdSl n) < C.base 0 := by unfold Cf.slot; omega
 have ld : ∀ x, 0 ≤ x → x < C.len → LoK C n own z a W bb A ((A.by who).load x) := fun x x0 x1 => by
  have a1 := aft_load (who := who) (A := A) (a := x) ok (by omega)
  exact ⟨ho, hW, a1.ok (by decide) ok ok.w, rfl, a1.s, x0, x1⟩
 cases h with
 | see => exact ld _ (by omega) (by omega)
 | head => exact ld _ (by omega) (by omega)
 | index => exact ld _ (by omega) (by omega)
 | load _ hi => exact ld _ (by omega) (by omega)
 | lay _ hi =>
  have a1 := aft_store (who := who) (A := A) (a := a + 1 + ix) (v := putCell v false 0) ok (by omega)
  refine ⟨by rw [a1.w]; exact ho.lay hC hi.1 hi.2, by rw [a1.w, upd_ne _ _ (ho.slot_ne hC hi.1)]; exact hW, a1.ok (by decide) ok fun i => upd_cases (P := fun x => 0 ≤ x ∧ x < 18446744073709551616) (putCell_in _ _ _) (ok.w i), a1.n, a1.s, ?_⟩
  show 0 ≤ a + 1 + ix ∧ a + 1 + ix < C.len
  omega
 | again _ hi => exact ld _ (by omega) (by omega)
 | look => exact ld _ (by omega) (by omega)
end Go.Fl
namespace Go.Fl
open Go
set_option linter.unusedVariables false
set_option linter.unusedSimpArgs false
variable {N : Nm} {A B : Ar} {σ : Mem} {K : Value → Mem → Prop} {C : Cf} {who : Int}
theorem hd_handle {s g : Int} (s0 : 0 ≤ s ∧ s ≤ 65535) (g0 : 1 ≤ g ∧ g ≤ 65535) : (0 ≤ putHandle s g ∧ putHandle s g < 18446744073709551616) ∧ hdOk (putHandle s g) = true ∧ hdSl (putHandle s g) = s ∧ hdGe (putHandle s g) = g ∧ putHandle s g = s + g * 65536 := by
 have e : putHandle s g = s + g * 65536 := by unfold putHandle; rw [cl_in s0.1 s0.2, cl_in (by omega) g0.2]
 have ho : hdOk (putHandle s g) = true := decide_eq_true (by rw [e]; omega)
 refine ⟨by rw [e]; omega, ho, ?_, ?_, e⟩
 ·unfold hdSl; rw [ho, e]; simp only [if_true]; omega
 ·unfold hdGe; rw [ho, e]; simp only [if_true]; omega
theorem class_room' {n : Int} (h : 0 ≤ classOf n) : (1 ≤ n ∧ n ≤ 16) ∧ n + 1 ≤ roomOf (classOf n) := by
 unfold classOf at *
 split at h
 ·omega
 ·rename_i h1; rw [if_neg h1]
  split at h
  ·rename_i h2; rw [if_pos h2]; refine ⟨by omega, ?_⟩; show n + 1 ≤ 3; omega
  ·rename_i h2; rw [if_neg h2]
   split at h
   ·rename_i h3; rw [if_pos h3]; refine ⟨by omega, ?_⟩; show n + 1 ≤ 5; omega
   ·rename_i h3; rw [if_neg h3]
    split at h
    ·rename_i h4; rw [if_pos h4]; refine ⟨by omega, ?_⟩; show n + 1 ≤ 9; omega
    ·rename_i h4; rw [if_neg h4]
     split at h
     ·rename_i h5; rw [if_pos h5]; refine ⟨by omega, ?_⟩; show n + 1 ≤ 17; omega
     ·omega
def Do.mk' (C : Cf) (b : Bg) (s ge z : Int) (own : Bool) (j : Int) : Do := ⟨putHandle s ge, putSlot 1 (C.base j + b.u j) ge 0, z, own, j, b.u j⟩
theorem Got.cnt (hC : C.ok) {b b' : Bg} {F : List Int} {c j n : Int} (hg : Got C b F c j b') : (b'.count j n).F = F ∧ (b'.count j n).lv = upd b.lv j (b.lv j + n) ∧ (b'.count j n).u = upd b.u j (b.u j + roomOf c) := by
 obtain ⟨h1, h2⟩ := hg.has hC
 refine ⟨h1, ?_, ?_⟩
 ·show upd b'.lv j (b'.lv j + n) = _; rw [h2]
 ·show b'.u = _
  rcases hg with ⟨_, _, q⟩ | ⟨_, _, _, q⟩ <;> rw [q]
theorem Got.do (hC : C.ok) {b b' : Bg} {F : List Int} {z s j ge : Int} {own : Bool} {w : Int → Int} (hc : 0 ≤ classOf z) (s0 : 0 ≤ s ∧ s < C.S) (sF : s ∉ F) (g0 : 1 ≤ ge ∧ ge ≤ 65535) (hg : Got C b F (classOf z) j b') (hal : ∃ w, Alo C b.o b.u b.nx w) (hlv : 0 ≤ b.lv j)
  (h1 : w (C.slot s) = putSlot 1 (C.base j + b.u j) ge 0) (h2 : w (C.base j + b.u j) = putHead 2 z s ge own) : (Do.mk' C b s ge z own j).ok C (b'.count j (roomOf (classOf z))) w := by
 have hS := hC.S
 have hc3 := (class_bd z).2
 obtain ⟨wA, hal⟩ := hal
 obtain ⟨d1, d2, d3, d4⟩ := hg.bd hC hal hc hc3
 obtain ⟨sz, szr⟩ := class_room' hc
 obtain ⟨c1, c2, c3⟩ := hg.cnt hC (n := roomOf (classOf z))
 obtain ⟨u0, u1, u2, u3, u4⟩ := hd_handle (s := s) (g := ge) (by omega) g0
 have hb1 := base_of hC d1.1 d1.2 d2.1 (by omega)
 have hb2 := base_ge hC d1.1 d1.2 d2.1
 have hl := len_bd hC
 obtain ⟨p1, p2, p3, p4⟩ := sl_put (st := 1) (ad := C.base j + b.u j) (ge := ge) (ve := 0) (by decide) (by omega) (by omega) (by decide)
 obtain ⟨q1, q2, q3, q4, q5⟩ := hd_put (k := 2) (s := z) (t := s) (g := ge) (o := own) (by decide) (by omega) (by omega) (by omega)
 have es : (Do.mk' C b s ge z own j).s = s := u2
 have eg : (Do.mk' C b s ge z own j).ge = ge := u3
 exact ⟨u0, u1, by rw [es]; exact s0, by rw [es, c1]; exact sF, by rw [eg]; omega, by rw [es]; exact h1, .inl p1, p2, by rw [eg]; exact p3, ⟨by show hdS (w (C.base j + b.u j)) = z; rw [h2]; exact q2, by show hdO (w (C.base j + b.u j)) = own; rw [h2]; exact q5⟩, hc, d1,
  ⟨d2.1, by show b.u j + roomOf (classOf z) ≤ (b'.count j (roomOf (classOf z))).u j; rw [c3, upd_same]; exact Int.le_refl _⟩, szr, by show roomOf (classOf z) ≤ (b'.count j (roomOf (classOf z))).lv j; rw [c2, upd_same]; omega⟩
theorem Do.ok.keep {d : Do} {b b' : Bg} {w w' : Int → Int} (h : d.ok C b w) (sF : d.s ∉ b'.F) (h1 : w' (C.slot d.s) = w (C.slot d.s)) (h2 : w' (d.a C) = w (d.a C)) (hu : b.u d.j ≤ b'.u d.j) (hlv : roomOf (classOf d.z) ≤ b'.lv d.j) : d.ok C b' w' :=
 ⟨h.n, h.hok, h.s, sF, h.ge, by rw [h1]; exact h.ws, h.st, h.sa, h.sg, by rw [h2]; exact h.hd, h.cl, h.j, ⟨h.i.1, by have := h.i.2; omega⟩, h.z, hlv⟩
theorem Do.ok.word {d : Do} {b : Bg} {w : Int → Int} {v : Int} (hC : C.ok) (h : d.ok C b w) (ha : C.base 0 ≤ d.a C) (h1 : slS v = 1 ∨ slS v = 2) (h2 : slA v = d.a C) (h3 : slG v = d.ge) : ({ d with ws := v } : Do).ok C b (upd w (C.slot d.s) v) := by
 have hb0 : C.base 0 = 6 + C.T + 2 * C.S + 3 * C.C := by unfold Cf.base; omega
 have hs := h.s
 have hCC := hC.C
 have ne : d.a C ≠ C.slot d.s := by unfold Cf.slot; omega
 refine ⟨h.n, h.hok, h.s, h.sF, h.ge, upd_same _ _ _, h1, h2, h3, ?_, h.cl, h.j, h.i, h.z, h.lv⟩
 show hdS (upd w (C.slot d.s) v (d.a C)) = d.z ∧ hdO (upd w (C.slot d.s) v (d.a C)) = d.own
 rw [upd_ne _ _ ne]; exact h.hd
end Go.Fl
namespace Go.Fl
open Go
set_option linter.unusedVariables false
set_option linter.unusedSimpArgs false
variable {N : Nm} {A B : Ar} {σ : Mem} {K : Value → Mem → Prop} {C : Cf} {who : Int}
theorem Ol.made (hC : C.ok) {w : Int → Int} {s ge z a : Int} {own : Bool} (s0 : 0 ≤ s ∧ s < C.S) (g0 : 1 ≤ ge ∧ ge ≤ 65535) (hz : 0 ≤ classOf z) (hbd : C.base 0 ≤ a ∧ a + z < C.len) (h1 : w (C.slot s) = putSlot 1 a ge 0) (h2 : w a = putHead 2 z s ge own)
  (h3 : ∀ x, 0 ≤ x → x < z → w (a + 1 + x) = 0) : Ol C w (putHandle s ge) own z a := by
 have hS := hC.S
 have hT := hC.T
 have hCC := hC.C
 have hl := len_bd hC
 obtain ⟨sz, szr⟩ := class_room' hz
 obtain ⟨u0, u1, u2, u3, u4⟩ := hd_handle (s := s) (g := ge) (by omega) g0
 have hb0 : C.base 0 = 6 + C.T + 2 * C.S + 3 * C.C := by unfold Cf.base; omega
 obtain ⟨p1, p2, p3, p4⟩ := sl_put (st := 1) (ad := a) (ge := ge) (ve := 0) (by decide) (by omega) (by omega) (by decide)
 obtain ⟨q1, q2, q3, q4, q5⟩ := hd_put (k := 2) (s := z) (t := s) (g := ge) (o := own) (by decide) (by omega) (by omega) (by omega)
 exact ⟨u0, u1, by rw [u2]; exact s0.2, by rw [u2, h1]; exact p1, by rw [u2, h1]; exact p2, by rw [u2, u3, h1]; exact p3, ⟨by rw [h2]; exact q5, by rw [h2]; exact q2⟩, hbd, by omega, fun x x0 x1 => by rw [h3 x x0 x1]; rfl⟩
theorem upL_head {S : Int} (h : 1 ≤ S) : upL 0 S.toNat = 0 :: (upL 0 S.toNat).tail := by
 obtain ⟨k, e⟩ : ∃ k, S.toNat = k + 1 := ⟨S.toNat - 1, by omega⟩
 rw [e]; rfl
end Go.Fl
namespace Go.Fl
open Go
set_option linter.unusedVariables false
set_option linter.unusedSimpArgs false
variable {N : Nm} {A B : Ar} {σ : Mem} {K : Value → Mem → Prop} {C : Cf} {who : Int}
def updX {α : Type} (f : Int → α) (i : Int) (x : α) : Int → α := fun j => if j = i then x else f j
theorem updX_same {α : Type} {f : Int → α} {i : Int} {x : α} : updX f i x i = x := by simp [updX]
theorem updX_ne {α : Type} {f : Int → α} {i j : Int} {x : α} (h : j ≠ i) : updX f i x j = f j := by simp [updX, h]
def l3 (P : Int → Value) : List Value := [P 0, P 1, P 2]
theorem l3_sub {P : Int → Value} {k : Int} (k0 : 0 ≤ k) (k3 : k < 3) : sub (l3 P) (k.toNat * 1) 1 false = some (P k) := by
 rcases (show k = 0 ∨ k = 1 ∨ k = 2 by omega) with rfl | rfl | rfl <;> rfl
theorem l3_set {P : Int → Value} {k : Int} {x : Value} {q : Nat} (k0 : 0 ≤ k) (k3 : k < 3) (h1 : cellsOf x 1 = some [x]) (h2 : oneB x = true) : gStore 1 [.pointer (some ⟨q, k.toNat * 1, some 0⟩), x] (l3 P) = some (l3 (updX P k x)) := by
 rw [gStore_1 h1 (by show k.toNat * 1 + 1 ≤ 3; omega) h2]
 rcases (show k = 0 ∨ k = 1 ∨ k = 2 by omega) with rfl | rfl | rfl <;> rfl
structure HB {α : Type} (N : Nm) (W : Nat → List Nat → α → Mem → Prop) : Prop where
 keep : ∀ {p : Nat} {O L : List Nat} {m : α} {σ τ : Mem}, W p O m σ → Keep L σ τ → (∀ i ∈ O, i ∉ L) → W p O m τ
 own : ∀ {p : Nat} {O : List Nat} {m : α} {σ : Mem}, W p O m σ → ∀ i ∈ O, i ∉ N.l
 min : ∀ {p : Nat} {O : List Nat} {m : α} {σ : Mem}, W p O m σ → ∃ O', W p O' m σ ∧ (∀ i ∈ O', i ∈ O) ∧ ∀ i ∈ O', σ.get i ≠ none
 p : ∀ {p : Nat} {O : List Nat} {m : α} {σ : Mem}, W p O m σ → p ∈ O
section
variable {α : Type} {W : Nat → List Nat → α → Mem → Prop}
structure Hw {α : Type} (N : Nm) (W : Nat → List Nat → α → Mem → Prop) (σ0 : Mem) (L : Int → Prop) (P : Int → Nat) (O : Int → List Nat) (M : Int → α) (τ : Mem) : Prop where
 ob : ∀ k, L k → W (P k) (O k) (M k) τ
 al : ∀ k, L k → ∀ x ∈ O k, τ.get x ≠ none
 ap : ∀ k l, L k → L l → k ≠ l → ∀ x ∈ O k, x ∉ O l
 fr : ∀ k, L k → ∀ x ∈ O k, σ0.get x = none
 ext : Ext σ0 τ
theorem Hw.nil {σ0 τ : Mem} {P : Int → Nat} {O : Int → List Nat} {M : Int → α} (h : Ext σ0 τ) : Hw N W σ0 (fun _ => False) P O M τ :=
 ⟨fun _ h => h.elim, fun _ h => h.elim, fun _ _ h => h.elim, fun _ h => h.elim, h⟩
theorem Hw.less {σ0 τ : Mem} {L L' : Int → Prop} {P : Int → Nat} {O : Int → List Nat} {M : Int → α} (h : Hw N W σ0 L P O M τ) (hL : ∀ k, L' k → L k) : Hw N W σ0 L' P O M τ :=
 ⟨fun k q => h.ob k (hL k q), fun k q => h.al k (hL k q), fun k l q r => h.ap k l (hL k q) (hL l r), fun k q => h.fr k (hL k q), h.ext⟩
theorem Hw.congr {σ0 τ : Mem} {L : Int → Prop} {P : Int → Nat} {O : Int → List Nat} {M M' : Int → α} (h : Hw N W σ0 L P O M τ) (hM : ∀ k, L k → M' k = M k) : Hw N W σ0 L P O M' τ :=
 ⟨fun k q => by rw [hM k q]; exact h.ob k q, h.al, h.ap, h.fr, h.ext⟩
theorem Hw.more (hW : HB N W) {σ0 τ τ' : Mem} {L : Int → Prop} {P : Int → Nat} {O : Int → List Nat} {M : Int → α} (h : Hw N W σ0 L P O M τ) (x : Ext τ τ') : Hw N W σ0 L P O M τ' :=
 ⟨fun k q => hW.keep (L := []) (h.ob k q) x.keep (fun _ _ => by simp), fun k q y hy => by cases e : τ.get y with | none => exact absurd e (h.al k q y hy) | some b => rw [x _ _ e]; simp, h.ap, h.fr, h.ext.trans x⟩
theorem Hw.keep (hW : HB N W) {σ0 τ τ' : Mem} {L : Int → Prop} {P : Int → Nat} {O : Int → List Nat} {M : Int → α} {U : List Nat} (h : Hw N W σ0 L P O M τ) (x : Keep U τ τ') (hU : ∀ y ∈ U, σ0.get y = none ∧ ∀ k, L k → y ∉ O k) : Hw N W σ0 L P O M τ' := by
 have hk : ∀ k, L k → ∀ y ∈ O k, y ∉ U := fun k q y hy hu => (hU y hu).2 k q hy
 refine ⟨fun k q => hW.keep (h.ob k q) x (hk k q), fun k q y hy => ?_, h.ap, h.fr, h.ext.keep' x fun y hy => (hU y hy).1⟩
 cases e : τ.get y with
 | none => exact absurd e (h.al k q y hy)
 | some b => rw [x _ _ e (hk k q y hy)]; simp
theorem Hw.step (hW : HB N W) {σ0 τ τ' : Mem} {L : Int → Prop} {k : Int} {P : Int → Nat} {O : Int → List Nat} {M : Int → α} {m' : α} {O' : List Nat} (h : Hw N W σ0 L P O M τ) (hf : N.fr σ0) (hL : L k) (hO : ∀ i ∈ O', i ∈ O k ∨ τ.get i = none) (hob : W (P k) O' m' τ') (hk : Keep (O k ++ N.l) τ τ') :
  ∃ O2, Hw N W σ0 L P O2 (updX M k m') τ' ∧ ∀ l, ∀ x ∈ O2 l, x ∈ O l ∨ τ.get x = none := by
 obtain ⟨O'', g1, g2, g3⟩ := hW.min hob
 have others : ∀ l, L l → l ≠ k → ∀ x ∈ O l, x ∉ O k ++ N.l := fun l l0 e x hx => by
  simp only [List.mem_append, not_or]
  exact ⟨h.ap l k l0 hL e x hx, hW.own (h.ob l l0) x hx⟩
 have fr' : ∀ x ∈ O'', σ0.get x = none := fun x hx => by
  rcases hO x (g2 x hx) with q | q
  ·exact h.fr k hL x q
  ·exact h.ext.none q
 have new : ∀ l, L l → l ≠ k → ∀ x ∈ O'', x ∉ O l := fun l l0 e x hx hx' => by
  rcases hO x (g2 x hx) with q | q
  ·exact h.ap l k l0 hL e x hx' q
  ·exact h.al l l0 x hx' q
 refine ⟨updX O k O'', ⟨fun l l0 => ?_, fun l l0 x hx => ?_, fun a b a0 b0 hab x hx => ?_, fun l l0 x hx => ?_, h.ext.keep' hk fun j hj => ?_⟩, fun l x hx => ?_⟩
 ·by_cases e : l = k
  ·subst e; rw [updX_same, updX_same]; exact g1
  ·rw [updX_ne e, updX_ne e]; exact hW.keep (h.ob l l0) hk (others l l0 e)
 ·by_cases e : l = k
  ·subst e; rw [updX_same] at hx; exact g3 x hx
  ·rw [updX_ne e] at hx
   cases q : τ.get x with
   | none => exact absurd q (h.al l l0 x hx)
   | some bl => rw [hk _ _ q (others l l0 e x hx)]; simp
 ·by_cases e1 : a = k
  ·subst e1
   rw [updX_same] at hx
   rw [updX_ne (fun q => hab q.symm)]
   exact new b b0 (fun q => hab q.symm) x hx
  ·rw [updX_ne e1] at hx
   by_cases e2 : b = k
   ·subst e2
    rw [updX_same]
    exact fun q => new a a0 e1 x q hx
   ·rw [updX_ne e2]; exact h.ap a b a0 b0 hab x hx
 ·by_cases e : l = k
  ·subst e; rw [updX_same] at hx; exact fr' x hx
  ·rw [updX_ne e] at hx; exact h.fr l l0 x hx
 ·rcases List.mem_append.1 hj with q | q
  ·exact h.fr k hL j q
  ·exact hf.all j q
 ·by_cases e : l = k
  ·subst e; rw [updX_same] at hx; exact hO x (g2 x hx)
  ·rw [updX_ne e] at hx; exact .inl hx
theorem Hw.new (hW : HB N W) {σ0 τ τ' : Mem} {L : Int → Prop} {i : Int} {P : Int → Nat} {O : Int → List Nat} {M : Int → α} {m : α} {p : Nat} (h : Hw N W σ0 L P O M τ) (hi : ¬ L i) (hp : τ.get p = none) (hob : W p [p] m τ') (x : Ext τ τ') :
  Hw N W σ0 (fun k => L k ∨ k = i) (updX P i p) (updX O i [p]) (updX M i m) τ' := by
 have hn : τ'.get p ≠ none := by obtain ⟨O', q1, q2, q3⟩ := hW.min hob; exact q3 p (hW.p q1)
 have ne : ∀ k, L k → k ≠ i := fun k q e => hi (e ▸ q)
 have h' := h.more hW x
 have nx : ∀ k, L k → p ∉ O k := fun k q hk => h.al k q p hk hp
 refine ⟨fun k q => ?_, fun k q y hy => ?_, fun a b qa qb hab y hy => ?_, fun k q y hy => ?_, h'.ext⟩
 ·by_cases e : k = i
  ·subst e; rw [updX_same, updX_same, updX_same]; exact hob
  ·rw [updX_ne e, updX_ne e, updX_ne e]; exact h'.ob k (by rcases q with q | q; exact q; exact absurd q e)
 ·by_cases e : k = i
  ·subst e; rw [updX_same, List.mem_singleton] at hy; subst hy; exact hn
  ·rw [updX_ne e] at hy; exact h'.al k (by rcases q with q | q; exact q; exact absurd q e) y hy
 ·by_cases e1 : a = i
  ·subst e1
   rw [updX_same, List.mem_singleton] at hy
   subst hy
   rw [updX_ne (fun q => hab q.symm)]
   exact nx b (by rcases qb with q | q; exact q; exact absurd q.symm hab)
  ·have qa' : L a := by rcases qa with q | q; exact q; exact absurd q e1
   rw [updX_ne e1] at hy
   by_cases e2 : b = i
   ·subst e2; rw [updX_same, List.mem_singleton]; rintro rfl; exact nx a qa' hy
   ·rw [updX_ne e2]; exact h.ap a b qa' (by rcases qb with q | q; exact q; exact absurd q e2) hab y hy
 ·by_cases e : k = i
  ·subst e; rw [updX_same, List.mem_singleton] at hy; subst hy; exact h.ext.none hp
  ·rw [updX_ne e] at hy; exact h.fr k (by rcases q with q | q; exact q; exact absurd q e) y hy
end
theorem Ob.hb : HB N (Ob N) := by
 refine ⟨fun {p O L m σ τ} h x hL => ?_, fun h => h.own, fun {p O m σ} h => ?_, fun h => h.p⟩
 ·obtain ⟨⟨a, b, h1, h2, h3⟩, h4, h5⟩ := h
  refine ⟨⟨a, b, x.get h1 (hL p h5), fun e => ?_, fun e => ?_⟩, h4, h5⟩
  ·obtain ⟨q, q1, q2, q3, q4⟩ := h2 e; exact ⟨q, q1, q2, q3, x.get q4 (hL q q2)⟩
  ·obtain ⟨q, q1, q2, q3, q4⟩ := h3 e; exact ⟨q, q1, q2, q3, x.get q4 (hL q q2)⟩
 ·obtain ⟨⟨a, b, g1, g2, g3⟩, own, pO⟩ := h
  by_cases c2 : m.a.pc = 2
  ·obtain ⟨q, rfl, qO, qp, gq⟩ := g2 c2
   refine ⟨[p, q], ⟨⟨some q, b, g1, fun _ => ⟨q, rfl, by simp, qp, gq⟩, fun e => by omega⟩, fun i hi => ?_, by simp⟩, fun i hi => ?_, fun i hi => ?_⟩ <;>
   ·simp only [List.mem_cons, List.not_mem_nil, or_false] at hi
    rcases hi with rfl | rfl <;> first | exact own _ pO | exact own _ qO | exact pO | exact qO | (rw [g1]; simp) | (rw [gq]; simp)
  ·by_cases c7 : m.a.pc = 7
   ·obtain ⟨q, rfl, qO, qp, gq⟩ := g3 c7
    refine ⟨[p, q], ⟨⟨a, some q, g1, fun e => by omega, fun _ => ⟨q, rfl, by simp, qp, gq⟩⟩, fun i hi => ?_, by simp⟩, fun i hi => ?_, fun i hi => ?_⟩ <;>
    ·simp only [List.mem_cons, List.not_mem_nil, or_false] at hi
     rcases hi with rfl | rfl <;> first | exact own _ pO | exact own _ qO | exact pO | exact qO | (rw [g1]; simp) | (rw [gq]; simp)
   ·refine ⟨[p], ⟨⟨a, b, g1, fun e => absurd e c2, fun e => absurd e c7⟩, fun i hi => ?_, by simp⟩, fun i hi => ?_, fun i hi => ?_⟩ <;>
    ·rw [List.mem_singleton] at hi
     subst hi
     first | exact own _ pO | exact pO | (rw [g1]; simp)
end Go.Fl
namespace Go.Fl
open Go
set_option linter.unusedVariables false
set_option linter.unusedSimpArgs false
variable {N : Nm} {A B : Ar} {σ : Mem} {K : Value → Mem → Prop} {C : Cf} {who : Int}
theorem AOb.min {p : Nat} {O : List Nat} {m : Ak} (h : AOb N p O m σ) : ∃ O', AOb N p O' m σ ∧ (∀ i ∈ O', i ∈ O) ∧ ∀ i ∈ O', σ.get i ≠ none := by
 obtain ⟨⟨a, g1, g2⟩, own, pO⟩ := h
 by_cases c4 : m.a.pc = 4
 ·obtain ⟨q, rfl, qO, qp, gq⟩ := g2 c4
  refine ⟨[p, q], ⟨⟨some q, g1, fun _ => ⟨q, rfl, by simp, qp, gq⟩⟩, fun i hi => ?_, by simp⟩, fun i hi => ?_, fun i hi => ?_⟩ <;>
  ·simp only [List.mem_cons, List.not_mem_nil, or_false] at hi
   rcases hi with rfl | rfl <;> first | exact own _ pO | exact own _ qO | exact pO | exact qO | (rw [g1]; simp) | (rw [gq]; simp)
 ·refine ⟨[p], ⟨⟨a, g1, fun e => absurd e c4⟩, fun i hi => ?_, by simp⟩, fun i hi => ?_, fun i hi => ?_⟩ <;>
  ·rw [List.mem_singleton] at hi
   subst hi
   first | exact own _ pO | exact pO | (rw [g1]; simp)
structure Ev (C : Cf) (n : Int) (own : Bool) (z a W bb : Int) (A : Ar) : Prop where
 ol : Ol C A.w n own z a
 W : A.w (C.slot (hdSl n)) = W
 ok : A.ok bb
 n1 : C.len ≤ A.n
 n2 : (A.n : Int) ≤ 200000000
theorem Ev.step (hC : C.ok) {n z a W bb kd ix v old : Int} {own : Bool} {m : Ak} (h : Ev C n own z a W bb A) (hm : Lo C n own z W kd ix v old m) (hb : bb < 4611686018427387904) :
  m.fit C A ∧ LoR C who n own z a W kd ix v old A m (m.step C who A).1 (m.step C who A).2.1 (m.step C who A).2.2 ∧ Ev C n own z a W (bb + 1) (m.step C who A).2.2 ∧ (m.step C who A).2.2.s = A.s + 1 := by
 obtain ⟨h1, h2⟩ := hm.step (who := who) hC h.ol h.W h.ok hb h.n1 h.n2
 have h3 := h2.keep hC h.ol h.W h.ok hb
 exact ⟨h1, h2, ⟨h3.ol, h3.W, h3.ok, by rw [h3.n]; exact h.n1, by rw [h3.n]; exact h.n2⟩, h3.s⟩
theorem Ev.mono {n z a W bb b2 : Int} {own : Bool} (h : Ev C n own z a W bb A) (hb : bb ≤ b2) : Ev C n own z a W b2 A := ⟨h.ol, h.W, ok_mono h.ok hb, h.n1, h.n2⟩
end Go.Fl
namespace Go.Fl
open Go
set_option linter.unusedVariables false
set_option linter.unusedSimpArgs false
variable {C : Cf} {A A' : Ar} {who : Int}
structure Ax where
 kd : Int
 v : Int
 old : Int
structure Fi where
 x : Ax
 E : Int
 V : Int
 S : Int
def Look (x : Ax) (v : Int) : Prop := x.kd = 1 ∨ x.kd = 3 ∧ v ≠ x.old
structure Eff (s0 s : Int) (hv : Int → Int) (x : Ax) (E V S : Int) : Prop where
 sb : s0 < S ∧ S ≤ s
 v : V = hv (S - 1)
 k : Look x V ∧ hv S = V ∧ E = (if x.kd = 3 then 8 else 0) ∨ ¬ Look x V ∧ hv S = x.v ∧ E = 0
theorem Eff.mono {s0 s s' : Int} {hv hv' : Int → Int} {x : Ax} {E V S : Int} (h : Eff s0 s hv x E V S) (hs : s ≤ s') (he : ∀ t, t ≤ s → hv' t = hv t) : Eff s0 s' hv' x E V S :=
 ⟨⟨h.sb.1, by have := h.sb.2; omega⟩, by rw [he _ (by have := h.sb.2; omega)]; exact h.v, by rw [he _ h.sb.2]; exact h.k⟩
inductive Thr (C : Cf) (n W e0 s0 s : Int) (x : Ax) (hv : Int → Int) (a : Aa) : Prop where
 | pin (hp : a.pc = 0) (hi : a.ip = 0 ∨ (a.ip = 1 ∨ a.ip = 2) ∧ a.ep = e0) (hw : a.wk = .ac (Ak.new x.kd n 0 x.v x.old false))
 | work (hp : a.pc = 1) (hi : a.ip = 0 ∨ a.ip = 1 ∨ a.ip = 2) (m : Ak) (hw : a.wk = .ac m) (lo : Lo C n false 1 W x.kd 0 x.v x.old m) (pe : m.a.pc = 6 → Eff s0 s hv x (if x.kd = 3 then 8 else 0) (ceV m.a.cell) m.a.rd)
 | out (hp : a.pc = 2) (hi : a.ip = 0 ∨ a.ip = 1 ∨ a.ip = 2) (ef : Eff s0 s hv x a.oE a.oV a.oS)
theorem Thr.mono {n W e0 s0 s s' : Int} {x : Ax} {hv hv' : Int → Int} {a : Aa} (h : Thr C n W e0 s0 s x hv a) (hs : s ≤ s') (he : ∀ t, t ≤ s → hv' t = hv t) : Thr C n W e0 s0 s' x hv' a := by
 cases h with
 | pin hp hi hw => exact .pin hp hi hw
 | work hp hi m hw lo pe => exact .work hp hi m hw lo fun q => (pe q).mono hs he
 | out hp hi ef => exact .out hp hi (ef.mono hs he)
def Tkn (a : Aa) (t : Int) : Prop := a.pc = 2 ∧ a.oS = t ∨ a.pc = 1 ∧ ∃ m, a.wk = .ac m ∧ m.a.pc = 6 ∧ m.a.rd = t
def On3 (L : Int → Bool) (k : Int) : Prop := (0 ≤ k ∧ k < 3) ∧ L k = true
structure AM (C : Cf) (n a W e0 s0 bb : Int) (L : Int → Bool) (M : Int → Aa) (Q : Int → Ax) (N : Nat) (F : Int → Fi) (hv : Int → Int) (A : Ar) : Prop where
 ev : Ev C n false 1 a W bb A
 ep : A.w 0 = e0
 pn : ∀ k, 0 ≤ k → k < 3 → L k = false → A.w (6 + k) = 0
 s : s0 ≤ A.s
 h0 : hv s0 = 0
 now : A.w (a + 1) = putCell (hv A.s) false 0
 hb : 0 ≤ hv A.s ∧ hv A.s ≤ 8
 qv : ∀ k, On3 L k → (0 ≤ (Q k).v ∧ (Q k).v ≤ 8)
 th : ∀ k, On3 L k → Thr C n W e0 s0 A.s (Q k) hv (M k)
 fi : ∀ i : Int, 0 ≤ i → i < N → Eff s0 A.s hv (F i).x (F i).E (F i).V (F i).S
 d1 : ∀ i j : Int, 0 ≤ i → i < N → 0 ≤ j → j < N → i ≠ j → (F i).S ≠ (F j).S
 d2 : ∀ k i : Int, On3 L k → 0 ≤ i → i < N → ¬ Tkn (M k) (F i).S
 d3 : ∀ k l t, On3 L k → On3 L l → k ≠ l → Tkn (M k) t → ¬ Tkn (M l) t
 ch : ∀ t, s0 < t → t ≤ A.s → hv t ≠ hv (t - 1) → (∃ i : Int, (0 ≤ i ∧ i < N) ∧ (F i).S = t) ∨ ∃ k, On3 L k ∧ (M k).pc = 2 ∧ (M k).oS = t
theorem Ev.at1 {n z a W bb : Int} {own : Bool} (h : Ev C n own z a W bb A) (hb : bb < 4611686018427387904) {x : Int} : Ev C n own z a W (bb + 1) ((A.by who).load x) ∧ ((A.by who).load x).s = A.s + 1 := by
 have a1 := aft_load (who := who) (A := A) (a := x) h.ok (by omega)
 exact ⟨⟨h.ol, h.W, a1.ok (by decide) h.ok h.ok.w, h.n1, h.n2⟩, a1.s⟩
theorem Ev.low (hC : C.ok) {n z a W bb : Int} {own : Bool} (h : Ev C n own z a W bb A) (hb : bb < 4611686018427387904) {x v : Int} (hx : 0 ≤ x ∧ x < 6 + C.T) (hv : 0 ≤ v ∧ v < 18446744073709551616) : Ev C n own z a W (bb + 1) ((A.by who).store x v) ∧ ((A.by who).store x v).s = A.s + 1 := by
 have a1 := aft_store (who := who) (A := A) (a := x) (v := v) h.ok (by omega)
 obtain ⟨o1, o2, o3, o4, o5, o6, o7, o8, o9, o10⟩ := h.ol
 have hsl := hdSl_bd o1.1
 have hT := hC.T; have hS := hC.S; have hCC := hC.C
 have hb0 : C.base 0 = 6 + C.T + 2 * C.S + 3 * C.C := by unfold Cf.base; omega
 have e1 : upd A.w x v (C.slot (hdSl n)) = A.w (C.slot (hdSl n)) := upd_ne _ _ (by unfold Cf.slot; omega)
 have e2 : ∀ i, a ≤ i → upd A.w x v i = A.w i := fun i hi => upd_ne _ _ (by omega)
 refine ⟨⟨⟨o1, o2, o3, ?_, ?_, ?_, ?_, o8, o9, fun y y0 y1 => ?_⟩, ?_, a1.ok (by decide) h.ok fun i => upd_cases (P := fun x => 0 ≤ x ∧ x < 18446744073709551616) hv (h.ok.w i), h.n1, h.n2⟩, a1.s⟩
 ·show slS (upd A.w x v _) = 1; rw [e1]; exact o4
 ·show slA (upd A.w x v _) = a; rw [e1]; exact o5
 ·show slG (upd A.w x v _) = _; rw [e1]; exact o6
 ·show hdO (upd A.w x v a) = own ∧ hdS (upd A.w x v a) = z; rw [e2 a (Int.le_refl a)]; exact o7
 ·show ceF (upd A.w x v (a + 1 + y)) = false; rw [e2 _ (by omega)]; exact o10 y y0 y1
 ·show upd A.w x v _ = W; rw [e1]; exact h.W
section
variable {n a W e0 s0 bb : Int} {L : Int → Bool} {M : Int → Aa} {Q : Int → Ax} {N : Nat} {F : Int → Fi} {hv : Int → Int} {k : Int}
theorem AM.go (h : AM C n a W e0 s0 bb L M Q N F hv A) (hk : On3 L k) (np2 : (M k).pc ≠ 2) {a' : Aa} {v' : Int} (ev' : Ev C n false 1 a W (bb + 1) A') (ep' : A'.w 0 = e0) (pn' : ∀ j, 0 ≤ j → j < 3 → L j = false → A'.w (6 + j) = 0) (s' : A'.s = A.s + 1)
  (now' : A'.w (a + 1) = putCell v' false 0) (vb : 0 ≤ v' ∧ v' ≤ 8) (th' : Thr C n W e0 s0 (A.s + 1) (Q k) (upd hv (A.s + 1) v') a') (st' : ∀ t, Tkn a' t → t = A.s + 1 ∨ Tkn (M k) t) (lay : v' = hv A.s ∨ a'.pc = 2 ∧ a'.oS = A.s + 1) :
  AM C n a W e0 s0 (bb + 1) L (updX M k a') Q N F (upd hv (A.s + 1) v') A' := by
 have he : ∀ t, t ≤ A.s → upd hv (A.s + 1) v' t = hv t := fun t ht => upd_ne _ _ (by omega)
 have hs := h.s
 have old : ∀ l t, On3 L l → Tkn (M l) t → t ≤ A.s := fun l t hl q => by
  cases h.th l hl with
  | pin hp =>
   rcases q with ⟨q, _⟩ | ⟨q, _⟩ <;> omega
  | work hp hi m hw lo pe =>
   rcases q with ⟨q, _⟩ | ⟨_, m', q1, q2, q3⟩
   ·omega
   ·rw [hw] at q1; cases q1
    have := (pe q2).sb; omega
  | out hp hi ef =>
   rcases q with ⟨_, q⟩ | ⟨q, _⟩
   ·have := ef.sb; omega
   ·omega
 refine ⟨ev', ep', pn', by omega, by rw [he _ hs]; exact h.h0, by rw [s', upd_same]; exact now', by rw [s', upd_same]; exact vb, h.qv, fun l hl => ?_, fun i i0 i1 => by rw [s']; exact (h.fi i i0 i1).mono (by omega) he, h.d1, fun l i hl i0 i1 q => ?_, fun l r t hl hr ne q1 q2 => ?_, fun t t0 t1 hne => ?_⟩
 ·rw [s']
  by_cases e : l = k
  ·subst e; rw [updX_same]; exact th'
  ·rw [updX_ne e]; exact (h.th l hl).mono (by omega) he
 ·by_cases e : l = k
  ·subst e
   rw [updX_same] at q
   rcases st' _ q with q | q
   ·have := (h.fi i i0 i1).sb; omega
   ·exact h.d2 l i hl i0 i1 q
  ·rw [updX_ne e] at q; exact h.d2 l i hl i0 i1 q
 ·by_cases e : l = k
  ·subst e
   rw [updX_same] at q1
   rw [updX_ne (Ne.symm ne)] at q2
   rcases st' _ q1 with q | q
   ·have := old r t hr q2; omega
   ·exact h.d3 l r t hl hr ne q q2
  ·rw [updX_ne e] at q1
   by_cases e2 : r = k
   ·subst e2
    rw [updX_same] at q2
    rcases st' _ q2 with q | q
    ·have := old l t hl q1; omega
    ·exact h.d3 l r t hl hr ne q1 q
   ·rw [updX_ne e2] at q2; exact h.d3 l r t hl hr ne q1 q2
 ·rw [s'] at t1
  by_cases e : t = A.s + 1
  ·subst e
   rw [upd_same, he _ (by omega), show A.s + 1 - 1 = A.s by omega] at hne
   rcases lay with q | q
   ·exact absurd q hne
   ·exact .inr ⟨k, hk, by rw [updX_same]; exact q.1, by rw [updX_same]; exact q.2⟩
  ·rw [he t (by omega), he (t - 1) (by omega)] at hne
   rcases h.ch t t0 (by omega) hne with q | ⟨l, hl, q1, q2⟩
   ·exact .inl q
   ·have : l ≠ k := fun e2 => np2 (by rw [← e2]; exact q1)
    exact .inr ⟨l, hl, by rw [updX_ne this]; exact q1, by rw [updX_ne this]; exact q2⟩
def bW (now : Int) (m : Ak) : Int := if m.a.pc = 0 then 5 else if m.a.pc = 1 then 4 else if m.a.pc = 2 then 3 else if m.a.pc = 5 ∧ m.a.cell ≠ now then 6 else 2
section
variable {now : Int} {m : Ak}
theorem bW0 (h : m.a.pc = 0) : bW now m = 5 := by unfold bW; rw [if_pos h]
theorem bW1 (h : m.a.pc = 1) : bW now m = 4 := by unfold bW; rw [if_neg (by omega), if_pos h]
theorem bW2 (h : m.a.pc = 2) : bW now m = 3 := by unfold bW; rw [if_neg (by omega), if_neg (by omega), if_pos h]
theorem bW5 (h : m.a.pc = 5) (hc : m.a.cell ≠ now) : bW now m = 6 := by unfold bW; rw [if_neg (by omega), if_neg (by omega), if_neg (by omega), if_pos ⟨h, hc⟩]
theorem bW5' (h : m.a.pc = 5) (hc : m.a.cell = now) : bW now m = 2 := by unfold bW; rw [if_neg (by omega), if_neg (by omega), if_neg (by omega), if_neg (fun x => x.2 hc)]
theorem bW6 (h : m.a.pc = 6) : bW now m = 2 := by unfold bW; rw [if_neg (by omega), if_neg (by omega), if_neg (by omega), if_neg (by omega)]
theorem bW_bd : 2 ≤ bW now m ∧ bW now m ≤ 6 := by unfold bW; (repeat' split) <;> omega
theorem bW_now {now' : Int} : bW now' m ≤ bW now m + 4 := by
 by_cases c0 : m.a.pc = 0
 ·rw [bW0 c0, bW0 c0]; decide
 by_cases c1 : m.a.pc = 1
 ·rw [bW1 c1, bW1 c1]; decide
 by_cases c2 : m.a.pc = 2
 ·rw [bW2 c2, bW2 c2]; decide
 have := bW_bd (now := now) (m := m)
 have := bW_bd (now := now') (m := m)
 omega
end
def bA (now : Int) (a : Aa) : Int :=
 if a.pc = 0 then 8 - a.ip
 else if a.pc = 1 then
  match a.wk with
  | .ac m => bW now m
  | _ => 9
 else 1
theorem bA0 {now : Int} {a : Aa} (h : a.pc = 0) : bA now a = 8 - a.ip := by unfold bA; rw [if_pos h]
theorem bA1 {now : Int} {a : Aa} {m : Ak} (h : a.pc = 1) (hw : a.wk = .ac m) : bA now a = bW now m := by
 unfold bA; rw [if_neg (by omega), if_pos h, hw]
theorem bA2 {now : Int} {a : Aa} (h : a.pc = 2) : bA now a = 1 := by unfold bA; rw [if_neg (by omega), if_neg (by omega)]
theorem Thr.b {s e : Int} {x : Ax} {a : Aa} {now : Int} (h : Thr C n W e s0 s x hv a) : 1 ≤ bA now a ∧ bA now a ≤ 8 := by
 cases h with
 | pin hp hi => rw [bA0 hp]; omega
 | work hp hi m hw => rw [bA1 hp hw]; have := bW_bd (now := now) (m := m); omega
 | out hp => rw [bA2 hp]; omega
theorem bA_now {s e : Int} {x : Ax} {a : Aa} {now now' : Int} (h : Thr C n W e s0 s x hv a) : bA now' a ≤ bA now a + (if a.pc ≤ 1 then 4 else 0) := by
 cases h with
 | pin hp hi => rw [bA0 hp, bA0 hp, if_pos (by omega)]; omega
 | work hp hi m hw => rw [bA1 hp hw, bA1 hp hw, if_pos (by omega)]; exact bW_now
 | out hp => rw [bA2 hp, bA2 hp, if_neg (by omega)]; omega
inductive StpR (C : Cf) (n a W e0 s0 bb : Int) (L : Int → Bool) (M : Int → Aa) (Q : Int → Ax) (N : Nat) (F : Int → Fi) (A : Ar) (k : Int) (r : Bool × Aa × Ar) : Prop where
 | on (hr : r.1 = false) (hv' : Int → Int) (h : AM C n a W e0 s0 (bb + 1) L (updX M k r.2.1) Q N F hv' r.2.2) (hb : bA (r.2.2.w (a + 1)) r.2.1 + 1 ≤ bA (A.w (a + 1)) (M k)) (hw : r.2.2.w (a + 1) = A.w (a + 1)) (hp : (M k).pc ≤ 1 ∨ r.2.1.pc = 2)
 | lay (hr : r.1 = false) (hv' : Int → Int) (h : AM C n a W e0 s0 (bb + 1) L (updX M k r.2.1) Q N F hv' r.2.2) (hb : bA (r.2.2.w (a + 1)) r.2.1 + 1 ≤ bA (A.w (a + 1)) (M k)) (hp : (M k).pc = 1) (hp' : r.2.1.pc = 2)
 | fin (hr : r.1 = true) (hv' : Int → Int) (hp : (M k).pc = 2) (ha : r.2.1 = M k) (h : AM C n a W e0 s0 (bb + 1) (updX L k false) M Q (N + 1) (fun i => if i = N then ⟨Q k, (M k).oE, (M k).oV, (M k).oS⟩ else F i) hv' r.2.2) (hw : r.2.2.w (a + 1) = A.w (a + 1))
theorem AM.step (hC : C.ok) (hT : C.T = 4) (hwho : who = k) (h : AM C n a W e0 s0 bb L M Q N F hv A) (hk : On3 L k) (hb : bb < 4611686018427387904) (he0 : 0 ≤ e0 ∧ e0 < 18446744073709551615) :
  ((M k).ip = 0 ∨ (M k).ip = 1 ∨ (M k).ip = 2) ∧ ((M k).pc = 0 ∨ (M k).pc = 1 ∨ (M k).pc = 2) ∧ ((M k).pc = 1 → (M k).wk.fit C A) ∧ StpR C n a W e0 s0 bb L M Q N F A k ((M k).step C who A) := by
 subst hwho
 have hS := hC.S; have hCC := hC.C
 have hb0 : C.base 0 = 6 + C.T + 2 * C.S + 3 * C.C := by unfold Cf.base; omega
 have hab := h.ev.ol.bd
 have hs := h.s
 have hhb := h.hb
 have hk1 := hk.1
 have ld : ∀ x, Ev C n false 1 a W (bb + 1) ((A.by who).load x) ∧ ((A.by who).load x).s = A.s + 1 := fun x => h.ev.at1 hb
 have hov : ∀ v t, t ≤ A.s → upd hv (A.s + 1) v t = hv t := fun v t ht => upd_ne _ _ (by omega)
 -- one that just looks at a word
 have look : ∀ (x : Int) (a' : Aa), (M who).pc ≠ 2 → Thr C n W e0 s0 (A.s + 1) (Q who) (upd hv (A.s + 1) (hv A.s)) a' → (∀ t, Tkn a' t → t = A.s + 1 ∨ Tkn (M who) t) → AM C n a W e0 s0 (bb + 1) L (updX M who a') Q N F (upd hv (A.s + 1) (hv A.s)) ((A.by who).load x) := fun x a' np2 th' st' =>
  h.go hk np2 (ld x).1 h.ep h.pn (ld x).2 h.now hhb th' st' (.inl rfl)
 cases h.th who hk with
 | pin hp hi hw =>
  have nst : ∀ t, Tkn (M who) t → False := fun t q => by rcases q with ⟨q, _⟩ | ⟨q, _⟩ <;> omega
  refine ⟨by rcases hi with e | ⟨e, _⟩ <;> omega, .inl hp, fun e => by omega, ?_⟩
  have ns : ∀ (i e : Int) t, Tkn { M who with ip := i, ep := e } t → t = A.s + 1 ∨ Tkn (M who) t := fun i e t q => by
   rcases q with ⟨q, _⟩ | ⟨q, _⟩
   ·have q' : (M who).pc = 2 := q
    omega
   ·have q' : (M who).pc = 1 := q
    omega
  rcases hi with e | ⟨e | e, ee⟩
  ·have st : (M who).step C who A = (false, { M who with ip := 1, ep := A.w 0 }, (A.by who).load 0) := by unfold Aa.step; rw [if_pos hp, if_pos e]
   rw [st]
   refine .on rfl _ (look 0 _ (by omega) (.pin hp (.inr ⟨.inl rfl, h.ep⟩) hw) (ns _ _)) ?_ rfl (.inl (by omega))
   rw [bA0 hp, bA0 (show ({ M who with ip := 1, ep := A.w 0 } : Aa).pc = 0 from hp), e]
   show 8 - (1 : Int) + 1 ≤ 8 - 0; decide
  ·have st : (M who).step C who A = (false, { M who with ip := 2 }, (A.by who).store (6 + who) (IntKind.u64.wrap ((M who).ep + 1))) := by unfold Aa.step; rw [if_pos hp, if_neg (by omega), if_pos e]
   have hlow := h.ev.low (who := who) hC hb (x := 6 + who) (v := IntKind.u64.wrap ((M who).ep + 1)) (by omega) (wrap_in _)
   have wn : ∀ i, i ≠ 6 + who → ((A.by who).store (6 + who) (IntKind.u64.wrap ((M who).ep + 1))).w i = A.w i := fun i hi => upd_ne _ _ hi
   rw [st]
   refine .on rfl _ (h.go hk (by omega) hlow.1 (by rw [wn 0 (by omega)]; exact h.ep) (fun j j0 j1 hj => ?_) hlow.2 (by rw [wn _ (by omega)]; exact h.now) hhb (.pin hp (.inr ⟨.inr rfl, ee⟩) hw) (ns 2 (M who).ep) (.inl rfl)) ?_ (wn _ (by omega)) (.inl (by omega))
   ·have : j ≠ who := fun e => by rw [e, hk.2] at hj; cases hj
    rw [wn _ (by omega)]; exact h.pn j j0 j1 hj
   ·rw [bA0 hp, bA0 (show ({ M who with ip := 2 } : Aa).pc = 0 from hp), e]
    show 8 - (2 : Int) + 1 ≤ 8 - 1; decide
  ·have st : (M who).step C who A = (false, { M who with pc := 1 }, (A.by who).load 0) := by unfold Aa.step; rw [if_pos hp, if_neg (by omega), if_neg (by omega), if_pos (by rw [h.ep, ee])]
   rw [st]
   refine .on rfl _ (look 0 _ (by omega) (.work rfl (.inr (.inr e)) _ hw (Lo.new hC) fun q => absurd (show (0 : Int) = 6 from q) (by decide)) fun t q => ?_) ?_ rfl (.inl (by omega))
   ·rcases q with ⟨q, _⟩ | ⟨_, m', q1, q2, _⟩
    ·exact absurd (show (1 : Int) = 2 from q) (by decide)
    ·have q1' : (M who).wk = .ac m' := q1
     rw [hw] at q1'; cases q1'
     exact absurd (show (0 : Int) = 6 from q2) (by decide)
   ·rw [bA0 hp, bA1 (a := { M who with pc := 1 }) rfl hw, bW0 rfl, e]; decide
 | work hp hi m hw lo pe =>
  obtain ⟨hf, hR, hE, hS1⟩ := h.ev.step (who := who) hC lo hb
  have hfit : (M who).wk.fit C A := by rw [hw]; exact hf
  refine ⟨hi, .inr (.inl hp), fun _ => hfit, ?_⟩
  have ws : (M who).wk.step C who A = ((m.step C who A).1, .ac (m.step C who A).2.1, (m.step C who A).2.2) := by rw [hw]; rfl
  -- it goes on
  have go : ∀ (m' : Ak) (A1 : Ar), (m.step C who A) = (false, m', A1) → (M who).step C who A = (false, { M who with wk := .ac m' }, A1) := fun m' A1 e => by
   rw [Aa.st_go hp (by rw [ws, e]; exact Bool.false_ne_true), ws, e]
  have dn : ∀ (m' : Ak) (A1 : Ar), (m.step C who A) = (true, m', A1) → (M who).step C who A = (false, { M who with wk := .ac m', oE := m'.a.oE, oH := m'.a.oH, oV := m'.a.oV, oS := m'.a.oS, pc := 2 }, A1) := fun m' A1 e => by
   rw [Aa.st_wk hp (by rw [ws, e]), ws, e]; rfl
  have nstp : ∀ m' : Ak, m'.a.pc ≠ 6 → ∀ t, Tkn { M who with wk := .ac m' } t → t = A.s + 1 ∨ Tkn (M who) t := fun m' n6 t q => by
   rcases q with ⟨q, _⟩ | ⟨_, m2, q1, q2, _⟩
   ·have q' : (M who).pc = 2 := q
    omega
   ·have q1' : Wk.ac m' = .ac m2 := q1
    cases q1'; exact absurd q2 n6
  have hnow : ceV (A.w (a + 1)) = hv A.s := by rw [h.now]; exact ceV_lay ⟨hhb.1, by omega⟩
  have ax : a + 1 + 0 = a + 1 := Int.add_zero _
  generalize hms : m.step C who A = r at hR hE hS1
  obtain ⟨d, m', A1⟩ := r
  dsimp only at hR hE hS1
  cases hR with
  | see p0 lo' p1 sn =>
   rw [go _ _ hms]
   refine .on rfl _ (look _ _ (by omega) (.work hp hi _ rfl lo' fun q => by omega) (nstp _ (by omega))) ?_ rfl (.inl (by omega))
   rw [bA1 hp hw, bA1 (a := { M who with wk := .ac m' }) hp rfl, bW0 p0, bW1 p1]; decide
  | head p1 lo' p2 ib =>
   rw [go _ _ hms]
   refine .on rfl _ (look _ _ (by omega) (.work hp hi _ rfl lo' fun q => by omega) (nstp _ (by omega))) ?_ rfl (.inl (by omega))
   rw [bA1 hp hw, bA1 (a := { M who with wk := .ac m' }) hp rfl, bW1 p1, bW2 p2]; decide
  | index p1 ni => exact absurd ⟨Int.le_refl 0, by decide⟩ ni
  | load p2 ib lo' ec er hpc =>
   rw [ax] at ec
   rw [go _ _ hms]
   refine .on rfl _ (look _ _ (by omega) (.work hp hi _ rfl lo' fun q => ?_) fun t q => ?_) ?_ rfl (.inl (by omega))
   ·have lk : Lk (Q who).kd (Q who).old m'.a.cell := by
     rcases hpc with ⟨q2, _⟩ | ⟨_, q2⟩
     ·omega
     ·exact q2
    rw [ec, hnow, er]
    refine ⟨⟨by omega, Int.le_refl _⟩, by rw [hov _ _ (by omega), show A.s + 1 - 1 = A.s by omega], .inl ⟨?_, upd_same _ _ _, rfl⟩⟩
    unfold Lk at lk
    rw [ec, hnow] at lk; exact lk
   ·rcases q with ⟨q, _⟩ | ⟨_, m2, q1, q2, q3⟩
    ·have q' : (M who).pc = 2 := q
     omega
    ·have q1' : Wk.ac m' = .ac m2 := q1
     cases q1'
     exact .inl (by omega)
   ·rw [bA1 hp hw, bA1 (a := { M who with wk := .ac m' }) hp rfl, bW2 p2]
    rcases hpc with ⟨q5, _⟩ | ⟨q6, _⟩
    ·have := bW5' q5 ec
     show bW (A.w (a + 1)) m' + 1 ≤ 3
     omega
    ·rw [bW6 q6]; decide
  | lay p5 ib nl ew eo =>
   rw [ax] at ew
   rw [dn _ _ hms]
   obtain ⟨o1, o2, o3, o4⟩ := eo
   have eV : m'.a.oV = hv A.s := by rw [o3, ← ew, hnow]
   have wn : ∀ i, i ≠ a + 1 → upd A.w (a + 1 + 0) (putCell (Q who).v false 0) i = A.w i := fun i hi => upd_ne _ _ (by omega)
   refine .lay rfl (upd hv (A.s + 1) (Q who).v) (h.go hk (by omega) hE (by show upd A.w (a + 1 + 0) _ 0 = e0; rw [wn 0 (by omega)]; exact h.ep) (fun j j0 j1 hj => by show upd A.w (a + 1 + 0) _ (6 + j) = 0; rw [wn _ (by omega)]; exact h.pn j j0 j1 hj) hS1 (by show upd A.w (a + 1 + 0) _ (a + 1) = _; rw [ax, upd_same]) (h.qv who hk) (.out rfl hi ?_) (fun t q => ?_) (.inr ⟨rfl, o4⟩)) ?_ hp rfl
   ·show Eff s0 (A.s + 1) (upd hv (A.s + 1) (Q who).v) (Q who) m'.a.oE m'.a.oV m'.a.oS
    rw [o4, eV, o1]
    refine ⟨⟨by omega, Int.le_refl _⟩, by rw [hov _ _ (by omega), show A.s + 1 - 1 = A.s by omega], .inr ⟨fun lk => nl ?_, upd_same _ _ _, rfl⟩⟩
    unfold Lk
    rw [← ew, hnow]; exact lk
   ·rcases q with ⟨_, q⟩ | ⟨q, _⟩
    ·exact .inl (by rw [← o4]; exact q.symm)
    ·exact absurd (show (2 : Int) = 1 from q) (by decide)
   ·rw [bA1 hp hw, bA2 rfl, bW5' p5 ew.symm]; decide
  | again p5 ib nl ew lo' p0 =>
   rw [ax] at ew
   rw [go _ _ hms]
   refine .on rfl _ (look _ _ (by omega) (.work hp hi _ rfl lo' fun q => by omega) (nstp _ (by omega))) ?_ rfl (.inl (by omega))
   rw [bA1 hp hw, bA1 (a := { M who with wk := .ac m' }) hp rfl, bW5 p5 (fun x => ew x.symm), bW0 p0]; decide
  | look p6 ib lk eo =>
   rw [dn _ _ hms]
   obtain ⟨o1, o2, o3, o4⟩ := eo
   have hpe := pe p6
   refine .on rfl _ (look _ _ (by omega) (.out rfl hi ?_) fun t q => ?_) ?_ rfl (.inr rfl)
   ·show Eff s0 (A.s + 1) (upd hv (A.s + 1) (hv A.s)) (Q who) m'.a.oE m'.a.oV m'.a.oS
    rw [o1, o3, o4]
    exact hpe.mono (by omega) (hov _)
   ·rcases q with ⟨_, q⟩ | ⟨q, _⟩
    ·refine .inr (.inr ⟨hp, m, hw, p6, ?_⟩)
     rw [← o4]; exact q
    ·exact absurd (show (2 : Int) = 1 from q) (by decide)
   ·rw [bA1 hp hw, bA2 rfl, bW6 p6]; decide
 | out hp hi ef =>
  refine ⟨hi, .inr (.inr hp), fun e => by omega, ?_⟩
  rw [Aa.st_out hp]
  have hlow := h.ev.low (who := who) hC hb (x := 6 + who) (v := 0) (by omega) (by decide)
  have wn : ∀ i, i ≠ 6 + who → (A.out who).w i = A.w i := fun i hi => upd_ne _ _ hi
  have e' : A.out who = (A.by who).store (6 + who) 0 := rfl
  have n1 : ∀ {i : Int}, 0 ≤ i → i < ((N + 1 : Nat) : Int) → i ≠ N → i < N := fun {i} i0 i1 ne => by omega
  have on : ∀ l, On3 (updX L who false) l → On3 L l ∧ l ≠ who := fun l hl => by
   by_cases e : l = who
   ·have := hl.2; rw [e, updX_same] at this; cases this
   ·have := hl.2; rw [updX_ne e] at this; exact ⟨⟨hl.1, this⟩, e⟩
  have sk : Tkn (M who) (M who).oS := .inl ⟨hp, rfl⟩
  have sA : (A.out who).s = A.s + 1 := by rw [e']; exact hlow.2
  refine .fin rfl (upd hv (A.s + 1) (hv A.s)) hp rfl ⟨by rw [e']; exact hlow.1, by rw [wn 0 (by omega)]; exact h.ep, fun j j0 j1 hj => ?_, by rw [sA]; omega, by rw [hov _ _ hs]; exact h.h0, by rw [sA, upd_same, wn _ (by omega)]; exact h.now, by rw [sA, upd_same]; exact hhb, fun l hl => h.qv l (on l hl).1, fun l hl => by rw [sA]; exact (h.th l (on l hl).1).mono (by omega) (hov _), fun i i0 i1 => ?_, fun i j i0 i1 j0 j1 ne => ?_, fun l i hl i0 i1 => ?_, fun l r t hl hr => h.d3 l r t (on l hl).1 (on r hr).1, fun t t0 t1 hne => ?_⟩ (wn _ (by omega))
  ·by_cases e : j = who
   ·rw [e]; exact upd_same _ _ _
   ·rw [wn _ (by omega)]; rw [updX_ne e] at hj; exact h.pn j j0 j1 hj
  ·rw [sA]
   by_cases e : i = N
   ·simp only [if_pos e]; exact ef.mono (by omega) (hov _)
   ·simp only [if_neg e]; exact (h.fi i i0 (n1 i0 i1 e)).mono (by omega) (hov _)
  ·by_cases e : i = N
   ·have e2 : j ≠ N := fun x => ne (e.trans x.symm)
    simp only [if_pos e, if_neg e2]
    exact fun q => h.d2 who j hk j0 (n1 j0 j1 e2) (by rw [← q]; exact sk)
   ·simp only [if_neg e]
    by_cases e2 : j = N
    ·simp only [if_pos e2]
     exact fun q => h.d2 who i hk i0 (n1 i0 i1 e) (by rw [q]; exact sk)
    ·simp only [if_neg e2]; exact h.d1 i j i0 (n1 i0 i1 e) j0 (n1 j0 j1 e2) ne
  ·by_cases e : i = N
   ·simp only [if_pos e]
    exact fun q => h.d3 who l _ hk (on l hl).1 (Ne.symm (on l hl).2) sk q
   ·simp only [if_neg e]; exact h.d2 l i (on l hl).1 i0 (n1 i0 i1 e)
  ·rw [sA] at t1
   by_cases e : t = A.s + 1
   ·subst e
    rw [upd_same, hov _ _ (by omega), show A.s + 1 - 1 = A.s by omega] at hne
    exact absurd rfl hne
   ·rw [hov _ t (by omega), hov _ (t - 1) (by omega)] at hne
    rcases h.ch t t0 (by omega) hne with ⟨i, q1, q2⟩ | ⟨l, hl, q1, q2⟩
    ·refine .inl ⟨i, ⟨q1.1, by omega⟩, ?_⟩
     simp only [if_neg (show ¬ i = N by omega)]; exact q2
    ·by_cases e2 : l = who
     ·subst e2
      exact .inl ⟨N, ⟨by omega, by omega⟩, by simp only [if_true]; exact q2⟩
     ·exact .inr ⟨l, ⟨hl.1, by rw [updX_ne e2]; exact hl.2⟩, q1, q2⟩
theorem AM.new (h : AM C n a W e0 s0 bb L M Q N F hv A) {x : Ax} {a' : Aa} (hL : L k = false) (hv' : 0 ≤ x.v ∧ x.v ≤ 8) (hp : a'.pc = 0) (hi : a'.ip = 0) (hw : a'.wk = .ac (Ak.new x.kd n 0 x.v x.old false)) : AM C n a W e0 s0 bb (updX L k true) (updX M k a') (updX Q k x) N F hv A := by
 have on : ∀ l, On3 (updX L k true) l → l ≠ k → On3 L l := fun l hl e => ⟨hl.1, by have := hl.2; rwa [updX_ne e] at this⟩
 have ns : ∀ t, ¬ Tkn a' t := fun t q => by rcases q with ⟨q, _⟩ | ⟨q, _⟩ <;> omega
 refine ⟨h.ev, h.ep, fun j j0 j1 hj => ?_, h.s, h.h0, h.now, h.hb, fun l hl => ?_, fun l hl => ?_, h.fi, h.d1, fun l i hl i0 i1 => ?_, fun l r t hl hr ne q => ?_, fun t t0 t1 hne => ?_⟩
 ·have : j ≠ k := fun e => by rw [e, updX_same] at hj; cases hj
  rw [updX_ne this] at hj; exact h.pn j j0 j1 hj
 ·by_cases e : l = k
  ·subst e; rw [updX_same]; exact hv'
  ·rw [updX_ne e]; exact h.qv l (on l hl e)
 ·by_cases e : l = k
  ·subst e; rw [updX_same, updX_same]; exact .pin hp (.inl hi) hw
  ·rw [updX_ne e, updX_ne e]; exact h.th l (on l hl e)
 ·by_cases e : l = k
  ·subst e; rw [updX_same]; exact ns _
  ·rw [updX_ne e]; exact h.d2 l i (on l hl e) i0 i1
 ·by_cases e : l = k
  ·subst e; rw [updX_same] at q; exact absurd q (ns t)
  ·rw [updX_ne e] at q
   by_cases e2 : r = k
   ·subst e2; rw [updX_same]; exact ns t
   ·rw [updX_ne e2]; exact h.d3 l r t (on l hl e) (on r hr e2) ne q
 ·rcases h.ch t t0 t1 hne with q | ⟨l, hl, q1, q2⟩
  ·exact .inl q
  ·have : l ≠ k := fun e => by have := hl.2; rw [e, hL] at this; cases this
   exact .inr ⟨l, ⟨hl.1, by rw [updX_ne this]; exact hl.2⟩, by rw [updX_ne this]; exact q1, by rw [updX_ne this]; exact q2⟩
end
end Go.Fl
namespace Go.Fl
open Go
set_option linter.unusedVariables false
set_option linter.unusedSimpArgs false
variable {N : Nm} {A B : Ar} {σ : Mem} {K : Value → Mem → Prop} {C : Cf} {who : Int}
def rowL (f : Int → List Value) : Nat → List Value
 | 0 => []
 | n + 1 => rowL f n ++ f n
theorem rowL_len {f : Int → List Value} {es : Nat} (h : ∀ i, (f i).length = es) : ∀ n, (rowL f n).length = n * es
 | 0 => by simp [rowL]
 | n + 1 => by unfold rowL; rw [List.length_append, rowL_len h n, h]; rw [Nat.add_mul, Nat.one_mul]
theorem rowL_get {f : Int → List Value} {es : Nat} (h : ∀ i, (f i).length = es) : ∀ {n i k : Nat}, i < n → k < es → (rowL f n)[i * es + k]? = (f i)[k]?
 | 0, i, k, hi, hk => by omega
 | n + 1, i, k, hi, hk => by
  unfold rowL
  have hl := rowL_len h n
  by_cases e : i = n
  ·subst e
   rw [List.getElem?_append_right (by omega), hl, Nat.add_sub_cancel_left]
  ·have : i * es + es ≤ n * es := by rw [← Nat.succ_mul]; exact Nat.mul_le_mul_right _ (by omega)
   rw [List.getElem?_append_left (by omega)]
   exact rowL_get h (by omega) hk
theorem rowL_congr {f g : Int → List Value} : ∀ {n : Nat}, (∀ i : Int, 0 ≤ i → i < n → g i = f i) → rowL g n = rowL f n
 | 0, _ => rfl
 | n + 1, h => by unfold rowL; rw [rowL_congr (n := n) fun i i0 i1 => h i i0 (by omega), h n (by omega) (by omega)]
structure Rr (N : Nm) (σ : Mem) (es p n : Nat) (f : Int → List Value) (τ : Mem) : Prop where
 gp : τ.get p = some ⟨rowL f n, true⟩
 dp : p ∉ N.l ∧ σ.get p = none
 ln : ∀ i, (f i).length = es
section
variable {es p n l : Nat} {f g : Int → List Value} {τ υ : Mem}
theorem Rr.keep {U : List Nat} (h : Rr N σ es p n f τ) (k : Keep U τ υ) (hU : p ∉ U) : Rr N σ es p n f υ := ⟨k.get h.gp hU, h.dp, h.ln⟩
theorem Rr.ext (h : Rr N σ es p n f τ) (k : Ext τ υ) : Rr N σ es p n f υ := ⟨k _ _ h.gp, h.dp, h.ln⟩
theorem Rr.fld (h : Rr N σ es p n f τ) {i : Int} (i0 : 0 ≤ i) (i1 : i < n) {fl : Nat} (hf : fl < es) {v : Value} (hv : (f i)[fl]? = some v) {kd : IntKind} :
  (xF (fIxS es) [.slice (some ⟨p, 0, none⟩) n es, .int kd i] fun v => xF (fFld fl) [v] fun v' => hLoad 1 false [v'] K τ) = K v τ := by
 rw [xIxS i0 i1, xFld]
 simp only [Nat.zero_add]
 have := rowL_get h.ln (n := n) (i := i.toNat) (k := fl) (by omega) hf
 rw [show ((i.toNat : Nat) : Int) = i by omega, hv] at this
 rw [hLoad_eq h.gp, sub_one this, xOs]
theorem app4 {x : List Value} (h : σ.get p = some ⟨rowL f n, true⟩) (hl : ∀ i, (f i).length = 4) (hn : n < 1000000) (hx : x.length = 4) (ho : x.all oneB = true) (hk : ∀ id τ, σ.get id = none → τ.get id = some ⟨rowL f n ++ x, true⟩ → Keep [p] σ τ → K (.slice (some ⟨id, 0, none⟩) (n + 1) 4) τ) :
  hAppendL 4 32 x [.slice (some ⟨p, 0, none⟩) n 4, locS l 1 4] K σ := by
 have hll := rowL_len hl n
 simp only [hAppendL, locS, app, h]
 rw [if_pos ⟨by decide, hx, ho⟩, if_pos ⟨trivial, trivial, by decide, by omega, by omega⟩, List.drop_zero]
 intro id hid
 have hne : id ≠ p := by rintro rfl; rw [h] at hid; cases hid
 refine hk id _ hid (by simp [Mem.del, Mem.set, hne]) fun i c hi hn' => ?_
 simp only [List.mem_cons, List.not_mem_nil, or_false] at hn'
 have : i ≠ id := by rintro rfl; rw [hid] at hi; cases hi
 simp [Mem.del, Mem.set, hn', this, hi]
theorem app7 {x : List Value} (h : σ.get p = some ⟨rowL f n, true⟩) (hl : ∀ i, (f i).length = 7) (hn : n < 1000000) (hx : x.length = 7) (ho : x.all oneB = true) (hk : ∀ id τ, σ.get id = none → τ.get id = some ⟨rowL f n ++ x, true⟩ → Keep [p] σ τ → K (.slice (some ⟨id, 0, none⟩) (n + 1) 7) τ) :
  hAppendL 7 56 x [.slice (some ⟨p, 0, none⟩) n 7, locS l 1 7] K σ := by
 have hll := rowL_len hl n
 simp only [hAppendL, locS, app, h]
 rw [if_pos ⟨by decide, hx, ho⟩, if_pos ⟨trivial, trivial, by decide, by omega, by omega⟩, List.drop_zero]
 intro id hid
 have hne : id ≠ p := by rintro rfl; rw [h] at hid; cases hid
 refine hk id _ hid (by simp [Mem.del, Mem.set, hne]) fun i c hi hn' => ?_
 simp only [List.mem_cons, List.not_mem_nil, or_false] at hn'
 have : i ≠ id := by rintro rfl; rw [hid] at hi; cases hi
 simp [Mem.del, Mem.set, hn', this, hi]
end
def WT (N : Nm) (p : Nat) (O : List Nat) (a : Aa) (τ : Mem) : Prop := ∃ O1 m q, O = p :: O1 ∧ a.wk = .ac m ∧ τ.get p = some ⟨a.l q, true⟩ ∧ AOb N q O1 m τ ∧ p ∉ O1 ∧ p ∉ N.l
theorem WT.hb : HB N (WT N) := by
 refine ⟨fun {p O L a σ τ} h x hL => ?_, fun {p O a σ} h i hi => ?_, fun {p O a σ} h => ?_, fun {p O a σ} h => ?_⟩
 ·obtain ⟨O1, m, q, rfl, e, g, ob, n1, n2⟩ := h
  exact ⟨O1, m, q, rfl, e, x.get g (hL p (List.mem_cons_self ..)), ob.keep x fun i hi => hL i (List.mem_cons_of_mem _ hi), n1, n2⟩
 ·obtain ⟨O1, m, q, rfl, e, g, ob, n1, n2⟩ := h
  rcases List.mem_cons.1 hi with rfl | hi
  ·exact n2
  ·exact ob.own i hi
 ·obtain ⟨O1, m, q, rfl, e, g, ob, n1, n2⟩ := h
  obtain ⟨O', a1, a2, a3⟩ := ob.min
  refine ⟨p :: O', ⟨O', m, q, rfl, e, g, a1, fun hi => n1 (a2 _ hi), n2⟩, fun i hi => ?_, fun i hi => ?_⟩
  ·rcases List.mem_cons.1 hi with rfl | hi
   ·exact List.mem_cons_self ..
   ·exact List.mem_cons_of_mem _ (a2 i hi)
  ·rcases List.mem_cons.1 hi with rfl | hi
   ·rw [g]; simp
   ·exact a3 i hi
 ·obtain ⟨O1, m, q, rfl, _⟩ := h; exact List.mem_cons_self ..
theorem WT.of {p : Nat} {O : List Nat} {a : Aa} {m : Ak} {τ : Mem} (h : TOb N p O a τ) (e : a.wk = .ac m) : WT N p (p :: O) a τ := by
 obtain ⟨⟨q, g, ob⟩, n1, n2⟩ := h
 rw [e] at ob
 exact ⟨O, m, q, rfl, e, g, ob, n1, n2⟩
theorem WT.to {p : Nat} {O : List Nat} {a : Aa} {τ : Mem} (h : WT N p O a τ) : ∃ O1, O = p :: O1 ∧ TOb N p O1 a τ := by
 obtain ⟨O1, m, q, rfl, e, g, ob, n1, n2⟩ := h
 exact ⟨O1, rfl, ⟨q, g, by rw [e]; exact ob⟩, n1, n2⟩
theorem Aa.step_ac {a : Aa} (h : ∃ m, a.wk = .ac m) : ∃ m, (a.step C who A).2.1.wk = .ac m := by
 obtain ⟨m, e⟩ := h
 have ws : (a.wk.step C who A).2.1 = .ac (m.step C who A).2.1 := by rw [e]; rfl
 unfold Aa.step
 (repeat' split) <;> first | exact ⟨m, e⟩ | exact ⟨_, ws⟩
theorem Hw.newO {α : Type} {W : Nat → List Nat → α → Mem → Prop} (hW : HB N W) {σ0 τ τ' : Mem} {L : Int → Prop} {i : Int} {P : Int → Nat} {O : Int → List Nat} {M : Int → α} {m : α} {p : Nat} {O1 : List Nat} (h : Hw N W σ0 L P O M τ) (hi : ¬ L i) (hO : ∀ x ∈ O1, τ.get x = none) (hob : W p O1 m τ') (x : Ext τ τ') :
  ∃ O2, Hw N W σ0 (fun k => L k ∨ k = i) (updX P i p) O2 (updX M i m) τ' ∧ ∀ l, ∀ y ∈ O2 l, l ≠ i ∧ y ∈ O l ∨ τ.get y = none := by
 obtain ⟨O', q1, q2, q3⟩ := hW.min hob
 have fr : ∀ y ∈ O', τ.get y = none := fun y hy => hO y (q2 y hy)
 have h' := h.more hW x
 have ne : ∀ k, L k → k ≠ i := fun k q e => hi (e ▸ q)
 have nx : ∀ k, L k → ∀ y ∈ O', y ∉ O k := fun k q y hy hk => h.al k q y hk (fr y hy)
 refine ⟨updX O i O', ⟨fun k q => ?_, fun k q y hy => ?_, fun a b qa qb hab y hy => ?_, fun k q y hy => ?_, h'.ext⟩, fun l y hy => ?_⟩
 ·by_cases e : k = i
  ·subst e; rw [updX_same, updX_same, updX_same]; exact q1
  ·rw [updX_ne e, updX_ne e, updX_ne e]; exact h'.ob k (by rcases q with q | q; exact q; exact absurd q e)
 ·by_cases e : k = i
  ·subst e; rw [updX_same] at hy; exact q3 y hy
  ·rw [updX_ne e] at hy; exact h'.al k (by rcases q with q | q; exact q; exact absurd q e) y hy
 ·by_cases e1 : a = i
  ·subst e1
   rw [updX_same] at hy
   rw [updX_ne (fun q => hab q.symm)]
   exact nx b (by rcases qb with q | q; exact q; exact absurd q.symm hab) y hy
  ·have qa' : L a := by rcases qa with q | q; exact q; exact absurd q e1
   rw [updX_ne e1] at hy
   by_cases e2 : b = i
   ·subst e2; rw [updX_same]; exact fun q => nx a qa' y q hy
   ·rw [updX_ne e2]; exact h.ap a b qa' (by rcases qb with q | q; exact q; exact absurd q e2) hab y hy
 ·by_cases e : k = i
  ·subst e; rw [updX_same] at hy; exact h.ext.none (fr y hy)
  ·rw [updX_ne e] at hy; exact h.fr k (by rcases q with q | q; exact q; exact absurd q e) y hy
 ·by_cases e : l = i
  ·subst e; rw [updX_same] at hy; exact .inr (fr y hy)
  ·rw [updX_ne e] at hy; exact .inl ⟨e, hy⟩
def ctn (f : Int → Bool) : Nat → Nat
 | 0 => 0
 | n + 1 => ctn f n + (if f n = true then 1 else 0)
theorem ctn_mono {f g : Int → Bool} : ∀ {n : Nat}, (∀ j : Int, 0 ≤ j → j < n → f j = true → g j = true) → ctn f n ≤ ctn g n
 | 0, _ => Nat.le_refl 0
 | n + 1, h => by
  have a := ctn_mono (n := n) fun j j0 j1 => h j j0 (by omega)
  have b := h n (by omega) (by omega)
  show ctn f n + _ ≤ ctn g n + _
  by_cases c : f n = true
  ·rw [if_pos c, if_pos (b c)]; omega
  ·rw [if_neg c]; split <;> omega
theorem ctn_congr {f g : Int → Bool} {n : Nat} (h : ∀ j : Int, 0 ≤ j → j < n → f j = g j) : ctn f n = ctn g n :=
 Nat.le_antisymm (ctn_mono fun j j0 j1 e => by rw [← h j j0 j1]; exact e) (ctn_mono fun j j0 j1 e => by rw [h j j0 j1]; exact e)
theorem ctn_lt {f g : Int → Bool} {i : Int} (hf : f i = false) (hg : g i = true) : ∀ {n : Nat}, 0 ≤ i → i < n → (∀ j : Int, 0 ≤ j → j < n → f j = true → g j = true) → ctn f n + 1 ≤ ctn g n
 | 0, i0, i1, _ => by omega
 | n + 1, i0, i1, h => by
  show ctn f n + _ + 1 ≤ ctn g n + _
  by_cases e : i = n
  ·have a := ctn_mono (n := n) fun j j0 j1 => h j j0 (by omega)
   subst e
   rw [if_neg (by rw [hf]; decide), if_pos hg]; omega
  ·have a := ctn_lt hf hg (n := n) i0 (by omega) fun j j0 j1 => h j j0 (by omega)
   have b := h n (by omega) (by omega)
   by_cases c : f n = true
   ·rw [if_pos c, if_pos (b c)]; omega
   ·rw [if_neg c]; split <;> omega
theorem ctn_off {f g : Int → Bool} {i : Int} (hf : f i = true) (hg : g i = false) : ∀ {n : Nat}, 0 ≤ i → i < n → (∀ j : Int, 0 ≤ j → j < n → j ≠ i → f j = g j) → ctn f n = ctn g n + 1
 | 0, i0, i1, _ => by omega
 | n + 1, i0, i1, h => by
  show ctn f n + _ = ctn g n + _ + 1
  by_cases e : i = n
  ·have a := ctn_congr (n := n) fun j j0 j1 => h j j0 (by omega) (by omega)
   subst e
   rw [if_pos hf, if_neg (by rw [hg]; decide)]; omega
  ·have a := ctn_off hf hg (n := n) i0 (by omega) fun j j0 j1 => h j j0 (by omega)
   rw [h n (by omega) (by omega) (fun q => e q.symm)]
   omega
theorem ctn_le {f : Int → Bool} : ∀ {n : Nat}, ctn f n ≤ n
 | 0 => Nat.le_refl 0
 | n + 1 => by have := ctn_le (f := f) (n := n); show ctn f n + _ ≤ n + 1; split <;> omega
theorem ctn_all {f : Int → Bool} : ∀ {n : Nat}, (∀ j : Int, 0 ≤ j → j < n → f j = true) → ctn f n = n
 | 0, _ => rfl
 | n + 1, h => by show ctn f n + _ = n + 1; rw [ctn_all (n := n) fun j j0 j1 => h j j0 (by omega), if_pos (h n (by omega) (by omega))]
theorem ctn_none {f : Int → Bool} : ∀ {n : Nat}, (∀ j : Int, 0 ≤ j → j < n → f j = false) → ctn f n = 0
 | 0, _ => rfl
 | n + 1, h => by show ctn f n + _ = 0; rw [ctn_none (n := n) fun j j0 j1 => h j j0 (by omega), if_neg (by rw [h n (by omega) (by omega)]; decide)]
theorem least_above (S : Int → Int) (t : Int) : ∀ {n : Nat}, (∃ j : Int, (0 ≤ j ∧ j < n) ∧ t < S j) → ∃ i : Int, (0 ≤ i ∧ i < n) ∧ t < S i ∧ ∀ j : Int, 0 ≤ j → j < n → t < S j → S i ≤ S j
 | 0, ⟨j, hj, _⟩ => by omega
 | n + 1, ⟨j, hj, hs⟩ => by
  by_cases e : ∃ j : Int, (0 ≤ j ∧ j < n) ∧ t < S j
  ·obtain ⟨i, i1, i2, i3⟩ := least_above S t e
   by_cases c : t < S n ∧ S n < S i
   ·refine ⟨n, ⟨by omega, by omega⟩, c.1, fun k k0 k1 hk => ?_⟩
    by_cases q : k = n
    ·rw [q]; exact Int.le_refl _
    ·have := i3 k k0 (by omega) hk; omega
   ·refine ⟨i, ⟨i1.1, by omega⟩, i2, fun k k0 k1 hk => ?_⟩
    by_cases q : k = n
    ·rw [q] at hk ⊢; omega
    ·exact i3 k k0 (by omega) hk
  ·refine ⟨j, ⟨hj.1, hj.2⟩, hs, fun k k0 k1 hk => ?_⟩
   by_cases q : k = j
   ·rw [q]; exact Int.le_refl _
   ·by_cases q1 : k = n
    ·by_cases q2 : j = n
     ·omega
     ·exact absurd ⟨j, ⟨hj.1, by omega⟩, hs⟩ e
    ·exact absurd ⟨k, ⟨k0, by omega⟩, hk⟩ e
def ahead (S : Int → Int) (n : Nat) (i : Int) : Nat := ctn (fun k => decide (S k < S i)) n
structure Ord (hv : Int → Int) (S : Int → Int) (n : Nat) (s0 s : Int) (m : Nat) (val t : Int) : Prop where
 tb : s0 ≤ t ∧ t ≤ s
 c : ctn (fun k => decide (S k ≤ t)) n = m
 v : val = hv t
theorem Ord.next {n a W e0 s0 bb : Int} {M : Int → Aa} {Q : Int → Ax} {k m : Nat} {F : Int → Fi} {hv : Int → Int} {val t : Int} {L : Int → Bool} (h : AM C n a W e0 s0 bb L M Q k F hv A) (hL : ∀ l, ¬ On3 L l) (o : Ord hv (fun i => (F i).S) k s0 A.s m val t) (hm : m < k) :
  ∃ i : Int, (0 ≤ i ∧ i < k) ∧ (∀ j : Int, 0 ≤ j → j < k → (ahead (fun i => (F i).S) k j = m ↔ j = i)) ∧ (F i).V = val ∧ Ord hv (fun i => (F i).S) k s0 A.s (m + 1) (hv (F i).S) (F i).S := by
 have hex : ∃ j : Int, (0 ≤ j ∧ j < k) ∧ t < (F j).S := by
  apply Classical.byContradiction
  intro hn
  have : ctn (fun i => decide ((F i).S ≤ t)) k = k := ctn_all fun j j0 j1 => decide_eq_true (by
   by_cases c : t < (F j).S
   ·exact absurd ⟨j, ⟨j0, j1⟩, c⟩ hn
   ·omega)
  have := o.c
  omega
 obtain ⟨i, i1, i2, i3⟩ := least_above (fun i => (F i).S) t hex
 have hi := h.fi i i1.1 i1.2
 have eq1 : ahead (fun i => (F i).S) k i = m := by
  rw [← o.c]
  exact ctn_congr fun j j0 j1 => decide_eq_decide.2 ⟨fun q => by
   by_cases c : t < (F j).S
   ·have := i3 j j0 j1 c; have q' : (F j).S < (F i).S := q; have this' : (F i).S ≤ (F j).S := this; omega
   ·show (F j).S ≤ t; omega, fun q => by show (F j).S < (F i).S; have q' : (F j).S ≤ t := q; have i2' : t < (F i).S := i2; omega⟩
 have const : ∀ d : Nat, t + d < (F i).S → hv (t + d) = hv t := fun d => by
  induction d with
  | zero => intro _; rw [show t + ((0 : Nat) : Int) = t by omega]
  | succ d ih =>
   intro hd
   have a1 := ih (by omega)
   apply Classical.byContradiction
   intro hne
   have e1 : t + ((d + 1 : Nat) : Int) - 1 = t + d := by omega
   have tb := o.tb
   rcases h.ch (t + ((d + 1 : Nat) : Int)) (by omega) (by have := hi.sb; omega) (by rw [e1, a1]; exact hne) with ⟨j, j1, j2⟩ | ⟨l, hl, _⟩
   ·have := i3 j j1.1 j1.2 (by show t < (F j).S; omega)
    have this' : (F i).S ≤ (F j).S := this
    omega
   ·exact absurd hl (hL l)
 refine ⟨i, i1, fun j j0 j1 => ⟨fun e => ?_, fun e => by rw [e]; exact eq1⟩, ?_, ⟨⟨by have := hi.sb; omega, hi.sb.2⟩, ?_, rfl⟩⟩
 ·apply Classical.byContradiction
  intro ne
  have dd := h.d1 j i j0 j1 i1.1 i1.2 ne
  by_cases c : (F j).S < (F i).S
  ·have : ctn (fun k => decide ((F k).S < (F j).S)) k + 1 ≤ ctn (fun k => decide ((F k).S ≤ t)) k := ctn_lt (i := j) (decide_eq_false (by omega)) (decide_eq_true (by
    by_cases q : t < (F j).S
    ·have := i3 j j0 j1 q; have this' : (F i).S ≤ (F j).S := this; omega
    ·omega)) j0 j1 fun l l0 l1 q => decide_eq_true (by
    have q' := of_decide_eq_true q
    by_cases z : t < (F l).S
    ·have := i3 l l0 l1 z; have this' : (F i).S ≤ (F l).S := this; omega
    ·omega)
   have e' : ctn (fun k => decide ((F k).S < (F j).S)) k = m := e
   have := o.c
   omega
  ·have : ctn (fun k => decide ((F k).S < (F i).S)) k + 1 ≤ ctn (fun k => decide ((F k).S < (F j).S)) k := ctn_lt (i := i) (decide_eq_false (by omega)) (decide_eq_true (by omega)) i1.1 i1.2 fun l l0 l1 q => decide_eq_true (by have q' := of_decide_eq_true q; omega)
   have e' : ctn (fun k => decide ((F k).S < (F j).S)) k = m := e
   have e2 : ctn (fun k => decide ((F k).S < (F i).S)) k = m := eq1
   omega
 ·rw [hi.v, o.v]
  have := const ((F i).S - 1 - t).toNat (by have i2' : t < (F i).S := i2; omega)
  have i2' : t < (F i).S := i2
  rw [show t + (((F i).S - 1 - t).toNat : Int) = (F i).S - 1 by omega] at this
  exact this
 ·have := ctn_off (f := fun k => decide ((F k).S ≤ (F i).S)) (g := fun k => decide ((F k).S ≤ t)) (i := i) (decide_eq_true (Int.le_refl _)) (decide_eq_false (by have i2' : t < (F i).S := i2; omega)) i1.1 i1.2 fun j j0 j1 ne => decide_eq_decide.2 ⟨fun q => by
   by_cases c : t < (F j).S
   ·have := i3 j j0 j1 c
    have this' : (F i).S ≤ (F j).S := this
    exact absurd (by omega) (h.d1 j i j0 j1 i1.1 i1.2 ne)
   ·omega, fun q => by have i2' : t < (F i).S := i2; omega⟩
  rw [this, o.c]
end Go.Fl
namespace Go.Fl
open Go
set_option linter.unusedVariables false
set_option linter.unusedSimpArgs false
variable {C : Cf} {A : Ar} {who : Int}
def t3 (f : Int → Int) : Int := f 0 + f 1 + f 2
theorem t3_off {f g : Int → Int} {i : Int} (i0 : 0 ≤ i) (i1 : i < 3) (h : ∀ j, 0 ≤ j → j < 3 → j ≠ i → g j = f j) : t3 g = t3 f - f i + g i := by
 unfold t3
 rcases (show i = 0 ∨ i = 1 ∨ i = 2 by omega) with rfl | rfl | rfl
 ·rw [h 1, h 2] <;> omega
 ·rw [h 0, h 2] <;> omega
 ·rw [h 0, h 1] <;> omega
theorem t3_le {f g : Int → Int} {i d : Int} (i0 : 0 ≤ i) (i1 : i < 3) (d0 : 0 ≤ d) (h : ∀ j, 0 ≤ j → j < 3 → j ≠ i → g j ≤ f j + d) : t3 g ≤ t3 f - f i + g i + 2 * d := by
 unfold t3
 rcases (show i = 0 ∨ i = 1 ∨ i = 2 by omega) with rfl | rfl | rfl
 ·have := h 1 (by decide) (by decide) (by decide); have := h 2 (by decide) (by decide) (by decide); omega
 ·have := h 0 (by decide) (by decide) (by decide); have := h 2 (by decide) (by decide) (by decide); omega
 ·have := h 0 (by decide) (by decide) (by decide); have := h 1 (by decide) (by decide) (by decide); omega
theorem t3_ge {f : Int → Int} {i : Int} (i0 : 0 ≤ i) (i1 : i < 3) (h : ∀ j, 0 ≤ f j) : f i ≤ t3 f := by
 unfold t3
 have := h 0; have := h 1; have := h 2
 rcases (show i = 0 ∨ i = 1 ∨ i = 2 by omega) with rfl | rfl | rfl <;> omega
def cB (L : Int → Bool) (j : Int) : Int := if L j = true then 1 else 0
def uB (L : Int → Bool) (M : Int → Aa) (j : Int) : Int := if L j = true ∧ (M j).pc ≤ 1 then 4 else 0
def gB (now : Int) (L : Int → Bool) (M : Int → Aa) (j : Int) : Int := if L j = true then bA now (M j) + 2 * uB L M j else 0
theorem uB_bd {L : Int → Bool} {M : Int → Aa} (j : Int) : 0 ≤ uB L M j ∧ uB L M j ≤ 4 := by unfold uB; split <;> omega
structure Bud (cap len2 en now : Int) (L : Int → Bool) (M : Int → Aa) (n : Nat) (nx i : Int) : Prop where
 nb : 0 ≤ nx ∧ nx ≤ cap
 cn : (n : Int) + t3 (cB L) ≤ nx
 p1 : nx = cap ∨ len2 ≤ i ∨ t3 (gB now L M) + 16 * (cap - nx) + i ≤ 640
 p2 : en - 400 ≤ i → ∀ k, On3 L k → bA now (M k) + t3 (uB L M) - uB L M k ≤ (en + 2 - k) / 3 - (i + 2 - k) / 3
structure Bds (cap len2 en : Int) : Prop where
 c : cap ≤ 40
 l : 0 ≤ len2
 e : en = len2 + 400 ∧ en ≤ 1500 ∨ en = 1500 ∧ 1100 ≤ len2
section
variable {cap len2 en now now' nx i k : Int} {L L' : Int → Bool} {M M' : Int → Aa} {n n' : Nat}
theorem Bud.g0 (hB : ∀ j, On3 L j → 1 ≤ bA now (M j) ∧ bA now (M j) ≤ 8) : 0 ≤ t3 (gB now L M) := by
 have : ∀ j, 0 ≤ j → j < 3 → 0 ≤ gB now L M j := fun j j0 j1 => by
  unfold gB
  by_cases e : L j = true
  ·rw [if_pos e]; have := hB j ⟨⟨j0, j1⟩, e⟩; have := uB_bd (L := L) (M := M) j; omega
  ·rw [if_neg e]; exact Int.le_refl 0
 have a0 := this 0 (by decide) (by decide); have a1 := this 1 (by decide) (by decide); have a2 := this 2 (by decide) (by decide)
 unfold t3; omega
theorem Bud.far (hb : Bds cap len2 en) (j0 : 0 ≤ k) (j1 : k < 3) (hi : i + 1 = en - 400) {x : Int} (hx : x ≤ 16) : x ≤ (en + 2 - k) / 3 - (i + 1 + 2 - k) / 3 := by
 omega
theorem Bud.skip (h : Bud cap len2 en now L M n nx i) (hb : Bds cap len2 en) (hB : ∀ j, On3 L j → 1 ≤ bA now (M j) ∧ bA now (M j) ≤ 8) (hL : L k = false) (hk : len2 ≤ i ∨ 1000 ≤ i → k = i % 3) (hn : nx = cap ∨ len2 ≤ i) : Bud cap len2 en now L M n nx (i + 1) := by
 refine ⟨h.nb, h.cn, by rcases hn with q | q; exact .inl q; exact .inr (.inl (by omega)), fun he j hj => ?_⟩
 have hbd := hB j hj
 have hj1 := hj.1
 have u0 := uB_bd (L := L) (M := M) 0; have u1 := uB_bd (L := L) (M := M) 1; have u2 := uB_bd (L := L) (M := M) 2
 by_cases q : en - 400 ≤ i
 ·have := h.p2 q j hj
  have hq := hk (by rcases hb.e with e | e <;> omega)
  have : j ≠ k := fun e => by have := hj.2; rw [e, hL] at this; cases this
  omega
 ·refine Bud.far hb hj1.1 hj1.2 (by omega) ?_
  have : t3 (uB L M) - uB L M j ≤ 8 := by
   unfold t3
   rcases (show j = 0 ∨ j = 1 ∨ j = 2 by omega) with rfl | rfl | rfl <;> omega
  omega
theorem Bud.new (h : Bud cap len2 en now L M n nx i) (hb : Bds cap len2 en) (hB : ∀ j, On3 L j → 1 ≤ bA now (M j) ∧ bA now (M j) ≤ 8) (k0 : 0 ≤ k) (k1 : k < 3) (hL : L k = false) (hn : nx < cap) (hi : i < len2) {a' : Aa} (hp : a'.pc = 0) (hip : a'.ip = 0) : Bud cap len2 en now (updX L k true) (updX M k a') n (nx + 1) i := by
 have g0 := Bud.g0 hB
 have hnb := h.nb
 have c1 := t3_off (f := cB L) (g := cB (updX L k true)) k0 k1 fun j _ _ ne => by unfold cB; rw [updX_ne ne]
 have e1 : cB L k = 0 := by unfold cB; rw [hL]; rfl
 have e2 : cB (updX L k true) k = 1 := by unfold cB; rw [updX_same]; rfl
 have hcn := h.cn
 have c2 := t3_off (f := gB now L M) (g := gB now (updX L k true) (updX M k a')) k0 k1 fun j _ _ ne => by unfold gB uB; rw [updX_ne ne, updX_ne ne]
 have e3 : gB now L M k = 0 := by unfold gB; rw [hL]; rfl
 have e4 : gB now (updX L k true) (updX M k a') k = 16 := by unfold gB uB; rw [updX_same, updX_same, if_pos rfl, if_pos ⟨rfl, by omega⟩, bA0 hp, hip]; rfl
 have hp1 := h.p1
 refine ⟨⟨by omega, by omega⟩, by omega, ?_, fun he => ?_⟩
 ·rcases hp1 with q | q | q
  ·omega
  ·omega
  ·exact .inr (.inr (by omega))
 ·exfalso
  rcases hb.e with e | e
  ·omega
  ·rcases hp1 with q | q | q <;> omega
theorem Bud.go (h : Bud cap len2 en now L M n nx i) (hb : Bds cap len2 en) (hB' : ∀ j, On3 L' j → 1 ≤ bA now' (M' j) ∧ bA now' (M' j) ≤ 8) (hk : len2 ≤ i ∨ 1000 ≤ i → k = i % 3) (cn' : (n' : Int) + t3 (cB L') ≤ n + t3 (cB L)) (gs : t3 (gB now' L' M') + 1 ≤ t3 (gB now L M))
  (pt : ∀ j, On3 L' j → On3 L j ∧ bA now' (M' j) + t3 (uB L' M') - uB L' M' j + (if j = k then 1 else 0) ≤ bA now (M j) + t3 (uB L M) - uB L M j) : Bud cap len2 en now' L' M' n' nx (i + 1) := by
 have hp1 := h.p1
 have hcn := h.cn
 refine ⟨h.nb, by omega, by rcases hp1 with q | q | q; exact .inl q; exact .inr (.inl (by omega)); exact .inr (.inr (by omega)), fun he j hj => ?_⟩
 have hbd := hB' j hj
 have hj1 := hj.1
 have u0 := uB_bd (L := L') (M := M') 0; have u1 := uB_bd (L := L') (M := M') 1; have u2 := uB_bd (L := L') (M := M') 2
 by_cases q : en - 400 ≤ i
 ·obtain ⟨p0, p1⟩ := pt j hj
  have := h.p2 q j p0
  have hq := hk (by rcases hb.e with e | e <;> omega)
  by_cases e : j = k
  ·rw [if_pos e] at p1; omega
  ·rw [if_neg e] at p1; omega
 ·refine Bud.far hb hj1.1 hj1.2 (by omega) ?_
  have : t3 (uB L' M') - uB L' M' j ≤ 8 := by
   unfold t3
   rcases (show j = 0 ∨ j = 1 ∨ j = 2 by omega) with rfl | rfl | rfl <;> omega
  omega
theorem Bud.end (h : Bud cap len2 en now L M n nx en) (hB : ∀ j, On3 L j → 1 ≤ bA now (M j) ∧ bA now (M j) ≤ 8) : ∀ j, ¬ On3 L j := fun j hj => by
 have := h.p2 (by omega) j hj
 have b := hB j hj
 have u := t3_ge hj.1.1 hj.1.2 fun j => (uB_bd (L := L) (M := M) j).1
 omega
theorem AM.bB {n a W e0 s0 bb : Int} {Q : Int → Ax} {N : Nat} {F : Int → Fi} {hv : Int → Int} (h : AM C n a W e0 s0 bb L M Q N F hv A) : ∀ j, On3 L j → 1 ≤ bA now (M j) ∧ bA now (M j) ≤ 8 := fun j hj => (h.th j hj).b
theorem Bud.step {nn a W e0 s0 bb : Int} {Q : Int → Ax} {F : Int → Fi} {hv : Int → Int} (h : Bud cap len2 en (A.w (a + 1)) L M n nx i) (hb : Bds cap len2 en) (hM : AM C nn a W e0 s0 bb L M Q n F hv A) (hk : On3 L k) (hq : len2 ≤ i ∨ 1000 ≤ i → k = i % 3) {r : Bool × Aa × Ar} (hr : StpR C nn a W e0 s0 bb L M Q n F A k r) :
  (r.1 = false ∧ ∃ hv', AM C nn a W e0 s0 (bb + 1) L (updX M k r.2.1) Q n F hv' r.2.2 ∧ Bud cap len2 en (r.2.2.w (a + 1)) L (updX M k r.2.1) n nx (i + 1)) ∨
  (r.1 = true ∧ (M k).pc = 2 ∧ r.2.1 = M k ∧ ∃ hv', AM C nn a W e0 s0 (bb + 1) (updX L k false) M Q (n + 1) (fun i => if i = n then ⟨Q k, (M k).oE, (M k).oV, (M k).oS⟩ else F i) hv' r.2.2 ∧ Bud cap len2 en (r.2.2.w (a + 1)) (updX L k false) M (n + 1) nx (i + 1)) := by
 have hk1 := hk.1
 have hB := hM.bB (now := A.w (a + 1))
 cases hr with
 | on hr hv' h' hb' hw hp =>
  refine .inl ⟨hr, hv', h', ?_⟩
  have uk : uB L (updX M k r.2.1) k ≤ uB L M k := by
   unfold uB
   rw [updX_same]
   by_cases e : L k = true ∧ r.2.1.pc ≤ 1
   ·rw [if_pos e, if_pos ⟨e.1, by rcases hp with q | q <;> omega⟩]; exact Int.le_refl _
   ·rw [if_neg e]; split <;> omega
  have uo : ∀ j, j ≠ k → uB L (updX M k r.2.1) j = uB L M j := fun j ne => by unfold uB; rw [updX_ne ne]
  have us := t3_off (f := uB L M) (g := uB L (updX M k r.2.1)) hk1.1 hk1.2 fun j _ _ ne => uo j ne
  have gs := t3_off (f := gB (A.w (a + 1)) L M) (g := gB (r.2.2.w (a + 1)) L (updX M k r.2.1)) hk1.1 hk1.2 fun j _ _ ne => by unfold gB; rw [uo j ne, updX_ne ne, hw]
  have gk : gB (A.w (a + 1)) L M k = bA (A.w (a + 1)) (M k) + 2 * uB L M k := by unfold gB; rw [if_pos hk.2]
  have gk' : gB (r.2.2.w (a + 1)) L (updX M k r.2.1) k = bA (r.2.2.w (a + 1)) r.2.1 + 2 * uB L (updX M k r.2.1) k := by unfold gB; rw [if_pos hk.2, updX_same]
  refine h.go hb h'.bB hq (Int.le_refl _) (by omega) fun j hj => ⟨hj, ?_⟩
  by_cases e : j = k
  ·rw [if_pos e, e, updX_same]; omega
  ·rw [if_neg e, updX_ne e, uo j e, hw]; omega
 | lay hr hv' h' hb' hp hp' =>
  refine .inl ⟨hr, hv', h', ?_⟩
  have uk : uB L M k = 4 := by unfold uB; exact if_pos ⟨hk.2, by omega⟩
  have uk' : uB L (updX M k r.2.1) k = 0 := by unfold uB; rw [updX_same]; exact if_neg (fun x => by omega)
  have uo : ∀ j, j ≠ k → uB L (updX M k r.2.1) j = uB L M j := fun j ne => by unfold uB; rw [updX_ne ne]
  have us := t3_off (f := uB L M) (g := uB L (updX M k r.2.1)) hk1.1 hk1.2 fun j _ _ ne => uo j ne
  have bo : ∀ j, On3 L j → j ≠ k → bA (r.2.2.w (a + 1)) (M j) ≤ bA (A.w (a + 1)) (M j) + 4 := fun j hj ne => by
   have := bA_now (now := A.w (a + 1)) (now' := r.2.2.w (a + 1)) (hM.th j hj)
   have z : (if (M j).pc ≤ 1 then (4 : Int) else 0) ≤ 4 := by split <;> omega
   omega
  have gs := t3_le (f := gB (A.w (a + 1)) L M) (g := gB (r.2.2.w (a + 1)) L (updX M k r.2.1)) (d := 4) hk1.1 hk1.2 (by decide) fun j j0 j1 ne => by
   unfold gB
   rw [uo j ne, updX_ne ne]
   by_cases e : L j = true
   ·rw [if_pos e, if_pos e]; have := bo j ⟨⟨j0, j1⟩, e⟩ ne; omega
   ·rw [if_neg e, if_neg e]; decide
  have gk : gB (A.w (a + 1)) L M k = bA (A.w (a + 1)) (M k) + 2 * uB L M k := by unfold gB; rw [if_pos hk.2]
  have gk' : gB (r.2.2.w (a + 1)) L (updX M k r.2.1) k = bA (r.2.2.w (a + 1)) r.2.1 + 2 * uB L (updX M k r.2.1) k := by unfold gB; rw [if_pos hk.2, updX_same]
  refine h.go hb h'.bB hq (Int.le_refl _) (by omega) fun j hj => ⟨hj, ?_⟩
  by_cases e : j = k
  ·rw [if_pos e, e, updX_same]; omega
  ·have := bo j hj e
   rw [if_neg e, updX_ne e, uo j e]; omega
 | fin hr hv' hp ha h' hw =>
  refine .inr ⟨hr, hp, ha, hv', h', ?_⟩
  have on : ∀ l, On3 (updX L k false) l → On3 L l ∧ l ≠ k := fun l hl => by
   by_cases e : l = k
   ·have := hl.2; rw [e, updX_same] at this; cases this
   ·have := hl.2; rw [updX_ne e] at this; exact ⟨⟨hl.1, this⟩, e⟩
  have uk : uB L M k = 0 := by unfold uB; exact if_neg (fun x => by omega)
  have uk' : uB (updX L k false) M k = 0 := by unfold uB; rw [updX_same]; exact if_neg (fun x => by cases x.1)
  have uo : ∀ j, j ≠ k → uB (updX L k false) M j = uB L M j := fun j ne => by unfold uB; rw [updX_ne ne]
  have us := t3_off (f := uB L M) (g := uB (updX L k false) M) hk1.1 hk1.2 fun j _ _ ne => uo j ne
  have gs := t3_off (f := gB (A.w (a + 1)) L M) (g := gB (r.2.2.w (a + 1)) (updX L k false) M) hk1.1 hk1.2 fun j _ _ ne => by unfold gB; rw [uo j ne, updX_ne ne, hw]
  have gk : gB (A.w (a + 1)) L M k = 1 + 2 * uB L M k := by unfold gB; rw [if_pos hk.2, bA2 hp]
  have gk' : gB (r.2.2.w (a + 1)) (updX L k false) M k = 0 := by unfold gB; rw [updX_same]; rfl
  have cs := t3_off (f := cB L) (g := cB (updX L k false)) hk1.1 hk1.2 fun j _ _ ne => by unfold cB; rw [updX_ne ne]
  have c1 : cB L k = 1 := by unfold cB; rw [if_pos hk.2]
  have c2 : cB (updX L k false) k = 0 := by unfold cB; rw [updX_same]; rfl
  refine h.go hb h'.bB hq (by omega) (by omega) fun j hj => ⟨(on j hj).1, ?_⟩
  have ne := (on j hj).2
  rw [if_neg ne, uo j ne, hw]; omega
end
end Go.Fl
namespace Go.Fl
open Go
set_option linter.unusedVariables false
set_option linter.unusedSimpArgs false
variable {N : Nm} {A B : Ar} {σ : Mem} {K : Value → Mem → Prop} {C : Cf} {who : Int}
theorem ArgS.fld {es f : Nat} {s : Value} {n : Nat} {cs : List Value} (h : ArgS es σ s n cs) {i : Int} (h0 : 0 ≤ i) (h1 : i < n) (hf : f < es) {v : Value} (hv : cs[i.toNat * es + f]? = some v) {kd : IntKind} :
  (xF (fIxS es) [s, .int kd i] fun v => xF (fFld f) [v] fun v' => hLoad 1 false [v'] K σ) = K v σ := by
 obtain ⟨l, a, c, rfl, h⟩ := h
 obtain ⟨b, rw, rfl, h'⟩ := h (by omega)
 rw [xIxS h0 h1, xFld]
 simp only [Nat.zero_add]
 rw [hLoad_eq h', sub_one hv, xOs]
end Go.Fl
namespace Go.Fl
open Go
set_option linter.unusedVariables false
set_option linter.unusedSimpArgs false
variable {N : Nm} {A B : Ar} {σ : Mem} {K : Value → Mem → Prop} {C : Cf} {who : Int}
def Do.rm (d : Do) : Int := roomOf (classOf d.z)
def part (dd : Int → Do) (li : Int → Bool) (j : Int) : Int → Int := fun k => if li k = true ∧ (dd k).j = j then (dd k).rm else 0
end Go.Fl
namespace Go.Fl
open Go
set_option linter.unusedVariables false
set_option linter.unusedSimpArgs false
variable {N : Nm} {A B : Ar} {σ : Mem} {K : Value → Mem → Prop} {C : Cf} {who : Int}
theorem Ph.ck (hC : C.ok) {o u : Int → Int} {nx c k : Int} {p : Pl} (c0 : 0 ≤ c) (c3 : c ≤ 3) (h : Ph C o u nx c k p A.w) {j : Int} (j0 : 0 ≤ j) (j1 : j < nx) : chC ((p.step C who A).2.2.w (C.chunk j)) = chC (A.w (C.chunk j)) := by
 have hT := hC.T; have hS := hC.S
 have ld : ∀ a, ((A.by who).load a).w = A.w := fun _ => rfl
 obtain ⟨_, hcl, h⟩ := h
 by_cases p0 : p.pc = 0
 ·have e : (p.step C who A).2.2 = (A.by who).load (2 + p.cls) := by unfold Pl.step; rw [if_pos p0]
  rw [e, ld]
 by_cases p1 : p.pc = 1
 ·have e : (p.step C who A).2.2 = (A.by who).load (C.chunk p.at') := by unfold Pl.step; rw [if_neg p0, if_pos p1]
  rw [e, ld]
 by_cases p3 : p.pc = 3
 ·have e : (p.step C who A).2.2 = (A.by who).load (C.chunk p.at') := by unfold Pl.step; rw [if_neg p0, if_neg p1, if_neg (by omega), if_pos p3]; dsimp only; split <;> rfl
  rw [e, ld]
 by_cases p2 : p.pc = 2
 ·have e : (p.step C who A).2.2 = (A.by who).cas (C.chunk p.at') p.w (putChunk (chS p.w) (chC p.w) (chU p.w + roomOf p.cls) (chN p.w)) := by unfold Pl.step; rw [if_neg p0, if_neg p1, if_pos p2]
  rw [e]
  by_cases q : A.w (C.chunk p.at') = p.w
  ·rw [cas_yes (by exact q)]
   show chC (upd A.w (C.chunk p.at') _ (C.chunk j)) = _
   by_cases e : C.chunk j = C.chunk p.at'
   ·rw [e, upd_same, q]
    unfold putChunk chC cl
    have := chS_bd p.w
    unfold chS at *
    omega
   ·rw [upd_ne _ _ e]
  ·rw [cas_no (by exact q)]; rfl
 by_cases p4 : p.pc = 4
 ·have e : (p.step C who A).2.2 = (A.by who).cas (C.chunk p.at') p.w p.fresh := by unfold Pl.step; rw [if_neg p0, if_neg p1, if_neg p2, if_neg p3, if_pos p4]; split <;> rfl
  have hat : p.at' = nx := by
   rcases h with ⟨_, h⟩ | ⟨_, ⟨_, h⟩ | h⟩ <;> omega
  rw [e]
  by_cases q : A.w (C.chunk p.at') = p.w
  ·rw [cas_yes (by exact q)]
   show chC (upd A.w (C.chunk p.at') _ (C.chunk j)) = _
   rw [upd_ne _ _ fun e => by have := chunk_inj e; omega]
  ·rw [cas_no (by exact q)]; rfl
 have p5 : p.pc = 5 := by
  rcases h with ⟨_, h⟩ | ⟨_, ⟨_, h⟩ | h⟩ <;> omega
 have e : (p.step C who A).2.2 = (A.by who).cas (2 + p.cls) p.opn (p.at' + 1) := by unfold Pl.step; rw [if_neg p0, if_neg p1, if_neg p2, if_neg p3, if_neg p4, if_pos p5]
 rw [e]
 by_cases q : A.w (2 + p.cls) = p.opn
 ·rw [cas_yes (by exact q)]
  show chC (upd A.w (2 + p.cls) _ (C.chunk j)) = _
  rw [upd_ne _ _ (by unfold Cf.chunk; omega)]
 ·rw [cas_no (by exact q)]; rfl
theorem Mkr.ck (hC : C.ok) {b : Bg} {size bb k : Int} {own : Bool} {A0 : Ar} {m : Am} (h : Mkr C b size own A0 bb k m A) (hb : bb < 2305843009213693952) (hAw : b.aw C A0.w) (hlv : b.lvok C) (hcl : 0 ≤ classOf size) (k0 : 0 ≤ k) {j : Int} (j0 : 0 ≤ j) (j1 : j < b.nx) :
  chC ((m.step C who A).2.2.w (C.chunk j)) = chC (A.w (C.chunk j)) := by
 have hT := hC.T; have hS := hC.S; have hCC := hC.C
 have hcl3 := (class_bd size).2
 obtain ⟨⟨⟨a, ht⟩, _⟩, _⟩ := h.step (who := who) hC hb hAw hlv hcl k0
 have hnx := hAw.alo.bd
 by_cases c2 : m.a.pc = 2
 ·have hp : ∃ kk, Ph C b.o b.u b.nx (classOf size) kk m.t A.w := by
   rcases h.ph with q | ⟨s, F, hF, q | ⟨kk, q, _⟩ | ⟨jj, b', _, hs, _, q⟩ | ⟨_, _, _, _, _, _, kk, q, _⟩⟩
   ·have := q.2.2.2.1; omega
   ·omega
   ·exact ⟨kk, q.2.2.2.2.1⟩
   ·rcases q with q | q
    ·omega
    ·rcases q.2 with q | ⟨_, q | q⟩ <;> omega
   ·have := q.1; omega
  obtain ⟨kk, hp⟩ := hp
  have e : (m.step C who A).2.2 = (m.t.step C who A).2.2 := by
   unfold Am.step
   rw [if_neg (by omega), if_neg (by omega), if_pos c2]
   dsimp only
   (repeat' split) <;> rfl
  rw [e]
  exact hp.ck hC hcl hcl3 j0 j1
 by_cases c1 : m.a.pc = 1
 ·rcases ht.kind with ⟨q, _⟩ | ⟨_, _, q⟩ | ⟨q, _⟩ | ⟨q, _⟩ | ⟨q, _⟩ | ⟨q, _⟩
  ·rcases q with q | q <;> (rw [c1] at q; exact absurd q (by decide))
  ·rw [q]
  all_goals omega
 have hne : C.chunk j ≠ a := by
  have hck := C.chunk j
  rcases ht.kind with ⟨_, q | ⟨s, s0, s1, q⟩⟩ | ⟨q, _⟩ | ⟨q, _⟩ | ⟨q, q'⟩ | ⟨q, q'⟩ | ⟨q, q'⟩
  ·unfold Cf.chunk; omega
  ·unfold Cf.slot at q; unfold Cf.chunk; omega
  ·omega
  ·omega
  ·unfold Cf.chunk at *; omega
  ·obtain ⟨s, F, jj, _, _, q1, q2, q3, q4⟩ := h.ph.spot hC hAw.alo hcl hcl3 (by omega) (by omega)
   have := base_ge hC q2.1 q2.2 q3
   unfold Cf.chunk; omega
  ·obtain ⟨s, F, jj, hF, q0, q1, q2, q3, q4⟩ := h.ph.spot hC hAw.alo hcl hcl3 (by omega) (by omega)
   have hm := hAw.fre.c.mem s (by rw [hF]; simp)
   unfold Cf.slot at q'; unfold Cf.chunk; omega
 rw [ht.w _ hne]
def lowW (C : Cf) (i : Int) : Prop := i = 0 ∨ 6 ≤ i ∧ i < 6 + C.T
theorem Mkr.lo (hC : C.ok) {b : Bg} {size bb k : Int} {own : Bool} {A0 : Ar} {m : Am} (h : Mkr C b size own A0 bb k m A) (hb : bb < 2305843009213693952) (hAw : b.aw C A0.w) (hlv : b.lvok C) (hcl : 0 ≤ classOf size) (k0 : 0 ≤ k) {i : Int} (hi : lowW C i) : (m.step C who A).2.2.w i = A.w i := by
 have hT := hC.T; have hS := hC.S; have hCC := hC.C
 have hcl3 := (class_bd size).2
 obtain ⟨⟨⟨a, ht⟩, _⟩, _⟩ := h.step (who := who) hC hb hAw hlv hcl k0
 have hft := h.fit hC hAw hcl
 have hi' : i = 0 ∨ 6 ≤ i ∧ i < 6 + C.T := hi
 have sp : 3 ≤ m.a.pc → m.a.pc ≤ 6 → (0 ≤ m.a.at' ∧ m.a.at' < C.S) ∧ 6 + C.T + 2 * C.S + 3 * C.C ≤ m.a.sa := fun q1 q2 => by
  obtain ⟨s, F, jj, hF, q0, q1, q2, q3, q4⟩ := h.ph.spot hC hAw.alo hcl hcl3 q1 q2
  have hm := hAw.fre.c.mem s (by rw [hF]; simp)
  have := base_ge hC q2.1 q2.2 q3
  omega
 by_cases c1 : m.a.pc = 1
 ·rcases ht.kind with ⟨q, _⟩ | ⟨_, _, q⟩ | ⟨q, _⟩ | ⟨q, _⟩ | ⟨q, _⟩ | ⟨q, _⟩
  ·rcases q with q | q <;> (rw [c1] at q; exact absurd q (by decide))
  ·rw [q]
  all_goals omega
 refine ht.w _ ?_
 rcases ht.kind with ⟨_, q | ⟨s, s0, s1, q⟩⟩ | ⟨q, _⟩ | ⟨q, q'⟩ | ⟨q, q'⟩ | ⟨q, q'⟩ | ⟨q, q'⟩
 ·omega
 ·unfold Cf.slot at q; omega
 ·omega
 ·have hf2 := (hft.pl q).1
  rcases q' with q' | q'
  ·have := hf2.cls; omega
  ·have := hf2.at'; unfold Cf.chunk at q'; omega
 ·have hsc := (hft.spot (by omega) (by omega)).1
  unfold Cf.chunk at q'; omega
 ·have := (sp (by omega) (by omega)).2; omega
 ·have := (sp (by omega) (by omega)).1; unfold Cf.slot at q'; omega
end Go.Fl
namespace Go.Fl
open Go
set_option linter.unusedVariables false
set_option linter.unusedSimpArgs false
variable {N : Nm} {A B : Ar} {σ : Mem} {K : Value → Mem → Prop} {C : Cf} {who : Int}
theorem Frsh.low (hC : C.ok) (hF : Frsh N C A) {i : Int} (hi : lowW C i) : A.w i = 0 := by
 have hi' : i = 0 ∨ 6 ≤ i ∧ i < 6 + C.T := hi
 have hT := hC.T; have hS := hC.S
 rw [hF.w]
 unfold Cf.w0 Cf.fr
 rw [if_neg (by omega), if_neg (by unfold Cf.slot; omega), if_neg (by unfold Cf.slot; omega)]
theorem c_ActFst (hN : N.ok) (hC : C.ok) (hA : isA N A σ) (hwho : 0 ≤ who ∧ who < C.T) (hF : Frsh N C A) {z : Int} (hz : 0 ≤ classOf z)
  (hk : ∀ oV oS A' τ, Ol C A'.w 65536 false z (C.base 0) → A'.w (C.slot 0) = putSlot 1 (C.base 0) 1 0 → (∀ x, 0 ≤ x → x < z → A'.w (C.base 0 + 1 + x) = 0) → (∀ i, lowW C i → A'.w i = 0) → Pa C A' 1000000 → A'.n = C.len.toNat → isA N A' τ → Keep N.l σ τ → K (.agg #[.int .i64 0, .int .u64 65536, .int .i64 oV, .int .i64 oS]) τ) :
  s_a2 [N.env C who, .agg #[.int .i64 1, .int .i64 z, .int .u64 0, .int .i64 0, .int .i64 0, .int .i64 0, .bool false]] K σ := by
 have hS := hC.S
 have hT := hC.T
 have hCC := hC.C
 have hW := hC.W
 have hl := len_bd hC
 have hAw0 := hF.aw hC
 have hb0 : C.base 0 = 6 + C.T + 2 * C.S + 3 * C.C := by unfold Cf.base; omega
 have hP := (hF.pa hC).mono (show 2 * C.S + 2 ≤ 200000 by omega)
 have hP3 := hP.pin hC hwho (by decide)
 have hAw3 : (Bg.fr C).aw C (A.pin who).w := Bg.aw_pin hC hwho hAw0
 have hlv : (Bg.fr C).lvok C := fr_lv.ok (by decide)
 have hFF : (Bg.fr C).F = 0 :: (upL 0 C.S.toNat).tail := upL_head hS.1
 have hnx0 : (Bg.fr C).nx = 0 := rfl
 have pne : ∀ {i : Int}, i ≠ 6 + who → (A.pin who).w i = A.w i := fun {i} hi => by rw [pin_w]; exact upd_ne _ _ hi
 have hw0 : ∀ s, 0 ≤ s → s < C.S → (A.pin who).w (C.slot s) = putSlot 0 0 1 0 := by
  intro s s0 s1
  rw [pne (by unfold Cf.slot; omega), hF.w]
  unfold Cf.w0 Cf.fr
  rw [if_neg (by unfold Cf.slot; omega), if_neg (by unfold Cf.slot; omega), if_pos (by unfold Cf.slot; omega), if_pos (by unfold Cf.slot; omega)]
 have hge : slG ((A.pin who).w (C.slot 0)) = 1 := by rw [hw0 0 (by omega) (by omega)]; decide
 have hngood : ∀ c, ¬ good C (Bg.fr C).o (Bg.fr C).u c := fun c h => absurd h.1 (by decide : ¬ (0 : Int) ≤ -1)
 have fin : ∀ m A' τ, DnM C (Bg.fr C) z false (A.pin who).w (A.pin who).s m A' → Pa C A' 200103 → A'.n = A.n → (∀ i, lowW C i → A'.w i = (A.pin who).w i) → isA N (A'.out who) τ → Keep N.l σ τ → K (.agg #[.int .i64 m.a.oE, .int .u64 m.a.oH, .int .i64 m.a.oV, .int .i64 m.a.oS]) τ := by
  intro m A2 τ2 hD hP2 hn2 hlo hA2 k2
  obtain ⟨e0, hs1, j, b', hg, hj, hu, eH, hAw, w1', w2, w3⟩ := hD.r.ok hFF (.inr (by omega))
  rw [hge] at eH w1' w2
  have hj0 : j = 0 ∧ b' = ⟨(upL 0 C.S.toNat).tail, upd (fun _ => -1) (classOf z) 0, upd (fun _ => 0) 0 (roomOf (classOf z)), fun _ => 0, 1⟩ := by
   rcases hg with ⟨q, _⟩ | ⟨_, _, q1, q2⟩
   ·exact absurd q (hngood _)
   ·refine ⟨q1, q2.trans ?_⟩
    rw [q1]; show (⟨_, upd (fun _ => -1) (classOf z) 0, upd (fun _ => 0) 0 (0 + roomOf (classOf z)), fun _ => 0, 0 + 1⟩ : Bg) = _
    rw [Int.zero_add]; rfl
  obtain ⟨rfl, rfl⟩ := hj0
  have hu0 : (Bg.fr C).u 0 = 0 := rfl
  rw [hu0] at w1' w2 w3 hu
  simp only [Int.add_zero, Int.zero_add] at w1' w2 w3 hu
  have hc3 := (class_bd z).2
  have hr := room_bd hz hc3
  obtain ⟨sz, szr⟩ := class_room' hz
  have hbase : C.base 0 + z < C.len := by
   have := base_of hC (j := 0) (i := z) (by omega) (by omega) (by omega) (by omega)
   omega
  have one : ∀ {i : Int}, i ≠ 6 + who → (A2.out who).w i = A2.w i := fun {i} hi => by rw [out_w]; exact upd_ne _ _ hi
  have cl0 : ∀ x, 0 ≤ x → x < z → (A2.out who).w (C.base 0 + 1 + x) = 0 := fun x x0 x1 => by
   have := w3 (1 + x) (by omega) (by omega)
   rw [one (by omega), show C.base 0 + 1 + x = C.base 0 + (1 + x) by omega]; exact this
  have w1 : (A2.out who).w (C.slot 0) = putSlot 1 (C.base 0) 1 0 := by rw [one (by unfold Cf.slot; omega)]; exact w1'
  have w2' : (A2.out who).w (C.base 0) = putHead 2 z 0 1 false := by rw [one (by omega)]; exact w2
  have hol := Ol.made hC (s := 0) (ge := 1) (z := z) (a := C.base 0) (own := false) (w := (A2.out who).w) ⟨Int.le_refl 0, by omega⟩ (by decide) hz ⟨Int.le_refl _, hbase⟩ w1 w2' cl0
  have hh : putHandle 0 1 = 65536 := by decide
  rw [hh] at hol eH
  rw [e0, eH]
  refine hk m.a.oV m.a.oS (A2.out who) τ2 hol w1 cl0 (fun i hi => ?_) ((hP2.out hC hwho (by decide)).mono (by decide)) (hn2.trans hF.n) hA2 k2
  by_cases e : i = 6 + who
  ·rw [e, out_w, upd_same]
  ·rw [one e, hlo i hi, pne e]; exact hF.low hC hi
 refine c_ActW hN hC hA hwho hP.ok.w hP.n (by decide) (fun i k A' => ∃ m, k = .al m ∧ Mkr C (Bg.fr C) z false (A.pin who) 200003 i m A' ∧ ∀ i, lowW C i → A'.w i = (A.pin who).w i) (fun k A' => ∃ m, k = .al m ∧ DnM C (Bg.fr C) z false (A.pin who).w (A.pin who).s m A' ∧ Pa C A' 200103 ∧ A'.n = A.n ∧ ∀ i, lowW C i → A'.w i = (A.pin who).w i) ⟨_, rfl, .new hP3 hAw3, fun _ _ => rfl⟩ ?_ ?_ ?_ ?_
 ·rintro i k A' i0 i1 ⟨m, rfl, h, hlo⟩
  refine ⟨h.fit hC hAw3 hz, h.pa.ok.w, h.pa.n, ?_⟩
  have hkl := h.ph.kle hC
  have hlo' : ∀ i, lowW C i → (m.step C who A').2.2.w i = (A.pin who).w i := fun j hj => (h.lo hC (by decide) hAw3 hlv hz i0 hj).trans (hlo j hj)
  obtain ⟨⟨⟨a, ht⟩, hla⟩, h2⟩ := h.step (who := who) hC (by decide) hAw3 hlv hz i0
  rcases h2 with ⟨d, h'⟩ | ⟨d, h', hP'⟩
  ·rw [if_neg (show ¬ ((Wk.al m).step C who A').1 = true from by show ¬ (m.step C who A').1 = true; rw [d]; decide)]; exact ⟨_, rfl, h', hlo'⟩
  ·rw [if_pos (show ((Wk.al m).step C who A').1 = true from d)]; exact ⟨_, rfl, h', hP'.mono (by omega), ht.n.trans h.n, hlo'⟩
 ·rintro k A' ⟨m, rfl, h1, h2, h3, _⟩; exact ⟨h2.ok.w, h2.n⟩
 ·rintro k A' ⟨m, rfl, h, _⟩; have := h.ph.kle hC; omega
 ·rintro k A' τ ⟨m, rfl, h1, h2, h3, h4⟩ hA' hK; exact fin m A' τ h1 h2 h3 h4 hA' hK
end Go.Fl
namespace Go.Fl
open Go
set_option linter.unusedVariables false
theorem Opn.slz {w : World} {ρ : Ren} {σ : Mem} {avs avs' : List Value} {v : Value} {ks : List (Option IntKind)} {m : Nat} (h : Opn w ρ σ avs avs') (hv : SlW w ks v) (hz : ∀ a l c, v = .slice a l c → l ≤ m) :
  ∃ ρ' σ' s n cs, Opn w ρ' σ' (s :: avs) (v :: avs') ∧ Sl σ' ks.length n cs s ∧ n ≤ m ∧ FlatL (List.replicate n ks).flatten cs ∧ ∀ i b, σ.get i = some b → σ'.get i = some b := by
 rcases hv with rfl | ⟨a, len, cap, cs, rfl, h1, h2, h3, h4⟩
 ·exact ⟨ρ, σ, _, 0, [], h.nilS, .nil, Nat.zero_le _, .nil, fun _ _ q => q⟩
 ·obtain ⟨ρ', σ', s, o, sl, ext⟩ := h.slice (es := ks.length) h1 h3 (by simp) h4
  exact ⟨ρ', σ', s, len, cs, o, sl, hz _ _ _ rfl, h3, ext⟩
theorem trod_len {H : Type} {enc : TypeId × Value → H} {P : Program} {w : World} {base : Nat} {held : Bool} {t e : TypeId} {fuel : Nat} {cs : List Value} {x : DataW H × List MemPlace} {ts : List TypeId} {ds : List (DataW H)} {j : Nat} (ht : P.underlying t = some (.slice e))
  (h : DataW.trod enc P w base (fun _ => true) held fuel t cs = some x) (h1 : ts[j]? = some t) (h2 : ds[j]? = some x.1) (hz : (DataW.weightsEach P ts ds).all (· ≤ reachBytes) = true) (hb : 1 ≤ P.bytesOf e) :
  ∀ a l c, cs = [.slice a l c] → l ≤ 140737488351232 := by
 intro a l c hc
 rcases DataW.trod_slice ht h with ⟨h0, _⟩ | ⟨a', len, cap, elems, rest, n, _, h3, h4, _, _, _, hlen, _⟩
 ·rw [hc] at h0; cases h0; exact Nat.zero_le _
 ·rw [hc] at h3; cases h3
  rw [h4] at h2
  have := sized_slice hz h1 h2 ht
  simp only [List.length_map] at this
  have e1 : reachBytes = 140737488351232 := by decide
  have e2 : elems.length ≤ (elems.length + rest.length) * P.bytesOf e := Nat.le_trans (Nat.le_add_right _ _) (Nat.le_mul_of_pos_right _ hb)
  omega
end Go.Fl
namespace Go.Fl
open Go
set_option linter.unusedVariables false
set_option linter.unusedSimpArgs false
variable {N : Nm} {A B : Ar} {σ : Mem} {K : Value → Mem → Prop} {C : Cf} {who : Int}
structure Ax4 where
 k : Int
 h : Int
 v : Int
 o : Int
def actR (t : Ax4) : List Value := [.int .i64 t.k, .int .i64 0, .int .u64 t.h, .int .i64 0, .int .i64 t.v, .int .i64 t.o, .bool false]
def actV (t : Ax4) : Value := .agg #[.int .i64 t.k, .int .i64 0, .int .u64 t.h, .int .i64 0, .int .i64 t.v, .int .i64 t.o, .bool false]
def toA (x : Ax) : Ax4 := ⟨x.kd + 2, 65536, x.v, x.old⟩
def r21 (X : Int → Ax4) : List Value := actR (X 0) ++ (actR (X 1) ++ actR (X 2))
theorem r21_sub {X : Int → Ax4} {k : Int} (k0 : 0 ≤ k) (k3 : k < 3) : sub (r21 X) (k.toNat * 7) 7 true = some (actV (X k)) := by
 rcases (show k = 0 ∨ k = 1 ∨ k = 2 by omega) with rfl | rfl | rfl <;> rfl
theorem r21_set {X : Int → Ax4} {k : Int} {t : Ax4} {q : Nat} (k0 : 0 ≤ k) (k3 : k < 3) : gStore 7 [.pointer (some ⟨q, k.toNat * 7, some 0⟩), actV t] (r21 X) = some (r21 (updX X k t)) := by
 rcases (show k = 0 ∨ k = 1 ∨ k = 2 by omega) with rfl | rfl | rfl <;> rfl
def dR (H : Int → Int) (F : Int → Fi) (i : Int) : List Value := [.int .i64 (F i).E, .int .u64 (H i), .int .i64 (F i).V, .int .i64 (F i).S]
def pV (L : Int → Bool) (P : Int → Nat) (k : Int) : Value := if L k = true then .pointer (some ⟨P k, 0, none⟩) else .pointer none
theorem pV_off {L : Int → Bool} {P : Int → Nat} {k : Int} : updX (pV L P) k (.pointer none) = pV (updX L k false) P := by
 funext j; unfold pV updX; split <;> simp_all
theorem pV_on {L : Int → Bool} {P : Int → Nat} {k : Int} {p : Nat} : updX (pV L P) k (.pointer (some ⟨p, 0, none⟩)) = pV (updX L k true) (updX P k p) := by
 funext j; unfold pV updX; split <;> simp_all
theorem tmod3 (a : Int) : -3 < a.tmod 3 ∧ a.tmod 3 < 3 := by
 rcases Int.le_total 0 a with h | h
 ·rw [Int.tmod_eq_emod_of_nonneg h]; omega
 ·obtain ⟨b, rfl⟩ : ∃ b, a = -b := ⟨-a, by omega⟩
  rw [Int.neg_tmod, Int.tmod_eq_emod_of_nonneg (by omega)]; omega
theorem pick3 (a : Int) : IntKind.i64.wrap (a.tmod 3 + 3) = a.tmod 3 + 3 ∧ 0 ≤ (a.tmod 3 + 3).tmod 3 ∧ (a.tmod 3 + 3).tmod 3 < 3 := by
 have := tmod3 a
 refine ⟨IntWalk.i64_in _ (by omega), ?_⟩
 rw [Int.tmod_eq_emod_of_nonneg (by omega)]; omega
theorem acts7 {n : Nat} {cs : List Value} (h : FlatL (List.replicate n [some .i64, some .i64, some .u64, some .i64, some .i64, some .i64, none]).flatten cs) :
  ∃ q : Nat → Int × Int × Int, ∀ i, i < n → cs[i * 7 + 0]? = some (.int .i64 (q i).1) ∧ cs[i * 7 + 4]? = some (.int .i64 (q i).2.1) ∧ cs[i * 7 + 5]? = some (.int .i64 (q i).2.2) := by
 have H : ∀ i : Nat, ∃ q : Int × Int × Int, i < n → cs[i * 7 + 0]? = some (.int .i64 q.1) ∧ cs[i * 7 + 4]? = some (.int .i64 q.2.1) ∧ cs[i * 7 + 5]? = some (.int .i64 q.2.2) := by
  intro i
  by_cases hi : i < n
  ·have := h.elem hi
   have key : ∀ L : List Value, FlatL [some .i64, some .i64, some .u64, some .i64, some .i64, some .i64, none] L → ∃ a b c d e f g, L = [.int .i64 a, b, c, d, .int .i64 e, .int .i64 f, g] := by
    intro L h
    cases h with
    | cons h1 h => cases h with
     | cons h2 h => cases h with
      | cons h3 h => cases h with
       | cons h4 h => cases h with
        | cons h5 h => cases h with
         | cons h6 h => cases h with
          | cons h7 h => cases h with
           | nil =>
            obtain ⟨a, rfl, _⟩ := h1; obtain ⟨e, rfl, _⟩ := h5; obtain ⟨f, rfl, _⟩ := h6
            exact ⟨a, _, _, _, e, f, _, rfl⟩
   obtain ⟨a, b, c, d, e, f, g, el⟩ := key _ this
   have gg : ∀ k, k < 7 → cs[i * 7 + k]? = [Value.int .i64 a, b, c, d, .int .i64 e, .int .i64 f, g][k]? := by
    intro k hk
    rw [← el]
    simp only [List.length_cons, List.length_nil, Nat.zero_add, Nat.reduceAdd]
    rw [List.getElem?_take, if_pos hk, List.getElem?_drop]
   exact ⟨(a, e, f), fun _ => ⟨(gg 0 (by decide)).trans rfl, (gg 4 (by decide)).trans rfl, (gg 5 (by decide)).trans rfl⟩⟩
  ·exact ⟨(0, 0, 0), fun q => absurd q hi⟩
 exact Classical.axiomOfChoice H
structure HM (N : Nm) (C : Cf) (σ : Mem) (a W s0 cap len2 en i nx : Int) (n p1 p2 : Nat) (L : Int → Bool) (P : Int → Nat) (O : Int → List Nat) (M : Int → Aa) (Q : Int → Ax) (F : Int → Fi) (hv H : Int → Int) (X : Int → Ax4) (A : Ar) (τ : Mem) : Prop where
 am : AM C 65536 a W 0 s0 (1000000 + i) L M Q n F hv A
 bu : Bud cap len2 en (A.w (a + 1)) L M n nx i
 ia : isA N A τ
 hw : Hw N (WT N) σ (On3 L) P O M τ
 r1 : Rr N σ 4 p1 n (dR H F) τ
 r2 : Rr N σ 7 p2 n (fun i => actR (toA (F i).x)) τ
 ne : p1 ≠ p2
 o1 : ∀ k, On3 L k → p1 ∉ O k ∧ p2 ∉ O k
 xq : ∀ k, On3 L k → X k = toA (Q k)
theorem isA.off {p : Nat} {τ υ : Mem} (hA : isA N A τ) (k : Keep [p] τ υ) (hp : p ∉ N.l) : isA N A υ := by
 refine hA.keep k ?_
 simp only [Nm.l, List.mem_cons, List.not_mem_nil, or_false, not_or] at hp ⊢
 exact ⟨Ne.symm hp.1, Ne.symm hp.2.1, Ne.symm hp.2.2⟩
theorem law_ActMany (σ : Mem) (s1 : Value) (len1 : Nat) (cs1 : List Value) (sl1 : Sl σ 7 len1 cs1 s1) (hm1 : len1 ≤ 140737488351232) (hf1 : FlatL (List.replicate len1 [some .i64, some .i64, some .u64, some .i64, some .i64, some .i64, none]).flatten cs1)
  (s2 : Value) (len2 : Nat) (cs2 : List Value) (sl2 : Sl σ 1 len2 cs2 s2) (hm2 : len2 ≤ 140737488351232) (hf2 : FlatL (List.replicate len2 [some .i64]).flatten cs2) :
  s_a1 [s1, s2] (fun v _ => v = .bool true) σ := by
 obtain ⟨g2, hg2, _⟩ := sl2.argI hf2
 obtain ⟨q1, hq1⟩ := acts7 hf1
 have hg1 := sl1.argS
 simp only [s_a1, w_a1, ruS, ruL, ruE, Nat.reduceAdd, reduceIte, Int.reduceLT, Int.reduceLE, Int.reduceEq, Int.reduceNeg, Int.reduceAdd, Int.reduceSub, Nat.reduceLeDiff, Nat.reduceLT]
 have hC : (cA 4 8 8 40).ok := cA_ok (by omega) (by omega) (by omega) (by omega)
 refine c_Arena (C := cA 4 8 8 40) hC rfl rfl rfl fun N A τ hN hF hA hE hfr => ?_
 have hT : (cA 4 8 8 40).T = 4 := rfl
 have hln := len_bd hC
 generalize hCe : cA 4 8 8 40 = C at *
 have b2 : ∀ K : Value → Prop, xF (fBuild [(0, 1), (1, 1), (2, 1), (3, 1), (4, 1), (5, 1), (6, 1)] [.int .i64 0, .int .i64 0, .int .u64 0, .int .i64 0, .int .i64 0, .int .i64 0, .bool false] [0, 1]) [.int .i64 1, .int .i64 1] K = K (.agg #[.int .i64 1, .int .i64 1, .int .u64 0, .int .i64 0, .int .i64 0, .int .i64 0, .bool false]) := fun K => nr rfl
 have b4 : ∀ (k h v o : Int) (K : Value → Prop), xF (fBuild [(0, 1), (1, 1), (2, 1), (3, 1), (4, 1), (5, 1), (6, 1)] [.int .i64 0, .int .i64 0, .int .u64 0, .int .i64 0, .int .i64 0, .int .i64 0, .bool false] [0, 2, 4, 5]) [.int .i64 k, .int .u64 h, .int .i64 v, .int .i64 o] K = K (actV ⟨k, h, v, o⟩) := fun _ _ _ _ K => nr rfl
 have f1 : ∀ (x y z w : Value) (K : Value → Prop), xF (fFldV 1 1 false) [.agg #[x, y, z, w]] K = K y := fun _ _ _ _ K => nr rfl
 have bp : ∀ K : Value → Prop, xF (fBuild [(0, 1), (1, 1), (2, 1)] [.pointer none, .pointer none, .pointer none] []) [] K = K (.agg #[.pointer none, .pointer none, .pointer none]) := fun K => nr rfl
 have gp : gStore 3 [.pointer (some ⟨8, 0, some 0⟩), .agg #[.pointer none, .pointer none, .pointer none]] [.pointer none, .pointer none, .pointer none] = some (l3 (pV (fun _ => false) fun _ => 0)) := rfl
 have bz : ∀ K : Value → Prop, xF (fBuild [(0, 7), (7, 7), (14, 7)] [.int .i64 0, .int .i64 0, .int .u64 0, .int .i64 0, .int .i64 0, .int .i64 0, .bool false, .int .i64 0, .int .i64 0, .int .u64 0, .int .i64 0, .int .i64 0, .int .i64 0, .bool false, .int .i64 0, .int .i64 0, .int .u64 0, .int .i64 0, .int .i64 0, .int .i64 0, .bool false] []) [] K = K (.agg #[.int .i64 0, .int .i64 0, .int .u64 0, .int .i64 0, .int .i64 0, .int .i64 0, .bool false, .int .i64 0, .int .i64 0, .int .u64 0, .int .i64 0, .int .i64 0, .int .i64 0, .bool false, .int .i64 0, .int .i64 0, .int .u64 0, .int .i64 0, .int .i64 0, .int .i64 0, .bool false]) := fun K => nr rfl
 have gz : gStore 21 [.pointer (some ⟨9, 0, some 0⟩), .agg #[.int .i64 0, .int .i64 0, .int .u64 0, .int .i64 0, .int .i64 0, .int .i64 0, .bool false, .int .i64 0, .int .i64 0, .int .u64 0, .int .i64 0, .int .i64 0, .int .i64 0, .bool false, .int .i64 0, .int .i64 0, .int .u64 0, .int .i64 0, .int .i64 0, .int .i64 0, .bool false]] [.int .i64 0, .int .i64 0, .int .u64 0, .int .i64 0, .int .i64 0, .int .i64 0, .bool false, .int .i64 0, .int .i64 0, .int .u64 0, .int .i64 0, .int .i64 0, .int .i64 0, .bool false, .int .i64 0, .int .i64 0, .int .u64 0, .int .i64 0, .int .i64 0, .int .i64 0, .bool false] = some (r21 fun _ => ⟨0, 0, 0, 0⟩) := rfl
 simp only [c_awake15, gStoreE, w_a1_j1, w_a1_j1b, b2, Bool.not_true, ruS, ruL, ruE, Nat.reduceAdd, reduceIte, Int.reduceLT, Int.reduceLE, Int.reduceEq, Int.reduceNeg, Int.reduceAdd, Int.reduceSub, Nat.reduceLeDiff, Nat.reduceLT]
 refine c_ActFst hN hC hA (by omega) hF (by decide) fun oV oS A2 τ2 hol hW0 hz0 hlow hP hn hA2 k2 => ?_
 have ext2 := hE.keep' k2 hfr.all
 simp only [f1, bp, gp, bz, gz, ruS, ruL, ruE, Nat.reduceAdd, reduceIte, Int.reduceLT, Int.reduceLE, Int.reduceEq, Int.reduceNeg, Int.reduceAdd, Int.reduceSub, Nat.reduceLeDiff, Nat.reduceLT]
 refine hBuildS_i [] rfl fun pa τ3 ma ga xa => ?_
 refine hBuildS_i [] rfl fun pb τ4 mb gb xb => ?_
 have hA4 := (hA2.ext xa).ext xb
 have ext4 := (ext2.trans xa).trans xb
 have a0 : isA N A2 τ3 := hA2.ext xa
 generalize hcap : (if (len1 : Int) < 40 then (len1 : Int) else 40) = cap
 generalize hen : (if (len2 : Int) + 400 ≤ 1500 then (len2 : Int) + 400 else 1500) = en
 have hcp : (0 ≤ cap ∧ cap ≤ 40) ∧ cap ≤ len1 ∧ (cap = 40 ∨ cap = len1) := by rw [← hcap]; split <;> omega
 have hbd : Bds cap len2 en := by rw [← hcap, ← hen]; refine ⟨?_, by omega, ?_⟩ <;> split <;> omega
 have hnn : A2.n = C.len.toNat := hn
 have hol' := hol
 have hx0 : A2.w (C.base 0 + 1) = 0 := by have := hz0 0 (Int.le_refl 0) (by decide); rw [show C.base 0 + 1 + 0 = C.base 0 + 1 by omega] at this; exact this
 have hsl : hdSl 65536 = 0 := by decide
 have hs0 := hP.ok.s
 have hev : Ev C 65536 false 1 (C.base 0) (putSlot 1 (C.base 0) 1 0) 1000000 A2 := ⟨hol, by rw [hsl]; exact hW0, hP.ok, hP.n, by rw [hnn]; omega⟩
 have hlw : ∀ k, 0 ≤ k → k < 3 → A2.w (6 + k) = 0 := fun k k0 k1 => hlow _ (.inr ⟨by omega, by omega⟩)
 have hle : A2.w 0 = 0 := hlow 0 (.inl rfl)
 generalize C.base 0 = a at *
 generalize putSlot 1 a 1 0 = W at *
 have am0 : AM C 65536 a W 0 A2.s (1000000 + 0) (fun _ => false) (fun _ => Aa.new (.ac (Ak.new 0 0 0 0 0 false))) (fun _ => ⟨0, 0, 0⟩) 0 (fun _ => ⟨⟨0, 0, 0⟩, 0, 0, 0⟩) (fun _ => 0) A2 :=
  ⟨hev, hle, fun k k0 k1 _ => hlw k k0 k1, Int.le_refl _, rfl, by rw [hx0]; rfl, ⟨Int.le_refl 0, by decide⟩, fun k hk => absurd hk.2 Bool.false_ne_true, fun k hk => absurd hk.2 Bool.false_ne_true, fun i i0 i1 => by omega, fun i j i0 i1 => by omega, fun k i hk => absurd hk.2 Bool.false_ne_true, fun k l t hk => absurd hk.2 Bool.false_ne_true, fun t t0 t1 hne => absurd rfl hne⟩
 have bu0 : Bud cap len2 en (A2.w (a + 1)) (fun _ => false) (fun _ => Aa.new (.ac (Ak.new 0 0 0 0 0 false))) 0 0 0 :=
  ⟨⟨Int.le_refl 0, hcp.1.1⟩, by show ((0 : Nat) : Int) + (0 + 0 + 0) ≤ 0; decide, .inr (.inr (by show (0 : Int) + 0 + 0 + 16 * (cap - 0) + 0 ≤ 640; omega)), fun _ k hk => absurd hk.2 Bool.false_ne_true⟩
 have hm0 : HM N C σ a W A2.s cap len2 en 0 0 0 pa pb (fun _ => false) (fun _ => 0) (fun _ => []) (fun _ => Aa.new (.ac (Ak.new 0 0 0 0 0 false))) (fun _ => ⟨0, 0, 0⟩) (fun _ => ⟨⟨0, 0, 0⟩, 0, 0, 0⟩) (fun _ => 0) (fun _ => 0) (fun _ => ⟨0, 0, 0, 0⟩) A2 τ4 :=
  ⟨am0, bu0, hA4, (Hw.nil ext4).less fun k hk => absurd hk.2 Bool.false_ne_true, ⟨xb _ _ ga, ⟨hA2.new ma, ext2.none ma⟩, fun _ => rfl⟩, ⟨gb, ⟨a0.new mb, (ext2.trans xa).none mb⟩, fun _ => rfl⟩, (fun e => by subst e; rw [ga] at mb; cases mb), fun k hk => absurd hk.2 Bool.false_ne_true, fun k hk => absurd hk.2 Bool.false_ne_true⟩
 generalize A2.s = s0 at *
 clear am0 bu0 hol hol' hW0 hz0 hlow hP hn hA2 k2 hx0 hev hlw hle hA4 ext4 a0 ga gb ma mb xa xb ext2 hF hA hE hnn hs0
 -- all is told: its order
 have fin : ∀ (nx : Int) (n p1 p2 : Nat) L P O M Q F hv H X A τ who, HM N C σ a W s0 cap len2 en en nx n p1 p2 L P O M Q F hv H X A τ → w_a1_j2 (fun v _ => v = .bool true) [.slice (some ⟨p1, 0, none⟩) n 4, .slice (some ⟨p2, 0, none⟩) n 7] [N.el C who, l3 (pV L P)] τ := by
  intro nx n p1 p2 L P O M Q F hv H X A τ who h
  have hL := h.bu.end h.am.bB
  have ep : ∀ k, 0 ≤ k → k < 3 → pV L P k = .pointer none := fun k k0 k1 => by unfold pV; rw [if_neg (fun q => hL k ⟨⟨k0, k1⟩, q⟩)]
  have e0 := l3_sub (P := pV L P) (k := 0) (by decide) (by decide)
  have e1 := l3_sub (P := pV L P) (k := 1) (by decide) (by decide)
  have e2 := l3_sub (P := pV L P) (k := 2) (by decide) (by decide)
  rw [ep 0 (by decide) (by decide)] at e0
  rw [ep 1 (by decide) (by decide)] at e1
  rw [ep 2 (by decide) (by decide)] at e2
  have pn : ∀ k, 0 ≤ k → k < 3 → A.w (6 + k) = 0 := fun k k0 k1 => h.am.pn k k0 k1 (by
   cases e : L k with
   | false => rfl
   | true => exact absurd ⟨⟨k0, k1⟩, e⟩ (hL k))
  have hC3 := hC.C; have hS := hC.S
  have hch : C.chunk C.C = 6 + C.T + 2 * C.S + 3 * C.C := rfl
  have hn1 := h.am.ev.n1
  have p7 : sub (N.el C who) 7 1 false = some N.p := rfl
  have hn40 : (n : Int) ≤ 40 := by
   have := h.bu.cn; have := h.bu.nb
   have z : 0 ≤ t3 (cB L) := by
    have : ∀ j, 0 ≤ cB L j := fun j => by unfold cB; split <;> omega
    have y0 := this 0; have y1 := this 1; have y2 := this 2
    unfold t3; omega
   omega
  simp only [w_a1_j2, w_a1_j2b, xIxA (show (0 : Int) ≤ 0 by decide) (show (0 : Int) < (3 : Nat) by decide), xIxA (show (0 : Int) ≤ 1 by decide) (show (1 : Int) < (3 : Nat) by decide), xIxA (show (0 : Int) ≤ 2 by decide) (show (2 : Int) < (3 : Nat) by decide), Nat.zero_add, e0, e1, e2, w_a1_j3, w_a1_j3b, ruS, ruL, ruE, Nat.reduceAdd, reduceIte, Int.reduceLT, Int.reduceLE, Int.reduceEq, Int.reduceNeg, Int.reduceAdd, Int.reduceSub, Nat.reduceLeDiff, Nat.reduceLT]
  have or0 : Ord hv (fun i => (F i).S) n s0 A.s 0 0 s0 := ⟨⟨Int.le_refl _, h.am.s⟩, ctn_none fun j j0 j1 => decide_eq_false (by have := (h.am.fi j j0 j1).sb; omega), h.am.h0.symm⟩
  refine xLoop_r (fun x ts ls τ' => ∃ (m : Nat) (val t : Int), x = n - m ∧ ts = [.slice (some ⟨p1, 0, none⟩) n 4, .slice (some ⟨p2, 0, none⟩) n 7, .int .i64 val, .int .i64 m] ∧ ls = [N.el C who] ∧ m ≤ n ∧ τ' = τ ∧ Ord hv (fun i => (F i).S) n s0 A.s m val t) ?_ (n := n)
   ⟨0, 0, s0, rfl, rfl, rfl, by omega, rfl, or0⟩
  rintro x ts ls τ' ⟨m, val, t, rfl, rfl, rfl, mn, rfl, ho⟩ R hR
  simp only [w_law15_ActMany_l27, w_law15_ActMany_l27b, xLen, ruS, ruL, ruE, Nat.reduceAdd, reduceIte, Int.reduceLT, Int.reduceLE, Int.reduceEq, Int.reduceNeg, Int.reduceAdd, Int.reduceSub, Nat.reduceLeDiff, Nat.reduceLT]
  by_cases cm : (m : Int) < n
  rotate_left
  ·simp only [cm, w_a1_j4, w_a1_j4b, p7, c_Pin (show (0 : Int) ≤ 0 by decide) (show (0 : Int) ≤ 65536 by decide), c_Pin (show (0 : Int) ≤ 1 by decide) (show (1 : Int) ≤ 65536 by decide), c_Pin (show (0 : Int) ≤ 2 by decide) (show (2 : Int) ≤ 65536 by decide),
    c_PeekA hN h.ia (show (0 : Int) ≤ 6 by decide) (by omega), c_PeekA hN h.ia (show (0 : Int) ≤ 7 by decide) (by omega), c_PeekA hN h.ia (show (0 : Int) ≤ 8 by decide) (by omega), show A.w 6 = 0 from pn 0 (by decide) (by decide), show A.w 7 = 0 from pn 1 (by decide) (by decide), show A.w 8 = 0 from pn 2 (by decide) (by decide), ruS, ruL, ruE, Nat.reduceAdd, reduceIte, Int.reduceLT, Int.reduceLE, Int.reduceEq, Int.reduceNeg, Int.reduceAdd, Int.reduceSub, Nat.reduceLeDiff, Nat.reduceLT]
   rfl
  obtain ⟨ix, ixb, hix, hV, ho'⟩ := ho.next h.am hL (by omega)
  have hef := h.am.fi ix ixb.1 ixb.2
  have nxt : w_a1_j5 (fun v _ => v = .bool true) (w_a1_j4 fun v _ => v = .bool true) R [.slice (some ⟨p1, 0, none⟩) n 4, .slice (some ⟨p2, 0, none⟩) n 7, .int .i64 (hv (F ix).S), .int .i64 m] [N.el C who] τ' := by
   simp only [w_a1_j5, w_a1_j5b, ruS, ruL, ruE, Nat.reduceAdd, reduceIte, Int.reduceLT, Int.reduceLE, Int.reduceEq, Int.reduceNeg, Int.reduceAdd, Int.reduceSub, Nat.reduceLeDiff, Nat.reduceLT]
   rw [IntWalk.i64_in ((m : Int) + 1) (by omega)]
   exact hR (n - (m + 1)) _ _ _ (by omega) ⟨m + 1, _, _, rfl, rfl, rfl, by omega, rfl, ho'⟩
  simp only [cm, ruS, ruL, ruE, Nat.reduceAdd, reduceIte, Int.reduceLT, Int.reduceLE, Int.reduceEq, Int.reduceNeg, Int.reduceAdd, Int.reduceSub, Nat.reduceLeDiff, Nat.reduceLT]
  -- which one is it
  refine xLoop_r (fun x ts ls τ2 => ∃ (i : Nat), x = n - i ∧ ts = [.slice (some ⟨p1, 0, none⟩) n 4, .slice (some ⟨p2, 0, none⟩) n 7, .int .i64 val, .int .i64 m, .int .i64 (if ix < i then ix else -1), .int .i64 i] ∧ ls = [N.el C who] ∧ i ≤ n ∧ τ2 = τ') ?_ (n := n)
   ⟨0, rfl, by rw [if_neg (by omega)]; rfl, rfl, by omega, rfl⟩
  rintro x ts ls τ2 ⟨i, rfl, rfl, rfl, iN, rfl⟩ R2 hR2
  simp only [w_law15_ActMany_l31, w_law15_ActMany_l31b, xLen, ruS, ruL, ruE, Nat.reduceAdd, reduceIte, Int.reduceLT, Int.reduceLE, Int.reduceEq, Int.reduceNeg, Int.reduceAdd, Int.reduceSub, Nat.reduceLeDiff, Nat.reduceLT]
  by_cases ci : (i : Int) < n
  rotate_left
  ·have : i = n := by omega
   subst this
   have nlt : ¬ ix < 0 := by omega
   rw [if_pos ixb.2]
   simp only [ci, nlt, w_a1_j6, w_a1_j6b, ruS, ruL, ruE, Nat.reduceAdd, reduceIte, Int.reduceLT, Int.reduceLE, Int.reduceEq, Int.reduceNeg, Int.reduceAdd, Int.reduceSub, Nat.reduceLeDiff, Nat.reduceLT]
   rw [h.r1.fld ixb.1 ixb.2 (by decide) (show (dR H F ix)[2]? = some (.int .i64 (F ix).V) from rfl), hV]
   simp only [w_a1_j7, w_a1_j7b, ruS, ruL, ruE, Nat.reduceAdd, reduceIte, Int.reduceLT, Int.reduceLE, Int.reduceEq, Int.reduceNeg, Int.reduceAdd, Int.reduceSub, Nat.reduceLeDiff, Nat.reduceLT]
   rw [h.r2.fld ixb.1 ixb.2 (by decide) (show (actR (toA (F ix).x))[0]? = some (.int .i64 ((F ix).x.kd + 2)) from rfl)]
   have lE : ∀ {K : Value → Mem → Prop}, (xF (fIxS 4) [.slice (some ⟨p1, 0, none⟩) i 4, .int .i64 ix] fun v => xF (fFld 0) [v] fun v' => hLoad 1 false [v'] K τ2) = K (.int .i64 (F ix).E) τ2 := fun {K} => h.r1.fld ixb.1 ixb.2 (by decide) rfl
   have lO : ∀ {K : Value → Mem → Prop}, (xF (fIxS 7) [.slice (some ⟨p2, 0, none⟩) i 7, .int .i64 ix] fun v => xF (fFld 5) [v] fun v' => hLoad 1 false [v'] K τ2) = K (.int .i64 (F ix).x.old) τ2 := fun {K} => h.r2.fld ixb.1 ixb.2 (by decide) rfl
   have lK : ∀ {K : Value → Mem → Prop}, (xF (fIxS 7) [.slice (some ⟨p2, 0, none⟩) i 7, .int .i64 ix] fun v => xF (fFld 0) [v] fun v' => hLoad 1 false [v'] K τ2) = K (.int .i64 ((F ix).x.kd + 2)) τ2 := fun {K} => h.r2.fld ixb.1 ixb.2 (by decide) rfl
   have lV : ∀ {K : Value → Mem → Prop}, (xF (fIxS 7) [.slice (some ⟨p2, 0, none⟩) i 7, .int .i64 ix] fun v => xF (fFld 4) [v] fun v' => hLoad 1 false [v'] K τ2) = K (.int .i64 (F ix).x.v) τ2 := fun {K} => h.r2.fld ixb.1 ixb.2 (by decide) rfl
   rcases hef.k with ⟨lk, hs, hE⟩ | ⟨lk, hs, hE⟩
   ·rw [hs, hV] at nxt
    rcases lk with kd | ⟨kd, ne⟩
    ·have hE' : (F ix).E = 0 := by rw [hE, if_neg (by omega)]
     have e5 : ¬ (F ix).x.kd + 2 = 5 := by omega
     have e3 : (F ix).x.kd + 2 = 3 := by omega
     simp only [e5, w_a1_j8, w_a1_j8b, ruS, ruL, ruE, Nat.reduceAdd, reduceIte, Int.reduceLT, Int.reduceLE, Int.reduceEq, Int.reduceNeg, Int.reduceAdd, Int.reduceSub, Nat.reduceLeDiff, Nat.reduceLT]
     rw [lE]
     simp only [hE', ruS, ruL, ruE, Nat.reduceAdd, reduceIte, Int.reduceLT, Int.reduceLE, Int.reduceEq, Int.reduceNeg, Int.reduceAdd, Int.reduceSub, Nat.reduceLeDiff, Nat.reduceLT]
     rw [lE]
     simp only [hE', ruS, ruL, ruE, Nat.reduceAdd, reduceIte, Int.reduceLT, Int.reduceLE, Int.reduceEq, Int.reduceNeg, Int.reduceAdd, Int.reduceSub, Nat.reduceLeDiff, Nat.reduceLT]
     rw [lK]
     simp only [e3, w_a1_j9, w_a1_j9b, ruS, ruL, ruE, Nat.reduceAdd, reduceIte, Int.reduceLT, Int.reduceLE, Int.reduceEq, Int.reduceNeg, Int.reduceAdd, Int.reduceSub, Nat.reduceLeDiff, Nat.reduceLT]
     exact nxt
    ·have hE' : (F ix).E = 8 := by rw [hE, if_pos kd]
     have e5 : (F ix).x.kd + 2 = 5 := by omega
     have e8 : ¬ (8 : Int) = 0 := by decide
     have nv : ¬ val = (F ix).x.old := by rw [← hV]; exact ne
     have nv' : ¬ (F ix).x.old = val := fun e => nv e.symm
     simp only [e5, ruS, ruL, ruE, Nat.reduceAdd, reduceIte, Int.reduceLT, Int.reduceLE, Int.reduceEq, Int.reduceNeg, Int.reduceAdd, Int.reduceSub, Nat.reduceLeDiff, Nat.reduceLT]
     rw [lO]
     simp only [nv, nv', w_a1_j8, w_a1_j8b, ruS, ruL, ruE, Nat.reduceAdd, reduceIte, Int.reduceLT, Int.reduceLE, Int.reduceEq, Int.reduceNeg, Int.reduceAdd, Int.reduceSub, Nat.reduceLeDiff, Nat.reduceLT]
     rw [lE]
     simp only [hE', e8, nv, nv', ruS, ruL, ruE, Nat.reduceAdd, reduceIte, Int.reduceLT, Int.reduceLE, Int.reduceEq, Int.reduceNeg, Int.reduceAdd, Int.reduceSub, Nat.reduceLeDiff, Nat.reduceLT]
     rw [lE]
     simp only [hE', e8, nv, nv', w_a1_j9, w_a1_j9b, ruS, ruL, ruE, Nat.reduceAdd, reduceIte, Int.reduceLT, Int.reduceLE, Int.reduceEq, Int.reduceNeg, Int.reduceAdd, Int.reduceSub, Nat.reduceLeDiff, Nat.reduceLT]
     exact nxt
   ·rw [hs] at nxt
    have n1 : ¬ (F ix).x.kd + 2 = 3 := fun e => lk (.inl (by omega))
    by_cases e5 : (F ix).x.kd + 2 = 5
    ·have ev : val = (F ix).x.old := by
      rw [← hV]
      apply Classical.byContradiction
      exact fun ne => lk (.inr ⟨by omega, ne⟩)
     simp only [e5, ruS, ruL, ruE, Nat.reduceAdd, reduceIte, Int.reduceLT, Int.reduceLE, Int.reduceEq, Int.reduceNeg, Int.reduceAdd, Int.reduceSub, Nat.reduceLeDiff, Nat.reduceLT]
     rw [lO]
     simp only [ev, w_a1_j8, w_a1_j8b, ruS, ruL, ruE, Nat.reduceAdd, reduceIte, Int.reduceLT, Int.reduceLE, Int.reduceEq, Int.reduceNeg, Int.reduceAdd, Int.reduceSub, Nat.reduceLeDiff, Nat.reduceLT]
     rw [lE]
     simp only [hE, ruS, ruL, ruE, Nat.reduceAdd, reduceIte, Int.reduceLT, Int.reduceLE, Int.reduceEq, Int.reduceNeg, Int.reduceAdd, Int.reduceSub, Nat.reduceLeDiff, Nat.reduceLT]
     rw [lE]
     simp only [hE, ruS, ruL, ruE, Nat.reduceAdd, reduceIte, Int.reduceLT, Int.reduceLE, Int.reduceEq, Int.reduceNeg, Int.reduceAdd, Int.reduceSub, Nat.reduceLeDiff, Nat.reduceLT]
     rw [lK]
     simp only [n1, w_a1_j9, w_a1_j9b, ruS, ruL, ruE, Nat.reduceAdd, reduceIte, Int.reduceLT, Int.reduceLE, Int.reduceEq, Int.reduceNeg, Int.reduceAdd, Int.reduceSub, Nat.reduceLeDiff, Nat.reduceLT]
     rw [lV]
     exact nxt
    ·simp only [e5, w_a1_j8, w_a1_j8b, ruS, ruL, ruE, Nat.reduceAdd, reduceIte, Int.reduceLT, Int.reduceLE, Int.reduceEq, Int.reduceNeg, Int.reduceAdd, Int.reduceSub, Nat.reduceLeDiff, Nat.reduceLT]
     rw [lE]
     simp only [hE, ruS, ruL, ruE, Nat.reduceAdd, reduceIte, Int.reduceLT, Int.reduceLE, Int.reduceEq, Int.reduceNeg, Int.reduceAdd, Int.reduceSub, Nat.reduceLeDiff, Nat.reduceLT]
     rw [lE]
     simp only [hE, ruS, ruL, ruE, Nat.reduceAdd, reduceIte, Int.reduceLT, Int.reduceLE, Int.reduceEq, Int.reduceNeg, Int.reduceAdd, Int.reduceSub, Nat.reduceLeDiff, Nat.reduceLT]
     rw [lK]
     simp only [n1, w_a1_j9, w_a1_j9b, ruS, ruL, ruE, Nat.reduceAdd, reduceIte, Int.reduceLT, Int.reduceLE, Int.reduceEq, Int.reduceNeg, Int.reduceAdd, Int.reduceSub, Nat.reduceLeDiff, Nat.reduceLT]
     rw [lV]
     exact nxt
  simp only [ci, ruS, ruL, ruE, Nat.reduceAdd, reduceIte, Int.reduceLT, Int.reduceLE, Int.reduceEq, Int.reduceNeg, Int.reduceAdd, Int.reduceSub, Nat.reduceLeDiff, Nat.reduceLT]
  refine xLoop_r (fun x ts ls τ3 => ∃ (k : Nat), x = n - k ∧ ts = [.slice (some ⟨p1, 0, none⟩) n 4, .slice (some ⟨p2, 0, none⟩) n 7, .int .i64 val, .int .i64 m, .int .i64 (if ix < i then ix else -1), .int .i64 i, .int .i64 (ctn (fun q => decide ((F q).S < (F i).S)) k), .int .i64 k] ∧ ls = [N.el C who] ∧ k ≤ n ∧ τ3 = τ2) ?_ (n := n)
   ⟨0, rfl, rfl, rfl, by omega, rfl⟩
  rintro x ts ls τ3 ⟨k, rfl, rfl, rfl, kn, rfl⟩ R3 hR3
  have hcl : ctn (fun q => decide ((F q).S < (F i).S)) k ≤ k := ctn_le
  simp only [w_law15_ActMany_l35, w_law15_ActMany_l35b, xLen, ruS, ruL, ruE, Nat.reduceAdd, reduceIte, Int.reduceLT, Int.reduceLE, Int.reduceEq, Int.reduceNeg, Int.reduceAdd, Int.reduceSub, Nat.reduceLeDiff, Nat.reduceLT]
  by_cases ck : (k : Int) < n
  rotate_left
  ·have : k = n := by omega
   subst this
   have hh := hix i (by omega) ci
   have nx2 : ∀ at' : Int, at' = (if ix < ((i + 1 : Nat) : Int) then ix else -1) → w_a1_j10 (fun v _ => v = .bool true) (w_a1_j4 fun v _ => v = .bool true) R (w_a1_j5 (fun v _ => v = .bool true) (w_a1_j4 fun v _ => v = .bool true) R) (w_a1_j6 (fun v _ => v = .bool true) (w_a1_j4 fun v _ => v = .bool true) R (w_a1_j5 (fun v _ => v = .bool true) (w_a1_j4 fun v _ => v = .bool true) R)) R2 [.slice (some ⟨p1, 0, none⟩) k 4, .slice (some ⟨p2, 0, none⟩) k 7, .int .i64 val, .int .i64 m, .int .i64 at', .int .i64 i] [N.el C who] τ3 := fun at' e => by
    simp only [w_a1_j10, w_a1_j10b, ruS, ruL, ruE, Nat.reduceAdd, reduceIte, Int.reduceLT, Int.reduceLE, Int.reduceEq, Int.reduceNeg, Int.reduceAdd, Int.reduceSub, Nat.reduceLeDiff, Nat.reduceLT]
    rw [IntWalk.i64_in ((i : Int) + 1) (by omega), e]
    exact hR2 (k - (i + 1)) _ _ _ (by omega) ⟨i + 1, rfl, rfl, rfl, by omega, rfl⟩
   have hh' : ctn (fun q => decide ((F q).S < (F i).S)) k = m ↔ (i : Int) = ix := hh
   by_cases e : (i : Int) = ix
   ·have em : ((ctn (fun q => decide ((F q).S < (F i).S)) k : Nat) : Int) = (m : Int) := by rw [hh'.2 e]
    simp only [ck, em, w_a1_j11, w_a1_j11b, ruS, ruL, ruE, Nat.reduceAdd, reduceIte, Int.reduceLT, Int.reduceLE, Int.reduceEq, Int.reduceNeg, Int.reduceAdd, Int.reduceSub, Nat.reduceLeDiff, Nat.reduceLT]
    exact nx2 i (by rw [if_pos (by omega)]; exact e)
   ·have em : ¬ ((ctn (fun q => decide ((F q).S < (F i).S)) k : Nat) : Int) = (m : Int) := fun q => e (hh'.1 (by omega))
    simp only [ck, em, w_a1_j11, w_a1_j11b, ruS, ruL, ruE, Nat.reduceAdd, reduceIte, Int.reduceLT, Int.reduceLE, Int.reduceEq, Int.reduceNeg, Int.reduceAdd, Int.reduceSub, Nat.reduceLeDiff, Nat.reduceLT]
    refine nx2 _ ?_
    by_cases q : ix < i
    ·rw [if_pos q, if_pos (by omega)]
    ·rw [if_neg q, if_neg (by omega)]
  have k0 : (0 : Int) ≤ k := by omega
  have i0 : (0 : Int) ≤ i := by omega
  simp only [ck, ruS, ruL, ruE, Nat.reduceAdd, reduceIte, Int.reduceLT, Int.reduceLE, Int.reduceEq, Int.reduceNeg, Int.reduceAdd, Int.reduceSub, Nat.reduceLeDiff, Nat.reduceLT]
  rw [h.r1.fld k0 ck (by decide) (show (dR H F k)[3]? = some (.int .i64 (F k).S) from rfl), h.r1.fld i0 ci (by decide) (show (dR H F i)[3]? = some (.int .i64 (F i).S) from rfl)]
  by_cases e : (F k).S < (F i).S
  ·have ec : ((ctn (fun q => decide ((F q).S < (F i).S)) (k + 1) : Nat) : Int) = ((ctn (fun q => decide ((F q).S < (F i).S)) k : Nat) : Int) + 1 := by
    show ((ctn (fun q => decide ((F q).S < (F i).S)) k + (if decide ((F k).S < (F i).S) = true then 1 else 0) : Nat) : Int) = _
    rw [if_pos (decide_eq_true e)]; rfl
   simp only [e, w_a1_j12, w_a1_j12b, ruS, ruL, ruE, Nat.reduceAdd, reduceIte, Int.reduceLT, Int.reduceLE, Int.reduceEq, Int.reduceNeg, Int.reduceAdd, Int.reduceSub, Nat.reduceLeDiff, Nat.reduceLT]
   rw [IntWalk.i64_in ((k : Int) + 1) (by omega), IntWalk.i64_in (((ctn (fun q => decide ((F q).S < (F i).S)) k : Nat) : Int) + 1) (by omega), ← ec]
   exact hR3 (n - (k + 1)) _ _ _ (by omega) ⟨k + 1, rfl, rfl, rfl, by omega, rfl⟩
  ·have ec : ((ctn (fun q => decide ((F q).S < (F i).S)) (k + 1) : Nat) : Int) = ((ctn (fun q => decide ((F q).S < (F i).S)) k : Nat) : Int) := by
    show ((ctn (fun q => decide ((F q).S < (F i).S)) k + (if decide ((F k).S < (F i).S) = true then 1 else 0) : Nat) : Int) = _
    rw [if_neg (by rw [decide_eq_false e]; exact Bool.false_ne_true)]; rfl
   simp only [e, w_a1_j12, w_a1_j12b, ruS, ruL, ruE, Nat.reduceAdd, reduceIte, Int.reduceLT, Int.reduceLE, Int.reduceEq, Int.reduceNeg, Int.reduceAdd, Int.reduceSub, Nat.reduceLeDiff, Nat.reduceLT]
   rw [IntWalk.i64_in ((k : Int) + 1) (by omega), ← ec]
   exact hR3 (n - (k + 1)) _ _ _ (by omega) ⟨k + 1, rfl, rfl, rfl, by omega, rfl⟩
 -- step by step
 refine xLoop_r (fun x ts ls τ => ∃ (i nx : Int) (n p1 p2 : Nat) (L : Int → Bool) (P : Int → Nat) (O : Int → List Nat) (M : Int → Aa) (Q : Int → Ax) (F : Int → Fi) (hv H : Int → Int) (X : Int → Ax4) (A : Ar) (who : Int), x = (en - i).toNat ∧ ts = [s1, s2, .int .u64 65536, .int .i64 nx, .slice (some ⟨p1, 0, none⟩) n 4, .slice (some ⟨p2, 0, none⟩) n 7, .int .i64 i] ∧ ls = [N.el C who, l3 (pV L P), r21 X] ∧ (0 ≤ i ∧ i ≤ en) ∧ HM N C σ a W s0 cap len2 en i nx n p1 p2 L P O M Q F hv H X A τ) ?_ (n := en.toNat)
  ⟨0, 0, 0, pa, pb, _, _, _, _, _, _, _, _, _, _, 0, by rw [Int.sub_zero], rfl, rfl, ⟨Int.le_refl 0, by rcases hbd.e with e | e <;> omega⟩, hm0⟩
 clear hm0
 rintro x ts ls τ ⟨i, nx, n, p1, p2, L, P, O, M, Q, F, hv, H, X, A, who, rfl, rfl, rfl, ⟨i0, i1⟩, h⟩ R hR
 have hg := hg2.keep h.hw.ext
 have hi3 : i ≤ 1500 := by rcases hbd.e with e | e <;> omega
 have hwA := h.am.ev.ok.w
 have nxt : ∀ (nx' : Int) (n' p1' p2' : Nat) L' P' O' M' Q' F' hv' H' X' A' τ' k', i < en → HM N C σ a W s0 cap len2 en (i + 1) nx' n' p1' p2' L' P' O' M' Q' F' hv' H' X' A' τ' →
   w_a1_j14 (fun v _ => v = .bool true) (w_a1_j2 fun v _ => v = .bool true) R [s1, s2, .int .u64 65536, .int .i64 nx', .slice (some ⟨p1', 0, none⟩) n' 4, .slice (some ⟨p2', 0, none⟩) n' 7, .int .i64 i] [N.el C k', l3 (pV L' P'), r21 X'] τ' := by
  intro nx' n' p1' p2' L' P' O' M' Q' F' hv' H' X' A' τ' k' c h'
  simp only [w_a1_j14, w_a1_j14b, ruS, ruL, ruE, Nat.reduceAdd, reduceIte, Int.reduceLT, Int.reduceLE, Int.reduceEq, Int.reduceNeg, Int.reduceAdd, Int.reduceSub, Nat.reduceLeDiff, Nat.reduceLT]
  rw [IntWalk.i64_in (i + 1) (by omega)]
  exact hR (en - (i + 1)).toNat _ _ _ (by omega) ⟨i + 1, nx', n', p1', p2', L', P', O', M', Q', F', hv', H', X', A', k', rfl, rfl, rfl, ⟨by omega, by omega⟩, h'⟩
 -- one step
 have stp : ∀ (nx : Int) (n p1 p2 : Nat) L P O M Q F hv H X A τ k, i < en → HM N C σ a W s0 cap len2 en i nx n p1 p2 L P O M Q F hv H X A τ → On3 L k → (len2 ≤ i ∨ 1000 ≤ i → k = i % 3) →
   w_a1_j16 (fun v _ => v = .bool true) (w_a1_j2 fun v _ => v = .bool true) R (w_a1_j14 (fun v _ => v = .bool true) (w_a1_j2 fun v _ => v = .bool true) R) [s1, s2, .int .u64 65536, .int .i64 nx, .slice (some ⟨p1, 0, none⟩) n 4, .slice (some ⟨p2, 0, none⟩) n 7, .int .i64 i, .int .i64 k] [N.el C k, l3 (pV L P), r21 X] τ := by
  intro nx n p1 p2 L P O M Q F hv H X A τ k c h hk hq
  have hk1 := hk.1
  have hn40 : (n : Int) ≤ 40 := by
   have := h.bu.cn; have := h.bu.nb
   have z : 0 ≤ t3 (cB L) := by
    have : ∀ j, 0 ≤ cB L j := fun j => by unfold cB; split <;> omega
    have y0 := this 0; have y1 := this 1; have y2 := this 2
    unfold t3; omega
   omega
  have e8 := l3_sub (P := pV L P) hk1.1 hk1.2
  have ep : pV L P k = .pointer (some ⟨P k, 0, none⟩) := by unfold pV; rw [if_pos hk.2]
  have ob := h.hw.ob k hk
  obtain ⟨O1, eO, hO⟩ := ob.to
  obtain ⟨_, mk, _, _, ewk, _⟩ := ob
  obtain ⟨hip, hpc, hf, hst⟩ := h.am.step (who := k) hC hT rfl hk (by omega) ⟨Int.le_refl 0, by decide⟩
  have hbs := h.bu.step hbd h.am hk hq hst
  have hac := Aa.step_ac (C := C) (who := k) (A := A) ⟨mk, ewk⟩
  have f9 : sub (N.el C k) 0 9 true = some (N.env C k) := rfl
  simp only [w_a1_j16, w_a1_j16b, xIxA hk1.1 (show k < (3 : Nat) by omega), Nat.zero_add, e8, ep, ruS, ruL, ruE, Nat.reduceAdd, reduceIte, Int.reduceLT, Int.reduceLE, Int.reduceEq, Int.reduceNeg, Int.reduceAdd, Int.reduceSub, Nat.reduceLeDiff, Nat.reduceLT]
  refine c_ActStep hN hC h.ia hO h.am.ev.ok.w h.am.ev.n1 (by omega) hip hpc hf fun O' τ2 hO' hA2 hO2 hK2 => ?_
  obtain ⟨m', em'⟩ := hac
  generalize hr : (M k).step C k A = r at *
  have hK3 : Keep (O k ++ N.l) τ τ2 := by rw [eO]; exact hK2
  have alive : ∀ {p : Nat} {f : Int → List Value} {es : Nat}, Rr N σ es p n f τ → τ.get p ≠ none := fun {p f es} hr => by rw [hr.gp]; simp
  obtain ⟨O2, hw2, hO2s⟩ := h.hw.step WT.hb hfr hk (O' := P k :: O') (m' := r.2.1) (fun y hy => by
   rcases List.mem_cons.1 hy with e | e
   ·exact .inl (by rw [e, eO]; exact List.mem_cons_self ..)
   ·rcases hO' y e with q | q
    ·exact .inl (by rw [eO]; exact List.mem_cons_of_mem _ q)
    ·exact .inr q) (WT.of hO2 em') hK3
  have r1' := h.r1.keep hK3 (fun hm => by rcases List.mem_append.1 hm with q | q; exact (h.o1 k hk).1 q; exact h.r1.dp.1 q)
  have r2' := h.r2.keep hK3 (fun hm => by rcases List.mem_append.1 hm with q | q; exact (h.o1 k hk).2 q; exact h.r2.dp.1 q)
  have o2 : ∀ l, On3 L l → p1 ∉ O2 l ∧ p2 ∉ O2 l := fun l hl => ⟨fun q => by
   rcases hO2s l _ q with q | q
   ·exact (h.o1 l hl).1 q
   ·exact alive h.r1 q, fun q => by
   rcases hO2s l _ q with q | q
   ·exact (h.o1 l hl).2 q
   ·exact alive h.r2 q⟩
  rcases hbs with ⟨er, hv', am', bu'⟩ | ⟨er, hp2, ea, hv', am', bu'⟩
  ·simp only [er, ruS, ruL, ruE, Nat.reduceAdd, reduceIte, Int.reduceLT, Int.reduceLE, Int.reduceEq, Int.reduceNeg, Int.reduceAdd, Int.reduceSub, Nat.reduceLeDiff, Nat.reduceLT]
   exact nxt nx n p1 p2 L P O2 _ Q F hv' H X r.2.2 τ2 k c ⟨by rw [show 1000000 + (i + 1) = 1000000 + i + 1 by omega]; exact am', bu', hA2, hw2, r1', r2', h.ne, o2, h.xq⟩
  ·simp only [er, xIxA hk1.1 (show k < (3 : Nat) by omega), Nat.zero_add, e8, ep, ruS, ruL, ruE, Nat.reduceAdd, reduceIte, Int.reduceLT, Int.reduceLE, Int.reduceEq, Int.reduceNeg, Int.reduceAdd, Int.reduceSub, Nat.reduceLeDiff, Nat.reduceLT]
   refine TOb.done hO2 ?_
   rw [ea]
   have bu4 : ∀ e h v s : Int, gBuildS 4 1 [.int .i64 0, .int .u64 0, .int .i64 0, .int .i64 0] [0] [.agg #[.int .i64 e, .int .u64 h, .int .i64 v, .int .i64 s]] [] = some [.int .i64 e, .int .u64 h, .int .i64 v, .int .i64 s] := fun _ _ _ _ => nr rfl
   have bu7 : ∀ t : Ax4, gBuildS 7 1 [.int .i64 0, .int .i64 0, .int .u64 0, .int .i64 0, .int .i64 0, .int .i64 0, .bool false] [0] [actV t] [] = some (actR t) := fun _ => nr rfl
   simp only [bu4, ruS, ruL, ruE, Nat.reduceAdd, reduceIte, Int.reduceLT, Int.reduceLE, Int.reduceEq, Int.reduceNeg, Int.reduceAdd, Int.reduceSub, Nat.reduceLeDiff, Nat.reduceLT]
   refine app4 r1'.gp r1'.ln (by omega) rfl rfl fun ia τ3 hia gia kia => ?_
   have n1a : ∀ l, On3 L l → ia ∉ O2 l := fun l hl q => hw2.al l hl ia q hia
   have hA3 := hA2.off kia r1'.dp.1
   have hw3 := hw2.keep WT.hb kia fun y hy => by
    rw [List.mem_singleton] at hy; subst hy
    exact ⟨r1'.dp.2, fun l hl => (o2 l hl).1⟩
   have r2'' := r2'.keep kia (by simpa using h.ne.symm)
   have e9 := r21_sub (X := X) hk1.1 hk1.2
   simp only [xIxA hk1.1 (show k < (3 : Nat) by omega), Nat.zero_add, e9, bu7, ruS, ruL, ruE, Nat.reduceAdd, reduceIte, Int.reduceLT, Int.reduceLE, Int.reduceEq, Int.reduceNeg, Int.reduceAdd, Int.reduceSub, Nat.reduceLeDiff, Nat.reduceLT]
   refine app7 r2''.gp r2''.ln (by omega) rfl rfl fun ib τ4 hib gib kib => ?_
   have n1b : ∀ l, On3 L l → ib ∉ O2 l := fun l hl q => hw3.al l hl ib q hib
   have hA4 := hA3.off kib r2''.dp.1
   have hw4 := hw3.keep WT.hb kib fun y hy => by
    rw [List.mem_singleton] at hy; subst hy
    exact ⟨r2''.dp.2, fun l hl => (o2 l hl).2⟩
   have iab : ia ≠ ib := fun e => by subst e; rw [gia] at hib; cases hib
   have iap2 : ia ≠ p2 := fun e => by subst e; have := r2'.gp; rw [hia] at this; cases this
   have s8 := l3_set (P := pV L P) (x := .pointer none) (q := 8) hk1.1 hk1.2 rfl rfl
   rw [pV_off] at s8
   simp only [xIxA hk1.1 (show k < (3 : Nat) by omega), Nat.zero_add, s8, ruS, ruL, ruE, Nat.reduceAdd, reduceIte, Int.reduceLT, Int.reduceLE, Int.reduceEq, Int.reduceNeg, Int.reduceAdd, Int.reduceSub, Nat.reduceLeDiff, Nat.reduceLT]
   have on : ∀ l, On3 (updX L k false) l → On3 L l ∧ l ≠ k := fun l hl => by
    by_cases e : l = k
    ·have := hl.2; rw [e, updX_same] at this; cases this
    ·have := hl.2; rw [updX_ne e] at this; exact ⟨⟨hl.1, this⟩, e⟩
   refine nxt nx (n + 1) ia ib (updX L k false) P O2 M Q (fun i => if i = n then ⟨Q k, (M k).oE, (M k).oV, (M k).oS⟩ else F i) hv' (fun i => if i = n then (M k).oH else H i) X r.2.2 τ4 k c
    ⟨by rw [show 1000000 + (i + 1) = 1000000 + i + 1 by omega]; exact am', bu', hA4, (hw4.less fun l hl => (on l hl).1).congr fun l hl => (updX_ne (on l hl).2).symm, ⟨?_, ⟨hA2.new hia, ?_⟩, fun _ => rfl⟩, ⟨?_, ⟨hA3.new hib, ?_⟩, fun _ => rfl⟩, iab, fun l hl => ⟨n1a l (on l hl).1, n1b l (on l hl).1⟩, fun l hl => h.xq l (on l hl).1⟩
   ·have e1 : rowL (dR (fun i => if i = n then (M k).oH else H i) fun i => if i = n then ⟨Q k, (M k).oE, (M k).oV, (M k).oS⟩ else F i) n = rowL (dR H F) n := rowL_congr fun j j0 j1 => by
     unfold dR
     simp only [if_neg (show ¬ j = n by omega)]
    rw [kib.get gia (by simpa using iap2)]
    show some (⟨_, true⟩ : Blk) = some ⟨rowL _ n ++ _, true⟩
    rw [e1]
    unfold dR
    simp only [if_true]
   ·exact hw2.ext.none hia
   ·have e1 : rowL (fun i : Int => actR (toA (if i = n then (⟨Q k, (M k).oE, (M k).oV, (M k).oS⟩ : Fi) else F i).x)) n = rowL (fun i => actR (toA (F i).x)) n := rowL_congr fun j j0 j1 => by
     simp only [if_neg (show ¬ j = n by omega)]
    rw [gib]
    show some (⟨_, true⟩ : Blk) = some ⟨rowL _ n ++ _, true⟩
    rw [e1]
    simp only [if_true]
    rw [h.xq k hk]
   ·exact hw3.ext.none hib
 -- the one who is picked
 have go : ∀ k, i < en → 0 ≤ k → k < 3 → (len2 ≤ i ∨ 1000 ≤ i → k = i % 3) → w_a1_j15 (fun v _ => v = .bool true) (w_a1_j2 fun v _ => v = .bool true) R (w_a1_j14 (fun v _ => v = .bool true) (w_a1_j2 fun v _ => v = .bool true) R) [s1, s2, .int .u64 65536, .int .i64 nx, .slice (some ⟨p1, 0, none⟩) n 4, .slice (some ⟨p2, 0, none⟩) n 7, .int .i64 i, .int .i64 k] [N.el C who, l3 (pV L P), r21 X] τ := by
  intro k c k0 k1 hq
  have g8 : gStore 1 [.pointer (some ⟨5, 8, some 0⟩), .int .i64 k] (N.el C who) = some (N.el C k) := rfl
  have e8 := l3_sub (P := pV L P) k0 k1
  simp only [w_a1_j15, w_a1_j15b, g8, xIxA k0 (show k < (3 : Nat) by omega), Nat.zero_add, e8, ruS, ruL, ruE, Nat.reduceAdd, reduceIte, Int.reduceLT, Int.reduceLE, Int.reduceEq, Int.reduceNeg, Int.reduceAdd, Int.reduceSub, Nat.reduceLeDiff, Nat.reduceLT]
  cases hL : L k with
  | true =>
   have ep : pV L P k = .pointer (some ⟨P k, 0, none⟩) := by unfold pV; rw [if_pos hL]
   simp only [ep, ruS, ruL, ruE, Nat.reduceAdd, reduceIte, Int.reduceLT, Int.reduceLE, Int.reduceEq, Int.reduceNeg, Int.reduceAdd, Int.reduceSub, Nat.reduceLeDiff, Nat.reduceLT]
   exact stp nx n p1 p2 L P O M Q F hv H X A τ k c h ⟨⟨k0, k1⟩, hL⟩ hq
  | false =>
   have ep : pV L P k = .pointer none := by unfold pV; rw [if_neg (by rw [hL]; decide)]
   have hnb := h.bu.nb
   have off : nx = cap ∨ len2 ≤ i → w_a1_j14 (fun v _ => v = .bool true) (w_a1_j2 fun v _ => v = .bool true) R [s1, s2, .int .u64 65536, .int .i64 nx, .slice (some ⟨p1, 0, none⟩) n 4, .slice (some ⟨p2, 0, none⟩) n 7, .int .i64 i] [N.el C k, l3 (pV L P), r21 X] τ := fun ho =>
    nxt nx n p1 p2 L P O M Q F hv H X A τ k c ⟨⟨h.am.ev.mono (by omega), h.am.ep, h.am.pn, h.am.s, h.am.h0, h.am.now, h.am.hb, h.am.qv, h.am.th, h.am.fi, h.am.d1, h.am.d2, h.am.d3, h.am.ch⟩, h.bu.skip hbd h.am.bB hL hq ho, h.ia, h.hw, h.r1, h.r2, h.ne, h.o1, h.xq⟩
   have new : nx < len1 → nx < 40 → i < len2 → w_a1_j17 (fun v _ => v = .bool true) (w_a1_j2 fun v _ => v = .bool true) R (w_a1_j14 (fun v _ => v = .bool true) (w_a1_j2 fun v _ => v = .bool true) R) (w_a1_j16 (fun v _ => v = .bool true) (w_a1_j2 fun v _ => v = .bool true) R (w_a1_j14 (fun v _ => v = .bool true) (w_a1_j2 fun v _ => v = .bool true) R)) [s1, s2, .int .u64 65536, .int .i64 nx, .slice (some ⟨p1, 0, none⟩) n 4, .slice (some ⟨p2, 0, none⟩) n 7, .int .i64 i, .int .i64 k] [N.el C k, l3 (pV L P), r21 X] τ := by
    intro c1 c2 c3
    have hgs := hg1.keep h.hw.ext
    obtain ⟨v0, v4, v5⟩ := hq1 nx.toNat (by omega)
    simp only [w_a1_j17, w_a1_j17b, ruS, ruL, ruE, Nat.reduceAdd, reduceIte, Int.reduceLT, Int.reduceLE, Int.reduceEq, Int.reduceNeg, Int.reduceAdd, Int.reduceSub, Nat.reduceLeDiff, Nat.reduceLT]
    rw [hgs.fld hnb.1 c1 (by decide) v0]
    obtain ⟨m1, m2, m3⟩ := pick3 (q1 nx.toNat).1
    simp only [xRem (show (3 : Int) ≠ 0 by decide), m1, ruS, ruL, ruE, Nat.reduceAdd, reduceIte, Int.reduceLT, Int.reduceLE, Int.reduceEq, Int.reduceNeg, Int.reduceAdd, Int.reduceSub, Nat.reduceLeDiff, Nat.reduceLT]
    generalize ((q1 nx.toNat).1.tmod 3 + 3).tmod 3 = kk at m2 m3
    rw [IntWalk.i64_in (3 + kk) (by omega), hgs.fld hnb.1 c1 (by decide) v4]
    simp only [andI7, ruS, ruL, ruE, Nat.reduceAdd, reduceIte, Int.reduceLT, Int.reduceLE, Int.reduceEq, Int.reduceNeg, Int.reduceAdd, Int.reduceSub, Nat.reduceLeDiff, Nat.reduceLT]
    have hv8 : 0 ≤ (q1 nx.toNat).2.1 % 8 ∧ (q1 nx.toNat).2.1 % 8 < 8 := by omega
    generalize (q1 nx.toNat).2.1 % 8 = v8 at hv8
    rw [IntWalk.i64_in (1 + v8) (by omega), hgs.fld hnb.1 c1 (by decide) v5]
    have ho8 : 0 ≤ (q1 nx.toNat).2.2 % 8 ∧ (q1 nx.toNat).2.2 % 8 < 8 := by omega
    simp only [andI7, ruS, ruL, ruE, Nat.reduceAdd, reduceIte, Int.reduceLT, Int.reduceLE, Int.reduceEq, Int.reduceNeg, Int.reduceAdd, Int.reduceSub, Nat.reduceLeDiff, Nat.reduceLT]
    generalize (q1 nx.toNat).2.2 % 8 = o8 at ho8
    have s9 := r21_set (X := X) (t := ⟨3 + kk, 65536, 1 + v8, o8⟩) (q := 9) k0 k1
    have e9 := r21_sub (X := updX X k ⟨3 + kk, 65536, 1 + v8, o8⟩) k0 k1
    rw [updX_same] at e9
    simp only [b4, xIxA k0 (show k < (3 : Nat) by omega), Nat.zero_add, s9, e9, ruS, ruL, ruE, Nat.reduceAdd, reduceIte, Int.reduceLT, Int.reduceLE, Int.reduceEq, Int.reduceNeg, Int.reduceAdd, Int.reduceSub, Nat.reduceLeDiff, Nat.reduceLT]
    rw [IntWalk.i64_in (nx + 1) (by omega)]
    refine c_ActNew h.ia (k := 3 + kk) (v := 1 + v8) (old := o8) ⟨⟨by omega, by omega⟩, ⟨by omega, by omega⟩, ⟨by omega, by omega⟩⟩ fun p q τ2 hp hqn ho x2 => ?_
    have ewk : (Aa.new (Wk.of (3 + kk) 0 65536 0 (1 + v8) o8 false)).wk = .ac (Ak.new (1 + kk) 65536 0 (1 + v8) o8 false) := by
     show Wk.of (3 + kk) 0 65536 0 (1 + v8) o8 false = _
     unfold Wk.of
     rw [if_neg (by omega), if_neg (by omega), show 3 + kk - 2 = 1 + kk by omega]
    have hnk : ¬ On3 L k := fun q => by have := q.2; rw [hL] at this; cases this
    obtain ⟨O2, hw2, hO2s⟩ := h.hw.newO WT.hb (i := k) (O1 := [p, q]) hnk (fun y hy => by
     rcases List.mem_cons.1 hy with e | e
     ·rw [e]; exact hp
     ·rw [List.mem_singleton.1 e]; exact hqn) (WT.of ho ewk) x2
    have s8 := l3_set (P := pV L P) (x := .pointer (some ⟨p, 0, none⟩)) (q := 8) k0 k1 rfl rfl
    rw [pV_on] at s8
    simp only [xIxA k0 (show k < (3 : Nat) by omega), Nat.zero_add, s8, ruS, ruL, ruE, Nat.reduceAdd, reduceIte, Int.reduceLT, Int.reduceLE, Int.reduceEq, Int.reduceNeg, Int.reduceAdd, Int.reduceSub, Nat.reduceLeDiff, Nat.reduceLT]
    have alive : ∀ {p : Nat} {f : Int → List Value} {es : Nat}, Rr N σ es p n f τ → τ.get p ≠ none := fun {p f es} hr => by rw [hr.gp]; simp
    have on : ∀ l, On3 (updX L k true) l → On3 L l ∨ l = k := fun l hl => by
     by_cases e : l = k
     ·exact .inr e
     ·have := hl.2; rw [updX_ne e] at this; exact .inl ⟨hl.1, this⟩
    refine stp (nx + 1) n p1 p2 (updX L k true) (updX P k p) O2 (updX M k (Aa.new (Wk.of (3 + kk) 0 65536 0 (1 + v8) o8 false))) (updX Q k ⟨1 + kk, 1 + v8, o8⟩) F hv H (updX X k ⟨3 + kk, 65536, 1 + v8, o8⟩) A τ2 k c
     ⟨h.am.new hL (by show 0 ≤ 1 + v8 ∧ 1 + v8 ≤ 8; omega) rfl rfl ewk, h.bu.new hbd h.am.bB k0 k1 hL (by rcases hcp.2.2 with e | e <;> omega) c3 rfl rfl, h.ia.ext x2, hw2.less on, h.r1.ext x2, h.r2.ext x2, h.ne, fun l hl => ?_, fun l hl => ?_⟩ ⟨⟨k0, k1⟩, updX_same⟩ hq
    ·have key : ∀ {p : Nat} {f : Int → List Value} {es : Nat}, Rr N σ es p n f τ → (∀ l, On3 L l → p ∉ O l) → p ∉ O2 l := fun {p f es} hr hno q => by
      rcases hO2s l _ q with ⟨e, z⟩ | z
      ·exact hno l (by rcases on l hl with y | y; exact y; exact absurd y e) z
      ·exact alive hr z
     exact ⟨key h.r1 fun l hl => (h.o1 l hl).1, key h.r2 fun l hl => (h.o1 l hl).2⟩
    ·by_cases e : l = k
     ·rw [e, updX_same, updX_same]
      show (⟨3 + kk, 65536, 1 + v8, o8⟩ : Ax4) = ⟨1 + kk + 2, 65536, 1 + v8, o8⟩
      rw [show 3 + kk = 1 + kk + 2 by omega]
     ·rw [updX_ne e, updX_ne e]; exact h.xq l (by rcases on l hl with y | y; exact y; exact absurd y e)
   simp only [ep, hg1.len, hg.len, ruS, ruL, ruE, Nat.reduceAdd, reduceIte, Int.reduceLT, Int.reduceLE, Int.reduceEq, Int.reduceNeg, Int.reduceAdd, Int.reduceSub, Nat.reduceLeDiff, Nat.reduceLT]
   by_cases c1 : (len1 : Int) ≤ nx
   ·simp only [c1, ruS, ruL, ruE, Nat.reduceAdd, reduceIte, Int.reduceLT, Int.reduceLE, Int.reduceEq, Int.reduceNeg, Int.reduceAdd, Int.reduceSub, Nat.reduceLeDiff, Nat.reduceLT]
    exact off (.inl (by rcases hcp.2.2 with e | e <;> omega))
   by_cases c2 : (40 : Int) ≤ nx
   ·simp only [c1, c2, ruS, ruL, ruE, Nat.reduceAdd, reduceIte, Int.reduceLT, Int.reduceLE, Int.reduceEq, Int.reduceNeg, Int.reduceAdd, Int.reduceSub, Nat.reduceLeDiff, Nat.reduceLT]
    exact off (.inl (by omega))
   by_cases c3 : (len2 : Int) ≤ i
   ·simp only [c1, c2, c3, ruS, ruL, ruE, Nat.reduceAdd, reduceIte, Int.reduceLT, Int.reduceLE, Int.reduceEq, Int.reduceNeg, Int.reduceAdd, Int.reduceSub, Nat.reduceLeDiff, Nat.reduceLT]
    exact off (.inr c3)
   simp only [c1, c2, c3, ruS, ruL, ruE, Nat.reduceAdd, reduceIte, Int.reduceLT, Int.reduceLE, Int.reduceEq, Int.reduceNeg, Int.reduceAdd, Int.reduceSub, Nat.reduceLeDiff, Nat.reduceLT]
   exact new (by omega) (by omega) (by omega)
 simp only [w_law15_ActMany_l9, w_law15_ActMany_l9b, hg.len, ruS, ruL, ruE, Nat.reduceAdd, reduceIte, Int.reduceLT, Int.reduceLE, Int.reduceEq, Int.reduceNeg, Int.reduceAdd, Int.reduceSub, Nat.reduceLeDiff, Nat.reduceLT]
 rw [IntWalk.i64_in ((len2 : Int) + 400) (by omega)]
 by_cases ca : i < (len2 : Int) + 400
 rotate_left
 ·have e : i = en := by rw [← hen] at i1 ⊢; split at i1 <;> split <;> omega
  simp only [ca, ruS, ruL, ruE, Nat.reduceAdd, reduceIte, Int.reduceLT, Int.reduceLE, Int.reduceEq, Int.reduceNeg, Int.reduceAdd, Int.reduceSub, Nat.reduceLeDiff, Nat.reduceLT]
  subst e
  exact fin nx n p1 p2 L P O M Q F hv H X A τ who h
 by_cases cb : i < 1500
 rotate_left
 ·have e : i = en := by rw [← hen] at i1 ⊢; split at i1 <;> split <;> omega
  simp only [ca, cb, ruS, ruL, ruE, Nat.reduceAdd, reduceIte, Int.reduceLT, Int.reduceLE, Int.reduceEq, Int.reduceNeg, Int.reduceAdd, Int.reduceSub, Nat.reduceLeDiff, Nat.reduceLT]
  subst e
  exact fin nx n p1 p2 L P O M Q F hv H X A τ who h
 have c : i < en := by rw [← hen]; split <;> omega
 have m3 : i.tmod 3 = i % 3 := Int.tmod_eq_emod_of_nonneg i0
 have go0 := go (i % 3) c (by omega) (by omega) fun _ => rfl
 simp only [ca, cb, w_a1_j13, w_a1_j13b, hg.len, xRem (show (3 : Int) ≠ 0 by decide), m3, w_a1_j18, w_a1_j18b, ruS, ruL, ruE, Nat.reduceAdd, reduceIte, Int.reduceLT, Int.reduceLE, Int.reduceEq, Int.reduceNeg, Int.reduceAdd, Int.reduceSub, Nat.reduceLeDiff, Nat.reduceLT]
 by_cases c1 : i < len2
 rotate_left
 ·simp only [c1, ruS, ruL, ruE, Nat.reduceAdd, reduceIte, Int.reduceLT, Int.reduceLE, Int.reduceEq, Int.reduceNeg, Int.reduceAdd, Int.reduceSub, Nat.reduceLeDiff, Nat.reduceLT]; exact go0
 by_cases c2 : i < 1000
 rotate_left
 ·simp only [c1, c2, ruS, ruL, ruE, Nat.reduceAdd, reduceIte, Int.reduceLT, Int.reduceLE, Int.reduceEq, Int.reduceNeg, Int.reduceAdd, Int.reduceSub, Nat.reduceLeDiff, Nat.reduceLT]; exact go0
 simp only [c1, c2, ruS, ruL, ruE, Nat.reduceAdd, reduceIte, Int.reduceLT, Int.reduceLE, Int.reduceEq, Int.reduceNeg, Int.reduceAdd, Int.reduceSub, Nat.reduceLeDiff, Nat.reduceLT]
 rw [hg.ix i0 c1]
 obtain ⟨z1, z2, z3⟩ := pick3 (g2 i)
 simp only [xRem (show (3 : Int) ≠ 0 by decide), z1, ruS, ruL, ruE, Nat.reduceAdd, reduceIte, Int.reduceLT, Int.reduceLE, Int.reduceEq, Int.reduceNeg, Int.reduceAdd, Int.reduceSub, Nat.reduceLeDiff, Nat.reduceLT]
 exact go _ c z2 z3 fun x => by omega
end Go.Fl
