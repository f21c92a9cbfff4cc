/- What the claim leans on, part 5: own readings of the program's functions, what they come to, laws of them. No condition. -/
import Derived.Test.YthibiempfkcinaaZAllocAlone4
namespace Go.Fl
open Go
set_option linter.unusedVariables false
set_option linter.unusedSimpArgs false
variable {N : Nm} {A B : Ar} {σ : Mem} {K : Value → Mem → Prop} {C : Cf} {who : Int}
structure Bg where
  F : List Int
  o : Int → Int
  u : Int → Int
  lv : Int → Int
  nx : Int
def PhT (C : Cf) (b : Bg) (size : Int) (own : Bool) (k : Int) (m : Am) (w : Int → Int) : Prop :=
  Aw C b.F b.o b.u b.lv b.nx w ∧ m.a.size = size ∧ m.a.own = own ∧ m.a.pc = 0 ∧
    (m.a.tk = Tk.new ∧ k = 0 ∨ (∃ s F, b.F = s :: F ∧ m.a.tk = ⟨1, w 1, 0, s, false⟩) ∧ k = 1 ∨ (∃ s F, b.F = s :: F ∧ m.a.tk = ⟨2, w 1, topS (w (C.slot s + 1)), s, false⟩) ∧ k = 2)
theorem PhT.new {b : Bg} {w : Int → Int} (h : Aw C b.F b.o b.u b.lv b.nx w) {size : Int} {own : Bool} : PhT C b size own 0 (Am.new size own) w :=
  ⟨h, rfl, rfl, rfl, .inl ⟨rfl, rfl⟩⟩
theorem PhT.fit (hC : C.ok) {b : Bg} {size k bb : Int} {own : Bool} {m : Am} (h : PhT C b size own k m A.w) (ok : A.ok bb) : m.fit C A := by
  obtain ⟨hA, h1, h2, h3, h⟩ := h
  refine ⟨by omega, fun _ => ?_, fun e => absurd h3 e, fun e => absurd h3 e, fun e => by omega, fun e _ => by omega, fun e => by omega⟩
  have w1 := ok.w 1
  rcases h with ⟨e, _⟩ | ⟨⟨s, F, hF, e⟩, _⟩ | ⟨⟨s, F, hF, e⟩, _⟩
  · rw [e]; exact ⟨⟨Int.le_refl 0, (by decide : (0 : Int) < 18446744073709551616)⟩, fun q => (by cases q), (by decide : (0 : Int) ≤ 0 + 1)⟩
  · have hs := hA.fre.c.mem s (by rw [hF]; simp)
    rw [e]; exact ⟨w1, fun _ => hs, by show (0 : Int) ≤ 0 + 1; decide⟩
  · have := topS_ge (A.w (C.slot s + 1)) (ok.w _).1
    rw [e]; exact ⟨w1, fun q => (by cases q), by show 0 ≤ topS (A.w (C.slot s + 1)) + 1; omega⟩
theorem PhT.step (hC : C.ok) {b : Bg} {size k bb : Int} {own : Bool} {m : Am} (h : PhT C b size own k m A.w) (ok : A.ok bb) (hb : bb < 4611686018427387904) (hcl : 0 ≤ classOf size) :
    ((m.step C who A).1 = false ∧ PhT C b size own (k + 1) (m.step C who A).2.1 (m.step C who A).2.2.w) ∨
    ((m.step C who A).1 = true ∧ b.F = [] ∧ (m.step C who A).2.1.a.oE = 7 ∧ (m.step C who A).2.1.a.oH = 0 ∧ (m.step C who A).2.1.a.oS = (m.step C who A).2.2.s ∧ Aw C b.F b.o b.u b.lv b.nx (m.step C who A).2.2.w) ∨
    ((m.step C who A).1 = false ∧ ∃ s F, b.F = s :: F ∧ (m.step C who A).2.1.a.pc = 1 ∧ (m.step C who A).2.1.a.at' = s ∧ (m.step C who A).2.1.a.size = size ∧ (m.step C who A).2.1.a.own = own ∧ Aw C F b.o b.u b.lv b.nx (m.step C who A).2.2.w) := by
  obtain ⟨hA, h1, h2, h3, h⟩ := h
  have hcl' : ¬ classOf m.a.size < 0 := by rw [h1]; omega
  have e : m.step C who A = (let r := m.a.tk.step C who A
    if r.1 = false then (false, { m with a := { m.a with tk := r.2.1 } }, r.2.2)
    else if r.2.1.ok = true then (false, { m with a := { m.a with tk := r.2.1, at' := r.2.1.slot, pc := 1 } }, r.2.2)
    else (true, { m with a := { m.a with tk := r.2.1, at' := 0, pc := 1, oE := 7, oH := 0, oV := 0, oS := r.2.2.s } }, r.2.2)) := by
    unfold Am.step; rw [if_pos h3, if_neg hcl']
  rw [e]
  rcases h with ⟨q, hk⟩ | ⟨⟨s, F, hF, q⟩, hk⟩ | ⟨⟨s, F, hF, q⟩, hk⟩
  · rw [q, Tk.new, Tk.step0]
    cases hF : b.F with
    | nil =>
      have ht : topS (A.w 1) < 0 := by have : topS (A.w 1) = -1 := by have := hA.fre.c; rw [hF] at this; exact this
                                       omega
      simp only [ht, decide_true, Bool.true_eq_false, Bool.false_eq_true, if_false]
      rw [← hF]
      exact .inr (.inl ⟨trivial, by first | trivial | exact hF, trivial, trivial, trivial, hA⟩)
    | cons s F =>
      have hc := hA.fre.c
      rw [hF] at hc
      have ht : ¬ topS (A.w 1) < 0 := by have := hc.1; have := hc.2.1; omega
      simp only [ht, decide_false, if_true]
      exact .inl ⟨trivial, hA, h1, h2, h3, .inr (.inl ⟨⟨s, F, hF, by rw [hc.1]; rfl⟩, by omega⟩)⟩
  · rw [q, Tk.step1]
    simp only [if_true]
    exact .inl ⟨trivial, hA, h1, h2, h3, .inr (.inr ⟨⟨s, F, hF, rfl⟩, by omega⟩)⟩
  · have hc := hA.fre.c
    rw [hF] at hc
    rw [q, Tk.step2]
    simp only [decide_true, Bool.true_eq_false, if_false, if_true]
    refine .inr (.inr ⟨trivial, s, F, hF, trivial, rfl, h1, h2, ?_⟩)
    have a1 := aft_cas (who := who) (A := A) (a := 1) (o := A.w 1) (v := putTop (topS (A.w (C.slot s + 1))) (topN (A.w 1) + 1)) ok (by omega)
    rw [if_pos rfl] at a1
    have hA' := hA
    rw [hF] at hA'
    have := hA'.took hC
    unfold tookW at this
    rw [hc.1] at this
    rw [a1.w]; exact this
structure Has (C : Cf) (size : Int) (own : Bool) (s : Int) (m : Am) : Prop where
  size : m.a.size = size
  own : m.a.own = own
  at' : m.a.at' = s
def PhP (C : Cf) (b : Bg) (F : List Int) (size : Int) (own : Bool) (s ge k : Int) (m : Am) (w : Int → Int) : Prop :=
  Has C size own s m ∧ m.a.gen = ge ∧ m.a.pc = 2 ∧ m.t.fit C ∧ Ph C b.o b.u b.nx (classOf size) k m.t w ∧ Rs C F b.u b.lv w
theorem PhP.step (hC : C.ok) {b : Bg} {F : List Int} {size s ge k bb : Int} {own : Bool} {m : Am} (h : PhP C b F size own s ge k m A.w) (hP : Pa C A bb) (hb : bb < 4611686018427387904) (hcl : 0 ≤ classOf size) (hcl3 : classOf size ≤ 3) (hu : ∀ j, 0 ≤ j → j < C.C → 0 ≤ b.u j) :
    ((m.step C who A).1 = false ∧ PhP C b F size own s ge (k + 1) (m.step C who A).2.1 (m.step C who A).2.2.w) ∨
    ((m.step C who A).1 = false ∧ Rs C F b.u b.lv (m.step C who A).2.2.w ∧ Has C size own s (m.step C who A).2.1 ∧ (m.step C who A).2.1.a.gen = ge ∧ Dn C b.o b.u b.nx (classOf size) (m.step C who A).2.1.t (m.step C who A).2.2.w ∧
      ((m.step C who A).2.1.t.ok = true ∧ (m.step C who A).2.1.a.pc = 3 ∧ (m.step C who A).2.1.a.sa = (m.step C who A).2.1.t.sa ∧ (m.step C who A).2.1.a.sc = (m.step C who A).2.1.t.sc ∨
       (m.step C who A).2.1.t.ok = false ∧ (m.step C who A).2.1.a.pc = 7 ∧ (m.step C who A).2.1.a.oE = 6 ∧ (m.step C who A).2.1.a.oH = 0 ∧ (m.step C who A).2.1.a.oS = (m.step C who A).2.2.s ∧ (m.step C who A).2.1.g = ⟨0, s, 0⟩)) := by
  obtain ⟨hs, hg, h2, hf, hp, hr⟩ := h
  have e : m.step C who A = (let r := m.t.step C who A
    if r.1 = false then (false, { m with t := r.2.1 }, r.2.2)
    else if r.2.1.ok = true then (false, { m with a := { m.a with sa := r.2.1.sa, sc := r.2.1.sc, pc := 3 }, t := r.2.1 }, r.2.2)
    else (false, { m with a := { m.a with sa := 0, sc := 0, pc := 7, oE := 6, oH := 0, oV := 0, oS := r.2.2.s }, t := r.2.1, g := ⟨0, m.a.at', 0⟩ }, r.2.2)) := by
    unfold Am.step; rw [if_neg (by omega), if_neg (by omega), if_pos h2]
  obtain ⟨q1, q2, a, q3⟩ := Pl.go (who := who) hC hb hP hf
  have hr' := hr.go hC hu hf q3
  have hst := hp.step (who := who) hC hcl hcl3 hP.ok hb hf
  rw [e]
  generalize m.t.step C who A = r at *
  obtain ⟨d, t', A'⟩ := r
  dsimp only at *
  cases d with
  | false =>
    simp only [Bool.false_eq_true, if_false, if_true] at hst ⊢
    exact .inl ⟨trivial, ⟨hs.size, hs.own, hs.at'⟩, hg, h2, q2 rfl, hst, hr'⟩
  | true =>
    simp only [if_true, Bool.true_eq_false, if_false] at hst ⊢
    cases o : t'.ok with
    | true =>
      simp only [if_true]
      exact .inr ⟨trivial, hr', ⟨hs.size, hs.own, hs.at'⟩, hg, hst, .inl (by simp [o])⟩
    | false =>
      simp only [Bool.false_eq_true, if_false]
      exact .inr ⟨trivial, hr', ⟨hs.size, hs.own, hs.at'⟩, hg, hst, .inr (by simp [o, hs.at'])⟩
theorem Ph.new {o u w : Int → Int} {nx c : Int} (h : Alo C o u nx w) : Ph C o u nx c 0 (Pl.new c) w := by
  have hbd := h.bd
  refine ⟨rfl, rfl, ?_⟩
  by_cases gd : good C o u c
  · exact .inl ⟨.inl ⟨gd, h⟩, .inl ⟨rfl, by omega⟩⟩
  · exact .inr ⟨gd, .inl ⟨h, .inl ⟨rfl, by omega⟩⟩⟩
theorem see_step (hC : C.ok) {b : Bg} {F : List Int} {size s : Int} {own : Bool} {m : Am} (hA : Aw C F b.o b.u b.lv b.nx A.w) (hs : Has C size own s m) (h1 : m.a.pc = 1) (hcl : 0 ≤ classOf size) (hcl3 : classOf size ≤ 3) :
    (m.step C who A).1 = false ∧ PhP C b F size own s (slG (A.w (C.slot s))) 0 (m.step C who A).2.1 (m.step C who A).2.2.w := by
  have e : m.step C who A = (false, { m with a := { m.a with gen := slG (A.w (C.slot m.a.at')), pc := 2 }, t := Pl.new (classOf m.a.size) }, (A.by who).load (C.slot m.a.at')) := by
    unfold Am.step; rw [if_neg (by omega), if_pos h1]
  rw [e]
  refine ⟨rfl, ⟨hs.size, hs.own, hs.at'⟩, by show slG (A.w (C.slot m.a.at')) = _; rw [hs.at'], rfl, ?_, ?_, hA.rs⟩
  · show (Pl.new (classOf m.a.size)).fit C
    rw [hs.size]; exact Pl.new_fit hC hcl hcl3
  · show Ph C b.o b.u b.nx (classOf size) 0 (Pl.new (classOf m.a.size)) A.w
    rw [hs.size]; exact Ph.new hA.alo
structure Spt (C : Cf) (size : Int) (own : Bool) (s ge j i : Int) (u : Int → Int) (m : Am) : Prop where
  has : Has C size own s m
  gen : m.a.gen = ge
  sc : m.a.sc = j
  sa : m.a.sa = C.base j + i
  j0 : 0 ≤ j ∧ j < C.C
  i0 : 0 ≤ i ∧ i + roomOf (classOf size) ≤ u j ∧ u j ≤ C.W
theorem count_step (hC : C.ok) {F : List Int} {o u lv : Int → Int} {nx size s ge j i bb : Int} {own : Bool} {m : Am} (hA : Aw C F o u lv nx A.w) (hs : Spt C size own s ge j i u m) (h3 : m.a.pc = 3) (ok : A.ok bb) (hb : bb < 4611686018427387904) (hl : 0 ≤ lv j + roomOf (classOf size) ∧ lv j + roomOf (classOf size) < 18446744073709551616) :
    (m.step C who A).1 = false ∧ (m.step C who A).2.1.a.pc = 4 ∧ Spt C size own s ge j i u (m.step C who A).2.1 ∧ Aw C F o u (upd lv j (lv j + roomOf (classOf size))) nx (m.step C who A).2.2.w := by
  have e : m.step C who A = (false, { m with a := { m.a with pc := 4 } }, (A.by who).add (C.chunk m.a.sc + 1) (roomOf (classOf m.a.size))) := by
    unfold Am.step; rw [if_neg (by omega), if_neg (by omega), if_neg (by omega), if_pos h3]
  rw [e]
  refine ⟨rfl, rfl, ⟨⟨hs.has.size, hs.has.own, hs.has.at'⟩, hs.gen, hs.sc, hs.sa, hs.j0, hs.i0⟩, ?_⟩
  have hw : ((A.by who).add (C.chunk m.a.sc + 1) (roomOf (classOf m.a.size))).w = upd A.w (C.chunk j + 1) (lv j + roomOf (classOf size)) := by
    show upd A.w (C.chunk m.a.sc + 1) (IntKind.u64.wrap (A.w (C.chunk m.a.sc + 1) + roomOf (classOf m.a.size))) = _
    rw [hs.sc, hs.has.size, hA.live j hs.j0.1 hs.j0.2, IntWalk.u64_in _ (by omega)]
  show Aw C F o u _ nx ((A.by who).add (C.chunk m.a.sc + 1) (roomOf (classOf m.a.size))).w
  rw [hw]
  exact hA.lives hC hs.j0.1 hs.j0.2
theorem head_step (hC : C.ok) {F : List Int} {o u lv : Int → Int} {nx size s ge j i : Int} {own : Bool} {m : Am} (hA : Aw C F o u lv nx A.w) (hs : Spt C size own s ge j i u m) (h4 : m.a.pc = 4) (hcl : 0 ≤ classOf size) (hcl3 : classOf size ≤ 3) :
    (m.step C who A).1 = false ∧ (m.step C who A).2.1.a.pc = 5 ∧ Spt C size own s ge j i u (m.step C who A).2.1 ∧ Aw C F o u lv nx (m.step C who A).2.2.w ∧ (m.step C who A).2.2.w = upd A.w (C.base j + i) (putHead 1 size s ge own) := by
  have e : m.step C who A = (false, { m with a := { m.a with pc := 5 } }, (A.by who).store m.a.sa (putHead 1 m.a.size m.a.at' m.a.gen m.a.own)) := by
    unfold Am.step; rw [if_neg (by omega), if_neg (by omega), if_neg (by omega), if_neg (by omega), if_pos h4]
  have hr := room_bd hcl hcl3
  have hi := hs.i0
  have hw : ((A.by who).store m.a.sa (putHead 1 m.a.size m.a.at' m.a.gen m.a.own)).w = upd A.w (C.base j + i) (putHead 1 size s ge own) := by
    rw [store_w, hs.sa, hs.has.size, hs.has.at', hs.gen, hs.has.own]; rfl
  rw [e]
  refine ⟨rfl, rfl, ⟨⟨hs.has.size, hs.has.own, hs.has.at'⟩, hs.gen, hs.sc, hs.sa, hs.j0, hs.i0⟩, ?_, hw⟩
  show Aw C F o u lv nx ((A.by who).store m.a.sa (putHead 1 m.a.size m.a.at' m.a.gen m.a.own)).w
  rw [hw]
  exact hA.word hC hs.j0.1 hs.j0.2 hi.1 (by omega) (by omega)
theorem show_step (hC : C.ok) {F : List Int} {o u lv : Int → Int} {nx size s ge j i bb : Int} {own : Bool} {m : Am} (hA : Aw C F o u lv nx A.w) (hs : Spt C size own s ge j i u m) (h5 : m.a.pc = 5) (s0 : 0 ≤ s ∧ s < C.S) (ok : A.ok bb) (hb : bb < 4611686018427387904) :
    (m.step C who A).1 = false ∧ (m.step C who A).2.1.a.pc = 6 ∧ Spt C size own s ge j i u (m.step C who A).2.1 ∧ Aw C F o u lv nx (m.step C who A).2.2.w ∧ (m.step C who A).2.2.w = upd A.w (C.slot s) (putSlot 1 (C.base j + i) ge 0) ∧
      (m.step C who A).2.1.a.oE = 0 ∧ (m.step C who A).2.1.a.oH = putHandle s ge ∧ (m.step C who A).2.1.a.oS = A.s + 1 := by
  have e : m.step C who A = (false, { m with a := { m.a with pc := 6, oE := 0, oH := putHandle m.a.at' m.a.gen, oV := 0, oS := ((A.by who).store (C.slot m.a.at') (putSlot 1 m.a.sa m.a.gen 0)).s } }, (A.by who).store (C.slot m.a.at') (putSlot 1 m.a.sa m.a.gen 0)) := by
    unfold Am.step; rw [if_neg (by omega), if_neg (by omega), if_neg (by omega), if_neg (by omega), if_neg (by omega), if_pos h5]
  have a1 := aft_store (who := who) (A := A) (a := C.slot m.a.at') (v := putSlot 1 m.a.sa m.a.gen 0) ok (by omega)
  have hw : ((A.by who).store (C.slot m.a.at') (putSlot 1 m.a.sa m.a.gen 0)).w = upd A.w (C.slot s) (putSlot 1 (C.base j + i) ge 0) := by
    rw [a1.w, hs.sa, hs.has.at', hs.gen]
  rw [e]
  refine ⟨rfl, rfl, ⟨⟨hs.has.size, hs.has.own, hs.has.at'⟩, hs.gen, hs.sc, hs.sa, hs.j0, hs.i0⟩, ?_, hw, rfl, by show putHandle m.a.at' m.a.gen = _; rw [hs.has.at', hs.gen], a1.s⟩
  show Aw C F o u lv nx ((A.by who).store (C.slot m.a.at') (putSlot 1 m.a.sa m.a.gen 0)).w
  rw [hw]
  exact hA.slotw hC s0.1 s0.2
theorem ready_step (hC : C.ok) {F : List Int} {o u lv : Int → Int} {nx size s ge j i : Int} {own : Bool} {m : Am} (hA : Aw C F o u lv nx A.w) (hs : Spt C size own s ge j i u m) (h6 : m.a.pc = 6) (hcl : 0 ≤ classOf size) (hcl3 : classOf size ≤ 3) :
    (m.step C who A).1 = true ∧ (m.step C who A).2.1 = m ∧ Aw C F o u lv nx (m.step C who A).2.2.w ∧ (m.step C who A).2.2.w = upd A.w (C.base j + i) (putHead 2 size s ge own) := by
  have e : m.step C who A = (true, m, (A.by who).store m.a.sa (putHead 2 m.a.size m.a.at' m.a.gen m.a.own)) := by
    unfold Am.step; rw [if_neg (by omega), if_neg (by omega), if_neg (by omega), if_neg (by omega), if_neg (by omega), if_neg (by omega), if_pos h6]
  have hr := room_bd hcl hcl3
  have hi := hs.i0
  have hw : ((A.by who).store m.a.sa (putHead 2 m.a.size m.a.at' m.a.gen m.a.own)).w = upd A.w (C.base j + i) (putHead 2 size s ge own) := by
    rw [store_w, hs.sa, hs.has.size, hs.has.at', hs.gen, hs.has.own]; rfl
  rw [e]
  refine ⟨rfl, rfl, ?_, hw⟩
  show Aw C F o u lv nx ((A.by who).store m.a.sa (putHead 2 m.a.size m.a.at' m.a.gen m.a.own)).w
  rw [hw]
  exact hA.word hC hs.j0.1 hs.j0.2 hi.1 (by omega) (by omega)
def PhG (C : Cf) (F : List Int) (o u lv : Int → Int) (nx s : Int) (k : Int) (m : Am) (w : Int → Int) : Prop :=
  m.a.pc = 7 ∧ (0 ≤ s ∧ s < C.S) ∧ s ∉ F ∧ (m.g = ⟨0, s, 0⟩ ∧ k = 0 ∧ Aw C F o u lv nx w ∨ m.g = ⟨1, s, w 1⟩ ∧ k = 1 ∧ Aw C F o u lv nx w ∨
    m.g = ⟨2, s, w 1⟩ ∧ k = 2 ∧ ∃ w0, Aw C F o u lv nx w0 ∧ w0 1 = w 1 ∧ w = upd w0 (C.slot s + 1) (putTop (topS (w0 1)) 0))
theorem PhG.step (hC : C.ok) {F : List Int} {o u lv : Int → Int} {nx s k bb : Int} {m : Am} (h : PhG C F o u lv nx s k m A.w) (ok : A.ok bb) (hb : bb < 4611686018427387904) :
    (m.step C who A).2.1.a = m.a ∧ (((m.step C who A).1 = false ∧ PhG C F o u lv nx s (k + 1) (m.step C who A).2.1 (m.step C who A).2.2.w) ∨ ((m.step C who A).1 = true ∧ Aw C (s :: F) o u lv nx (m.step C who A).2.2.w)) := by
  obtain ⟨h7, s0, hn, h⟩ := h
  have hT := hC.T
  have hS := hC.S
  have e : m.step C who A = ((m.g.step C who A).1, { m with g := (m.g.step C who A).2.1 }, (m.g.step C who A).2.2) := by
    unfold Am.step; rw [if_neg (by omega), if_neg (by omega), if_neg (by omega), if_neg (by omega), if_neg (by omega), if_neg (by omega), if_neg (by omega)]
  rw [e]
  refine ⟨rfl, ?_⟩
  rcases h with ⟨q, hk, hA⟩ | ⟨q, hk, hA⟩ | ⟨q, hk, w0, hA, e1, e2⟩
  · rw [q, Gv.step0]
    exact .inl ⟨rfl, h7, s0, hn, .inr (.inl ⟨rfl, by omega, hA⟩)⟩
  · rw [q, Gv.step1]
    have a1 := aft_store (who := who) (A := A) (a := C.slot s + 1) (v := putTop (topS (A.w 1)) 0) ok (by omega)
    have n1 : upd A.w (C.slot s + 1) (putTop (topS (A.w 1)) 0) 1 = A.w 1 := upd_ne _ _ (by unfold Cf.slot; omega)
    refine .inl ⟨rfl, h7, s0, hn, .inr (.inr ⟨?_, by omega, A.w, hA, ?_, a1.w⟩)⟩
    · show Gv.mk 2 s (A.w 1) = ⟨2, s, _⟩; rw [a1.w, n1]
    · rw [a1.w, n1]
  · rw [q, Gv.step2]
    have a1 := aft_cas (who := who) (A := A) (a := 1) (o := A.w 1) (v := putTop s (topN (A.w 1) + 1)) ok (by omega)
    rw [if_pos rfl] at a1
    refine .inr ⟨decide_eq_true rfl, ?_⟩
    show Aw C (s :: F) o u lv nx ((A.by who).cas 1 (A.w 1) (putTop s (topN (A.w 1) + 1))).w
    have := hA.gave hC s0 hn
    unfold gaveW at this
    rw [a1.w, e2, upd_ne _ _ (by unfold Cf.slot; omega)]
    exact this
end Go.Fl
namespace Go.Fl
open Go
set_option linter.unusedVariables false
set_option linter.unusedSimpArgs false
variable {N : Nm} {A B : Ar} {σ : Mem} {K : Value → Mem → Prop} {C : Cf} {who : Int}
structure Tch (C : Cf) (A : Ar) (m : Am) (r : Bool × Am × Ar) (a : Int) : Prop where
  la : r.2.2.la = a
  s : r.2.2.s = A.s + 1
  n : r.2.2.n = A.n
  w : ∀ i, i ≠ a → r.2.2.w i = A.w i
  kind : (m.a.pc = 0 ∨ m.a.pc = 7) ∧ (a = 1 ∨ ∃ s, 0 ≤ s ∧ s < C.S ∧ a = C.slot s + 1) ∨ m.a.pc = 1 ∧ a = C.slot m.a.at' ∧ r.2.2.w = A.w ∨ m.a.pc = 2 ∧ (a = 2 + m.t.cls ∨ a = C.chunk m.t.at') ∨ m.a.pc = 3 ∧ a = C.chunk m.a.sc + 1 ∨
    (m.a.pc = 4 ∨ m.a.pc = 6) ∧ a = m.a.sa ∨ m.a.pc = 5 ∧ a = C.slot m.a.at'
theorem Am.go (hC : C.ok) {b : Int} (hb : b < 4611686018427387904) (hP : Pa C A b) {m : Am} (hf : m.fit C A) (hc : ¬ (m.a.pc = 0 ∧ classOf m.a.size < 0)) (hsa : m.a.pc = 4 ∨ m.a.pc = 6 → C.base 0 ≤ m.a.sa) :
    Pa C (m.step C who A).2.2 (b + 1) ∧ ∃ a, Tch C A m (m.step C who A) a := by
  obtain ⟨ok, n, op⟩ := hP
  have hT := hC.T
  have hS := hC.S
  have hCC := hC.C
  have hb0 : C.base 0 = 6 + C.T + 2 * C.S + 3 * C.C := by unfold Cf.base; omega
  have L : ∀ a, Pa C ((A.by who).load a) (b + 1) := fun a => ⟨(aft_load ok (by omega)).ok (by decide) ok ok.w, n, op⟩
  have W : ∀ a v, (∀ c, 0 ≤ c → c ≤ 3 → 2 + c ≠ a) → 0 ≤ v ∧ v < 18446744073709551616 → Pa C ((A.by who).store a v) (b + 1) := by
    intro a v ha hv
    have a1 := aft_store (who := who) (A := A) (a := a) (v := v) ok (by omega)
    refine ⟨a1.ok (by decide) ok fun i => upd_cases (P := fun x => 0 ≤ x ∧ x < 18446744073709551616) hv (ok.w i), n, fun c c0 c3 => ?_⟩
    rw [a1.w, upd_ne _ _ (ha c c0 c3)]; exact op c c0 c3
  have Z : ∀ a o v, (∀ c, 0 ≤ c → c ≤ 3 → 2 + c ≠ a) → 0 ≤ v ∧ v < 18446744073709551616 → Pa C ((A.by who).cas a o v) (b + 1) := by
    intro a o v ha hv
    have a1 := aft_cas (who := who) (A := A) (a := a) (o := o) (v := v) ok (by omega)
    refine ⟨a1.ok (by decide) ok fun i => ?_, by rw [a1.n]; exact n, fun c c0 c3 => ?_⟩
    · split
      · exact upd_cases (P := fun x => 0 ≤ x ∧ x < 18446744073709551616) hv (ok.w i)
      · exact ok.w i
    · rw [a1.w, aw (ha c c0 c3)]; exact op c c0 c3
  have sL := fun a => (aft_load (who := who) (a := a) ok (by omega)).s
  have sW := fun a v => (aft_store (who := who) (a := a) (v := v) ok (by omega)).s
  have aC := fun a o v => aft_cas (who := who) (A := A) (a := a) (o := o) (v := v) ok (by omega)
  have hpc := hf.pc
  by_cases c0 : m.a.pc = 0
  · have hcl : ¬ classOf m.a.size < 0 := fun q => hc ⟨c0, q⟩
    obtain ⟨t1, t2, t3⟩ := hf.tk c0
    have e : (m.step C who A).2.2 = (m.a.tk.step C who A).2.2 := by
      unfold Am.step; rw [if_pos c0, if_neg hcl]; dsimp only
      split
      · rfl
      · split <;> rfl
    have key : ∃ a, (a = 1 ∨ ∃ s, 0 ≤ s ∧ s < C.S ∧ a = C.slot s + 1) ∧ Pa C (m.a.tk.step C who A).2.2 (b + 1) ∧ (m.a.tk.step C who A).2.2.la = a ∧ (m.a.tk.step C who A).2.2.s = A.s + 1 ∧ (m.a.tk.step C who A).2.2.n = A.n ∧ ∀ i, i ≠ a → (m.a.tk.step C who A).2.2.w i = A.w i := by
      unfold Tk.step
      by_cases q0 : m.a.tk.pc = 0
      · rw [if_pos q0]; exact ⟨1, .inl rfl, L 1, rfl, sL 1, rfl, fun _ _ => rfl⟩
      · rw [if_neg q0]
        by_cases q1 : m.a.tk.pc = 1
        · rw [if_pos q1]; have := t2 q1; exact ⟨_, .inr ⟨_, this.1, this.2, rfl⟩, L _, rfl, sL _, rfl, fun _ _ => rfl⟩
        · rw [if_neg q1]; exact ⟨1, .inl rfl, Z _ _ _ (fun c c0 c3 => by omega) (putTop_in _ _), cas_la, (aC _ _ _).s, (aC _ _ _).n, fun i hi => by rw [(aC _ _ _).w, aw hi]⟩
    obtain ⟨a, k1, k2, k3, k4, k5, k6⟩ := key
    exact ⟨by rw [e]; exact k2, a, ⟨by rw [e]; exact k3, by rw [e]; exact k4, by rw [e]; exact k5, by rw [e]; exact k6, .inl ⟨.inl c0, k1⟩⟩⟩
  have hat := hf.at' c0
  have hcl := hf.cl c0
  have hsl : C.slot m.a.at' = 6 + C.T + 2 * m.a.at' := rfl
  by_cases c1 : m.a.pc = 1
  · have e : (m.step C who A).2.2 = (A.by who).load (C.slot m.a.at') := by unfold Am.step; rw [if_neg c0, if_pos c1]
    exact ⟨by rw [e]; exact L _, _, ⟨by rw [e]; exact load_la, by rw [e]; exact sL _, by rw [e]; rfl, fun i _ => by rw [e]; rfl, .inr (.inl ⟨c1, rfl, by rw [e]; rfl⟩)⟩⟩
  by_cases c2 : m.a.pc = 2
  · obtain ⟨f1, f2⟩ := hf.pl c2
    obtain ⟨g1, _, a, g3⟩ := Pl.go (who := who) hC hb ⟨ok, n, op⟩ f1
    have e : (m.step C who A).2.2 = (m.t.step C who A).2.2 := by
      unfold Am.step; rw [if_neg c0, if_neg c1, if_pos c2]; dsimp only
      split
      · rfl
      · split <;> rfl
    exact ⟨by rw [e]; exact g1, a, ⟨by rw [e]; exact g3.la, by rw [e]; exact g3.s, by rw [e]; exact g3.n, by rw [e]; exact g3.w, .inr (.inr (.inl ⟨c2, g3.wh⟩))⟩⟩
  by_cases c3 : m.a.pc = 3
  · have e : (m.step C who A).2.2 = (A.by who).add (C.chunk m.a.sc + 1) (roomOf (classOf m.a.size)) := by unfold Am.step; rw [if_neg c0, if_neg c1, if_neg c2, if_pos c3]
    have hsc := (hf.spot (by omega) (by omega)).1
    have hcj : C.chunk m.a.sc = 6 + C.T + 2 * C.S + 3 * m.a.sc := rfl
    have hwr : 0 ≤ IntKind.u64.wrap (A.w (C.chunk m.a.sc + 1) + roomOf (classOf m.a.size)) ∧ IntKind.u64.wrap (A.w (C.chunk m.a.sc + 1) + roomOf (classOf m.a.size)) < 18446744073709551616 := by
      show 0 ≤ (A.w (C.chunk m.a.sc + 1) + roomOf (classOf m.a.size)) % 18446744073709551616 ∧ (A.w (C.chunk m.a.sc + 1) + roomOf (classOf m.a.size)) % 18446744073709551616 < 18446744073709551616
      omega
    have := W (C.chunk m.a.sc + 1) (IntKind.u64.wrap (A.w (C.chunk m.a.sc + 1) + roomOf (classOf m.a.size))) (fun c c0 c3 => by omega) hwr
    exact ⟨by rw [e]; exact this, _, ⟨by rw [e]; rfl, by rw [e]; exact sW _ _, by rw [e]; rfl, fun i hi => by rw [e]; exact upd_ne _ _ hi, .inr (.inr (.inr (.inl ⟨c3, rfl⟩)))⟩⟩
  by_cases c4 : m.a.pc = 4
  · have e : (m.step C who A).2.2 = (A.by who).store m.a.sa (putHead 1 m.a.size m.a.at' m.a.gen m.a.own) := by unfold Am.step; rw [if_neg c0, if_neg c1, if_neg c2, if_neg c3, if_pos c4]
    have hs := hsa (.inl c4)
    exact ⟨by rw [e]; exact W _ _ (fun c c0 c3 => by omega) (putHead_in _ _ _ _ _), _, ⟨by rw [e]; rfl, by rw [e]; exact sW _ _, by rw [e]; rfl, fun i hi => by rw [e]; exact upd_ne _ _ hi, .inr (.inr (.inr (.inr (.inl ⟨.inl c4, rfl⟩))))⟩⟩
  by_cases c5 : m.a.pc = 5
  · have e : (m.step C who A).2.2 = (A.by who).store (C.slot m.a.at') (putSlot 1 m.a.sa m.a.gen 0) := by unfold Am.step; rw [if_neg c0, if_neg c1, if_neg c2, if_neg c3, if_neg c4, if_pos c5]
    exact ⟨by rw [e]; exact W _ _ (fun c c0 c3 => by omega) (putSlot_in _ _ _ _), _, ⟨by rw [e]; rfl, by rw [e]; exact sW _ _, by rw [e]; rfl, fun i hi => by rw [e]; exact upd_ne _ _ hi, .inr (.inr (.inr (.inr (.inr ⟨c5, rfl⟩))))⟩⟩
  by_cases c6 : m.a.pc = 6
  · have e : (m.step C who A).2.2 = (A.by who).store m.a.sa (putHead 2 m.a.size m.a.at' m.a.gen m.a.own) := by unfold Am.step; rw [if_neg c0, if_neg c1, if_neg c2, if_neg c3, if_neg c4, if_neg c5, if_pos c6]
    have hs := hsa (.inr c6)
    exact ⟨by rw [e]; exact W _ _ (fun c c0 c3 => by omega) (putHead_in _ _ _ _ _), _, ⟨by rw [e]; rfl, by rw [e]; exact sW _ _, by rw [e]; rfl, fun i hi => by rw [e]; exact upd_ne _ _ hi, .inr (.inr (.inr (.inr (.inl ⟨.inr c6, rfl⟩))))⟩⟩
  have c7 : m.a.pc = 7 := by omega
  obtain ⟨g1, g2⟩ := hf.gv c7
  have e : (m.step C who A).2.2 = (m.g.step C who A).2.2 := by unfold Am.step; rw [if_neg c0, if_neg c1, if_neg c2, if_neg c3, if_neg c4, if_neg c5, if_neg c6]
  have key : ∃ a, (a = 1 ∨ ∃ s, 0 ≤ s ∧ s < C.S ∧ a = C.slot s + 1) ∧ Pa C (m.g.step C who A).2.2 (b + 1) ∧ (m.g.step C who A).2.2.la = a ∧ (m.g.step C who A).2.2.s = A.s + 1 ∧ (m.g.step C who A).2.2.n = A.n ∧ ∀ i, i ≠ a → (m.g.step C who A).2.2.w i = A.w i := by
    have hsg : C.slot m.g.slot = 6 + C.T + 2 * m.g.slot := rfl
    unfold Gv.step
    by_cases q0 : m.g.pc = 0
    · rw [if_pos q0]; exact ⟨1, .inl rfl, L 1, rfl, sL 1, rfl, fun _ _ => rfl⟩
    · rw [if_neg q0]
      by_cases q1 : m.g.pc = 1
      · rw [if_pos q1]; exact ⟨_, .inr ⟨_, g2.1, g2.2, rfl⟩, W _ _ (fun c c0 c3 => by omega) (putTop_in _ _), rfl, sW _ _, rfl, fun i hi => upd_ne _ _ hi⟩
      · rw [if_neg q1]; exact ⟨1, .inl rfl, Z _ _ _ (fun c c0 c3 => by omega) (putTop_in _ _), cas_la, (aC _ _ _).s, (aC _ _ _).n, fun i hi => by rw [(aC _ _ _).w, aw hi]⟩
  obtain ⟨a, k1, k2, k3, k4, k5, k6⟩ := key
  exact ⟨by rw [e]; exact k2, a, ⟨by rw [e]; exact k3, by rw [e]; exact k4, by rw [e]; exact k5, by rw [e]; exact k6, .inl ⟨.inr c7, k1⟩⟩⟩
end Go.Fl
namespace Go.Fl
open Go
set_option linter.unusedVariables false
set_option linter.unusedSimpArgs false
variable {N : Nm} {A B : Ar} {σ : Mem} {K : Value → Mem → Prop} {C : Cf} {who : Int}
def Got (C : Cf) (b : Bg) (F : List Int) (c j : Int) (b' : Bg) : Prop :=
  good C b.o b.u c ∧ j = b.o c ∧ b' = ⟨F, b.o, upd b.u j (b.u j + roomOf c), b.lv, b.nx⟩ ∨
  ¬ good C b.o b.u c ∧ b.nx < C.C ∧ j = b.nx ∧ b' = ⟨F, upd b.o c b.nx, upd b.u j (b.u j + roomOf c), b.lv, b.nx + 1⟩
def Bg.aw (b : Bg) (C : Cf) (w : Int → Int) : Prop := Aw C b.F b.o b.u b.lv b.nx w
def Bg.count (b : Bg) (j n : Int) : Bg := { b with lv := upd b.lv j (b.lv j + n) }
structure Fw (C : Cf) (b : Bg) (ch : Prop) (w0 w : Int → Int) : Prop where
  slot : ∀ t, 0 ≤ t → t < C.S → (ch → ∀ F, b.F ≠ t :: F) → w (C.slot t) = w0 (C.slot t)
  word : ∀ j i, 0 ≤ j → j < C.C → 0 ≤ i → i < b.u j → i < C.W → w (C.base j + i) = w0 (C.base j + i)
def PhS (C : Cf) (b : Bg) (size : Int) (own : Bool) (s ge : Int) (F : List Int) (s0 k : Int) (m : Am) (A : Ar) : Prop :=
  ∃ j b', Got C b F (classOf size) j b' ∧ Spt C size own s ge j (b.u j) b'.u m ∧ (∀ x, 1 ≤ x → x < roomOf (classOf size) → A.w (C.base j + (b.u j + x)) = 0) ∧
    (m.a.pc = 3 ∧ b'.aw C A.w ∧ A.w (C.base j + b.u j) = 0 ∧ k ≤ C.C + 16 ∨
     (b'.count j (roomOf (classOf size))).aw C A.w ∧ (m.a.pc = 4 ∧ A.w (C.base j + b.u j) = 0 ∧ k ≤ C.C + 17 ∨ A.w (C.base j + b.u j) = putHead 1 size s ge own ∧ (m.a.pc = 5 ∧ k ≤ C.C + 18 ∨
       m.a.pc = 6 ∧ A.w (C.slot s) = putSlot 1 (C.base j + b.u j) ge 0 ∧ m.a.oE = 0 ∧ m.a.oH = putHandle s ge ∧ (s0 < m.a.oS ∧ m.a.oS ≤ A.s) ∧ k ≤ C.C + 19)))
def PhM (C : Cf) (b : Bg) (size : Int) (own : Bool) (w0 : Int → Int) (s0 k : Int) (m : Am) (A : Ar) : Prop :=
  PhT C b size own k m A.w ∨ ∃ s F, b.F = s :: F ∧ (
    (m.a.pc = 1 ∧ Has C size own s m ∧ Aw C F b.o b.u b.lv b.nx A.w ∧ k ≤ 3) ∨
    (∃ kk, PhP C b F size own s (slG (w0 (C.slot s))) kk m A.w ∧ 0 ≤ kk ∧ k ≤ 4 + kk) ∨
    PhS C b size own s (slG (w0 (C.slot s))) F s0 k m A ∨
    (m.a.oE = 6 ∧ m.a.oH = 0 ∧ (s0 ≤ m.a.oS ∧ m.a.oS ≤ A.s) ∧ ¬ good C b.o b.u (classOf size) ∧ b.nx = C.C ∧ Has C size own s m ∧ ∃ kk, PhG C F b.o b.u b.lv b.nx s kk m A.w ∧ 0 ≤ kk ∧ k ≤ C.C + 16 + kk))
def Fin (C : Cf) (b : Bg) (size : Int) (own : Bool) (w0 : Int → Int) (s0 : Int) (m : Am) (A : Ar) : Prop :=
  m.a.oE = 7 ∧ m.a.oH = 0 ∧ b.F = [] ∧ b.aw C A.w ∨ ∃ s F, b.F = s :: F ∧ (
    m.a.oE = 6 ∧ m.a.oH = 0 ∧ ¬ good C b.o b.u (classOf size) ∧ b.nx = C.C ∧ b.aw C A.w ∨
    m.a.oE = 0 ∧ s0 < m.a.oS ∧ ∃ j b', Got C b F (classOf size) j b' ∧ (0 ≤ j ∧ j < C.C) ∧ (0 ≤ b.u j ∧ b.u j + roomOf (classOf size) ≤ b'.u j ∧ b'.u j ≤ C.W) ∧ m.a.oH = putHandle s (slG (w0 (C.slot s))) ∧ (b'.count j (roomOf (classOf size))).aw C A.w ∧
      A.w (C.slot s) = putSlot 1 (C.base j + b.u j) (slG (w0 (C.slot s))) 0 ∧ A.w (C.base j + b.u j) = putHead 2 size s (slG (w0 (C.slot s))) own ∧ ∀ x, 1 ≤ x → x < roomOf (classOf size) → A.w (C.base j + (b.u j + x)) = 0)
structure DnM (C : Cf) (b : Bg) (size : Int) (own : Bool) (w0 : Int → Int) (s0 : Int) (m : Am) (A : Ar) : Prop where
  n : (s0 ≤ m.a.oS ∧ m.a.oS ≤ A.s) ∧ A.s ≤ s0 + 100
  fw : Fw C b (m.a.oE = 0) w0 A.w
  r : Fin C b size own w0 s0 m A
structure Bg.lvok (b : Bg) (C : Cf) : Prop where
  lv : ∀ j, 0 ≤ j → j < C.C → 0 ≤ b.lv j ∧ b.lv j ≤ 1000000000
theorem Ph.kle {o u w : Int → Int} {nx c k : Int} {p : Pl} (h : Ph C o u nx c k p w) (hC : C.ok) : k ≤ C.C + 10 := by
  have hCC := hC.C
  rcases h.2.2 with ⟨h1, h2⟩ | ⟨hg, ⟨ha, h⟩ | h⟩
  · dsimp only at h2; omega
  · have := ha.bd; omega
  · omega
theorem PhM.fit (hC : C.ok) {b : Bg} {size s0 k bb : Int} {own : Bool} {w0 : Int → Int} {m : Am} (h : PhM C b size own w0 s0 k m A) (hP : Pa C A bb) (hcl : 0 ≤ classOf size) (hF : ∀ s ∈ b.F, 0 ≤ s ∧ s < C.S) : m.fit C A := by
  have w1 := hP.ok.w 1
  have hT := hC.T
  have hS := hC.S
  rcases h with h | ⟨s, F, hb, h⟩
  · exact h.fit hC hP.ok
  have hs := hF s (by rw [hb]; simp)
  rcases h with ⟨h1, h2, h3, _⟩ | ⟨kk, ⟨h1, h2, h3, h4, h5, h6⟩, _⟩ | ⟨j, b', hg, hp, hz, h⟩ | ⟨_, _, _, _, _, hh, kk, ⟨h1, h2, h3, h4⟩, _⟩
  · exact ⟨by omega, fun e => by omega, fun _ => by rw [h2.size]; exact hcl, fun _ => by rw [h2.at']; exact hs, fun e => by omega, fun e _ => by omega, fun e => by omega⟩
  · exact ⟨by omega, fun e => by omega, fun _ => by rw [h1.size]; exact hcl, fun _ => by rw [h1.at']; exact hs, fun _ => ⟨h4, hP.op _ h4.cls.1 h4.cls.2⟩, fun e _ => by omega, fun e => by omega⟩
  · have hpc : 3 ≤ m.a.pc ∧ m.a.pc ≤ 6 := by omega
    have j0 := hp.j0
    have i0 := hp.i0
    have hr : 3 ≤ roomOf (classOf size) := by unfold roomOf; split <;> (try split) <;> (try split) <;> omega
    have hb := (base_of hC j0.1 j0.2 i0.1 (by omega)).2
    have hn := hP.n
    exact ⟨by omega, fun e => by omega, fun _ => by rw [hp.has.size]; exact hcl, fun _ => by rw [hp.has.at']; exact hs, fun e => by omega, fun _ _ => ⟨by rw [hp.sc]; exact j0, by rw [hp.sa]; omega⟩, fun e => by omega⟩
  · refine ⟨by omega, fun e => by omega, fun _ => by rw [hh.size]; exact hcl, fun _ => by rw [hh.at']; exact hs, fun e => by omega, fun e _ => by omega, fun _ => ?_⟩
    rcases h4 with ⟨q, _⟩ | ⟨q, _⟩ | ⟨q, _⟩
    · rw [q]; exact ⟨⟨Int.le_refl 0, (by decide : (0 : Int) < 18446744073709551616)⟩, h2⟩
    · rw [q]; exact ⟨w1, h2⟩
    · rw [q]; exact ⟨w1, h2⟩
theorem Got.has (hC : C.ok) {b b' : Bg} {F : List Int} {c j : Int} (h : Got C b F c j b') : b'.F = F ∧ b'.lv = b.lv := by
  rcases h with ⟨_, _, e⟩ | ⟨_, _, _, e⟩ <;> rw [e] <;> exact ⟨rfl, rfl⟩
theorem Got.bd (hC : C.ok) {b b' : Bg} {F : List Int} {c j : Int} {w : Int → Int} (h : Got C b F c j b') (hA : Alo C b.o b.u b.nx w) (c0 : 0 ≤ c) (c3 : c ≤ 3) :
    (0 ≤ j ∧ j < C.C) ∧ (0 ≤ b.u j ∧ b.u j + roomOf c ≤ b'.u j ∧ b'.u j ≤ C.W) ∧ (∀ i, b.u i ≤ b'.u i) ∧ b'.o c = j := by
  have hr := room_bd c0 c3
  have hbd := hA.bd
  have hW := hC.W
  rcases h with ⟨g, ej, e⟩ | ⟨g, hn, ej, e⟩
  · have ho := hA.op c c0 c3
    have hold := hA.old _ g.1 ho.2.2
    have g2 := g.2
    subst ej
    rw [e]
    dsimp only
    refine ⟨⟨g.1, by omega⟩, by rw [upd_same]; omega, fun i => ?_, rfl⟩
    unfold upd; split
    · rename_i q; rw [q]; omega
    · omega
  · have hnew := hA.new _ (Int.le_refl _) hn
    subst ej
    rw [e]
    dsimp only
    refine ⟨⟨hbd.1, hn⟩, by rw [upd_same]; omega, fun i => ?_, upd_same _ _ _⟩
    unfold upd; split
    · rename_i q; rw [q]; omega
    · omega
theorem Dn.got {b : Bg} {F : List Int} {c : Int} {p : Pl} {w : Int → Int} (h : Dn C b.o b.u b.nx c p w) (hr : Rs C F b.u b.lv w) (c0 : 0 ≤ c) (c3 : c ≤ 3) :
    p.ok = true ∧ (∃ j b', Got C b F c j b' ∧ p.sa = C.base j + b.u j ∧ p.sc = j ∧ b'.aw C w) ∨ p.ok = false ∧ ¬ good C b.o b.u c ∧ b.nx = C.C ∧ Aw C F b.o b.u b.lv b.nx w := by
  have hrm := room_bd c0 c3
  have hu : ∀ j i, b.u i ≤ upd b.u j (b.u j + roomOf c) i := by
    intro j i
    unfold upd; split
    · rename_i q; rw [q]; omega
    · omega
  rcases h with ⟨g, h1, h2, h3, h4⟩ | ⟨g, hn, h1, h2, h3, h4⟩ | ⟨g, hn, h1, h4⟩
  · exact .inl ⟨h1, _, _, .inl ⟨g, rfl, rfl⟩, h2, h3, hr.aw h4 (hu _)⟩
  · exact .inl ⟨h1, _, _, .inr ⟨g, hn, rfl, rfl⟩, h2, h3, hr.aw h4 (hu _)⟩
  · exact .inr ⟨h1, g, hn, hr.aw h4 fun _ => Int.le_refl _⟩
theorem addr_ne (hC : C.ok) {j i : Int} (j0 : 0 ≤ j) (j1 : j < C.C) (i0 : 0 ≤ i) : (∀ s, s < C.S → C.base j + i ≠ C.slot s) ∧ (∀ k, k < C.C → C.base j + i ≠ C.chunk k + 1) := by
  have hb := base_ge hC j0 j1 i0
  have hT := hC.T
  have hCC := hC.C
  have hS := hC.S
  refine ⟨fun s hs => ?_, fun k hk => ?_⟩
  · unfold Cf.slot; omega
  · unfold Cf.chunk; omega
theorem PhS.step (hC : C.ok) {b : Bg} {F : List Int} {size s ge s0 k bb : Int} {own : Bool} {m : Am} (h : PhS C b size own s ge F s0 k m A) (ok : A.ok bb) (hb : bb < 4611686018427387904) (hcl : 0 ≤ classOf size) (hcl3 : classOf size ≤ 3) (hs : 0 ≤ s ∧ s < C.S) (hlv : b.lvok C) (hs0 : s0 ≤ A.s) :
    ((m.step C who A).1 = false ∧ PhS C b size own s ge F s0 (k + 1) (m.step C who A).2.1 (m.step C who A).2.2) ∨
    ((m.step C who A).1 = true ∧ (m.step C who A).2.1.a.oE = 0 ∧ s0 < (m.step C who A).2.1.a.oS ∧ (m.step C who A).2.1.a.oS ≤ A.s ∧ ∃ j b', Got C b F (classOf size) j b' ∧ Spt C size own s ge j (b.u j) b'.u m ∧ (m.step C who A).2.1.a.oH = putHandle s ge ∧ (b'.count j (roomOf (classOf size))).aw C (m.step C who A).2.2.w ∧
      (m.step C who A).2.2.w (C.slot s) = putSlot 1 (C.base j + b.u j) ge 0 ∧ (m.step C who A).2.2.w (C.base j + b.u j) = putHead 2 size s ge own ∧ ∀ x, 1 ≤ x → x < roomOf (classOf size) → (m.step C who A).2.2.w (C.base j + (b.u j + x)) = 0) := by
  have hr := room_bd hcl hcl3
  obtain ⟨j, b', hg, hp, hz, h⟩ := h
  have j0 := hp.j0
  have i0 := hp.i0
  have n0 := addr_ne hC j0.1 j0.2 i0.1
  have nx : ∀ x, 1 ≤ x → (∀ s, s < C.S → C.base j + (b.u j + x) ≠ C.slot s) ∧ (∀ k, k < C.C → C.base j + (b.u j + x) ≠ C.chunk k + 1) := fun x hx => addr_ne hC j0.1 j0.2 (by omega)
  obtain ⟨eF, eL⟩ := hg.has hC
  have hl := hlv.lv j j0.1 j0.2
  rcases h with ⟨h3, hA, hz0, hk⟩ | ⟨hA, ⟨h4, hz0, hk⟩ | ⟨hh, ⟨h5, hk⟩ | ⟨h6, hsl, e0, eH, hS, hk⟩⟩⟩
  · obtain ⟨q1, q2, q3, q4⟩ := count_step (who := who) hC hA hp h3 ok hb (by rw [eL]; omega)
    have e : (m.step C who A).2.2 = (A.by who).add (C.chunk m.a.sc + 1) (roomOf (classOf m.a.size)) := by unfold Am.step; rw [if_neg (by omega), if_neg (by omega), if_neg (by omega), if_pos h3]
    refine .inl ⟨q1, j, b', hg, q3, fun x x1 x2 => ?_, .inr ⟨q4, .inl ⟨q2, by rw [e, add_eq, store_w, upd_ne _ _ (by rw [hp.sc]; exact n0.2 j j0.2)]; exact hz0, by omega⟩⟩⟩
    rw [e, add_eq, store_w, upd_ne _ _ (by rw [hp.sc]; exact (nx x x1).2 j j0.2)]
    exact hz x x1 x2
  · obtain ⟨q1, q2, q3, q4, q5⟩ := head_step (who := who) hC hA hp h4 hcl hcl3
    refine .inl ⟨q1, j, b', hg, q3, fun x x1 x2 => ?_, .inr ⟨q4, .inr ⟨by rw [q5, upd_same], .inl ⟨q2, by omega⟩⟩⟩⟩
    rw [q5, upd_ne _ _ (by omega)]; exact hz x x1 x2
  · obtain ⟨q1, q2, q3, q4, q5, q6, q7, q8⟩ := show_step (who := who) hC hA hp h5 hs ok hb
    have es := (aft_store (who := who) (A := A) (a := C.slot m.a.at') (v := putSlot 1 m.a.sa m.a.gen 0) ok (by omega)).s
    have e : (m.step C who A).2.2 = (A.by who).store (C.slot m.a.at') (putSlot 1 m.a.sa m.a.gen 0) := by unfold Am.step; rw [if_neg (by omega), if_neg (by omega), if_neg (by omega), if_neg (by omega), if_neg (by omega), if_pos h5]
    refine .inl ⟨q1, j, b', hg, q3, fun x x1 x2 => ?_, .inr ⟨q4, .inr ⟨?_, .inr ⟨q2, by rw [q5, upd_same], q6, q7, ?_, by omega⟩⟩⟩⟩
    · rw [q5, upd_ne _ _ ((nx x x1).1 s hs.2)]; exact hz x x1 x2
    · rw [q5, upd_ne _ _ (n0.1 s hs.2)]; exact hh
    · rw [q8, e, es]; omega
  · obtain ⟨q1, q2, q3, q4⟩ := ready_step (who := who) hC hA hp h6 hcl hcl3
    refine .inr ⟨q1, by rw [q2]; exact e0, by rw [q2]; exact hS.1, by rw [q2]; exact hS.2, j, b', hg, hp, by rw [q2]; exact eH, q3, ?_, by rw [q4, upd_same], fun x x1 x2 => ?_⟩
    · rw [q4, upd_ne _ _ (fun q => n0.1 s hs.2 q.symm)]; exact hsl
    · rw [q4, upd_ne _ _ (by omega)]; exact hz x x1 x2
theorem PhM.step (hC : C.ok) {b : Bg} {size s0 k bb : Int} {own : Bool} {w0 : Int → Int} {m : Am} (h : PhM C b size own w0 s0 k m A) (hP : Pa C A bb) (hb : bb < 4611686018427387904) (hcl : 0 ≤ classOf size) (hcl3 : classOf size ≤ 3) (hF : ∀ s ∈ b.F, 0 ≤ s ∧ s < C.S) (hnd : b.F.Nodup)
    (hlv : b.lvok C) (hu : ∀ j, 0 ≤ j → j < C.C → 0 ≤ b.u j) (hw : m.a.pc = 1 → ∀ t, 0 ≤ t → t < C.S → A.w (C.slot t) = w0 (C.slot t)) (hs0 : s0 ≤ A.s) (hs1 : (m.step C who A).2.2.s = A.s + 1) (hal : ∃ w, Alo C b.o b.u b.nx w) :
    ((m.step C who A).1 = false ∧ PhM C b size own w0 s0 (k + 1) (m.step C who A).2.1 (m.step C who A).2.2) ∨
    ((m.step C who A).1 = true ∧ (s0 ≤ (m.step C who A).2.1.a.oS ∧ (m.step C who A).2.1.a.oS ≤ (m.step C who A).2.2.s) ∧ Fin C b size own w0 s0 (m.step C who A).2.1 (m.step C who A).2.2) := by
  obtain ⟨wA, hal⟩ := hal
  rcases h with h | ⟨s, F, hbF, h⟩
  · have hk : k ≤ 2 := by obtain ⟨_, _, _, _, h⟩ := h; omega
    rcases h.step (who := who) hC hP.ok hb hcl with ⟨q1, q2⟩ | ⟨q1, q2, q3, q4, q5, q6⟩ | ⟨q1, s, F, q2, q3, q4, q5, q6, q7⟩
    · exact .inl ⟨q1, .inl q2⟩
    · exact .inr ⟨q1, ⟨by rw [q5, hs1]; omega, by rw [q5]; exact Int.le_refl _⟩, .inl ⟨q3, q4, q2, q6⟩⟩
    · exact .inl ⟨q1, .inr ⟨s, F, q2, .inl ⟨q3, ⟨q5, q6, q4⟩, q7, by omega⟩⟩⟩
  have hs := hF s (by rw [hbF]; simp)
  have hsF : s ∉ F := by rw [hbF] at hnd; exact (List.nodup_cons.1 hnd).1
  rcases h with ⟨h1, h2, h3, hk⟩ | ⟨kk, h, hk0, hk⟩ | h | ⟨e6, eH, eS, hng, hnx, hh, kk, h, hk0, hk⟩
  · obtain ⟨q1, q2⟩ := see_step (who := who) (b := b) hC h3 h2 h1 hcl hcl3
    rw [hw h1 s hs.1 hs.2] at q2
    exact .inl ⟨q1, .inr ⟨s, F, hbF, .inr (.inl ⟨0, q2, Int.le_refl _, by omega⟩)⟩⟩
  · have hkk : kk ≤ C.C + 10 := by obtain ⟨_, _, _, _, q, _⟩ := h; exact q.kle hC
    rcases h.step (who := who) hC hP hb hcl hcl3 hu with ⟨q1, q2⟩ | ⟨q1, q2, q3, q4, q5, q6⟩
    · exact .inl ⟨q1, .inr ⟨s, F, hbF, .inr (.inl ⟨kk + 1, q2, by omega, by omega⟩)⟩⟩
    · refine .inl ⟨q1, .inr ⟨s, F, hbF, .inr (.inr ?_)⟩⟩
      rcases q5.got q2 hcl hcl3 with ⟨o1, j, b', hg, g1, g2, g3⟩ | ⟨o1, o2, o3, o4⟩
      · rcases q6 with ⟨r1, r2, r3, r4⟩ | ⟨r1, _⟩
        · obtain ⟨d1, d2, d3, d4⟩ := hg.bd hC hal hcl hcl3
          refine .inl ⟨j, b', hg, ⟨q3, q4, r4.trans g2, r3.trans g1, d1, by omega⟩, fun x x1 x2 => q2.nil j _ d1.1 d1.2 (by omega) (by omega), .inl ⟨r2, g3, q2.nil j _ d1.1 d1.2 (Int.le_refl _) (by have := room_bd hcl hcl3; omega), by omega⟩⟩
        · rw [o1] at r1; cases r1
      · rcases q6 with ⟨r1, _⟩ | ⟨r1, r2, r3, r4, r5, r6⟩
        · rw [o1] at r1; cases r1
        · exact .inr ⟨r3, r4, ⟨by rw [r5, hs1]; omega, by rw [r5]; exact Int.le_refl _⟩, o2, o3, q3, 0, ⟨r2, hs, hsF, .inl ⟨r6, rfl, o4⟩⟩, Int.le_refl _, by omega⟩
  · rcases h.step (who := who) hC hP.ok hb hcl hcl3 hs hlv hs0 with ⟨q1, q2⟩ | ⟨q1, q2, q3, q3b, j, b', q4, q5, q6, q7, q8, q9, q10⟩
    · exact .inl ⟨q1, .inr ⟨s, F, hbF, .inr (.inr (.inl q2))⟩⟩
    · obtain ⟨d1, d2, d3, d4⟩ := q4.bd hC hal hcl hcl3
      exact .inr ⟨q1, ⟨by omega, by omega⟩, .inr ⟨s, F, hbF, .inr ⟨q2, q3, j, b', q4, d1, d2, q6, q7, q8, q9, q10⟩⟩⟩
  · obtain ⟨e1, q⟩ := h.step (who := who) hC hP.ok hb
    rcases q with ⟨q1, q2⟩ | ⟨q1, q2⟩
    · refine .inl ⟨q1, .inr ⟨s, F, hbF, .inr (.inr (.inr ⟨by rw [e1]; exact e6, by rw [e1]; exact eH, ?_, hng, hnx, ?_, kk + 1, q2, by omega, by omega⟩))⟩⟩
      · rw [e1, hs1]; omega
      · exact ⟨by rw [e1]; exact hh.size, by rw [e1]; exact hh.own, by rw [e1]; exact hh.at'⟩
    · refine .inr ⟨q1, ?_, .inr ⟨s, F, hbF, .inl ⟨by rw [e1]; exact e6, by rw [e1]; exact eH, hng, hnx, ?_⟩⟩⟩
      · rw [e1, hs1]; omega
      · unfold Bg.aw; rw [hbF]; exact q2
end Go.Fl
namespace Go.Fl
open Go
set_option linter.unusedVariables false
set_option linter.unusedSimpArgs false
variable {N : Nm} {A B : Ar} {σ : Mem} {K : Value → Mem → Prop} {C : Cf} {who : Int}
theorem PhM.kle (hC : C.ok) {b : Bg} {size s0 k : Int} {own : Bool} {w0 : Int → Int} {m : Am} (h : PhM C b size own w0 s0 k m A) : k ≤ C.C + 19 := by
  have hCC := hC.C
  rcases h with ⟨_, _, _, _, h⟩ | ⟨s, F, hb, ⟨_, _, _, h⟩ | ⟨kk, ⟨_, _, _, _, h1, h2⟩, h⟩ | ⟨j, b', _, _, _, h⟩ | ⟨_, _, _, _, _, _, kk, ⟨_, _, _, h1⟩, h⟩⟩
  · omega
  · omega
  · have := h1.kle hC; omega
  · omega
  · omega
theorem PhM.spot (hC : C.ok) {b : Bg} {size s0 k : Int} {own : Bool} {w0 w : Int → Int} {m : Am} (h : PhM C b size own w0 s0 k m A) (hal : Alo C b.o b.u b.nx w) (hcl : 0 ≤ classOf size) (hcl3 : classOf size ≤ 3) (h3 : 3 ≤ m.a.pc) (h6 : m.a.pc ≤ 6) :
    ∃ s F j, b.F = s :: F ∧ m.a.at' = s ∧ m.a.sa = C.base j + b.u j ∧ (0 ≤ j ∧ j < C.C) ∧ 0 ≤ b.u j ∧ b.u j + roomOf (classOf size) ≤ C.W := by
  rcases h with ⟨_, _, _, h, _⟩ | ⟨s, F, hb, ⟨h, _⟩ | ⟨kk, ⟨_, _, h, _⟩, _⟩ | ⟨j, b', hg, hp, _⟩ | ⟨_, _, _, _, _, _, kk, ⟨h, _⟩, _⟩⟩
  · omega
  · omega
  · omega
  · obtain ⟨d1, d2, d3, d4⟩ := hg.bd hC hal hcl hcl3
    exact ⟨s, F, j, hb, hp.has.at', hp.sa, d1, by omega, by omega⟩
  · omega
theorem Fw.mono {b : Bg} {c c' : Prop} {w0 w : Int → Int} (h : Fw C b c w0 w) (hc : c → c') : Fw C b c' w0 w := ⟨fun t t0 t1 ht => h.slot t t0 t1 fun q => ht (hc q), h.word⟩
theorem PhM.fw (hC : C.ok) {b : Bg} {size s0 k a : Int} {own : Bool} {w0 w : Int → Int} {m : Am} {r : Bool × Am × Ar} (hM : PhM C b size own w0 s0 k m A) (hfit : m.fit C A) (hal : Alo C b.o b.u b.nx w) (hcl : 0 ≤ classOf size) (hcl3 : classOf size ≤ 3)
    (ht : Tch C A m r a) (hf : Fw C b (m.a.pc = 6) w0 A.w) {ch : Prop} (hch : m.a.pc = 5 ∨ m.a.pc = 6 → ch) : Fw C b ch w0 r.2.2.w := by
  have hT := hC.T
  have hS := hC.S
  have hCC := hC.C
  have hr := room_bd hcl hcl3
  have low : a < C.base 0 ∨ (m.a.pc = 4 ∨ m.a.pc = 6) ∧ a = m.a.sa := by
    have hb0 : C.base 0 = 6 + C.T + 2 * C.S + 3 * C.C := by unfold Cf.base; omega
    rcases ht.kind with ⟨_, h | ⟨s, s0, s1, h⟩⟩ | ⟨h1, h, _⟩ | ⟨h1, h⟩ | ⟨h1, h⟩ | ⟨h1, h⟩ | ⟨h1, h⟩
    · left; omega
    · left; unfold Cf.slot at h; omega
    · have := hfit.at' (by omega); left; unfold Cf.slot at h; omega
    · have := (hfit.pl h1).1.at'; have := (hfit.pl h1).1.cls; left; unfold Cf.chunk at h; omega
    · have := (hfit.spot (by omega) (by omega)).1; left; unfold Cf.chunk at h; omega
    · exact .inr ⟨h1, h⟩
    · have := hfit.at' (by omega); left; unfold Cf.slot at h; omega
  refine ⟨fun t t0 t1 hx => ?_, fun j i j0 j1 i0 i1 i2 => ?_⟩
  · have hold : A.w (C.slot t) = w0 (C.slot t) := hf.slot t t0 t1 fun q => hx (hch (.inr q))
    by_cases e : C.slot t = a
    · rcases ht.kind with ⟨_, h | ⟨s, s0, s1, h⟩⟩ | ⟨h1, h, h2⟩ | ⟨h1, h⟩ | ⟨h1, h⟩ | ⟨h1, h⟩ | ⟨h1, h⟩
      · unfold Cf.slot at e; omega
      · unfold Cf.slot at e h; omega
      · rw [h2]; exact hold
      · have := (hfit.pl h1).1.at'; have := (hfit.pl h1).1.cls; unfold Cf.chunk at h; unfold Cf.slot at e; omega
      · have := (hfit.spot (by omega) (by omega)).1; unfold Cf.chunk at h; unfold Cf.slot at e; omega
      · obtain ⟨s, F, j, q1, q2, q3, q4, q5, q6⟩ := hM.spot hC hal hcl hcl3 (by omega) (by omega)
        exact absurd (by rw [e, h, q3]) ((addr_ne hC q4.1 q4.2 q5).1 t t1).symm
      · obtain ⟨s, F, j, q1, q2, q3, q4, q5, q6⟩ := hM.spot hC hal hcl hcl3 (by omega) (by omega)
        have : t = s := by rw [h, q2] at e; unfold Cf.slot at e; omega
        subst this
        exact absurd q1 (hx (hch (.inl h1)) F)
    · rw [ht.w _ e]; exact hold
  · have hge : C.base 0 ≤ C.base j + i := by have := mulW hC j0 (by omega); unfold Cf.base; omega
    rw [ht.w _ ?_]
    · exact hf.word j i j0 j1 i0 i1 i2
    · rcases low with q | ⟨q, e⟩
      · omega
      · obtain ⟨s, F, jj, q1, q2, q3, q4, q5, q6⟩ := hM.spot hC hal hcl hcl3 (by omega) (by omega)
        rw [e, q3]
        intro q7
        obtain ⟨rfl, q8⟩ := base_inj hC j0 j1 i0 i2 q4.1 q4.2 q5 (by omega) q7
        omega
theorem class_bd (n : Int) : -1 ≤ classOf n ∧ classOf n ≤ 3 := by unfold classOf; (repeat' split) <;> omega
structure Mkr (C : Cf) (b : Bg) (size : Int) (own : Bool) (A0 : Ar) (bb k : Int) (m : Am) (A : Ar) : Prop where
  ph : PhM C b size own A0.w A0.s k m A
  pa : Pa C A (bb + k)
  fw : Fw C b (m.a.pc = 6) A0.w A.w
  s : A.s = A0.s + k
theorem Mkr.new {b : Bg} {size bb : Int} {own : Bool} (hP : Pa C A bb) (hAw : b.aw C A.w) : Mkr C b size own A bb 0 (Am.new size own) A :=
  ⟨.inl (PhT.new hAw), by simpa using hP, ⟨fun _ _ _ _ => rfl, fun _ _ _ _ _ _ _ => rfl⟩, by omega⟩
theorem Mkr.fit (hC : C.ok) {b : Bg} {size bb k : Int} {own : Bool} {A0 : Ar} {m : Am} (h : Mkr C b size own A0 bb k m A) (hAw : b.aw C A0.w) (hcl : 0 ≤ classOf size) : m.fit C A :=
  h.ph.fit hC h.pa hcl fun s hs => hAw.fre.c.mem s hs
theorem Mkr.step (hC : C.ok) {b : Bg} {size bb k : Int} {own : Bool} {A0 : Ar} {m : Am} (h : Mkr C b size own A0 bb k m A) (hb : bb < 2305843009213693952) (hAw : b.aw C A0.w) (hlv : b.lvok C) (hcl : 0 ≤ classOf size) (k0 : 0 ≤ k) :
    (∃ a, Tch C A m (m.step C who A) a) ∧ (((m.step C who A).1 = false ∧ Mkr C b size own A0 bb (k + 1) (m.step C who A).2.1 (m.step C who A).2.2) ∨
      ((m.step C who A).1 = true ∧ DnM C b size own A0.w A0.s (m.step C who A).2.1 (m.step C who A).2.2 ∧ Pa C (m.step C who A).2.2 (bb + k + 1))) := by
  obtain ⟨h, hP', hf, hs⟩ := h
  have hcl3 := (class_bd size).2
  have hCC := hC.C
  have hF : ∀ s ∈ b.F, 0 ≤ s ∧ s < C.S := fun s hs => hAw.fre.c.mem s hs
  have hnd := hAw.fre.nd
  have hu : ∀ j, 0 ≤ j → j < C.C → 0 ≤ b.u j := fun j j0 j1 => Aw.u0 hAw j0 j1
  have hfit := h.fit hC hP' hcl hF
  have hkl := h.kle hC
  have hcz : ¬ (m.a.pc = 0 ∧ classOf m.a.size < 0) := by
    rintro ⟨q0, q⟩
    rcases h with ⟨_, e, _⟩ | ⟨s, F, hb, ⟨h, _⟩ | ⟨kk, ⟨_, _, h, _⟩, _⟩ | ⟨j, b', hg, hp, _, h⟩ | ⟨_, _, _, _, _, _, kk, ⟨h, _⟩, _⟩⟩
    · rw [e] at q; omega
    all_goals omega
  obtain ⟨g1, a, g2⟩ := Am.go (who := who) hC (by omega) hP' hfit hcz (fun q => by
    obtain ⟨s, F, j, q1, q2, q3, q4, q5, q6⟩ := h.spot hC hAw.alo hcl hcl3 (by omega) (by omega)
    have := mulW hC q4.1 (by have := hC.C; omega)
    rw [q3]; unfold Cf.base; omega)
  have hst := h.step (who := who) hC hP' (by omega) hcl hcl3 hF hnd hlv hu (fun q t t0 t1 => hf.slot t t0 t1 fun e => by omega) (by omega) g2.s ⟨_, hAw.alo⟩
  have hpc : m.a.pc = 5 ∨ m.a.pc = 6 → (m.step C who A).2.1.a.pc = 6 ∧ ((m.step C who A).1 = true → (m.step C who A).2.1.a.oE = 0) := by
    intro q
    rcases q with q | q
    · have e : m.step C who A = (false, { m with a := { m.a with pc := 6, oE := 0, oH := putHandle m.a.at' m.a.gen, oV := 0, oS := ((A.by who).store (C.slot m.a.at') (putSlot 1 m.a.sa m.a.gen 0)).s } }, (A.by who).store (C.slot m.a.at') (putSlot 1 m.a.sa m.a.gen 0)) := by
        unfold Am.step; rw [if_neg (by omega), if_neg (by omega), if_neg (by omega), if_neg (by omega), if_neg (by omega), if_pos q]
      rw [e]; exact ⟨rfl, fun x => by cases x⟩
    · have e : m.step C who A = (true, m, (A.by who).store m.a.sa (putHead 2 m.a.size m.a.at' m.a.gen m.a.own)) := by
        unfold Am.step; rw [if_neg (by omega), if_neg (by omega), if_neg (by omega), if_neg (by omega), if_neg (by omega), if_neg (by omega), if_pos q]
      rw [e]
      refine ⟨q, fun _ => ?_⟩
      rcases h with ⟨_, _, _, h, _⟩ | ⟨s, F, hb, ⟨h, _⟩ | ⟨kk, ⟨_, _, h, _⟩, _⟩ | ⟨j, b', hg, hp, _, h⟩ | ⟨_, _, _, _, _, _, kk, ⟨h, _⟩, _⟩⟩
      · omega
      · omega
      · omega
      · rcases h with ⟨h, _⟩ | ⟨_, ⟨h, _⟩ | ⟨_, ⟨h, _⟩ | ⟨_, _, h, _⟩⟩⟩
        · omega
        · omega
        · omega
        · exact h
      · omega
  have hg2s := g2.s
  refine ⟨⟨a, g2⟩, ?_⟩
  rcases hst with ⟨d, hst⟩ | ⟨d, hS, hst⟩
  · exact .inl ⟨d, hst, by rw [show bb + (k + 1) = bb + k + 1 by omega]; exact g1, h.fw hC hfit hAw.alo hcl hcl3 g2 hf fun q => (hpc q).1, by omega⟩
  · exact .inr ⟨d, ⟨⟨hS, by omega⟩, h.fw hC hfit hAw.alo hcl hcl3 g2 hf fun q => (hpc q).2 d, hst⟩, g1⟩
theorem c_MakeA (hN : N.ok) (hC : C.ok) (hA : isA N A σ) {b : Bg} {size bb : Int} {own : Bool} (hP : Pa C A bb) (hb : bb < 2305843009213693952) (hAw : b.aw C A.w) (hlv : b.lvok C) (hcl : 0 ≤ classOf size)
    (hk : ∀ m A' τ, DnM C b size own A.w A.s m A' → Pa C A' (bb + 100) → isA N A' τ → Keep N.l σ τ → K (.agg #[.int .i64 m.a.oE, .int .u64 m.a.oH, .int .i64 m.a.oV, .int .i64 m.a.oS]) τ) :
    s_law08_Make [N.env C who, .int .i64 size, .bool own] K σ := by
  have hCC := hC.C
  refine c_Make hN hC hA (Mkr C b size own A bb) (fun m A' => DnM C b size own A.w A.s m A' ∧ Pa C A' (bb + 100)) (.new hP hAw) ?_ (fun m A' h => by have := h.ph.kle hC; omega) fun m A' τ h => hk m A' τ h.1 h.2
  intro k m A' k0 k1 h
  refine ⟨h.fit hC hAw hcl, h.pa.ok.w, h.pa.n, ?_⟩
  have hkl := h.ph.kle hC
  rcases (h.step (who := who) hC hb hAw hlv hcl k0).2 with ⟨d, h'⟩ | ⟨d, h', hP'⟩
  · rw [if_neg (by rw [d]; decide)]; exact h'
  · rw [if_pos d]; exact ⟨h', hP'.mono (by omega)⟩
theorem c_MakeE (hN : N.ok) (hC : C.ok) (hA : isA N A σ) {size bb : Int} {own : Bool} (hP : Pa C A bb) (hcl : classOf size < 0)
    (hk : ∀ τ, isA N A τ → Keep N.l σ τ → K (.agg #[.int .i64 5, .int .u64 0, .int .i64 0, .int .i64 A.s]) τ) : s_law08_Make [N.env C who, .int .i64 size, .bool own] K σ := by
  refine c_Make hN hC hA (fun k m A' => k = 0 ∧ m = Am.new size own ∧ A' = A) (fun m A' => A' = A ∧ m.a.oE = 5 ∧ m.a.oH = 0 ∧ m.a.oV = 0 ∧ m.a.oS = A.s) ⟨rfl, rfl, rfl⟩ ?_ (fun m A' h => by omega) ?_
  · rintro k m A' k0 k1 ⟨rfl, rfl, rfl⟩
    refine ⟨⟨⟨Int.le_refl 0, (by decide : (0 : Int) ≤ 7)⟩, fun _ => ⟨⟨Int.le_refl 0, (by decide : (0 : Int) < 18446744073709551616)⟩, fun q => (by cases q), (by decide : (0 : Int) ≤ 0 + 1)⟩, fun e => absurd rfl e, fun e => absurd rfl e, fun e => (by cases e), fun e => absurd e (by decide : ¬ (3 : Int) ≤ 0), fun e => (by cases e)⟩, hP.ok.w, hP.n, ?_⟩
    have e : (Am.new size own).step C who A' = (true, { Am.new size own with a := (Am.new size own).out A' 5 }, A') := by
      unfold Am.step; rw [if_pos (show (Am.new size own).a.pc = 0 from rfl), if_pos (show classOf (Am.new size own).a.size < 0 from hcl)]
    rw [e]; exact ⟨rfl, rfl, rfl, rfl, rfl⟩
  · rintro m A' τ ⟨rfl, h1, h2, h3, h4⟩ hA' hK
    rw [h1, h2, h3, h4]; exact hk τ hA' hK
end Go.Fl
namespace Go.Fl
open Go
set_option linter.unusedVariables false
set_option linter.unusedSimpArgs false
variable {N : Nm} {A B : Ar} {σ : Mem} {K : Value → Mem → Prop} {C : Cf} {who : Int}
def Bg.fr (C : Cf) : Bg := ⟨upL 0 C.S.toNat, fun _ => -1, fun _ => 0, fun _ => 0, 0⟩
theorem w0_high (hC : C.ok) {a : Int} (h : C.chunk 0 ≤ a) : C.w0 a = 0 := by
  have := hC.T; have := hC.S
  unfold Cf.chunk at h
  unfold Cf.w0 Cf.fr Cf.slot
  rw [if_neg (by omega), if_neg (by omega), if_neg (by omega)]
theorem fr_aw (hC : C.ok) : (Bg.fr C).aw C C.w0 := by
  have hT := hC.T
  have hS := hC.S
  have hCC := hC.C
  have hW := hC.W
  have hb0 : C.base 0 = 6 + C.T + 2 * C.S + 3 * C.C := by unfold Cf.base; omega
  have hc0 : C.chunk 0 = 6 + C.T + 2 * C.S := by unfold Cf.chunk; omega
  refine ⟨fre0 hC, ⟨⟨(by decide : (0 : Int) ≤ 0), by show (0 : Int) ≤ C.C; omega⟩, fun c c0 c3 => ⟨w0_open hC c0 c3, (by decide : (-1 : Int) ≤ -1), (by decide : (-1 : Int) < 0)⟩, fun c _ _ h => absurd h (by decide : ¬ (0 : Int) ≤ -1), fun j j0 j1 => ?_, fun j j0 j1 => ⟨w0_chunk hC j0, rfl⟩⟩, fun j j0 j1 => ?_, fun j i j0 j1 i0 i1 => ?_⟩
  · have : j < 0 := j1
    omega
  · exact w0_high hC (by unfold Cf.chunk at *; omega)
  · have : (0 : Int) ≤ i := i0
    have := mulW hC j0 (by omega)
    exact w0_high hC (by rw [hc0]; unfold Cf.base; omega)
theorem Frsh.pa (hC : C.ok) (h : Frsh N C A) : Pa C A (2 * C.S + 2) := by
  have hl := len_bd hC
  have hCC := hC.C
  refine ⟨h.ok, ?_, fun c c0 c3 => ?_⟩
  · rw [h.n]; omega
  · rw [h.w, w0_open hC c0 c3]; omega
theorem Frsh.aw (hC : C.ok) (h : Frsh N C A) : (Bg.fr C).aw C A.w := by rw [h.w]; exact fr_aw hC
structure Bg.lvM (b : Bg) (C : Cf) (M : Int) : Prop where
  lv : ∀ j, 0 ≤ j → j < C.C → 0 ≤ b.lv j ∧ b.lv j ≤ M
theorem Bg.lvM.ok {b : Bg} {M : Int} (h : b.lvM C M) (hM : M ≤ 1000000000) : b.lvok C := ⟨fun j j0 j1 => by have := h.lv j j0 j1; omega⟩
theorem Bg.lvM.mono {b : Bg} {M M' : Int} (h : b.lvM C M) (hM : M ≤ M') : b.lvM C M' := ⟨fun j j0 j1 => by have := h.lv j j0 j1; omega⟩
theorem Bg.lvM.count {b b' : Bg} {F : List Int} {M c j : Int} (hC : C.ok) (h : b.lvM C M) (hg : Got C b F c j b') (c0 : 0 ≤ c) (c3 : c ≤ 3) : (b'.count j (roomOf c)).lvM C (M + 17) := by
  have hr := room_bd c0 c3
  refine ⟨fun i i0 i1 => ?_⟩
  have e : (b'.count j (roomOf c)).lv = upd b.lv j (b.lv j + roomOf c) := by
    show upd b'.lv j (b'.lv j + roomOf c) = _
    rw [(hg.has hC).2]
  have := h.lv i i0 i1
  rw [e]
  unfold upd
  split
  · rename_i q; subst q; omega
  · omega
theorem Fin.ok {b : Bg} {size s0 s : Int} {own : Bool} {w0 : Int → Int} {m : Am} {F : List Int} (h : Fin C b size own w0 s0 m A) (hF : b.F = s :: F) (hr : good C b.o b.u (classOf size) ∨ b.nx ≠ C.C) :
    m.a.oE = 0 ∧ s0 < m.a.oS ∧ ∃ j b', Got C b F (classOf size) j b' ∧ (0 ≤ j ∧ j < C.C) ∧ (0 ≤ b.u j ∧ b.u j + roomOf (classOf size) ≤ b'.u j ∧ b'.u j ≤ C.W) ∧ m.a.oH = putHandle s (slG (w0 (C.slot s))) ∧ (b'.count j (roomOf (classOf size))).aw C A.w ∧
      A.w (C.slot s) = putSlot 1 (C.base j + b.u j) (slG (w0 (C.slot s))) 0 ∧ A.w (C.base j + b.u j) = putHead 2 size s (slG (w0 (C.slot s))) own ∧ ∀ x, 1 ≤ x → x < roomOf (classOf size) → A.w (C.base j + (b.u j + x)) = 0 := by
  rcases h with ⟨_, _, h, _⟩ | ⟨s', F', h, ⟨_, _, h1, h2, _⟩ | h'⟩
  · rw [hF] at h; cases h
  · rcases hr with q | q
    · exact absurd q h1
    · exact absurd h2 q
  · rw [hF] at h
    cases h
    exact h'
theorem Ob.ext {p : Nat} {O : List Nat} {m : Am} {τ : Mem} (h : Ob N p O m σ) (x : Ext σ τ) : Ob N p O m τ := by
  obtain ⟨⟨a, b, h1, h2, h3⟩, h4, h5⟩ := h
  refine ⟨⟨a, b, x _ _ h1, fun e => ?_, fun e => ?_⟩, h4, h5⟩
  · obtain ⟨q, q1, q2, q3, q4⟩ := h2 e; exact ⟨q, q1, q2, q3, x _ _ q4⟩
  · obtain ⟨q, q1, q2, q3, q4⟩ := h3 e; exact ⟨q, q1, q2, q3, x _ _ q4⟩
theorem Tch.bd (hC : C.ok) {m : Am} {r : Bool × Am × Ar} {a : Int} (h : Tch C A m r a) (hf : m.fit C A) (hs : m.a.pc = 4 ∨ m.a.pc = 6 → C.base 0 ≤ m.a.sa ∧ m.a.sa < C.len) :
    (0 ≤ a ∧ a < C.len) ∧ (C.base 0 ≤ a → (m.a.pc = 4 ∨ m.a.pc = 6) ∧ a = m.a.sa) := by
  have hl := len_bd hC
  have hT := hC.T
  have hS := hC.S
  have hCC := hC.C
  have hb0 : C.base 0 = 6 + C.T + 2 * C.S + 3 * C.C := by unfold Cf.base; omega
  have hch : C.chunk C.C = 6 + C.T + 2 * C.S + 3 * C.C := rfl
  rcases h.kind with ⟨_, h | ⟨s, s0, s1, h⟩⟩ | ⟨h1, h, _⟩ | ⟨h1, h⟩ | ⟨h1, h⟩ | ⟨h1, h⟩ | ⟨h1, h⟩
  · omega
  · unfold Cf.slot at h; omega
  · have := hf.at' (by omega); unfold Cf.slot at h; omega
  · have := (hf.pl h1).1.at'; have := (hf.pl h1).1.cls; unfold Cf.chunk at *; omega
  · have := (hf.spot (by omega) (by omega)).1; unfold Cf.chunk at *; omega
  · have := hs h1
    exact ⟨by omega, fun _ => ⟨h1, h⟩⟩
  · have := hf.at' (by omega); unfold Cf.slot at h; omega
end Go.Fl
namespace Go.Fl
open Go
set_option linter.unusedVariables false
set_option linter.unusedSimpArgs false
variable {N : Nm} {A B : Ar} {σ : Mem} {K : Value → Mem → Prop} {C : Cf} {who : Int}
structure Snd (C : Cf) (A : Ar) (h size : Int) (own : Bool) : Prop where
  hh : 65536 ≤ h ∧ h < 4294967296
  s : h % 65536 < C.S
  st : slS (A.w (C.slot (h % 65536))) = 1
  ge : slG (A.w (C.slot (h % 65536))) = h / 65536
  ve : slV (A.w (C.slot (h % 65536))) = 0
  sz : 1 ≤ size ∧ size ≤ 16
  a0 : C.base 0 ≤ slA (A.w (C.slot (h % 65536)))
  a1 : slA (A.w (C.slot (h % 65536))) + size < C.len
  hd : A.w (slA (A.w (C.slot (h % 65536)))) = putHead 2 size (h % 65536) (h / 65536) own
  ze : ∀ i, 0 ≤ i → i < size → A.w (slA (A.w (C.slot (h % 65536))) + 1 + i) = 0
  cs : chS (A.w (C.chunk (ofC C (slA (A.w (C.slot (h % 65536))))))) = 1
  cc : chC (A.w (C.chunk (ofC C (slA (A.w (C.slot (h % 65536))))))) = classOf size
theorem neFlat {K : Value → Prop} {a b c d : Int} {e : Bool} : xF (fBin .neq (.flat [true, true, true, true, false])) [.agg #[.int .i64 a, .int .i64 b, .int .i64 c, .int .i64 d, .bool e], .agg #[.int .i64 a, .int .i64 b, .int .i64 c, .int .i64 d, .bool e]] K = K (.bool false) := by
  simp [xF, fBin, eqV, eqCells, eqCell]
theorem ofC_bd (hC : C.ok) {a : Int} (h0 : C.base 0 ≤ a) (h1 : a < C.len) : 0 ≤ ofC C a ∧ ofC C a < C.C := by
  have hb0 : C.base 0 = 6 + C.T + 2 * C.S + 3 * C.C := by unfold Cf.base; omega
  have hW := hC.W
  have e : C.len = 6 + C.T + 2 * C.S + 3 * C.C + C.W * C.C := rfl
  unfold ofC
  rw [if_pos (by omega)]
  refine ⟨Int.ediv_nonneg (by omega) (by omega), Int.ediv_lt_of_lt_mul (by omega) ?_⟩
  rw [Int.mul_comm]; omega
theorem c_sound (hN : N.ok) (hC : C.ok) (hA : isA N A σ) {h size : Int} {own : Bool} (hw : ∀ i, 0 ≤ A.w i ∧ A.w i < 18446744073709551616) (hn : C.len ≤ A.n) (hs : Snd C A h size own) (hk : ∀ τ, Ext σ τ → K (.bool true) τ) :
    s_law08_sound [N.env C who, .int .u64 h, .int .i64 size, .bool own] K σ := by
  have hh := hs.hh
  have hS := hC.S
  have hT := hC.T
  have hCC := hC.C
  have hss := hs.s
  have hl := len_bd hC
  have hsz := hs.sz
  have hch : C.chunk C.C = 6 + C.T + 2 * C.S + 3 * C.C := rfl
  have hb0 : C.base 0 = 6 + C.T + 2 * C.S + 3 * C.C := by unfold Cf.base; omega
  obtain ⟨_, _, st, ge, ve, _, a0, a1, hd, ze, hcs, hcc⟩ := hs
  have hs0 : 0 ≤ h % 65536 := by omega
  have hg : 0 ≤ h / 65536 ∧ h / 65536 ≤ 65535 := by omega
  generalize hsl : h % 65536 = s at *
  generalize hge : h / 65536 = g at *
  have hsb : 0 ≤ C.slot s ∧ C.slot s < A.n := by unfold Cf.slot; omega
  have hwa := hw (C.slot s)
  have hab := slA_bd (A.w (C.slot s))
  generalize hwe : A.w (C.slot s) = w at *
  generalize hae : slA w = a at *
  have hkb := ofC_bd hC a0 (by omega)
  have hwk := hw (C.chunk (ofC C a))
  have hcb := chunk_bd hC hkb.1 hkb.2 hn
  obtain ⟨p1, p2, p3, p4, p5⟩ := hd_put (k := 2) (s := size) (t := s) (g := g) (o := own) (by decide) (by omega) (by omega) (by omega)
  have hwd := hw a
  have g2 : ∀ (k : Nat) (x y : Int), gStore 2 [.pointer (some ⟨k, 0, some 0⟩), .agg #[.int .i64 x, .int .i64 y]] [.int .i64 0, .int .i64 0] = some [.int .i64 x, .int .i64 y] := fun _ _ _ => rfl
  have g4 : ∀ (k : Nat) (x y z w : Int), gStore 4 [.pointer (some ⟨k, 0, some 0⟩), .agg #[.int .i64 x, .int .i64 y, .int .i64 z, .int .i64 w]] [.int .i64 0, .int .i64 0, .int .i64 0, .int .i64 0] = some [.int .i64 x, .int .i64 y, .int .i64 z, .int .i64 w] := fun _ _ _ _ _ => rfl
  have g5 : ∀ (k : Nat) (x y z w : Int) (b : Bool), gStore 5 [.pointer (some ⟨k, 0, some 0⟩), .agg #[.int .i64 x, .int .i64 y, .int .i64 z, .int .i64 w, .bool b]] [.int .i64 0, .int .i64 0, .int .i64 0, .int .i64 0, .bool false] = some [.int .i64 x, .int .i64 y, .int .i64 z, .int .i64 w, .bool b] := fun _ _ _ _ _ _ => rfl
  have s5 : ∀ x y z w v : Value, sub [x, y, z, w, v] 0 5 true = some (.agg #[x, y, z, w, v]) := fun _ _ _ _ _ => rfl
  have b5 : ∀ (x y z w : Int) (b : Bool) (K : Value → Prop), xF (fBuild [(0, 1), (1, 1), (2, 1), (3, 1), (4, 1)] [.int .i64 0, .int .i64 0, .int .i64 0, .int .i64 0, .bool false] [0, 1, 2, 3, 4]) [.int .i64 x, .int .i64 y, .int .i64 z, .int .i64 w, .bool b] K = K (.agg #[.int .i64 x, .int .i64 y, .int .i64 z, .int .i64 w, .bool b]) := fun _ _ _ _ _ K => nr rfl
  have hsS : ¬ C.S ≤ s := by omega
  simp only [s_law08_sound, w_law08_sound, xMove, xPickT, xPickF, xNil, xFld, xExt0, xExt1, xExt30, xExt31, xExt32, xAdd, xSub, xMul, xEql, xNeq, xLss, xLeq, xGtr, xGeq, xEqPN, xEqNN, xNePN, xNeNN, xEqBB, xNeBB, xNot, xConv, xLen, xMin, xMax, xIfc, xIfT, xIfF, xIfD, xJoinE, xOs, xCs, xFldV, List.getD_cons_zero, List.getD_cons_succ, Nat.zero_add, Nat.reduceAdd, Mem.get_set_same, Mem.set_set, if_true, if_false, Bool.not_true, Bool.not_false, decide_true, decide_false, decide_eq_true_eq, decide_not, Bool.not_eq_true, Bool.false_eq_true, reduceIte, Int.reduceLT, Int.reduceLE, Int.reduceEq, Int.reduceNeg, Int.reduceAdd, Int.reduceSub, locP_e, gBox_a, gBox_i, gBox_b, gBox_p, gLoad_s, gAlloc_s, gStore_a, gStore_i, gStore_b, gStore_p, sub_z, sub_s, lay_z, lay_s, List.length_cons, List.length_nil, Nat.reduceLeDiff, Nat.le_refl, List.drop_zero, List.drop_succ_cons, List.take_succ_cons, List.take_zero, List.drop_nil, List.cons_append, List.nil_append, List.all_cons, List.all_nil, oneB_i, oneB_b, oneB_p, oneB_sl, Bool.and_true, Nat.reduceLT, Nat.lt_irrefl, Nat.zero_lt_one, gBoxE, gBoxC, subE, subEC, subE0, subE1, subE2, subE3, subE4, subE6, subE7, subE8, subC, subC0, subC1, subC2, subC3, subC4, subC5, subC6]
  rw [c_wHandle (by omega) (by omega) (by omega), hsl, hge]
  simp only [g2, hsS, w_law08_sound_j1, w_law08_sound_j1b, c_Slot hC hs0 (show s ≤ 65536 by omega), c_PeekA hN hA hsb.1 hsb.2, hwe, c_wSlot hwa.1 hwa.2, g4, hae, c_PeekA hN hA (show 0 ≤ a by omega) (show a < A.n by omega), c_wHead hwd.1 hwd.2, g5, xMove, xPickT, xPickF, xNil, xFld, xExt0, xExt1, xExt30, xExt31, xExt32, xAdd, xSub, xMul, xEql, xNeq, xLss, xLeq, xGtr, xGeq, xEqPN, xEqNN, xNePN, xNeNN, xEqBB, xNeBB, xNot, xConv, xLen, xMin, xMax, xIfc, xIfT, xIfF, xIfD, xJoinE, xOs, xCs, xFldV, List.getD_cons_zero, List.getD_cons_succ, Nat.zero_add, Nat.reduceAdd, Mem.get_set_same, Mem.set_set, if_true, if_false, Bool.not_true, Bool.not_false, decide_true, decide_false, decide_eq_true_eq, decide_not, Bool.not_eq_true, Bool.false_eq_true, reduceIte, Int.reduceLT, Int.reduceLE, Int.reduceEq, Int.reduceNeg, Int.reduceAdd, Int.reduceSub, locP_e, gBox_a, gBox_i, gBox_b, gBox_p, gLoad_s, gAlloc_s, gStore_a, gStore_i, gStore_b, gStore_p, sub_z, sub_s, lay_z, lay_s, List.length_cons, List.length_nil, Nat.reduceLeDiff, Nat.le_refl, List.drop_zero, List.drop_succ_cons, List.take_succ_cons, List.take_zero, List.drop_nil, List.cons_append, List.nil_append, List.all_cons, List.all_nil, oneB_i, oneB_b, oneB_p, oneB_sl, Bool.and_true, Nat.reduceLT, Nat.lt_irrefl, Nat.zero_lt_one, gBoxE, gBoxC, subE, subEC, subE0, subE1, subE2, subE3, subE4, subE6, subE7, subE8, subC, subC0, subC1, subC2, subC3, subC4, subC5, subC6]
  simp only [st, ge, ve, hd, p1, p2, p3, p4, p5, s5, b5, neFlat, ne_eq, not_true_eq_false, w_law08_sound_j2, w_law08_sound_j2b, xMove, xPickT, xPickF, xNil, xFld, xExt0, xExt1, xExt30, xExt31, xExt32, xAdd, xSub, xMul, xEql, xNeq, xLss, xLeq, xGtr, xGeq, xEqPN, xEqNN, xNePN, xNeNN, xEqBB, xNeBB, xNot, xConv, xLen, xMin, xMax, xIfc, xIfT, xIfF, xIfD, xJoinE, xOs, xCs, xFldV, List.getD_cons_zero, List.getD_cons_succ, Nat.zero_add, Nat.reduceAdd, Mem.get_set_same, Mem.set_set, if_true, if_false, Bool.not_true, Bool.not_false, decide_true, decide_false, decide_eq_true_eq, decide_not, Bool.not_eq_true, Bool.false_eq_true, reduceIte, Int.reduceLT, Int.reduceLE, Int.reduceEq, Int.reduceNeg, Int.reduceAdd, Int.reduceSub, locP_e, gBox_a, gBox_i, gBox_b, gBox_p, gLoad_s, gAlloc_s, gStore_a, gStore_i, gStore_b, gStore_p, sub_z, sub_s, lay_z, lay_s, List.length_cons, List.length_nil, Nat.reduceLeDiff, Nat.le_refl, List.drop_zero, List.drop_succ_cons, List.take_succ_cons, List.take_zero, List.drop_nil, List.cons_append, List.nil_append, List.all_cons, List.all_nil, oneB_i, oneB_b, oneB_p, oneB_sl, Bool.and_true, Nat.reduceLT, Nat.lt_irrefl, Nat.zero_lt_one, gBoxE, gBoxC, subE, subEC, subE0, subE1, subE2, subE3, subE4, subE6, subE7, subE8, subC, subC0, subC1, subC2, subC3, subC4, subC5, subC6]
  refine xLoop_i (fun i => [.int .i64 size, .int .i64 i]) [N.el C who, [.int .i64 1, .int .i64 a, .int .i64 g, .int .i64 0]] size (fun i τ => 0 ≤ i ∧ i ≤ size ∧ τ = σ) ?_ ⟨Int.le_refl 0, by omega, rfl⟩
  rintro i τ ⟨i0, i1, rfl⟩ R hR
  simp only [w_law08_sound_l10, w_law08_sound_l10b, xMove, xPickT, xPickF, xNil, xFld, xExt0, xExt1, xExt30, xExt31, xExt32, xAdd, xSub, xMul, xEql, xNeq, xLss, xLeq, xGtr, xGeq, xEqPN, xEqNN, xNePN, xNeNN, xEqBB, xNeBB, xNot, xConv, xLen, xMin, xMax, xIfc, xIfT, xIfF, xIfD, xJoinE, xOs, xCs, xFldV, List.getD_cons_zero, List.getD_cons_succ, Nat.zero_add, Nat.reduceAdd, Mem.get_set_same, Mem.set_set, if_true, if_false, Bool.not_true, Bool.not_false, decide_true, decide_false, decide_eq_true_eq, decide_not, Bool.not_eq_true, Bool.false_eq_true, reduceIte, Int.reduceLT, Int.reduceLE, Int.reduceEq, Int.reduceNeg, Int.reduceAdd, Int.reduceSub, locP_e, gBox_a, gBox_i, gBox_b, gBox_p, gLoad_s, gAlloc_s, gStore_a, gStore_i, gStore_b, gStore_p, sub_z, sub_s, lay_z, lay_s, List.length_cons, List.length_nil, Nat.reduceLeDiff, Nat.le_refl, List.drop_zero, List.drop_succ_cons, List.take_succ_cons, List.take_zero, List.drop_nil, List.cons_append, List.nil_append, List.all_cons, List.all_nil, oneB_i, oneB_b, oneB_p, oneB_sl, Bool.and_true, Nat.reduceLT, Nat.lt_irrefl, Nat.zero_lt_one, gBoxE, gBoxC, subE, subEC, subE0, subE1, subE2, subE3, subE4, subE6, subE7, subE8, subC, subC0, subC1, subC2, subC3, subC4, subC5, subC6]
  by_cases hi : i < size
  · have hz := ze i i0 hi
    rw [if_pos hi, IntWalk.i64_in (a + 1) (by omega), IntWalk.i64_in (a + 1 + i) (by omega), c_PeekA hN hA (by omega) (by omega), hz]
    simp only [ne_eq, not_true_eq_false, xMove, xPickT, xPickF, xNil, xFld, xExt0, xExt1, xExt30, xExt31, xExt32, xAdd, xSub, xMul, xEql, xNeq, xLss, xLeq, xGtr, xGeq, xEqPN, xEqNN, xNePN, xNeNN, xEqBB, xNeBB, xNot, xConv, xLen, xMin, xMax, xIfc, xIfT, xIfF, xIfD, xJoinE, xOs, xCs, xFldV, List.getD_cons_zero, List.getD_cons_succ, Nat.zero_add, Nat.reduceAdd, Mem.get_set_same, Mem.set_set, if_true, if_false, Bool.not_true, Bool.not_false, decide_true, decide_false, decide_eq_true_eq, decide_not, Bool.not_eq_true, Bool.false_eq_true, reduceIte, Int.reduceLT, Int.reduceLE, Int.reduceEq, Int.reduceNeg, Int.reduceAdd, Int.reduceSub, locP_e, gBox_a, gBox_i, gBox_b, gBox_p, gLoad_s, gAlloc_s, gStore_a, gStore_i, gStore_b, gStore_p, sub_z, sub_s, lay_z, lay_s, List.length_cons, List.length_nil, Nat.reduceLeDiff, Nat.le_refl, List.drop_zero, List.drop_succ_cons, List.take_succ_cons, List.take_zero, List.drop_nil, List.cons_append, List.nil_append, List.all_cons, List.all_nil, oneB_i, oneB_b, oneB_p, oneB_sl, Bool.and_true, Nat.reduceLT, Nat.lt_irrefl, Nat.zero_lt_one, gBoxE, gBoxC, subE, subEC, subE0, subE1, subE2, subE3, subE4, subE6, subE7, subE8, subC, subC0, subC1, subC2, subC3, subC4, subC5, subC6]
    rw [IntWalk.i64_in (i + 1) (by omega)]
    exact hR _ hi ⟨by omega, by omega, rfl⟩
  · rw [if_neg hi]
    simp only [w_law08_sound_j3, w_law08_sound_j3b, c_Of hC (show a < 9223372036854775808 by omega), c_Chunk hC hkb.1 (show ofC C a ≤ 65536 by omega), c_PeekA hN hA hcb.1 hcb.2, c_wChunk hwk.1 hwk.2, g4, hcs, xMove, xPickT, xPickF, xNil, xFld, xExt0, xExt1, xExt30, xExt31, xExt32, xAdd, xSub, xMul, xEql, xNeq, xLss, xLeq, xGtr, xGeq, xEqPN, xEqNN, xNePN, xNeNN, xEqBB, xNeBB, xNot, xConv, xLen, xMin, xMax, xIfc, xIfT, xIfF, xIfD, xJoinE, xOs, xCs, xFldV, List.getD_cons_zero, List.getD_cons_succ, Nat.zero_add, Nat.reduceAdd, Mem.get_set_same, Mem.set_set, if_true, if_false, Bool.not_true, Bool.not_false, decide_true, decide_false, decide_eq_true_eq, decide_not, Bool.not_eq_true, Bool.false_eq_true, reduceIte, Int.reduceLT, Int.reduceLE, Int.reduceEq, Int.reduceNeg, Int.reduceAdd, Int.reduceSub, locP_e, gBox_a, gBox_i, gBox_b, gBox_p, gLoad_s, gAlloc_s, gStore_a, gStore_i, gStore_b, gStore_p, sub_z, sub_s, lay_z, lay_s, List.length_cons, List.length_nil, Nat.reduceLeDiff, Nat.le_refl, List.drop_zero, List.drop_succ_cons, List.take_succ_cons, List.take_zero, List.drop_nil, List.cons_append, List.nil_append, List.all_cons, List.all_nil, oneB_i, oneB_b, oneB_p, oneB_sl, Bool.and_true, Nat.reduceLT, Nat.lt_irrefl, Nat.zero_lt_one, gBoxE, gBoxC, subE, subEC, subE0, subE1, subE2, subE3, subE4, subE6, subE7, subE8, subC, subC0, subC1, subC2, subC3, subC4, subC5, subC6]
    refine c_rClass fun υ x => ?_
    simp only [hcc, xMove, xPickT, xPickF, xNil, xFld, xExt0, xExt1, xExt30, xExt31, xExt32, xAdd, xSub, xMul, xEql, xNeq, xLss, xLeq, xGtr, xGeq, xEqPN, xEqNN, xNePN, xNeNN, xEqBB, xNeBB, xNot, xConv, xLen, xMin, xMax, xIfc, xIfT, xIfF, xIfD, xJoinE, xOs, xCs, xFldV, List.getD_cons_zero, List.getD_cons_succ, Nat.zero_add, Nat.reduceAdd, Mem.get_set_same, Mem.set_set, if_true, if_false, Bool.not_true, Bool.not_false, decide_true, decide_false, decide_eq_true_eq, decide_not, Bool.not_eq_true, Bool.false_eq_true, reduceIte, Int.reduceLT, Int.reduceLE, Int.reduceEq, Int.reduceNeg, Int.reduceAdd, Int.reduceSub, locP_e, gBox_a, gBox_i, gBox_b, gBox_p, gLoad_s, gAlloc_s, gStore_a, gStore_i, gStore_b, gStore_p, sub_z, sub_s, lay_z, lay_s, List.length_cons, List.length_nil, Nat.reduceLeDiff, Nat.le_refl, List.drop_zero, List.drop_succ_cons, List.take_succ_cons, List.take_zero, List.drop_nil, List.cons_append, List.nil_append, List.all_cons, List.all_nil, oneB_i, oneB_b, oneB_p, oneB_sl, Bool.and_true, Nat.reduceLT, Nat.lt_irrefl, Nat.zero_lt_one, gBoxE, gBoxC, subE, subEC, subE0, subE1, subE2, subE3, subE4, subE6, subE7, subE8, subC, subC0, subC1, subC2, subC3, subC4, subC5, subC6]
    exact hk υ x
theorem class_room {n : Int} (h : 0 ≤ classOf n) : (1 ≤ n ∧ n ≤ 16) ∧ n + 1 ≤ roomOf (classOf n) := by
  unfold classOf at *
  split at h
  · omega
  · rename_i h1; rw [if_neg h1]
    split at h
    · rename_i h2; rw [if_pos h2]; refine ⟨by omega, ?_⟩; show n + 1 ≤ 3; omega
    · rename_i h2; rw [if_neg h2]
      split at h
      · rename_i h3; rw [if_pos h3]; refine ⟨by omega, ?_⟩; show n + 1 ≤ 5; omega
      · rename_i h3; rw [if_neg h3]
        split at h
        · rename_i h4; rw [if_pos h4]; refine ⟨by omega, ?_⟩; show n + 1 ≤ 9; omega
        · rename_i h4; rw [if_neg h4]
          split at h
          · rename_i h5; rw [if_pos h5]; refine ⟨by omega, ?_⟩; show n + 1 ≤ 17; omega
          · omega
theorem handle_in {s g : Int} (s0 : 0 ≤ s ∧ s ≤ 65535) (g0 : 1 ≤ g ∧ g ≤ 65535) : (65536 ≤ putHandle s g ∧ putHandle s g < 4294967296) ∧ putHandle s g % 65536 = s ∧ putHandle s g / 65536 = g := by
  have e : putHandle s g = s + g * 65536 := by unfold putHandle; rw [cl_in s0.1 s0.2, cl_in (by omega) g0.2]
  rw [e]; omega
theorem Got.snd (hC : C.ok) {b b' : Bg} {F : List Int} {size s j ge : Int} {own : Bool} (hc : 0 ≤ classOf size) (s0 : 0 ≤ s ∧ s < C.S) (g0 : 1 ≤ ge ∧ ge ≤ 65535) (hg : Got C b F (classOf size) j b') (hal : ∃ w, Alo C b.o b.u b.nx w) (haw : (b'.count j (roomOf (classOf size))).aw C A.w)
    (h1 : A.w (C.slot s) = putSlot 1 (C.base j + b.u j) ge 0) (h2 : A.w (C.base j + b.u j) = putHead 2 size s ge own) (h3 : ∀ x, 1 ≤ x → x < roomOf (classOf size) → A.w (C.base j + (b.u j + x)) = 0) : Snd C A (putHandle s ge) size own := by
  have hS := hC.S
  have hc3 := (class_bd size).2
  obtain ⟨wA, hal⟩ := hal
  obtain ⟨d1, d2, d3, d4⟩ := hg.bd hC hal hc hc3
  have hr := room_bd hc hc3
  obtain ⟨sz, szr⟩ := class_room hc
  obtain ⟨u1, u2, u3⟩ := handle_in (s := s) (g := ge) (by omega) g0
  have hb1 := base_of hC d1.1 d1.2 d2.1 (by omega)
  have hb2 := base_ge hC d1.1 d1.2 d2.1
  have hb3 := base_of hC d1.1 d1.2 (i := b.u j + size) (by omega) (by omega)
  have hl := len_bd hC
  obtain ⟨p1, p2, p3, p4⟩ := sl_put (st := 1) (ad := C.base j + b.u j) (ge := ge) (ve := 0) (by decide) (by omega) (by omega) (by decide)
  have hb0 : C.base 0 = 6 + C.T + 2 * C.S + 3 * C.C := by unfold Cf.base; omega
  have hold := haw.alo.cls (classOf size) hc hc3
  have ho : (b'.count j (roomOf (classOf size))).o (classOf size) = j := d4
  rw [ho] at hold
  have hop := haw.alo.op (classOf size) hc hc3
  rw [ho] at hop
  have hol := haw.alo.old j d1.1 hop.2.2
  refine ⟨u1, by rw [u2]; exact s0.2, by rw [u2, h1]; exact p1, by rw [u2, u3, h1]; exact p3, by rw [u2, h1]; exact p4, sz, by rw [u2, h1, p2]; omega, by rw [u2, h1, p2]; omega, by rw [u2, u3, h1, p2]; exact h2, fun i i0 i1 => ?_, ?_, ?_⟩
  · rw [u2, h1, p2]
    have := h3 (1 + i) (by omega) (by omega)
    rw [← this]; congr 1; omega
  · rw [u2, h1, p2, hb1.1]; exact hol.1
  · rw [u2, h1, p2, hb1.1]; exact hold d1.1
end Go.Fl
namespace Go.Fl
open Go
set_option linter.unusedVariables false
set_option linter.unusedSimpArgs false
variable {N : Nm} {A B : Ar} {σ : Mem} {K : Value → Mem → Prop} {C : Cf} {who : Int}
def oC (o : Int → Int) : List Value := cells .i64 4 o
theorem oC_sub {o : Int → Int} {c : Int} (c0 : 0 ≤ c) (c3 : c ≤ 3) : sub (cells .i64 4 o) (c.toNat * 1) 1 false = some (.int .i64 (o c)) := by
  have := cells_sub .i64 (n := 4) o c0 (by omega); rwa [Nat.zero_add] at this
theorem oC_set {o : Int → Int} {c v : Int} (c0 : 0 ≤ c) (c3 : c ≤ 3) : gStore 1 [.pointer (some ⟨11, c.toNat * 1, some 0⟩), .int .i64 v] (cells .i64 4 o) = some (cells .i64 4 (upd o c v)) := by
  rw [gStore_i (by rw [cells_len]; omega), lay_set (by rw [cells_len]; omega), Nat.mul_one, cells_set .i64 o v c0 (by omega)]
theorem gStoreF {k : Nat} {a b c d w x y z : Int} : gStore 4 [.pointer (some ⟨k, 0, some 0⟩), .agg #[.int .i64 a, .int .i64 b, .int .i64 c, .int .i64 d]] [.int .i64 w, .int .i64 x, .int .i64 y, .int .i64 z] = some [.int .i64 a, .int .i64 b, .int .i64 c, .int .i64 d] := rfl
theorem gStoreU {k : Nat} {a b c d : Int} {w x y z : Int} : gStore 4 [.pointer (some ⟨k, 0, some 0⟩), .agg #[.int .i64 a, .int .u64 b, .int .i64 c, .int .i64 d]] [.int .i64 w, .int .u64 x, .int .i64 y, .int .i64 z] = some [.int .i64 a, .int .u64 b, .int .i64 c, .int .i64 d] := rfl
theorem oC_m : oC (fun _ => -1) = [.int .i64 (-1), .int .i64 (-1), .int .i64 (-1), .int .i64 (-1)] := rfl
structure Als (C : Cf) (n made i : Int) (A : Ar) (b : Bg) : Prop where
  aw : b.aw C A.w
  lv : ∀ j, 0 ≤ j → j < C.C → b.lv j = b.u j
  F : (b.F.length : Int) = n - made
  gen : ∀ s ∈ b.F, slG (A.w (C.slot s)) = 1
  some' : made = 0 ∨ ∃ j, 0 ≤ j ∧ j < C.C ∧ 0 < b.u j
  m0 : 0 ≤ made
theorem Als.lvM {n made i : Int} {b : Bg} (hC : C.ok) (h : Als C n made i A b) : b.lvok C := by
  refine ⟨fun j j0 j1 => ?_⟩
  have hW := hC.W
  rw [h.lv j j0 j1]
  by_cases e : j < b.nx
  · have := (h.aw.alo.old j j0 e).2.2; omega
  · have := (h.aw.alo.new j (by omega) j1).2; omega
theorem Als.ub {n made i : Int} {b : Bg} (hC : C.ok) (h : Als C n made i A b) {j : Int} (j0 : 0 ≤ j) (j1 : j < C.C) : 0 ≤ b.u j ∧ b.u j ≤ C.W := by
  have hW := hC.W
  by_cases e : j < b.nx
  · exact (h.aw.alo.old j j0 e).2.2
  · have := (h.aw.alo.new j (by omega) j1).2; omega
theorem Als.next {n made i size s0 : Int} {own : Bool} {b : Bg} {B : Ar} {m : Am} (hC : C.ok) (h : Als C n made i A b) (hc : 0 ≤ classOf size) (hD : DnM C b size own A.w A.s m B) :
    (m.a.oE = 7 ∧ b.F = [] ∧ Als C n made i B b) ∨ (m.a.oE = 6 ∧ b.F ≠ [] ∧ ¬ good C b.o b.u (classOf size) ∧ b.nx = C.C ∧ Als C n made i B b) ∨
    (m.a.oE = 0 ∧ b.F ≠ [] ∧ Snd C B m.a.oH size own ∧ ∃ F j b', Got C b F (classOf size) j b' ∧ (0 ≤ j ∧ j < C.C) ∧ Als C n (made + 1) i B (b'.count j (roomOf (classOf size)))) := by
  have keep : ¬ m.a.oE = 0 → b.aw C B.w → Als C n made i B b := fun e h' =>
    ⟨h', h.lv, h.F, fun s hs => by have hm := h.aw.fre.c.mem s hs; rw [hD.fw.slot s hm.1 hm.2 fun q => absurd q e]; exact h.gen s hs, h.some', h.m0⟩
  rcases hD.r with ⟨h1, _, h2, h3⟩ | ⟨s, F, hF, ⟨h1, _, h2, h3, h4⟩ | ⟨h1, _, j, b', hg, d1, d2, eH, haw, g1, g2, g3⟩⟩
  · exact .inl ⟨h1, h2, keep (by omega) h3⟩
  · exact .inr (.inl ⟨h1, by rw [hF]; simp, h2, h3, keep (by omega) h4⟩)
  · refine .inr (.inr ⟨h1, by rw [hF]; simp, ?_, F, j, b', hg, d1, haw, fun i i0 i1 => ?_, ?_, fun t ht => ?_, .inr ⟨j, d1.1, d1.2, ?_⟩, by have := h.m0; omega⟩)
    · have hs := h.aw.fre.c.mem s (by rw [hF]; simp)
      have hge := h.gen s (by rw [hF]; simp)
      rw [hge] at g1 g2 eH
      rw [eH]
      exact hg.snd hC hc hs (by decide) ⟨_, h.aw.alo⟩ haw g1 g2 g3
    · have e : (b'.count j (roomOf (classOf size))).lv = upd b.lv j (b.lv j + roomOf (classOf size)) := by
        show upd b'.lv j (b'.lv j + roomOf (classOf size)) = _
        rw [(hg.has hC).2]
      have eu : (b'.count j (roomOf (classOf size))).u = upd b.u j (b.u j + roomOf (classOf size)) := by rcases hg with ⟨_, _, q⟩ | ⟨_, _, _, q⟩ <;> rw [q] <;> rfl
      rw [e, eu, h.lv j d1.1 d1.2]
      unfold upd; split
      · rfl
      · exact h.lv i i0 i1
    · have := h.F
      have e : (b'.count j (roomOf (classOf size))).F = F := (hg.has hC).1
      rw [e]; rw [hF] at this; simp only [List.length_cons] at this; omega
    · have e : (b'.count j (roomOf (classOf size))).F = F := (hg.has hC).1
      rw [e] at ht
      have hb : t ∈ b.F := by rw [hF]; exact List.mem_cons_of_mem _ ht
      have hm := h.aw.fre.c.mem t hb
      have hnd := h.aw.fre.nd
      rw [hF] at hnd
      rw [hD.fw.slot t hm.1 hm.2 fun _ F' q => by
        rw [hF] at q; cases q
        exact (List.nodup_cons.1 hnd).1 ht]
      exact h.gen t hb
    · have hr := room_bd hc (class_bd size).2
      show 0 < b'.u j
      omega
theorem law_AllocAlone (σ : Mem) (a0 : Int) (w0 : (Lit.int .i64 a0).wf = true) (a1 : Int) (w1 : (Lit.int .i64 a1).wf = true) (s : Value) (len : Nat) (cs : List Value) (sl : Sl σ 1 len cs s) (hm : len ≤ maxLen) (hf : FlatL (List.replicate len [some .i64]).flatten cs) :
    s_law08_AllocAlone [.int .i64 a0, .int .i64 a1, s] (fun v _ => v = .bool true) σ := by
  obtain ⟨g, hg, _⟩ := sl.argI hf
  simp only [s_law08_AllocAlone, w_law08_AllocAlone, andI7, andI15, xMove, xPickT, xPickF, xNil, xFld, xExt0, xExt1, xExt30, xExt31, xExt32, xAdd, xSub, xMul, xEql, xNeq, xLss, xLeq, xGtr, xGeq, xEqPN, xEqNN, xNePN, xNeNN, xEqBB, xNeBB, xNot, xConv, xLen, xMin, xMax, xIfc, xIfT, xIfF, xIfD, xJoinE, xOs, xCs, xFldV, List.getD_cons_zero, List.getD_cons_succ, Nat.zero_add, Nat.reduceAdd, Mem.get_set_same, Mem.set_set, if_true, if_false, Bool.not_true, Bool.not_false, decide_true, decide_false, decide_eq_true_eq, decide_not, Bool.not_eq_true, Bool.false_eq_true, reduceIte, Int.reduceLT, Int.reduceLE, Int.reduceEq, Int.reduceNeg, Int.reduceAdd, Int.reduceSub, locP_e, gBox_a, gBox_i, gBox_b, gBox_p, gLoad_s, gAlloc_s, gStore_a, gStore_i, gStore_b, gStore_p, sub_z, sub_s, lay_z, lay_s, List.length_cons, List.length_nil, Nat.reduceLeDiff, Nat.le_refl, List.drop_zero, List.drop_succ_cons, List.take_succ_cons, List.take_zero, List.drop_nil, List.cons_append, List.nil_append, List.all_cons, List.all_nil, oneB_i, oneB_b, oneB_p, oneB_sl, Bool.and_true, Nat.reduceLT, Nat.lt_irrefl, Nat.zero_lt_one, gBoxE, gBoxC, subE, subEC, subE0, subE1, subE2, subE3, subE4, subE6, subE7, subE8, subC, subC0, subC1, subC2, subC3, subC4, subC5, subC6]
  have hn : 1 ≤ 1 + a0 % 16 ∧ 1 + a0 % 16 ≤ 16 := by omega
  have hk : 1 ≤ 1 + a1 % 8 ∧ 1 + a1 % 8 ≤ 8 := by omega
  generalize 1 + a0 % 16 = n at hn
  generalize 1 + a1 % 8 = k at hk
  rw [IntWalk.i64_in n (by omega), IntWalk.i64_in k (by omega)]
  have hC : (cA 1 n k 20).ok := cA_ok (by omega) (by omega) (by omega) (by omega)
  refine c_Arena (C := cA 1 n k 20) hC rfl rfl rfl fun N A τ hN hF hA hE hfr => ?_
  have hS : (cA 1 n k 20).S = n := rfl
  have hCC : (cA 1 n k 20).C = k := rfl
  have hCW : (cA 1 n k 20).W = 20 := rfl
  have hP := hF.pa hC
  have hAw := hF.aw hC
  rw [hS] at hP
  have hg1 : ∀ s, 0 ≤ s → s < (cA 1 n k 20).S → slG (A.w ((cA 1 n k 20).slot s)) = 1 := by
    intro s s0 s1
    rw [hF.w]
    have hT := hC.T
    unfold Cf.w0 Cf.fr
    rw [if_neg (by unfold Cf.slot; omega), if_neg (by unfold Cf.slot; omega), if_pos (by unfold Cf.slot; omega), if_pos (by unfold Cf.slot; omega)]
    exact (sl_put (by decide) (by decide) (by decide) (by decide)).2.2.1
  generalize hCe : cA 1 n k 20 = C at *
  clear hCe
  simp only [c_awake8, gStoreE, w_law08_AllocAlone_j1, w_law08_AllocAlone_j1b, xMove, xPickT, xPickF, xNil, xFld, xExt0, xExt1, xExt30, xExt31, xExt32, xAdd, xSub, xMul, xEql, xNeq, xLss, xLeq, xGtr, xGeq, xEqPN, xEqNN, xNePN, xNeNN, xEqBB, xNeBB, xNot, xConv, xLen, xMin, xMax, xIfc, xIfT, xIfF, xIfD, xJoinE, xOs, xCs, xFldV, List.getD_cons_zero, List.getD_cons_succ, Nat.zero_add, Nat.reduceAdd, Mem.get_set_same, Mem.set_set, if_true, if_false, Bool.not_true, Bool.not_false, decide_true, decide_false, decide_eq_true_eq, decide_not, Bool.not_eq_true, Bool.false_eq_true, reduceIte, Int.reduceLT, Int.reduceLE, Int.reduceEq, Int.reduceNeg, Int.reduceAdd, Int.reduceSub, locP_e, gBox_a, gBox_i, gBox_b, gBox_p, gLoad_s, gAlloc_s, gStore_a, gStore_i, gStore_b, gStore_p, sub_z, sub_s, lay_z, lay_s, List.length_cons, List.length_nil, Nat.reduceLeDiff, Nat.le_refl, List.drop_zero, List.drop_succ_cons, List.take_succ_cons, List.take_zero, List.drop_nil, List.cons_append, List.nil_append, List.all_cons, List.all_nil, oneB_i, oneB_b, oneB_p, oneB_sl, Bool.and_true, Nat.reduceLT, Nat.lt_irrefl, Nat.zero_lt_one, gBoxE, gBoxC, subE, subEC, subE0, subE1, subE2, subE3, subE4, subE6, subE7, subE8, subC, subC0, subC1, subC2, subC3, subC4, subC5, subC6]
  have bb : ∀ K : Value → Prop, xF (fBuild [(0, 1), (1, 1), (2, 1), (3, 1)] [.int .i64 0, .int .i64 0, .int .i64 0, .int .i64 0] [0, 1, 2, 3]) [.int .i64 (-1), .int .i64 (-1), .int .i64 (-1), .int .i64 (-1)] K = K (.agg #[.int .i64 (-1), .int .i64 (-1), .int .i64 (-1), .int .i64 (-1)]) := fun K => nr rfl
  rw [bb]
  refine hMakeS_i (by omega) (by omega) (by decide) fun q τ1 hq gq x1 => ?_
  rw [cells_repl] at gq
  simp only [gStoreF, xMove, xPickT, xPickF, xNil, xFld, xExt0, xExt1, xExt30, xExt31, xExt32, xAdd, xSub, xMul, xEql, xNeq, xLss, xLeq, xGtr, xGeq, xEqPN, xEqNN, xNePN, xNeNN, xEqBB, xNeBB, xNot, xConv, xLen, xMin, xMax, xIfc, xIfT, xIfF, xIfD, xJoinE, xOs, xCs, xFldV, List.getD_cons_zero, List.getD_cons_succ, Nat.zero_add, Nat.reduceAdd, Mem.get_set_same, Mem.set_set, if_true, if_false, Bool.not_true, Bool.not_false, decide_true, decide_false, decide_eq_true_eq, decide_not, Bool.not_eq_true, Bool.false_eq_true, reduceIte, Int.reduceLT, Int.reduceLE, Int.reduceEq, Int.reduceNeg, Int.reduceAdd, Int.reduceSub, locP_e, gBox_a, gBox_i, gBox_b, gBox_p, gLoad_s, gAlloc_s, gStore_a, gStore_i, gStore_b, gStore_p, sub_z, sub_s, lay_z, lay_s, List.length_cons, List.length_nil, Nat.reduceLeDiff, Nat.le_refl, List.drop_zero, List.drop_succ_cons, List.take_succ_cons, List.take_zero, List.drop_nil, List.cons_append, List.nil_append, List.all_cons, List.all_nil, oneB_i, oneB_b, oneB_p, oneB_sl, Bool.and_true, Nat.reduceLT, Nat.lt_irrefl, Nat.zero_lt_one, gBoxE, gBoxC, subE, subEC, subE0, subE1, subE2, subE3, subE4, subE6, subE7, subE8, subC, subC0, subC1, subC2, subC3, subC4, subC5, subC6]
  have hqd := hA.new hq
  have hA1 := hA.ext x1
  have ext1 := hE.trans x1
  have hq0 : σ.get q = none := hE.none hq
  rw [← oC_m]
  have st0 : Als C n 0 0 A (Bg.fr C) := by
    refine ⟨hAw, fun _ _ _ => rfl, ?_, fun s hs => ?_, .inl rfl, Int.le_refl 0⟩
    · show ((upL 0 C.S.toNat).length : Int) = _
      rw [upL_len, hS]; omega
    · have := hAw.fre.c.mem s hs; exact hg1 s this.1 this.2
  refine xLoop_r (fun x ts ls τ => ∃ i made A b, x = (40 - i).toNat ∧ ts = [s, .int .i64 n, .int .i64 k, .slice (some ⟨q, 0, none⟩) k.toNat 1, .int .i64 b.nx, .int .i64 made, .int .i64 i] ∧ ls = [N.el C 0, oC b.o] ∧ 0 ≤ i ∧ i ≤ 40 ∧ isA N A τ ∧ Pa C A (1000 + 100 * i) ∧
    Als C n made 0 A b ∧ τ.get q = some ⟨cells .i64 k.toNat b.u, true⟩ ∧ Ext σ τ) ?_ (n := (40 - 0 : Int).toNat) ⟨0, 0, A, Bg.fr C, rfl, rfl, rfl, by omega, by omega, hA1, hP.mono (by omega), st0, gq, ext1⟩
  rintro x ts ls τ2 ⟨i, made, A2, b, rfl, rfl, rfl, i0, i1, hA2, hP2, hI, gq2, ext2⟩ R hR
  have hg2 := hg.keep ext2
  have hkn : ((k.toNat : Nat) : Int) = k := by omega
  have fin : ∀ τ, isA N A2 τ → τ.get q = some ⟨cells .i64 k.toNat b.u, true⟩ → w_law08_AllocAlone_j2 (fun v x => v = Value.bool true) [.int .i64 k, .slice (some ⟨q, 0, none⟩) k.toNat 1, .int .i64 made] [N.el C 0] τ := by
    intro τ hA' gq'
    simp only [w_law08_AllocAlone_j2, w_law08_AllocAlone_j2b, xMove, xPickT, xPickF, xNil, xFld, xExt0, xExt1, xExt30, xExt31, xExt32, xAdd, xSub, xMul, xEql, xNeq, xLss, xLeq, xGtr, xGeq, xEqPN, xEqNN, xNePN, xNeNN, xEqBB, xNeBB, xNot, xConv, xLen, xMin, xMax, xIfc, xIfT, xIfF, xIfD, xJoinE, xOs, xCs, xFldV, List.getD_cons_zero, List.getD_cons_succ, Nat.zero_add, Nat.reduceAdd, Mem.get_set_same, Mem.set_set, if_true, if_false, Bool.not_true, Bool.not_false, decide_true, decide_false, decide_eq_true_eq, decide_not, Bool.not_eq_true, Bool.false_eq_true, reduceIte, Int.reduceLT, Int.reduceLE, Int.reduceEq, Int.reduceNeg, Int.reduceAdd, Int.reduceSub, locP_e, gBox_a, gBox_i, gBox_b, gBox_p, gLoad_s, gAlloc_s, gStore_a, gStore_i, gStore_b, gStore_p, sub_z, sub_s, lay_z, lay_s, List.length_cons, List.length_nil, Nat.reduceLeDiff, Nat.le_refl, List.drop_zero, List.drop_succ_cons, List.take_succ_cons, List.take_zero, List.drop_nil, List.cons_append, List.nil_append, List.all_cons, List.all_nil, oneB_i, oneB_b, oneB_p, oneB_sl, Bool.and_true, Nat.reduceLT, Nat.lt_irrefl, Nat.zero_lt_one, gBoxE, gBoxC, subE, subEC, subE0, subE1, subE2, subE3, subE4, subE6, subE7, subE8, subC, subC0, subC1, subC2, subC3, subC4, subC5, subC6]
    refine xLoop_r (fun x ts ls υ => ∃ i live, x = (k - i).toNat ∧ ts = [.int .i64 k, .slice (some ⟨q, 0, none⟩) k.toNat 1, .int .i64 made, .int .i64 live, .int .i64 i] ∧ ls = [N.el C 0] ∧ 0 ≤ i ∧ i ≤ k ∧ υ = τ ∧ 0 ≤ live ∧ live ≤ 20 * i ∧ (∀ j, 0 ≤ j → j < i → 0 < b.u j → 0 < live)) ?_ (n := (k - 0).toNat)
      ⟨0, 0, rfl, rfl, rfl, Int.le_refl 0, by omega, rfl, Int.le_refl 0, by omega, fun j _ _ => by omega⟩
    rintro x ts ls υ ⟨i, live, rfl, rfl, rfl, i0, i1, rfl, l0, l1, hl⟩ R hR
    simp only [w_law08_AllocAlone_l31, w_law08_AllocAlone_l31b, xMove, xPickT, xPickF, xNil, xFld, xExt0, xExt1, xExt30, xExt31, xExt32, xAdd, xSub, xMul, xEql, xNeq, xLss, xLeq, xGtr, xGeq, xEqPN, xEqNN, xNePN, xNeNN, xEqBB, xNeBB, xNot, xConv, xLen, xMin, xMax, xIfc, xIfT, xIfF, xIfD, xJoinE, xOs, xCs, xFldV, List.getD_cons_zero, List.getD_cons_succ, Nat.zero_add, Nat.reduceAdd, Mem.get_set_same, Mem.set_set, if_true, if_false, Bool.not_true, Bool.not_false, decide_true, decide_false, decide_eq_true_eq, decide_not, Bool.not_eq_true, Bool.false_eq_true, reduceIte, Int.reduceLT, Int.reduceLE, Int.reduceEq, Int.reduceNeg, Int.reduceAdd, Int.reduceSub, locP_e, gBox_a, gBox_i, gBox_b, gBox_p, gLoad_s, gAlloc_s, gStore_a, gStore_i, gStore_b, gStore_p, sub_z, sub_s, lay_z, lay_s, List.length_cons, List.length_nil, Nat.reduceLeDiff, Nat.le_refl, List.drop_zero, List.drop_succ_cons, List.take_succ_cons, List.take_zero, List.drop_nil, List.cons_append, List.nil_append, List.all_cons, List.all_nil, oneB_i, oneB_b, oneB_p, oneB_sl, Bool.and_true, Nat.reduceLT, Nat.lt_irrefl, Nat.zero_lt_one, gBoxE, gBoxC, subE, subEC, subE0, subE1, subE2, subE3, subE4, subE6, subE7, subE8, subC, subC0, subC1, subC2, subC3, subC4, subC5, subC6]
    by_cases ci : i < k
    · have hcb := chunk_bd hC i0 (by omega) hP2.n
      have hub := hI.ub hC i0 (by omega)
      have hlt : i < ((k.toNat : Nat) : Int) := by omega
      have hcc : C.chunk i + 1 < A2.n := by have := hP2.n; have := len_bd hC; have := hC.C; unfold Cf.chunk at *; omega
      rw [if_pos ci, c_Chunk hC i0 (by omega)]
      simp only [xMove, xPickT, xPickF, xNil, xFld, xExt0, xExt1, xExt30, xExt31, xExt32, xAdd, xSub, xMul, xEql, xNeq, xLss, xLeq, xGtr, xGeq, xEqPN, xEqNN, xNePN, xNeNN, xEqBB, xNeBB, xNot, xConv, xLen, xMin, xMax, xIfc, xIfT, xIfF, xIfD, xJoinE, xOs, xCs, xFldV, List.getD_cons_zero, List.getD_cons_succ, Nat.zero_add, Nat.reduceAdd, Mem.get_set_same, Mem.set_set, if_true, if_false, Bool.not_true, Bool.not_false, decide_true, decide_false, decide_eq_true_eq, decide_not, Bool.not_eq_true, Bool.false_eq_true, reduceIte, Int.reduceLT, Int.reduceLE, Int.reduceEq, Int.reduceNeg, Int.reduceAdd, Int.reduceSub, locP_e, gBox_a, gBox_i, gBox_b, gBox_p, gLoad_s, gAlloc_s, gStore_a, gStore_i, gStore_b, gStore_p, sub_z, sub_s, lay_z, lay_s, List.length_cons, List.length_nil, Nat.reduceLeDiff, Nat.le_refl, List.drop_zero, List.drop_succ_cons, List.take_succ_cons, List.take_zero, List.drop_nil, List.cons_append, List.nil_append, List.all_cons, List.all_nil, oneB_i, oneB_b, oneB_p, oneB_sl, Bool.and_true, Nat.reduceLT, Nat.lt_irrefl, Nat.zero_lt_one, gBoxE, gBoxC, subE, subEC, subE0, subE1, subE2, subE3, subE4, subE6, subE7, subE8, subC, subC0, subC1, subC2, subC3, subC4, subC5, subC6]
      rw [IntWalk.i64_in (C.chunk i + 1) (by unfold Cf.chunk; have := hC.S; have := hC.T; omega), c_PeekA hN hA' (by omega) hcc, xIxS i0 hlt]
      simp only [xMove, xPickT, xPickF, xNil, xFld, xExt0, xExt1, xExt30, xExt31, xExt32, xAdd, xSub, xMul, xEql, xNeq, xLss, xLeq, xGtr, xGeq, xEqPN, xEqNN, xNePN, xNeNN, xEqBB, xNeBB, xNot, xConv, xLen, xMin, xMax, xIfc, xIfT, xIfF, xIfD, xJoinE, xOs, xCs, xFldV, List.getD_cons_zero, List.getD_cons_succ, Nat.zero_add, Nat.reduceAdd, Mem.get_set_same, Mem.set_set, if_true, if_false, Bool.not_true, Bool.not_false, decide_true, decide_false, decide_eq_true_eq, decide_not, Bool.not_eq_true, Bool.false_eq_true, reduceIte, Int.reduceLT, Int.reduceLE, Int.reduceEq, Int.reduceNeg, Int.reduceAdd, Int.reduceSub, locP_e, gBox_a, gBox_i, gBox_b, gBox_p, gLoad_s, gAlloc_s, gStore_a, gStore_i, gStore_b, gStore_p, sub_z, sub_s, lay_z, lay_s, List.length_cons, List.length_nil, Nat.reduceLeDiff, Nat.le_refl, List.drop_zero, List.drop_succ_cons, List.take_succ_cons, List.take_zero, List.drop_nil, List.cons_append, List.nil_append, List.all_cons, List.all_nil, oneB_i, oneB_b, oneB_p, oneB_sl, Bool.and_true, Nat.reduceLT, Nat.lt_irrefl, Nat.zero_lt_one, gBoxE, gBoxC, subE, subEC, subE0, subE1, subE2, subE3, subE4, subE6, subE7, subE8, subC, subC0, subC1, subC2, subC3, subC4, subC5, subC6]
      rw [ldCells gq' i0 hlt]
      simp only [xMove, xPickT, xPickF, xNil, xFld, xExt0, xExt1, xExt30, xExt31, xExt32, xAdd, xSub, xMul, xEql, xNeq, xLss, xLeq, xGtr, xGeq, xEqPN, xEqNN, xNePN, xNeNN, xEqBB, xNeBB, xNot, xConv, xLen, xMin, xMax, xIfc, xIfT, xIfF, xIfD, xJoinE, xOs, xCs, xFldV, List.getD_cons_zero, List.getD_cons_succ, Nat.zero_add, Nat.reduceAdd, Mem.get_set_same, Mem.set_set, if_true, if_false, Bool.not_true, Bool.not_false, decide_true, decide_false, decide_eq_true_eq, decide_not, Bool.not_eq_true, Bool.false_eq_true, reduceIte, Int.reduceLT, Int.reduceLE, Int.reduceEq, Int.reduceNeg, Int.reduceAdd, Int.reduceSub, locP_e, gBox_a, gBox_i, gBox_b, gBox_p, gLoad_s, gAlloc_s, gStore_a, gStore_i, gStore_b, gStore_p, sub_z, sub_s, lay_z, lay_s, List.length_cons, List.length_nil, Nat.reduceLeDiff, Nat.le_refl, List.drop_zero, List.drop_succ_cons, List.take_succ_cons, List.take_zero, List.drop_nil, List.cons_append, List.nil_append, List.all_cons, List.all_nil, oneB_i, oneB_b, oneB_p, oneB_sl, Bool.and_true, Nat.reduceLT, Nat.lt_irrefl, Nat.zero_lt_one, gBoxE, gBoxC, subE, subEC, subE0, subE1, subE2, subE3, subE4, subE6, subE7, subE8, subC, subC0, subC1, subC2, subC3, subC4, subC5, subC6]
      rw [IntWalk.u64_in _ (by omega), hI.aw.live i i0 (by omega), hI.lv i i0 (by omega)]
      simp only [ne_eq, not_true_eq_false, xMove, xPickT, xPickF, xNil, xFld, xExt0, xExt1, xExt30, xExt31, xExt32, xAdd, xSub, xMul, xEql, xNeq, xLss, xLeq, xGtr, xGeq, xEqPN, xEqNN, xNePN, xNeNN, xEqBB, xNeBB, xNot, xConv, xLen, xMin, xMax, xIfc, xIfT, xIfF, xIfD, xJoinE, xOs, xCs, xFldV, List.getD_cons_zero, List.getD_cons_succ, Nat.zero_add, Nat.reduceAdd, Mem.get_set_same, Mem.set_set, if_true, if_false, Bool.not_true, Bool.not_false, decide_true, decide_false, decide_eq_true_eq, decide_not, Bool.not_eq_true, Bool.false_eq_true, reduceIte, Int.reduceLT, Int.reduceLE, Int.reduceEq, Int.reduceNeg, Int.reduceAdd, Int.reduceSub, locP_e, gBox_a, gBox_i, gBox_b, gBox_p, gLoad_s, gAlloc_s, gStore_a, gStore_i, gStore_b, gStore_p, sub_z, sub_s, lay_z, lay_s, List.length_cons, List.length_nil, Nat.reduceLeDiff, Nat.le_refl, List.drop_zero, List.drop_succ_cons, List.take_succ_cons, List.take_zero, List.drop_nil, List.cons_append, List.nil_append, List.all_cons, List.all_nil, oneB_i, oneB_b, oneB_p, oneB_sl, Bool.and_true, Nat.reduceLT, Nat.lt_irrefl, Nat.zero_lt_one, gBoxE, gBoxC, subE, subEC, subE0, subE1, subE2, subE3, subE4, subE6, subE7, subE8, subC, subC0, subC1, subC2, subC3, subC4, subC5, subC6]
      rw [xIxS i0 hlt]
      simp only [xMove, xPickT, xPickF, xNil, xFld, xExt0, xExt1, xExt30, xExt31, xExt32, xAdd, xSub, xMul, xEql, xNeq, xLss, xLeq, xGtr, xGeq, xEqPN, xEqNN, xNePN, xNeNN, xEqBB, xNeBB, xNot, xConv, xLen, xMin, xMax, xIfc, xIfT, xIfF, xIfD, xJoinE, xOs, xCs, xFldV, List.getD_cons_zero, List.getD_cons_succ, Nat.zero_add, Nat.reduceAdd, Mem.get_set_same, Mem.set_set, if_true, if_false, Bool.not_true, Bool.not_false, decide_true, decide_false, decide_eq_true_eq, decide_not, Bool.not_eq_true, Bool.false_eq_true, reduceIte, Int.reduceLT, Int.reduceLE, Int.reduceEq, Int.reduceNeg, Int.reduceAdd, Int.reduceSub, locP_e, gBox_a, gBox_i, gBox_b, gBox_p, gLoad_s, gAlloc_s, gStore_a, gStore_i, gStore_b, gStore_p, sub_z, sub_s, lay_z, lay_s, List.length_cons, List.length_nil, Nat.reduceLeDiff, Nat.le_refl, List.drop_zero, List.drop_succ_cons, List.take_succ_cons, List.take_zero, List.drop_nil, List.cons_append, List.nil_append, List.all_cons, List.all_nil, oneB_i, oneB_b, oneB_p, oneB_sl, Bool.and_true, Nat.reduceLT, Nat.lt_irrefl, Nat.zero_lt_one, gBoxE, gBoxC, subE, subEC, subE0, subE1, subE2, subE3, subE4, subE6, subE7, subE8, subC, subC0, subC1, subC2, subC3, subC4, subC5, subC6]
      rw [ldCells gq' i0 hlt]
      simp only [xMove, xPickT, xPickF, xNil, xFld, xExt0, xExt1, xExt30, xExt31, xExt32, xAdd, xSub, xMul, xEql, xNeq, xLss, xLeq, xGtr, xGeq, xEqPN, xEqNN, xNePN, xNeNN, xEqBB, xNeBB, xNot, xConv, xLen, xMin, xMax, xIfc, xIfT, xIfF, xIfD, xJoinE, xOs, xCs, xFldV, List.getD_cons_zero, List.getD_cons_succ, Nat.zero_add, Nat.reduceAdd, Mem.get_set_same, Mem.set_set, if_true, if_false, Bool.not_true, Bool.not_false, decide_true, decide_false, decide_eq_true_eq, decide_not, Bool.not_eq_true, Bool.false_eq_true, reduceIte, Int.reduceLT, Int.reduceLE, Int.reduceEq, Int.reduceNeg, Int.reduceAdd, Int.reduceSub, locP_e, gBox_a, gBox_i, gBox_b, gBox_p, gLoad_s, gAlloc_s, gStore_a, gStore_i, gStore_b, gStore_p, sub_z, sub_s, lay_z, lay_s, List.length_cons, List.length_nil, Nat.reduceLeDiff, Nat.le_refl, List.drop_zero, List.drop_succ_cons, List.take_succ_cons, List.take_zero, List.drop_nil, List.cons_append, List.nil_append, List.all_cons, List.all_nil, oneB_i, oneB_b, oneB_p, oneB_sl, Bool.and_true, Nat.reduceLT, Nat.lt_irrefl, Nat.zero_lt_one, gBoxE, gBoxC, subE, subEC, subE0, subE1, subE2, subE3, subE4, subE6, subE7, subE8, subC, subC0, subC1, subC2, subC3, subC4, subC5, subC6]
      rw [IntWalk.i64_in (live + b.u i) (by omega), IntWalk.i64_in (i + 1) (by omega)]
      refine hR (k - (i + 1)).toNat _ _ _ (by omega) ⟨i + 1, live + b.u i, rfl, rfl, rfl, by omega, by omega, rfl, by omega, by omega, fun j j0 j1 hj => ?_⟩
      by_cases e : j = i
      · subst e; omega
      · have := hl j j0 (by omega) hj; omega
    · rw [if_neg ci]
      have hik : i = k := by omega
      subst hik
      simp only [w_law08_AllocAlone_j3, w_law08_AllocAlone_j3b, xMove, xPickT, xPickF, xNil, xFld, xExt0, xExt1, xExt30, xExt31, xExt32, xAdd, xSub, xMul, xEql, xNeq, xLss, xLeq, xGtr, xGeq, xEqPN, xEqNN, xNePN, xNeNN, xEqBB, xNeBB, xNot, xConv, xLen, xMin, xMax, xIfc, xIfT, xIfF, xIfD, xJoinE, xOs, xCs, xFldV, List.getD_cons_zero, List.getD_cons_succ, Nat.zero_add, Nat.reduceAdd, Mem.get_set_same, Mem.set_set, if_true, if_false, Bool.not_true, Bool.not_false, decide_true, decide_false, decide_eq_true_eq, decide_not, Bool.not_eq_true, Bool.false_eq_true, reduceIte, Int.reduceLT, Int.reduceLE, Int.reduceEq, Int.reduceNeg, Int.reduceAdd, Int.reduceSub, locP_e, gBox_a, gBox_i, gBox_b, gBox_p, gLoad_s, gAlloc_s, gStore_a, gStore_i, gStore_b, gStore_p, sub_z, sub_s, lay_z, lay_s, List.length_cons, List.length_nil, Nat.reduceLeDiff, Nat.le_refl, List.drop_zero, List.drop_succ_cons, List.take_succ_cons, List.take_zero, List.drop_nil, List.cons_append, List.nil_append, List.all_cons, List.all_nil, oneB_i, oneB_b, oneB_p, oneB_sl, Bool.and_true, Nat.reduceLT, Nat.lt_irrefl, Nat.zero_lt_one, gBoxE, gBoxC, subE, subEC, subE0, subE1, subE2, subE3, subE4, subE6, subE7, subE8, subC, subC0, subC1, subC2, subC3, subC4, subC5, subC6]
      rcases hI.some' with h | ⟨j, j0, j1, hj⟩
      · by_cases c : 0 < live <;> simp only [c, h, xMove, xPickT, xPickF, xNil, xFld, xExt0, xExt1, xExt30, xExt31, xExt32, xAdd, xSub, xMul, xEql, xNeq, xLss, xLeq, xGtr, xGeq, xEqPN, xEqNN, xNePN, xNeNN, xEqBB, xNeBB, xNot, xConv, xLen, xMin, xMax, xIfc, xIfT, xIfF, xIfD, xJoinE, xOs, xCs, xFldV, List.getD_cons_zero, List.getD_cons_succ, Nat.zero_add, Nat.reduceAdd, Mem.get_set_same, Mem.set_set, if_true, if_false, Bool.not_true, Bool.not_false, decide_true, decide_false, decide_eq_true_eq, decide_not, Bool.not_eq_true, Bool.false_eq_true, reduceIte, Int.reduceLT, Int.reduceLE, Int.reduceEq, Int.reduceNeg, Int.reduceAdd, Int.reduceSub, locP_e, gBox_a, gBox_i, gBox_b, gBox_p, gLoad_s, gAlloc_s, gStore_a, gStore_i, gStore_b, gStore_p, sub_z, sub_s, lay_z, lay_s, List.length_cons, List.length_nil, Nat.reduceLeDiff, Nat.le_refl, List.drop_zero, List.drop_succ_cons, List.take_succ_cons, List.take_zero, List.drop_nil, List.cons_append, List.nil_append, List.all_cons, List.all_nil, oneB_i, oneB_b, oneB_p, oneB_sl, Bool.and_true, Nat.reduceLT, Nat.lt_irrefl, Nat.zero_lt_one, gBoxE, gBoxC, subE, subEC, subE0, subE1, subE2, subE3, subE4, subE6, subE7, subE8, subC, subC0, subC1, subC2, subC3, subC4, subC5, subC6]
      · have c : 0 < live := hl j j0 (by omega) hj
        simp only [c, xMove, xPickT, xPickF, xNil, xFld, xExt0, xExt1, xExt30, xExt31, xExt32, xAdd, xSub, xMul, xEql, xNeq, xLss, xLeq, xGtr, xGeq, xEqPN, xEqNN, xNePN, xNeNN, xEqBB, xNeBB, xNot, xConv, xLen, xMin, xMax, xIfc, xIfT, xIfF, xIfD, xJoinE, xOs, xCs, xFldV, List.getD_cons_zero, List.getD_cons_succ, Nat.zero_add, Nat.reduceAdd, Mem.get_set_same, Mem.set_set, if_true, if_false, Bool.not_true, Bool.not_false, decide_true, decide_false, decide_eq_true_eq, decide_not, Bool.not_eq_true, Bool.false_eq_true, reduceIte, Int.reduceLT, Int.reduceLE, Int.reduceEq, Int.reduceNeg, Int.reduceAdd, Int.reduceSub, locP_e, gBox_a, gBox_i, gBox_b, gBox_p, gLoad_s, gAlloc_s, gStore_a, gStore_i, gStore_b, gStore_p, sub_z, sub_s, lay_z, lay_s, List.length_cons, List.length_nil, Nat.reduceLeDiff, Nat.le_refl, List.drop_zero, List.drop_succ_cons, List.take_succ_cons, List.take_zero, List.drop_nil, List.cons_append, List.nil_append, List.all_cons, List.all_nil, oneB_i, oneB_b, oneB_p, oneB_sl, Bool.and_true, Nat.reduceLT, Nat.lt_irrefl, Nat.zero_lt_one, gBoxE, gBoxC, subE, subEC, subE0, subE1, subE2, subE3, subE4, subE6, subE7, subE8, subC, subC0, subC1, subC2, subC3, subC4, subC5, subC6]
  simp only [w_law08_AllocAlone_l8, w_law08_AllocAlone_l8b, hg2.len, xMove, xPickT, xPickF, xNil, xFld, xExt0, xExt1, xExt30, xExt31, xExt32, xAdd, xSub, xMul, xEql, xNeq, xLss, xLeq, xGtr, xGeq, xEqPN, xEqNN, xNePN, xNeNN, xEqBB, xNeBB, xNot, xConv, xLen, xMin, xMax, xIfc, xIfT, xIfF, xIfD, xJoinE, xOs, xCs, xFldV, List.getD_cons_zero, List.getD_cons_succ, Nat.zero_add, Nat.reduceAdd, Mem.get_set_same, Mem.set_set, if_true, if_false, Bool.not_true, Bool.not_false, decide_true, decide_false, decide_eq_true_eq, decide_not, Bool.not_eq_true, Bool.false_eq_true, reduceIte, Int.reduceLT, Int.reduceLE, Int.reduceEq, Int.reduceNeg, Int.reduceAdd, Int.reduceSub, locP_e, gBox_a, gBox_i, gBox_b, gBox_p, gLoad_s, gAlloc_s, gStore_a, gStore_i, gStore_b, gStore_p, sub_z, sub_s, lay_z, lay_s, List.length_cons, List.length_nil, Nat.reduceLeDiff, Nat.le_refl, List.drop_zero, List.drop_succ_cons, List.take_succ_cons, List.take_zero, List.drop_nil, List.cons_append, List.nil_append, List.all_cons, List.all_nil, oneB_i, oneB_b, oneB_p, oneB_sl, Bool.and_true, Nat.reduceLT, Nat.lt_irrefl, Nat.zero_lt_one, gBoxE, gBoxC, subE, subEC, subE0, subE1, subE2, subE3, subE4, subE6, subE7, subE8, subC, subC0, subC1, subC2, subC3, subC4, subC5, subC6]
  by_cases c1 : i < len
  rotate_left
  · simp only [c1, xMove, xPickT, xPickF, xNil, xFld, xExt0, xExt1, xExt30, xExt31, xExt32, xAdd, xSub, xMul, xEql, xNeq, xLss, xLeq, xGtr, xGeq, xEqPN, xEqNN, xNePN, xNeNN, xEqBB, xNeBB, xNot, xConv, xLen, xMin, xMax, xIfc, xIfT, xIfF, xIfD, xJoinE, xOs, xCs, xFldV, List.getD_cons_zero, List.getD_cons_succ, Nat.zero_add, Nat.reduceAdd, Mem.get_set_same, Mem.set_set, if_true, if_false, Bool.not_true, Bool.not_false, decide_true, decide_false, decide_eq_true_eq, decide_not, Bool.not_eq_true, Bool.false_eq_true, reduceIte, Int.reduceLT, Int.reduceLE, Int.reduceEq, Int.reduceNeg, Int.reduceAdd, Int.reduceSub, locP_e, gBox_a, gBox_i, gBox_b, gBox_p, gLoad_s, gAlloc_s, gStore_a, gStore_i, gStore_b, gStore_p, sub_z, sub_s, lay_z, lay_s, List.length_cons, List.length_nil, Nat.reduceLeDiff, Nat.le_refl, List.drop_zero, List.drop_succ_cons, List.take_succ_cons, List.take_zero, List.drop_nil, List.cons_append, List.nil_append, List.all_cons, List.all_nil, oneB_i, oneB_b, oneB_p, oneB_sl, Bool.and_true, Nat.reduceLT, Nat.lt_irrefl, Nat.zero_lt_one, gBoxE, gBoxC, subE, subEC, subE0, subE1, subE2, subE3, subE4, subE6, subE7, subE8, subC, subC0, subC1, subC2, subC3, subC4, subC5, subC6]; exact fin _ hA2 gq2
  by_cases c2 : i < 40
  rotate_left
  · simp only [c1, c2, xMove, xPickT, xPickF, xNil, xFld, xExt0, xExt1, xExt30, xExt31, xExt32, xAdd, xSub, xMul, xEql, xNeq, xLss, xLeq, xGtr, xGeq, xEqPN, xEqNN, xNePN, xNeNN, xEqBB, xNeBB, xNot, xConv, xLen, xMin, xMax, xIfc, xIfT, xIfF, xIfD, xJoinE, xOs, xCs, xFldV, List.getD_cons_zero, List.getD_cons_succ, Nat.zero_add, Nat.reduceAdd, Mem.get_set_same, Mem.set_set, if_true, if_false, Bool.not_true, Bool.not_false, decide_true, decide_false, decide_eq_true_eq, decide_not, Bool.not_eq_true, Bool.false_eq_true, reduceIte, Int.reduceLT, Int.reduceLE, Int.reduceEq, Int.reduceNeg, Int.reduceAdd, Int.reduceSub, locP_e, gBox_a, gBox_i, gBox_b, gBox_p, gLoad_s, gAlloc_s, gStore_a, gStore_i, gStore_b, gStore_p, sub_z, sub_s, lay_z, lay_s, List.length_cons, List.length_nil, Nat.reduceLeDiff, Nat.le_refl, List.drop_zero, List.drop_succ_cons, List.take_succ_cons, List.take_zero, List.drop_nil, List.cons_append, List.nil_append, List.all_cons, List.all_nil, oneB_i, oneB_b, oneB_p, oneB_sl, Bool.and_true, Nat.reduceLT, Nat.lt_irrefl, Nat.zero_lt_one, gBoxE, gBoxC, subE, subEC, subE0, subE1, subE2, subE3, subE4, subE6, subE7, subE8, subC, subC0, subC1, subC2, subC3, subC4, subC5, subC6]; exact fin _ hA2 gq2
  simp only [c1, c2, w_law08_AllocAlone_j4, w_law08_AllocAlone_j4b, xMove, xPickT, xPickF, xNil, xFld, xExt0, xExt1, xExt30, xExt31, xExt32, xAdd, xSub, xMul, xEql, xNeq, xLss, xLeq, xGtr, xGeq, xEqPN, xEqNN, xNePN, xNeNN, xEqBB, xNeBB, xNot, xConv, xLen, xMin, xMax, xIfc, xIfT, xIfF, xIfD, xJoinE, xOs, xCs, xFldV, List.getD_cons_zero, List.getD_cons_succ, Nat.zero_add, Nat.reduceAdd, Mem.get_set_same, Mem.set_set, if_true, if_false, Bool.not_true, Bool.not_false, decide_true, decide_false, decide_eq_true_eq, decide_not, Bool.not_eq_true, Bool.false_eq_true, reduceIte, Int.reduceLT, Int.reduceLE, Int.reduceEq, Int.reduceNeg, Int.reduceAdd, Int.reduceSub, locP_e, gBox_a, gBox_i, gBox_b, gBox_p, gLoad_s, gAlloc_s, gStore_a, gStore_i, gStore_b, gStore_p, sub_z, sub_s, lay_z, lay_s, List.length_cons, List.length_nil, Nat.reduceLeDiff, Nat.le_refl, List.drop_zero, List.drop_succ_cons, List.take_succ_cons, List.take_zero, List.drop_nil, List.cons_append, List.nil_append, List.all_cons, List.all_nil, oneB_i, oneB_b, oneB_p, oneB_sl, Bool.and_true, Nat.reduceLT, Nat.lt_irrefl, Nat.zero_lt_one, gBoxE, gBoxC, subE, subEC, subE0, subE1, subE2, subE3, subE4, subE6, subE7, subE8, subC, subC0, subC1, subC2, subC3, subC4, subC5, subC6]
  rw [hg2.ix i0 c1]
  refine c_rClass fun τ3 x3 => ?_
  have hA3 := hA2.ext x3
  have ext3 := ext2.trans x3
  have gq3 := x3 _ _ gq2
  have hg3 := hg.keep ext3
  simp only [xMove, xPickT, xPickF, xNil, xFld, xExt0, xExt1, xExt30, xExt31, xExt32, xAdd, xSub, xMul, xEql, xNeq, xLss, xLeq, xGtr, xGeq, xEqPN, xEqNN, xNePN, xNeNN, xEqBB, xNeBB, xNot, xConv, xLen, xMin, xMax, xIfc, xIfT, xIfF, xIfD, xJoinE, xOs, xCs, xFldV, List.getD_cons_zero, List.getD_cons_succ, Nat.zero_add, Nat.reduceAdd, Mem.get_set_same, Mem.set_set, if_true, if_false, Bool.not_true, Bool.not_false, decide_true, decide_false, decide_eq_true_eq, decide_not, Bool.not_eq_true, Bool.false_eq_true, reduceIte, Int.reduceLT, Int.reduceLE, Int.reduceEq, Int.reduceNeg, Int.reduceAdd, Int.reduceSub, locP_e, gBox_a, gBox_i, gBox_b, gBox_p, gLoad_s, gAlloc_s, gStore_a, gStore_i, gStore_b, gStore_p, sub_z, sub_s, lay_z, lay_s, List.length_cons, List.length_nil, Nat.reduceLeDiff, Nat.le_refl, List.drop_zero, List.drop_succ_cons, List.take_succ_cons, List.take_zero, List.drop_nil, List.cons_append, List.nil_append, List.all_cons, List.all_nil, oneB_i, oneB_b, oneB_p, oneB_sl, Bool.and_true, Nat.reduceLT, Nat.lt_irrefl, Nat.zero_lt_one, gBoxE, gBoxC, subE, subEC, subE0, subE1, subE2, subE3, subE4, subE6, subE7, subE8, subC, subC0, subC1, subC2, subC3, subC4, subC5, subC6]
  rw [hg3.ix i0 c1]
  simp only [xRem (show (2 : Int) ≠ 0 by decide), xMove, xPickT, xPickF, xNil, xFld, xExt0, xExt1, xExt30, xExt31, xExt32, xAdd, xSub, xMul, xEql, xNeq, xLss, xLeq, xGtr, xGeq, xEqPN, xEqNN, xNePN, xNeNN, xEqBB, xNeBB, xNot, xConv, xLen, xMin, xMax, xIfc, xIfT, xIfF, xIfD, xJoinE, xOs, xCs, xFldV, List.getD_cons_zero, List.getD_cons_succ, Nat.zero_add, Nat.reduceAdd, Mem.get_set_same, Mem.set_set, if_true, if_false, Bool.not_true, Bool.not_false, decide_true, decide_false, decide_eq_true_eq, decide_not, Bool.not_eq_true, Bool.false_eq_true, reduceIte, Int.reduceLT, Int.reduceLE, Int.reduceEq, Int.reduceNeg, Int.reduceAdd, Int.reduceSub, locP_e, gBox_a, gBox_i, gBox_b, gBox_p, gLoad_s, gAlloc_s, gStore_a, gStore_i, gStore_b, gStore_p, sub_z, sub_s, lay_z, lay_s, List.length_cons, List.length_nil, Nat.reduceLeDiff, Nat.le_refl, List.drop_zero, List.drop_succ_cons, List.take_succ_cons, List.take_zero, List.drop_nil, List.cons_append, List.nil_append, List.all_cons, List.all_nil, oneB_i, oneB_b, oneB_p, oneB_sl, Bool.and_true, Nat.reduceLT, Nat.lt_irrefl, Nat.zero_lt_one, gBoxE, gBoxC, subE, subEC, subE0, subE1, subE2, subE3, subE4, subE6, subE7, subE8, subC, subC0, subC1, subC2, subC3, subC4, subC5, subC6]
  have j5 : ∀ (A' : Ar) (b' : Bg) (made' : Int) τ', isA N A' τ' → Pa C A' (1000 + 100 * i + 100) → Als C n made' 0 A' b' → τ'.get q = some ⟨cells .i64 k.toNat b'.u, true⟩ → Ext σ τ' →
      w_law08_AllocAlone_j5 (fun v x => v = Value.bool true) (w_law08_AllocAlone_j2 fun v x => v = Value.bool true) R [s, .int .i64 n, .int .i64 k, .slice (some ⟨q, 0, none⟩) k.toNat 1, .int .i64 b'.nx, .int .i64 made', .int .i64 i] [N.el C 0, oC b'.o] τ' := by
    intro A' b' made' τ' h1 h2 h3 h4 h5
    simp only [w_law08_AllocAlone_j5, w_law08_AllocAlone_j5b, xMove, xPickT, xPickF, xNil, xFld, xExt0, xExt1, xExt30, xExt31, xExt32, xAdd, xSub, xMul, xEql, xNeq, xLss, xLeq, xGtr, xGeq, xEqPN, xEqNN, xNePN, xNeNN, xEqBB, xNeBB, xNot, xConv, xLen, xMin, xMax, xIfc, xIfT, xIfF, xIfD, xJoinE, xOs, xCs, xFldV, List.getD_cons_zero, List.getD_cons_succ, Nat.zero_add, Nat.reduceAdd, Mem.get_set_same, Mem.set_set, if_true, if_false, Bool.not_true, Bool.not_false, decide_true, decide_false, decide_eq_true_eq, decide_not, Bool.not_eq_true, Bool.false_eq_true, reduceIte, Int.reduceLT, Int.reduceLE, Int.reduceEq, Int.reduceNeg, Int.reduceAdd, Int.reduceSub, locP_e, gBox_a, gBox_i, gBox_b, gBox_p, gLoad_s, gAlloc_s, gStore_a, gStore_i, gStore_b, gStore_p, sub_z, sub_s, lay_z, lay_s, List.length_cons, List.length_nil, Nat.reduceLeDiff, Nat.le_refl, List.drop_zero, List.drop_succ_cons, List.take_succ_cons, List.take_zero, List.drop_nil, List.cons_append, List.nil_append, List.all_cons, List.all_nil, oneB_i, oneB_b, oneB_p, oneB_sl, Bool.and_true, Nat.reduceLT, Nat.lt_irrefl, Nat.zero_lt_one, gBoxE, gBoxC, subE, subEC, subE0, subE1, subE2, subE3, subE4, subE6, subE7, subE8, subC, subC0, subC1, subC2, subC3, subC4, subC5, subC6]
    rw [IntWalk.i64_in (i + 1) (by omega)]
    exact hR (40 - (i + 1)).toNat _ _ _ (by omega) ⟨i + 1, made', A', b', rfl, rfl, rfl, by omega, by omega, h1, by rw [show 1000 + 100 * (i + 1) = 1000 + 100 * i + 100 by omega]; exact h2, h3, h4, h5⟩
  by_cases hc : classOf (g i) < 0
  · refine c_MakeE hN hC hA3 hP2 hc fun τ4 hA4 k4 => ?_
    simp only [gStoreU, hc, xMove, xPickT, xPickF, xNil, xFld, xExt0, xExt1, xExt30, xExt31, xExt32, xAdd, xSub, xMul, xEql, xNeq, xLss, xLeq, xGtr, xGeq, xEqPN, xEqNN, xNePN, xNeNN, xEqBB, xNeBB, xNot, xConv, xLen, xMin, xMax, xIfc, xIfT, xIfF, xIfD, xJoinE, xOs, xCs, xFldV, List.getD_cons_zero, List.getD_cons_succ, Nat.zero_add, Nat.reduceAdd, Mem.get_set_same, Mem.set_set, if_true, if_false, Bool.not_true, Bool.not_false, decide_true, decide_false, decide_eq_true_eq, decide_not, Bool.not_eq_true, Bool.false_eq_true, reduceIte, Int.reduceLT, Int.reduceLE, Int.reduceEq, Int.reduceNeg, Int.reduceAdd, Int.reduceSub, locP_e, gBox_a, gBox_i, gBox_b, gBox_p, gLoad_s, gAlloc_s, gStore_a, gStore_i, gStore_b, gStore_p, sub_z, sub_s, lay_z, lay_s, List.length_cons, List.length_nil, Nat.reduceLeDiff, Nat.le_refl, List.drop_zero, List.drop_succ_cons, List.take_succ_cons, List.take_zero, List.drop_nil, List.cons_append, List.nil_append, List.all_cons, List.all_nil, oneB_i, oneB_b, oneB_p, oneB_sl, Bool.and_true, Nat.reduceLT, Nat.lt_irrefl, Nat.zero_lt_one, gBoxE, gBoxC, subE, subEC, subE0, subE1, subE2, subE3, subE4, subE6, subE7, subE8, subC, subC0, subC1, subC2, subC3, subC4, subC5, subC6]
    exact j5 A2 b made τ4 hA4 (hP2.mono (by omega)) hI (k4.get gq3 hqd) (ext3.keep' k4 hfr.all)
  · have hc0 : 0 ≤ classOf (g i) := by omega
    refine c_MakeA hN hC hA3 hP2 (by omega) hI.aw (hI.lvM hC) hc0 fun m A4 τ4 hD hP4 hA4 k4 => ?_
    have ext4 := ext3.keep' k4 hfr.all
    have gq4 := k4.get gq3 hqd
    have hg4 := hg.keep ext4
    have hF := hI.F
    have hc3 := (class_bd (g i)).2
    have hc4 : classOf (g i) < (4 : Nat) := by omega
    have hrm := room_bd hc0 hc3
    have hop := hI.aw.alo.op _ hc0 hc3
    have hbd := hI.aw.alo.bd
    have m0 := hI.m0
    simp only [gStoreU, hc, xMove, xPickT, xPickF, xNil, xFld, xExt0, xExt1, xExt30, xExt31, xExt32, xAdd, xSub, xMul, xEql, xNeq, xLss, xLeq, xGtr, xGeq, xEqPN, xEqNN, xNePN, xNeNN, xEqBB, xNeBB, xNot, xConv, xLen, xMin, xMax, xIfc, xIfT, xIfF, xIfD, xJoinE, xOs, xCs, xFldV, List.getD_cons_zero, List.getD_cons_succ, Nat.zero_add, Nat.reduceAdd, Mem.get_set_same, Mem.set_set, if_true, if_false, Bool.not_true, Bool.not_false, decide_true, decide_false, decide_eq_true_eq, decide_not, Bool.not_eq_true, Bool.false_eq_true, reduceIte, Int.reduceLT, Int.reduceLE, Int.reduceEq, Int.reduceNeg, Int.reduceAdd, Int.reduceSub, locP_e, gBox_a, gBox_i, gBox_b, gBox_p, gLoad_s, gAlloc_s, gStore_a, gStore_i, gStore_b, gStore_p, sub_z, sub_s, lay_z, lay_s, List.length_cons, List.length_nil, Nat.reduceLeDiff, Nat.le_refl, List.drop_zero, List.drop_succ_cons, List.take_succ_cons, List.take_zero, List.drop_nil, List.cons_append, List.nil_append, List.all_cons, List.all_nil, oneB_i, oneB_b, oneB_p, oneB_sl, Bool.and_true, Nat.reduceLT, Nat.lt_irrefl, Nat.zero_lt_one, gBoxE, gBoxC, subE, subEC, subE0, subE1, subE2, subE3, subE4, subE6, subE7, subE8, subC, subC0, subC1, subC2, subC3, subC4, subC5, subC6]
    rcases hI.next (s0 := 0) hC hc0 hD with ⟨e, hF0, hI'⟩ | ⟨e, hF0, ng, hnx, hI'⟩ | ⟨e, hF0, hsnd, F, j, b', hgot, hj, hI'⟩
    · rw [hF0] at hF
      have hmn : n ≤ made := by simp at hF; omega
      simp only [e, hmn, xMove, xPickT, xPickF, xNil, xFld, xExt0, xExt1, xExt30, xExt31, xExt32, xAdd, xSub, xMul, xEql, xNeq, xLss, xLeq, xGtr, xGeq, xEqPN, xEqNN, xNePN, xNeNN, xEqBB, xNeBB, xNot, xConv, xLen, xMin, xMax, xIfc, xIfT, xIfF, xIfD, xJoinE, xOs, xCs, xFldV, List.getD_cons_zero, List.getD_cons_succ, Nat.zero_add, Nat.reduceAdd, Mem.get_set_same, Mem.set_set, if_true, if_false, Bool.not_true, Bool.not_false, decide_true, decide_false, decide_eq_true_eq, decide_not, Bool.not_eq_true, Bool.false_eq_true, reduceIte, Int.reduceLT, Int.reduceLE, Int.reduceEq, Int.reduceNeg, Int.reduceAdd, Int.reduceSub, locP_e, gBox_a, gBox_i, gBox_b, gBox_p, gLoad_s, gAlloc_s, gStore_a, gStore_i, gStore_b, gStore_p, sub_z, sub_s, lay_z, lay_s, List.length_cons, List.length_nil, Nat.reduceLeDiff, Nat.le_refl, List.drop_zero, List.drop_succ_cons, List.take_succ_cons, List.take_zero, List.drop_nil, List.cons_append, List.nil_append, List.all_cons, List.all_nil, oneB_i, oneB_b, oneB_p, oneB_sl, Bool.and_true, Nat.reduceLT, Nat.lt_irrefl, Nat.zero_lt_one, gBoxE, gBoxC, subE, subEC, subE0, subE1, subE2, subE3, subE4, subE6, subE7, subE8, subC, subC0, subC1, subC2, subC3, subC4, subC5, subC6]
      exact j5 A4 b made τ4 hA4 hP4 hI' gq4 ext4
    · have hmn : ¬ n ≤ made := by have := List.length_pos_iff.2 hF0; omega
      simp only [hmn, xMove, xPickT, xPickF, xNil, xFld, xExt0, xExt1, xExt30, xExt31, xExt32, xAdd, xSub, xMul, xEql, xNeq, xLss, xLeq, xGtr, xGeq, xEqPN, xEqNN, xNePN, xNeNN, xEqBB, xNeBB, xNot, xConv, xLen, xMin, xMax, xIfc, xIfT, xIfF, xIfD, xJoinE, xOs, xCs, xFldV, List.getD_cons_zero, List.getD_cons_succ, Nat.zero_add, Nat.reduceAdd, Mem.get_set_same, Mem.set_set, if_true, if_false, Bool.not_true, Bool.not_false, decide_true, decide_false, decide_eq_true_eq, decide_not, Bool.not_eq_true, Bool.false_eq_true, reduceIte, Int.reduceLT, Int.reduceLE, Int.reduceEq, Int.reduceNeg, Int.reduceAdd, Int.reduceSub, locP_e, gBox_a, gBox_i, gBox_b, gBox_p, gLoad_s, gAlloc_s, gStore_a, gStore_i, gStore_b, gStore_p, sub_z, sub_s, lay_z, lay_s, List.length_cons, List.length_nil, Nat.reduceLeDiff, Nat.le_refl, List.drop_zero, List.drop_succ_cons, List.take_succ_cons, List.take_zero, List.drop_nil, List.cons_append, List.nil_append, List.all_cons, List.all_nil, oneB_i, oneB_b, oneB_p, oneB_sl, Bool.and_true, Nat.reduceLT, Nat.lt_irrefl, Nat.zero_lt_one, gBoxE, gBoxC, subE, subEC, subE0, subE1, subE2, subE3, subE4, subE6, subE7, subE8, subC, subC0, subC1, subC2, subC3, subC4, subC5, subC6]
      refine c_rRoom hc0 hc3 fun τ5 x5 => ?_
      simp only [w_law08_AllocAlone_j8, w_law08_AllocAlone_j8b, xIxA hc0 hc4, oC, oC_sub hc0 hc3, xMove, xPickT, xPickF, xNil, xFld, xExt0, xExt1, xExt30, xExt31, xExt32, xAdd, xSub, xMul, xEql, xNeq, xLss, xLeq, xGtr, xGeq, xEqPN, xEqNN, xNePN, xNeNN, xEqBB, xNeBB, xNot, xConv, xLen, xMin, xMax, xIfc, xIfT, xIfF, xIfD, xJoinE, xOs, xCs, xFldV, List.getD_cons_zero, List.getD_cons_succ, Nat.zero_add, Nat.reduceAdd, Mem.get_set_same, Mem.set_set, if_true, if_false, Bool.not_true, Bool.not_false, decide_true, decide_false, decide_eq_true_eq, decide_not, Bool.not_eq_true, Bool.false_eq_true, reduceIte, Int.reduceLT, Int.reduceLE, Int.reduceEq, Int.reduceNeg, Int.reduceAdd, Int.reduceSub, locP_e, gBox_a, gBox_i, gBox_b, gBox_p, gLoad_s, gAlloc_s, gStore_a, gStore_i, gStore_b, gStore_p, sub_z, sub_s, lay_z, lay_s, List.length_cons, List.length_nil, Nat.reduceLeDiff, Nat.le_refl, List.drop_zero, List.drop_succ_cons, List.take_succ_cons, List.take_zero, List.drop_nil, List.cons_append, List.nil_append, List.all_cons, List.all_nil, oneB_i, oneB_b, oneB_p, oneB_sl, Bool.and_true, Nat.reduceLT, Nat.lt_irrefl, Nat.zero_lt_one, gBoxE, gBoxC, subE, subEC, subE0, subE1, subE2, subE3, subE4, subE6, subE7, subE8, subC, subC0, subC1, subC2, subC3, subC4, subC5, subC6]
      have hA5 := hA4.ext x5
      have gq5 := x5 _ _ gq4
      have nb : ¬ b.nx < k := by omega
      have nb' : k ≤ b.nx := by omega
      have go : w_law08_AllocAlone_j5 (fun v x => v = Value.bool true) (w_law08_AllocAlone_j2 fun v x => v = Value.bool true) R [s, .int .i64 n, .int .i64 k, .slice (some ⟨q, 0, none⟩) k.toNat 1, .int .i64 b.nx, .int .i64 made, .int .i64 i] [N.el C 0, oC b.o] τ5 := j5 A4 b made τ5 hA5 hP4 hI' gq5 (ext4.trans x5)
      by_cases ho : b.o (classOf (g i)) < 0
      · simp only [ho, nb', gStoreU, e, xMove, xPickT, xPickF, xNil, xFld, xExt0, xExt1, xExt30, xExt31, xExt32, xAdd, xSub, xMul, xEql, xNeq, xLss, xLeq, xGtr, xGeq, xEqPN, xEqNN, xNePN, xNeNN, xEqBB, xNeBB, xNot, xConv, xLen, xMin, xMax, xIfc, xIfT, xIfF, xIfD, xJoinE, xOs, xCs, xFldV, List.getD_cons_zero, List.getD_cons_succ, Nat.zero_add, Nat.reduceAdd, Mem.get_set_same, Mem.set_set, if_true, if_false, Bool.not_true, Bool.not_false, decide_true, decide_false, decide_eq_true_eq, decide_not, Bool.not_eq_true, Bool.false_eq_true, reduceIte, Int.reduceLT, Int.reduceLE, Int.reduceEq, Int.reduceNeg, Int.reduceAdd, Int.reduceSub, locP_e, gBox_a, gBox_i, gBox_b, gBox_p, gLoad_s, gAlloc_s, gStore_a, gStore_i, gStore_b, gStore_p, sub_z, sub_s, lay_z, lay_s, List.length_cons, List.length_nil, Nat.reduceLeDiff, Nat.le_refl, List.drop_zero, List.drop_succ_cons, List.take_succ_cons, List.take_zero, List.drop_nil, List.cons_append, List.nil_append, List.all_cons, List.all_nil, oneB_i, oneB_b, oneB_p, oneB_sl, Bool.and_true, Nat.reduceLT, Nat.lt_irrefl, Nat.zero_lt_one, gBoxE, gBoxC, subE, subEC, subE0, subE1, subE2, subE3, subE4, subE6, subE7, subE8, subC, subC0, subC1, subC2, subC3, subC4, subC5, subC6]
        exact go
      · have ho0 : 0 ≤ b.o (classOf (g i)) := by omega
        have hlt : b.o (classOf (g i)) < ((k.toNat : Nat) : Int) := by omega
        have hub := hI.ub hC ho0 (by omega)
        have hgt : 20 < b.u (b.o (classOf (g i))) + roomOf (classOf (g i)) := by
          have : ¬ (b.u (b.o (classOf (g i))) + roomOf (classOf (g i)) ≤ C.W) := fun q => ng ⟨ho0, q⟩
          omega
        simp only [ho, xMove, xPickT, xPickF, xNil, xFld, xExt0, xExt1, xExt30, xExt31, xExt32, xAdd, xSub, xMul, xEql, xNeq, xLss, xLeq, xGtr, xGeq, xEqPN, xEqNN, xNePN, xNeNN, xEqBB, xNeBB, xNot, xConv, xLen, xMin, xMax, xIfc, xIfT, xIfF, xIfD, xJoinE, xOs, xCs, xFldV, List.getD_cons_zero, List.getD_cons_succ, Nat.zero_add, Nat.reduceAdd, Mem.get_set_same, Mem.set_set, if_true, if_false, Bool.not_true, Bool.not_false, decide_true, decide_false, decide_eq_true_eq, decide_not, Bool.not_eq_true, Bool.false_eq_true, reduceIte, Int.reduceLT, Int.reduceLE, Int.reduceEq, Int.reduceNeg, Int.reduceAdd, Int.reduceSub, locP_e, gBox_a, gBox_i, gBox_b, gBox_p, gLoad_s, gAlloc_s, gStore_a, gStore_i, gStore_b, gStore_p, sub_z, sub_s, lay_z, lay_s, List.length_cons, List.length_nil, Nat.reduceLeDiff, Nat.le_refl, List.drop_zero, List.drop_succ_cons, List.take_succ_cons, List.take_zero, List.drop_nil, List.cons_append, List.nil_append, List.all_cons, List.all_nil, oneB_i, oneB_b, oneB_p, oneB_sl, Bool.and_true, Nat.reduceLT, Nat.lt_irrefl, Nat.zero_lt_one, gBoxE, gBoxC, subE, subEC, subE0, subE1, subE2, subE3, subE4, subE6, subE7, subE8, subC, subC0, subC1, subC2, subC3, subC4, subC5, subC6]
        rw [xIxS ho0 hlt]
        simp only [xMove, xPickT, xPickF, xNil, xFld, xExt0, xExt1, xExt30, xExt31, xExt32, xAdd, xSub, xMul, xEql, xNeq, xLss, xLeq, xGtr, xGeq, xEqPN, xEqNN, xNePN, xNeNN, xEqBB, xNeBB, xNot, xConv, xLen, xMin, xMax, xIfc, xIfT, xIfF, xIfD, xJoinE, xOs, xCs, xFldV, List.getD_cons_zero, List.getD_cons_succ, Nat.zero_add, Nat.reduceAdd, Mem.get_set_same, Mem.set_set, if_true, if_false, Bool.not_true, Bool.not_false, decide_true, decide_false, decide_eq_true_eq, decide_not, Bool.not_eq_true, Bool.false_eq_true, reduceIte, Int.reduceLT, Int.reduceLE, Int.reduceEq, Int.reduceNeg, Int.reduceAdd, Int.reduceSub, locP_e, gBox_a, gBox_i, gBox_b, gBox_p, gLoad_s, gAlloc_s, gStore_a, gStore_i, gStore_b, gStore_p, sub_z, sub_s, lay_z, lay_s, List.length_cons, List.length_nil, Nat.reduceLeDiff, Nat.le_refl, List.drop_zero, List.drop_succ_cons, List.take_succ_cons, List.take_zero, List.drop_nil, List.cons_append, List.nil_append, List.all_cons, List.all_nil, oneB_i, oneB_b, oneB_p, oneB_sl, Bool.and_true, Nat.reduceLT, Nat.lt_irrefl, Nat.zero_lt_one, gBoxE, gBoxC, subE, subEC, subE0, subE1, subE2, subE3, subE4, subE6, subE7, subE8, subC, subC0, subC1, subC2, subC3, subC4, subC5, subC6]
        rw [ldCells gq5 ho0 hlt]
        simp only [xMove, xPickT, xPickF, xNil, xFld, xExt0, xExt1, xExt30, xExt31, xExt32, xAdd, xSub, xMul, xEql, xNeq, xLss, xLeq, xGtr, xGeq, xEqPN, xEqNN, xNePN, xNeNN, xEqBB, xNeBB, xNot, xConv, xLen, xMin, xMax, xIfc, xIfT, xIfF, xIfD, xJoinE, xOs, xCs, xFldV, List.getD_cons_zero, List.getD_cons_succ, Nat.zero_add, Nat.reduceAdd, Mem.get_set_same, Mem.set_set, if_true, if_false, Bool.not_true, Bool.not_false, decide_true, decide_false, decide_eq_true_eq, decide_not, Bool.not_eq_true, Bool.false_eq_true, reduceIte, Int.reduceLT, Int.reduceLE, Int.reduceEq, Int.reduceNeg, Int.reduceAdd, Int.reduceSub, locP_e, gBox_a, gBox_i, gBox_b, gBox_p, gLoad_s, gAlloc_s, gStore_a, gStore_i, gStore_b, gStore_p, sub_z, sub_s, lay_z, lay_s, List.length_cons, List.length_nil, Nat.reduceLeDiff, Nat.le_refl, List.drop_zero, List.drop_succ_cons, List.take_succ_cons, List.take_zero, List.drop_nil, List.cons_append, List.nil_append, List.all_cons, List.all_nil, oneB_i, oneB_b, oneB_p, oneB_sl, Bool.and_true, Nat.reduceLT, Nat.lt_irrefl, Nat.zero_lt_one, gBoxE, gBoxC, subE, subEC, subE0, subE1, subE2, subE3, subE4, subE6, subE7, subE8, subC, subC0, subC1, subC2, subC3, subC4, subC5, subC6]
        rw [IntWalk.i64_in _ (by omega)]
        simp only [hgt, nb', gStoreU, e, xMove, xPickT, xPickF, xNil, xFld, xExt0, xExt1, xExt30, xExt31, xExt32, xAdd, xSub, xMul, xEql, xNeq, xLss, xLeq, xGtr, xGeq, xEqPN, xEqNN, xNePN, xNeNN, xEqBB, xNeBB, xNot, xConv, xLen, xMin, xMax, xIfc, xIfT, xIfF, xIfD, xJoinE, xOs, xCs, xFldV, List.getD_cons_zero, List.getD_cons_succ, Nat.zero_add, Nat.reduceAdd, Mem.get_set_same, Mem.set_set, if_true, if_false, Bool.not_true, Bool.not_false, decide_true, decide_false, decide_eq_true_eq, decide_not, Bool.not_eq_true, Bool.false_eq_true, reduceIte, Int.reduceLT, Int.reduceLE, Int.reduceEq, Int.reduceNeg, Int.reduceAdd, Int.reduceSub, locP_e, gBox_a, gBox_i, gBox_b, gBox_p, gLoad_s, gAlloc_s, gStore_a, gStore_i, gStore_b, gStore_p, sub_z, sub_s, lay_z, lay_s, List.length_cons, List.length_nil, Nat.reduceLeDiff, Nat.le_refl, List.drop_zero, List.drop_succ_cons, List.take_succ_cons, List.take_zero, List.drop_nil, List.cons_append, List.nil_append, List.all_cons, List.all_nil, oneB_i, oneB_b, oneB_p, oneB_sl, Bool.and_true, Nat.reduceLT, Nat.lt_irrefl, Nat.zero_lt_one, gBoxE, gBoxC, subE, subEC, subE0, subE1, subE2, subE3, subE4, subE6, subE7, subE8, subC, subC0, subC1, subC2, subC3, subC4, subC5, subC6]
        exact go
    · have hmn : ¬ n ≤ made := by have := List.length_pos_iff.2 hF0; omega
      simp only [hmn, xMove, xPickT, xPickF, xNil, xFld, xExt0, xExt1, xExt30, xExt31, xExt32, xAdd, xSub, xMul, xEql, xNeq, xLss, xLeq, xGtr, xGeq, xEqPN, xEqNN, xNePN, xNeNN, xEqBB, xNeBB, xNot, xConv, xLen, xMin, xMax, xIfc, xIfT, xIfF, xIfD, xJoinE, xOs, xCs, xFldV, List.getD_cons_zero, List.getD_cons_succ, Nat.zero_add, Nat.reduceAdd, Mem.get_set_same, Mem.set_set, if_true, if_false, Bool.not_true, Bool.not_false, decide_true, decide_false, decide_eq_true_eq, decide_not, Bool.not_eq_true, Bool.false_eq_true, reduceIte, Int.reduceLT, Int.reduceLE, Int.reduceEq, Int.reduceNeg, Int.reduceAdd, Int.reduceSub, locP_e, gBox_a, gBox_i, gBox_b, gBox_p, gLoad_s, gAlloc_s, gStore_a, gStore_i, gStore_b, gStore_p, sub_z, sub_s, lay_z, lay_s, List.length_cons, List.length_nil, Nat.reduceLeDiff, Nat.le_refl, List.drop_zero, List.drop_succ_cons, List.take_succ_cons, List.take_zero, List.drop_nil, List.cons_append, List.nil_append, List.all_cons, List.all_nil, oneB_i, oneB_b, oneB_p, oneB_sl, Bool.and_true, Nat.reduceLT, Nat.lt_irrefl, Nat.zero_lt_one, gBoxE, gBoxC, subE, subEC, subE0, subE1, subE2, subE3, subE4, subE6, subE7, subE8, subC, subC0, subC1, subC2, subC3, subC4, subC5, subC6]
      refine c_rRoom hc0 hc3 fun τ5 x5 => ?_
      have hA5 := hA4.ext x5
      have gq5 := x5 _ _ gq4
      have ext5 := ext4.trans x5
      obtain ⟨wA, hal⟩ : ∃ w, Alo C b.o b.u b.nx w := ⟨_, hI.aw.alo⟩
      obtain ⟨d1, d2, d3, d4⟩ := hgot.bd hC hal hc0 hc3
      have eu : b'.u = upd b.u j (b.u j + roomOf (classOf (g i))) := by rcases hgot with ⟨_, _, q⟩ | ⟨_, _, _, q⟩ <;> rw [q]
      have hlt : j < ((k.toNat : Nat) : Int) := by omega
      have hub := hI.ub hC d1.1 d1.2
      have j6 : w_law08_AllocAlone_j6 (fun v x => v = Value.bool true) (w_law08_AllocAlone_j2 fun v x => v = Value.bool true) R (w_law08_AllocAlone_j5 (fun v x => v = Value.bool true) (w_law08_AllocAlone_j2 fun v x => v = Value.bool true) R)
          [s, .int .i64 n, .int .i64 k, .slice (some ⟨q, 0, none⟩) k.toNat 1, .int .i64 b'.nx, .int .i64 made, .int .i64 i, .int .i64 (classOf (g i)), .int .i64 (roomOf (classOf (g i)))] [N.el C 0, cells .i64 4 b'.o, [.int .i64 m.a.oE, .int .u64 m.a.oH, .int .i64 m.a.oV, .int .i64 m.a.oS]] τ5 := by
        simp only [w_law08_AllocAlone_j6, w_law08_AllocAlone_j6b, xIxA hc0 hc4, oC_sub hc0 hc3, d4, xMove, xPickT, xPickF, xNil, xFld, xExt0, xExt1, xExt30, xExt31, xExt32, xAdd, xSub, xMul, xEql, xNeq, xLss, xLeq, xGtr, xGeq, xEqPN, xEqNN, xNePN, xNeNN, xEqBB, xNeBB, xNot, xConv, xLen, xMin, xMax, xIfc, xIfT, xIfF, xIfD, xJoinE, xOs, xCs, xFldV, List.getD_cons_zero, List.getD_cons_succ, Nat.zero_add, Nat.reduceAdd, Mem.get_set_same, Mem.set_set, if_true, if_false, Bool.not_true, Bool.not_false, decide_true, decide_false, decide_eq_true_eq, decide_not, Bool.not_eq_true, Bool.false_eq_true, reduceIte, Int.reduceLT, Int.reduceLE, Int.reduceEq, Int.reduceNeg, Int.reduceAdd, Int.reduceSub, locP_e, gBox_a, gBox_i, gBox_b, gBox_p, gLoad_s, gAlloc_s, gStore_a, gStore_i, gStore_b, gStore_p, sub_z, sub_s, lay_z, lay_s, List.length_cons, List.length_nil, Nat.reduceLeDiff, Nat.le_refl, List.drop_zero, List.drop_succ_cons, List.take_succ_cons, List.take_zero, List.drop_nil, List.cons_append, List.nil_append, List.all_cons, List.all_nil, oneB_i, oneB_b, oneB_p, oneB_sl, Bool.and_true, Nat.reduceLT, Nat.lt_irrefl, Nat.zero_lt_one, gBoxE, gBoxC, subE, subEC, subE0, subE1, subE2, subE3, subE4, subE6, subE7, subE8, subC, subC0, subC1, subC2, subC3, subC4, subC5, subC6]
        rw [xIxS d1.1 hlt]
        simp only [xMove, xPickT, xPickF, xNil, xFld, xExt0, xExt1, xExt30, xExt31, xExt32, xAdd, xSub, xMul, xEql, xNeq, xLss, xLeq, xGtr, xGeq, xEqPN, xEqNN, xNePN, xNeNN, xEqBB, xNeBB, xNot, xConv, xLen, xMin, xMax, xIfc, xIfT, xIfF, xIfD, xJoinE, xOs, xCs, xFldV, List.getD_cons_zero, List.getD_cons_succ, Nat.zero_add, Nat.reduceAdd, Mem.get_set_same, Mem.set_set, if_true, if_false, Bool.not_true, Bool.not_false, decide_true, decide_false, decide_eq_true_eq, decide_not, Bool.not_eq_true, Bool.false_eq_true, reduceIte, Int.reduceLT, Int.reduceLE, Int.reduceEq, Int.reduceNeg, Int.reduceAdd, Int.reduceSub, locP_e, gBox_a, gBox_i, gBox_b, gBox_p, gLoad_s, gAlloc_s, gStore_a, gStore_i, gStore_b, gStore_p, sub_z, sub_s, lay_z, lay_s, List.length_cons, List.length_nil, Nat.reduceLeDiff, Nat.le_refl, List.drop_zero, List.drop_succ_cons, List.take_succ_cons, List.take_zero, List.drop_nil, List.cons_append, List.nil_append, List.all_cons, List.all_nil, oneB_i, oneB_b, oneB_p, oneB_sl, Bool.and_true, Nat.reduceLT, Nat.lt_irrefl, Nat.zero_lt_one, gBoxE, gBoxC, subE, subEC, subE0, subE1, subE2, subE3, subE4, subE6, subE7, subE8, subC, subC0, subC1, subC2, subC3, subC4, subC5, subC6]
        rw [ldCells gq5 d1.1 hlt]
        simp only [xMove, xPickT, xPickF, xNil, xFld, xExt0, xExt1, xExt30, xExt31, xExt32, xAdd, xSub, xMul, xEql, xNeq, xLss, xLeq, xGtr, xGeq, xEqPN, xEqNN, xNePN, xNeNN, xEqBB, xNeBB, xNot, xConv, xLen, xMin, xMax, xIfc, xIfT, xIfF, xIfD, xJoinE, xOs, xCs, xFldV, List.getD_cons_zero, List.getD_cons_succ, Nat.zero_add, Nat.reduceAdd, Mem.get_set_same, Mem.set_set, if_true, if_false, Bool.not_true, Bool.not_false, decide_true, decide_false, decide_eq_true_eq, decide_not, Bool.not_eq_true, Bool.false_eq_true, reduceIte, Int.reduceLT, Int.reduceLE, Int.reduceEq, Int.reduceNeg, Int.reduceAdd, Int.reduceSub, locP_e, gBox_a, gBox_i, gBox_b, gBox_p, gLoad_s, gAlloc_s, gStore_a, gStore_i, gStore_b, gStore_p, sub_z, sub_s, lay_z, lay_s, List.length_cons, List.length_nil, Nat.reduceLeDiff, Nat.le_refl, List.drop_zero, List.drop_succ_cons, List.take_succ_cons, List.take_zero, List.drop_nil, List.cons_append, List.nil_append, List.all_cons, List.all_nil, oneB_i, oneB_b, oneB_p, oneB_sl, Bool.and_true, Nat.reduceLT, Nat.lt_irrefl, Nat.zero_lt_one, gBoxE, gBoxC, subE, subEC, subE0, subE1, subE2, subE3, subE4, subE6, subE7, subE8, subC, subC0, subC1, subC2, subC3, subC4, subC5, subC6]
        rw [IntWalk.i64_in (b.u j + roomOf (classOf (g i))) (by omega), xIxS d1.1 hlt]
        simp only [xMove, xPickT, xPickF, xNil, xFld, xExt0, xExt1, xExt30, xExt31, xExt32, xAdd, xSub, xMul, xEql, xNeq, xLss, xLeq, xGtr, xGeq, xEqPN, xEqNN, xNePN, xNeNN, xEqBB, xNeBB, xNot, xConv, xLen, xMin, xMax, xIfc, xIfT, xIfF, xIfD, xJoinE, xOs, xCs, xFldV, List.getD_cons_zero, List.getD_cons_succ, Nat.zero_add, Nat.reduceAdd, Mem.get_set_same, Mem.set_set, if_true, if_false, Bool.not_true, Bool.not_false, decide_true, decide_false, decide_eq_true_eq, decide_not, Bool.not_eq_true, Bool.false_eq_true, reduceIte, Int.reduceLT, Int.reduceLE, Int.reduceEq, Int.reduceNeg, Int.reduceAdd, Int.reduceSub, locP_e, gBox_a, gBox_i, gBox_b, gBox_p, gLoad_s, gAlloc_s, gStore_a, gStore_i, gStore_b, gStore_p, sub_z, sub_s, lay_z, lay_s, List.length_cons, List.length_nil, Nat.reduceLeDiff, Nat.le_refl, List.drop_zero, List.drop_succ_cons, List.take_succ_cons, List.take_zero, List.drop_nil, List.cons_append, List.nil_append, List.all_cons, List.all_nil, oneB_i, oneB_b, oneB_p, oneB_sl, Bool.and_true, Nat.reduceLT, Nat.lt_irrefl, Nat.zero_lt_one, gBoxE, gBoxC, subE, subEC, subE0, subE1, subE2, subE3, subE4, subE6, subE7, subE8, subC, subC0, subC1, subC2, subC3, subC4, subC5, subC6]
        rw [stCells gq5 d1.1 hlt, ← eu]
        have hA6 := hA5.setO (c := ⟨cells .i64 k.toNat b'.u, true⟩) hqd
        have gq6 : (τ5.set q ⟨cells .i64 k.toNat b'.u, true⟩).get q = some ⟨cells .i64 k.toNat b'.u, true⟩ := Mem.get_set_same _ _ _
        have ext6 : Ext σ (τ5.set q ⟨cells .i64 k.toNat b'.u, true⟩) := fun x y hx => by
          rw [Mem.get_set_ne _ _ (by rintro rfl; rw [hq0] at hx; cases hx)]; exact ext5 x y hx
        generalize τ5.set q ⟨cells .i64 k.toNat b'.u, true⟩ = τ6 at *
        have hg6 := hg.keep ext6
        simp only [e, ne_eq, not_true_eq_false, xMove, xPickT, xPickF, xNil, xFld, xExt0, xExt1, xExt30, xExt31, xExt32, xAdd, xSub, xMul, xEql, xNeq, xLss, xLeq, xGtr, xGeq, xEqPN, xEqNN, xNePN, xNeNN, xEqBB, xNeBB, xNot, xConv, xLen, xMin, xMax, xIfc, xIfT, xIfF, xIfD, xJoinE, xOs, xCs, xFldV, List.getD_cons_zero, List.getD_cons_succ, Nat.zero_add, Nat.reduceAdd, Mem.get_set_same, Mem.set_set, if_true, if_false, Bool.not_true, Bool.not_false, decide_true, decide_false, decide_eq_true_eq, decide_not, Bool.not_eq_true, Bool.false_eq_true, reduceIte, Int.reduceLT, Int.reduceLE, Int.reduceEq, Int.reduceNeg, Int.reduceAdd, Int.reduceSub, locP_e, gBox_a, gBox_i, gBox_b, gBox_p, gLoad_s, gAlloc_s, gStore_a, gStore_i, gStore_b, gStore_p, sub_z, sub_s, lay_z, lay_s, List.length_cons, List.length_nil, Nat.reduceLeDiff, Nat.le_refl, List.drop_zero, List.drop_succ_cons, List.take_succ_cons, List.take_zero, List.drop_nil, List.cons_append, List.nil_append, List.all_cons, List.all_nil, oneB_i, oneB_b, oneB_p, oneB_sl, Bool.and_true, Nat.reduceLT, Nat.lt_irrefl, Nat.zero_lt_one, gBoxE, gBoxC, subE, subEC, subE0, subE1, subE2, subE3, subE4, subE6, subE7, subE8, subC, subC0, subC1, subC2, subC3, subC4, subC5, subC6]
        rw [IntWalk.i64_in (made + 1) (by have := hI.F; omega), hg6.ix i0 c1]
        simp only [xRem (show (2 : Int) ≠ 0 by decide), xMove, xPickT, xPickF, xNil, xFld, xExt0, xExt1, xExt30, xExt31, xExt32, xAdd, xSub, xMul, xEql, xNeq, xLss, xLeq, xGtr, xGeq, xEqPN, xEqNN, xNePN, xNeNN, xEqBB, xNeBB, xNot, xConv, xLen, xMin, xMax, xIfc, xIfT, xIfF, xIfD, xJoinE, xOs, xCs, xFldV, List.getD_cons_zero, List.getD_cons_succ, Nat.zero_add, Nat.reduceAdd, Mem.get_set_same, Mem.set_set, if_true, if_false, Bool.not_true, Bool.not_false, decide_true, decide_false, decide_eq_true_eq, decide_not, Bool.not_eq_true, Bool.false_eq_true, reduceIte, Int.reduceLT, Int.reduceLE, Int.reduceEq, Int.reduceNeg, Int.reduceAdd, Int.reduceSub, locP_e, gBox_a, gBox_i, gBox_b, gBox_p, gLoad_s, gAlloc_s, gStore_a, gStore_i, gStore_b, gStore_p, sub_z, sub_s, lay_z, lay_s, List.length_cons, List.length_nil, Nat.reduceLeDiff, Nat.le_refl, List.drop_zero, List.drop_succ_cons, List.take_succ_cons, List.take_zero, List.drop_nil, List.cons_append, List.nil_append, List.all_cons, List.all_nil, oneB_i, oneB_b, oneB_p, oneB_sl, Bool.and_true, Nat.reduceLT, Nat.lt_irrefl, Nat.zero_lt_one, gBoxE, gBoxC, subE, subEC, subE0, subE1, subE2, subE3, subE4, subE6, subE7, subE8, subC, subC0, subC1, subC2, subC3, subC4, subC5, subC6]
        refine c_sound hN hC hA6 hP4.ok.w hP4.n hsnd fun τ7 x7 => ?_
        simp only [w_law08_AllocAlone_j7, w_law08_AllocAlone_j7b, xMove, xPickT, xPickF, xNil, xFld, xExt0, xExt1, xExt30, xExt31, xExt32, xAdd, xSub, xMul, xEql, xNeq, xLss, xLeq, xGtr, xGeq, xEqPN, xEqNN, xNePN, xNeNN, xEqBB, xNeBB, xNot, xConv, xLen, xMin, xMax, xIfc, xIfT, xIfF, xIfD, xJoinE, xOs, xCs, xFldV, List.getD_cons_zero, List.getD_cons_succ, Nat.zero_add, Nat.reduceAdd, Mem.get_set_same, Mem.set_set, if_true, if_false, Bool.not_true, Bool.not_false, decide_true, decide_false, decide_eq_true_eq, decide_not, Bool.not_eq_true, Bool.false_eq_true, reduceIte, Int.reduceLT, Int.reduceLE, Int.reduceEq, Int.reduceNeg, Int.reduceAdd, Int.reduceSub, locP_e, gBox_a, gBox_i, gBox_b, gBox_p, gLoad_s, gAlloc_s, gStore_a, gStore_i, gStore_b, gStore_p, sub_z, sub_s, lay_z, lay_s, List.length_cons, List.length_nil, Nat.reduceLeDiff, Nat.le_refl, List.drop_zero, List.drop_succ_cons, List.take_succ_cons, List.take_zero, List.drop_nil, List.cons_append, List.nil_append, List.all_cons, List.all_nil, oneB_i, oneB_b, oneB_p, oneB_sl, Bool.and_true, Nat.reduceLT, Nat.lt_irrefl, Nat.zero_lt_one, gBoxE, gBoxC, subE, subEC, subE0, subE1, subE2, subE3, subE4, subE6, subE7, subE8, subC, subC0, subC1, subC2, subC3, subC4, subC5, subC6]
        exact j5 A4 (b'.count j (roomOf (classOf (g i)))) (made + 1) τ7 (hA6.ext x7) hP4 hI' (x7 _ _ gq6) (ext6.trans x7)
      simp only [w_law08_AllocAlone_j8, w_law08_AllocAlone_j8b, xIxA hc0 hc4, oC, oC_sub hc0 hc3, xMove, xPickT, xPickF, xNil, xFld, xExt0, xExt1, xExt30, xExt31, xExt32, xAdd, xSub, xMul, xEql, xNeq, xLss, xLeq, xGtr, xGeq, xEqPN, xEqNN, xNePN, xNeNN, xEqBB, xNeBB, xNot, xConv, xLen, xMin, xMax, xIfc, xIfT, xIfF, xIfD, xJoinE, xOs, xCs, xFldV, List.getD_cons_zero, List.getD_cons_succ, Nat.zero_add, Nat.reduceAdd, Mem.get_set_same, Mem.set_set, if_true, if_false, Bool.not_true, Bool.not_false, decide_true, decide_false, decide_eq_true_eq, decide_not, Bool.not_eq_true, Bool.false_eq_true, reduceIte, Int.reduceLT, Int.reduceLE, Int.reduceEq, Int.reduceNeg, Int.reduceAdd, Int.reduceSub, locP_e, gBox_a, gBox_i, gBox_b, gBox_p, gLoad_s, gAlloc_s, gStore_a, gStore_i, gStore_b, gStore_p, sub_z, sub_s, lay_z, lay_s, List.length_cons, List.length_nil, Nat.reduceLeDiff, Nat.le_refl, List.drop_zero, List.drop_succ_cons, List.take_succ_cons, List.take_zero, List.drop_nil, List.cons_append, List.nil_append, List.all_cons, List.all_nil, oneB_i, oneB_b, oneB_p, oneB_sl, Bool.and_true, Nat.reduceLT, Nat.lt_irrefl, Nat.zero_lt_one, gBoxE, gBoxC, subE, subEC, subE0, subE1, subE2, subE3, subE4, subE6, subE7, subE8, subC, subC0, subC1, subC2, subC3, subC4, subC5, subC6]
      rcases hgot with ⟨gd, ej, eb⟩ | ⟨ng, hnx, ej, eb⟩
      · have ho : ¬ b.o (classOf (g i)) < 0 := by have := gd.1; omega
        have hle : ¬ 20 < b.u j + roomOf (classOf (g i)) := by have := gd.2; rw [← ej] at this; omega
        have e1 : b'.o = b.o := by rw [eb]
        have e2 : b'.nx = b.nx := by rw [eb]
        rw [e1, e2] at j6
        simp only [ho, xMove, xPickT, xPickF, xNil, xFld, xExt0, xExt1, xExt30, xExt31, xExt32, xAdd, xSub, xMul, xEql, xNeq, xLss, xLeq, xGtr, xGeq, xEqPN, xEqNN, xNePN, xNeNN, xEqBB, xNeBB, xNot, xConv, xLen, xMin, xMax, xIfc, xIfT, xIfF, xIfD, xJoinE, xOs, xCs, xFldV, List.getD_cons_zero, List.getD_cons_succ, Nat.zero_add, Nat.reduceAdd, Mem.get_set_same, Mem.set_set, if_true, if_false, Bool.not_true, Bool.not_false, decide_true, decide_false, decide_eq_true_eq, decide_not, Bool.not_eq_true, Bool.false_eq_true, reduceIte, Int.reduceLT, Int.reduceLE, Int.reduceEq, Int.reduceNeg, Int.reduceAdd, Int.reduceSub, locP_e, gBox_a, gBox_i, gBox_b, gBox_p, gLoad_s, gAlloc_s, gStore_a, gStore_i, gStore_b, gStore_p, sub_z, sub_s, lay_z, lay_s, List.length_cons, List.length_nil, Nat.reduceLeDiff, Nat.le_refl, List.drop_zero, List.drop_succ_cons, List.take_succ_cons, List.take_zero, List.drop_nil, List.cons_append, List.nil_append, List.all_cons, List.all_nil, oneB_i, oneB_b, oneB_p, oneB_sl, Bool.and_true, Nat.reduceLT, Nat.lt_irrefl, Nat.zero_lt_one, gBoxE, gBoxC, subE, subEC, subE0, subE1, subE2, subE3, subE4, subE6, subE7, subE8, subC, subC0, subC1, subC2, subC3, subC4, subC5, subC6]
        rw [← ej, xIxS d1.1 hlt]
        simp only [xMove, xPickT, xPickF, xNil, xFld, xExt0, xExt1, xExt30, xExt31, xExt32, xAdd, xSub, xMul, xEql, xNeq, xLss, xLeq, xGtr, xGeq, xEqPN, xEqNN, xNePN, xNeNN, xEqBB, xNeBB, xNot, xConv, xLen, xMin, xMax, xIfc, xIfT, xIfF, xIfD, xJoinE, xOs, xCs, xFldV, List.getD_cons_zero, List.getD_cons_succ, Nat.zero_add, Nat.reduceAdd, Mem.get_set_same, Mem.set_set, if_true, if_false, Bool.not_true, Bool.not_false, decide_true, decide_false, decide_eq_true_eq, decide_not, Bool.not_eq_true, Bool.false_eq_true, reduceIte, Int.reduceLT, Int.reduceLE, Int.reduceEq, Int.reduceNeg, Int.reduceAdd, Int.reduceSub, locP_e, gBox_a, gBox_i, gBox_b, gBox_p, gLoad_s, gAlloc_s, gStore_a, gStore_i, gStore_b, gStore_p, sub_z, sub_s, lay_z, lay_s, List.length_cons, List.length_nil, Nat.reduceLeDiff, Nat.le_refl, List.drop_zero, List.drop_succ_cons, List.take_succ_cons, List.take_zero, List.drop_nil, List.cons_append, List.nil_append, List.all_cons, List.all_nil, oneB_i, oneB_b, oneB_p, oneB_sl, Bool.and_true, Nat.reduceLT, Nat.lt_irrefl, Nat.zero_lt_one, gBoxE, gBoxC, subE, subEC, subE0, subE1, subE2, subE3, subE4, subE6, subE7, subE8, subC, subC0, subC1, subC2, subC3, subC4, subC5, subC6]
        rw [ldCells gq5 d1.1 hlt]
        simp only [xMove, xPickT, xPickF, xNil, xFld, xExt0, xExt1, xExt30, xExt31, xExt32, xAdd, xSub, xMul, xEql, xNeq, xLss, xLeq, xGtr, xGeq, xEqPN, xEqNN, xNePN, xNeNN, xEqBB, xNeBB, xNot, xConv, xLen, xMin, xMax, xIfc, xIfT, xIfF, xIfD, xJoinE, xOs, xCs, xFldV, List.getD_cons_zero, List.getD_cons_succ, Nat.zero_add, Nat.reduceAdd, Mem.get_set_same, Mem.set_set, if_true, if_false, Bool.not_true, Bool.not_false, decide_true, decide_false, decide_eq_true_eq, decide_not, Bool.not_eq_true, Bool.false_eq_true, reduceIte, Int.reduceLT, Int.reduceLE, Int.reduceEq, Int.reduceNeg, Int.reduceAdd, Int.reduceSub, locP_e, gBox_a, gBox_i, gBox_b, gBox_p, gLoad_s, gAlloc_s, gStore_a, gStore_i, gStore_b, gStore_p, sub_z, sub_s, lay_z, lay_s, List.length_cons, List.length_nil, Nat.reduceLeDiff, Nat.le_refl, List.drop_zero, List.drop_succ_cons, List.take_succ_cons, List.take_zero, List.drop_nil, List.cons_append, List.nil_append, List.all_cons, List.all_nil, oneB_i, oneB_b, oneB_p, oneB_sl, Bool.and_true, Nat.reduceLT, Nat.lt_irrefl, Nat.zero_lt_one, gBoxE, gBoxC, subE, subEC, subE0, subE1, subE2, subE3, subE4, subE6, subE7, subE8, subC, subC0, subC1, subC2, subC3, subC4, subC5, subC6]
        rw [IntWalk.i64_in _ (by omega)]
        simp only [hle, gStoreU, xMove, xPickT, xPickF, xNil, xFld, xExt0, xExt1, xExt30, xExt31, xExt32, xAdd, xSub, xMul, xEql, xNeq, xLss, xLeq, xGtr, xGeq, xEqPN, xEqNN, xNePN, xNeNN, xEqBB, xNeBB, xNot, xConv, xLen, xMin, xMax, xIfc, xIfT, xIfF, xIfD, xJoinE, xOs, xCs, xFldV, List.getD_cons_zero, List.getD_cons_succ, Nat.zero_add, Nat.reduceAdd, Mem.get_set_same, Mem.set_set, if_true, if_false, Bool.not_true, Bool.not_false, decide_true, decide_false, decide_eq_true_eq, decide_not, Bool.not_eq_true, Bool.false_eq_true, reduceIte, Int.reduceLT, Int.reduceLE, Int.reduceEq, Int.reduceNeg, Int.reduceAdd, Int.reduceSub, locP_e, gBox_a, gBox_i, gBox_b, gBox_p, gLoad_s, gAlloc_s, gStore_a, gStore_i, gStore_b, gStore_p, sub_z, sub_s, lay_z, lay_s, List.length_cons, List.length_nil, Nat.reduceLeDiff, Nat.le_refl, List.drop_zero, List.drop_succ_cons, List.take_succ_cons, List.take_zero, List.drop_nil, List.cons_append, List.nil_append, List.all_cons, List.all_nil, oneB_i, oneB_b, oneB_p, oneB_sl, Bool.and_true, Nat.reduceLT, Nat.lt_irrefl, Nat.zero_lt_one, gBoxE, gBoxC, subE, subEC, subE0, subE1, subE2, subE3, subE4, subE6, subE7, subE8, subC, subC0, subC1, subC2, subC3, subC4, subC5, subC6]
        exact j6
      · have e1 : b'.o = upd b.o (classOf (g i)) b.nx := by rw [eb]
        have e2 : b'.nx = b.nx + 1 := by rw [eb]
        rw [e1, e2] at j6
        have nk : ¬ k ≤ b.nx := by omega
        have w1 := IntWalk.i64_in (b.nx + 1) (by omega)
        by_cases ho : b.o (classOf (g i)) < 0
        · simp only [ho, nk, gStoreU, oC_set hc0 hc3, w1, xMove, xPickT, xPickF, xNil, xFld, xExt0, xExt1, xExt30, xExt31, xExt32, xAdd, xSub, xMul, xEql, xNeq, xLss, xLeq, xGtr, xGeq, xEqPN, xEqNN, xNePN, xNeNN, xEqBB, xNeBB, xNot, xConv, xLen, xMin, xMax, xIfc, xIfT, xIfF, xIfD, xJoinE, xOs, xCs, xFldV, List.getD_cons_zero, List.getD_cons_succ, Nat.zero_add, Nat.reduceAdd, Mem.get_set_same, Mem.set_set, if_true, if_false, Bool.not_true, Bool.not_false, decide_true, decide_false, decide_eq_true_eq, decide_not, Bool.not_eq_true, Bool.false_eq_true, reduceIte, Int.reduceLT, Int.reduceLE, Int.reduceEq, Int.reduceNeg, Int.reduceAdd, Int.reduceSub, locP_e, gBox_a, gBox_i, gBox_b, gBox_p, gLoad_s, gAlloc_s, gStore_a, gStore_i, gStore_b, gStore_p, sub_z, sub_s, lay_z, lay_s, List.length_cons, List.length_nil, Nat.reduceLeDiff, Nat.le_refl, List.drop_zero, List.drop_succ_cons, List.take_succ_cons, List.take_zero, List.drop_nil, List.cons_append, List.nil_append, List.all_cons, List.all_nil, oneB_i, oneB_b, oneB_p, oneB_sl, Bool.and_true, Nat.reduceLT, Nat.lt_irrefl, Nat.zero_lt_one, gBoxE, gBoxC, subE, subEC, subE0, subE1, subE2, subE3, subE4, subE6, subE7, subE8, subC, subC0, subC1, subC2, subC3, subC4, subC5, subC6]
          exact j6
        · have ho0 : 0 ≤ b.o (classOf (g i)) := by omega
          have hlt' : b.o (classOf (g i)) < ((k.toNat : Nat) : Int) := by omega
          have hub' := hI.ub hC ho0 (by omega)
          have hgt : 20 < b.u (b.o (classOf (g i))) + roomOf (classOf (g i)) := by
            have : ¬ (b.u (b.o (classOf (g i))) + roomOf (classOf (g i)) ≤ C.W) := fun q => ng ⟨ho0, q⟩
            omega
          simp only [ho, xMove, xPickT, xPickF, xNil, xFld, xExt0, xExt1, xExt30, xExt31, xExt32, xAdd, xSub, xMul, xEql, xNeq, xLss, xLeq, xGtr, xGeq, xEqPN, xEqNN, xNePN, xNeNN, xEqBB, xNeBB, xNot, xConv, xLen, xMin, xMax, xIfc, xIfT, xIfF, xIfD, xJoinE, xOs, xCs, xFldV, List.getD_cons_zero, List.getD_cons_succ, Nat.zero_add, Nat.reduceAdd, Mem.get_set_same, Mem.set_set, if_true, if_false, Bool.not_true, Bool.not_false, decide_true, decide_false, decide_eq_true_eq, decide_not, Bool.not_eq_true, Bool.false_eq_true, reduceIte, Int.reduceLT, Int.reduceLE, Int.reduceEq, Int.reduceNeg, Int.reduceAdd, Int.reduceSub, locP_e, gBox_a, gBox_i, gBox_b, gBox_p, gLoad_s, gAlloc_s, gStore_a, gStore_i, gStore_b, gStore_p, sub_z, sub_s, lay_z, lay_s, List.length_cons, List.length_nil, Nat.reduceLeDiff, Nat.le_refl, List.drop_zero, List.drop_succ_cons, List.take_succ_cons, List.take_zero, List.drop_nil, List.cons_append, List.nil_append, List.all_cons, List.all_nil, oneB_i, oneB_b, oneB_p, oneB_sl, Bool.and_true, Nat.reduceLT, Nat.lt_irrefl, Nat.zero_lt_one, gBoxE, gBoxC, subE, subEC, subE0, subE1, subE2, subE3, subE4, subE6, subE7, subE8, subC, subC0, subC1, subC2, subC3, subC4, subC5, subC6]
          rw [xIxS ho0 hlt']
          simp only [xMove, xPickT, xPickF, xNil, xFld, xExt0, xExt1, xExt30, xExt31, xExt32, xAdd, xSub, xMul, xEql, xNeq, xLss, xLeq, xGtr, xGeq, xEqPN, xEqNN, xNePN, xNeNN, xEqBB, xNeBB, xNot, xConv, xLen, xMin, xMax, xIfc, xIfT, xIfF, xIfD, xJoinE, xOs, xCs, xFldV, List.getD_cons_zero, List.getD_cons_succ, Nat.zero_add, Nat.reduceAdd, Mem.get_set_same, Mem.set_set, if_true, if_false, Bool.not_true, Bool.not_false, decide_true, decide_false, decide_eq_true_eq, decide_not, Bool.not_eq_true, Bool.false_eq_true, reduceIte, Int.reduceLT, Int.reduceLE, Int.reduceEq, Int.reduceNeg, Int.reduceAdd, Int.reduceSub, locP_e, gBox_a, gBox_i, gBox_b, gBox_p, gLoad_s, gAlloc_s, gStore_a, gStore_i, gStore_b, gStore_p, sub_z, sub_s, lay_z, lay_s, List.length_cons, List.length_nil, Nat.reduceLeDiff, Nat.le_refl, List.drop_zero, List.drop_succ_cons, List.take_succ_cons, List.take_zero, List.drop_nil, List.cons_append, List.nil_append, List.all_cons, List.all_nil, oneB_i, oneB_b, oneB_p, oneB_sl, Bool.and_true, Nat.reduceLT, Nat.lt_irrefl, Nat.zero_lt_one, gBoxE, gBoxC, subE, subEC, subE0, subE1, subE2, subE3, subE4, subE6, subE7, subE8, subC, subC0, subC1, subC2, subC3, subC4, subC5, subC6]
          rw [ldCells gq5 ho0 hlt']
          simp only [xMove, xPickT, xPickF, xNil, xFld, xExt0, xExt1, xExt30, xExt31, xExt32, xAdd, xSub, xMul, xEql, xNeq, xLss, xLeq, xGtr, xGeq, xEqPN, xEqNN, xNePN, xNeNN, xEqBB, xNeBB, xNot, xConv, xLen, xMin, xMax, xIfc, xIfT, xIfF, xIfD, xJoinE, xOs, xCs, xFldV, List.getD_cons_zero, List.getD_cons_succ, Nat.zero_add, Nat.reduceAdd, Mem.get_set_same, Mem.set_set, if_true, if_false, Bool.not_true, Bool.not_false, decide_true, decide_false, decide_eq_true_eq, decide_not, Bool.not_eq_true, Bool.false_eq_true, reduceIte, Int.reduceLT, Int.reduceLE, Int.reduceEq, Int.reduceNeg, Int.reduceAdd, Int.reduceSub, locP_e, gBox_a, gBox_i, gBox_b, gBox_p, gLoad_s, gAlloc_s, gStore_a, gStore_i, gStore_b, gStore_p, sub_z, sub_s, lay_z, lay_s, List.length_cons, List.length_nil, Nat.reduceLeDiff, Nat.le_refl, List.drop_zero, List.drop_succ_cons, List.take_succ_cons, List.take_zero, List.drop_nil, List.cons_append, List.nil_append, List.all_cons, List.all_nil, oneB_i, oneB_b, oneB_p, oneB_sl, Bool.and_true, Nat.reduceLT, Nat.lt_irrefl, Nat.zero_lt_one, gBoxE, gBoxC, subE, subEC, subE0, subE1, subE2, subE3, subE4, subE6, subE7, subE8, subC, subC0, subC1, subC2, subC3, subC4, subC5, subC6]
          rw [IntWalk.i64_in _ (by omega)]
          simp only [hgt, nk, gStoreU, oC_set hc0 hc3, w1, xMove, xPickT, xPickF, xNil, xFld, xExt0, xExt1, xExt30, xExt31, xExt32, xAdd, xSub, xMul, xEql, xNeq, xLss, xLeq, xGtr, xGeq, xEqPN, xEqNN, xNePN, xNeNN, xEqBB, xNeBB, xNot, xConv, xLen, xMin, xMax, xIfc, xIfT, xIfF, xIfD, xJoinE, xOs, xCs, xFldV, List.getD_cons_zero, List.getD_cons_succ, Nat.zero_add, Nat.reduceAdd, Mem.get_set_same, Mem.set_set, if_true, if_false, Bool.not_true, Bool.not_false, decide_true, decide_false, decide_eq_true_eq, decide_not, Bool.not_eq_true, Bool.false_eq_true, reduceIte, Int.reduceLT, Int.reduceLE, Int.reduceEq, Int.reduceNeg, Int.reduceAdd, Int.reduceSub, locP_e, gBox_a, gBox_i, gBox_b, gBox_p, gLoad_s, gAlloc_s, gStore_a, gStore_i, gStore_b, gStore_p, sub_z, sub_s, lay_z, lay_s, List.length_cons, List.length_nil, Nat.reduceLeDiff, Nat.le_refl, List.drop_zero, List.drop_succ_cons, List.take_succ_cons, List.take_zero, List.drop_nil, List.cons_append, List.nil_append, List.all_cons, List.all_nil, oneB_i, oneB_b, oneB_p, oneB_sl, Bool.and_true, Nat.reduceLT, Nat.lt_irrefl, Nat.zero_lt_one, gBoxE, gBoxC, subE, subEC, subE0, subE1, subE2, subE3, subE4, subE6, subE7, subE8, subC, subC0, subC1, subC2, subC3, subC4, subC5, subC6]
          exact j6
end Go.Fl
