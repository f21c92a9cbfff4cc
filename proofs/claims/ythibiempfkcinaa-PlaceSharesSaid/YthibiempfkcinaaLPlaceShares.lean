/- However many want words at the same time, whoever is picked: no word is given to two, and each is in a chunk of its class: the reading of the law answers true. No condition. -/
import Derived.Test.YthibiempfkcinaaFlPh
namespace Go.Fl
open Go
set_option linter.unusedVariables false
set_option linter.unusedSimpArgs false
variable {N : Nm} {A B : Ar} {σ : Mem} {K : Value → Mem → Prop} {C : Cf} {who : Int}

/-! ### In plain terms -/
/-- What holds of each who wants words. -/
structure Pl.fine (C : Cf) (t : Pl) : Prop where
  fit : t.fit C
  ok : t.ok = false
  see : t.pc = 2 → chS t.w = 1 ∧ chC t.w = t.cls ∧ chU t.w + roomOf t.cls ≤ C.W
  take : t.pc = 4 → chS t.w = 0
/-- Which words are given: only those below what is used of a chunk that is not free. -/
def Gvn (C : Cf) (w : Int → Int) (G : Int → Bool) : Prop := ∀ j i, 0 ≤ j → j < C.C → 0 ≤ i → i < C.W → G (C.base j + i) = true → chS (w (C.chunk j)) ≠ 0 ∧ i < chU (w (C.chunk j))
theorem Pl.new_fine (hC : C.ok) {c : Int} (h0 : 0 ≤ c) (h1 : c ≤ 3) : (Pl.new c).fine C :=
  ⟨Pl.new_fit hC h0 h1, rfl, (fun h => by cases h), (fun h => by cases h)⟩
theorem ch_put' {st c us sp : Int} (h1 : 0 ≤ st ∧ st ≤ 3) (h2 : 0 ≤ c ∧ c ≤ 63) (h3 : 0 ≤ us ∧ us ≤ 1048575) : chS (putChunk st c us sp) = st ∧ chC (putChunk st c us sp) = c ∧ chU (putChunk st c us sp) = us := by
  have e : putChunk st c us sp = putChunk st c us (cl sp 68719476735) := by
    unfold putChunk; rw [cl_in (n := cl sp 68719476735) (cl_nn (by decide)) cl_le]
  have := ch_put (sp := cl sp 68719476735) h1 h2 h3 ⟨cl_nn (by decide), cl_le⟩
  rw [e]; exact ⟨this.1, this.2.1, this.2.2.1⟩
/-- A step that is not the last, or the last one in vain. -/
theorem Pl.fine.step (hC : C.ok) {b : Int} (hb : b < 4611686018427387904) (hP : Pa C A b) {t : Pl} (h : t.fine C) {G : Int → Bool} (hG : Gvn C A.w G) :
    ((t.step C who A).1 = false ∧ (t.step C who A).2.1.fine C ∧ Gvn C (t.step C who A).2.2.w G) ∨
    ((t.step C who A).1 = true ∧ (t.step C who A).2.1.ok = false ∧ Gvn C (t.step C who A).2.2.w G) ∨
    (t.pc = 2 ∧ A.w (C.chunk t.at') = t.w ∧ (t.step C who A).1 = true) := by
  have g := (Pl.go (who := who) hC hb hP h.fit).2.1
  have hok := hP.ok
  have hf := h.fit
  have hN := chN_bd t.w
  have put : ∀ v, (A.w (C.chunk t.at') = v → chS v = 0 ∨ chU v = 0) → ∀ v', Gvn C ((A.by who).cas (C.chunk t.at') v v').w G := by
    intro v hv v'
    rw [(aft_cas (who := who) (a := C.chunk t.at') (o := v) (v := v') hok (by omega)).w]
    split
    · rename_i e
      intro j i j0 j1 i0 i1 hg
      by_cases q : j = t.at'
      · subst q
        have := hG _ i j0 j1 i0 i1 hg
        rw [e] at this
        rcases hv e with h | h <;> omega
      · rw [upd_ne _ _ (fun x => q (chunk_inj x))]
        exact hG j i j0 j1 i0 i1 hg
    · exact hG
  by_cases c0 : t.pc = 0
  · by_cases e : IntKind.i64.wrap (A.w (2 + t.cls)) - 1 < 0
    · rw [Pl.s0a c0 e] at g ⊢
      exact .inl ⟨rfl, ⟨g rfl, h.ok, (fun q => by cases q), (fun q => by cases q)⟩, hG⟩
    · rw [Pl.s0b c0 e] at g ⊢
      exact .inl ⟨rfl, ⟨g rfl, h.ok, (fun q => by cases q), (fun q => by cases q)⟩, hG⟩
  by_cases c1 : t.pc = 1
  · by_cases e : chS (A.w (C.chunk t.at')) ≠ 1 ∨ chC (A.w (C.chunk t.at')) ≠ t.cls ∨ C.W < chU (A.w (C.chunk t.at')) + roomOf t.cls
    · rw [Pl.s1a c1 e] at g ⊢
      exact .inl ⟨rfl, ⟨g rfl, h.ok, (fun q => by cases q), (fun q => by cases q)⟩, hG⟩
    · rw [Pl.s1b c1 e] at g ⊢
      refine .inl ⟨rfl, ⟨g rfl, h.ok, fun _ => ?_, (fun q => by cases q)⟩, hG⟩
      show chS (A.w (C.chunk t.at')) = 1 ∧ chC (A.w (C.chunk t.at')) = t.cls ∧ chU (A.w (C.chunk t.at')) + roomOf t.cls ≤ C.W
      omega
  by_cases c2 : t.pc = 2
  · by_cases e : A.w (C.chunk t.at') = t.w
    · exact .inr (.inr ⟨c2, e, by rw [Pl.s2a c2 e]⟩)
    · rw [Pl.s2b c2 e] at g ⊢
      exact .inl ⟨rfl, ⟨g rfl, h.ok, (fun q => by cases q), (fun q => by cases q)⟩, put _ (fun q => absurd q e) _⟩
  by_cases c3 : t.pc = 3
  · by_cases e : chS (A.w (C.chunk t.at')) = 0
    · rw [Pl.s3b c3 e] at g ⊢
      exact .inl ⟨rfl, ⟨g rfl, h.ok, (fun q => by cases q), fun _ => e⟩, hG⟩
    · rw [Pl.s3a c3 e] at g ⊢
      by_cases e2 : C.C ≤ t.at' + 1
      · exact .inr (.inl ⟨decide_eq_true e2, h.ok, hG⟩)
      · exact .inl ⟨decide_eq_false e2, ⟨g (decide_eq_false e2), h.ok, (fun q => by cases q), (fun q => by cases q)⟩, hG⟩
  by_cases c4 : t.pc = 4
  · have hz := h.take c4
    by_cases e : A.w (C.chunk t.at') = t.w
    · rw [Pl.s4a c4 e] at g ⊢
      exact .inl ⟨rfl, ⟨g rfl, h.ok, (fun q => by cases q), (fun q => by cases q)⟩, put _ (fun _ => .inl hz) _⟩
    · rw [Pl.s4b c4 e] at g ⊢
      by_cases e2 : C.C ≤ t.at' + 1
      · exact .inr (.inl ⟨decide_eq_true e2, h.ok, put _ (fun _ => .inl hz) _⟩)
      · exact .inl ⟨decide_eq_false e2, ⟨g (decide_eq_false e2), h.ok, (fun q => by cases q), (fun q => by cases q)⟩, put _ (fun _ => .inl hz) _⟩
  by_cases c5 : t.pc = 5
  · have o5 : ∀ v', Gvn C ((A.by who).cas (2 + t.cls) t.opn v').w G := by
      intro v' j i j0 j1 i0 i1 hg
      rw [(aft_cas (who := who) (a := 2 + t.cls) (o := t.opn) (v := v') hok (by omega)).w, aw (chunk_ne hC j0 hf.cls.2)]
      exact hG j i j0 j1 i0 i1 hg
    by_cases e : A.w (2 + t.cls) = t.opn
    · rw [Pl.s5a c5 e] at g ⊢
      exact .inl ⟨rfl, ⟨g rfl, h.ok, (fun q => by cases q), (fun q => by cases q)⟩, o5 _⟩
    · rw [Pl.s5b c5 e] at g ⊢
      exact .inl ⟨rfl, ⟨g rfl, h.ok, (fun q => by cases q), (fun q => by cases q)⟩, o5 _⟩
  · rw [Pl.s6 c0 c1 c2 c3 c4 c5] at g ⊢
    refine .inl ⟨rfl, ⟨g rfl, h.ok, (fun q => by cases q), (fun q => by cases q)⟩, put _ (fun _ => .inr ?_) _⟩
    exact (ch_put' (by decide) (by have := hf.cls; omega) (by decide)).2.2

theorem base_of (hC : C.ok) {j i : Int} (j0 : 0 ≤ j) (j1 : j < C.C) (i0 : 0 ≤ i) (i1 : i < C.W) : ofC C (C.base j + i) = j ∧ 0 ≤ C.base j + i ∧ C.base j + i < C.len := by
  have hW := hC.W
  have hT := hC.T
  have hS := hC.S
  have hC3 := hC.C
  have hm := mulW hC j0 (by omega)
  have hm2 : C.W * (j + 1) ≤ C.W * C.C := Int.mul_le_mul_of_nonneg_left (by omega) (by omega)
  rw [Int.mul_add, Int.mul_one] at hm2
  have e0 : C.base 0 = 6 + C.T + 2 * C.S + 3 * C.C := by unfold Cf.base; omega
  have ej : C.base j = 6 + C.T + 2 * C.S + 3 * C.C + C.W * j := rfl
  have el : C.len = 6 + C.T + 2 * C.S + 3 * C.C + C.W * C.C := rfl
  refine ⟨?_, by omega, by omega⟩
  unfold ofC
  rw [if_pos (by omega), show C.base j + i - C.base 0 = i + C.W * j by omega, Int.add_mul_ediv_left _ _ (by omega), Int.ediv_eq_zero_of_lt i0 i1]
  omega
/-- The step that gets words. -/
theorem Gvn.got (hC : C.ok) {b : Int} (hb : b < 4611686018427387904) (hP : Pa C A b) {t : Pl} (h : t.fine C) {G : Int → Bool} (hG : Gvn C A.w G) (c2 : t.pc = 2) (e : A.w (C.chunk t.at') = t.w) :
    let A' := (t.step C who A).2.2
    let t' := (t.step C who A).2.1
    t'.ok = true ∧ t'.sc = t.at' ∧ t'.sa = C.base t.at' + chU t.w ∧ t'.cls = t.cls ∧ chS (A'.w (C.chunk t.at')) = 1 ∧ chC (A'.w (C.chunk t.at')) = t.cls ∧ chU (A'.w (C.chunk t.at')) = chU t.w + roomOf t.cls ∧
    (∀ x, 0 ≤ x → x < roomOf t.cls → G (C.base t.at' + chU t.w + x) = false) ∧
    ∀ G' : Int → Bool, (∀ a, G' a = true → G a = true ∨ C.base t.at' + chU t.w ≤ a ∧ a < C.base t.at' + chU t.w + roomOf t.cls) → Gvn C A'.w G' := by
  have hok := hP.ok
  obtain ⟨s1, s2, s3⟩ := h.see c2
  have hf := h.fit
  have hW := hC.W
  have hr := room_bd hf.cls.1 hf.cls.2
  have hu := chU_bd t.w
  have a1 := aft_cas (who := who) (A := A) (a := C.chunk t.at') (o := t.w) (v := putChunk (chS t.w) (chC t.w) (chU t.w + roomOf t.cls) (chN t.w)) hok (by omega)
  rw [if_pos e] at a1
  rw [Pl.s2a c2 e]
  obtain ⟨p1, p2, p3, _⟩ := ch_put (chS_bd t.w) (chC_bd t.w) (us := chU t.w + roomOf t.cls) (by omega) (chN_bd t.w)
  dsimp only
  rw [s1, s2] at p1 p2 p3
  rw [a1.w, s1, s2, upd_same, p1, p2, p3]
  refine ⟨rfl, rfl, rfl, rfl, rfl, rfl, rfl, fun x x0 x1 => ?_, fun G' hG' j i j0 j1 i0 i1 hg => ?_⟩
  · cases q : G (C.base t.at' + chU t.w + x) with
    | false => rfl
    | true =>
      have := hG t.at' (chU t.w + x) hf.at'.1 hf.at'.2 (by omega) (by omega) (by rw [← Int.add_assoc]; exact q)
      rw [e] at this; omega
  · by_cases q : j = t.at'
    · subst q
      rw [upd_same, p1, p3]
      refine ⟨by decide, ?_⟩
      rcases hG' _ hg with h | h
      · have := hG _ i j0 j1 i0 i1 h
        rw [e] at this; omega
      · omega
    · rw [upd_ne _ _ (fun x => q (chunk_inj x))]
      rcases hG' _ hg with h | h
      · exact hG j i j0 j1 i0 i1 h
      · exfalso
        have k1 := (base_of hC j0 j1 i0 i1).1
        have k2 := (base_of hC hf.at'.1 hf.at'.2 (i := C.base j + i - C.base t.at') (by omega) (by omega)).1
        rw [show C.base t.at' + (C.base j + i - C.base t.at') = C.base j + i by omega] at k2
        omega

/-! ### The law's rows of three -/
def pV : Option (Nat × Pl) → Value
  | none => .pointer none
  | some (p, _) => .pointer (some ⟨p, 0, none⟩)
def c10 (P : Int → Option (Nat × Pl)) : List Value := [pV (P 0), pV (P 1), pV (P 2)]
theorem c10_sub {P : Int → Option (Nat × Pl)} {k : Int} (k0 : 0 ≤ k) (k3 : k < 3) : sub (c10 P) (k.toNat * 1) 1 false = some (pV (P k)) := by
  rcases (show k = 0 ∨ k = 1 ∨ k = 2 by omega) with rfl | rfl | rfl <;> rfl
def updQ (P : Int → Option (Nat × Pl)) (i : Int) (x : Option (Nat × Pl)) : Int → Option (Nat × Pl) := fun j => if j = i then x else P j
theorem c10_set {P : Int → Option (Nat × Pl)} {k : Int} {x : Option (Nat × Pl)} (k0 : 0 ≤ k) (k3 : k < 3) : gStore 1 [.pointer (some ⟨10, k.toNat * 1, some 0⟩), pV x] (c10 P) = some (c10 (updQ P k x)) := by
  rcases (show k = 0 ∨ k = 1 ∨ k = 2 by omega) with rfl | rfl | rfl <;> rcases x with _ | ⟨p, t⟩ <;> rfl
theorem c11_sub {cl : Int → Int} {k : Int} (k0 : 0 ≤ k) (k3 : k < 3) : sub (cells .i64 3 cl) (k.toNat * 1) 1 false = some (.int .i64 (cl k)) := by
  have := cells_sub .i64 (n := 3) cl k0 (by omega); rwa [Nat.zero_add] at this
theorem c11_set {cl : Int → Int} {k v : Int} (k0 : 0 ≤ k) (k3 : k < 3) : gStore 1 [.pointer (some ⟨11, k.toNat * 1, some 0⟩), .int .i64 v] (cells .i64 3 cl) = some (cells .i64 3 (upd cl k v)) := by
  rw [gStore_i (by rw [cells_len]; omega), lay_set (by rw [cells_len]; omega), Nat.mul_one, cells_set .i64 cl v k0 (by omega)]
theorem gStoreH2 {k : Nat} {a b c d w x y z : Int} : gStore 4 [.pointer (some ⟨k, 0, some 0⟩), .agg #[.int .i64 a, .int .i64 b, .int .i64 c, .int .i64 d]] [.int .i64 w, .int .i64 x, .int .i64 y, .int .i64 z] = some [.int .i64 a, .int .i64 b, .int .i64 c, .int .i64 d] := rfl
def updB (f : Int → Bool) (a : Int) (v : Bool) : Int → Bool := fun i => if i = a then v else f i
theorem stCellsB {n q : Nat} {g : Int → Bool} {i : Int} {v : Bool} (h : σ.get q = some ⟨cellsB n g, true⟩) (h0 : 0 ≤ i) (h1 : i < n) :
    hStore 1 [.pointer (some ⟨q, i.toNat * 1, none⟩), .bool v] K σ = K undef (σ.set q ⟨cellsB n (updB g i v), true⟩) := by
  have hl : (cellsB n g).length = n := by simp [cellsB]
  rw [hStore_eq h rfl (by rw [hl]; omega) rfl, Nat.mul_one, lay_set (by rw [hl]; omega)]
  congr 3
  apply List.ext_getElem?
  intro j
  rw [List.getElem?_set]
  by_cases hj : j < n
  · simp only [cellsB, List.getElem?_map, List.getElem?_range hj, Option.map_some, List.length_map, List.length_range]
    by_cases e : i.toNat = j
    · subst e
      rw [if_pos rfl, if_pos hj]
      have : ((i.toNat : Nat) : Int) = i := by omega
      simp [updB, this]
    · rw [if_neg e]
      have : (j : Int) ≠ i := by omega
      simp [updB, this]
  · have h2 : ¬ i.toNat = j := by omega
    rw [if_neg h2]
    simp [cellsB, hj]
theorem ixB {n q : Nat} {g : Int → Bool} {i : Int} {kd : IntKind} {b : Bool} (h : σ.get q = some ⟨cellsB n g, b⟩) (h0 : 0 ≤ i) (h1 : i < n) :
    (xF (fIxS 1) [.slice (some ⟨q, 0, none⟩) n 1, .int kd i] fun v => hLoad 1 false [v] K σ) = K (.bool (g i)) σ := by
  rw [xIxS h0 h1]; simp only [Nat.zero_add]; exact ldCellsB h h0 h1
theorem cellsB_repl (n : Nat) : (List.replicate n [Value.bool false]).flatten = cellsB n fun _ => false := by
  rw [List.flatten_replicate_singleton]
  apply List.ext_getElem?
  intro i
  by_cases hi : i < n
  · simp [cellsB, hi, List.getElem?_replicate, List.getElem?_range hi]
  · simp [cellsB, hi, List.getElem?_replicate]
/-- The heap, and who wants what. -/
structure Hq (N : Nm) (C : Cf) (σ0 : Mem) (q : Nat) (i : Int) (P : Int → Option (Nat × Pl)) (cl : Int → Int) (A : Ar) (G : Int → Bool) (τ : Mem) : Prop where
  i0 : 0 ≤ i
  isA : isA N A τ
  pa : Pa C A (1000 + i)
  gvn : Gvn C A.w G
  ext : Ext σ0 τ
  gq : τ.get q = some ⟨cellsB C.len.toNat G, true⟩
  qd : q ∉ N.l
  q0 : σ0.get q = none
  each : ∀ j, 0 ≤ j → j < 3 → ∀ p t, P j = some (p, t) → τ.get p = some ⟨[] ++ t.l ++ [], true⟩ ∧ p ∉ N.l ∧ σ0.get p = none ∧ p ≠ q ∧ t.fine C ∧ t.cls = cl j
  apart : ∀ j k, 0 ≤ j → j < 3 → 0 ≤ k → k < 3 → ∀ p t u, P j = some (p, t) → P k = some (p, u) → j = k
theorem updQ_same {P : Int → Option (Nat × Pl)} {i : Int} {x : Option (Nat × Pl)} : updQ P i x i = x := by simp [updQ]
theorem updQ_ne {P : Int → Option (Nat × Pl)} {i j : Int} {x : Option (Nat × Pl)} (h : j ≠ i) : updQ P i x j = P j := by simp [updQ, h]
theorem Pl.step_cls {A : Ar} {t : Pl} (hC : C.ok) {b : Int} (hb : b < 4611686018427387904) (hP : Pa C A b) (h : t.fine C) : (t.step C who A).2.1.cls = t.cls := by
  obtain ⟨_, _, a, g⟩ := Pl.go (who := who) hC hb hP h.fit
  exact g.cls
/-- Behind a step: the one who was picked goes on. -/
theorem hq_go {σ0 : Mem} {q : Nat} {i k : Int} {P : Int → Option (Nat × Pl)} {cl : Int → Int} {G : Int → Bool} {τ τ' : Mem} {A A' : Ar} {p : Nat} {t : Pl} (h : Hq N C σ0 q i P cl A G τ) (hf : N.fr σ0) (k0 : 0 ≤ k) (k3 : k < 3) (hk : P k = some (p, t))
    (hA : isA N A' τ') (hP : Pa C A' (1000 + (i + 1))) (hG : Gvn C A'.w G) (kp : Keep (p :: N.l) τ τ') (x : Option (Nat × Pl)) (hx : ∀ p' t', x = some (p', t') → p' = p ∧ τ'.get p = some ⟨[] ++ t'.l ++ [], true⟩ ∧ t'.fine C ∧ t'.cls = cl k) :
    Hq N C σ0 q (i + 1) (updQ P k x) cl A' G τ' := by
  obtain ⟨g1, g2, g3, g4, g5, g6⟩ := h.each k k0 k3 p t hk
  have hi := h.i0
  refine ⟨by omega, hA, hP, hG, h.ext.keep' kp ?_, kp.get h.gq (by simp only [List.mem_cons, not_or]; exact ⟨fun e => g4 e.symm, h.qd⟩), h.qd, h.q0, fun j j0 j3 p' t' hj => ?_, fun a b a0 a3 b0 b3 p' t' u ha hb => ?_⟩
  · intro j hj
    rcases List.mem_cons.1 hj with rfl | hj
    · exact g3
    · exact hf.all j hj
  · by_cases e : j = k
    · subst e; rw [updQ_same] at hj
      obtain ⟨rfl, e1, e2, e3⟩ := hx _ _ hj
      exact ⟨e1, g2, g3, g4, e2, e3⟩
    · rw [updQ_ne e] at hj
      obtain ⟨e1, e2, e3, e4, e5, e6⟩ := h.each j j0 j3 p' t' hj
      refine ⟨kp.get e1 ?_, e2, e3, e4, e5, e6⟩
      simp only [List.mem_cons, not_or]
      refine ⟨?_, e2⟩
      rintro rfl
      exact e (h.apart j k j0 j3 k0 k3 _ _ _ hj hk)
  · have key : ∀ a, 0 ≤ a → a < 3 → ∀ t', updQ P k x a = some (p', t') → ∃ t', P a = some (p', t') := by
      intro a a0 a3 t' ha
      by_cases e : a = k
      · subst e; rw [updQ_same] at ha
        obtain ⟨rfl, _⟩ := hx _ _ ha
        exact ⟨t, hk⟩
      · rw [updQ_ne e] at ha; exact ⟨t', ha⟩
    obtain ⟨_, h1⟩ := key a a0 a3 t' ha
    obtain ⟨_, h2⟩ := key b b0 b3 u hb
    exact h.apart a b a0 a3 b0 b3 _ _ _ h1 h2

theorem hq_ext {σ0 : Mem} {q : Nat} {i : Int} {P : Int → Option (Nat × Pl)} {cl : Int → Int} {G : Int → Bool} {τ τ' : Mem} (h : Hq N C σ0 q i P cl A G τ) (x : Ext τ τ') : Hq N C σ0 q i P cl A G τ' :=
  ⟨h.i0, h.isA.ext x, h.pa, h.gvn, h.ext.trans x, x _ _ h.gq, h.qd, h.q0, fun j j0 j3 p t hj => ⟨x _ _ (h.each j j0 j3 p t hj).1, (h.each j j0 j3 p t hj).2⟩, h.apart⟩
theorem hq_set {σ0 : Mem} {q : Nat} {i : Int} {P : Int → Option (Nat × Pl)} {cl : Int → Int} {G G' : Int → Bool} {τ : Mem} (h : Hq N C σ0 q i P cl A G τ) (hG : Gvn C A.w G') : Hq N C σ0 q i P cl A G' (τ.set q ⟨cellsB C.len.toNat G', true⟩) := by
  refine ⟨h.i0, h.isA.setO h.qd, h.pa, hG, fun j b hj => ?_, Mem.get_set_same _ _ _, h.qd, h.q0, fun j j0 j3 p t hj => ?_, h.apart⟩
  · rw [Mem.get_set_ne _ _ (by rintro rfl; rw [h.q0] at hj; cases hj)]; exact h.ext j b hj
  · obtain ⟨e1, e2, e3, e4, e5, e6⟩ := h.each j j0 j3 p t hj
    exact ⟨by rw [Mem.get_set_ne _ _ e4]; exact e1, e2, e3, e4, e5, e6⟩
theorem hq_cl {σ0 : Mem} {q : Nat} {i : Int} {P : Int → Option (Nat × Pl)} {cl cl' : Int → Int} {G : Int → Bool} {τ : Mem} (h : Hq N C σ0 q i P cl A G τ) {k : Int} (hk : P k = none) (hc : ∀ j, j ≠ k → cl' j = cl j) : Hq N C σ0 q i P cl' A G τ :=
  ⟨h.i0, h.isA, h.pa, h.gvn, h.ext, h.gq, h.qd, h.q0, fun j j0 j3 p t hj => by
    have := h.each j j0 j3 p t hj
    rw [hc j (by rintro rfl; rw [hk] at hj; cases hj)]; exact this, h.apart⟩

theorem hq_new {σ0 : Mem} {q : Nat} {i k c : Int} {P : Int → Option (Nat × Pl)} {cl : Int → Int} {G : Int → Bool} {τ τ' : Mem} {p : Nat} (hC : C.ok) (h : Hq N C σ0 q i P cl A G τ) (hp : τ.get p = none) (gp : τ'.get p = some ⟨(Pl.new c).l, true⟩) (x : Ext τ τ') (c0 : 0 ≤ c) (c3 : c ≤ 3) (hc : cl k = c) (hk : P k = none) :
    Hq N C σ0 q i (updQ P k (some (p, Pl.new c))) cl A G τ' := by
  have h' := hq_ext h x
  have np : ∀ j, 0 ≤ j → j < 3 → ∀ t, P j ≠ some (p, t) := fun j j0 j3 t hj => by rw [(h.each j j0 j3 p t hj).1] at hp; cases hp
  refine ⟨h'.i0, h'.isA, h'.pa, h'.gvn, h'.ext, h'.gq, h'.qd, h'.q0, fun j j0 j3 p' t' hj => ?_, fun a b a0 a3 b0 b3 p' t' u ha hb => ?_⟩
  · by_cases e : j = k
    · subst e; rw [updQ_same] at hj
      cases hj
      exact ⟨by simpa using gp, h.isA.new hp, h.ext.none hp, (by rintro rfl; rw [h.gq] at hp; cases hp), Pl.new_fine hC c0 c3, hc.symm⟩
    · rw [updQ_ne e] at hj; exact h'.each j j0 j3 p' t' hj
  · by_cases ea : a = k <;> by_cases eb : b = k
    · omega
    · subst ea; rw [updQ_same] at ha; rw [updQ_ne eb] at hb; cases ha; exact absurd hb (np b b0 b3 u)
    · subst eb; rw [updQ_same] at hb; rw [updQ_ne ea] at ha; cases hb; exact absurd ha (np a a0 a3 t')
    · rw [updQ_ne ea] at ha; rw [updQ_ne eb] at hb; exact h'.apart a b a0 a3 b0 b3 p' t' u ha hb
theorem shares5 {J2 R1 : List Value → List (List Value) → Mem → Prop} {s1 s2 : Value} {σ0 : Mem} {q : Nat} {at' i k : Int} {P : Int → Option (Nat × Pl)} {cl : Int → Int} {G : Int → Bool} {τ : Mem} {p : Nat} {t : Pl} (hN : N.ok) (hC : C.ok) (hfr : N.fr σ0)
    (h : Hq N C σ0 q i P cl A G τ) (i1 : i < 400) (k0 : 0 ≤ k) (k3 : k < 3) (hP : P k = some (p, t))
    (hk : ∀ P' A' G' τ', Hq N C σ0 q (i + 1) P' cl A' G' τ' → R1 [s1, s2, .int .i64 at', .slice (some ⟨q, 0, none⟩) C.len.toNat 1, .int .i64 (i + 1)] [N.el C 0, c10 P', cells .i64 3 cl] τ') :
    w_law07_PlaceShares_j5 (fun v x => v = Value.bool true) J2 R1 (w_law07_PlaceShares_j4 (fun v x => v = Value.bool true) J2 R1) [s1, s2, .int .i64 at', .slice (some ⟨q, 0, none⟩) C.len.toNat 1, .int .i64 i, .int .i64 k] [N.el C 0, c10 P, cells .i64 3 cl] τ := by
  obtain ⟨g1, g2, g3, g4, g5, g6⟩ := h.each k k0 k3 p t hP
  have ez : IntKind.i64.wrap (i + 1) = i + 1 := IntWalk.i64_in _ (by have := h.i0; omega)
  have i0 := h.i0
  simp only [w_law07_PlaceShares_j5, w_law07_PlaceShares_j5b, xIxA k0 (show k < (3 : Nat) by omega), c10_sub k0 k3, hP, pV, xMove, xPickT, xPickF, xNil, xFld, xExt0, xExt1, xExt30, xExt31, xExt32, xAdd, xSub, xMul, xEql, xNeq, xLss, xLeq, xGtr, xGeq, xEqPN, xEqNN, xNePN, xNeNN, xEqBB, xNeBB, xNot, xConv, xLen, xMin, xMax, xIfc, xIfT, xIfF, xIfD, xJoinE, xOs, xCs, xFldV, List.getD_cons_zero, List.getD_cons_succ, Nat.zero_add, Nat.reduceAdd, Mem.get_set_same, Mem.set_set, if_true, if_false, Bool.not_true, Bool.not_false, decide_true, decide_false, decide_eq_true_eq, decide_not, Bool.not_eq_true, Bool.false_eq_true, reduceIte, Int.reduceLT, Int.reduceLE, Int.reduceEq, Int.reduceNeg, Int.reduceAdd, Int.reduceSub, locP_e, gBox_a, gBox_i, gBox_b, gBox_p, gLoad_s, gAlloc_s, gStore_a, gStore_i, gStore_b, gStore_p, sub_z, sub_s, lay_z, lay_s, List.length_cons, List.length_nil, Nat.reduceLeDiff, Nat.le_refl, List.drop_zero, List.drop_succ_cons, List.take_succ_cons, List.take_zero, List.drop_nil, List.cons_append, List.nil_append, List.all_cons, List.all_nil, oneB_i, oneB_b, oneB_p, oneB_sl, Bool.and_true, Nat.reduceLT, Nat.lt_irrefl, Nat.zero_lt_one, gBoxE, gBoxC, subE, subEC, subE0, subE1, subE2, subE3, subE4, subE6, subE7, subE8, subC, subC0, subC1, subC2, subC3, subC4, subC5, subC6]
  have hf := g5.fit
  refine c_Place_Step hN hC h.isA (t := t) (pre := []) (post := []) g1 g2 h.pa.ok.w h.pa.n hf (h.pa.op _ hf.cls.1 hf.cls.2) fun τ2 hA2 gp2 k2 => ?_
  obtain ⟨q1, q2, a, q3⟩ := Pl.go (who := 0) hC (by omega) h.pa hf
  have hcls := q3.cls
  rw [show 1000 + i + 1 = 1000 + (i + 1) by omega] at q1
  rcases g5.step (who := 0) hC (by omega) h.pa h.gvn with ⟨d1, d2, d3⟩ | ⟨d1, d2, d3⟩ | ⟨c2, e, d1⟩
  · have hh := hq_go h hfr k0 k3 hP hA2 q1 d3 k2 (some (p, (t.step C 0 A).2.1)) (by rintro p' t' ⟨⟩; exact ⟨rfl, gp2, d2, hcls.trans g6⟩)
    have ep : c10 (updQ P k (some (p, (t.step C 0 A).2.1))) = c10 P := by
      rcases (show k = 0 ∨ k = 1 ∨ k = 2 by omega) with rfl | rfl | rfl <;> simp [c10, updQ, hP, pV]
    have := hk _ _ _ _ hh
    rw [ep] at this
    simp only [d1, w_law07_PlaceShares_j4, w_law07_PlaceShares_j4b, ez, xMove, xPickT, xPickF, xNil, xFld, xExt0, xExt1, xExt30, xExt31, xExt32, xAdd, xSub, xMul, xEql, xNeq, xLss, xLeq, xGtr, xGeq, xEqPN, xEqNN, xNePN, xNeNN, xEqBB, xNeBB, xNot, xConv, xLen, xMin, xMax, xIfc, xIfT, xIfF, xIfD, xJoinE, xOs, xCs, xFldV, List.getD_cons_zero, List.getD_cons_succ, Nat.zero_add, Nat.reduceAdd, Mem.get_set_same, Mem.set_set, if_true, if_false, Bool.not_true, Bool.not_false, decide_true, decide_false, decide_eq_true_eq, decide_not, Bool.not_eq_true, Bool.false_eq_true, reduceIte, Int.reduceLT, Int.reduceLE, Int.reduceEq, Int.reduceNeg, Int.reduceAdd, Int.reduceSub, locP_e, gBox_a, gBox_i, gBox_b, gBox_p, gLoad_s, gAlloc_s, gStore_a, gStore_i, gStore_b, gStore_p, sub_z, sub_s, lay_z, lay_s, List.length_cons, List.length_nil, Nat.reduceLeDiff, Nat.le_refl, List.drop_zero, List.drop_succ_cons, List.take_succ_cons, List.take_zero, List.drop_nil, List.cons_append, List.nil_append, List.all_cons, List.all_nil, oneB_i, oneB_b, oneB_p, oneB_sl, Bool.and_true, Nat.reduceLT, Nat.lt_irrefl, Nat.zero_lt_one, gBoxE, gBoxC, subE, subEC, subE0, subE1, subE2, subE3, subE4, subE6, subE7, subE8, subC, subC0, subC1, subC2, subC3, subC4, subC5, subC6]
    exact this
  · have hh := hq_go h hfr k0 k3 hP hA2 q1 d3 k2 none (by rintro p' t' ⟨⟩)
    simp only [d1, xIxA k0 (show k < (3 : Nat) by omega), c10_sub k0 k3, hP, pV, xMove, xPickT, xPickF, xNil, xFld, xExt0, xExt1, xExt30, xExt31, xExt32, xAdd, xSub, xMul, xEql, xNeq, xLss, xLeq, xGtr, xGeq, xEqPN, xEqNN, xNePN, xNeNN, xEqBB, xNeBB, xNot, xConv, xLen, xMin, xMax, xIfc, xIfT, xIfF, xIfD, xJoinE, xOs, xCs, xFldV, List.getD_cons_zero, List.getD_cons_succ, Nat.zero_add, Nat.reduceAdd, Mem.get_set_same, Mem.set_set, if_true, if_false, Bool.not_true, Bool.not_false, decide_true, decide_false, decide_eq_true_eq, decide_not, Bool.not_eq_true, Bool.false_eq_true, reduceIte, Int.reduceLT, Int.reduceLE, Int.reduceEq, Int.reduceNeg, Int.reduceAdd, Int.reduceSub, locP_e, gBox_a, gBox_i, gBox_b, gBox_p, gLoad_s, gAlloc_s, gStore_a, gStore_i, gStore_b, gStore_p, sub_z, sub_s, lay_z, lay_s, List.length_cons, List.length_nil, Nat.reduceLeDiff, Nat.le_refl, List.drop_zero, List.drop_succ_cons, List.take_succ_cons, List.take_zero, List.drop_nil, List.cons_append, List.nil_append, List.all_cons, List.all_nil, oneB_i, oneB_b, oneB_p, oneB_sl, Bool.and_true, Nat.reduceLT, Nat.lt_irrefl, Nat.zero_lt_one, gBoxE, gBoxC, subE, subEC, subE0, subE1, subE2, subE3, subE4, subE6, subE7, subE8, subC, subC0, subC1, subC2, subC3, subC4, subC5, subC6]
    refine c_Place_Spot hA2 (pre := []) (post := []) gp2 g2 ?_
    have sp := c10_set (P := P) (x := none) k0 k3
    simp only [pV] at sp
    simp only [d2, sp, w_law07_PlaceShares_j4, w_law07_PlaceShares_j4b, ez, xMove, xPickT, xPickF, xNil, xFld, xExt0, xExt1, xExt30, xExt31, xExt32, xAdd, xSub, xMul, xEql, xNeq, xLss, xLeq, xGtr, xGeq, xEqPN, xEqNN, xNePN, xNeNN, xEqBB, xNeBB, xNot, xConv, xLen, xMin, xMax, xIfc, xIfT, xIfF, xIfD, xJoinE, xOs, xCs, xFldV, List.getD_cons_zero, List.getD_cons_succ, Nat.zero_add, Nat.reduceAdd, Mem.get_set_same, Mem.set_set, if_true, if_false, Bool.not_true, Bool.not_false, decide_true, decide_false, decide_eq_true_eq, decide_not, Bool.not_eq_true, Bool.false_eq_true, reduceIte, Int.reduceLT, Int.reduceLE, Int.reduceEq, Int.reduceNeg, Int.reduceAdd, Int.reduceSub, locP_e, gBox_a, gBox_i, gBox_b, gBox_p, gLoad_s, gAlloc_s, gStore_a, gStore_i, gStore_b, gStore_p, sub_z, sub_s, lay_z, lay_s, List.length_cons, List.length_nil, Nat.reduceLeDiff, Nat.le_refl, List.drop_zero, List.drop_succ_cons, List.take_succ_cons, List.take_zero, List.drop_nil, List.cons_append, List.nil_append, List.all_cons, List.all_nil, oneB_i, oneB_b, oneB_p, oneB_sl, Bool.and_true, Nat.reduceLT, Nat.lt_irrefl, Nat.zero_lt_one, gBoxE, gBoxC, subE, subEC, subE0, subE1, subE2, subE3, subE4, subE6, subE7, subE8, subC, subC0, subC1, subC2, subC3, subC4, subC5, subC6]
    exact hk _ _ _ _ hh
  · obtain ⟨e1, e2, e3, e4, e5, e6, e7, e8, e9⟩ := Gvn.got (who := 0) hC (by omega) h.pa g5 h.gvn c2 e
    simp only [d1, xIxA k0 (show k < (3 : Nat) by omega), c10_sub k0 k3, hP, pV, xMove, xPickT, xPickF, xNil, xFld, xExt0, xExt1, xExt30, xExt31, xExt32, xAdd, xSub, xMul, xEql, xNeq, xLss, xLeq, xGtr, xGeq, xEqPN, xEqNN, xNePN, xNeNN, xEqBB, xNeBB, xNot, xConv, xLen, xMin, xMax, xIfc, xIfT, xIfF, xIfD, xJoinE, xOs, xCs, xFldV, List.getD_cons_zero, List.getD_cons_succ, Nat.zero_add, Nat.reduceAdd, Mem.get_set_same, Mem.set_set, if_true, if_false, Bool.not_true, Bool.not_false, decide_true, decide_false, decide_eq_true_eq, decide_not, Bool.not_eq_true, Bool.false_eq_true, reduceIte, Int.reduceLT, Int.reduceLE, Int.reduceEq, Int.reduceNeg, Int.reduceAdd, Int.reduceSub, locP_e, gBox_a, gBox_i, gBox_b, gBox_p, gLoad_s, gAlloc_s, gStore_a, gStore_i, gStore_b, gStore_p, sub_z, sub_s, lay_z, lay_s, List.length_cons, List.length_nil, Nat.reduceLeDiff, Nat.le_refl, List.drop_zero, List.drop_succ_cons, List.take_succ_cons, List.take_zero, List.drop_nil, List.cons_append, List.nil_append, List.all_cons, List.all_nil, oneB_i, oneB_b, oneB_p, oneB_sl, Bool.and_true, Nat.reduceLT, Nat.lt_irrefl, Nat.zero_lt_one, gBoxE, gBoxC, subE, subEC, subE0, subE1, subE2, subE3, subE4, subE6, subE7, subE8, subC, subC0, subC1, subC2, subC3, subC4, subC5, subC6]
    refine c_Place_Spot hA2 (pre := []) (post := []) gp2 g2 ?_
    have sp := c10_set (P := P) (x := none) k0 k3
    simp only [pV] at sp
    simp only [e1, e2, e3, sp, xMove, xPickT, xPickF, xNil, xFld, xExt0, xExt1, xExt30, xExt31, xExt32, xAdd, xSub, xMul, xEql, xNeq, xLss, xLeq, xGtr, xGeq, xEqPN, xEqNN, xNePN, xNeNN, xEqBB, xNeBB, xNot, xConv, xLen, xMin, xMax, xIfc, xIfT, xIfF, xIfD, xJoinE, xOs, xCs, xFldV, List.getD_cons_zero, List.getD_cons_succ, Nat.zero_add, Nat.reduceAdd, Mem.get_set_same, Mem.set_set, if_true, if_false, Bool.not_true, Bool.not_false, decide_true, decide_false, decide_eq_true_eq, decide_not, Bool.not_eq_true, Bool.false_eq_true, reduceIte, Int.reduceLT, Int.reduceLE, Int.reduceEq, Int.reduceNeg, Int.reduceAdd, Int.reduceSub, locP_e, gBox_a, gBox_i, gBox_b, gBox_p, gLoad_s, gAlloc_s, gStore_a, gStore_i, gStore_b, gStore_p, sub_z, sub_s, lay_z, lay_s, List.length_cons, List.length_nil, Nat.reduceLeDiff, Nat.le_refl, List.drop_zero, List.drop_succ_cons, List.take_succ_cons, List.take_zero, List.drop_nil, List.cons_append, List.nil_append, List.all_cons, List.all_nil, oneB_i, oneB_b, oneB_p, oneB_sl, Bool.and_true, Nat.reduceLT, Nat.lt_irrefl, Nat.zero_lt_one, gBoxE, gBoxC, subE, subEC, subE0, subE1, subE2, subE3, subE4, subE6, subE7, subE8, subC, subC0, subC1, subC2, subC3, subC4, subC5, subC6]
    have hC3 := hC.C
    have hW := hC.W
    have hl := len_bd hC
    have f3 := hf.at'
    have f1 := hf.cls
    have hcb := chunk_bd hC f3.1 f3.2 q1.n
    have hu := chU_bd t.w
    have hr := room_bd f1.1 f1.2
    obtain ⟨s1', s2', s3'⟩ := g5.see c2
    have hbb := base_bd hC f3.1 (by omega)
    have b0 := base_of hC f3.1 f3.2 (i := chU t.w) (by omega) (by omega)
    have b1 := base_of hC f3.1 f3.2 (i := chU t.w + roomOf t.cls - 1) (by omega) (by omega)
    rw [show C.base t.at' + (chU t.w + roomOf t.cls - 1) = C.base t.at' + chU t.w + roomOf t.cls - 1 by omega] at b1
    rw [c_Chunk hC f3.1 (by omega), c_PeekA hN hA2 hcb.1 hcb.2, c_wChunk (q1.ok.w _).1 (q1.ok.w _).2]
    simp only [gStoreH2, c11_sub k0 k3, xMove, xPickT, xPickF, xNil, xFld, xExt0, xExt1, xExt30, xExt31, xExt32, xAdd, xSub, xMul, xEql, xNeq, xLss, xLeq, xGtr, xGeq, xEqPN, xEqNN, xNePN, xNeNN, xEqBB, xNeBB, xNot, xConv, xLen, xMin, xMax, xIfc, xIfT, xIfF, xIfD, xJoinE, xOs, xCs, xFldV, List.getD_cons_zero, List.getD_cons_succ, Nat.zero_add, Nat.reduceAdd, Mem.get_set_same, Mem.set_set, if_true, if_false, Bool.not_true, Bool.not_false, decide_true, decide_false, decide_eq_true_eq, decide_not, Bool.not_eq_true, Bool.false_eq_true, reduceIte, Int.reduceLT, Int.reduceLE, Int.reduceEq, Int.reduceNeg, Int.reduceAdd, Int.reduceSub, locP_e, gBox_a, gBox_i, gBox_b, gBox_p, gLoad_s, gAlloc_s, gStore_a, gStore_i, gStore_b, gStore_p, sub_z, sub_s, lay_z, lay_s, List.length_cons, List.length_nil, Nat.reduceLeDiff, Nat.le_refl, List.drop_zero, List.drop_succ_cons, List.take_succ_cons, List.take_zero, List.drop_nil, List.cons_append, List.nil_append, List.all_cons, List.all_nil, oneB_i, oneB_b, oneB_p, oneB_sl, Bool.and_true, Nat.reduceLT, Nat.lt_irrefl, Nat.zero_lt_one, gBoxE, gBoxC, subE, subEC, subE0, subE1, subE2, subE3, subE4, subE6, subE7, subE8, subC, subC0, subC1, subC2, subC3, subC4, subC5, subC6]
    rw [← g6]
    refine c_rRoom f1.1 f1.2 fun τ3 x3 => ?_
    have hA3 := hA2.ext x3
    simp only [e5, e6, e7, xMove, xPickT, xPickF, xNil, xFld, xExt0, xExt1, xExt30, xExt31, xExt32, xAdd, xSub, xMul, xEql, xNeq, xLss, xLeq, xGtr, xGeq, xEqPN, xEqNN, xNePN, xNeNN, xEqBB, xNeBB, xNot, xConv, xLen, xMin, xMax, xIfc, xIfT, xIfF, xIfD, xJoinE, xOs, xCs, xFldV, List.getD_cons_zero, List.getD_cons_succ, Nat.zero_add, Nat.reduceAdd, Mem.get_set_same, Mem.set_set, if_true, if_false, Bool.not_true, Bool.not_false, decide_true, decide_false, decide_eq_true_eq, decide_not, Bool.not_eq_true, Bool.false_eq_true, reduceIte, Int.reduceLT, Int.reduceLE, Int.reduceEq, Int.reduceNeg, Int.reduceAdd, Int.reduceSub, locP_e, gBox_a, gBox_i, gBox_b, gBox_p, gLoad_s, gAlloc_s, gStore_a, gStore_i, gStore_b, gStore_p, sub_z, sub_s, lay_z, lay_s, List.length_cons, List.length_nil, Nat.reduceLeDiff, Nat.le_refl, List.drop_zero, List.drop_succ_cons, List.take_succ_cons, List.take_zero, List.drop_nil, List.cons_append, List.nil_append, List.all_cons, List.all_nil, oneB_i, oneB_b, oneB_p, oneB_sl, Bool.and_true, Nat.reduceLT, Nat.lt_irrefl, Nat.zero_lt_one, gBoxE, gBoxC, subE, subEC, subE0, subE1, subE2, subE3, subE4, subE6, subE7, subE8, subC, subC0, subC1, subC2, subC3, subC4, subC5, subC6]
    rw [c_Of hC (by omega)]
    simp only [b0.1, xMove, xPickT, xPickF, xNil, xFld, xExt0, xExt1, xExt30, xExt31, xExt32, xAdd, xSub, xMul, xEql, xNeq, xLss, xLeq, xGtr, xGeq, xEqPN, xEqNN, xNePN, xNeNN, xEqBB, xNeBB, xNot, xConv, xLen, xMin, xMax, xIfc, xIfT, xIfF, xIfD, xJoinE, xOs, xCs, xFldV, List.getD_cons_zero, List.getD_cons_succ, Nat.zero_add, Nat.reduceAdd, Mem.get_set_same, Mem.set_set, if_true, if_false, Bool.not_true, Bool.not_false, decide_true, decide_false, decide_eq_true_eq, decide_not, Bool.not_eq_true, Bool.false_eq_true, reduceIte, Int.reduceLT, Int.reduceLE, Int.reduceEq, Int.reduceNeg, Int.reduceAdd, Int.reduceSub, locP_e, gBox_a, gBox_i, gBox_b, gBox_p, gLoad_s, gAlloc_s, gStore_a, gStore_i, gStore_b, gStore_p, sub_z, sub_s, lay_z, lay_s, List.length_cons, List.length_nil, Nat.reduceLeDiff, Nat.le_refl, List.drop_zero, List.drop_succ_cons, List.take_succ_cons, List.take_zero, List.drop_nil, List.cons_append, List.nil_append, List.all_cons, List.all_nil, oneB_i, oneB_b, oneB_p, oneB_sl, Bool.and_true, Nat.reduceLT, Nat.lt_irrefl, Nat.zero_lt_one, gBoxE, gBoxC, subE, subEC, subE0, subE1, subE2, subE3, subE4, subE6, subE7, subE8, subC, subC0, subC1, subC2, subC3, subC4, subC5, subC6]
    rw [IntWalk.i64_in (C.base t.at' + chU t.w + roomOf t.cls) (by omega), IntWalk.i64_in (C.base t.at' + chU t.w + roomOf t.cls - 1) (by omega), c_Of hC (by omega)]
    simp only [b1.1, xMove, xPickT, xPickF, xNil, xFld, xExt0, xExt1, xExt30, xExt31, xExt32, xAdd, xSub, xMul, xEql, xNeq, xLss, xLeq, xGtr, xGeq, xEqPN, xEqNN, xNePN, xNeNN, xEqBB, xNeBB, xNot, xConv, xLen, xMin, xMax, xIfc, xIfT, xIfF, xIfD, xJoinE, xOs, xCs, xFldV, List.getD_cons_zero, List.getD_cons_succ, Nat.zero_add, Nat.reduceAdd, Mem.get_set_same, Mem.set_set, if_true, if_false, Bool.not_true, Bool.not_false, decide_true, decide_false, decide_eq_true_eq, decide_not, Bool.not_eq_true, Bool.false_eq_true, reduceIte, Int.reduceLT, Int.reduceLE, Int.reduceEq, Int.reduceNeg, Int.reduceAdd, Int.reduceSub, locP_e, gBox_a, gBox_i, gBox_b, gBox_p, gLoad_s, gAlloc_s, gStore_a, gStore_i, gStore_b, gStore_p, sub_z, sub_s, lay_z, lay_s, List.length_cons, List.length_nil, Nat.reduceLeDiff, Nat.le_refl, List.drop_zero, List.drop_succ_cons, List.take_succ_cons, List.take_zero, List.drop_nil, List.cons_append, List.nil_append, List.all_cons, List.all_nil, oneB_i, oneB_b, oneB_p, oneB_sl, Bool.and_true, Nat.reduceLT, Nat.lt_irrefl, Nat.zero_lt_one, gBoxE, gBoxC, subE, subEC, subE0, subE1, subE2, subE3, subE4, subE6, subE7, subE8, subC, subC0, subC1, subC2, subC3, subC4, subC5, subC6]
    rw [c_Base hC f3.1 (by omega)]
    simp only [xMove, xPickT, xPickF, xNil, xFld, xExt0, xExt1, xExt30, xExt31, xExt32, xAdd, xSub, xMul, xEql, xNeq, xLss, xLeq, xGtr, xGeq, xEqPN, xEqNN, xNePN, xNeNN, xEqBB, xNeBB, xNot, xConv, xLen, xMin, xMax, xIfc, xIfT, xIfF, xIfD, xJoinE, xOs, xCs, xFldV, List.getD_cons_zero, List.getD_cons_succ, Nat.zero_add, Nat.reduceAdd, Mem.get_set_same, Mem.set_set, if_true, if_false, Bool.not_true, Bool.not_false, decide_true, decide_false, decide_eq_true_eq, decide_not, Bool.not_eq_true, Bool.false_eq_true, reduceIte, Int.reduceLT, Int.reduceLE, Int.reduceEq, Int.reduceNeg, Int.reduceAdd, Int.reduceSub, locP_e, gBox_a, gBox_i, gBox_b, gBox_p, gLoad_s, gAlloc_s, gStore_a, gStore_i, gStore_b, gStore_p, sub_z, sub_s, lay_z, lay_s, List.length_cons, List.length_nil, Nat.reduceLeDiff, Nat.le_refl, List.drop_zero, List.drop_succ_cons, List.take_succ_cons, List.take_zero, List.drop_nil, List.cons_append, List.nil_append, List.all_cons, List.all_nil, oneB_i, oneB_b, oneB_p, oneB_sl, Bool.and_true, Nat.reduceLT, Nat.lt_irrefl, Nat.zero_lt_one, gBoxE, gBoxC, subE, subEC, subE0, subE1, subE2, subE3, subE4, subE6, subE7, subE8, subC, subC0, subC1, subC2, subC3, subC4, subC5, subC6]
    rw [IntWalk.i64_in (C.base t.at' + chU t.w + roomOf t.cls - C.base t.at') (by omega)]
    have q5 : ¬ chU t.w + roomOf t.cls < C.base t.at' + chU t.w + roomOf t.cls - C.base t.at' := by omega
    simp only [q5, w_law07_PlaceShares_j6, w_law07_PlaceShares_j6b, xMove, xPickT, xPickF, xNil, xFld, xExt0, xExt1, xExt30, xExt31, xExt32, xAdd, xSub, xMul, xEql, xNeq, xLss, xLeq, xGtr, xGeq, xEqPN, xEqNN, xNePN, xNeNN, xEqBB, xNeBB, xNot, xConv, xLen, xMin, xMax, xIfc, xIfT, xIfF, xIfD, xJoinE, xOs, xCs, xFldV, List.getD_cons_zero, List.getD_cons_succ, Nat.zero_add, Nat.reduceAdd, Mem.get_set_same, Mem.set_set, if_true, if_false, Bool.not_true, Bool.not_false, decide_true, decide_false, decide_eq_true_eq, decide_not, Bool.not_eq_true, Bool.false_eq_true, reduceIte, Int.reduceLT, Int.reduceLE, Int.reduceEq, Int.reduceNeg, Int.reduceAdd, Int.reduceSub, locP_e, gBox_a, gBox_i, gBox_b, gBox_p, gLoad_s, gAlloc_s, gStore_a, gStore_i, gStore_b, gStore_p, sub_z, sub_s, lay_z, lay_s, List.length_cons, List.length_nil, Nat.reduceLeDiff, Nat.le_refl, List.drop_zero, List.drop_succ_cons, List.take_succ_cons, List.take_zero, List.drop_nil, List.cons_append, List.nil_append, List.all_cons, List.all_nil, oneB_i, oneB_b, oneB_p, oneB_sl, Bool.and_true, Nat.reduceLT, Nat.lt_irrefl, Nat.zero_lt_one, gBoxE, gBoxC, subE, subEC, subE0, subE1, subE2, subE3, subE4, subE6, subE7, subE8, subC, subC0, subC1, subC2, subC3, subC4, subC5, subC6]
    have hh := hq_ext (hq_go h hfr k0 k3 hP hA2 q1 (e9 G fun a ha => .inl ha) k2 none (by rintro p' t' ⟨⟩)) x3
    have hcl : (C.len.toNat : Int) = C.len := by omega
    generalize hsa : C.base t.at' + chU t.w = sa at *
    generalize (t.step C 0 A).2.2 = A' at *
    refine xLoop_i (fun x => [s1, s2, .int .i64 at', .slice (some ⟨q, 0, none⟩) C.len.toNat 1, .int .i64 i, .int .i64 (roomOf t.cls), .int .i64 x]) [N.el C 0, c10 (updQ P k none), cells .i64 3 cl, [.int .i64 sa, .int .i64 t.at']] (roomOf t.cls)
      (fun x τ => ∃ G', 0 ≤ x ∧ x ≤ roomOf t.cls ∧ Hq N C σ0 q (i + 1) (updQ P k none) cl A' G' τ ∧ (∀ y, x ≤ y → y < roomOf t.cls → G' (sa + y) = false) ∧ ∀ a, G' a = true → G a = true ∨ sa ≤ a ∧ a < sa + roomOf t.cls) ?_ ⟨G, by omega, by omega, hh, fun y y0 y1 => e8 y y0 y1, fun a ha => .inl ha⟩
    rintro x τ4 ⟨G', x0, x1, h4, f4, w4⟩ R hR
    simp only [w_law07_PlaceShares_l26, w_law07_PlaceShares_l26b, xMove, xPickT, xPickF, xNil, xFld, xExt0, xExt1, xExt30, xExt31, xExt32, xAdd, xSub, xMul, xEql, xNeq, xLss, xLeq, xGtr, xGeq, xEqPN, xEqNN, xNePN, xNeNN, xEqBB, xNeBB, xNot, xConv, xLen, xMin, xMax, xIfc, xIfT, xIfF, xIfD, xJoinE, xOs, xCs, xFldV, List.getD_cons_zero, List.getD_cons_succ, Nat.zero_add, Nat.reduceAdd, Mem.get_set_same, Mem.set_set, if_true, if_false, Bool.not_true, Bool.not_false, decide_true, decide_false, decide_eq_true_eq, decide_not, Bool.not_eq_true, Bool.false_eq_true, reduceIte, Int.reduceLT, Int.reduceLE, Int.reduceEq, Int.reduceNeg, Int.reduceAdd, Int.reduceSub, locP_e, gBox_a, gBox_i, gBox_b, gBox_p, gLoad_s, gAlloc_s, gStore_a, gStore_i, gStore_b, gStore_p, sub_z, sub_s, lay_z, lay_s, List.length_cons, List.length_nil, Nat.reduceLeDiff, Nat.le_refl, List.drop_zero, List.drop_succ_cons, List.take_succ_cons, List.take_zero, List.drop_nil, List.cons_append, List.nil_append, List.all_cons, List.all_nil, oneB_i, oneB_b, oneB_p, oneB_sl, Bool.and_true, Nat.reduceLT, Nat.lt_irrefl, Nat.zero_lt_one, gBoxE, gBoxC, subE, subEC, subE0, subE1, subE2, subE3, subE4, subE6, subE7, subE8, subC, subC0, subC1, subC2, subC3, subC4, subC5, subC6]
    by_cases cx : x < roomOf t.cls
    · rw [if_pos cx, IntWalk.i64_in (sa + x) (by omega), xIxS (by omega) (by omega)]
      simp only [xMove, xPickT, xPickF, xNil, xFld, xExt0, xExt1, xExt30, xExt31, xExt32, xAdd, xSub, xMul, xEql, xNeq, xLss, xLeq, xGtr, xGeq, xEqPN, xEqNN, xNePN, xNeNN, xEqBB, xNeBB, xNot, xConv, xLen, xMin, xMax, xIfc, xIfT, xIfF, xIfD, xJoinE, xOs, xCs, xFldV, List.getD_cons_zero, List.getD_cons_succ, Nat.zero_add, Nat.reduceAdd, Mem.get_set_same, Mem.set_set, if_true, if_false, Bool.not_true, Bool.not_false, decide_true, decide_false, decide_eq_true_eq, decide_not, Bool.not_eq_true, Bool.false_eq_true, reduceIte, Int.reduceLT, Int.reduceLE, Int.reduceEq, Int.reduceNeg, Int.reduceAdd, Int.reduceSub, locP_e, gBox_a, gBox_i, gBox_b, gBox_p, gLoad_s, gAlloc_s, gStore_a, gStore_i, gStore_b, gStore_p, sub_z, sub_s, lay_z, lay_s, List.length_cons, List.length_nil, Nat.reduceLeDiff, Nat.le_refl, List.drop_zero, List.drop_succ_cons, List.take_succ_cons, List.take_zero, List.drop_nil, List.cons_append, List.nil_append, List.all_cons, List.all_nil, oneB_i, oneB_b, oneB_p, oneB_sl, Bool.and_true, Nat.reduceLT, Nat.lt_irrefl, Nat.zero_lt_one, gBoxE, gBoxC, subE, subEC, subE0, subE1, subE2, subE3, subE4, subE6, subE7, subE8, subC, subC0, subC1, subC2, subC3, subC4, subC5, subC6]
      rw [ldCellsB h4.gq (by omega) (by omega), f4 x (Int.le_refl _) cx]
      simp only [xIfB, xMove, xPickT, xPickF, xNil, xFld, xExt0, xExt1, xExt30, xExt31, xExt32, xAdd, xSub, xMul, xEql, xNeq, xLss, xLeq, xGtr, xGeq, xEqPN, xEqNN, xNePN, xNeNN, xEqBB, xNeBB, xNot, xConv, xLen, xMin, xMax, xIfc, xIfT, xIfF, xIfD, xJoinE, xOs, xCs, xFldV, List.getD_cons_zero, List.getD_cons_succ, Nat.zero_add, Nat.reduceAdd, Mem.get_set_same, Mem.set_set, if_true, if_false, Bool.not_true, Bool.not_false, decide_true, decide_false, decide_eq_true_eq, decide_not, Bool.not_eq_true, Bool.false_eq_true, reduceIte, Int.reduceLT, Int.reduceLE, Int.reduceEq, Int.reduceNeg, Int.reduceAdd, Int.reduceSub, locP_e, gBox_a, gBox_i, gBox_b, gBox_p, gLoad_s, gAlloc_s, gStore_a, gStore_i, gStore_b, gStore_p, sub_z, sub_s, lay_z, lay_s, List.length_cons, List.length_nil, Nat.reduceLeDiff, Nat.le_refl, List.drop_zero, List.drop_succ_cons, List.take_succ_cons, List.take_zero, List.drop_nil, List.cons_append, List.nil_append, List.all_cons, List.all_nil, oneB_i, oneB_b, oneB_p, oneB_sl, Bool.and_true, Nat.reduceLT, Nat.lt_irrefl, Nat.zero_lt_one, gBoxE, gBoxC, subE, subEC, subE0, subE1, subE2, subE3, subE4, subE6, subE7, subE8, subC, subC0, subC1, subC2, subC3, subC4, subC5, subC6]
      rw [xIxS (by omega) (by omega)]
      simp only [xMove, xPickT, xPickF, xNil, xFld, xExt0, xExt1, xExt30, xExt31, xExt32, xAdd, xSub, xMul, xEql, xNeq, xLss, xLeq, xGtr, xGeq, xEqPN, xEqNN, xNePN, xNeNN, xEqBB, xNeBB, xNot, xConv, xLen, xMin, xMax, xIfc, xIfT, xIfF, xIfD, xJoinE, xOs, xCs, xFldV, List.getD_cons_zero, List.getD_cons_succ, Nat.zero_add, Nat.reduceAdd, Mem.get_set_same, Mem.set_set, if_true, if_false, Bool.not_true, Bool.not_false, decide_true, decide_false, decide_eq_true_eq, decide_not, Bool.not_eq_true, Bool.false_eq_true, reduceIte, Int.reduceLT, Int.reduceLE, Int.reduceEq, Int.reduceNeg, Int.reduceAdd, Int.reduceSub, locP_e, gBox_a, gBox_i, gBox_b, gBox_p, gLoad_s, gAlloc_s, gStore_a, gStore_i, gStore_b, gStore_p, sub_z, sub_s, lay_z, lay_s, List.length_cons, List.length_nil, Nat.reduceLeDiff, Nat.le_refl, List.drop_zero, List.drop_succ_cons, List.take_succ_cons, List.take_zero, List.drop_nil, List.cons_append, List.nil_append, List.all_cons, List.all_nil, oneB_i, oneB_b, oneB_p, oneB_sl, Bool.and_true, Nat.reduceLT, Nat.lt_irrefl, Nat.zero_lt_one, gBoxE, gBoxC, subE, subEC, subE0, subE1, subE2, subE3, subE4, subE6, subE7, subE8, subC, subC0, subC1, subC2, subC3, subC4, subC5, subC6]
      rw [stCellsB h4.gq (by omega) (by omega), IntWalk.i64_in (x + 1) (by omega)]
      have w5 : ∀ a, updB G' (sa + x) true a = true → G a = true ∨ sa ≤ a ∧ a < sa + roomOf t.cls := by
        intro a ha
        by_cases e : a = sa + x
        · subst e; right; omega
        · exact w4 a (by simpa [updB, e] using ha)
      refine hR _ cx ⟨_, by omega, by omega, hq_set h4 (e9 _ w5), fun y y0 y1 => ?_, w5⟩
      have : sa + y ≠ sa + x := by omega
      simp only [updB, this, if_false]
      exact f4 y (by omega) y1
    · rw [if_neg cx]
      simp only [w_law07_PlaceShares_j4, w_law07_PlaceShares_j4b, ez, xMove, xPickT, xPickF, xNil, xFld, xExt0, xExt1, xExt30, xExt31, xExt32, xAdd, xSub, xMul, xEql, xNeq, xLss, xLeq, xGtr, xGeq, xEqPN, xEqNN, xNePN, xNeNN, xEqBB, xNeBB, xNot, xConv, xLen, xMin, xMax, xIfc, xIfT, xIfF, xIfD, xJoinE, xOs, xCs, xFldV, List.getD_cons_zero, List.getD_cons_succ, Nat.zero_add, Nat.reduceAdd, Mem.get_set_same, Mem.set_set, if_true, if_false, Bool.not_true, Bool.not_false, decide_true, decide_false, decide_eq_true_eq, decide_not, Bool.not_eq_true, Bool.false_eq_true, reduceIte, Int.reduceLT, Int.reduceLE, Int.reduceEq, Int.reduceNeg, Int.reduceAdd, Int.reduceSub, locP_e, gBox_a, gBox_i, gBox_b, gBox_p, gLoad_s, gAlloc_s, gStore_a, gStore_i, gStore_b, gStore_p, sub_z, sub_s, lay_z, lay_s, List.length_cons, List.length_nil, Nat.reduceLeDiff, Nat.le_refl, List.drop_zero, List.drop_succ_cons, List.take_succ_cons, List.take_zero, List.drop_nil, List.cons_append, List.nil_append, List.all_cons, List.all_nil, oneB_i, oneB_b, oneB_p, oneB_sl, Bool.and_true, Nat.reduceLT, Nat.lt_irrefl, Nat.zero_lt_one, gBoxE, gBoxC, subE, subEC, subE0, subE1, subE2, subE3, subE4, subE6, subE7, subE8, subC, subC0, subC1, subC2, subC3, subC4, subC5, subC6]
      exact hk _ _ _ _ h4

theorem tmod3 (a : Int) : -3 < a.tmod 3 ∧ a.tmod 3 < 3 := by
  rcases Int.le_total 0 a with h | h
  · rw [Int.tmod_eq_emod_of_nonneg h]; omega
  · obtain ⟨b, rfl⟩ : ∃ b, a = -b := ⟨-a, by omega⟩
    rw [Int.neg_tmod, Int.tmod_eq_emod_of_nonneg (by omega)]; omega
theorem pick3 (a : Int) : IntKind.i64.wrap (a.tmod 3 + 3) = a.tmod 3 + 3 ∧ 0 ≤ (a.tmod 3 + 3).tmod 3 ∧ (a.tmod 3 + 3).tmod 3 < 3 := by
  have := tmod3 a
  refine ⟨IntWalk.i64_in _ (by omega), ?_⟩
  rw [Int.tmod_eq_emod_of_nonneg (by omega)]; omega

theorem law_PlaceShares (σ : Mem) (a0 : Int) (w0 : (Lit.int .i64 a0).wf = true) (s1 : Value) (len1 : Nat) (cs1 : List Value) (sl1 : Sl σ 1 len1 cs1 s1) (hm1 : len1 ≤ maxLen) (hf1 : FlatL (List.replicate len1 [some .i64]).flatten cs1)
    (s2 : Value) (len2 : Nat) (cs2 : List Value) (sl2 : Sl σ 1 len2 cs2 s2) (hm2 : len2 ≤ maxLen) (hf2 : FlatL (List.replicate len2 [some .i64]).flatten cs2) :
    s_law07_PlaceShares [.int .i64 a0, s1, s2] (fun v _ => v = .bool true) σ := by
  obtain ⟨g1, hg1, _⟩ := sl1.argI hf1
  obtain ⟨g2, hg2, _⟩ := sl2.argI hf2
  simp only [s_law07_PlaceShares, w_law07_PlaceShares, andI7, xMove, xPickT, xPickF, xNil, xFld, xExt0, xExt1, xExt30, xExt31, xExt32, xAdd, xSub, xMul, xEql, xNeq, xLss, xLeq, xGtr, xGeq, xEqPN, xEqNN, xNePN, xNeNN, xEqBB, xNeBB, xNot, xConv, xLen, xMin, xMax, xIfc, xIfT, xIfF, xIfD, xJoinE, xOs, xCs, xFldV, List.getD_cons_zero, List.getD_cons_succ, Nat.zero_add, Nat.reduceAdd, Mem.get_set_same, Mem.set_set, if_true, if_false, Bool.not_true, Bool.not_false, decide_true, decide_false, decide_eq_true_eq, decide_not, Bool.not_eq_true, Bool.false_eq_true, reduceIte, Int.reduceLT, Int.reduceLE, Int.reduceEq, Int.reduceNeg, Int.reduceAdd, Int.reduceSub, locP_e, gBox_a, gBox_i, gBox_b, gBox_p, gLoad_s, gAlloc_s, gStore_a, gStore_i, gStore_b, gStore_p, sub_z, sub_s, lay_z, lay_s, List.length_cons, List.length_nil, Nat.reduceLeDiff, Nat.le_refl, List.drop_zero, List.drop_succ_cons, List.take_succ_cons, List.take_zero, List.drop_nil, List.cons_append, List.nil_append, List.all_cons, List.all_nil, oneB_i, oneB_b, oneB_p, oneB_sl, Bool.and_true, Nat.reduceLT, Nat.lt_irrefl, Nat.zero_lt_one, gBoxE, gBoxC, subE, subEC, subE0, subE1, subE2, subE3, subE4, subE6, subE7, subE8, subC, subC0, subC1, subC2, subC3, subC4, subC5, subC6]
  have hn : 1 ≤ 1 + a0 % 8 ∧ 1 + a0 % 8 ≤ 8 := by omega
  generalize 1 + a0 % 8 = n at hn
  rw [IntWalk.i64_in n (by omega)]
  have hC : (cA 4 1 n 20).ok := cA_ok (by omega) (by omega) (by omega) (by omega)
  have hS : (cA 4 1 n 20).S = 1 := rfl
  refine c_Arena (C := cA 4 1 n 20) hC rfl rfl rfl fun N A τ hN hF hA hE hfr => ?_
  have ok : A.ok 1000 := ⟨hF.ok.w, by have := hF.ok.s; omega, hF.ok.t⟩
  have hl := len_bd hC
  have hn4 : (cA 4 1 n 20).len ≤ A.n := by rw [hF.n]; omega
  have hP : Pa (cA 4 1 n 20) A 1000 := by
    refine ⟨ok, hn4, fun c c0 c3 => ?_⟩
    rw [hF.w, w0_open hC c0 c3]
    show (0 : Int) ≤ n
    omega
  generalize hCe : cA 4 1 n 20 = C at *
  clear hCe
  have hl0 : 0 ≤ C.len := by
    have hch : C.chunk C.C = 6 + C.T + 2 * C.S + 3 * C.C := rfl
    have := hC.T; have := hC.S; have := hC.C; omega
  have bp : ∀ K : Value → Prop, xF (fBuild [(0, 1), (1, 1), (2, 1)] [.pointer none, .pointer none, .pointer none] []) [] K = K (.agg #[.pointer none, .pointer none, .pointer none]) := fun K => nr rfl
  have bi : ∀ K : Value → Prop, xF (fBuild [(0, 1), (1, 1), (2, 1)] [.int .i64 0, .int .i64 0, .int .i64 0] []) [] K = K (.agg #[.int .i64 0, .int .i64 0, .int .i64 0]) := fun K => nr rfl
  have gp : gStore 3 [.pointer (some ⟨10, 0, some 0⟩), .agg #[.pointer none, .pointer none, .pointer none]] [.pointer none, .pointer none, .pointer none] = some (c10 fun _ => none) := rfl
  have gi : gStore 3 [.pointer (some ⟨11, 0, some 0⟩), .agg #[.int .i64 0, .int .i64 0, .int .i64 0]] [.int .i64 0, .int .i64 0, .int .i64 0] = some (cells .i64 3 fun _ => 0) := rfl
  simp only [c_awake7, gStoreE, w_law07_PlaceShares_j1, w_law07_PlaceShares_j1b, bp, bi, gp, gi, xMove, xPickT, xPickF, xNil, xFld, xExt0, xExt1, xExt30, xExt31, xExt32, xAdd, xSub, xMul, xEql, xNeq, xLss, xLeq, xGtr, xGeq, xEqPN, xEqNN, xNePN, xNeNN, xEqBB, xNeBB, xNot, xConv, xLen, xMin, xMax, xIfc, xIfT, xIfF, xIfD, xJoinE, xOs, xCs, xFldV, List.getD_cons_zero, List.getD_cons_succ, Nat.zero_add, Nat.reduceAdd, Mem.get_set_same, Mem.set_set, if_true, if_false, Bool.not_true, Bool.not_false, decide_true, decide_false, decide_eq_true_eq, decide_not, Bool.not_eq_true, Bool.false_eq_true, reduceIte, Int.reduceLT, Int.reduceLE, Int.reduceEq, Int.reduceNeg, Int.reduceAdd, Int.reduceSub, locP_e, gBox_a, gBox_i, gBox_b, gBox_p, gLoad_s, gAlloc_s, gStore_a, gStore_i, gStore_b, gStore_p, sub_z, sub_s, lay_z, lay_s, List.length_cons, List.length_nil, Nat.reduceLeDiff, Nat.le_refl, List.drop_zero, List.drop_succ_cons, List.take_succ_cons, List.take_zero, List.drop_nil, List.cons_append, List.nil_append, List.all_cons, List.all_nil, oneB_i, oneB_b, oneB_p, oneB_sl, Bool.and_true, Nat.reduceLT, Nat.lt_irrefl, Nat.zero_lt_one, gBoxE, gBoxC, subE, subEC, subE0, subE1, subE2, subE3, subE4, subE6, subE7, subE8, subC, subC0, subC1, subC2, subC3, subC4, subC5, subC6]
  rw [c_lLen hC]
  refine hMakeS_i (by omega) (by omega) (by decide) fun q τ1 hq gq x1 => ?_
  rw [cellsB_repl] at gq
  have hH : Hq N C σ q 0 (fun _ => none) (fun _ => 0) A (fun _ => false) τ1 :=
    ⟨Int.le_refl 0, hA.ext x1, by simpa using hP, fun j i _ _ _ _ h => (by cases h), hE.trans x1, gq, hA.new hq, hE.none hq, fun j _ _ p t h => (by cases h), fun a b _ _ _ _ p t u h _ => (by cases h)⟩
  refine xLoop_r (fun k ts ls τ => ∃ i a P cl A G, k = (400 - i).toNat ∧ ts = [s1, s2, .int .i64 a, .slice (some ⟨q, 0, none⟩) C.len.toNat 1, .int .i64 i] ∧ ls = [N.el C 0, c10 P, cells .i64 3 cl] ∧ 0 ≤ a ∧ a ≤ i ∧ i ≤ 400 ∧ Hq N C σ q i P cl A G τ) ?_ (n := (400 - 0 : Int).toNat)
    ⟨0, 0, _, _, A, _, rfl, rfl, rfl, by omega, by omega, by omega, hH⟩
  rintro k ts ls τ2 ⟨i, a, P, cl, A2, G, rfl, rfl, rfl, ha0, ha1, i1, h⟩ R hR
  have i0 := h.i0
  have hk1 := hg1.keep h.ext
  have hk2 := hg2.keep h.ext
  have fin : ∀ τ, w_law07_PlaceShares_j2 (fun v x => v = Value.bool true) [] [] τ := fun τ => by simp only [w_law07_PlaceShares_j2, w_law07_PlaceShares_j2b, xMove, xPickT, xPickF, xNil, xFld, xExt0, xExt1, xExt30, xExt31, xExt32, xAdd, xSub, xMul, xEql, xNeq, xLss, xLeq, xGtr, xGeq, xEqPN, xEqNN, xNePN, xNeNN, xEqBB, xNeBB, xNot, xConv, xLen, xMin, xMax, xIfc, xIfT, xIfF, xIfD, xJoinE, xOs, xCs, xFldV, List.getD_cons_zero, List.getD_cons_succ, Nat.zero_add, Nat.reduceAdd, Mem.get_set_same, Mem.set_set, if_true, if_false, Bool.not_true, Bool.not_false, decide_true, decide_false, decide_eq_true_eq, decide_not, Bool.not_eq_true, Bool.false_eq_true, reduceIte, Int.reduceLT, Int.reduceLE, Int.reduceEq, Int.reduceNeg, Int.reduceAdd, Int.reduceSub, locP_e, gBox_a, gBox_i, gBox_b, gBox_p, gLoad_s, gAlloc_s, gStore_a, gStore_i, gStore_b, gStore_p, sub_z, sub_s, lay_z, lay_s, List.length_cons, List.length_nil, Nat.reduceLeDiff, Nat.le_refl, List.drop_zero, List.drop_succ_cons, List.take_succ_cons, List.take_zero, List.drop_nil, List.cons_append, List.nil_append, List.all_cons, List.all_nil, oneB_i, oneB_b, oneB_p, oneB_sl, Bool.and_true, Nat.reduceLT, Nat.lt_irrefl, Nat.zero_lt_one, gBoxE, gBoxC, subE, subEC, subE0, subE1, subE2, subE3, subE4, subE6, subE7, subE8, subC, subC0, subC1, subC2, subC3, subC4, subC5, subC6]
  simp only [w_law07_PlaceShares_l9, w_law07_PlaceShares_l9b, hk2.len, xMove, xPickT, xPickF, xNil, xFld, xExt0, xExt1, xExt30, xExt31, xExt32, xAdd, xSub, xMul, xEql, xNeq, xLss, xLeq, xGtr, xGeq, xEqPN, xEqNN, xNePN, xNeNN, xEqBB, xNeBB, xNot, xConv, xLen, xMin, xMax, xIfc, xIfT, xIfF, xIfD, xJoinE, xOs, xCs, xFldV, List.getD_cons_zero, List.getD_cons_succ, Nat.zero_add, Nat.reduceAdd, Mem.get_set_same, Mem.set_set, if_true, if_false, Bool.not_true, Bool.not_false, decide_true, decide_false, decide_eq_true_eq, decide_not, Bool.not_eq_true, Bool.false_eq_true, reduceIte, Int.reduceLT, Int.reduceLE, Int.reduceEq, Int.reduceNeg, Int.reduceAdd, Int.reduceSub, locP_e, gBox_a, gBox_i, gBox_b, gBox_p, gLoad_s, gAlloc_s, gStore_a, gStore_i, gStore_b, gStore_p, sub_z, sub_s, lay_z, lay_s, List.length_cons, List.length_nil, Nat.reduceLeDiff, Nat.le_refl, List.drop_zero, List.drop_succ_cons, List.take_succ_cons, List.take_zero, List.drop_nil, List.cons_append, List.nil_append, List.all_cons, List.all_nil, oneB_i, oneB_b, oneB_p, oneB_sl, Bool.and_true, Nat.reduceLT, Nat.lt_irrefl, Nat.zero_lt_one, gBoxE, gBoxC, subE, subEC, subE0, subE1, subE2, subE3, subE4, subE6, subE7, subE8, subC, subC0, subC1, subC2, subC3, subC4, subC5, subC6]
  by_cases c1 : i < len2
  · by_cases c2 : i < 400
    · simp only [c1, c2, w_law07_PlaceShares_j3, w_law07_PlaceShares_j3b, xMove, xPickT, xPickF, xNil, xFld, xExt0, xExt1, xExt30, xExt31, xExt32, xAdd, xSub, xMul, xEql, xNeq, xLss, xLeq, xGtr, xGeq, xEqPN, xEqNN, xNePN, xNeNN, xEqBB, xNeBB, xNot, xConv, xLen, xMin, xMax, xIfc, xIfT, xIfF, xIfD, xJoinE, xOs, xCs, xFldV, List.getD_cons_zero, List.getD_cons_succ, Nat.zero_add, Nat.reduceAdd, Mem.get_set_same, Mem.set_set, if_true, if_false, Bool.not_true, Bool.not_false, decide_true, decide_false, decide_eq_true_eq, decide_not, Bool.not_eq_true, Bool.false_eq_true, reduceIte, Int.reduceLT, Int.reduceLE, Int.reduceEq, Int.reduceNeg, Int.reduceAdd, Int.reduceSub, locP_e, gBox_a, gBox_i, gBox_b, gBox_p, gLoad_s, gAlloc_s, gStore_a, gStore_i, gStore_b, gStore_p, sub_z, sub_s, lay_z, lay_s, List.length_cons, List.length_nil, Nat.reduceLeDiff, Nat.le_refl, List.drop_zero, List.drop_succ_cons, List.take_succ_cons, List.take_zero, List.drop_nil, List.cons_append, List.nil_append, List.all_cons, List.all_nil, oneB_i, oneB_b, oneB_p, oneB_sl, Bool.and_true, Nat.reduceLT, Nat.lt_irrefl, Nat.zero_lt_one, gBoxE, gBoxC, subE, subEC, subE0, subE1, subE2, subE3, subE4, subE6, subE7, subE8, subC, subC0, subC1, subC2, subC3, subC4, subC5, subC6]
      rw [hk2.ix i0 c1]
      obtain ⟨p1, p2, p3⟩ := pick3 (g2 i)
      simp only [xRem (show (3 : Int) ≠ 0 by decide), p1, xMove, xPickT, xPickF, xNil, xFld, xExt0, xExt1, xExt30, xExt31, xExt32, xAdd, xSub, xMul, xEql, xNeq, xLss, xLeq, xGtr, xGeq, xEqPN, xEqNN, xNePN, xNeNN, xEqBB, xNeBB, xNot, xConv, xLen, xMin, xMax, xIfc, xIfT, xIfF, xIfD, xJoinE, xOs, xCs, xFldV, List.getD_cons_zero, List.getD_cons_succ, Nat.zero_add, Nat.reduceAdd, Mem.get_set_same, Mem.set_set, if_true, if_false, Bool.not_true, Bool.not_false, decide_true, decide_false, decide_eq_true_eq, decide_not, Bool.not_eq_true, Bool.false_eq_true, reduceIte, Int.reduceLT, Int.reduceLE, Int.reduceEq, Int.reduceNeg, Int.reduceAdd, Int.reduceSub]
      generalize ((g2 i).tmod 3 + 3).tmod 3 = k at *
      have nx : ∀ a', 0 ≤ a' → a' ≤ i + 1 → ∀ P' cl' A' G' τ', Hq N C σ q (i + 1) P' cl' A' G' τ' → R [s1, s2, .int .i64 a', .slice (some ⟨q, 0, none⟩) C.len.toNat 1, .int .i64 (i + 1)] [N.el C 0, c10 P', cells .i64 3 cl'] τ' := fun a' h0 h1 P' cl' A' G' τ' h' =>
        hR (400 - (i + 1)).toNat _ _ _ (by omega) ⟨i + 1, a', P', cl', A', G', rfl, rfl, rfl, h0, h1, by omega, h'⟩
      rw [xIxA p2 (show k < (3 : Nat) by omega)]
      simp only [c10_sub p2 p3, xMove, xPickT, xPickF, xNil, xFld, xExt0, xExt1, xExt30, xExt31, xExt32, xAdd, xSub, xMul, xEql, xNeq, xLss, xLeq, xGtr, xGeq, xEqPN, xEqNN, xNePN, xNeNN, xEqBB, xNeBB, xNot, xConv, xLen, xMin, xMax, xIfc, xIfT, xIfF, xIfD, xJoinE, xOs, xCs, xFldV, List.getD_cons_zero, List.getD_cons_succ, Nat.zero_add, Nat.reduceAdd, Mem.get_set_same, Mem.set_set, if_true, if_false, Bool.not_true, Bool.not_false, decide_true, decide_false, decide_eq_true_eq, decide_not, Bool.not_eq_true, Bool.false_eq_true, reduceIte, Int.reduceLT, Int.reduceLE, Int.reduceEq, Int.reduceNeg, Int.reduceAdd, Int.reduceSub, locP_e, gBox_a, gBox_i, gBox_b, gBox_p, gLoad_s, gAlloc_s, gStore_a, gStore_i, gStore_b, gStore_p, sub_z, sub_s, lay_z, lay_s, List.length_cons, List.length_nil, Nat.reduceLeDiff, Nat.le_refl, List.drop_zero, List.drop_succ_cons, List.take_succ_cons, List.take_zero, List.drop_nil, List.cons_append, List.nil_append, List.all_cons, List.all_nil, oneB_i, oneB_b, oneB_p, oneB_sl, Bool.and_true, Nat.reduceLT, Nat.lt_irrefl, Nat.zero_lt_one, gBoxE, gBoxC, subE, subEC, subE0, subE1, subE2, subE3, subE4, subE6, subE7, subE8, subC, subC0, subC1, subC2, subC3, subC4, subC5, subC6]
      cases hP : P k with
      | some pt =>
        obtain ⟨p, t⟩ := pt
        simp only [pV, xMove, xPickT, xPickF, xNil, xFld, xExt0, xExt1, xExt30, xExt31, xExt32, xAdd, xSub, xMul, xEql, xNeq, xLss, xLeq, xGtr, xGeq, xEqPN, xEqNN, xNePN, xNeNN, xEqBB, xNeBB, xNot, xConv, xLen, xMin, xMax, xIfc, xIfT, xIfF, xIfD, xJoinE, xOs, xCs, xFldV, List.getD_cons_zero, List.getD_cons_succ, Nat.zero_add, Nat.reduceAdd, Mem.get_set_same, Mem.set_set, if_true, if_false, Bool.not_true, Bool.not_false, decide_true, decide_false, decide_eq_true_eq, decide_not, Bool.not_eq_true, Bool.false_eq_true, reduceIte, Int.reduceLT, Int.reduceLE, Int.reduceEq, Int.reduceNeg, Int.reduceAdd, Int.reduceSub, locP_e, gBox_a, gBox_i, gBox_b, gBox_p, gLoad_s, gAlloc_s, gStore_a, gStore_i, gStore_b, gStore_p, sub_z, sub_s, lay_z, lay_s, List.length_cons, List.length_nil, Nat.reduceLeDiff, Nat.le_refl, List.drop_zero, List.drop_succ_cons, List.take_succ_cons, List.take_zero, List.drop_nil, List.cons_append, List.nil_append, List.all_cons, List.all_nil, oneB_i, oneB_b, oneB_p, oneB_sl, Bool.and_true, Nat.reduceLT, Nat.lt_irrefl, Nat.zero_lt_one, gBoxE, gBoxC, subE, subEC, subE0, subE1, subE2, subE3, subE4, subE6, subE7, subE8, subC, subC0, subC1, subC2, subC3, subC4, subC5, subC6]
        exact shares5 hN hC hfr h c2 p2 p3 hP fun P' A' G' τ' h' => nx a ha0 (by omega) P' cl A' G' τ' h'
      | none =>
        simp only [pV, hk1.len, xMove, xPickT, xPickF, xNil, xFld, xExt0, xExt1, xExt30, xExt31, xExt32, xAdd, xSub, xMul, xEql, xNeq, xLss, xLeq, xGtr, xGeq, xEqPN, xEqNN, xNePN, xNeNN, xEqBB, xNeBB, xNot, xConv, xLen, xMin, xMax, xIfc, xIfT, xIfF, xIfD, xJoinE, xOs, xCs, xFldV, List.getD_cons_zero, List.getD_cons_succ, Nat.zero_add, Nat.reduceAdd, Mem.get_set_same, Mem.set_set, if_true, if_false, Bool.not_true, Bool.not_false, decide_true, decide_false, decide_eq_true_eq, decide_not, Bool.not_eq_true, Bool.false_eq_true, reduceIte, Int.reduceLT, Int.reduceLE, Int.reduceEq, Int.reduceNeg, Int.reduceAdd, Int.reduceSub, locP_e, gBox_a, gBox_i, gBox_b, gBox_p, gLoad_s, gAlloc_s, gStore_a, gStore_i, gStore_b, gStore_p, sub_z, sub_s, lay_z, lay_s, List.length_cons, List.length_nil, Nat.reduceLeDiff, Nat.le_refl, List.drop_zero, List.drop_succ_cons, List.take_succ_cons, List.take_zero, List.drop_nil, List.cons_append, List.nil_append, List.all_cons, List.all_nil, oneB_i, oneB_b, oneB_p, oneB_sl, Bool.and_true, Nat.reduceLT, Nat.lt_irrefl, Nat.zero_lt_one, gBoxE, gBoxC, subE, subEC, subE0, subE1, subE2, subE3, subE4, subE6, subE7, subE8, subC, subC0, subC1, subC2, subC3, subC4, subC5, subC6]
        by_cases ca : (len1 : Int) ≤ a
        · have h' : Hq N C σ q (i + 1) P cl A2 G τ2 := ⟨by omega, h.isA, by rw [show 1000 + (i + 1) = 1000 + i + 1 by omega]; exact h.pa.mono (by omega), h.gvn, h.ext, h.gq, h.qd, h.q0, h.each, h.apart⟩
          simp only [ca, w_law07_PlaceShares_j4, w_law07_PlaceShares_j4b, xMove, xPickT, xPickF, xNil, xFld, xExt0, xExt1, xExt30, xExt31, xExt32, xAdd, xSub, xMul, xEql, xNeq, xLss, xLeq, xGtr, xGeq, xEqPN, xEqNN, xNePN, xNeNN, xEqBB, xNeBB, xNot, xConv, xLen, xMin, xMax, xIfc, xIfT, xIfF, xIfD, xJoinE, xOs, xCs, xFldV, List.getD_cons_zero, List.getD_cons_succ, Nat.zero_add, Nat.reduceAdd, Mem.get_set_same, Mem.set_set, if_true, if_false, Bool.not_true, Bool.not_false, decide_true, decide_false, decide_eq_true_eq, decide_not, Bool.not_eq_true, Bool.false_eq_true, reduceIte, Int.reduceLT, Int.reduceLE, Int.reduceEq, Int.reduceNeg, Int.reduceAdd, Int.reduceSub, locP_e, gBox_a, gBox_i, gBox_b, gBox_p, gLoad_s, gAlloc_s, gStore_a, gStore_i, gStore_b, gStore_p, sub_z, sub_s, lay_z, lay_s, List.length_cons, List.length_nil, Nat.reduceLeDiff, Nat.le_refl, List.drop_zero, List.drop_succ_cons, List.take_succ_cons, List.take_zero, List.drop_nil, List.cons_append, List.nil_append, List.all_cons, List.all_nil, oneB_i, oneB_b, oneB_p, oneB_sl, Bool.and_true, Nat.reduceLT, Nat.lt_irrefl, Nat.zero_lt_one, gBoxE, gBoxC, subE, subEC, subE0, subE1, subE2, subE3, subE4, subE6, subE7, subE8, subC, subC0, subC1, subC2, subC3, subC4, subC5, subC6]
          rw [IntWalk.i64_in (i + 1) (by omega)]
          exact nx a ha0 (by omega) P cl A2 G τ2 h'
        · simp only [ca, xMove, xPickT, xPickF, xNil, xFld, xExt0, xExt1, xExt30, xExt31, xExt32, xAdd, xSub, xMul, xEql, xNeq, xLss, xLeq, xGtr, xGeq, xEqPN, xEqNN, xNePN, xNeNN, xEqBB, xNeBB, xNot, xConv, xLen, xMin, xMax, xIfc, xIfT, xIfF, xIfD, xJoinE, xOs, xCs, xFldV, List.getD_cons_zero, List.getD_cons_succ, Nat.zero_add, Nat.reduceAdd, Mem.get_set_same, Mem.set_set, if_true, if_false, Bool.not_true, Bool.not_false, decide_true, decide_false, decide_eq_true_eq, decide_not, Bool.not_eq_true, Bool.false_eq_true, reduceIte, Int.reduceLT, Int.reduceLE, Int.reduceEq, Int.reduceNeg, Int.reduceAdd, Int.reduceSub, locP_e, gBox_a, gBox_i, gBox_b, gBox_p, gLoad_s, gAlloc_s, gStore_a, gStore_i, gStore_b, gStore_p, sub_z, sub_s, lay_z, lay_s, List.length_cons, List.length_nil, Nat.reduceLeDiff, Nat.le_refl, List.drop_zero, List.drop_succ_cons, List.take_succ_cons, List.take_zero, List.drop_nil, List.cons_append, List.nil_append, List.all_cons, List.all_nil, oneB_i, oneB_b, oneB_p, oneB_sl, Bool.and_true, Nat.reduceLT, Nat.lt_irrefl, Nat.zero_lt_one, gBoxE, gBoxC, subE, subEC, subE0, subE1, subE2, subE3, subE4, subE6, subE7, subE8, subC, subC0, subC1, subC2, subC3, subC4, subC5, subC6]
          rw [hk1.ix ha0 (by omega)]
          simp only [andI3, xIxA p2 (show k < (3 : Nat) by omega), c11_set p2 p3, c11_sub p2 p3, upd_same, xMove, xPickT, xPickF, xNil, xFld, xExt0, xExt1, xExt30, xExt31, xExt32, xAdd, xSub, xMul, xEql, xNeq, xLss, xLeq, xGtr, xGeq, xEqPN, xEqNN, xNePN, xNeNN, xEqBB, xNeBB, xNot, xConv, xLen, xMin, xMax, xIfc, xIfT, xIfF, xIfD, xJoinE, xOs, xCs, xFldV, List.getD_cons_zero, List.getD_cons_succ, Nat.zero_add, Nat.reduceAdd, Mem.get_set_same, Mem.set_set, if_true, if_false, Bool.not_true, Bool.not_false, decide_true, decide_false, decide_eq_true_eq, decide_not, Bool.not_eq_true, Bool.false_eq_true, reduceIte, Int.reduceLT, Int.reduceLE, Int.reduceEq, Int.reduceNeg, Int.reduceAdd, Int.reduceSub, locP_e, gBox_a, gBox_i, gBox_b, gBox_p, gLoad_s, gAlloc_s, gStore_a, gStore_i, gStore_b, gStore_p, sub_z, sub_s, lay_z, lay_s, List.length_cons, List.length_nil, Nat.reduceLeDiff, Nat.le_refl, List.drop_zero, List.drop_succ_cons, List.take_succ_cons, List.take_zero, List.drop_nil, List.cons_append, List.nil_append, List.all_cons, List.all_nil, oneB_i, oneB_b, oneB_p, oneB_sl, Bool.and_true, Nat.reduceLT, Nat.lt_irrefl, Nat.zero_lt_one, gBoxE, gBoxC, subE, subEC, subE0, subE1, subE2, subE3, subE4, subE6, subE7, subE8, subC, subC0, subC1, subC2, subC3, subC4, subC5, subC6]
          have hc : 0 ≤ g1 a % 4 ∧ g1 a % 4 ≤ 3 := by omega
          generalize g1 a % 4 = c at hc
          refine c_PlaceNew fun p τ3 hp gp x3 => ?_
          have sp := c10_set (P := P) (x := some (p, Pl.new c)) p2 p3
          simp only [pV] at sp
          simp only [sp, xIxA p2 (show k < (3 : Nat) by omega), xMove, xPickT, xPickF, xNil, xFld, xExt0, xExt1, xExt30, xExt31, xExt32, xAdd, xSub, xMul, xEql, xNeq, xLss, xLeq, xGtr, xGeq, xEqPN, xEqNN, xNePN, xNeNN, xEqBB, xNeBB, xNot, xConv, xLen, xMin, xMax, xIfc, xIfT, xIfF, xIfD, xJoinE, xOs, xCs, xFldV, List.getD_cons_zero, List.getD_cons_succ, Nat.zero_add, Nat.reduceAdd, Mem.get_set_same, Mem.set_set, if_true, if_false, Bool.not_true, Bool.not_false, decide_true, decide_false, decide_eq_true_eq, decide_not, Bool.not_eq_true, Bool.false_eq_true, reduceIte, Int.reduceLT, Int.reduceLE, Int.reduceEq, Int.reduceNeg, Int.reduceAdd, Int.reduceSub, locP_e, gBox_a, gBox_i, gBox_b, gBox_p, gLoad_s, gAlloc_s, gStore_a, gStore_i, gStore_b, gStore_p, sub_z, sub_s, lay_z, lay_s, List.length_cons, List.length_nil, Nat.reduceLeDiff, Nat.le_refl, List.drop_zero, List.drop_succ_cons, List.take_succ_cons, List.take_zero, List.drop_nil, List.cons_append, List.nil_append, List.all_cons, List.all_nil, oneB_i, oneB_b, oneB_p, oneB_sl, Bool.and_true, Nat.reduceLT, Nat.lt_irrefl, Nat.zero_lt_one, gBoxE, gBoxC, subE, subEC, subE0, subE1, subE2, subE3, subE4, subE6, subE7, subE8, subC, subC0, subC1, subC2, subC3, subC4, subC5, subC6]
          rw [IntWalk.i64_in (a + 1) (by omega)]
          have h' := hq_new hC (hq_cl h hP (cl' := upd cl k c) fun j hj => upd_ne _ _ hj) hp gp x3 hc.1 hc.2 (upd_same _ _ _) hP
          exact shares5 hN hC hfr h' c2 p2 p3 updQ_same fun P' A' G' τ' h' => nx (a + 1) (by omega) (by omega) P' _ A' G' τ' h'
    · simp only [c1, c2, xMove, xPickT, xPickF, xNil, xFld, xExt0, xExt1, xExt30, xExt31, xExt32, xAdd, xSub, xMul, xEql, xNeq, xLss, xLeq, xGtr, xGeq, xEqPN, xEqNN, xNePN, xNeNN, xEqBB, xNeBB, xNot, xConv, xLen, xMin, xMax, xIfc, xIfT, xIfF, xIfD, xJoinE, xOs, xCs, xFldV, List.getD_cons_zero, List.getD_cons_succ, Nat.zero_add, Nat.reduceAdd, Mem.get_set_same, Mem.set_set, if_true, if_false, Bool.not_true, Bool.not_false, decide_true, decide_false, decide_eq_true_eq, decide_not, Bool.not_eq_true, Bool.false_eq_true, reduceIte, Int.reduceLT, Int.reduceLE, Int.reduceEq, Int.reduceNeg, Int.reduceAdd, Int.reduceSub, locP_e, gBox_a, gBox_i, gBox_b, gBox_p, gLoad_s, gAlloc_s, gStore_a, gStore_i, gStore_b, gStore_p, sub_z, sub_s, lay_z, lay_s, List.length_cons, List.length_nil, Nat.reduceLeDiff, Nat.le_refl, List.drop_zero, List.drop_succ_cons, List.take_succ_cons, List.take_zero, List.drop_nil, List.cons_append, List.nil_append, List.all_cons, List.all_nil, oneB_i, oneB_b, oneB_p, oneB_sl, Bool.and_true, Nat.reduceLT, Nat.lt_irrefl, Nat.zero_lt_one, gBoxE, gBoxC, subE, subEC, subE0, subE1, subE2, subE3, subE4, subE6, subE7, subE8, subC, subC0, subC1, subC2, subC3, subC4, subC5, subC6]; exact fin _
  · simp only [c1, xMove, xPickT, xPickF, xNil, xFld, xExt0, xExt1, xExt30, xExt31, xExt32, xAdd, xSub, xMul, xEql, xNeq, xLss, xLeq, xGtr, xGeq, xEqPN, xEqNN, xNePN, xNeNN, xEqBB, xNeBB, xNot, xConv, xLen, xMin, xMax, xIfc, xIfT, xIfF, xIfD, xJoinE, xOs, xCs, xFldV, List.getD_cons_zero, List.getD_cons_succ, Nat.zero_add, Nat.reduceAdd, Mem.get_set_same, Mem.set_set, if_true, if_false, Bool.not_true, Bool.not_false, decide_true, decide_false, decide_eq_true_eq, decide_not, Bool.not_eq_true, Bool.false_eq_true, reduceIte, Int.reduceLT, Int.reduceLE, Int.reduceEq, Int.reduceNeg, Int.reduceAdd, Int.reduceSub, locP_e, gBox_a, gBox_i, gBox_b, gBox_p, gLoad_s, gAlloc_s, gStore_a, gStore_i, gStore_b, gStore_p, sub_z, sub_s, lay_z, lay_s, List.length_cons, List.length_nil, Nat.reduceLeDiff, Nat.le_refl, List.drop_zero, List.drop_succ_cons, List.take_succ_cons, List.take_zero, List.drop_nil, List.cons_append, List.nil_append, List.all_cons, List.all_nil, oneB_i, oneB_b, oneB_p, oneB_sl, Bool.and_true, Nat.reduceLT, Nat.lt_irrefl, Nat.zero_lt_one, gBoxE, gBoxC, subE, subEC, subE0, subE1, subE2, subE3, subE4, subE6, subE7, subE8, subC, subC0, subC1, subC2, subC3, subC4, subC5, subC6]; exact fin _
end Go.Fl
