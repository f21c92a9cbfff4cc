/- The operations that only compute come to the same in the world. No condition. -/
import Derived.Test.YthibiempfkcinaaFlC
namespace Go.Fl
open Go
set_option linter.unusedVariables false
set_option linter.unusedSimpArgs false

section
variable {P : Program} {w : World} {ρ : Ren}

theorem run_fieldAt {s : TypeId} {fs : Array Field} {f : Nat} {fd : Field} (hs : P.underlying s = some (.struct fs)) (hf : fs[f]? = some fd)
    (hk : tKnown P fd.type = true) (hz : tSz P fd.type ≠ 0) {a : Addr} (ha : a.spot = none) :
    (Instr.fieldAt s (.pointer (some a)) f).run P w = .ok (.pointer (some (adv a fd.offset))) w := by
  simp only [Instr.fieldAt, Sem.run_bind, run_underlying' hs, Result.andThen_ok, hf, Instr.sureAddr, Sem.run_pure, fieldPlace, run_sizeOf' hk, Sem.run_ite, hz, if_false, add_adv ha]

theorem run_indexS {t e : TypeId} (ht : P.underlying t = some (.slice e)) (hk : tKnown P e = true) {a : Addr} (ha : a.spot = none) {n c : Nat} {k : IntKind} {i : Int}
    (h0 : 0 ≤ i) (h1 : i < (n : Int)) :
    (Instr.indexAt t (.slice (some a) n c) (.int k i)).run P w = .ok (.pointer (some (adv a (i.toNat * tSz P e)))) w := by
  simp only [Instr.indexAt, asIntOf, Sem.run_bind, Sem.run_pure, run_underlying' ht, Result.andThen_ok, h0, h1, and_self, if_true, run_sizeOf' hk, add_adv ha]

theorem run_indexA {t e : TypeId} {n : Nat} (ht : P.underlying t = some (.array n e)) (hk : tKnown P e = true) {a : Addr} (ha : a.spot = none) {k : IntKind} {i : Int}
    (h0 : 0 ≤ i) (h1 : i < (n : Int)) :
    (Instr.indexAt t (.pointer (some a)) (.int k i)).run P w = .ok (.pointer (some (adv a (i.toNat * tSz P e)))) w := by
  simp only [Instr.indexAt, asIntOf, Sem.run_bind, Sem.run_pure, run_underlying' ht, Result.andThen_ok, Instr.sureAddr, h0, h1, and_self, if_true, run_sizeOf' hk, add_adv ha]

theorem run_fieldV {s : TypeId} {fs : Array Field} {f : Nat} {fd : Field} (hs : P.underlying s = some (.struct fs)) (hf : fs[f]? = some fd)
    (hk : tKnown P fd.type = true) (cs : Array Value) (hl : fd.offset + tSz P fd.type ≤ cs.size) {v : Value}
    (hv : (if tAgg P fd.type then some (.agg ((cs.toList.drop fd.offset).take (tSz P fd.type)).toArray) else cs.toList[fd.offset]?) = some v) :
    (Instr.field s (.agg cs) f).run P w = .ok v w := by
  simp only [Instr.field, Sem.run_bind, run_underlying' hs, Result.andThen_ok, hf, asAgg, Sem.run_pure, run_part' hk cs fd.offset hl hv]

theorem run_indexV {t e : TypeId} {n : Nat} (ht : P.underlying t = some (.array n e)) (hk : tKnown P e = true) (cs : Array Value) {k : IntKind} {i : Int}
    (h0 : 0 ≤ i) (h1 : i < (n : Int)) (hl : i.toNat * tSz P e + tSz P e ≤ cs.size) {v : Value}
    (hv : (if tAgg P e then some (.agg ((cs.toList.drop (i.toNat * tSz P e)).take (tSz P e)).toArray) else cs.toList[i.toNat * tSz P e]?) = some v) :
    (Instr.index t (.agg cs) (.int k i)).run P w = .ok v w := by
  simp only [Instr.index, asIntOf, Sem.run_bind, Sem.run_pure, run_underlying' ht, Result.andThen_ok, h0, h1, and_self, if_true, run_sizeOf' hk, run_part' hk cs _ hl hv]

/-! The cells of a value, laid one behind the other. -/

theorem foldl_lay (vs : List Value) : ∀ (cells : Array Value) (off n : Nat), off + n + vs.length ≤ cells.size →
    ((vs.zipIdx n).foldl (fun cs (p : Value × Nat) => cs.setIfInBounds (off + p.2) p.1) cells).toList = cells.toList.take (off + n) ++ vs ++ cells.toList.drop (off + n + vs.length) := by
  induction vs with
  | nil => intro cells off n h; simp
  | cons v vs ih =>
    intro cells off n h
    simp only [List.zipIdx_cons, List.foldl_cons]
    simp only [List.length_cons] at h
    rw [ih (cells.setIfInBounds (off + n) v) off (n + 1) (by simp; omega)]
    have hlt : off + n < cells.toList.length := by simp; omega
    simp only [Array.toList_setIfInBounds]
    rw [show off + (n + 1) = off + n + 1 from by omega]
    rw [List.take_succ_eq_append_getElem (by simpa using hlt)]
    simp only [List.getElem_set_self, List.length_cons]
    rw [List.take_set_of_le (Nat.le_refl _), List.drop_set_of_lt (by omega)]
    simp [Nat.add_assoc, Nat.add_comm 1]

theorem cells_of {v : Value} {sz : Nat} {c : List Value} (h : cellsOf v sz = some c) : v.cells.toList = c ∧ v.cells.size = sz ∧ c.length = sz := by
  unfold cellsOf at h
  split at h
  · split at h
    · cases h; rename_i hs; exact ⟨rfl, hs, by simpa using hs⟩
    · cases h
  · cases h
  · split at h
    · cases h
      rename_i h1 h2 h3
      subst h3
      have : v.cells = #[v] := by
        cases v <;> first | rfl | (exfalso; exact h1 _ rfl) | (exfalso; exact h2 _ rfl)
      rw [this]; exact ⟨rfl, rfl, rfl⟩
    · cases h

theorem V.cells {v v' : Value} (h : V ρ v v') {sz : Nat} {c : List Value} (hc : cellsOf v sz = some c) : ∃ c', cellsOf v' sz = some c' ∧ VL ρ c c' := by
  unfold cellsOf at hc
  split at hc
  · split at hc
    · rename_i cs hs
      cases hc
      obtain ⟨cs', rfl, hl⟩ := h.agg_inv
      have : cs'.size = sz := by have := hl.len; simp at this; omega
      exact ⟨_, by simp [cellsOf, this], hl⟩
    · cases hc
  · cases hc
  · split at hc
    · rename_i h1 h2 h3
      cases hc
      have hn : ∀ v', V ρ v v' → (∀ cs, v' ≠ .agg cs) ∧ (∀ cs, v' ≠ .tuple cs) := by
        intro v' h
        cases h <;> first
          | (exfalso; exact h2 _ rfl)
          | (exfalso; exact h1 _ rfl)
          | exact ⟨(fun _ hh => by cases hh), (fun _ hh => by cases hh)⟩
      obtain ⟨n1, n2⟩ := hn v' h
      refine ⟨[v'], ?_, .cons h .nil⟩
      unfold cellsOf
      split
      · exact absurd rfl (n1 _)
      · exact absurd rfl (n2 _)
      · simp [h3]
    · cases hc

theorem fill_sound {places place' : Nat → Option (Nat × Nat)} (hpp : ∀ i p, places i = some p → place' i = some p) : ∀ {idx : List Nat} {cells cells' : List Value} {vs vs' : List Value} {c : List Value},
    VL ρ cells cells' → VL ρ vs vs' → fillL places cells idx vs = some c →
    ∃ c', Instr.fill place' cells'.toArray (idx.zip vs') = some c' ∧ VL ρ c c'.toList := by
  intro idx
  induction idx with
  | nil =>
    intro cells cells' vs vs' c hc hv h
    cases hv with
    | nil => simp [fillL] at h; subst h; exact ⟨cells'.toArray, by simp [Instr.fill], by simpa using hc⟩
    | cons _ _ => simp [fillL] at h
  | cons i is ih =>
    intro cells cells' vs vs' c hc hv h
    cases hv with
    | nil => simp [fillL] at h
    | cons hx hs =>
      simp only [fillL] at h
      split at h
      · rename_i off sz hp
        split at h
        · rename_i cc hcc
          split at h
          · rename_i hle
            obtain ⟨cc', hcc', hl⟩ := hx.cells hcc
            obtain ⟨e1, e2, e3⟩ := cells_of hcc'
            have hlay := hc.lay hl off
            obtain ⟨c', h1, h2⟩ := ih hlay hs h
            refine ⟨c', ?_, h2⟩
            simp only [List.zip_cons_cons, Instr.fill, hpp _ _ hp]
            rw [if_neg]
            · rw [← h1]
              congr 1
              apply Array.ext'
              rw [← Array.foldl_toList, Array.toList_zipIdx, foldl_lay _ _ _ _ (by simp [e2]; rw [← hc.len]; exact hle)]
              simp [lay, e1]
            · simp [e2]; rw [← hc.len]; exact hle
          · cases h
        · cases h
      · cases h

theorem tZero_spec {t : TypeId} {z : List Value} (h : tZero P t = some z) :
    ∃ i zv, P.info? t = some i ∧ i.zero = some zv ∧ zv.cells.toList = z ∧ tSz P t = z.length ∧ VL ρ z z ∧ (z.length = tSz P t) ∧ ∀ x ∈ z, oneB x = true := by
  have vl : ∀ {l : List Value}, (l.all constOk) = true → VL ρ l l ∧ ∀ x ∈ l, oneB x = true := by
    intro l hl
    induction l with
    | nil => exact ⟨.nil, by simp⟩
    | cons x xs ih =>
      simp only [List.all_cons, Bool.and_eq_true] at hl
      obtain ⟨h1, h2⟩ := ih hl.2
      refine ⟨.cons (.const hl.1) h1, ?_⟩
      intro y hy
      rcases List.mem_cons.1 hy with rfl | hy
      · have := hl.1
        unfold constOk at this
        split at this <;> first | rfl | cases this
      · exact h2 _ hy
  unfold tZero at h
  split at h
  · rename_i i hi
    have hsz : tSz P t = i.size := by simp [tSz, Program.cellsOf, hi]
    split at h
    · rename_i cs hz
      split at h
      · rename_i hb
        cases h
        simp only [Bool.and_eq_true, beq_iff_eq] at hb
        obtain ⟨v1, v2⟩ := vl hb.1
        exact ⟨i, _, hi, hz, rfl, by rw [hsz, hb.2]; simp, v1, by rw [hsz, hb.2]; simp, v2⟩
      · cases h
    · rename_i v hn hz
      split at h
      · rename_i hb
        cases h
        simp only [Bool.and_eq_true, beq_iff_eq] at hb
        have hb1 : ([v].all constOk) = true := by simp [hb.1]
        obtain ⟨v1, v2⟩ := vl hb1
        refine ⟨i, _, hi, hz, ?_, by rw [hsz, hb.2]; rfl, v1, by rw [hsz, hb.2]; rfl, v2⟩
        have := hb.1
        unfold constOk at this
        split at this <;> first | rfl | cases this
      · cases h
    · cases h
  · cases h

theorem mapM_places {fs : List Field} (h : ∀ f ∈ fs, tKnown P f.type = true) :
    (fs.mapM fun f => do pure (f.offset, ← sizeOf f.type) : Sem _).run P w = .ok (fs.map fun (f : Field) => (f.offset, tSz P f.type)) w := by
  induction fs with
  | nil => simp
  | cons f fs ih =>
    simp only [List.mapM_cons, Sem.run_bind, run_sizeOf' (h f (by simp)), Result.andThen_ok, Sem.run_pure, ih fun g hg => h g (by simp [hg]), List.map_cons]

theorem run_zeroValue' {t : TypeId} {i : TypeInfo} {zv : Value} (hi : P.info? t = some i) (hz : i.zero = some zv) : (zeroValue t).run P w = .ok zv w := by
  simp [zeroValue, run_typeInfo' hi, hz]

theorem zip_map_parts {ev : Operand → Value} (parts : Array (Nat × Operand)) :
    (parts.map fun (i, x) => (i, ev x)).toList = (parts.toList.map (·.1)).zip ((parts.toList.map (·.2)).map ev) := by
  simp only [Array.toList_map]
  generalize parts.toList = l
  induction l with
  | nil => rfl
  | cons p ps ih => simp [ih]

theorem run_build {t : TypeId} {fs : Array Field} (ht : P.underlying t = some (.struct fs)) {z : List Value} (hz : tZero P t = some z)
    (hk : ∀ f ∈ fs, tKnown P f.type = true) {parts : Array (Nat × Value)} {idx : List Nat} {vs' vs : List Value} (hp : parts.toList = idx.zip vs') (hv : VL ρ vs vs')
    {v : Value} (h : fBuild (fs.toList.map fun (f : Field) => (f.offset, tSz P f.type)) z idx vs = some v) : ∃ v', (Instr.build t parts).run P w = .ok v' w ∧ V ρ v v' := by
  obtain ⟨i, zv, hi, hzv, hc, hs, hvl, _, _⟩ := tZero_spec (ρ := ρ) hz
  simp only [fBuild, Option.map_eq_some_iff] at h
  obtain ⟨c, hc1, rfl⟩ := h
  obtain ⟨c', h1, h2⟩ := fill_sound (place' := fun (i : Nat) => (fs[i]?).map fun (f : Field) => (f.offset, tSz P f.type)) (fun i p h => by simpa using h) hvl hv hc1
  refine ⟨.agg c', ?_, V.agg_mk' h2⟩
  have hm : (fs.mapM fun f => do pure (f.offset, ← sizeOf f.type) : Sem _).run P w = .ok (fs.map fun (f : Field) => (f.offset, tSz P f.type)) w := by
    rw [Array.mapM_eq_mapM_toList]
    simp only [Sem.run_map, mapM_places (fs := fs.toList) (fun f hf => hk f (by simpa using hf)), Result.andThen_ok]
    congr 1
    apply Array.ext'
    simp
  have hcz : zv.cells = z.toArray := Array.ext' (by simpa using hc)
  have hpl : (fun i => (fs.map fun (f : Field) => (f.offset, tSz P f.type))[i]?) = fun (i : Nat) => (fs[i]?).map fun (f : Field) => (f.offset, tSz P f.type) := by
    funext i; simp [Array.getElem?_map]
  simp only [Instr.build, Sem.run_bind, run_zeroValue' hi hzv, Result.andThen_ok, run_underlying' ht, hm, hcz, hp, hpl, h1, Sem.run_pure]

theorem run_buildA {t e : TypeId} {n : Nat} (ht : P.underlying t = some (.array n e)) {z : List Value} (hz : tZero P t = some z)
    (hk : tKnown P e = true) {parts : Array (Nat × Value)} {idx : List Nat} {vs' vs : List Value} (hp : parts.toList = idx.zip vs') (hv : VL ρ vs vs')
    {v : Value} (h : fBuild ((List.range n).map fun i => (i * tSz P e, tSz P e)) z idx vs = some v) : ∃ v', (Instr.build t parts).run P w = .ok v' w ∧ V ρ v v' := by
  obtain ⟨i, zv, hi, hzv, hc, hs, hvl, _, _⟩ := tZero_spec (ρ := ρ) hz
  simp only [fBuild, Option.map_eq_some_iff] at h
  obtain ⟨c, hc1, rfl⟩ := h
  obtain ⟨c', h1, h2⟩ := fill_sound (place' := fun (i : Nat) => some (i * tSz P e, tSz P e)) (fun i p h => by
    simp only [List.getElem?_map, Option.map_eq_some_iff] at h
    obtain ⟨j, hj, rfl⟩ := h
    obtain ⟨hlt, he⟩ := List.getElem?_eq_some_iff.1 hj
    simp at he; subst he; rfl) hvl hv hc1
  refine ⟨.agg c', ?_, V.agg_mk' h2⟩
  have hcz : zv.cells = z.toArray := Array.ext' (by simpa using hc)
  simp only [Instr.build, Sem.run_bind, run_zeroValue' hi hzv, Result.andThen_ok, run_underlying' ht, run_sizeOf' hk, hcz, hp, h1, Sem.run_pure]


/-- A bound that is there, or is not. -/
def bnd (d : Int) : Option Value → Option Int
  | none => some d
  | some (.int _ i) => some i
  | _ => none

theorem run_sliceAt {t e : TypeId} (ht : P.underlying t = some (.slice e)) (hk : tKnown P e = true) {a : Option Addr} {n c : Nat} {lo hi : Option Value} {l h : Int}
    (hlo : bnd 0 lo = some l) (hhi : bnd n hi = some h) (h0 : 0 ≤ l) (h1 : l ≤ h) (h2 : h ≤ (n : Int)) (h3 : n ≤ c) :
    (Instr.sliceAt t (.slice a n c) lo hi none).run P w =
      .ok (.slice (if c = l.toNat then a else a.map (·.add (l.toNat * tSz P e))) (h.toNat - l.toNat) (c - l.toNat)) w := by
  have hb : (Instr.sliceBounds true n c lo hi none).run P w = .ok (l.toNat, h.toNat, c) w := by
    have hc : h ≤ (c : Int) := by omega
    have hlh : l ≤ (h.toNat : Int) := by omega
    have h0' : 0 ≤ h := by omega
    rcases lo with _ | (_ | ⟨k1, i⟩ | _ | _ | _ | _ | _ | _ | _ | _ | _ | _ | _ | _ | _) <;> simp [bnd] at hlo <;>
      rcases hi with _ | (_ | ⟨k2, j⟩ | _ | _ | _ | _ | _ | _ | _ | _ | _ | _ | _ | _ | _) <;> simp [bnd] at hhi <;> subst hlo <;> subst hhi <;>
      simp [Instr.sliceBounds, Instr.sliceBound, asIntOf, *] <;> (intro hh; omega)
  simp only [Instr.sliceAt, Instr.slice, Sem.run_bind, run_underlying' ht, Result.andThen_ok, hb, run_sizeOf' hk, Sem.run_pure]

theorem resl_sound {es : Nat} {a : Option Addr} {n c : Nat} {l h : Int} {v v' : Value} (hv : V ρ (.slice a n c) v') (hr : resl es a n c l h = some v) :
    ∃ a' c', v' = .slice a' n c' ∧ n ≤ c' ∧ 0 ≤ l ∧ l ≤ h ∧ h ≤ (n : Int) ∧
      V ρ v (.slice (if c' = l.toNat then a' else a'.map (·.add (l.toNat * es))) (h.toNat - l.toNat) (c' - l.toNat)) := by
  unfold resl at hr
  split at hr
  · rename_i hb
    obtain ⟨h0, h1, h2⟩ := hb
    cases hv with
    | nilS =>
      simp at hr
      subst hr
      refine ⟨none, 0, rfl, Nat.le_refl _, h0, h1, h2, ?_⟩
      have : l = 0 := by simp at h2; omega
      subst this
      have : h = 0 := by simp at h2; omega
      subst this
      simp
      exact .nilS
    | @sl b o n c c' e hb hl hc =>
      simp at hr
      obtain ⟨rfl, rfl⟩ := hr
      refine ⟨_, c', rfl, hl, h0, h1, h2, ?_⟩
      by_cases hcl : c' = l.toNat
      · have : h.toNat - l.toNat = 0 := by omega
        simp [hcl, this]
        exact .slE
      · simp only [hcl, if_false, Option.map_some]
        rw [add_adv rfl]
        simp only [adv, Nat.add_assoc]
        refine .sl hb (by omega) ?_
        have : o + l.toNat * c + (c' - l.toNat) * c = o + c' * c := by
          rw [Nat.sub_mul]
          have : l.toNat * c ≤ c' * c := Nat.mul_le_mul_right _ (by omega)
          omega
        omega
    | @slE b o c a' =>
      simp at hr
      obtain ⟨rfl, rfl⟩ := hr
      have : l = 0 := by simp at h2; omega
      subst this
      have : h = 0 := by simp at h2; omega
      subst this
      refine ⟨_, 0, rfl, Nat.le_refl _, h0, h1, h2, ?_⟩
      simp
      exact .slE
  · cases hr


theorem run_resolve_bi (P : Program) (w : World) {ev : Operand → Value} {c : Call} {b : Builtin} {t : TypeId} (hc : c.callee = .builtin b) :
    ∃ cs, (resolve ev c t).run P w = .ok { target := .builtin b c.argTypes t cs, args := c.args.map ev } w :=
  ⟨_, by simp only [resolve, hc]; rfl⟩

theorem eqCells_V : ∀ {ks : List Bool} {l m l' m' : List Value} {r : Bool}, VL ρ l l' → VL ρ m m' → eqCells ks l m = some r → eqCells ks l' m' = some r := by
  intro ks
  induction ks with
  | nil =>
    intro l m l' m' r hl hm h
    cases hl with
    | nil => cases hm with
      | nil => exact h
      | cons _ _ => simp [eqCells] at h
    | cons _ _ => simp [eqCells] at h
  | cons q qs ih =>
    intro l m l' m' r hl hm h
    cases hl with
    | nil => simp [eqCells] at h
    | @cons x x' xs xs' hx hs => cases hm with
      | nil => simp [eqCells] at h
      | @cons y y' ys ys' hy ht =>
        simp only [eqCells] at h ⊢
        split at h
        · rename_i a b h1 h2
          have h2' := ih hs ht h2
          have h1' : eqCell q x' y' = some a := by
            unfold eqCell at h1
            split at h1
            · rw [hx.int_inv, hy.int_inv]; exact h1
            · rw [hx.bool_inv, hy.bool_inv]; exact h1
            · cases h1
          rw [h1', h2']; exact h
        · cases h

theorem eqV_V {q : EqK} {x y x' y' : Value} {b : Bool} (hx : V ρ x x') (hy : V ρ y y') (h : eqV q x y = some b) : eqV q x' y' = some b := by
  unfold eqV at h
  split at h
  · rw [hx.bool_inv, hy.bool_inv]; exact h
  · cases hx; cases hy <;> simpa [eqV] using h
  · cases hx; cases hy; simpa [eqV] using h
  · obtain ⟨xs', rfl, hl⟩ := hx.agg_inv
    obtain ⟨ys', rfl, hm⟩ := hy.agg_inv
    exact eqCells_V hl hm h
  · cases h

theorem eq_bin {t : TypeId} {q : EqK} (hq : eqOk P (t, q) = true) {x y : Value} {b : Bool} (h : eqV q x y = some b) (o1 o2 : Operand) (op : BinOp) :
    (eqGuard op t o1 o2 x y).run P w = .ok () w ∧ (binOp .eql t x y).run P w = .ok (.bool b) w ∧ (binOp .neq t x y).run P w = .ok (.bool (!b)) w := by
  have he := eq_run (w := w) hq h
  unfold eqV at h
  split at h
  · refine ⟨?_, ?_, ?_⟩
    · unfold eqGuard; split <;> rfl
    · simp only [binOp, Sem.run_bind, he, Result.andThen_ok, Sem.run_pure]
    · simp only [binOp, Sem.run_bind, he, Result.andThen_ok, Sem.run_pure]
  · refine ⟨?_, ?_, ?_⟩
    · unfold eqGuard; split <;> rfl
    · simp only [binOp, Sem.run_bind, he, Result.andThen_ok, Sem.run_pure]
    · simp only [binOp, Sem.run_bind, he, Result.andThen_ok, Sem.run_pure]
  · refine ⟨?_, ?_, ?_⟩
    · unfold eqGuard; split <;> rfl
    · simp only [binOp, Sem.run_bind, he, Result.andThen_ok, Sem.run_pure]
    · simp only [binOp, Sem.run_bind, he, Result.andThen_ok, Sem.run_pure]
  · obtain ⟨fs, hu, h1, h2, h3⟩ := eqOk_flat hq
    refine ⟨?_, ?_, ?_⟩
    · cases op <;> simp [eqGuard, h2]
    · simp only [binOp, Sem.run_bind, he, Result.andThen_ok, Sem.run_pure]
    · simp only [binOp, Sem.run_bind, he, Result.andThen_ok, Sem.run_pure]
  · cases h

theorem mem_of_lookup {α : Type} {l : List (Nat × α)} {t : Nat} {q : α} (h : l.lookup t = some q) : (t, q) ∈ l := by
  induction l with
  | nil => simp at h
  | cons p ps ih =>
    obtain ⟨a, b⟩ := p
    simp only [List.lookup_cons] at h
    split at h
    · rename_i hb; simp at hb h; subst hb; subst h; simp
    · exact List.mem_cons_of_mem _ (ih h)

theorem map_toList {ev : Operand → Value} {c : Call} {l : List Operand} (h : c.args.toList = l) : c.args.map ev = (l.map ev).toArray := by
  apply Array.ext'; simp [h]

theorem f_sound {C : Cx} {o : Oper} {xs : List Operand} {g : List Value → Option Value} (hf : fOf C o.op = some (xs, g)) (he : C.eqt.all (eqOk C.P) = true)
    {ev ev' : Operand → Value} (hx : VL ρ (xs.map ev) (xs.map ev')) {v : Value} (hg : g (xs.map ev) = some v) :
    ∃ v', (execOp ev' o).run C.P w = .ok (.value v') w ∧ V ρ v v' := by
  have fin : ∀ {s : Sem Value} {v' : Value}, s.run C.P w = .ok v' w → (do pure (Next.value (← s)) : Sem Next).run C.P w = .ok (.value v') w := by
    intro s v' h; simp [h]
  obtain ⟨dst, op, ty, pos, after, guard⟩ := o
  unfold fOf at hf
  cases op <;> simp only at hf
  case move x =>
    cases hf
    simp only [List.map_cons, List.map_nil] at hx hg
    obtain ⟨x', e, hv⟩ := hx.one
    simp [fMove] at hg e; subst hg
    exact ⟨_, by simp [execOp], e ▸ hv⟩
  case assign x =>
    cases hf
    simp only [List.map_cons, List.map_nil] at hx hg
    obtain ⟨x', e, hv⟩ := hx.one
    simp [fMove] at hg e; subst hg
    exact ⟨_, by simp [execOp], e ▸ hv⟩
  case pick c a b =>
    cases hf
    simp only [List.map_cons, List.map_nil] at hx hg
    obtain ⟨c', a', b', e, hc, ha, hb⟩ := hx.three
    simp at e
    obtain ⟨rfl, rfl, rfl⟩ := e
    unfold fPick at hg
    split at hg
    · rename_i h; cases hg; simp at h; obtain ⟨h1, rfl, _⟩ := h
      rw [h1] at hc; have := hc.bool_inv
      exact ⟨_, by simp [execOp, this, asBool], ha⟩
    · rename_i h; cases hg; simp at h; obtain ⟨h1, _, rfl⟩ := h
      rw [h1] at hc; have := hc.bool_inv
      exact ⟨_, by simp [execOp, this, asBool], hb⟩
    · cases hg
  case nilCheck x =>
    cases hf
    simp only [List.map_cons, List.map_nil] at hx hg
    obtain ⟨x', e, hv⟩ := hx.one
    simp at e; subst e
    unfold fNil at hg
    split at hg
    · rename_i a h; cases hg; simp at h; rw [h] at hv
      obtain ⟨a', e', _, _, _⟩ := hv.ptr_inv
      rw [e'] at hv
      exact ⟨_, by simp [execOp, e'], hv⟩
    · cases hg
  case fieldAddr s x f =>
    split at hf
    · rename_i fs hs
      split at hf
      · rename_i fd hfd
        split at hf
        · rename_i hk
          cases hf
          simp only [Bool.and_eq_true, bne_iff_ne, ne_eq] at hk
          simp only [List.map_cons, List.map_nil] at hx hg
          obtain ⟨x', e, hv⟩ := hx.one
          simp at e; subst e
          unfold fFld at hg
          split at hg
          · rename_i a h; cases hg; simp at h; rw [h] at hv
            obtain ⟨a', e', h1, h2, h3⟩ := hv.ptr_inv
            exact ⟨_, by simp only [execOp, e']; exact fin (run_fieldAt hs hfd hk.1 hk.2 h1), h3 _⟩
          · cases hg
        · cases hf
      · cases hf
    · cases hf
  case field s x f =>
    split at hf
    · rename_i fs hs
      split at hf
      · rename_i fd hfd
        split at hf
        · rename_i hk
          cases hf
          simp only [Bool.and_eq_true] at hk
          simp only [List.map_cons, List.map_nil] at hx hg
          obtain ⟨x', e, hv⟩ := hx.one
          simp at e; subst e
          unfold fFldV at hg
          split at hg
          · rename_i cs h; simp at h; rw [h] at hv
            obtain ⟨cs', e', hl⟩ := hv.agg_inv
            obtain ⟨hle, v', h1, h2⟩ := sub_sound hl hg
            exact ⟨v', by simp only [execOp, e']; exact fin (run_fieldV hs hfd hk.1 cs' (by simpa using hle) h1), h2⟩
          · cases hg
        · cases hf
      · cases hf
    · cases hf
  case indexAddr t x ix =>
    split at hf
    · rename_i e ht
      split at hf
      · rename_i hk
        cases hf
        simp only [List.map_cons, List.map_nil] at hx hg
        obtain ⟨x', i', e', hv, hi⟩ := hx.two
        simp at e'; obtain ⟨rfl, rfl⟩ := e'
        unfold fIxS at hg
        split at hg
        · rename_i a n c k i h
          simp at h; obtain ⟨h1, h2⟩ := h
          rw [h1] at hv; rw [h2] at hi
          split at hg
          · rename_i hb
            cases hg
            have ei := hi.int_inv
            obtain ⟨hb0, hb1⟩ := hb
            generalize hX : ev' x = X at hv
            cases hv with
            | @sl b o n c c' e hb hl hc =>
              refine ⟨_, by simp only [execOp, hX, ei]; exact fin (run_indexS ht hk rfl hb0 hb1), ?_⟩
              simpa [adv, Nat.add_assoc] using V.ptr (o := o + i.toNat * _) hb
            | slE => omega
          · cases hg
        · cases hg
      · cases hf
    · rename_i n e ht
      split at hf
      · rename_i hk
        cases hf
        simp only [Bool.and_eq_true] at hk
        simp only [List.map_cons, List.map_nil] at hx hg
        obtain ⟨x', i', e', hv, hi⟩ := hx.two
        simp at e'; obtain ⟨rfl, rfl⟩ := e'
        unfold fIxA at hg
        split at hg
        · rename_i a k i h
          simp at h; obtain ⟨h1, h2⟩ := h
          rw [h1] at hv; rw [h2] at hi
          split at hg
          · rename_i hb
            cases hg
            have ei := hi.int_inv
            obtain ⟨hb0, hb1⟩ := hb
            obtain ⟨a', ea, h3, h4, h5⟩ := hv.ptr_inv
            exact ⟨_, by simp only [execOp, ea, ei]; exact fin (run_indexA ht hk.1 h3 hb0 hb1), h5 _⟩
          · cases hg
        · cases hg
      · cases hf
    · cases hf
  case index t x ix =>
    split at hf
    · rename_i n e ht
      split at hf
      · rename_i hk
        cases hf
        simp only [Bool.and_eq_true] at hk
        simp only [List.map_cons, List.map_nil] at hx hg
        obtain ⟨x', i', e', hv, hi⟩ := hx.two
        simp at e'; obtain ⟨rfl, rfl⟩ := e'
        unfold fIxV at hg
        split at hg
        · rename_i cs k i h
          simp at h; obtain ⟨h1, h2⟩ := h
          rw [h1] at hv; rw [h2] at hi
          split at hg
          · rename_i hb
            have ei := hi.int_inv
            obtain ⟨hb0, hb1⟩ := hb
            obtain ⟨cs', e', hl⟩ := hv.agg_inv
            obtain ⟨hle, v', h1, h2⟩ := sub_sound hl hg
            exact ⟨v', by simp only [execOp, e', ei]; exact fin (run_indexV ht hk.1 cs' hb0 hb1 (by simpa using hle) h1), h2⟩
          · cases hg
        · cases hg
      · cases hf
    · cases hf
  case extract x ix =>
    cases hf
    simp only [List.map_cons, List.map_nil] at hx hg
    obtain ⟨x', e, hv⟩ := hx.one
    simp at e; subst e
    unfold fExt at hg
    split at hg
    · rename_i vs h
      simp at h; rw [h] at hv
      split at hg
      · cases hg
      · rename_i hs
        obtain ⟨vs', e', hl⟩ := hv.tup_inv hs
        obtain ⟨v', h1, h2⟩ := hl.get hg
        refine ⟨v', ?_, h2⟩
        have : vs'[ix]? = some v' := by simpa using h1
        simp [execOp, e', Instr.extract, this]
    · cases hg
  case binOp bop t x y yt =>
    cases hf
    simp only [List.map_cons, List.map_nil] at hx hg
    obtain ⟨x', y', e, hvx, hvy⟩ := hx.two
    simp at e; obtain ⟨rfl, rfl⟩ := e
    unfold fBin at hg
    split at hg
    · rename_i k a k' b h
      simp at h; obtain ⟨h1, h2⟩ := h
      rw [h1] at hvx; rw [h2] at hvy
      have ex := hvx.int_inv
      have ey := hvy.int_inv
      split at hg
      · rename_i hs
        refine ⟨v, ?_, ?_⟩
        · simp only [execOp, ex, ey]
          refine fin ?_
          rw [Sem.run_bind, eqGuard_int, Result.andThen_ok, sh_run t hs hg]
        · unfold shI at hg
          split at hg
          · cases hg
          · split at hg <;> cases hg <;> exact .int _ _
      · rename_i hs
        split at hg
        · rename_i hkk; subst hkk
          simp at hs
          refine ⟨v, ?_, ?_⟩
          · simp only [execOp, ex, ey]
            refine fin ?_
            rw [Sem.run_bind, eqGuard_int, Result.andThen_ok, binOp_int t hs, intCmp_run hg hs]
          · unfold binI at hg
            split at hg <;> first
              | (cases hg; exact .int _ _)
              | (cases hg; exact .bool _)
              | (split at hg <;> cases hg; exact .int _ _)
              | cases hg
        · cases hg
    · rename_i x0 y0 hno h
      simp at h; obtain ⟨h1, h2⟩ := h
      rw [h1] at hvx; rw [h2] at hvy
      have hq : ∀ {b : Bool}, eqV ((C.eqt.lookup t).getD .no) x0 y0 = some b → (eqGuard bop t x y (ev' x) (ev' y)).run C.P w = .ok () w ∧
          (binOp .eql t (ev' x) (ev' y)).run C.P w = .ok (.bool b) w ∧ (binOp .neq t (ev' x) (ev' y)).run C.P w = .ok (.bool (!b)) w := by
        intro b hb
        cases hl : C.eqt.lookup t with
        | none => rw [hl] at hb; simp [eqV] at hb
        | some q =>
          rw [hl] at hb
          exact eq_bin (List.all_eq_true.1 he _ (mem_of_lookup hl)) (eqV_V hvx hvy hb) x y bop
      split at hg
      · simp only [Option.map_eq_some_iff] at hg
        obtain ⟨b, hb, rfl⟩ := hg
        obtain ⟨q1, q2, q3⟩ := hq hb
        refine ⟨_, ?_, .bool b⟩
        simp only [execOp]
        refine fin ?_
        rw [Sem.run_bind, q1, Result.andThen_ok, q2]
      · simp only [Option.map_eq_some_iff] at hg
        obtain ⟨b, hb, rfl⟩ := hg
        obtain ⟨q1, q2, q3⟩ := hq hb
        refine ⟨_, ?_, .bool (!b)⟩
        simp only [execOp]
        refine fin ?_
        rw [Sem.run_bind, q1, Result.andThen_ok, q3]
      · cases hg
    · cases hg
  case unOp uop t x =>
    cases hf
    simp only [List.map_cons, List.map_nil] at hx hg
    obtain ⟨x', e, hv⟩ := hx.one
    simp at e; subst e
    unfold fUn at hg
    split at hg
    · rename_i b h; simp at h; rw [h] at hv
      split at hg
      · rename_i hu; subst hu; cases hg
        exact ⟨_, by simp [execOp, hv.bool_inv, Op.unary], .bool _⟩
      · cases hg
    · rename_i k n h; simp at h; rw [h] at hv
      split at hg
      · rename_i hu; subst hu; cases hg
        exact ⟨_, by simp [execOp, hv.int_inv, Op.unary, Op.intArith], .int _ _⟩
      · cases hg
    · cases hg
  case convert src dst x =>
    split at hf
    · rename_i k1 k2 h1 h2
      cases hf
      simp only [List.map_cons, List.map_nil] at hx hg
      obtain ⟨x', e, hv⟩ := hx.one
      simp at e; subst e
      unfold fConv at hg
      split at hg
      · rename_i k n h; simp at h; rw [h] at hv; cases hg
        exact ⟨_, by simp [execOp, hv.int_inv, convert, run_underlying' h1, run_underlying' h2, Conv.intToInt], .int _ _⟩
      · cases hg
    · cases hf
  case makeInterface t x =>
    split at hf
    · cases hf
    · cases hf
    · rename_i h1 h2
      cases hf
      simp only [List.map_cons, List.map_nil] at hx hg
      obtain ⟨x', e, hv⟩ := hx.one
      simp at e; subst e
      simp [fIface] at hg; subst hg
      obtain ⟨d, hd⟩ : ∃ d, C.P.underlying t = some d := by
        cases hu : C.P.underlying t with
        | none => exact absurd hu h2
        | some d => exact ⟨d, rfl⟩
      refine ⟨_, ?_, .iface t hv⟩
      simp only [execOp]
      refine fin ?_
      simp only [Instr.makeInterface, Sem.run_bind, run_underlying' hd, Result.andThen_ok]
      cases d <;> first | rfl | exact absurd hd (h1 _)
  case build t parts =>
    split at hf
    · rename_i fs z ht hz
      split at hf
      · rename_i hk
        cases hf
        obtain ⟨v', h1, h2⟩ := run_build (w := w) ht hz (fun f hf => Array.all_eq_true_iff_forall_mem.1 hk f hf) (zip_map_parts (ev := ev') parts) hx hg
        exact ⟨v', by simp only [execOp]; exact fin h1, h2⟩
      · cases hf
    · rename_i n e z ht hz
      split at hf
      · rename_i hk
        cases hf
        obtain ⟨v', h1, h2⟩ := run_buildA (w := w) ht hz hk (zip_map_parts (ev := ev') parts) hx hg
        exact ⟨v', by simp only [execOp]; exact fin h1, h2⟩
      · cases hf
    · cases hf
  case slice t x lo hi mx =>
    cases mx with
    | some _ => simp at hf
    | none =>
      simp only at hf
      split at hf
      · rename_i e ht
        split at hf
        · rename_i hk
          cases hf
          have core : ∀ {a : Option Addr} {n c : Nat} {l h : Int}, V ρ (.slice a n c) (ev' x) → bnd 0 (lo.map ev') = some l → (∀ n : Nat, h = n ∨ True → bnd n (hi.map ev') = some h ∨ hi = none) →
              (hi = none → h = n) → resl (tSz C.P e) a n c l h = some v → ∃ v', (execOp ev' ⟨dst, .slice t x lo hi none, ty, pos, after, guard⟩).run C.P w = .ok (.value v') w ∧ V ρ v v' := by
            intro a n c l h hv hlo hhi hn hr
            obtain ⟨a', c', e', h3, h0, h1, h2, hV⟩ := resl_sound hv hr
            refine ⟨_, ?_, hV⟩
            simp only [execOp, e', Option.map_none]
            refine fin (run_sliceAt ht hk hlo ?_ h0 h1 h2 h3)
            rcases hhi n (.inr trivial) with h | h
            · exact h
            · rw [h, hn h]; rfl
          unfold fSl at hg
          cases lo with
          | none =>
            cases hi with
            | none =>
              simp only [Option.toList, List.append_nil, List.map_cons, List.map_nil] at hx hg
              split at hg
              · rename_i a n c h
                simp at h hg
                obtain ⟨x', e', hv⟩ := hx.one
                simp at e'; subst e'
                rw [h] at hv
                exact core hv rfl (fun _ _ => .inr rfl) (fun _ => rfl) hg
              · rename_i h; simp at h
              · rename_i h; simp at h
              · cases hg
            | some hi =>
              simp only [Option.toList, List.append_nil, List.cons_append, List.nil_append, List.map_cons, List.map_nil] at hx hg
              split at hg
              · rename_i h; simp at h
              · rename_i a n c k i h
                simp at h hg
                obtain ⟨x', y', e', hv, hy⟩ := hx.two
                simp at e'; obtain ⟨rfl, rfl⟩ := e'
                rw [h.1] at hv; rw [h.2] at hy
                exact core hv rfl (fun _ _ => .inl (by simp [hy.int_inv, bnd])) (fun h => by cases h) hg
              · rename_i h; simp at h
              · cases hg
          | some lo =>
            cases hi with
            | none =>
              simp only [Option.toList, List.append_nil, List.cons_append, List.nil_append, List.map_cons, List.map_nil] at hx hg
              split at hg
              · rename_i h; simp at h
              · rename_i a n c k i h
                simp at h hg
                obtain ⟨x', y', e', hv, hy⟩ := hx.two
                simp at e'; obtain ⟨rfl, rfl⟩ := e'
                rw [h.1] at hv; rw [h.2] at hy
                exact core hv (by simp [hy.int_inv, bnd]) (fun _ _ => .inr rfl) (fun _ => rfl) hg
              · rename_i h; simp at h
              · cases hg
            | some hi =>
              simp only [Option.toList, List.append_nil, List.cons_append, List.nil_append, List.map_cons, List.map_nil] at hx hg
              split at hg
              · rename_i h; simp at h
              · rename_i h; simp at h
              · rename_i a n c k i k2 j h
                simp at h hg
                obtain ⟨x', y', z', e', hv, hy, hz⟩ := hx.three
                simp at e'; obtain ⟨rfl, rfl, rfl⟩ := e'
                rw [h.1] at hv; rw [h.2.1] at hy; rw [h.2.2] at hz
                exact core hv (by simp [hy.int_inv, bnd]) (fun _ _ => .inl (by simp [hz.int_inv, bnd])) (fun h => by cases h) hg
              · cases hg
        · cases hf
      · cases hf
  case call c =>
    split at hf
    · rename_i x t hc ha ht
      split at hf
      · rename_i e hu
        cases hf
        simp only [List.map_cons, List.map_nil] at hx hg
        obtain ⟨x', e', hv⟩ := hx.one
        simp at e'; subst e'
        unfold fLen at hg
        split at hg
        · rename_i a n c0 h
          simp at h; rw [h] at hv; cases hg
          have hlen : ∃ a' c', ev' x = .slice a' n c' := by
            generalize hX : ev' x = X at hv
            cases hv <;> exact ⟨_, _, rfl⟩
          obtain ⟨a', c', e'⟩ := hlen
          obtain ⟨cs, hr⟩ := run_resolve_bi C.P w (ev := ev') (t := ty) hc
          refine ⟨_, ?_, .int _ _⟩
          have hat : c.argTypes = #[t] := Array.ext' (by simpa using ht)
          simp only [execOp, Sem.run_bind, hr, Result.andThen_ok, invoke, builtin, map_toList ha, hat, List.map_cons, List.map_nil]
          simp [Builtin.len_, run_underlying' hu, e', goInt]
        · cases hg
      · cases hf
    · rename_i x y hc ha
      cases hf
      simp only [List.map_cons, List.map_nil] at hx hg
      obtain ⟨x', y', e', hvx, hvy⟩ := hx.two
      simp at e'; obtain ⟨rfl, rfl⟩ := e'
      unfold fMin at hg
      split at hg
      · rename_i k a k2 b h
        simp at h; rw [h.1] at hvx; rw [h.2] at hvy; cases hg
        obtain ⟨cs, hr⟩ := run_resolve_bi C.P w (ev := ev') (t := ty) hc
        refine ⟨_, ?_, .int _ _⟩
        simp only [execOp, Sem.run_bind, hr, Result.andThen_ok, invoke, builtin, map_toList ha, List.map_cons, List.map_nil]
        simp [Builtin.min_, Builtin.min2, hvx.int_inv, hvy.int_inv]
      · cases hg
    · rename_i x y hc ha
      cases hf
      simp only [List.map_cons, List.map_nil] at hx hg
      obtain ⟨x', y', e', hvx, hvy⟩ := hx.two
      simp at e'; obtain ⟨rfl, rfl⟩ := e'
      unfold fMax at hg
      split at hg
      · rename_i k a k2 b h
        simp at h; rw [h.1] at hvx; rw [h.2] at hvy; cases hg
        obtain ⟨cs, hr⟩ := run_resolve_bi C.P w (ev := ev') (t := ty) hc
        refine ⟨_, ?_, .int _ _⟩
        simp only [execOp, Sem.run_bind, hr, Result.andThen_ok, invoke, builtin, map_toList ha, List.map_cons, List.map_nil]
        simp [Builtin.max_, Builtin.max2, hvx.int_inv, hvy.int_inv]
      · cases hg
    · cases hf
  all_goals cases hf

end

end Go.Fl
