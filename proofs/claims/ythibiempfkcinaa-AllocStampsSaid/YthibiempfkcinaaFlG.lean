/- Each operation comes in the world to what its reading says. No condition. -/
import Derived.Test.YthibiempfkcinaaFlF
namespace Go.Fl
open Go
set_option linter.unusedVariables false
set_option linter.unusedSimpArgs false

section
variable {C : Cx} {ρ0 : Ren} {σ0 : Mem} {w0 : World} {lm : Nat → Option Nat} {ρ : Ren} {s : St} {σ : Mem} {a : Act} {w : World}

theorem run_newVar {P : Program} (t : TypeId) (v : Value) (w : World) :
    (newVar t v).run P w = .ok ⟨w.heap.size, 0, none⟩ { w with heap := w.heap.push (.cells v.cells t) } := by
  simp [newVar, newRow]

theorem finV {P : Program} {s : Sem Value} {v' : Value} {w w' : World} (h : s.run P w = .ok v' w') : (do pure (Next.value (← s)) : Sem Next).run P w = .ok (.value v') w' := by
  simp [h]

theorem finU {P : Program} {s : Sem Unit} {w w' : World} (h : s.run P w = .ok () w') : (do s; pure Next.skip : Sem Next).run P w = .ok .skip w' := by
  simp [h]

/-- A fresh name for a block. -/
theorem fresh2 (h : Sim ρ σ w) : ∃ id, σ.get id = none ∧ ρ id = none := by
  obtain ⟨N, hN⟩ := σ.fin
  obtain ⟨M, hM⟩ := h.s3
  exact ⟨N + M, hN _ (by omega), hM _ (by omega)⟩

/-- What a value operation needs of its store: to come to a value and a store. -/
def Step (P : Program) (o : Oper) (a : Act) (ρ : Ren) (σ : Mem) (w : World) (K : Value → Mem → Prop) : Prop :=
  ∀ (next : Act → World → Prop) (Q : Exit → Act → World → Prop),
    (∀ v v' ρ' σ' w', K v σ' → V ρ' v v' → Sim ρ' σ' w' → Stp ρ σ w ρ' σ' w' → next (a.put o.dst v') w') → o.wp P a w next Q

theorem step_value {P : Program} {o : Oper} {K : Value → Mem → Prop} {v v' : Value} {ρ' : Ren} {σ' : Mem} {w' : World}
    (hr : (execOp a.eval o).run P w = .ok (.value v') w') (hk : K v σ') (hv : V ρ' v v') (hs : Sim ρ' σ' w') (ht : Stp ρ σ w ρ' σ' w') : Step P o a ρ σ w K := by
  intro next Q hn
  unfold Oper.wp
  rw [hr, Oper.upon_value]
  exact hn _ _ _ _ _ hk hv hs ht

theorem step_skip' {P : Program} {o : Oper} {K : Value → Mem → Prop} {ρ' : Ren} {σ' : Mem} {w' : World}
    (hr : (execOp a.eval o).run P w = .ok .skip w') (hk : K undef σ') (hs : Sim ρ' σ' w') (ht : Stp ρ σ w ρ' σ' w') : Step P o a ρ σ w K := by
  intro next Q hn
  unfold Oper.wp
  rw [hr, Oper.upon_skip]
  exact hn _ _ _ _ _ hk .undef hs ht

theorem V.ptr_of {b o : Nat} {e : RE} {v' : Value} (h : V ρ (.pointer (some ⟨b, o, none⟩)) v') (he : ρ b = some e) : v' = .pointer (some ⟨e.blk, e.sh + o, none⟩) := by
  cases h with
  | ptr h => rw [he] at h; cases h; rfl

theorem step_load {o : Oper} {t : TypeId} {p : Operand} (ho : o.op = .load t p) (hk : tKnown C.P t = true) (hA : (tAgg C.P t || tSz C.P t == 1) = true)
    (hp : V ρ (evO s p) (a.eval p)) (hs : Sim ρ σ w) {K : Value → Mem → Prop} (h : hLoad (tSz C.P t) (tAgg C.P t) [evO s p] K σ) : Step C.P o a ρ σ w K := by
  obtain ⟨dst, op, ty, pos, after, guard⟩ := o
  simp only at ho; subst ho
  unfold hLoad at h
  split at h
  · rename_i b off hx
    simp at hx
    split at h
    · rename_i v hv
      unfold rd at hv
      split at hv
      · rename_i blk hg
        obtain ⟨e, arr, el, fz, q1, q2, q3, q4, q5, q6⟩ := hs.s1 _ _ hg
        rw [hx] at hp
        have hp' : a.eval p = .pointer (some ⟨e.blk, e.sh + off, none⟩) := hp.ptr_of q1
        obtain ⟨hle, v', h1, h2⟩ := sub_sound q5 hv
        have hwl : (win arr e.sh blk.cells.length).length = blk.cells.length := q5.len.symm
        rw [hwl] at hle
        have hv' : (if tAgg C.P t then some (.agg ((arr.toList.drop (e.sh + off)).take (tSz C.P t)).toArray) else arr.toList[e.sh + off]?) = some v' := by
          rw [← h1]
          unfold win
          cases hg : tAgg C.P t
          · have : tSz C.P t = 1 := by simpa [hg] using hA
            simp only [Bool.false_eq_true, if_false]
            rw [List.getElem?_take, List.getElem?_drop, if_pos (by omega)]
          · simp only [if_true]
            rw [List.drop_take, List.take_take, List.drop_drop, Nat.min_eq_left (by omega)]
        have hr := run_loadVar (P := C.P) (w := w) hk (by simpa using hA) q2 (o := e.sh + off) (by omega) hv'
        refine step_value (v' := v') ?_ h h2 hs (Stp.refl _ _ _)
        simp only [execOp, hp']
        exact finV (by simp only [Instr.loadAt, Instr.sureAddr, Sem.run_bind, Sem.run_pure, Result.andThen_ok, hr])
      · cases hv
    · exact h.elim
  · exact h.elim

theorem step_store {o : Oper} {t : TypeId} {p x : Operand} (ho : o.op = .store t p x) (hk : tKnown C.P t = true)
    (hp : V ρ (evO s p) (a.eval p)) (hx : V ρ (evO s x) (a.eval x)) (hs : Sim ρ σ w) {K : Value → Mem → Prop} (h : hStore (tSz C.P t) [evO s p, evO s x] K σ) : Step C.P o a ρ σ w K := by
  obtain ⟨dst, op, ty, pos, after, guard⟩ := o
  simp only at ho; subst ho
  unfold hStore at h
  split at h
  · rename_i b off x0 hxx
    simp at hxx
    split at h
    · rename_i τ hτ
      unfold wr at hτ
      split at hτ
      · rename_i blk c hg hc
        split at hτ
        · rename_i hb
          cases hτ
          obtain ⟨hrw, hle, hone⟩ := hb
          obtain ⟨e, arr, el, fz, q1, q2, q3, q4, q5, q6⟩ := hs.s1 _ _ hg
          have := q6 hrw; subst this
          rw [hxx.1] at hp; rw [hxx.2] at hx
          have hp' : a.eval p = .pointer (some ⟨e.blk, e.sh + off, none⟩) := hp.ptr_of q1
          obtain ⟨c', hc', hl⟩ := hx.cells hc
          have hlc := (cells_of hc).2.2
          obtain ⟨w', hr, hu⟩ := run_storeVar (P := C.P) (w := w) (o := e.sh + off) hk q2 hc' (hl.oneB hone) (by omega)
          obtain ⟨k1, k2, k3⟩ := hs.upd hg hrw q1 q2 (o := off) (by omega) hl hu
          refine step_skip' (w' := w') ?_ h k1 k2
          simp only [execOp, hp']
          exact finU (by simp only [Instr.storeAt, Instr.sureAddr, Sem.run_bind, Sem.run_pure, Result.andThen_ok, hr])
        · cases hτ
      · cases hτ
    · exact h.elim
  · exact h.elim

theorem win_all (arr : Array Value) : win arr 0 arr.size = arr.toList := by
  unfold win
  simp [List.take_of_length_le]

/-- A new block, whatever makes it. -/
theorem step_new {o : Oper} {c : List Value} {v : Nat → Value} {K : Value → Mem → Prop} (hs : Sim ρ σ w) (h : newB c v K σ) {arr : Array Value} {el : TypeId} {w' : World} {v' : Value}
    (hp : Push w (.cells arr el (0, 0)) w') (hv : VL ρ c (win arr 0 c.length)) (hlen : c.length ≤ arr.size) (hr : (execOp a.eval o).run C.P w = .ok (.value v') w')
    (hV : ∀ ρ' id, ρ' id = some ⟨w.heap.size, 0, arr.size⟩ → V ρ' (v id) v') : Step C.P o a ρ σ w K := by
  obtain ⟨id, h1, h2⟩ := fresh2 hs
  obtain ⟨ρ', q1, q2, q3, q4⟩ := hs.push h1 h2 hp (Nat.le_refl arr.size) hlen hv
  exact step_value hr (h id h1) (hV ρ' id q1) q2 q3

theorem step_alloc {o : Oper} {e : TypeId} (ho : o.op = .alloc e) {z : List Value} (hz : tZero C.P e = some z) (hs : Sim ρ σ w) {K : Value → Mem → Prop}
    (h : hAlloc z [] K σ) : Step C.P o a ρ σ w K := by
  obtain ⟨dst, op, ty, pos, after, guard⟩ := o
  simp only at ho; subst ho
  obtain ⟨i, zv, hi, hzv, hc, _, hvl, _, _⟩ := tZero_spec (ρ := ρ) hz
  refine step_new hs h (arr := zv.cells) (el := e) (push_new w _) ?_ ?_ (v' := .pointer (some ⟨w.heap.size, 0, none⟩)) ?_ (fun ρ' id h => by simpa using V.ptr (o := 0) h)
  · have : z.length = zv.cells.size := by rw [← hc]; simp
    rw [this, win_all, hc]; exact hvl
  · rw [← hc]; simp
  · simp only [execOp]
    refine finV ?_
    simp only [Instr.alloc, Sem.run_bind, run_zeroValue' hi hzv, Result.andThen_ok, run_newVar, Sem.run_pure]

theorem step_box {o : Oper} {e : TypeId} {x : Operand} (ho : o.op = .box e x) (hx : V ρ (evO s x) (a.eval x)) (hs : Sim ρ σ w) {K : Value → Mem → Prop} {sz : Nat}
    (h : hBox sz [evO s x] K σ) : Step C.P o a ρ σ w K := by
  obtain ⟨dst, op, ty, pos, after, guard⟩ := o
  simp only at ho; subst ho
  simp only [hBox] at h
  split at h
  · rename_i c hc
    · skip
      obtain ⟨c', hc', hl⟩ := hx.cells hc
      obtain ⟨e1, e2, e3⟩ := cells_of hc'
      have e4 := (cells_of hc).2.2
      refine step_new hs h (arr := (a.eval x).cells) (el := e) (push_new w _) ?_ (by omega) (v' := .pointer (some ⟨w.heap.size, 0, none⟩)) ?_ (fun ρ' id h => by simpa using V.ptr (o := 0) h)
      · rw [e4, ← e2, win_all, e1]; exact hl
      · simp only [execOp]
        refine finV ?_
        simp only [Instr.box, Sem.run_bind, Result.andThen_ok, run_newVar, Sem.run_pure]
  · exact h.elim

theorem range_flat (z : List Value) (n : Nat) : ((Array.range (n * z.length)).map (z.toArray[· % z.toArray.size]!)).toList = (List.replicate n z).flatten := by
  induction n with
  | zero => simp
  | succ n ih =>
    have h1 : (List.replicate (n + 1) z).flatten = (List.replicate n z).flatten ++ z := by
      rw [List.replicate_succ', List.flatten_append]; simp
    rw [h1, ← ih]
    apply List.ext_getElem
    · simp [Nat.succ_mul]
    · intro i hi hi'
      simp only [Array.toList_map, List.getElem_map, Array.getElem_toList, Array.getElem_range, List.getElem_append, Array.length_toList, Array.size_map, Array.size_range]
      have hi2 : i < n * z.length + z.length := by simpa [Nat.succ_mul] using hi
      split
      · rfl
      · rename_i hge
        have hge2 : n * z.length ≤ i := by simpa using hge
        have hz : 0 < z.length := by omega
        have : i % z.length = i - n * z.length := by
          have e : i = (i - n * z.length) + n * z.length := by omega
          rw [e, Nat.add_mul_mod_self_right, Nat.mod_eq_of_lt (by omega)]
          omega
        simp only [List.size_toArray, this]
        rw [getElem!_pos _ _ (by simp; omega)]
        simp

theorem zero_flat {P : Program} {e : TypeId} {z : List Value} (hz : tZero P e = some z) (ρ : Ren) (n : Nat) :
    VL ρ (List.replicate n z).flatten (List.replicate n z).flatten ∧ (List.replicate n z).flatten.length = n * tSz P e := by
  obtain ⟨i, zv, hi, hzv, hc, h1, hvl, h2, _⟩ := tZero_spec (ρ := ρ) hz
  induction n with
  | zero => simp; exact .nil
  | succ n ih =>
    refine ⟨?_, ?_⟩
    · rw [List.replicate_succ, List.flatten_cons]
      exact hvl.append ih.1
    · rw [List.replicate_succ, List.flatten_cons, List.length_append, ih.2, h2, Nat.succ_mul, Nat.add_comm]

/-- The cells that buildSlice lays. -/
theorem run_buildS {P : Program} {t e : TypeId} (ht : P.underlying t = some (.slice e)) {z : List Value} (hz : tZero P e = some z) {len : Nat} (hb : Nat.ble (len * tSz P e) 16777216 = true)
    {parts : Array (Nat × Value)} {idx : List Nat} {vs vs' : List Value} (hp : parts.toList = idx.zip vs') (hv : VL ρ vs vs') {c : List Value}
    (h : fillL (fun i => some (i * tSz P e, tSz P e)) (List.replicate len z).flatten idx vs = some c) :
    ∃ c', VL ρ c c'.toList ∧ (Instr.buildSlice t len parts).run P w = .ok (.slice (some ⟨w.heap.size, 0, none⟩) len len) { w with heap := w.heap.push (.cells c' e) } := by
  obtain ⟨i, zv, hi, hzv, hc, hsz, hvl, h2, _⟩ := tZero_spec (ρ := ρ) hz
  obtain ⟨zf, zl⟩ := zero_flat hz ρ len
  obtain ⟨c', h3, h4⟩ := fill_sound (fun _ _ h => h) zf hv h
  refine ⟨c', h4, ?_⟩
  have hk : tKnown P e = true ∨ True := .inr trivial
  have hcz : zv.cells = z.toArray := Array.ext' (by simpa using hc)
  have hso : (sizeOf e).run P w = .ok (tSz P e) w := by simp [sizeOf, typeInfo, hi, tSz, Program.cellsOf]
  have hle : ¬ len * tSz P e > 2 ^ 24 := by
    have := Nat.le_of_ble_eq_true hb
    simpa using this
  have hcells : ∀ (zc : Array Value), (len * tSz P e = 0 ∨ zc = z.toArray) → ((Array.range (len * tSz P e)).map (zc[· % zc.size]!)) = (List.replicate len z).flatten.toArray := by
    intro zc hzc
    apply Array.ext'
    rcases hzc with h0 | rfl
    · rw [h0]
      have : (List.replicate len z).flatten.length = 0 := by rw [zl, h0]
      simp [List.length_eq_zero_iff.1 this]
    · rw [← h2]; simpa using range_flat z len
  simp only [Instr.buildSlice, Sem.run_bind, run_underlying' ht, Result.andThen_ok, hso, Sem.run_ite, hle, if_false, Sem.run_pure]
  by_cases h0 : len * tSz P e = 0
  · simp only [h0, if_true, Sem.run_pure, Result.andThen_ok]
    have := hcells #[] (.inl h0)
    rw [h0] at this
    simp only [this, hp, h3, Sem.run_bind, newRow, run_newObj, Result.andThen_ok, Sem.run_pure]
  · simp only [h0, if_false, Sem.run_bind, run_zeroValue' hi hzv, Sem.run_pure, Result.andThen_ok, hcz]
    have := hcells z.toArray (.inr rfl)
    simp only [this, hp, h3, Sem.run_bind, newRow, run_newObj, Result.andThen_ok, Sem.run_pure]

theorem fillL_len {places : Nat → Option (Nat × Nat)} : ∀ {idx : List Nat} {cells vs c : List Value}, fillL places cells idx vs = some c → c.length = cells.length := by
  intro idx
  induction idx with
  | nil => intro cells vs c h; cases vs <;> simp [fillL] at h; rw [h]
  | cons i is ih =>
    intro cells vs c h
    cases vs with
    | nil => simp [fillL] at h
    | cons v vs =>
      simp only [fillL] at h
      split at h
      · split at h
        · split at h
          · rename_i off sz hp _ cc hcc hle
            rw [ih h]
            have := (cells_of hcc).2.2
            simp [lay]; omega
          · cases h
        · cases h
      · cases h

theorem step_buildS {o : Oper} {t e : TypeId} {len : Nat} {parts : Array (Nat × Operand)} (ho : o.op = .buildSlice t len parts) (ht : C.P.underlying t = some (.slice e))
    {z : List Value} (hz : tZero C.P e = some z) (hb : Nat.ble (len * tSz C.P e) 16777216 = true)
    (hx : VL ρ ((parts.toList.map (·.2)).map (evO s)) ((parts.toList.map (·.2)).map a.eval)) (hs : Sim ρ σ w) {K : Value → Mem → Prop}
    (h : hBuildS (tSz C.P e) len z (parts.toList.map (·.1)) ((parts.toList.map (·.2)).map (evO s)) K σ) : Step C.P o a ρ σ w K := by
  obtain ⟨dst, op, ty, pos, after, guard⟩ := o
  simp only at ho; subst ho
  unfold hBuildS at h
  split at h
  · rename_i c hc
    obtain ⟨c', h1, h2⟩ := run_buildS (w := w) ht hz hb (zip_map_parts (ev := a.eval) parts) hx hc
    have hlen := fillL_len hc
    have hsz : c'.size = len * tSz C.P e := by
      have := h1.len; rw [hlen, (zero_flat hz ρ len).2] at this; simpa using this.symm
    refine step_new hs h (arr := c') (el := e) (push_new w _) ?_ (by have := h1.len; simp at this; omega) (v' := .slice (some ⟨w.heap.size, 0, none⟩) len len) ?_ (fun ρ' id h => ?_)
    · have : c.length = c'.size := by have := h1.len; simpa using this
      rw [this, win_all]; exact h1
    · simp only [execOp]; exact finV h2
    · have := V.sl (ρ := ρ') (o := 0) (n := len) (c := tSz C.P e) (c' := len) h (Nat.le_refl _) (by simp [hsz])
      simpa using this
  · exact h.elim


theorem wrap_id {n : Int} (h0 : 0 ≤ n) (h1 : n ≤ 1073741824) : IntKind.i64.wrap n = n := by
  simp [IntKind.wrap, IntKind.bits, IntKind.signed]
  omega

theorem step_makeS {o : Oper} {t e : TypeId} {n m : Operand} (ho : o.op = .makeSlice t n m) (ht : C.P.underlying t = some (.slice e))
    {z : List Value} (hz : tZero C.P e = some z) (hn : V ρ (evO s n) (a.eval n)) (hm : V ρ (evO s m) (a.eval m)) (hs : Sim ρ σ w) {K : Value → Mem → Prop}
    (h : hMakeS (tSz C.P e) (C.P.bytesOf e) z [evO s n, evO s m] K σ) : Step C.P o a ρ σ w K := by
  obtain ⟨dst, op, ty, pos, after, guard⟩ := o
  simp only at ho; subst ho
  unfold hMakeS at h
  split at h
  · rename_i x y hxy
    simp at hxy
    rw [hxy.1] at hn; rw [hxy.2] at hm
    split at h
    · rename_i hb
      obtain ⟨rfl, h0, h1, h2⟩ := hb
      obtain ⟨i, zv, hi, hzv, hc, hsz, hvl, hl2, _⟩ := tZero_spec (ρ := ρ) hz
      obtain ⟨zf, zl⟩ := zero_flat hz ρ x.toNat
      have hcz : zv.cells = z.toArray := Array.ext' (by simpa using hc)
      have hso : (sizeOf e).run C.P w = .ok (tSz C.P e) w := by simp [sizeOf, typeInfo, hi, tSz, Program.cellsOf]
      have hby : i.bytes ≤ 1024 := by simpa [Program.bytesOf, hi] using h2
      have hbn : (i.bytes : Int) * x ≤ 1024 * 1073741824 := by
        have : (i.bytes : Int) * x ≤ 1024 * x := Int.mul_le_mul_of_nonneg_right (by omega) h0
        omega
      have hcells : ∀ (zc : Array Value), (x.toNat * tSz C.P e = 0 ∨ zc = z.toArray) → ((Array.range (x.toNat * tSz C.P e)).map (zc[· % zc.size]!)) = (List.replicate x.toNat z).flatten.toArray := by
        intro zc hzc
        apply Array.ext'
        rcases hzc with h0 | rfl
        · rw [h0]
          have : (List.replicate x.toNat z).flatten.length = 0 := by rw [zl, h0]
          simp [List.length_eq_zero_iff.1 this]
        · rw [← hl2]; simpa using range_flat z x.toNat
      refine step_new hs h (arr := (List.replicate x.toNat z).flatten.toArray) (el := e) (push_new w _) ?_ (by simp) (v' := .slice (some ⟨w.heap.size, 0, none⟩) x.toNat x.toNat) ?_ (fun ρ' id h => ?_)
      · have : (List.replicate x.toNat z).flatten.length = (List.replicate x.toNat z).flatten.toArray.size := by simp
        rw [this, win_all]; exact zf
      · simp only [execOp, hn.int_inv, hm.int_inv]
        refine finV ?_
        simp only [Instr.makeSlice, Sem.run_bind, run_underlying' ht, Result.andThen_ok, asInt, asIntOf, Sem.run_pure, run_typeInfo' hi, wrap_id h0 h1]
        have c1 : ¬ (x < 0) := by omega
        have c2 : ¬ ((i.bytes : Int) * x > 2 ^ 48) := by omega
        simp only [c1, c2, decide_false, Bool.or_self, Bool.false_or, Bool.or_false, gt_iff_lt, Int.lt_irrefl, Bool.false_eq_true, if_false, Sem.run_ite, Sem.run_bind, run_askRoom, Result.andThen_ok, hso, Sem.run_pure]
        by_cases h00 : x.toNat * tSz C.P e = 0
        · simp only [h00, if_true, Sem.run_pure, Result.andThen_ok]
          have := hcells #[] (.inl h00)
          rw [h00] at this
          simp only [this, newRow, Sem.run_bind, run_newObj, Result.andThen_ok, Sem.run_pure]
        · simp only [h00, if_false, Sem.run_bind, run_zeroValue' hi hzv, Sem.run_pure, Result.andThen_ok, hcz]
          have := hcells z.toArray (.inr rfl)
          simp only [this, newRow, Sem.run_bind, run_newObj, Result.andThen_ok, Sem.run_pure]
      · have := V.sl (ρ := ρ') (o := 0) (n := x.toNat) (c := tSz C.P e) (c' := x.toNat) h (Nat.le_refl _) (by simp only [List.size_toArray, zl]; omega)
        simpa using this
    · exact h.elim
  · exact h.elim

theorem growBy_le (n : Nat) : ∀ (r c : Nat), c ≤ n + (n + 768) / 4 → Builtin.growBy n r c ≤ n + (n + 768) / 4
  | 0, c, h => h
  | r + 1, c, h => by
    simp only [Builtin.growBy]
    split
    · exact h
    · exact growBy_le n r _ (by omega)

theorem nextcap_le {n c : Nat} (h : c < n) : Builtin.nextslicecap n c ≤ 2 * n + 1000 := by
  unfold Builtin.nextslicecap
  split
  · omega
  · split
    · omega
    · have := growBy_le n 4 c (by omega)
      omega

/-- The cells of a slice, read. -/
theorem run_first {P : Program} {es n : Nat} {x x' : Value} (hx : V ρ x x') (hs : Sim ρ σ w) {new : List Value} (h : srcOf σ es x = some new) (hn : lenS x = n) :
    ∃ new', VL ρ new new' ∧ new.length = n * es ∧ (∀ w' : World, w'.heap = w.heap → (Builtin.firstCells es n x').run P w' = .ok new'.toArray w') ∧ ∃ a c, x' = .slice a n c := by
  unfold srcOf at h
  split at h
  · cases h
    simp [lenS] at hn; subst hn
    cases hx
    exact ⟨[], .nil, by simp, fun w' _ => by simp [Builtin.firstCells], none, 0, rfl⟩
  · rename_i b o m c
    simp [lenS] at hn; subst hn
    split at h
    · rename_i blk hg
      split at h
      · rename_i hle
        cases h
        obtain ⟨e, arr, el, fz, q1, q2, q3, q4, q5, q6⟩ := hs.s1 _ _ hg
        have hwl : ∀ {k : Nat}, o + k ≤ blk.cells.length → ((win arr e.sh blk.cells.length).drop o).take k = (arr.toList.drop (e.sh + o)).take k := by
          intro k hk
          unfold win
          rw [List.drop_take, List.take_take, List.drop_drop, Nat.min_eq_left (by omega)]
        cases hx with
        | @sl _ _ _ _ c' e2 hb hl hc =>
          rw [q1] at hb; cases hb
          refine ⟨_, (q5.drop o).take _, by simp; omega, fun w' hw => ?_, _, _, rfl⟩
          have hq : w'.heap[e.blk]? = some (.cells arr el fz) := by rw [hw]; exact q2
          simp only [Builtin.firstCells, loadCells]
          rw [run_loadCellsFrom hq _ 0 #[] (by omega), hwl hle]
          simp
        | @slE _ _ _ a' =>
          refine ⟨[], by simpa using VL.nil, by simp, fun w' hw => ?_, _, _, rfl⟩
          simp [Builtin.firstCells, loadCells, loadCellsFrom]
      · cases h
    · cases h
  · cases h

end

end Go.Fl
