/- The store against the world's memory; what loads, stores and new blocks do there. No condition. -/
import Derived.Test.YthibiempfkcinaaFlD
namespace Go.Fl
open Go
set_option linter.unusedVariables false
set_option linter.unusedSimpArgs false

/-- Nothing but memory is another one. -/
structure Same (w w' : World) : Prop where
  os : w'.os = w.os
  tape : w'.tape = w.tape
  output : w'.output = w.output

theorem Same.refl (w : World) : Same w w := ⟨rfl, rfl, rfl⟩
theorem Same.trans {a b c : World} (h : Same a b) (k : Same b c) : Same a c := ⟨k.os.trans h.os, k.tape.trans h.tape, k.output.trans h.output⟩

/-- One block is another one. -/
structure Upd (w : World) (b : Nat) (o : Obj) (w' : World) : Prop where
  same : Same w w'
  size : w'.heap.size = w.heap.size
  rest : ∀ k, k ≠ b → w'.heap[k]? = w.heap[k]?
  here : w'.heap[b]? = some o

/-- One block more. -/
structure Push (w : World) (o : Obj) (w' : World) : Prop where
  same : Same w w'
  size : w'.heap.size = w.heap.size + 1
  rest : ∀ k, k < w.heap.size → w'.heap[k]? = w.heap[k]?
  here : w'.heap[w.heap.size]? = some o

section
variable {P : Program} {w : World} {ρ : Ren}

theorem push_new (w : World) (o : Obj) : Push w o { w with heap := w.heap.push o } :=
  ⟨⟨rfl, rfl, rfl⟩, by simp, fun k hk => by simp [Array.getElem?_push, Nat.ne_of_lt hk], by simp⟩

theorem cell_of {b o : Nat} {arr : Array Value} {el : TypeId} {fz : Nat × Nat} (h : w.heap[b]? = some (.cells arr el fz)) : w.cell? ⟨b, o, none⟩ = arr[o]? := by
  simp [World.cell?, h]

theorem run_load' {b o : Nat} {arr : Array Value} {el : TypeId} {fz : Nat × Nat} (h : w.heap[b]? = some (.cells arr el fz)) {v : Value} (hv : arr[o]? = some v) :
    (load ⟨b, o, none⟩).run P w = .ok v w := by
  simp [cell_of h, hv]

theorem add_none (b o n : Nat) : Addr.add ⟨b, o, none⟩ n = ⟨b, o + n, none⟩ := add_adv rfl n

theorem run_loadCellsFrom {b o : Nat} {arr : Array Value} {el : TypeId} {fz : Nat × Nat} (h : w.heap[b]? = some (.cells arr el fz)) : ∀ (n i : Nat) (acc : Array Value),
    o + i + n ≤ arr.size → (loadCellsFrom ⟨b, o, none⟩ i n acc).run P w = .ok (acc ++ ((arr.toList.drop (o + i)).take n).toArray) w := by
  intro n
  induction n with
  | zero => intro i acc _; simp [loadCellsFrom]
  | succ n ih =>
    intro i acc hle
    have hlt : o + i < arr.size := by omega
    have hv : arr[o + i]? = some arr[o + i] := by simp [hlt]
    simp only [loadCellsFrom, Sem.run_bind, add_none, run_load' h hv, Result.andThen_ok]
    rw [ih (i + 1) _ (by omega)]
    congr 1
    apply Array.ext'
    have hl : o + i < arr.toList.length := by simpa using hlt
    rw [List.drop_eq_getElem_cons hl]
    simp [Nat.add_assoc]

theorem run_loadVar {t : TypeId} (hk : tKnown P t = true) (hA : tAgg P t = true ∨ tSz P t = 1) {b o : Nat} {arr : Array Value} {el : TypeId} {fz : Nat × Nat}
    (h : w.heap[b]? = some (.cells arr el fz)) (hl : o + tSz P t ≤ arr.size) {v : Value}
    (hv : (if tAgg P t then some (.agg ((arr.toList.drop o).take (tSz P t)).toArray) else arr.toList[o]?) = some v) : (loadVar t ⟨b, o, none⟩).run P w = .ok v w := by
  simp only [loadVar, Sem.run_bind, run_isAgg' hk, Result.andThen_ok]
  cases hg : tAgg P t
  · simp only [hg, Bool.false_eq_true, if_false] at hv ⊢
    exact run_load' h (by simpa using hv)
  · simp only [hg, if_true, Option.some.injEq] at hv ⊢
    subst hv
    simp only [Sem.run_bind, run_sizeOf' hk, Result.andThen_ok, loadCells, run_loadCellsFrom h _ 0 #[] (by simpa using hl), Sem.run_pure]
    simp

theorem frozen_no {b o : Nat} {arr : Array Value} {el : TypeId} (h : w.heap[b]? = some (.cells arr el (0, 0))) : w.frozen? ⟨b, o, none⟩ = false := by
  simp [World.frozen?, h]

theorem upd_setCell {b o : Nat} {arr : Array Value} {el : TypeId} (h : w.heap[b]? = some (.cells arr el (0, 0))) (v : Value) :
    Upd w b (.cells (arr.setIfInBounds o v) el (0, 0)) (w.setCell ⟨b, o, none⟩ v) := by
  refine ⟨⟨rfl, rfl, rfl⟩, by simp [World.setCell], fun k hk => ?_, ?_⟩
  · simp [World.setCell, Array.getElem?_modify, Ne.symm hk]
  · simp [World.setCell, Array.getElem?_modify, h]

theorem Upd.trans {b : Nat} {o o' : Obj} {w w' w'' : World} (h : Upd w b o w') (k : Upd w' b o' w'') : Upd w b o' w'' :=
  ⟨h.same.trans k.same, k.size.trans h.size, fun i hi => (k.rest i hi).trans (h.rest i hi), k.here⟩

theorem run_store' {b o : Nat} {arr : Array Value} {el : TypeId} (h : w.heap[b]? = some (.cells arr el (0, 0))) {v : Value} (hv : oneB v = true) (ho : o < arr.size) :
    (store ⟨b, o, none⟩ v).run P w = .ok () (w.setCell ⟨b, o, none⟩ v) := by
  rw [run_store P w _ v _ (by cases v <;> first | rfl | cases hv)]
  simp [cell_of h, ho, frozen_no h]

theorem run_storeCells {b o : Nat} {el : TypeId} : ∀ (vs : List Value) (i : Nat) (w : World) (arr : Array Value), w.heap[b]? = some (.cells arr el (0, 0)) →
    (∀ v ∈ vs, oneB v = true) → o + i + vs.length ≤ arr.size →
    ∃ w', (storeCells ⟨b, o, none⟩ vs i).run P w = .ok () w' ∧ (vs ≠ [] → Upd w b (.cells (lay arr.toList (o + i) vs).toArray el (0, 0)) w') ∧ (vs = [] → w' = w) := by
  intro vs
  induction vs with
  | nil => intro i w arr h _ _; exact ⟨w, by simp [storeCells], fun h => absurd rfl h, fun _ => rfl⟩
  | cons v vs ih =>
    intro i w arr h hone hle
    simp only [List.length_cons] at hle
    have hs := run_store' (P := P) (o := o + i) h (hone v (by simp)) (by omega)
    have hu := upd_setCell (o := o + i) h v
    obtain ⟨w', h1, h2, h3⟩ := ih (i + 1) _ (arr.setIfInBounds (o + i) v) hu.here (fun x hx => hone x (by simp [hx])) (by simp; omega)
    refine ⟨w', ?_, fun _ => ?_, fun h => by cases h⟩
    · simp only [storeCells, Sem.run_bind, add_none, hs, Result.andThen_ok, h1]
    · have hlt : o + i < arr.toList.length := by simp; omega
      have key : lay arr.toList (o + i) (v :: vs) = lay (arr.setIfInBounds (o + i) v).toList (o + (i + 1)) vs := by
        unfold lay
        simp only [Array.toList_setIfInBounds, List.length_cons]
        rw [show o + (i + 1) = o + i + 1 from by omega, List.take_succ_eq_append_getElem (by simpa using hlt)]
        simp only [List.getElem_set_self]
        rw [List.take_set_of_le (Nat.le_refl _), List.drop_set_of_lt (by omega)]
        simp [Nat.add_assoc, Nat.add_comm 1]
      rw [key]
      cases vs with
      | nil =>
        have := h3 rfl
        subst this
        have e : (lay (arr.setIfInBounds (o + i) v).toList (o + (i + 1)) []).toArray = arr.setIfInBounds (o + i) v := by
          apply Array.ext'; simp [lay]
        rw [e]; exact hu
      | cons x xs => exact hu.trans (h2 (by simp))

theorem cells_oneB {v : Value} {sz : Nat} {c : List Value} (h : cellsOf v sz = some c) : v.cells.toList = c ∧ v.cells.size = sz := ⟨(cells_of h).1, (cells_of h).2.1⟩

theorem run_storeVar {t : TypeId} (hk : tKnown P t = true) {b o : Nat} {el : TypeId} {arr : Array Value} (h : w.heap[b]? = some (.cells arr el (0, 0)))
    {x : Value} {c : List Value} (hc : cellsOf x (tSz P t) = some c) (ho : ∀ v ∈ c, oneB v = true) (hl : o + tSz P t ≤ arr.size) :
    ∃ w', (storeVar t ⟨b, o, none⟩ x).run P w = .ok () w' ∧ Upd w b (.cells (lay arr.toList o c).toArray el (0, 0)) w' := by
  obtain ⟨e1, e2, e3⟩ := cells_of hc
  obtain ⟨w', h1, h2, h3⟩ := run_storeCells (P := P) (o := o) c 0 w arr h ho (by omega)
  refine ⟨w', ?_, ?_⟩
  · simp only [storeVar, Sem.run_bind, run_sizeOf' hk, Result.andThen_ok, e2, ne_eq, not_true_eq_false, if_false, Sem.run_ite, Sem.run_pure, e1]
    exact h1
  · by_cases hn : c = []
    · have := h3 hn
      subst this
      subst hn
      have e : (lay arr.toList o []).toArray = arr := by apply Array.ext'; simp [lay]
      rw [e]
      exact ⟨Same.refl _, rfl, fun _ _ => rfl, h⟩
    · exact h2 hn

theorem V.oneB {v v' : Value} (h : V ρ v v') (ho : Fl.oneB v = true) : Fl.oneB v' = true := by
  cases h <;> first | rfl | cases ho

theorem VL.oneB {l l' : List Value} (h : VL ρ l l') (ho : l.all Fl.oneB = true) : ∀ v ∈ l', Fl.oneB v = true := by
  induction h with
  | nil => simp
  | cons h _ ih =>
    simp only [List.all_cons, Bool.and_eq_true] at ho
    intro v hv
    rcases List.mem_cons.1 hv with rfl | hv
    · exact h.oneB ho.1
    · exact ih ho.2 v hv

end

/-- The cells of a block that a store's block lies on. -/
def win (arr : Array Value) (sh n : Nat) : List Value := (arr.toList.drop sh).take n

/-- The store is what the memory has. -/
structure Sim (ρ : Ren) (σ : Mem) (w : World) : Prop where
  s1 : ∀ id blk, σ.get id = some blk → ∃ e arr el fz, ρ id = some e ∧ w.heap[e.blk]? = some (.cells arr el fz) ∧ e.sh + e.cap ≤ arr.size ∧
    blk.cells.length ≤ e.cap ∧ VL ρ blk.cells (win arr e.sh blk.cells.length) ∧ (blk.rw = true → fz = (0, 0))
  s2 : ∀ i j bi bj ei ej, i ≠ j → σ.get i = some bi → σ.get j = some bj → bi.rw = true → ρ i = some ei → ρ j = some ej → ei.blk ≠ ej.blk
  s3 : ∃ N, ∀ i, N ≤ i → ρ i = none

/-- A block of the world on which a block of the store lies (r: that may be written). -/
def Own (r : Bool) (ρ : Ren) (σ : Mem) (b : Nat) : Prop := ∃ id blk e, σ.get id = some blk ∧ (r = true → blk.rw = true) ∧ ρ id = some e ∧ e.blk = b

structure Stp (ρ0 : Ren) (σ0 : Mem) (w0 : World) (ρ : Ren) (σ : Mem) (w : World) : Prop where
  le : ρ0.le ρ
  same : Same w0 w
  size : w0.heap.size ≤ w.heap.size
  keep : ∀ b, b < w0.heap.size → ¬ Own true ρ0 σ0 b → w.heap[b]? = w0.heap[b]?
  own : ∀ r b, b < w0.heap.size → Own r ρ σ b → Own r ρ0 σ0 b

theorem Stp.refl (ρ : Ren) (σ : Mem) (w : World) : Stp ρ σ w ρ σ w := ⟨fun _ _ h => h, Same.refl _, Nat.le_refl _, fun _ _ _ => rfl, fun _ _ _ h => h⟩

theorem Stp.trans {ρ0 ρ1 ρ2 : Ren} {σ0 σ1 σ2 : Mem} {w0 w1 w2 : World} (h : Stp ρ0 σ0 w0 ρ1 σ1 w1) (k : Stp ρ1 σ1 w1 ρ2 σ2 w2) : Stp ρ0 σ0 w0 ρ2 σ2 w2 :=
  ⟨fun i e he => k.le _ _ (h.le _ _ he), h.same.trans k.same, Nat.le_trans h.size k.size,
   fun b hb hn => (k.keep b (Nat.lt_of_lt_of_le hb h.size) fun ho => hn (h.own _ _ hb ho)).trans (h.keep b hb hn),
   fun r b hb ho => h.own _ _ hb (k.own _ _ (Nat.lt_of_lt_of_le hb h.size) ho)⟩

theorem Own.weak {r : Bool} {ρ : Ren} {σ : Mem} {b : Nat} (h : Own r ρ σ b) : Own false ρ σ b :=
  let ⟨i, blk, e, h1, _, h2, h3⟩ := h; ⟨i, blk, e, h1, fun h => (Bool.noConfusion h), h2, h3⟩

theorem Own.lt {r : Bool} {ρ : Ren} {σ : Mem} {w : World} (hs : Sim ρ σ w) {b : Nat} (h : Own r ρ σ b) : b < w.heap.size := by
  obtain ⟨i, blk, e, h1, _, h2, rfl⟩ := h
  obtain ⟨e', arr, el, fz, h3, h4, _⟩ := hs.s1 _ _ h1
  rw [h2] at h3; cases h3
  exact (Array.getElem?_eq_some_iff.1 h4).1

/-! ### A store's step -/

theorem Mem.get_set (σ : Mem) (i j : Nat) (b : Blk) : (σ.set i b).get j = if j = i then some b else σ.get j := rfl
theorem Mem.get_del (σ : Mem) (i j : Nat) : (σ.del i).get j = if j = i then none else σ.get j := rfl

theorem Sim.del {ρ : Ren} {σ : Mem} {w : World} (h : Sim ρ σ w) (i : Nat) : Sim ρ (σ.del i) w := by
  refine ⟨fun id blk hg => h.s1 id blk ?_, fun a b ba bb ea eb hn h1 h2 => h.s2 a b ba bb ea eb hn ?_ ?_, h.s3⟩
  · rw [Mem.get_del] at hg; split at hg
    · cases hg
    · exact hg
  · rw [Mem.get_del] at h1; split at h1
    · cases h1
    · exact h1
  · rw [Mem.get_del] at h2; split at h2
    · cases h2
    · exact h2

theorem Own.of_del {r : Bool} {ρ : Ren} {σ : Mem} {i b : Nat} (h : Own r ρ (σ.del i) b) : Own r ρ σ b := by
  obtain ⟨id, blk, e, h1, h2, h3⟩ := h
  rw [Mem.get_del] at h1
  split at h1
  · cases h1
  · exact ⟨id, blk, e, h1, h2, h3⟩

/-- A new block of the world bears a new block of the store. -/
theorem Sim.push {ρ : Ren} {σ : Mem} {w w' : World} (h : Sim ρ σ w) {id : Nat} (hσ : σ.get id = none) (hρ : ρ id = none) {c : List Value} {arr : Array Value} {el : TypeId}
    (hp : Push w (.cells arr el (0, 0)) w') {cap : Nat} (hcap : cap ≤ arr.size) (hlen : c.length ≤ cap) (hv : VL ρ c (win arr 0 c.length)) :
    ∃ ρ', ρ' id = some ⟨w.heap.size, 0, cap⟩ ∧ Sim ρ' (σ.set id ⟨c, true⟩) w' ∧ Stp ρ σ w ρ' (σ.set id ⟨c, true⟩) w' ∧ (∀ b, Own false ρ' (σ.set id ⟨c, true⟩) b → b < w.heap.size → Own false ρ σ b) := by
  refine ⟨fun j => if j = id then some ⟨w.heap.size, 0, cap⟩ else ρ j, by simp, ?_, ?_, ?_⟩
  · have hle : ρ.le (fun j => if j = id then some ⟨w.heap.size, 0, cap⟩ else ρ j) := fun j e he => by
      dsimp only; split
      · rename_i hj; subst hj; rw [hρ] at he; cases he
      · exact he
    refine ⟨fun j blk hg => ?_, fun a b ba bb ea eb hn h1 h2 hrw e1 e2 => ?_, ?_⟩
    · rw [Mem.get_set] at hg
      split at hg
      · rename_i hj; subst hj; cases hg
        exact ⟨⟨w.heap.size, 0, cap⟩, arr, el, (0, 0), by simp, hp.here, by simpa using hcap, hlen, hv.mono hle, fun _ => rfl⟩
      · rename_i hj
        obtain ⟨e, arr', el', fz, q1, q2, q3, q4, q5, q6⟩ := h.s1 _ _ hg
        exact ⟨e, arr', el', fz, by simp [hj, q1], by rw [hp.rest _ (Array.getElem?_eq_some_iff.1 q2).1]; exact q2, q3, q4, q5.mono hle, q6⟩
    · rw [Mem.get_set] at h1 h2
      have old : ∀ {j : Nat} {bj : Blk} {e : RE}, σ.get j = some bj → ρ j = some e → e.blk < w.heap.size := by
        intro j bj e hj he
        exact Own.lt h (r := false) ⟨j, bj, e, hj, fun h => (Bool.noConfusion h), he, rfl⟩
      by_cases ha : a = id
      · subst ha
        simp at e1; subst e1
        have hb : ¬ b = a := fun e => hn e.symm
        rw [if_neg hb] at h2 e2
        exact fun e => Nat.lt_irrefl _ (e ▸ old h2 e2)
      · rw [if_neg ha] at h1 e1
        by_cases hb : b = id
        · subst hb
          simp at e2; subst e2
          exact fun e => Nat.lt_irrefl _ (e ▸ old h1 e1)
        · rw [if_neg hb] at h2 e2
          exact h.s2 _ _ _ _ _ _ hn h1 h2 hrw e1 e2
    · obtain ⟨N, hN⟩ := h.s3
      exact ⟨N + id + 1, fun i hi => by rw [if_neg (by omega)]; exact hN i (by omega)⟩
  · refine ⟨fun j e he => ?_, hp.same, by rw [hp.size]; omega, fun b hb _ => hp.rest b hb, fun r b hb ho => ?_⟩
    · split
      · rename_i hj; subst hj; rw [hρ] at he; cases he
      · exact he
    · obtain ⟨j, blk, e, h1, h2, h3, h4⟩ := ho
      rw [Mem.get_set] at h1
      dsimp only at h3
      by_cases hj : j = id
      · subst hj; simp at h3; subst h3; simp at h4; omega
      · rw [if_neg hj] at h1 h3
        exact ⟨j, blk, e, h1, h2, h3, h4⟩
  · intro b ho hb
    obtain ⟨j, blk, e, h1, h2, h3, h4⟩ := ho
    rw [Mem.get_set] at h1
    dsimp only at h3
    by_cases hj : j = id
    · subst hj; simp at h3; subst h3; simp at h4; omega
    · rw [if_neg hj] at h1 h3
      exact ⟨j, blk, e, h1, h2, h3, h4⟩

theorem win_lay {arr : Array Value} {sh n o : Nat} {c : List Value} (h1 : o + c.length ≤ n) (h2 : sh + n ≤ arr.size) :
    win (lay arr.toList (sh + o) c).toArray sh n = lay (win arr sh n) o c := by
  unfold win lay
  apply List.ext_getElem
  · simp; omega
  · intro i hi hi'
    simp only [List.getElem_take, List.getElem_drop, List.getElem_append, List.length_append, List.length_take, List.length_drop, List.getElem_toArray, Array.getElem_toList]
    simp only [List.length_take, List.length_drop, List.length_append] at hi hi'
    have e1 : min (sh + o) arr.toList.length = sh + o := by simp at *; omega
    have e2 : min o (min n (arr.toList.length - sh)) = o := by simp at *; omega
    simp only [e1, e2]
    by_cases q1 : i < o
    · simp [q1, show sh + i < sh + o from by omega, show sh + i < sh + o + c.length from by omega, show i < o + c.length from by omega]
    · by_cases q2 : i < o + c.length
      · simp [q1, q2, show ¬ sh + i < sh + o from by omega, show sh + i < sh + o + c.length from by omega]
        congr 1; omega
      · simp [q2, show ¬ sh + i < sh + o + c.length from by omega]
        congr 1; omega

/-- A store into a block. -/
theorem Sim.upd {ρ : Ren} {σ : Mem} {w w' : World} (h : Sim ρ σ w) {id : Nat} {blk : Blk} (hg : σ.get id = some blk) (hrw : blk.rw = true) {e : RE} (he : ρ id = some e)
    {arr : Array Value} {el : TypeId} (hb : w.heap[e.blk]? = some (.cells arr el (0, 0))) {o : Nat} {c c' : List Value} (hl : o + c.length ≤ blk.cells.length) (hc : VL ρ c c')
    (hu : Upd w e.blk (.cells (lay arr.toList (e.sh + o) c').toArray el (0, 0)) w') :
    Sim ρ (σ.set id ⟨lay blk.cells o c, true⟩) w' ∧ Stp ρ σ w ρ (σ.set id ⟨lay blk.cells o c, true⟩) w' ∧ (∀ b, Own false ρ (σ.set id ⟨lay blk.cells o c, true⟩) b → Own false ρ σ b) := by
  obtain ⟨e', arr', el', fz, q1, q2, q3, q4, q5, q6⟩ := h.s1 _ _ hg
  rw [he] at q1; cases q1
  rw [hb] at q2; cases q2
  have hlen : (lay blk.cells o c).length = blk.cells.length := by simp [lay]; omega
  have hown : ∀ r b, Own r ρ (σ.set id ⟨lay blk.cells o c, true⟩) b → Own r ρ σ b := by
    intro r b ho
    obtain ⟨j, bj, ej, h1, h2, h3, h4⟩ := ho
    rw [Mem.get_set] at h1
    split at h1
    · rename_i hj; subst hj
      exact ⟨j, blk, ej, hg, fun _ => hrw, h3, h4⟩
    · exact ⟨j, bj, ej, h1, h2, h3, h4⟩
  refine ⟨⟨fun j bj hj => ?_, fun a b ba bb ea eb hn h1 h2 hr e1 e2 => ?_, h.s3⟩, ⟨fun _ _ h => h, hu.same, by rw [hu.size]; exact Nat.le_refl _, fun b hb' hn => ?_, fun r b _ ho => hown r b ho⟩, fun b => hown false b⟩
  · rw [Mem.get_set] at hj
    split at hj
    · rename_i hji; subst hji; cases hj
      refine ⟨e, _, el, (0, 0), he, hu.here, ?_, by simp only; rw [hlen]; exact q4, ?_, fun _ => rfl⟩
      · simp [lay, hc.len.symm]; omega
      · simp only [hlen]
        rw [win_lay (by rw [← hc.len]; exact hl) (by omega)]
        exact q5.lay hc o
    · rename_i hji
      obtain ⟨e2, arr2, el2, fz2, r1, r2, r3, r4, r5, r6⟩ := h.s1 _ _ hj
      have : e2.blk ≠ e.blk := fun hh => h.s2 _ _ _ _ _ _ (Ne.symm hji) hg hj hrw he r1 hh.symm
      exact ⟨e2, arr2, el2, fz2, r1, by rw [hu.rest _ this]; exact r2, r3, r4, r5, r6⟩
  · have old : ∀ {j : Nat} {bj : Blk}, (σ.set id ⟨lay blk.cells o c, true⟩).get j = some bj → ∃ bj', σ.get j = some bj' ∧ bj'.rw = bj.rw := by
      intro j bj hj
      rw [Mem.get_set] at hj
      split at hj
      · rename_i hji; subst hji; cases hj; exact ⟨blk, hg, hrw⟩
      · exact ⟨bj, hj, rfl⟩
    obtain ⟨ba', h1', r1⟩ := old h1
    obtain ⟨bb', h2', r2⟩ := old h2
    exact h.s2 _ _ _ _ _ _ hn h1' h2' (r1.trans hr) e1 e2
  · exact hu.rest b fun hh => hn ⟨id, blk, e, hg, fun _ => hrw, he, hh.symm⟩

end Go.Fl
