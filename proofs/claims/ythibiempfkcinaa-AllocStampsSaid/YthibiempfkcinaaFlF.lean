/- A frame against its reading, and that each operation comes in the world to what its reading says. No condition. -/
import Derived.Test.YthibiempfkcinaaFlE
namespace Go.Fl
open Go
set_option linter.unusedVariables false
set_option linter.unusedSimpArgs false

/-- A slot that holds the address of a local block. -/
def LocV (lm : Nat → Option Nat) (k : Nat) (v v' : Value) : Prop :=
  isUndef v = true ∨ (∃ o b, v = .pointer (some ⟨k, o, some 0⟩) ∧ lm k = some b ∧ v' = .pointer (some ⟨b, o, none⟩)) ∨
    (∃ o b n es c', v = .slice (some ⟨k, o, some 0⟩) n es ∧ lm k = some b ∧ v' = .slice (some ⟨b, o, none⟩) n c')

structure FI (C : Cx) (ρ0 : Ren) (σ0 : Mem) (w0 : World) (lm : Nat → Option Nat) (ρ : Ren) (s : St) (σ : Mem) (a : Act) (w : World) : Prop where
  sim : Sim ρ σ w
  stp : Stp ρ0 σ0 w0 ρ σ w
  n : a.tmps.size = C.n
  df : a.defers = []
  tm : ∀ t, C.loc.lookup t = none → V ρ (s.t t) (a.tmps.getD t undef)
  lt : ∀ t k, C.loc.lookup t = some k → LocV lm k (s.t t) (a.tmps.getD t undef)
  lb : ∀ k b, lm k = some b → w0.heap.size ≤ b ∧ ∃ arr el, w.heap[b]? = some (.cells arr el (0, 0)) ∧ VL ρ (s.l k) arr.toList
  li : ∀ k k' b, lm k = some b → lm k' = some b → k = k'
  ld : ∀ k b, lm k = some b → ¬ Own false ρ σ b

def Sound (P : Program) (f : FuncId) (S : Spec) : Prop :=
  ∀ args Q σ, S args Q σ → ∀ (ρ : Ren) (w : World) (args' : List Value), Sim ρ σ w → VL ρ args args' →
    Calls P f args'.toArray w fun e w' => ∃ v v' ρ' σ', e = .returned v' ∧ Q v σ' ∧ V ρ' v v' ∧ Sim ρ' σ' w' ∧ Stp ρ σ w ρ' σ' w'

def Callable (P : Program) (f : FuncId) : Prop := ∃ fn, P.funcs[f]? = some fn ∧ (fn.name == "runtime.NumGoroutine") = false ∧ fn.body.isNone = false

/-- What a table of callees must be. -/
def TOk (P : Program) (T : List (Nat × Cls × Spec)) : Prop := ∀ g c S, T.lookup g = some (c, S) → Sound P g S ∧ Good c S ∧ Callable P g

section
variable {C : Cx} {ρ0 : Ren} {σ0 : Mem} {w0 : World} {lm : Nat → Option Nat} {ρ : Ren} {s : St} {σ : Mem} {a : Act} {w : World}

theorem put_size (a : Act) (d : Option Nat) (v : Value) : (a.put d v).tmps.size = a.tmps.size := by
  cases d <;> simp [Act.put]

theorem put_defers (a : Act) (d : Option Nat) (v : Value) : (a.put d v).defers = a.defers := by
  cases d <;> rfl

theorem getD_put {a : Act} {d : Nat} {v : Value} (hd : d < a.tmps.size) (t : Nat) : (a.put (some d) v).tmps.getD t undef = if t = d then v else a.tmps.getD t undef := by
  simp only [Act.put, Array.getD_eq_getD_getElem?, Array.getElem?_setIfInBounds]
  by_cases h : t = d
  · subst h; simp [hd]
  · simp [h, Ne.symm h]

theorem put_t (s : St) (d : Nat) (v : Value) (t : Nat) : (s.put (some d) v).t t = if t = d then v else s.t t := by
  simp only [St.put]
  cases h : Nat.beq t d
  · have : t ≠ d := Nat.ne_of_beq_eq_false h
    simp [this]
  · have : t = d := Nat.eq_of_beq_eq_true h
    simp [this]

theorem put_l (s : St) (d : Option Nat) (v : Value) : (s.put d v).l = s.l := by cases d <;> rfl

theorem FI.put (h : FI C ρ0 σ0 w0 lm ρ s σ a w) {d : Nat} (hd : d < C.n) {v v' : Value}
    (hp : C.loc.lookup d = none → V ρ v v') (hl : ∀ k, C.loc.lookup d = some k → LocV lm k v v') : FI C ρ0 σ0 w0 lm ρ (s.put (some d) v) σ (a.put (some d) v') w := by
  refine ⟨h.sim, h.stp, by rw [put_size]; exact h.n, by rw [put_defers]; exact h.df, fun t ht => ?_, fun t k ht => ?_, fun k b hk => ?_, h.li, h.ld⟩
  · rw [put_t, getD_put (by rw [h.n]; exact hd)]
    split
    · rename_i e; subst e; exact hp ht
    · exact h.tm t ht
  · rw [put_t, getD_put (by rw [h.n]; exact hd)]
    split
    · rename_i e; subst e; exact hl k ht
    · exact h.lt t k ht
  · rw [put_l]; exact h.lb k b hk

theorem FI.put_none (h : FI C ρ0 σ0 w0 lm ρ s σ a w) (v v' : Value) : FI C ρ0 σ0 w0 lm ρ (s.put none v) σ (a.put none v') w := h

/-- A step of the store that lets local blocks be. -/
theorem FI.step (h : FI C ρ0 σ0 w0 lm ρ s σ a w) {ρ' : Ren} {σ' : Mem} {w' : World} (hs : Sim ρ' σ' w') (ht : Stp ρ σ w ρ' σ' w') : FI C ρ0 σ0 w0 lm ρ' s σ' a w' := by
  have hlt : ∀ k b, lm k = some b → b < w.heap.size := fun k b hk => by
    obtain ⟨_, arr, el, h1, _⟩ := h.lb k b hk
    exact (Array.getElem?_eq_some_iff.1 h1).1
  refine ⟨hs, h.stp.trans ht, h.n, h.df, fun t hl => (h.tm t hl).mono ht.le, h.lt, fun k b hk => ?_, h.li, fun k b hk ho => h.ld k b hk (ht.own _ _ (hlt k b hk) ho)⟩
  obtain ⟨h0, arr, el, h1, h2⟩ := h.lb k b hk
  exact ⟨h0, arr, el, by rw [ht.keep b (hlt k b hk) (fun ho => h.ld k b hk ho.weak)]; exact h1, h2.mono ht.le⟩

theorem Sim.other {o : Obj} {b : Nat} {w' : World} (h : Sim ρ σ w) (hb : ¬ Own false ρ σ b) (hu : Upd w b o w') : Sim ρ σ w' := by
  refine ⟨fun id blk hg => ?_, h.s2, h.s3⟩
  obtain ⟨e, arr, el, fz, q1, q2, q3⟩ := h.s1 id blk hg
  exact ⟨e, arr, el, fz, q1, by rw [hu.rest _ (fun e' => hb ⟨id, blk, e, hg, fun h => (Bool.noConfusion h), q1, e'⟩)]; exact q2, q3⟩

theorem Sim.pushed {o : Obj} {w' : World} (h : Sim ρ σ w) (hu : Push w o w') : Sim ρ σ w' := by
  refine ⟨fun id blk hg => ?_, h.s2, h.s3⟩
  obtain ⟨e, arr, el, fz, q1, q2, q3⟩ := h.s1 id blk hg
  exact ⟨e, arr, el, fz, q1, by rw [hu.rest _ (Array.getElem?_eq_some_iff.1 q2).1]; exact q2, q3⟩

theorem setL_l (s : St) (k : Nat) (c : List Value) (i : Nat) : (s.setL k c).l i = if i = k then c else s.l i := by
  simp only [St.setL]
  cases h : Nat.beq i k
  · have : i ≠ k := Nat.ne_of_beq_eq_false h
    simp [this]
  · have : i = k := Nat.eq_of_beq_eq_true h
    simp [this]

/-- A store into a local block. -/
theorem FI.setL (h : FI C ρ0 σ0 w0 lm ρ s σ a w) {k b : Nat} (hk : lm k = some b) {arr : Array Value} {el : TypeId} {c : List Value} {w' : World}
    (hu : Upd w b (.cells arr el (0, 0)) w') (hc : VL ρ c arr.toList) : FI C ρ0 σ0 w0 lm ρ (s.setL k c) σ a w' := by
  refine ⟨h.sim.other (h.ld k b hk) hu, ⟨h.stp.le, h.stp.same.trans hu.same, by rw [hu.size]; exact h.stp.size, fun b' hb' hn => ?_, h.stp.own⟩, h.n, h.df, h.tm, h.lt, fun k' b' hk' => ?_, h.li, h.ld⟩
  · have : b' ≠ b := fun e => by
      have := (h.lb k b hk).1
      omega
    rw [hu.rest _ this]
    exact h.stp.keep b' hb' hn
  · rw [setL_l]
    by_cases e : k' = k
    · subst e
      rw [hk] at hk'; cases hk'
      exact ⟨(h.lb _ _ hk).1, arr, el, hu.here, by simpa using hc⟩
    · obtain ⟨h0, arr', el', h1, h2⟩ := h.lb k' b' hk'
      have : b' ≠ b := fun e' => e (h.li _ _ b (e' ▸ hk') hk)
      exact ⟨h0, arr', el', by rw [hu.rest _ this]; exact h1, by simpa [e] using h2⟩

/-- A new local block. -/
theorem FI.newL (h : FI C ρ0 σ0 w0 lm ρ s σ a w) {k : Nat} (hf : freshB C k s = true) {arr : Array Value} {el : TypeId} {c : List Value} {w' : World}
    (hp : Push w (.cells arr el (0, 0)) w') (hc : VL ρ c arr.toList) :
    FI C ρ0 σ0 w0 (fun i => if i = k then some w.heap.size else lm i) ρ (s.setL k c) σ a w' := by
  have hlt : ∀ k b, lm k = some b → b < w.heap.size := fun k b hk => by
    obtain ⟨_, arr, el, h1, _⟩ := h.lb k b hk
    exact (Array.getElem?_eq_some_iff.1 h1).1
  refine ⟨h.sim.pushed hp, ⟨h.stp.le, h.stp.same.trans hp.same, by have := h.stp.size; rw [hp.size]; omega, fun b' hb' hn => ?_, h.stp.own⟩, h.n, h.df, h.tm, fun t k' ht => ?_, fun k' b' hk' => ?_, fun k1 k2 b h1 h2 => ?_, fun k' b' hk' => ?_⟩
  · rw [hp.rest _ (Nat.lt_of_lt_of_le hb' h.stp.size)]
    exact h.stp.keep b' hb' hn
  · by_cases e : k' = k
    · subst e
      have := List.all_eq_true.1 hf _ (mem_of_lookup ht)
      simp at this
      exact .inl this
    · rcases h.lt t k' ht with h1 | ⟨o, b, h1, h2, h3⟩ | ⟨o, b, n, es, c', h1, h2, h3⟩
      · exact .inl h1
      · exact .inr (.inl ⟨o, b, h1, by simp [e, h2], h3⟩)
      · exact .inr (.inr ⟨o, b, n, es, c', h1, by simp [e, h2], h3⟩)
  · rw [setL_l]
    by_cases e : k' = k
    · subst e
      simp at hk'; subst hk'
      exact ⟨h.stp.size, arr, el, hp.here, by simpa using hc⟩
    · simp [e] at hk'
      obtain ⟨h0, arr', el', h1, h2⟩ := h.lb k' b' hk'
      exact ⟨h0, arr', el', by rw [hp.rest _ (hlt _ _ hk')]; exact h1, by simpa [e] using h2⟩
  · by_cases e1 : k1 = k
    · by_cases e2 : k2 = k
      · rw [e1, e2]
      · simp [e1] at h1; simp [e2] at h2
        have := hlt _ _ h2; omega
    · by_cases e2 : k2 = k
      · simp [e1] at h1; simp [e2] at h2
        have := hlt _ _ h1; omega
      · simp [e1] at h1; simp [e2] at h2
        exact h.li _ _ _ h1 h2
  · by_cases e : k' = k
    · simp [e] at hk'; subst hk'
      intro ho
      exact absurd (Own.lt h.sim ho) (by omega)
    · simp [e] at hk'; exact h.ld _ _ hk'

theorem FI.plain (h : FI C ρ0 σ0 w0 lm ρ s σ a w) {x : Operand} (hx : (C.isLoc x).isNone = true) : V ρ (evO s x) (a.eval x) := by
  cases x with
  | tmp t => exact h.tm t (by simpa [Cx.isLoc] using hx)
  | const v =>
    simp only [evO, Act.eval]
    cases hc : constOk v
    · exact .poi _
    · exact .const hc
  | global g => exact .poi _
  | func f => exact .poi _

theorem FI.plains (h : FI C ρ0 σ0 w0 lm ρ s σ a w) : ∀ {xs : List Operand}, C.plain xs = true → VL ρ (xs.map (evO s)) (xs.map a.eval)
  | [], _ => .nil
  | x :: xs, hx => by
    simp only [Cx.plain, List.all_cons, Bool.and_eq_true] at hx
    exact .cons (h.plain hx.1) (FI.plains h hx.2)

theorem FI.locv (h : FI C ρ0 σ0 w0 lm ρ s σ a w) {x : Operand} {k : Nat} (hx : C.isLoc x = some k) : LocV lm k (evO s x) (a.eval x) := by
  cases x with
  | tmp t => exact h.lt t k hx
  | const v => cases hx
  | global g => cases hx
  | func f => cases hx

/-! ### Operations on addresses of local blocks -/

theorem run_move' {P : Program} {ev' : Operand → Value} {o : Oper} {x : Operand} (h : o.op = .move x) : (execOp ev' o).run P w = .ok (.value (ev' x)) w := by
  obtain ⟨d, op, ty, pos, af, gd⟩ := o; simp at h; subst h; simp [execOp]

theorem locF_sound {o : Oper} {x : Operand} {ys : List Operand} {g : List Value → Option Value} (hf : fOf C o.op = some (x :: ys, g)) (ha : (addrOp o.op || arrOp C.P o.op) = true)
    {ev ev' : Operand → Value} {k : Nat} (hx : LocV lm k (ev x) (ev' x)) (hys : VL ρ (ys.map ev) (ys.map ev')) {v : Value} (hg : g ((x :: ys).map ev) = some v) :
    ∃ v', (execOp ev' o).run C.P w = .ok (.value v') w ∧ LocV lm k v v' := by
  have fin : ∀ {s : Sem Value} {v' : Value}, s.run C.P w = .ok v' w → (do pure (Next.value (← s)) : Sem Next).run C.P w = .ok (.value v') w := by
    intro s v' h; simp [h]
  obtain ⟨dst, op, ty, pos, after, guard⟩ := o
  unfold fOf at hf
  cases op <;> simp only [addrOp, arrOp, Bool.or_false, Bool.false_or, Bool.or_self] at ha <;> simp only at hf
  case move x0 =>
    cases hf
    simp [fMove] at hg; subst hg
    exact ⟨_, by simp [execOp], hx⟩
  case nilCheck x0 =>
    cases hf
    simp only [List.map_cons, List.map_nil] at hg
    unfold fNil at hg
    split at hg
    · rename_i ad h; simp at h; cases hg
      rcases hx with h1 | ⟨o, b, h1, h2, h3⟩ | ⟨o, b, n, es, c', h1, h2, h3⟩
      · rw [h] at h1; cases h1
      · refine ⟨_, by simp [execOp, h3], .inr (.inl ⟨o, b, by rw [← h1, h], h2, rfl⟩)⟩
      · rw [h] at h1; cases h1
    · cases hg
  case fieldAddr st x0 f =>
    split at hf
    · rename_i fs hs
      split at hf
      · rename_i fd hfd
        split at hf
        · rename_i hk
          cases hf
          simp only [Bool.and_eq_true, bne_iff_ne, ne_eq] at hk
          simp only [List.map_cons, List.map_nil] at hg
          unfold fFld at hg
          split at hg
          · rename_i ad h; simp at h; cases hg
            rcases hx with h1 | ⟨o, b, h1, h2, h3⟩ | ⟨o, b, n, es, c', h1, h2, h3⟩
            · rw [h] at h1; cases h1
            · rw [h] at h1; cases h1
              refine ⟨_, by simp only [execOp, h3]; exact fin (run_fieldAt hs hfd hk.1 hk.2 rfl), .inr (.inl ⟨o + fd.offset, b, by simp [adv], h2, by simp [adv]⟩)⟩
            · rw [h] at h1; cases h1
          · cases hg
        · cases hf
      · cases hf
    · cases hf
  case indexAddr t x0 ix =>
    split at hf
    · rename_i e ht; rw [ht] at ha; cases ha
    · rename_i n e ht
      split at hf
      · rename_i hk
        cases hf
        simp only [Bool.and_eq_true] at hk
        simp only [List.map_cons, List.map_nil] at hg hys
        obtain ⟨i', e', hi⟩ := hys.one
        simp at e'; subst e'
        unfold fIxA at hg
        split at hg
        · rename_i ad k2 i h
          simp at h; obtain ⟨h1, h2⟩ := h
          rw [h2] at hi
          split at hg
          · rename_i hb
            cases hg
            have ei := hi.int_inv
            obtain ⟨hb0, hb1⟩ := hb
            rcases hx with q1 | ⟨o, b, q1, q2, q3⟩ | ⟨o, b, n, es, c', q1, q2, q3⟩
            · rw [h1] at q1; cases q1
            · rw [h1] at q1; cases q1
              refine ⟨_, by simp only [execOp, q3, ei]; exact fin (run_indexA ht hk.1 rfl hb0 hb1), .inr (.inl ⟨o + i.toNat * tSz C.P e, b, by simp [adv], q2, by simp [adv]⟩)⟩
            · rw [h1] at q1; cases q1
          · cases hg
        · cases hg
      · cases hf
    · cases hf
  all_goals cases ha

end

end Go.Fl
