/- An operation with its frame: in the world as its reading says. No condition. -/
import Derived.Test.YthibiempfkcinaaFlH
namespace Go.Fl
open Go
set_option linter.unusedVariables false
set_option linter.unusedSimpArgs false

section
variable {C : Cx} {ρ0 : Ren} {σ0 : Mem} {w0 : World} {lm : Nat → Option Nat} {ρ : Ren} {s : St} {σ : Mem} {a : Act} {w : World}

theorem run_call_bi {P : Program} {ev : Operand → Value} {o : Oper} {c : Call} (ho : o.op = .call c) (hc : c.callee = .builtin .append) {v' : Value} {w' : World}
    (h : ∃ ty, (Builtin.append_ c.argTypes ty (c.args.map ev)).run P w = .ok v' w') : (execOp ev o).run P w = .ok (.value v') w' := by
  obtain ⟨dst, op, ty, pos, after, guard⟩ := o
  simp only at ho; subst ho
  obtain ⟨ty', h⟩ := h
  obtain ⟨cs, hr⟩ := run_resolve_bi P w (ev := ev) (t := ty) hc
  simp only [execOp, Sem.run_bind, hr, Result.andThen_ok, invoke, builtin]
  have : (Builtin.append_ c.argTypes ty (c.args.map ev)).run P w = .ok v' w' := h
  simp only [this, Result.andThen_ok, Sem.run_pure]

theorem step_append {o : Oper} {c : Call} {sx x : Operand} {t u e : TypeId} (ho : o.op = .call c) (hc : c.callee = .builtin .append) (ha : c.args.toList = [sx, x]) (hat : c.argTypes.toList = [t, u])
    (ht : C.P.underlying t = some (.slice e)) (hu : ∃ e', C.P.underlying u = some (.slice e')) {z : List Value} (hz : tZero C.P e = some z) (hk : tKnown C.P e = true)
    (hsx : V ρ (evO s sx) (a.eval sx)) (hx : V ρ (evO s x) (a.eval x)) (hs : Sim ρ σ w) {K : Value → Mem → Prop} (h : hAppend (tSz C.P e) (C.P.bytesOf e) [evO s sx, evO s x] K σ) : Step C.P o a ρ σ w K := by
  simp only [hAppend] at h
  split at h
  · rename_i new hnew
    split at h
    · rename_i hby
      obtain ⟨hby, hone⟩ := hby
      obtain ⟨new', h1, h2, h3, h4⟩ := run_first (P := C.P) (w := w) hx hs hnew rfl
      refine step_app ht hu hz hk hs hsx (x' := a.eval x) (fun v' w' hr => ?_) ⟨0, trivial⟩ hby h1 h2 (h1.oneB hone) h3 h4 h
      refine run_call_bi ho hc ?_
      have e1 : c.argTypes = #[t, u] := Array.ext' (by simpa using hat)
      rw [e1, map_toList ha]
      exact hr
    · exact h.elim
  · exact h.elim

theorem step_appendL {o : Oper} {c : Call} {sx x : Operand} {t u e : TypeId} (ho : o.op = .call c) (hc : c.callee = .builtin .append) (ha : c.args.toList = [sx, x]) (hat : c.argTypes.toList = [t, u])
    (ht : C.P.underlying t = some (.slice e)) (hu : ∃ e', C.P.underlying u = some (.slice e')) {z : List Value} (hz : tZero C.P e = some z) (hk : tKnown C.P e = true)
    (hsx : V ρ (evO s sx) (a.eval sx)) {k : Nat} (hx : LocV lm k (evO s x) (a.eval x)) (hs : Sim ρ σ w)
    (hlb : ∀ b, lm k = some b → ∃ arr el, w.heap[b]? = some (.cells arr el (0, 0)) ∧ VL ρ (s.l k) arr.toList)
    {K : Value → Mem → Prop} (h : hAppendL (tSz C.P e) (C.P.bytesOf e) (s.l k) [evO s sx, evO s x] K σ) : Step C.P o a ρ σ w K := by
  unfold hAppendL at h
  split at h
  · rename_i s1 b0 n c0 hxx
    simp at hxx
    obtain ⟨rfl, hxx⟩ := hxx
    split at h
    · rename_i hb
      obtain ⟨hby, hlen, hone⟩ := hb
      rcases hx with h1 | ⟨o', b, h1, h2, h3⟩ | ⟨o', b, n', es, c', h1, h2, h3⟩
      · rw [hxx] at h1; cases h1
      · rw [hxx] at h1; cases h1
      · rw [hxx] at h1; cases h1
        obtain ⟨arr, el, q1, q2⟩ := hlb b h2
        refine step_app ht hu hz hk hs hsx (x' := a.eval x) (fun v' w' hr => ?_) ⟨0, trivial⟩ hby q2 hlen (q2.oneB hone) (fun w' hw => ?_) ⟨_, _, h3⟩ h
        · refine run_call_bi ho hc ?_
          have e1 : c.argTypes = #[t, u] := Array.ext' (by simpa using hat)
          rw [e1, map_toList ha]
          exact hr
        · have hq : w'.heap[b]? = some (.cells arr el (0, 0)) := by rw [hw]; exact q1
          have hl2 : arr.size = n * tSz C.P e := by have := q2.len; rw [hlen] at this; simpa using this.symm
          rw [h3]
          simp only [Builtin.firstCells, loadCells]
          rw [run_loadCellsFrom hq _ 0 #[] (by omega)]
          rw [← hl2]
          simp [List.take_of_length_le]
    · exact h.elim
  · exact h.elim

theorem step_call {o : Oper} {c : Call} {g : Nat} (ho : o.op = .call c) (hc : c.callee = .value (.func g)) {S : Spec} (hS : Sound C.P g S) (hcl : Callable C.P g)
    (hx : VL ρ (c.args.toList.map (evO s)) (c.args.toList.map a.eval)) (hs : Sim ρ σ w) {K : Value → Mem → Prop} (h : S (c.args.toList.map (evO s)) K σ) : Step C.P o a ρ σ w K := by
  obtain ⟨dst, op, ty, pos, after, guard⟩ := o
  simp only at ho; subst ho
  obtain ⟨fn, q1, q2, q3⟩ := hcl
  intro next Q hn
  unfold Oper.wp
  have hr : (execOp a.eval ⟨dst, .call c, ty, pos, after, guard⟩).run C.P w = .ok (.enter g (c.args.toList.map a.eval).toArray) w := by
    have e1 : c.args.map a.eval = (c.args.toList.map a.eval).toArray := by apply Array.ext'; simp
    simp only [execOp, resolve, hc, Act.eval, Deferred.ofValue, Sem.run_bind, Sem.run_pure, Result.andThen_ok, invoke, callFunc, run_program, q1, q2, q3, Bool.false_eq_true, if_false, Sem.run_ite]
    congr 2
    apply Array.ext'
    simp [Act.eval]
  rw [hr, Oper.upon_enter]
  refine Calls.mono (hS _ K σ h ρ w _ hs hx) fun e w' he => ?_
  obtain ⟨v, v', ρ', σ', rfl, h1, h2, h3, h4⟩ := he
  exact hn _ _ _ _ _ h1 h2 h3 h4


theorem dst_lt {o : Oper} (hd : (o.dst.all fun d => Nat.blt d C.n) = true) {d : Nat} (h : o.dst = some d) : d < C.n := by
  rw [h] at hd
  exact Nat.le_of_ble_eq_true hd

theorem dl_some {o : Oper} {d : Nat} (h : o.dst = some d) : C.dl o = C.loc.lookup d := by
  simp only [Cx.dl, h, Option.bind_some]

theorem of_step {o : Oper} {K : St → Mem → Prop} (hI : FI C ρ0 σ0 w0 lm ρ s σ a w) (hd : (o.dst.all fun d => Nat.blt d C.n) = true) (hl : C.dl o = none)
    (h : Step C.P o a ρ σ w fun v τ => K (s.put o.dst v) τ) {next : Act → World → Prop} {Q : Exit → Act → World → Prop}
    (hn : ∀ lm' ρ' s' σ' a' w', K s' σ' → FI C ρ0 σ0 w0 lm' ρ' s' σ' a' w' → next a' w') : o.wp C.P a w next Q := by
  refine h next Q fun v v' ρ' σ' w' hk hv hs ht => hn lm ρ' _ σ' _ w' hk ?_
  have h1 := hI.step hs ht
  cases hdst : o.dst with
  | none => exact h1.put_none v v'
  | some d =>
    refine h1.put (dst_lt hd hdst) (fun _ => hv) fun k hk => ?_
    rw [dl_some hdst] at hl
    rw [hl] at hk; cases hk

theorem of_value {o : Oper} {K : St → Mem → Prop} (hI : FI C ρ0 σ0 w0 lm ρ s σ a w) (hd : (o.dst.all fun d => Nat.blt d C.n) = true) {v v' : Value}
    (hr : (execOp a.eval o).run C.P w = .ok (.value v') w) (hk : K (s.put o.dst v) σ) (hp : C.dl o = none → V ρ v v') (hl : ∀ k, C.dl o = some k → LocV lm k v v')
    {next : Act → World → Prop} {Q : Exit → Act → World → Prop}
    (hn : ∀ lm' ρ' s' σ' a' w', K s' σ' → FI C ρ0 σ0 w0 lm' ρ' s' σ' a' w' → next a' w') : o.wp C.P a w next Q := by
  unfold Oper.wp
  rw [hr, Oper.upon_value]
  refine hn lm ρ _ σ _ w hk ?_
  cases hdst : o.dst with
  | none => exact hI.put_none v v'
  | some d =>
    exact hI.put (dst_lt hd hdst) (fun h => hp (by rw [dl_some hdst]; exact h)) fun k hk => hl k (by rw [dl_some hdst]; exact hk)

theorem runSm_h {c : Cls} {r : Spec} {d : Option Nat} {args : List Value} {K : St → Mem → Prop} (h : runSm C (.h c r) d args s σ K) : r args (fun v τ => K (s.put d v) τ) σ := h

/-- A new local block, whatever makes it. -/
theorem of_newL {o : Oper} {K : St → Mem → Prop} (hI : FI C ρ0 σ0 w0 lm ρ s σ a w) (hd : (o.dst.all fun d => Nat.blt d C.n) = true) {k : Nat} (hdst : o.dst = some k) (hl : C.loc.lookup k = some k)
    (hf : freshB C k s = true) {arr : Array Value} {el : TypeId} {c : List Value} {w' : World} {v v' : Value} (hp : Push w (.cells arr el (0, 0)) w') (hc : VL ρ c arr.toList)
    (hr : (execOp a.eval o).run C.P w = .ok (.value v') w') (hk : K ((s.setL k c).put o.dst v) σ) (hv : LocV (fun i => if i = k then some w.heap.size else lm i) k v v')
    {next : Act → World → Prop} {Q : Exit → Act → World → Prop}
    (hn : ∀ lm' ρ' s' σ' a' w', K s' σ' → FI C ρ0 σ0 w0 lm' ρ' s' σ' a' w' → next a' w') : o.wp C.P a w next Q := by
  unfold Oper.wp
  rw [hr, Oper.upon_value]
  refine hn (fun i => if i = k then some w.heap.size else lm i) ρ _ σ _ w' hk ?_
  rw [hdst]
  exact (hI.newL hf hp hc).put (dst_lt hd hdst) (fun h => by rw [hl] at h; cases h) fun k' hk' => by rw [hl] at hk'; cases hk'; exact hv

theorem atNew_spec {o : Oper} {xs : List Operand} {l : Nat → Sm} {hh : Sm} {p : List Operand × Sm} (h : atNew C o xs l hh = some p) :
    C.plain xs = true ∧ ((∃ k, o.dst = some k ∧ C.loc.lookup k = some k ∧ p = (xs, l k)) ∨ (C.dl o = none ∧ p = (xs, hh))) := by
  unfold atNew at h
  split at h
  · rename_i d hd
    split at h
    · rename_i k hk
      split at h
      · rename_i hb
        cases h
        simp only [Bool.and_eq_true, beq_iff_eq] at hb
        obtain ⟨rfl, hp⟩ := hb
        exact ⟨hp, .inl ⟨k, hd, hk, rfl⟩⟩
      · cases h
    · rename_i hk
      split at h
      · rename_i hp
        cases h
        exact ⟨hp, .inr ⟨by simp [Cx.dl, hd, hk], rfl⟩⟩
      · cases h
  · cases h

theorem opW_sound (hT : TOk C.P C.T) (he : C.eqt.all (eqOk C.P) = true) (hI : FI C ρ0 σ0 w0 lm ρ s σ a w) {o : Oper} {K : St → Mem → Prop} (h : opW C o s σ K)
    {next : Act → World → Prop} {Q : Exit → Act → World → Prop}
    (hn : ∀ lm' ρ' s' σ' a' w', K s' σ' → FI C ρ0 σ0 w0 lm' ρ' s' σ' a' w' → next a' w') : o.wp C.P a w next Q := by
  unfold opW at h
  split at h
  case h_2 => exact h.elim
  rename_i xs m hcm
  split at h
  case isFalse => exact h.elim
  rename_i hd
  have hF : atF C o = some (xs, m) → o.wp C.P a w next Q := by
    intro hf
    unfold atF at hf
    split at hf
    · rename_i ys g hfo
      split at hf
      · rename_i hdl
        split at hf
        · rename_i hb
          cases hf
          simp only [Bool.and_eq_true] at hb
          obtain ⟨v, hg, hk⟩ := xF_live h
          obtain ⟨v', hr, hv⟩ := f_sound hfo he (ev := evO s) (ev' := a.eval) (hI.plains hb.1) hg
          exact of_value hI hd hr hk (fun _ => hv) (fun k hk => by rw [hdl] at hk; cases hk) hn
        · cases hf
      · rename_i k hdl
        split at hf
        · rename_i x ys'
          split at hf
          · rename_i hb
            cases hf
            simp only [Bool.and_eq_true, beq_iff_eq] at hb
            obtain ⟨v, hg, hk⟩ := xF_live h
            obtain ⟨v', hr, hv⟩ := locF_sound (w := w) (lm := lm) hfo hb.2 (hI.locv hb.1.2) (hI.plains hb.1.1) hg
            exact of_value hI hd hr hk (fun h => by rw [hdl] at h; cases h) (fun k' hk' => by rw [hdl] at hk'; cases hk'; exact hv) hn
          · cases hf
        · cases hf
    · cases hf
  unfold comp at hcm
  split at hcm
  · -- alloc
    rename_i e hop
    split at hcm
    · rename_i z hz
      obtain ⟨hp, ⟨k, h1, h2, h3⟩ | ⟨h1, h2⟩⟩ := atNew_spec hcm
      · cases h3
        simp only [runSm] at h
        split at h
        rotate_left
        · exact h.elim
        · rename_i hfr
          obtain ⟨i, zv, hi, hzv, hc, hsz, hvl, hl2, _⟩ := tZero_spec (ρ := ρ) hz
          simp only [List.map_nil, gAlloc, xC] at h
          refine of_newL hI hd h1 h2 hfr (push_new w (.cells zv.cells e)) (by rw [hc]; exact hvl) (v' := .pointer (some ⟨w.heap.size, 0, none⟩)) ?_ h (.inr (.inl ⟨0, w.heap.size, rfl, by simp, rfl⟩)) hn
          obtain ⟨dst, op, ty, pos, after, guard⟩ := o
          simp only at hop; subst hop
          simp only [execOp]
          refine finV ?_
          simp only [Instr.alloc, Sem.run_bind, run_zeroValue' hi hzv, Result.andThen_ok, run_newVar, Sem.run_pure]
      · cases h2
        exact of_step hI hd h1 (step_alloc hop hz hI.sim (runSm_h h)) hn
    · cases hcm
  · -- box
    rename_i e x hop
    split at hcm
    · rename_i hk
      obtain ⟨hp, ⟨k, h1, h2, h3⟩ | ⟨h1, h2⟩⟩ := atNew_spec hcm
      · cases h3
        simp only [runSm] at h
        split at h
        rotate_left
        · exact h.elim
        · rename_i hfr
          obtain ⟨c0, hc0, h⟩ := xC_live h
          · simp only [List.map_cons, List.map_nil, gBox] at hc0
            have hx := hI.plain (x := x) (by simpa [Cx.plain] using hp)
            obtain ⟨c', hc', hl⟩ := hx.cells hc0
            obtain ⟨e1, e2, e3⟩ := cells_of hc'
            refine of_newL hI hd h1 h2 hfr (push_new w (.cells (a.eval x).cells e)) (by rw [e1]; exact hl) (v' := .pointer (some ⟨w.heap.size, 0, none⟩)) ?_ h (.inr (.inl ⟨0, w.heap.size, rfl, by simp, rfl⟩)) hn
            obtain ⟨dst, op, ty, pos, after, guard⟩ := o
            simp only at hop; subst hop
            simp only [execOp]
            refine finV ?_
            simp only [Instr.box, Sem.run_bind, Result.andThen_ok, run_newVar, Sem.run_pure]
      · cases h2
        exact of_step hI hd h1 (step_box (s := s) hop (hI.plain (by simpa [Cx.plain] using hp)) hI.sim (runSm_h h)) hn
    · cases hcm
  · -- load
    rename_i t p hop
    unfold atLoad at hcm
    split at hcm
    · rename_i hb
      simp only [Bool.and_eq_true] at hb
      have hdl : C.dl o = none := by simpa using hb.2
      split at hcm
      · rename_i k hk
        cases hcm
        simp only [runSm, List.map_cons, List.map_nil] at h
        obtain ⟨v, hv, h⟩ := xO_live h
        · unfold gLoad at hv
          split at hv
          · rename_i ad cs hx
            simp at hx
            rcases hI.locv hk with q1 | ⟨o', b, q1, q2, q3⟩ | ⟨o', b, n', es, c', q1, q2, q3⟩
            · rw [hx] at q1; cases q1
            · rw [hx] at q1; cases q1
              obtain ⟨_, arr, el, r1, r2⟩ := hI.lb _ _ q2
              obtain ⟨hle, v', s1, s2⟩ := sub_sound r2 hv
              refine of_value hI hd ?_ h (fun _ => s2) (fun k hk => by rw [hdl] at hk; cases hk) hn
              obtain ⟨dst, op, ty, pos, after, guard⟩ := o
              simp only at hop; subst hop
              simp only [execOp, q3]
              refine finV ?_
              simp only [Instr.loadAt, Instr.sureAddr, Sem.run_bind, Sem.run_pure, Result.andThen_ok]
              exact run_loadVar hb.1.1 (by simpa using hb.1.2) r1 (by simpa using hle) s1
            · rw [hx] at q1; cases q1
          · cases hv
      · rename_i hk
        cases hcm
        exact of_step hI hd hdl (step_load (s := s) hop hb.1.1 hb.1.2 (hI.plain (by simp [hk])) hI.sim (runSm_h h)) hn
    · cases hcm
  · -- store
    rename_i t p x hop
    unfold atStore at hcm
    split at hcm
    · rename_i hb
      simp only [Bool.and_eq_true] at hb
      have hdn : o.dst = none := by simpa using hb.2
      have hx := hI.plain (x := x) (by simpa [Cx.plain] using hb.1.2)
      split at hcm
      · rename_i k hk
        cases hcm
        simp only [runSm, List.map_cons, List.map_nil] at h
        obtain ⟨c, hvc, h⟩ := xC_live h
        · unfold gStore at hvc
          split at hvc
          · rename_i ad x0 cs hxx
            simp at hxx
            obtain ⟨hx1, rfl⟩ := hxx
            split at hvc
            · rename_i c0 hc0
              split at hvc
              · rename_i hle
                cases hvc
                rcases hI.locv hk with q1 | ⟨o', b, q1, q2, q3⟩ | ⟨o', b, n', es, c', q1, q2, q3⟩
                · rw [hx1] at q1; cases q1
                · rw [hx1] at q1; cases q1
                  obtain ⟨_, arr, el, r1, r2⟩ := hI.lb _ _ q2
                  obtain ⟨c', hc', hl⟩ := hx.cells hc0
                  have hsz : arr.size = (s.l k).length := by simpa using r2.len.symm
                  obtain ⟨w', s1, s2⟩ := run_storeVar (P := C.P) (w := w) (o := o') hb.1.1 r1 hc' (hl.oneB hle.2) (by rw [hsz]; exact hle.1)
                  unfold Oper.wp
                  have hr : (execOp a.eval o).run C.P w = .ok .skip w' := by
                    obtain ⟨dst, op, ty, pos, after, guard⟩ := o
                    simp only at hop; subst hop
                    simp only [execOp, q3]
                    exact finU (by simp only [Instr.storeAt, Instr.sureAddr, Sem.run_bind, Sem.run_pure, Result.andThen_ok, s1])
                  rw [hr, Oper.upon_skip, hdn]
                  rw [hdn] at h
                  exact hn lm ρ _ σ _ w' h (hI.setL q2 s2 (by simpa using r2.lay hl o'))
                · rw [hx1] at q1; cases q1
              · cases hvc
            · cases hvc
          · cases hvc
      · rename_i hk
        cases hcm
        exact of_step hI hd (by simp [Cx.dl, hdn]) (step_store (s := s) hop hb.1.1 (hI.plain (by simp [hk])) hx hI.sim (runSm_h h)) hn
    · cases hcm
  · -- buildSlice
    rename_i t len parts hop
    split at hcm
    · rename_i e ht
      split at hcm
      · rename_i z hz
        split at hcm
        · rename_i hb
          obtain ⟨hp, ⟨k, h1, h2, h3⟩ | ⟨h1, h2⟩⟩ := atNew_spec hcm
          · cases h3
            simp only [runSm] at h
            split at h
            rotate_left
            · exact h.elim
            · rename_i hfr
              obtain ⟨c0, hc0, h⟩ := xC_live h
              · simp only [gBuildS] at hc0
                obtain ⟨c', r1, r2⟩ := run_buildS (w := w) ht hz hb (zip_map_parts (ev := a.eval) parts) (hI.plains hp) hc0
                refine of_newL hI hd h1 h2 hfr (push_new w (.cells c' e)) r1 (v' := .slice (some ⟨w.heap.size, 0, none⟩) len len) ?_ h
                  (.inr (.inr ⟨0, w.heap.size, len, _, len, rfl, by simp, rfl⟩)) hn
                obtain ⟨dst, op, ty, pos, after, guard⟩ := o
                simp only at hop; subst hop
                simp only [execOp]
                exact finV r2
          · cases h2
            exact of_step hI hd h1 (step_buildS (s := s) hop ht hz hb (hI.plains hp) hI.sim (runSm_h h)) hn
        · cases hcm
      · cases hcm
    · cases hcm
  · -- makeSlice
    rename_i t n m hop
    split at hcm
    · rename_i e ht
      split at hcm
      · rename_i z hz
        split at hcm
        · rename_i hb
          cases hcm
          simp only [Bool.and_eq_true, Cx.plain, List.all_cons, List.all_nil, Bool.and_true] at hb
          exact of_step hI hd (by simpa using hb.1.2) (step_makeS (s := s) hop ht hz (hI.plain hb.1.1.1) (hI.plain hb.1.1.2) hI.sim (runSm_h h)) hn
        · cases hcm
      · cases hcm
    · cases hcm
  · -- call
    rename_i c hop
    split at hcm
    · rename_i hc
      split at hcm
      · rename_i sx x t u ha hat
        unfold atAppend at hcm
        split at hcm
        · rename_i e e' ht hu
          split at hcm
          · rename_i z hz
            split at hcm
            · rename_i hb
              simp only [Bool.and_eq_true, Cx.plain, List.all_cons, List.all_nil, Bool.and_true] at hb
              have hdl : C.dl o = none := by simpa using hb.1.1.2
              split at hcm
              · rename_i k hk
                cases hcm
                exact of_step hI hd hdl (step_appendL (s := s) (lm := lm) hop hc ha hat ht ⟨_, hu⟩ hz hb.2 (hI.plain hb.1.1.1) (hI.locv hk) hI.sim
                  (fun b hb => let ⟨_, arr, el, r1, r2⟩ := hI.lb _ _ hb; ⟨arr, el, r1, r2⟩) h) hn
              · rename_i hk
                cases hcm
                exact of_step hI hd hdl (step_append (s := s) hop hc ha hat ht ⟨_, hu⟩ hz hb.2 (hI.plain hb.1.1.1) (hI.plain (by simp [hk])) hI.sim (runSm_h h)) hn
            · cases hcm
          · cases hcm
        · cases hcm
      · cases hcm
    · rename_i g hc
      unfold atCall at hcm
      split at hcm
      · rename_i hb
        simp only [Bool.and_eq_true] at hb
        split at hcm
        · rename_i cl S hl
          cases hcm
          obtain ⟨t1, t2, t3⟩ := hT _ _ _ hl
          exact of_step hI hd (by simpa using hb.1.2) (step_call (s := s) hop hc t1 t3 (hI.plains hb.1.1) hI.sim (runSm_h h)) hn
        · cases hcm
      · cases hcm
    · exact hF hcm
  · exact hF hcm

end

end Go.Fl
