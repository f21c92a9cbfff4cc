/- Each order that Go lets; code and functions in the world. Conditions: the checks 'codeOk' and 'TOk'. -/
import Derived.Test.YthibiempfkcinaaFlK
namespace Go.Fl
open Go
set_option linter.unusedVariables false
set_option linter.unusedSimpArgs false

def reachB (ops : Array Oper) : Nat → Nat → Nat → Bool
  | 0, _, _ => false
  | f + 1, j, p => match ops[j]? with
    | none => false
    | some o => (o.after.toList.any fun e => Region.binds .any e && Nat.beq e.on p) || (o.after.toList.any fun e => Region.binds .any e && reachB ops f e.on p)

def pairsB (C : Cx) (ops : Array Oper) : List Oper → Nat → List (Nat × Oper) → Bool
  | [], _, _ => true
  | o :: l, j, seen => (seen.all fun x => indep C ops x.2 o || reachB ops 12 j x.1) && pairsB C ops l (j + 1) ((j, o) :: seen)

def edgesB (l : List Oper) : Nat → Bool := match l with
  | [] => fun _ => true
  | o :: l => fun i => (o.after.toList.all fun e => !(Region.binds .any e) || Nat.blt e.on i) && edgesB l (i + 1)

/-- May a region's operations be done in each order that Go lets? -/
def drawOk (C : Cx) (ops : Array Oper) : Bool := edgesB ops.toList 0 && pairsB C ops ops.toList 0 []

theorem edges_spec : ∀ {l : List Oper} {i : Nat}, edgesB l i = true → ∀ {k : Nat} {o : Oper}, l[k]? = some o → ∀ e ∈ o.after, Region.binds .any e = true → e.on < i + k := by
  intro l
  induction l with
  | nil => intro i _ k o h; simp at h
  | cons x xs ih =>
    intro i h k o hk e he hb
    simp only [edgesB, Bool.and_eq_true] at h
    cases k with
    | zero =>
      simp at hk; subst hk
      have := List.all_eq_true.1 h.1 e (by simpa using he)
      rw [hb] at this
      simp only [Bool.not_true, Bool.false_or] at this
      exact Nat.le_of_ble_eq_true this
    | succ k =>
      have := ih h.2 (by simpa using hk) e he hb
      omega

theorem pairs_spec {C : Cx} {ops : Array Oper} : ∀ {l : List Oper} {j : Nat} {seen : List (Nat × Oper)}, pairsB C ops l j seen = true →
    (∀ {k : Nat} {o : Oper}, l[k]? = some o → ∀ x ∈ seen, indep C ops x.2 o = true ∨ reachB ops 12 (j + k) x.1 = true) ∧
    (∀ {k k' : Nat} {o o' : Oper}, k' < k → l[k]? = some o → l[k']? = some o' → indep C ops o' o = true ∨ reachB ops 12 (j + k) (j + k') = true) := by
  intro l
  induction l with
  | nil => intro j seen _; exact ⟨fun h => by simp at h, fun _ h => by simp at h⟩
  | cons x xs ih =>
    intro j seen h
    simp only [pairsB, Bool.and_eq_true] at h
    obtain ⟨i1, i2⟩ := ih h.2
    refine ⟨fun {k o} hk y hy => ?_, fun {k k' o o'} hlt hk hk' => ?_⟩
    · cases k with
      | zero =>
        simp at hk; subst hk
        have := List.all_eq_true.1 h.1 y hy
        simpa using this
      | succ k =>
        have := i1 (k := k) (by simpa using hk) y (by simp [hy])
        rwa [show j + (k + 1) = j + 1 + k from by omega]
    · cases k with
      | zero => omega
      | succ k =>
        cases k' with
        | zero =>
          simp at hk'; subst hk'
          have := i1 (k := k) (by simpa using hk) (j, x) (by simp)
          rwa [show j + (k + 1) = j + 1 + k from by omega]
        | succ k' =>
          have := i2 (k := k) (k' := k') (by omega) (by simpa using hk) (by simpa using hk')
          rwa [show j + (k + 1) = j + 1 + k from by omega, show j + (k' + 1) = j + 1 + k' from by omega]

theorem opG_mono {C : Cx} (hC : C.good) {ops : Array Oper} {o : Oper} {s : St} {σ : Mem} {K K' : St → Mem → Prop} (h : ∀ s τ, K s τ → K' s τ) (hs : opG C ops o s σ K) : opG C ops o s σ K' := by
  rw [opG_act] at *
  exact actG_mono hC (fun r τ hk => h _ _ hk) hs

/-- An operation that hangs on none of those ahead of it may come first. -/
theorem move {C : Cx} (hC : C.good) {ops : Array Oper} {i : Nat} {o : Oper} (hi : ops[i]? = some o) {K : St → Mem → Prop} {post : List Nat} : ∀ {pre : List Nat} {s : St} {σ : Mem},
    (∀ p ∈ pre, ∀ q, ops[p]? = some q → indep C ops q o = true) → opsI C ops K (pre ++ i :: post) s σ → opG C ops o s σ (fun s σ => opsI C ops K (pre ++ post) s σ) := by
  intro pre
  induction pre with
  | nil => intro s σ _ h; simpa [opsI, hi] using h
  | cons p pre ih =>
    intro s σ hp h
    simp only [List.cons_append, opsI] at h ⊢
    cases hq : ops[p]? with
    | none =>
      simp only [hq] at h ⊢
      exact ih (fun p' h' => hp p' (by simp [h'])) h
    | some q =>
      simp only [hq] at h ⊢
      have h2 := opG_mono hC (fun s τ hk => ih (fun p' h' => hp p' (by simp [h'])) hk) h
      exact swap hC (hp p (by simp) q hq) h2

theorem reach_listed {ops : Array Oper} {listed : Array Bool} (hdc : ∀ j o, ops[j]? = some o → listed.getD j false = true → ∀ e ∈ o.after, Region.binds .any e = true → listed.getD e.on false = true) :
    ∀ (f j p : Nat) (o : Oper), ops[j]? = some o → (∀ e ∈ o.after, Region.binds .any e = true → listed.getD e.on false = true) → reachB ops f j p = true → listed.getD p false = true := by
  intro f
  induction f with
  | zero => intro j p o _ _ h; cases h
  | succ f ih =>
    intro j p o ho hd h
    simp only [reachB, ho, Bool.or_eq_true, List.any_eq_true, Bool.and_eq_true] at h
    rcases h with ⟨e, he, hb, hp⟩ | ⟨e, he, hb, hr⟩
    · have : e.on = p := Nat.eq_of_beq_eq_true hp
      rw [← this]
      exact hd e (by simpa using he) hb
    · have hl := hd e (by simpa using he) hb
      cases hoe : ops[e.on]? with
      | none =>
        cases f with
        | zero => cases hr
        | succ f => simp only [reachB, hoe] at hr; cases hr
      | some oe => exact ih _ _ oe hoe (hdc _ _ hoe hl) hr

section
variable {C : Cx} {ρ0 : Ren} {σ0 : Mem} {w0 : World} {lm : Nat → Option Nat} {ρ : Ren} {s : St} {σ : Mem} {a : Act} {w : World}

theorem any_sound (hT : TOk C.P C.T) (he : C.eqt.all (eqOk C.P) = true) {ops : Array Oper} (hds : dstsOk C ops = true) (hdr : drawOk C ops = true) {K : St → Mem → Prop} {Q : Exit → Act → World → Prop}
    (hQ : Post C ρ0 σ0 w0 K (Q .normal)) : ∀ (fuel : Nat) (rem : List Nat) (listed : Array Bool) (lm : Nat → Option Nat) (ρ : Ren) (s : St) (σ : Mem) (a : Act) (w : World),
      rem.length ≤ fuel → listed.size = ops.size → rem.Pairwise (· < ·) → (∀ i, i ∈ rem ↔ i < ops.size ∧ listed.getD i false = false) →
      (∀ j o, ops[j]? = some o → listed.getD j false = true → ∀ e ∈ o.after, Region.binds .any e = true → listed.getD e.on false = true) →
      opsI C ops K rem s σ → FI C ρ0 σ0 w0 lm ρ s σ a w → wpAny C.P .any ops Q fuel listed a w := by
  have hC : C.good := fun g c S h => (hT g c S h).2.1
  simp only [drawOk, Bool.and_eq_true] at hdr
  have hedge : ∀ {k : Nat} {o : Oper}, ops.toList[k]? = some o → ∀ e ∈ o.after, Region.binds .any e = true → e.on < 0 + k := fun h => edges_spec hdr.1 h
  have hpair : ∀ {k k' : Nat} {o o' : Oper}, k' < k → ops.toList[k]? = some o → ops.toList[k']? = some o' → indep C ops o' o = true ∨ reachB ops 12 (0 + k) (0 + k') = true := fun h1 h2 h3 => (pairs_spec hdr.2).2 h1 h2 h3
  have hne : ∀ (rem : List Nat) (listed : Array Bool), listed.size = ops.size → rem.Pairwise (· < ·) → (∀ i, i ∈ rem ↔ i < ops.size ∧ listed.getD i false = false) →
      Region.ready .any ops listed = [] → rem = [] := by
    intro rem listed hsz hpw hrem hnil
    cases rem with
    | nil => rfl
    | cons i rest =>
      exfalso
      obtain ⟨hlt, hun⟩ := (hrem i).1 (by simp)
      have hin : i ∈ Region.ready .any ops listed := by
        rw [mem_ready]
        refine ⟨by simpa [hsz, hlt] using hun, ops[i], by simp [hlt], fun e he hb => ?_⟩
        have hlo := hedge (k := i) (o := ops[i]) (by simp [hlt]) e he hb
        simp only [Nat.zero_add] at hlo
        cases hl : listed.getD e.on false with
        | true => rfl
        | false =>
          have hm := (hrem e.on).2 ⟨by omega, hl⟩
          rcases List.mem_cons.1 hm with h | h
          · omega
          · have := (List.pairwise_cons.1 hpw).1 _ h; omega
      rw [hnil] at hin; cases hin
  intro fuel
  induction fuel with
  | zero =>
    intro rem listed lm ρ s σ a w hlen hsz hpw hrem hdc h hI
    have : rem = [] := List.length_eq_zero_iff.1 (by omega)
    subst this
    refine ⟨?_, hQ _ _ _ _ _ _ h hI⟩
    cases hr : Region.ready .any ops listed with
    | nil => rfl
    | cons i rest =>
      have hin : i ∈ Region.ready .any ops listed := by rw [hr]; simp
      obtain ⟨h1, o, ho, _⟩ := mem_ready.1 hin
      have hlt : i < ops.size := (Array.getElem?_eq_some_iff.1 ho).1
      have : i ∈ ([] : List Nat) := (hrem i).2 ⟨hlt, by simpa [hsz, hlt] using h1⟩
      cases this
  | succ fuel ih =>
    intro rem listed lm ρ s σ a w hlen hsz hpw hrem hdc h hI
    refine ⟨fun hnil => ?_, fun i hin => ?_⟩
    · have := hne rem listed hsz hpw hrem hnil
      subst this
      exact hQ _ _ _ _ _ _ h hI
    · obtain ⟨h1, o, ho, hdeps⟩ := mem_ready.1 hin
      have hlt : i < ops.size := (Array.getElem?_eq_some_iff.1 ho).1
      have hmem : i ∈ rem := (hrem i).2 ⟨hlt, by simpa [hsz, hlt] using h1⟩
      obtain ⟨pre, post, rfl⟩ := List.append_of_mem hmem
      have hpre : ∀ p ∈ pre, p < i := fun p hp => (List.pairwise_append.1 hpw).2.2 p hp i (by simp)
      have hind : ∀ p ∈ pre, ∀ q, ops[p]? = some q → indep C ops q o = true := by
        intro p hp q hq
        rcases hpair (k := i) (k' := p) (hpre p hp) (by simpa using ho) (by simpa using hq) with h' | h'
        · exact h'
        · simp only [Nat.zero_add] at h'
          have := reach_listed hdc 12 i p o ho hdeps h'
          have hp' := ((hrem p).1 (by simp [hp])).2
          rw [hp'] at this; cases this
      have hmv := move hC ho hind h
      refine opG_sound hT he ho hmv hI (dsts_spec hds ho) fun lm' ρ' s' σ' a' w' hk hf => ?_
      refine ih (pre ++ post) (listed.setIfInBounds i true) lm' ρ' s' σ' a' w' (by simp at hlen ⊢; omega) (by simp [hsz]) ?_ ?_ ?_ hk hf
      · have := List.pairwise_append.1 hpw
        refine List.pairwise_append.2 ⟨this.1, (List.pairwise_cons.1 this.2.1).2, fun x hx y hy => this.2.2 x hx y (by simp [hy])⟩
      · intro k
        have hk := hrem k
        simp only [List.mem_append, List.mem_cons] at hk ⊢
        by_cases e : k = i
        · subst e
          have hnp : k ∉ pre := fun hp => Nat.lt_irrefl _ (hpre k hp)
          have hnq : k ∉ post := fun hp => Nat.lt_irrefl _ ((List.pairwise_cons.1 (List.pairwise_append.1 hpw).2.1).1 k hp)
          simp [hnp, hnq, hsz, hlt]
        · rw [getD_set_ne false (Ne.symm e)]
          simp only [e, false_or] at hk
          exact hk
      · intro j oj hoj hl e he hb
        by_cases ej : j = i
        · subst ej
          rw [ho] at hoj; cases hoj
          exact getD_set_true (hdeps e he hb)
        · rw [getD_set_ne false (Ne.symm ej)] at hl
          exact getD_set_true (hdc j oj hoj hl e he hb)

theorem getD_repl_false (m j : Nat) : (Array.replicate m false).getD j false = false := by
  rw [Array.getD_eq_getD_getElem?, Array.getElem?_replicate]
  split <;> rfl

theorem opsI_range {ops : Array Oper} : List.range' 0 ops.toList.length = List.range ops.size := by
  rw [List.range_eq_range']; simp

theorem region_sound (hT : TOk C.P C.T) (he : C.eqt.all (eqOk C.P) = true) (hm : C.P.follows .mixedOrders = true) {id : Nat} {ops : Array Oper} {draw : Bool} (hds : dstsOk C ops = true)
    (hdi : distinctB ops.toList = true) (hdr : draw = true → drawOk C ops = true) {K : St → Mem → Prop} {Q : Exit → Act → World → Prop} (hQ : Post C ρ0 σ0 w0 K (Q .normal))
    (h : opsW C ops K ops.toList 0 [] s σ) (hI : FI C ρ0 σ0 w0 lm ρ s σ a w) : (Code.region id ops draw).wp C.P Q a w := by
  have hC : C.good := fun g c S h => (hT g c S h).2.1
  have hx := opsW_opsI hC hdi ops.toList 0 [] s σ rfl (fun j x h => by cases h) h
  rw [opsI_range] at hx
  cases draw with
  | false => exact wp_region (opsI_sound hT he hds hQ _ _ _ _ _ _ _ hx hI)
  | true =>
    refine wp_region_any hm ?_
    have hI' : FI C ρ0 σ0 w0 lm ρ s σ a { w with drawn := w.drawn + 1 } := by
      refine ⟨hI.sim.heap rfl, ⟨hI.stp.le, hI.stp.same.trans ⟨rfl, rfl, rfl⟩, hI.stp.size, hI.stp.keep, hI.stp.own⟩, hI.n, hI.df, hI.tm, hI.lt, hI.lb, hI.li, hI.ld⟩
    refine any_sound hT he hds (hdr rfl) hQ ops.size (List.range ops.size) _ _ _ _ _ _ _ (by simp) (by simp) ?_ ?_ ?_ hx hI'
    · rw [List.range_eq_range']; exact List.pairwise_lt_range'
    · intro i
      simp only [List.mem_range, getD_repl_false, and_true]
    · intro j o _ hl
      rw [getD_repl_false] at hl; cases hl


/-! ### Code -/

def codeOk (C : Cx) : Code → Bool
  | .region _ ops draw => dstsOk C ops && distinctB ops.toList && (!draw || drawOk C ops)
  | .seq a b | .cond _ a b => codeOk C a && codeOk C b
  | .block _ c | .scope c | .loop c => codeOk C c
  | _ => true

def Ex.out : Ex → Exit
  | .normal => .normal
  | .exit i => .exit i
  | .ret => .ret

def PostX (C : Cx) (ρ0 : Ren) (σ0 : Mem) (w0 : World) (Q : Ex → St → Mem → Prop) (Q' : Exit → Act → World → Prop) : Prop :=
  ∀ e lm ρ s σ a w, Q e s σ → FI C ρ0 σ0 w0 lm ρ s σ a w → Q' e.out a w

/-- A loop from its next round on. -/
def LoopAt (P : Program) (c : Code) (Q : Exit → Act → World → Prop) (a : Act) (w : World) : Prop :=
  ∀ b k cs, ∃ e a' w', Q e a' w' ∧ Arrives P (lone (b.at a (.code c :: .inLoop c :: k)) cs w) b k cs e a' w'

theorem LoopAt.round {P : Program} {c : Code} {Q : Exit → Act → World → Prop} {a : Act} {w : World} (h : c.wp P (Exit.then (LoopAt P c Q) Q) a w) : LoopAt P c Q a w := by
  intro b k cs
  obtain ⟨e, a₁, w₁, hq, harr⟩ := h b (.inLoop c :: k) cs
  cases e with
  | normal =>
    obtain ⟨e₂, a₂, w₂, hq₂, harr₂⟩ := hq b k cs
    exact ⟨e₂, a₂, w₂, hq₂, .of_steps (Steps.trans harr (.one step_inLoop)) harr₂⟩
  | exit id => exact ⟨_, a₁, w₁, hq, .pass (x := .inLoop c) rfl (fun _ _ => .inl (by simp)) harr⟩
  | goto l => exact ⟨_, a₁, w₁, hq, .pass (x := .inLoop c) rfl (fun _ _ => .inl (by simp)) harr⟩
  | ret => exact ⟨_, a₁, w₁, hq, .pass (x := .inLoop c) rfl (fun _ _ => .inl (by simp)) harr⟩
  | panic ch => exact ⟨_, a₁, w₁, hq, .pass (x := .inLoop c) rfl (fun _ _ => .inl (by simp)) harr⟩
  | outgrown => exact ⟨_, a₁, w₁, hq, .pass (x := .inLoop c) rfl (fun _ _ => .inl (by simp)) harr⟩

theorem LoopAt.loop {P : Program} {c : Code} {Q : Exit → Act → World → Prop} {a : Act} {w : World} (h : LoopAt P c Q a w) : (Code.loop c).wp P Q a w := by
  intro b k cs
  obtain ⟨e, a', w', hq, harr⟩ := h b k cs
  exact ⟨e, a', w', hq, .of_steps (.one step_loop) harr⟩

theorem getD_idx {α : Type} {f : Nat → α} {t : Nat} {d : α} : ∀ {l : List Nat}, t ∈ l → (l.map f).getD (l.idxOf t) d = f t
  | [], h => by cases h
  | x :: xs, h => by
    by_cases e : x = t
    · subst e; simp
    · have : t ∈ xs := by
        rcases List.mem_cons.1 h with h | h
        · exact absurd h.symm e
        · exact h
      have hb : (x == t) = false := by simpa using e
      rw [List.idxOf_cons, hb]
      simpa using getD_idx (f := f) (d := d) this

theorem backW_sound {kt kl : List Nat} {R : List Value → List (List Value) → Mem → Prop} (h : backW C kt kl s σ R) (hI : FI C ρ0 σ0 w0 lm ρ s σ a w) :
    ∃ lm' ts ls, R ts ls σ ∧ FI C ρ0 σ0 w0 lm' ρ (mkSt kt kl ts ls) σ a w := by
  unfold backW at h
  split at h
  · rename_i hb
    simp only [Bool.and_eq_true, List.all_eq_true] at hb
    obtain ⟨hkl, hkt⟩ := hb
    refine ⟨fun k => if kl.contains k then lm k else none, _, _, h, hI.sim, hI.stp, hI.n, hI.df, fun t ht => ?_, fun t k ht => ?_, fun k b hk => ?_, fun k k' b h1 h2 => ?_, fun k b hk => ?_⟩
    · simp only [mkSt]
      cases hc : kl.contains t with
      | true =>
        have := (hkl t (by simpa using hc))
        rw [beq_iff_eq] at this
        rw [ht] at this; cases this.2
      | false =>
        cases hc2 : kt.contains t with
        | true =>
          simp only [cond_false, cond_true]
          rw [getD_idx (by simpa using hc2)]
          exact hI.tm t ht
        | false => simp only [cond_false]; exact .poi _
    · simp only [mkSt]
      cases hc : kl.contains t with
      | true =>
        have hk2 := (hkl t (by simpa using hc))
        rw [beq_iff_eq] at hk2
        rw [ht] at hk2
        obtain ⟨h1, h2⟩ := hk2
        simp at h2; subst h2
        simp only [cond_true]
        have hst : s.t k = locP k := by
          unfold isLocP at h1
          split at h1
          · rename_i b hv
            have : b = k := Nat.eq_of_beq_eq_true h1
            rw [hv, this]; rfl
          · cases h1
        rcases hI.lt k k ht with q | ⟨o, b, q1, q2, q3⟩ | ⟨o, b, n, es, c', q1, q2, q3⟩
        · rw [hst] at q; cases q
        · exact .inr (.inl ⟨o, b, by rw [← hst]; exact q1, by simp only [hc, if_true]; exact q2, q3⟩)
        · rw [hst] at q1; cases q1
      | false =>
        cases hc2 : kt.contains t with
        | true =>
          have := (hkt t (by simpa using hc2))
          rw [ht] at this; cases this.1
        | false => simp only [cond_false]; exact .inl rfl
    · split at hk
      · rename_i hc
        obtain ⟨h0, arr, el, h1, h2⟩ := hI.lb k b hk
        refine ⟨h0, arr, el, h1, ?_⟩
        simp only [mkSt, hc, cond_true]
        rw [getD_idx (by simpa using hc)]
        exact h2
      · cases hk
    · split at h1
      · split at h2
        · exact hI.li _ _ _ h1 h2
        · cases h2
      · cases h1
    · split at hk
      · exact hI.ld _ _ hk
      · cases hk
  · exact h.elim

theorem thru_sound {x y : Code} {B : St → Mem → Prop} (h : thru C x y B s σ) (hI : FI C ρ0 σ0 w0 lm ρ s σ a w) : ∃ lm' s', B s' σ ∧ FI C ρ0 σ0 w0 lm' ρ s' σ a w := by
  unfold thru at h
  split at h
  · obtain ⟨lm', ts, ls, h, hI⟩ := backW_sound h hI
    exact ⟨lm', _, h, hI⟩
  · exact ⟨lm, s, h, hI⟩

theorem Wp_sound (hT : TOk C.P C.T) (he : C.eqt.all (eqOk C.P) = true) (hm : C.P.follows .mixedOrders = true) (c : Code) : codeOk C c = true →
    ∀ {Q : Ex → St → Mem → Prop} {Q' : Exit → Act → World → Prop} (lm : Nat → Option Nat) (ρ : Ren) (s : St) (σ : Mem) (a : Act) (w : World),
      PostX C ρ0 σ0 w0 Q Q' → Wp C c Q s σ → FI C ρ0 σ0 w0 lm ρ s σ a w → c.wp C.P Q' a w := by
  induction c with
  | skip => intro _ Q Q' lm ρ s σ a w hp h hI; exact wp_skip (hp .normal _ _ _ _ _ _ h hI)
  | label l => intro _ Q Q' lm ρ s σ a w hp h hI; exact wp_label (hp .normal _ _ _ _ _ _ h hI)
  | exit l => intro _ Q Q' lm ρ s σ a w hp h hI; exact wp_exit (hp (.exit l) _ _ _ _ _ _ h hI)
  | ret => intro _ Q Q' lm ρ s σ a w hp h hI; exact wp_ret (hp .ret _ _ _ _ _ _ h hI)
  | seq x y ihx ihy =>
    intro hc Q Q' lm ρ s σ a w hp h hI
    simp only [codeOk, Bool.and_eq_true] at hc
    rw [Wp_seq] at h
    refine wp_seq (ihx hc.1 _ _ _ _ _ _ ?_ h hI)
    intro e lm ρ s σ a w hq hI
    cases e with
    | normal =>
      obtain ⟨lm, s, hq, hI⟩ := thru_sound hq hI
      exact ihy hc.2 _ _ _ _ _ _ hp hq hI
    | exit i => exact hp (.exit i) _ _ _ _ _ _ hq hI
    | ret => exact hp .ret _ _ _ _ _ _ hq hI
  | cond c x y ihx ihy =>
    intro hc Q Q' lm ρ s σ a w hp h hI
    simp only [codeOk, Bool.and_eq_true] at hc
    unfold Wp at h
    split at h
    · rename_i hl
      have hv := hI.plain hl
      unfold xIf at h
      split at h
      · rename_i hb; rw [hb] at hv; exact wp_cond_true hv.bool_inv (ihx hc.1 _ _ _ _ _ _ hp h hI)
      · rename_i hb; rw [hb] at hv; exact wp_cond_false hv.bool_inv (ihy hc.2 _ _ _ _ _ _ hp h hI)
      · exact h.elim
    · exact h.elim
  | block id x ih =>
    intro hc Q Q' lm ρ s σ a w hp h hI
    refine wp_block (ih hc _ _ _ _ _ _ ?_ h hI)
    intro e lm ρ s σ a w hq hI
    cases e with
    | normal => exact hp .normal _ _ _ _ _ _ hq hI
    | exit i =>
      dsimp only at hq
      show if i = id then _ else _
      cases hb : Nat.beq i id
      · rw [hb] at hq
        rw [if_neg (Nat.ne_of_beq_eq_false hb)]
        exact hp (.exit i) _ _ _ _ _ _ hq hI
      · rw [hb] at hq
        rw [if_pos (Nat.eq_of_beq_eq_true hb)]
        exact hp .normal _ _ _ _ _ _ hq hI
    | ret => exact hp .ret _ _ _ _ _ _ hq hI
  | scope x ih =>
    intro hc Q Q' lm ρ s σ a w hp h hI
    refine wp_scope_straight (ih hc _ _ _ _ _ _ ?_ h hI)
    intro e lm ρ s σ a w hq hI
    have := hp e _ _ _ _ _ _ hq hI
    cases e <;> exact this
  | loop x ih =>
    intro hc Q Q' lm ρ s σ a w hp h hI
    unfold Wp at h
    split at h
    · rename_i kt kl hk
      obtain ⟨lm1, ts, ls, hl, hI1⟩ := backW_sound h hI
      refine (hl (fun ts ls σ => ∀ lm ρ a w, FI C ρ0 σ0 w0 lm ρ (mkSt kt kl ts ls) σ a w → LoopAt C.P x Q' a w) ?_ _ _ _ _ hI1).loop
      rintro ts2 ls2 σ2 ⟨R, hR, hF⟩ lm2 ρ2 a2 w2 hI2
      refine LoopAt.round (ih hc _ _ _ _ _ _ ?_ hF hI2)
      intro e lm ρ s σ a w hq hI
      cases e with
      | normal =>
        obtain ⟨lm3, ts3, ls3, hq3, hI3⟩ := backW_sound hq hI
        exact hR _ _ _ hq3 _ _ _ _ hI3
      | exit i => exact hp (.exit i) _ _ _ _ _ _ hq hI
      | ret => exact hp .ret _ _ _ _ _ _ hq hI
    · exact h.elim
  | region id ops draw =>
    intro hc Q Q' lm ρ s σ a w hp h hI
    simp only [codeOk, Bool.and_eq_true, Bool.or_eq_true, Bool.not_eq_true'] at hc
    exact region_sound hT he hm hc.1.1 hc.1.2 (fun hd => hc.2.resolve_left (by rw [hd]; simp)) (fun lm ρ s σ a w hk hf => hp .normal _ _ _ _ _ _ hk hf) h hI
  | rangeFunc f ps x y _ _ => intro _ Q Q' lm ρ s σ a w hp h hI; exact h.elim
  | goto l => intro _ Q Q' lm ρ s σ a w hp h hI; exact h.elim
  | refuse l => intro _ Q Q' lm ρ s σ a w hp h hI; exact h.elim

end

/-! ### Functions -/

def arity : Nat → List Value → Bool
  | 0, [] => true
  | n + 1, _ :: xs => arity n xs
  | _, _ => false

def resOk (C : Cx) (fn : Func) : Bool := fn.results.toList.all fun r => match r with
  | .tmp t => (C.loc.lookup t).isNone
  | .cell _ t => tKnown C.P t && (tAgg C.P t || tSz C.P t == 1)

/-- A function as a predicate transformer. -/
def FnS (C : Cx) (fn : Func) (c : Code) (np : Nat) : Spec := fun args K σ => if arity np args = true then FnW C fn c args K σ else False

theorem arity_len : ∀ {n : Nat} {l : List Value}, arity n l = true → l.length = n
  | 0, [], _ => rfl
  | n + 1, _ :: xs, h => by simp [arity_len (n := n) (l := xs) h]
  | 0, _ :: _, h => by cases h
  | n + 1, [], h => by cases h

def resRun (tmps : Array Value) (r : ResultVar) : Sem Value :=
  match r with
  | .tmp t => pure (tmps.getD t undef)
  | .cell x t => do loadVar t (← asAddr (tmps.getD x undef))

theorem results_eq (fn : Func) (tmps : Array Value) : results fn tmps = (do
    let vs ← fn.results.mapM (resRun tmps)
    pure (if h : vs.size = 1 then vs[0] else .tuple vs)) := by
  unfold results
  congr 1

theorem resW_sound {C : Cx} {ρ0 : Ren} {σ0 : Mem} {w0 : World} {lm : Nat → Option Nat} {ρ : Ren} {s : St} {σ : Mem} {a : Act} {w : World} (hI : FI C ρ0 σ0 w0 lm ρ s σ a w) :
    ∀ {rs : List ResultVar} {K : List Value → Prop}, (rs.all fun r => match r with
      | .tmp t => (C.loc.lookup t).isNone
      | .cell _ t => tKnown C.P t && (tAgg C.P t || tSz C.P t == 1)) = true → resW C rs s K →
    ∃ vs vs', K vs ∧ (rs.mapM (resRun a.tmps)).run C.P w = .ok vs' w ∧ VL ρ vs vs' ∧ vs.length = rs.length := by
  intro rs
  induction rs with
  | nil => intro K _ h; exact ⟨[], [], h, by simp, .nil, rfl⟩
  | cons r rs ih =>
    intro K hok h
    simp only [List.all_cons, Bool.and_eq_true] at hok
    cases r with
    | tmp t =>
      obtain ⟨vs, vs', h1, h2, h3, h4⟩ := ih hok.2 h
      exact ⟨_, a.tmps.getD t undef :: vs', h1, by simp only [List.mapM_cons, resRun, Sem.run_bind, Sem.run_pure, Result.andThen_ok, h2], .cons (hI.tm t (by simpa using hok.1)) h3, by simp [h4]⟩
    | cell x t =>
      unfold resW at h
      split at h
      · rename_i k hk
        obtain ⟨v, hv, h⟩ := xO_live h
        obtain ⟨vs, vs', h1, h2, h3, h4⟩ := ih hok.2 h
        simp only [Bool.and_eq_true] at hok
        unfold gLoad at hv
        split at hv
        · rename_i ad cs hx
          simp at hx
          rcases hI.lt x k hk with q1 | ⟨o', b, q1, q2, q3⟩ | ⟨o', b, n', es, c', q1, q2, q3⟩
          · rw [hx] at q1; cases q1
          · rw [hx] at q1; cases q1
            obtain ⟨_, arr, el, r1, r2⟩ := hI.lb _ _ q2
            obtain ⟨hle, v', s1, s2⟩ := sub_sound r2 hv
            refine ⟨_, v' :: vs', h1, ?_, .cons s2 h3, by simp [h4]⟩
            have hl := run_loadVar (P := C.P) (w := w) hok.1.1 (by simpa using hok.1.2) r1 (o := o') (by simpa using hle) s1
            simp only [List.mapM_cons, resRun, q3, asAddr, Sem.run_bind, Sem.run_pure, Result.andThen_ok, hl, h2]
          · rw [hx] at q1; cases q1
        · cases hv
      · exact h.elim

theorem results_run {C : Cx} {ρ0 : Ren} {σ0 : Mem} {w0 : World} {lm : Nat → Option Nat} {ρ : Ren} {s : St} {σ : Mem} {a : Act} {w : World} (hI : FI C ρ0 σ0 w0 lm ρ s σ a w)
    {fn : Func} (hr : resOk C fn = true) {K : Value → Mem → Prop} (h : resW C fn.results.toList s fun vs => K (tupV vs) σ) :
    ∃ v v', K v σ ∧ (results fn a.tmps).run C.P w = .ok v' w ∧ V ρ v v' := by
  obtain ⟨vs, vs', h1, h2, h3, h4⟩ := resW_sound hI hr h
  have hm : (fn.results.mapM (resRun a.tmps)).run C.P w = .ok vs'.toArray w := by
    rw [Array.mapM_eq_mapM_toList]
    simp only [Sem.run_map, h2, Result.andThen_ok]
  refine ⟨_, if h : vs'.toArray.size = 1 then vs'.toArray[0] else .tuple vs'.toArray, h1, ?_, ?_⟩
  · rw [results_eq]
    simp only [Sem.run_bind]
    rw [hm]
    simp only [Result.andThen_ok, Sem.run_pure]
  · unfold tupV
    split
    · obtain ⟨x', rfl, hx⟩ := h3.one
      simpa using hx
    · rename_i hno
      have hlen := h3.len
      by_cases h1' : vs'.length = 1
      · exfalso
        rw [h1'] at hlen
        obtain ⟨x, hx⟩ := List.length_eq_one_iff.1 hlen
        exact hno x hx
      · rw [dif_neg (by simpa using h1')]
        exact V.tup_mk h3

theorem fn_sound {C : Cx} (hT : TOk C.P C.T) (he : C.eqt.all (eqOk C.P) = true) (hm : C.P.follows .mixedOrders = true) {f : FuncId} {fn : Func} {c : Code} {np : Nat}
    (hf : C.P.funcs[f]? = some fn) (hb : fn.body = some c) (hn : fn.ntmps = C.n) (hnp : Nat.ble np C.n = true) (hc : codeOk C c = true) (hr : resOk C fn = true)
    (hloc : (C.loc.all fun x => !(Nat.blt x.1 np)) = true) : Sound C.P f (FnS C fn c np) := by
  intro args Q σ h ρ w args' hs hv
  unfold FnS at h
  split at h
  · rename_i har
    have hlen := arity_len har
    have hlen' : args'.length = np := by rw [← hv.len]; exact hlen
    have hle : np ≤ C.n := Nat.le_of_ble_eq_true hnp
    refine calls_of_wp hf hb ?_
    have hget : ∀ t, (args'.toArray ++ Array.replicate (fn.ntmps - args'.toArray.size) undef).getD t undef = args'.getD t undef := by
      intro t
      rw [Array.getD_eq_getD_getElem?, Array.getElem?_append]
      split
      · rename_i ht; simp [List.getD_eq_getElem?_getD]
      · rename_i ht
        rw [Array.getElem?_replicate]
        have : args'[t]? = none := by simpa using ht
        simp only [List.getD_eq_getElem?_getD, this, Option.getD_none]
        split <;> rfl
    have hVget : ∀ t, V ρ (args.getD t undef) (args'.getD t undef) := by
      intro t
      rw [List.getD_eq_getElem?_getD, List.getD_eq_getElem?_getD]
      cases hx : args[t]? with
      | none =>
        have h1 : args.length ≤ t := by simpa using hx
        have : args'[t]? = none := by simp; omega
        rw [this]; exact .undef
      | some x =>
        obtain ⟨x', h1, h2⟩ := hv.get hx
        rw [h1]; exact h2
    have hI : FI C ρ σ w (fun _ => none) ρ ⟨fun i => args.getD i undef, fun _ => []⟩ σ { tmps := args'.toArray ++ Array.replicate (fn.ntmps - args'.toArray.size) undef, defers := [] } w := by
      refine ⟨hs, Stp.refl _ _ _, ?_, rfl, fun t _ => ?_, fun t k ht => ?_, fun k b hk => (by cases hk), fun k k' b hk => (by cases hk), fun k b hk => (by cases hk)⟩
      · simp [hlen', hn]; omega
      · simp only [hget]; exact hVget t
      · simp only [hget]
        have h1 := List.all_eq_true.1 hloc _ (mem_of_lookup ht)
        have h2 : ¬ t < np := by
          intro hlt
          have : Nat.blt t np = true := Nat.ble_eq_true_of_le hlt
          simp [this] at h1
        have : args[t]? = none := by simp; omega
        rw [List.getD_eq_getElem?_getD, this]
        exact .inl rfl
    refine Wp_sound hT he hm c hc _ _ _ _ _ _ ?_ h hI
    intro e lm ρ' s σ' a w' hq hI'
    cases e with
    | exit i => exact hq.elim
    | normal =>
      obtain ⟨v, v', hk, h1, h2⟩ := results_run hI' hr hq
      exact ⟨hI'.df, v', h1, v, v', ρ', σ', rfl, hk, h2, hI'.sim, hI'.stp⟩
    | ret =>
      obtain ⟨v, v', hk, h1, h2⟩ := results_run hI' hr hq
      exact ⟨hI'.df, v', h1, v, v', ρ', σ', rfl, hk, h2, hI'.sim, hI'.stp⟩
  · exact h.elim

theorem FnS_good {C : Cx} (hC : C.good) {fn : Func} {c : Code} {np : Nat} (cl : Cls) (hq : cl = .none → quietC C true c = true) (hr : cl = .read → quietC C false c = true) (hn : cl ≠ .new) :
    Good cl (FnS C fn c np) := by
  have g := FnW_good hC fn c cl hq hr hn
  constructor
  · intro args K K' σ h hs
    unfold FnS at *
    split at hs
    · rename_i ha; rw [if_pos ha]; exact g.mono _ _ _ _ h hs
    · exact hs.elim
  · intro args K σ hs
    unfold FnS at *
    split at hs
    · exact g.live _ _ _ hs
    · exact hs.elim
  · intro h args
    unfold FnS
    split
    · exact g.none h args
    · exact Det.no
  · intro h args
    unfold FnS
    split
    · exact g.read h args
    · exact Det.no
  · intro h; exact absurd h hn

/-- An entry of a table. -/
structure Entry (P : Program) (g : Nat) (c : Cls) (S : Spec) : Prop where
  sound : Sound P g S
  good : Good c S
  call : Callable P g

theorem TOk.nil {P : Program} : TOk P [] := fun g c S h => by cases h
theorem TOk.cons {P : Program} {g : Nat} {c : Cls} {S : Spec} {T : List (Nat × Cls × Spec)} (h : Entry P g c S) (hT : TOk P T) : TOk P ((g, c, S) :: T) := by
  intro g' c' S' h'
  simp only [List.lookup_cons] at h'
  split at h'
  · rename_i hb
    simp at hb h'
    obtain ⟨rfl, rfl⟩ := h'
    subst hb
    exact ⟨h.sound, h.good, h.call⟩
  · exact hT _ _ _ h'

def clsB (C : Cx) (c : Code) : Cls → Bool
  | .none => quietC C true c
  | .read => quietC C false c
  | .new => false
  | .write => true

/-- What is looked at once for each function. -/
def fnOk (C : Cx) (fn : Func) (c : Code) (np : Nat) : Bool :=
  C.eqt.all (eqOk C.P) && Nat.beq fn.ntmps C.n && Nat.ble np C.n && codeOk C c && resOk C fn && (C.loc.all fun x => !(Nat.blt x.1 np)) && !(fn.name == "runtime.NumGoroutine")

theorem entry {C : Cx} (hT : TOk C.P C.T) (hm : C.P.follows .mixedOrders = true) {f : FuncId} {fn : Func} {c : Code} {np : Nat} {cl : Cls}
    (hf : C.P.funcs[f]? = some fn) (hb : fn.body = some c) (hok : fnOk C fn c np = true) (hcl : clsB C c cl = true) {S : Spec} (hS : FnS C fn c np = S) : Entry C.P f cl S := by
  subst hS
  simp only [fnOk, Bool.and_eq_true, Bool.not_eq_true'] at hok
  obtain ⟨⟨⟨⟨⟨⟨h1, h2⟩, h3⟩, h4⟩, h5⟩, h6⟩, h8⟩ := hok
  refine ⟨fn_sound hT h1 hm hf hb (Nat.eq_of_beq_eq_true h2) h3 h4 h5 h6, FnS_good (fun g c S h => (hT g c S h).2.1) cl (fun e => ?_) (fun e => ?_) (fun e => ?_), fn, hf, h8, by simp [hb]⟩
  · subst e; exact hcl
  · subst e; exact hcl
  · subst e; cases hcl

/-- A function that is known, by its contract, to leave the store alone. -/
theorem Entry.none {P : Program} {g : Nat} {c : Cls} {S : Spec} (h : Entry P g c S) (hd : ∀ args, Det true (S args)) : Entry P g .none S :=
  ⟨h.sound, ⟨h.good.mono, h.good.live, fun _ => hd, (fun h => by cases h), (fun h => by cases h)⟩, h.call⟩

/-- A function that is known, by its contract, to make one block. -/
theorem Entry.new {P : Program} {g : Nat} {c : Cls} {S : Spec} (h : Entry P g c S) (hd : ∀ args, NewD (S args)) : Entry P g .new S :=
  ⟨h.sound, ⟨h.good.mono, h.good.live, (fun h => by cases h), (fun h => by cases h), fun _ => hd⟩, h.call⟩

end Go.Fl
