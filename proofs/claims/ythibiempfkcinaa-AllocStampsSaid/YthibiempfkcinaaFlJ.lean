/- Regions: each order that Go lets comes to what the order of the text comes to. Condition: the check 'drawOk' of the region. -/
import Derived.Test.YthibiempfkcinaaFlI
namespace Go.Fl
open Go
set_option linter.unusedVariables false
set_option linter.unusedSimpArgs false

/-- An operation with its guard. -/
def opG (C : Cx) (ops : Array Oper) (o : Oper) (s : St) (σ : Mem) (K : St → Mem → Prop) : Prop :=
  match o.guard with
  | none => opW C o s σ K
  | some (j, w) => if gOk C ops j = true then
      match gval ops s j with
      | .bool b => if b = w then opW C o s σ K else K (s.put o.dst undef) σ
      | .tuple vs => if vs.size = 0 then K (s.put o.dst undef) σ else False
      | _ => False
    else False

/-- Operations in an order. -/
def opsI (C : Cx) (ops : Array Oper) (K : St → Mem → Prop) : List Nat → St → Mem → Prop
  | [], s, σ => K s σ
  | i :: rest, s, σ => match ops[i]? with
    | some o => opG C ops o s σ fun s σ => opsI C ops K rest s σ
    | none => opsI C ops K rest s σ

/-- No two operations write one slot. -/
def distinctB : List Oper → Bool
  | [] => true
  | o :: l => (match o.dst with
    | some d => l.all fun p => match p.dst with
      | some e => !(Nat.beq d e)
      | none => true
    | none => true) && distinctB l

theorem distinct_spec : ∀ {l : List Oper}, distinctB l = true → ∀ {i j : Nat} {o p : Oper} {d : Nat}, l[i]? = some o → l[j]? = some p → i ≠ j → o.dst = some d → p.dst ≠ some d := by
  intro l
  induction l with
  | nil => intro _ i j o p d hi; simp at hi
  | cons x xs ih =>
    intro h i j o p d hi hj hn hd hp
    simp only [distinctB, Bool.and_eq_true] at h
    have key : ∀ {k : Nat} {q : Oper} {d : Nat}, x.dst = some d → xs[k]? = some q → q.dst ≠ some d := by
      intro k q d hx hk hq
      have h1 := h.1
      rw [hx] at h1
      have := List.all_eq_true.1 h1 q (List.mem_of_getElem? hk)
      rw [hq] at this
      simp at this
    cases i with
    | zero =>
      simp at hi; subst hi
      cases j with
      | zero => exact hn rfl
      | succ j => exact key hd (by simpa using hj) hp
    | succ i =>
      cases j with
      | zero => simp at hj; subst hj; exact key hp (by simpa using hi) hd
      | succ j => exact ih h.2 (by simpa using hi) (by simpa using hj) (by omega) hd hp

/-- What guards have decided is so. -/
def DecOk (ops : Array Oper) (s : St) (i : Nat) (dec : List (Nat × Option Bool)) : Prop :=
  ∀ j x, dec.lookup j = some x → j < i ∧ (match x with
    | some b => gval ops s j = .bool b
    | none => gval ops s j = undef)

theorem runSm_t {C : Cx} {m : Sm} {d : Option Nat} {args : List Value} {s : St} {σ : Mem} {K : St → Mem → Prop} (hm : m.good) (h : runSm C m d args s σ K) :
    runSm C m d args s σ (fun s' τ => K s' τ ∧ ∀ t, d ≠ some t → s'.t t = s.t t) := by
  have hput : ∀ (s : St) (v : Value) t, d ≠ some t → (s.put d v).t t = s.t t := by
    intro s v t ht
    cases d with
    | none => rfl
    | some d => rw [put_t]; rw [if_neg]; intro e; exact ht (by rw [e])
  cases m with
  | f g => exact xF_mono (fun v hk => ⟨hk, hput s v⟩) h
  | lr k g => exact xO_mono (fun v hk => ⟨hk, hput s v⟩) h
  | lw k fr g =>
    cases fr with
    | none => exact xC_mono (fun c hk => ⟨hk, hput (s.setL k _) _⟩) h
    | some v =>
      simp only [runSm] at *
      split at h
      · rename_i hf
        rw [if_pos hf]
        exact xC_mono (fun c hk => ⟨hk, hput (s.setL k _) _⟩) h
      · exact h.elim
  | h c r => exact Good.mono hm _ _ _ _ (fun v τ hk => ⟨hk, hput s v⟩) h
  | hl c k r => exact Good.mono (hm _) _ _ _ _ (fun v τ hk => ⟨hk, hput s v⟩) h

theorem opW_t {C : Cx} (hC : C.good) {o : Oper} {s : St} {σ : Mem} {K : St → Mem → Prop} (h : opW C o s σ K) : opW C o s σ (fun s' τ => K s' τ ∧ ∀ t, o.dst ≠ some t → s'.t t = s.t t) := by
  unfold opW at *
  split at h
  · rename_i xs m hc
    split at h
    · rename_i hd
      rw [if_pos hd]
      exact runSm_t (comp_good hC hc) h
    · exact h.elim
  · exact h.elim

theorem gval_same {ops : Array Oper} {s s' : St} {i j : Nat} {o : Oper} (hD : distinctB ops.toList = true) (ho : ops[i]? = some o) (hj : j < i)
    (h : ∀ t, o.dst ≠ some t → s'.t t = s.t t) : gval ops s' j = gval ops s j := by
  unfold gval
  split
  · rename_i p hp
    split
    · rename_i d hd
      refine h d ?_
      exact distinct_spec hD (i := j) (j := i) (by simpa using hp) (by simpa using ho) (by omega) hd
    · rfl
  · rfl

theorem DecOk.next {ops : Array Oper} {s s' : St} {i : Nat} {o : Oper} {dec : List (Nat × Option Bool)} (hD : distinctB ops.toList = true) (ho : ops[i]? = some o)
    (h : ∀ t, o.dst ≠ some t → s'.t t = s.t t) (hd : DecOk ops s i dec) : DecOk ops s' (i + 1) dec := by
  intro j x hj
  obtain ⟨h1, h2⟩ := hd j x hj
  refine ⟨by omega, ?_⟩
  cases x with
  | none => simp only at h2 ⊢; rw [gval_same hD ho h1 h]; exact h2
  | some b => simp only at h2 ⊢; rw [gval_same hD ho h1 h]; exact h2

theorem DecOk.cons {ops : Array Oper} {s : St} {i j : Nat} {x : Option Bool} {dec : List (Nat × Option Bool)} (hj : j < i) (hx : match x with
    | some b => gval ops s j = .bool b
    | none => gval ops s j = undef) (hd : DecOk ops s i dec) : DecOk ops s i ((j, x) :: dec) := by
  intro k y hk
  simp only [List.lookup_cons] at hk
  split at hk
  · rename_i he
    simp at he hk; subst he; subst hk
    exact ⟨hj, hx⟩
  · exact hd k y hk

theorem put_same (s : St) (d : Option Nat) (v : Value) : ∀ t, d ≠ some t → (s.put d v).t t = s.t t := by
  intro t ht
  cases d with
  | none => rfl
  | some d => rw [put_t, if_neg]; intro e; exact ht (by rw [e])

theorem gval_put {ops : Array Oper} {s : St} {i : Nat} {o : Oper} (ho : ops[i]? = some o) : gval ops (s.put o.dst undef) i = undef := by
  unfold gval
  simp only [ho]
  cases hd : o.dst with
  | none => rfl
  | some d => simp only; rw [put_t, if_pos rfl]

theorem gput_eq {ops : Array Oper} {s : St} {j : Nat} {b : Bool} (h : gval ops s j = .bool b) : gput ops s j b = s := by
  unfold gval at h
  unfold gput
  split at h
  · rename_i o ho
    split at h
    · rename_i d hd
      have ext : ∀ {a b : St}, a.t = b.t → a.l = b.l → a = b := by intro a b h1 h2; cases a; cases b; simp at h1 h2; rw [h1, h2]
      apply ext
      · funext t
        rw [hd, put_t]
        split
        · rename_i e; subst e; exact h.symm
        · rfl
      · rw [put_l]
    · cases h
  · cases h

theorem opsW_opsI {C : Cx} (hC : C.good) {ops : Array Oper} {K : St → Mem → Prop} (hD : distinctB ops.toList = true) :
    ∀ (l : List Oper) (i : Nat) (dec : List (Nat × Option Bool)) (s : St) (σ : Mem), ops.toList.drop i = l → DecOk ops s i dec → opsW C ops K l i dec s σ →
      opsI C ops K (List.range' i l.length) s σ := by
  intro l
  induction l with
  | nil => intro i dec s σ hl hd h; simpa [opsI, opsW] using h
  | cons o rest ih =>
    intro i dec s σ hl hd h
    have ho : ops[i]? = some o := by
      have := congrArg (fun l => l[0]?) hl
      simpa using this
    have hrest : ops.toList.drop (i + 1) = rest := by have := congrArg List.tail hl; simpa using this
    have go : ∀ {dec : List (Nat × Option Bool)}, DecOk ops s i dec → opW C o s σ (fun s σ => opsW C ops K rest (i + 1) dec s σ) →
        opW C o s σ (fun s σ => opsI C ops K (List.range' (i + 1) rest.length) s σ) := by
      intro dec hd h
      exact opW_mono hC (fun s' τ hk => ih _ _ _ _ hrest (hd.next hD ho hk.2) hk.1) (opW_t hC h)
    have skip : ∀ {dec : List (Nat × Option Bool)}, DecOk ops s i dec → opsW C ops K rest (i + 1) ((i, none) :: dec) (s.put o.dst undef) σ →
        opsI C ops K (List.range' (i + 1) rest.length) (s.put o.dst undef) σ := by
      intro dec hd h
      exact ih _ _ _ _ hrest (DecOk.cons (by omega) (gval_put ho) (hd.next hD ho (put_same s o.dst undef))) h
    simp only [List.length_cons, List.range'_succ, opsI, ho]
    unfold opsW at h
    unfold opG
    split at h
    · rename_i hg
      rw [hg]
      exact go hd h
    · rename_i j w hg
      rw [hg]
      dsimp only
      split at h
      rotate_left
      · exact h.elim
      rename_i hgo
      rw [if_pos hgo]
      split at h
      · rename_i b hl
        have hv := (hd _ _ hl).2
        dsimp only at hv
        rw [hv]
        dsimp only
        split at h
        · rename_i hb
          simp at hb
          rw [if_pos hb]
          exact go hd h
        · rename_i hb
          simp at hb
          rw [if_neg (by simpa using hb)]
          exact skip hd h
      · rename_i hl
        have hv := (hd _ _ hl).2
        dsimp only at hv
        rw [hv]
        simp only [undef]
        exact skip hd h
      · rename_i hl
        split at h
        rotate_left
        · exact h.elim
        rename_i hj
        have hji : j < i := Nat.le_of_ble_eq_true hj
        unfold xIf at h
        split at h
        · rename_i hv
          rw [gput_eq hv] at h
          rw [hv]
          dsimp only
          have hd' := DecOk.cons (x := some true) hji hv hd
          split at h
          · rename_i hw; rw [hw, if_pos rfl]; exact go hd' h
          · rename_i hw
            rw [if_neg (fun e => hw e.symm)]
            exact skip hd' h
        · rename_i hv
          rw [gput_eq hv] at h
          rw [hv]
          dsimp only
          have hd' := DecOk.cons (x := some false) hji hv hd
          split at h
          · rename_i hw
            rw [if_neg (by rw [hw]; simp)]
            exact skip hd' h
          · rename_i hw
            have : w = false := by simpa using hw
            rw [this, if_pos rfl]
            exact go hd' h
        · exact h.elim

/-! ### In the world -/

section
variable {C : Cx} {ρ0 : Ren} {σ0 : Mem} {w0 : World} {lm : Nat → Option Nat} {ρ : Ren} {s : St} {σ : Mem} {a : Act} {w : World}

/-- What a frame may come to: a reading's exit behind it, in a frame that is as it is read. -/
def Post (C : Cx) (ρ0 : Ren) (σ0 : Mem) (w0 : World) (K : St → Mem → Prop) (next : Act → World → Prop) : Prop :=
  ∀ lm ρ s σ a w, K s σ → FI C ρ0 σ0 w0 lm ρ s σ a w → next a w

theorem V.bool_inv' {b : Bool} {v' : Value} (h : V ρ (.bool b) v') : v' = .bool b := by cases h; rfl

theorem opG_sound (hT : TOk C.P C.T) (he : C.eqt.all (eqOk C.P) = true) {ops : Array Oper} {i : Nat} {o : Oper} (ho : ops[i]? = some o) {K : St → Mem → Prop} (h : opG C ops o s σ K)
    (hI : FI C ρ0 σ0 w0 lm ρ s σ a w) (hdn : (o.dst.all fun d => Nat.blt d C.n) = true) {next : Act → World → Prop} {Q : Exit → Act → World → Prop} (hn : Post C ρ0 σ0 w0 K next) : wpOp C.P ops Q i next a w := by
  unfold wpOp
  rw [ho]
  dsimp only
  unfold opG at h
  have skip : FI C ρ0 σ0 w0 lm ρ (s.put o.dst undef) σ (a.put o.dst undef) w := by
    cases hdst : o.dst with
    | none => exact hI
    | some d => exact hI.put (dst_lt hdn hdst) (fun _ => .undef) (fun k _ => .inl rfl)
  split at h
  · rename_i hg
    have : Region.wanted o (yielded ops a.tmps) = true := by simp [Region.wanted, hg]
    rw [if_pos this]
    exact .inl (opW_sound hT he hI h fun lm' ρ' s' σ' a' w' hk hf => hn _ _ _ _ _ _ hk hf)
  · rename_i j w' hg
    split at h
    rotate_left
    · exact h.elim
    rename_i hgo
    have hy : ∀ {v : Value}, gval ops s j = v → (∀ b, v = .bool b → yielded ops a.tmps j = some b) ∧ (v = undef → yielded ops a.tmps j = none) := by
      intro v hv
      unfold gval at hv
      unfold yielded
      unfold gOk at hgo
      cases hj : ops[j]? with
      | none =>
        rw [hj] at hv
        subst hv
        exact ⟨(fun b h => by cases h), (fun _ => by simp)⟩
      | some p =>
        rw [hj] at hv hgo
        dsimp only at hv hgo
        cases hd : p.dst with
        | none =>
          rw [hd] at hv
          subst hv
          exact ⟨(fun b h => by cases h), (fun _ => by simp [hd])⟩
        | some d =>
          rw [hd] at hv
          dsimp only at hv
          have hpl : C.loc.lookup d = none := by
            have := hgo
            rw [dl_some hd] at this
            simpa using this
          have hV := hI.tm d hpl
          rw [hv] at hV
          refine ⟨fun b h => ?_, fun h => ?_⟩
          · rw [h] at hV
            have := hV.bool_inv
            simp only [Option.bind_some, hd]
            rw [Array.getD_eq_getD_getElem?] at this
            cases hx : a.tmps[d]? with
            | none => rw [hx] at this; cases this
            | some x => rw [hx] at this; simp at this; subst this; rfl
          · rw [h] at hV
            simp only [Option.bind_some, hd]
            rw [Array.getD_eq_getD_getElem?] at hV
            cases hx : a.tmps[d]? with
            | none => rfl
            | some x =>
              rw [hx] at hV
              simp only [Option.getD_some] at hV
              cases hV with
              | tup _ _ => rfl
    split at h
    · rename_i b hv
      have hyv := (hy hv).1 b rfl
      split at h
      · rename_i hb
        have : Region.wanted o (yielded ops a.tmps) = true := by simp [Region.wanted, hg, hyv, hb]
        rw [if_pos this]
        exact .inl (opW_sound hT he hI h fun lm' ρ' s' σ' a' w' hk hf => hn _ _ _ _ _ _ hk hf)
      · rename_i hb
        have : Region.wanted o (yielded ops a.tmps) = false := by simp [Region.wanted, hg, hyv, hb]
        rw [this]
        exact hn _ _ _ _ _ _ h skip
    · rename_i vs hv
      split at h
      · rename_i hz
        have : vs = #[] := Array.eq_empty_of_size_eq_zero hz
        subst this
        have hyv := (hy hv).2 rfl
        have : Region.wanted o (yielded ops a.tmps) = false := by simp [Region.wanted, hg, hyv]
        rw [this]
        exact hn _ _ _ _ _ _ h skip
      · exact h.elim
    · exact h.elim

def dstsOk (C : Cx) (ops : Array Oper) : Bool := ops.toList.all fun o => o.dst.all fun d => Nat.blt d C.n

theorem dsts_spec {ops : Array Oper} (h : dstsOk C ops = true) {i : Nat} {o : Oper} (ho : ops[i]? = some o) : (o.dst.all fun d => Nat.blt d C.n) = true :=
  List.all_eq_true.1 h o (by have := Array.mem_of_getElem? ho; simpa using this)

theorem opsI_sound (hT : TOk C.P C.T) (he : C.eqt.all (eqOk C.P) = true) {ops : Array Oper} (hds : dstsOk C ops = true) {K : St → Mem → Prop} {Q : Exit → Act → World → Prop}
    (hQ : Post C ρ0 σ0 w0 K (Q .normal)) : ∀ (is : List Nat) (lm : Nat → Option Nat) (ρ : Ren) (s : St) (σ : Mem) (a : Act) (w : World), opsI C ops K is s σ → FI C ρ0 σ0 w0 lm ρ s σ a w → wpOps C.P ops Q is a w := by
  intro is
  induction is with
  | nil => intro lm ρ s σ a w h hI; exact hQ _ _ _ _ _ _ h hI
  | cons i is ih =>
    intro lm ρ s σ a w h hI
    rw [wpOps_cons]
    cases ho : ops[i]? with
    | none =>
      simp only [opsI, ho] at h
      unfold wpOp
      rw [ho]
      exact ih _ _ _ _ _ _ h hI
    | some o =>
      simp only [opsI, ho] at h
      exact opG_sound hT he ho h hI (dsts_spec hds ho) fun lm ρ s σ a w hk hf => ih _ _ _ _ _ _ hk hf

end

end Go.Fl
