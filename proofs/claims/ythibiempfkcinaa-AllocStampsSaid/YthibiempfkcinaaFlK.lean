/- Two operations that do not touch each other's things come to the same in both orders; so each order that Go lets comes to what the text's does. Condition: 'drawOk'. -/
import Derived.Test.YthibiempfkcinaaFlJ
namespace Go.Fl
open Go
set_option linter.unusedVariables false
set_option linter.unusedSimpArgs false

abbrev Res := Value × Option (List Value)

def actSm (C : Cx) (m : Sm) (args : List Value) (s : St) (K : Res → Mem → Prop) (σ : Mem) : Prop :=
  match m with
  | .f g => xF g args fun v => K (v, none) σ
  | .lr k g => xO (g args (s.l k)) fun v => K (v, none) σ
  | .lw k (some v) g => if freshB C k s = true then xC (g args (s.l k)) fun c => K (v, some c) σ else False
  | .lw k none g => xC (g args (s.l k)) fun c => K (undef, some c) σ
  | .h _ r => r args (fun v τ => K (v, none) τ) σ
  | .hl _ k r => r (s.l k) args (fun v τ => K (v, none) τ) σ

def kSm : Sm → Nat
  | .lw k _ _ => k
  | _ => 0

def kO (C : Cx) (o : Oper) : Nat :=
  match comp C o with
  | some (_, m) => kSm m
  | none => 0

def appU (k : Nat) (d : Option Nat) (r : Res) (s : St) : St :=
  match r.2 with
  | some c => (s.setL k c).put d r.1
  | none => s.put d r.1

def actO (C : Cx) (o : Oper) (s : St) (K : Res → Mem → Prop) (σ : Mem) : Prop :=
  match comp C o with
  | some (xs, m) => if (o.dst.all fun d => Nat.blt d C.n) = true then actSm C m (xs.map (evO s)) s K σ else False
  | none => False

def actG (C : Cx) (ops : Array Oper) (o : Oper) (s : St) (K : Res → Mem → Prop) (σ : Mem) : Prop :=
  match o.guard with
  | none => actO C o s K σ
  | some (j, w) => if gOk C ops j = true then
      match gval ops s j with
      | .bool b => if b = w then actO C o s K σ else K (undef, none) σ
      | .tuple vs => if vs.size = 0 then K (undef, none) σ else False
      | _ => False
    else False

theorem runSm_act {C : Cx} {m : Sm} {d : Option Nat} {args : List Value} {s : St} {σ : Mem} {K : St → Mem → Prop} :
    runSm C m d args s σ K = actSm C m args s (fun r τ => K (appU (kSm m) d r s) τ) σ := by
  cases m with
  | f g => rfl
  | lr k g => rfl
  | lw k fr g => cases fr <;> rfl
  | h c r => rfl
  | hl c k r => rfl

theorem opW_act {C : Cx} {o : Oper} {s : St} {σ : Mem} {K : St → Mem → Prop} : opW C o s σ K = actO C o s (fun r τ => K (appU (kO C o) o.dst r s) τ) σ := by
  unfold opW actO kO
  cases hc : comp C o with
  | none => rfl
  | some p => simp only [runSm_act]

theorem opG_act {C : Cx} {ops : Array Oper} {o : Oper} {s : St} {σ : Mem} {K : St → Mem → Prop} : opG C ops o s σ K = actG C ops o s (fun r τ => K (appU (kO C o) o.dst r s) τ) σ := by
  unfold opG actG
  simp only [opW_act]
  rfl

theorem actSm_mono {C : Cx} {m : Sm} (hm : m.good) {args : List Value} {s : St} {σ : Mem} {K K' : Res → Mem → Prop} (h : ∀ r τ, K r τ → K' r τ) (hs : actSm C m args s K σ) : actSm C m args s K' σ := by
  cases m with
  | f g => exact xF_mono (fun v hk => h _ _ hk) hs
  | lr k g => exact xO_mono (fun v hk => h _ _ hk) hs
  | lw k fr g =>
    cases fr with
    | none => exact xC_mono (fun v hk => h _ _ hk) hs
    | some v =>
      simp only [actSm] at *
      split at hs
      · rename_i hf; rw [if_pos hf]; exact xC_mono (fun v hk => h _ _ hk) hs
      · exact hs.elim
  | h c r => exact Good.mono hm _ _ _ _ (fun v τ hk => h _ _ hk) hs
  | hl c k r => exact Good.mono (hm _) _ _ _ _ (fun v τ hk => h _ _ hk) hs

theorem actSm_live {C : Cx} {m : Sm} (hm : m.good) {args : List Value} {s : St} {σ : Mem} {K : Res → Mem → Prop} (hs : actSm C m args s K σ) : ∃ r τ, K r τ := by
  cases m with
  | f g => obtain ⟨v, _, hv⟩ := xF_live hs; exact ⟨_, _, hv⟩
  | lr k g => obtain ⟨v, _, hv⟩ := xO_live hs; exact ⟨_, _, hv⟩
  | lw k fr g =>
    cases fr with
    | none => obtain ⟨v, _, hv⟩ := xC_live hs; exact ⟨_, _, hv⟩
    | some v =>
      simp only [actSm] at hs
      split at hs
      · obtain ⟨v, _, hv⟩ := xC_live hs; exact ⟨_, _, hv⟩
      · exact hs.elim
  | h c r => obtain ⟨v, τ, hv⟩ := Good.live hm _ _ _ hs; exact ⟨_, _, hv⟩
  | hl c k r => obtain ⟨v, τ, hv⟩ := Good.live (hm _) _ _ _ hs; exact ⟨_, _, hv⟩

theorem actSm_det {C : Cx} {all : Bool} {m : Sm} (hm : m.good) (hc : clsOk all (smCls m) = true) (args : List Value) (s : St) : Det all (actSm C m args s) := by
  cases m with
  | f g =>
    unfold actSm
    simp only [xF]
    cases g args with
    | none => exact Det.no
    | some v => exact Det.ret _
  | lr k g => exact xO_det _ _
  | lw k fr g =>
    cases fr with
    | none => exact xC_det (g args (s.l k)) (fun c => (undef, some c))
    | some v =>
      unfold actSm
      simp only
      split
      · exact xC_det (g args (s.l k)) (fun c => (v, some c))
      · exact Det.no
  | h c r => exact (Det.of_good hm hc args).map fun v => (v, none)
  | hl c k r => exact (Det.of_good (hm _) hc args).map fun v => (v, none)

theorem actO_mono {C : Cx} (hC : C.good) {o : Oper} {s : St} {σ : Mem} {K K' : Res → Mem → Prop} (h : ∀ r τ, K r τ → K' r τ) (hs : actO C o s K σ) : actO C o s K' σ := by
  unfold actO at *
  split at hs
  · rename_i xs m hc
    split at hs
    · rename_i hd; rw [if_pos hd]; exact actSm_mono (comp_good hC hc) h hs
    · exact hs.elim
  · exact hs.elim

theorem actO_live {C : Cx} (hC : C.good) {o : Oper} {s : St} {σ : Mem} {K : Res → Mem → Prop} (hs : actO C o s K σ) : ∃ r τ, K r τ := by
  unfold actO at hs
  split at hs
  · rename_i xs m hc
    split at hs
    · exact actSm_live (comp_good hC hc) hs
    · exact hs.elim
  · exact hs.elim

theorem actO_det {C : Cx} (hC : C.good) {all : Bool} {o : Oper} (hc : clsOk all (opCls C o) = true) (s : St) : Det all (actO C o s) := by
  unfold opCls at hc
  unfold actO
  cases hcm : comp C o with
  | none => exact Det.no
  | some p =>
    obtain ⟨xs, m⟩ := p
    simp only [hcm] at hc ⊢
    split
    · exact actSm_det (comp_good hC hcm) hc _ _
    · exact Det.no

theorem actG_mono {C : Cx} (hC : C.good) {ops : Array Oper} {o : Oper} {s : St} {σ : Mem} {K K' : Res → Mem → Prop} (h : ∀ r τ, K r τ → K' r τ) (hs : actG C ops o s K σ) : actG C ops o s K' σ := by
  unfold actG at *
  split at hs
  · exact actO_mono hC h hs
  · split at hs
    rotate_left
    · exact hs.elim
    rename_i hg
    rw [if_pos hg]
    split at hs
    · split at hs
      · rename_i hb; rw [if_pos hb]; exact actO_mono hC h hs
      · rename_i hb; rw [if_neg hb]; exact h _ _ hs
    · split at hs
      · rename_i hb; rw [if_pos hb]; exact h _ _ hs
      · exact hs.elim
    · exact hs.elim

theorem actG_live {C : Cx} (hC : C.good) {ops : Array Oper} {o : Oper} {s : St} {σ : Mem} {K : Res → Mem → Prop} (hs : actG C ops o s K σ) : ∃ r τ, K r τ := by
  unfold actG at hs
  split at hs
  · exact actO_live hC hs
  · split at hs
    rotate_left
    · exact hs.elim
    split at hs
    · split at hs
      · exact actO_live hC hs
      · exact ⟨_, _, hs⟩
    · split at hs
      · exact ⟨_, _, hs⟩
      · exact hs.elim
    · exact hs.elim

theorem actG_det {C : Cx} (hC : C.good) {all : Bool} {ops : Array Oper} {o : Oper} (hc : clsOk all (opCls C o) = true) (s : St) : Det all (actG C ops o s) := by
  unfold actG
  split
  · exact actO_det hC hc s
  · split
    · split
      · split
        · exact actO_det hC hc s
        · exact Det.ret _
      · split
        · exact Det.ret _
        · exact Det.no
      · exact Det.no
    · exact Det.no

theorem actO_new {C : Cx} (hC : C.good) {o : Oper} (hc : opCls C o = .new) (s : St) : NewD (actO C o s) := by
  unfold opCls at hc
  unfold actO
  cases hcm : comp C o with
  | none => exact .inl fun K τ h => h
  | some p =>
    obtain ⟨xs, m⟩ := p
    have hg := comp_good hC hcm
    simp only [hcm] at hc ⊢
    split
    · have map : ∀ {c : Cls} {r : Spec} {args : List Value}, c = .new → Good c r → NewD (fun (K : Res → Mem → Prop) σ => r args (fun v τ => K (v, none) τ) σ) := by
        intro c r args e hgood
        rcases hgood.new e args with h | ⟨cc, v, h⟩
        · exact .inl fun K τ => h _ τ
        · exact .inr ⟨cc, fun id => (v id, none), fun K τ => h _ τ⟩
      cases m with
      | f g => cases hc
      | lr k g => cases hc
      | lw k fr g => cases hc
      | h c r => exact map hc hg
      | hl c k r => exact map hc (hg (s.l k))
    · exact .inl fun K τ h => h

theorem swapNew {α β : Type} {A : (α → Mem → Prop) → Mem → Prop} {B : (β → Mem → Prop) → Mem → Prop} (hA : NewD A) (hB : NewD B) {K : α → β → Mem → Prop} {σ : Mem}
    (h : A (fun r1 τ => B (fun r2 τ' => K r1 r2 τ') τ) σ) : B (fun r2 τ => A (fun r1 τ' => K r1 r2 τ') τ) σ := by
  rcases hA with hA | ⟨c, v, hA⟩
  · exact absurd h (hA _ σ)
  · have h1 := (hA _ σ).1 h
    rcases hB with hB | ⟨d, u, hB⟩
    · obtain ⟨i, hi⟩ := σ.fresh
      exact absurd (h1 i hi) (hB _ _)
    · refine (hB _ σ).2 fun j hj => (hA _ _).2 fun i hi => ?_
      rw [Mem.get_set] at hi
      split at hi
      · cases hi
      · rename_i hij
        have h2 := (hB _ _).1 (h1 i hi) j (by rw [Mem.get_set, if_neg (Ne.symm hij)]; exact hj)
        have e : (σ.set i ⟨c, true⟩).set j ⟨d, true⟩ = (σ.set j ⟨d, true⟩).set i ⟨c, true⟩ := by
          apply Mem.ext'
          funext k
          rw [Mem.get_set, Mem.get_set, Mem.get_set, Mem.get_set]
          by_cases e1 : k = j
          · subst e1; simp [Ne.symm hij]
          · simp [e1]
        rw [e] at h2
        exact h2

theorem actG_new {C : Cx} (hC : C.good) {ops : Array Oper} {o : Oper} (hc : opCls C o = .new) (hg : o.guard = none) (s : St) : NewD (actG C ops o s) := by
  have : actG C ops o s = actO C o s := by
    unfold actG
    simp only [hg]
  rw [this]
  exact actO_new hC hc s

theorem swapAB {α β : Type} {A : (α → Mem → Prop) → Mem → Prop} {B : (β → Mem → Prop) → Mem → Prop} (mA : ∀ {K K' : α → Mem → Prop} {σ}, (∀ r τ, K r τ → K' r τ) → A K σ → A K' σ)
    (mB : ∀ {K K' : β → Mem → Prop} {σ}, (∀ r τ, K r τ → K' r τ) → B K σ → B K' σ) (lA : ∀ {K : α → Mem → Prop} {σ}, A K σ → ∃ r τ, K r τ)
    (hc : Det true A ∨ Det true B ∨ (Det false A ∧ Det false B)) {K : α → β → Mem → Prop} {σ : Mem} (h : A (fun r1 τ => B (fun r2 τ' => K r1 r2 τ') τ) σ) : B (fun r2 τ => A (fun r1 τ' => K r1 r2 τ') τ) σ := by
  rcases hc with hA | hB | ⟨hA, hB⟩
  · rcases hA σ with hA | ⟨r1, hA⟩
    · exact absurd h (hA _ σ (fun h => by cases h))
    · have h1 := (hA _ σ (fun h => by cases h)).1 h
      exact mB (fun r2 τ hk => (hA _ τ (fun h => by cases h)).2 hk) h1
  · rcases hB σ with hB | ⟨r2, hB⟩
    · obtain ⟨r1, τ, h1⟩ := lA h
      exact absurd h1 (hB _ τ (fun h => by cases h))
    · refine (hB _ σ (fun h => by cases h)).2 ?_
      exact mA (fun r1 τ hk => (hB _ τ (fun h => by cases h)).1 hk) h
  · rcases hA σ with hA | ⟨r1, hA⟩
    · exact absurd h (hA _ σ (fun _ => rfl))
    · have h1 := (hA _ σ (fun _ => rfl)).1 h
      rcases hB σ with hB | ⟨r2, hB⟩
      · exact absurd h1 (hB _ σ (fun _ => rfl))
      · have h2 := (hB _ σ (fun _ => rfl)).1 h1
        exact (hB _ σ (fun _ => rfl)).2 ((hA _ σ (fun _ => rfl)).2 h2)

/-! ### What an operation touches -/

def opSlots : List Operand → List Nat
  | [] => []
  | .tmp t :: xs => t :: opSlots xs
  | _ :: xs => opSlots xs

def gSlot (ops : Array Oper) (o : Oper) : List Nat :=
  match o.guard with
  | some (j, _) => match ops[j]? with
    | some p => p.dst.toList
    | none => []
  | none => []

def locSlots (C : Cx) (k : Nat) : List Nat := (C.loc.filter fun x => Nat.beq x.2 k).map (·.1)

/-- The slots that an operation reads. -/
def rdS (C : Cx) (ops : Array Oper) (o : Oper) : List Nat :=
  (match comp C o with
    | some (xs, m) => opSlots xs ++ (match m with
      | .lw k (some _) _ => locSlots C k
      | _ => [])
    | none => []) ++ gSlot ops o

/-- The local block that it reads or writes; that it writes. -/
def rdL (C : Cx) (o : Oper) : Option Nat :=
  match comp C o with
  | some (_, .lr k _) | some (_, .lw k _ _) | some (_, .hl _ k _) => some k
  | _ => none

def wrL (C : Cx) (o : Oper) : Option Nat :=
  match comp C o with
  | some (_, .lw k _ _) => some k
  | _ => none

theorem evO_congr {s s' : St} : ∀ {xs : List Operand}, (∀ t ∈ opSlots xs, s'.t t = s.t t) → xs.map (evO s') = xs.map (evO s)
  | [], _ => rfl
  | .tmp t :: xs, h => by
    simp only [List.map_cons, evO]
    rw [h t (by simp [opSlots]), evO_congr fun u hu => h u (by simp [opSlots, hu])]
  | .const v :: xs, h => by
    simp only [List.map_cons, evO]
    rw [evO_congr fun u hu => h u (by simp [opSlots, hu])]
  | .global g :: xs, h => by
    simp only [List.map_cons, evO]
    rw [evO_congr fun u hu => h u (by simp [opSlots, hu])]
  | .func g :: xs, h => by
    simp only [List.map_cons, evO]
    rw [evO_congr fun u hu => h u (by simp [opSlots, hu])]

theorem fresh_congr {C : Cx} {k : Nat} {s s' : St} (h : ∀ t ∈ locSlots C k, s'.t t = s.t t) : freshB C k s' = freshB C k s := by
  unfold freshB
  apply Bool.eq_iff_iff.2
  simp only [List.all_eq_true]
  refine ⟨fun hh x hx => ?_, fun hh x hx => ?_⟩
  · have := hh x hx
    obtain ⟨t, k'⟩ := x
    dsimp only at *
    by_cases e : k' = k
    · subst e
      rwa [h t (by simp only [locSlots, List.mem_map, List.mem_filter]; exact ⟨(t, k'), ⟨hx, by simp⟩, rfl⟩)] at this
    · simp [e]
  · have := hh x hx
    obtain ⟨t, k'⟩ := x
    dsimp only at *
    by_cases e : k' = k
    · subst e
      rwa [h t (by simp only [locSlots, List.mem_map, List.mem_filter]; exact ⟨(t, k'), ⟨hx, by simp⟩, rfl⟩)]
    · simp [e]

theorem actG_congr {C : Cx} {ops : Array Oper} {o : Oper} {s s' : St} (ht : ∀ t ∈ rdS C ops o, s'.t t = s.t t) (hl : ∀ k, rdL C o = some k → s'.l k = s.l k) :
    actG C ops o s' = actG C ops o s := by
  have hO : actO C o s' = actO C o s := by
    funext K σ
    unfold actO
    unfold rdS at ht
    unfold rdL at hl
    cases hc : comp C o with
    | none => rfl
    | some p =>
      obtain ⟨xs, m⟩ := p
      simp only [hc, List.mem_append] at ht hl ⊢
      rw [evO_congr fun t h => ht t (.inl (.inl h))]
      congr 1
      cases m with
      | f g => rfl
      | lr k g => simp only [actSm]; rw [hl k rfl]
      | lw k fr g =>
        cases fr with
        | none => simp only [actSm]; rw [hl k rfl]
        | some v => simp only [actSm]; rw [hl k rfl, fresh_congr fun t h => ht t (.inl (.inr h))]
      | h c r => rfl
      | hl c k r => simp only [actSm]; rw [hl k rfl]
  have hgv : ∀ j w, o.guard = some (j, w) → gval ops s' j = gval ops s j := by
    intro j w hg
    unfold gval
    cases hj : ops[j]? with
    | none => rfl
    | some p =>
      cases hd : p.dst with
      | none => simp [hd]
      | some d =>
        simp only [hd]
        refine ht d ?_
        simp [rdS, gSlot, hg, hj, hd]
  unfold actG
  funext K σ
  cases hg : o.guard with
  | none => simp only [hO]
  | some p =>
    obtain ⟨j, w⟩ := p
    simp only [hO, hgv j w hg]

/-- Only an operation on a local block writes one. -/
theorem actG_wr {C : Cx} (hC : C.good) {ops : Array Oper} {o : Oper} {s : St} {K : Res → Mem → Prop} {σ : Mem} (h : actG C ops o s K σ) :
    actG C ops o s (fun r τ => K r τ ∧ (r.2 ≠ none → wrL C o = some (kO C o))) σ := by
  have hO : actO C o s K σ → actO C o s (fun r τ => K r τ ∧ (r.2 ≠ none → wrL C o = some (kO C o))) σ := by
    intro h
    unfold actO wrL kO at *
    split at h
    · rename_i xs m hc
      have hg := comp_good hC hc
      split at h
      · rename_i hd
        simp only [hc]
        rw [if_pos hd]
        cases m with
        | f g => exact xF_mono (fun v hk => ⟨hk, fun h => absurd rfl h⟩) h
        | lr k g => exact xO_mono (fun v hk => ⟨hk, fun h => absurd rfl h⟩) h
        | lw k fr g =>
          cases fr with
          | none => exact xC_mono (fun v hk => ⟨hk, fun _ => rfl⟩) h
          | some v =>
            simp only [actSm] at *
            split at h
            · rename_i hf; rw [if_pos hf]; exact xC_mono (fun v hk => ⟨hk, fun _ => rfl⟩) h
            · exact h.elim
        | h c r => exact Good.mono hg _ _ _ _ (fun v τ hk => ⟨hk, fun h => absurd rfl h⟩) h
        | hl c k r => exact Good.mono (hg _) _ _ _ _ (fun v τ hk => ⟨hk, fun h => absurd rfl h⟩) h
      · exact h.elim
    · exact h.elim
  unfold actG at *
  split at h
  · exact hO h
  · split at h
    rotate_left
    · exact h.elim
    rename_i hg
    rw [if_pos hg]
    split at h
    · split at h
      · rename_i hb; rw [if_pos hb]; exact hO h
      · rename_i hb; rw [if_neg hb]; exact ⟨h, fun h => absurd rfl h⟩
    · split at h
      · rename_i hb; rw [if_pos hb]; exact ⟨h, fun h => absurd rfl h⟩
      · exact h.elim
    · exact h.elim

def clsFit : Cls → Cls → Bool
  | .none, _ => true
  | _, .none => true
  | .read, .read => true
  | .new, .new => true
  | _, _ => false

def apart1 (C : Cx) (ops : Array Oper) (o p : Oper) : Bool :=
  (match o.dst with
    | some d => !((rdS C ops p).contains d) && (match p.dst with
      | some e => !(Nat.beq d e)
      | none => true)
    | none => true) &&
  (match wrL C o, rdL C p with
    | some k, some k' => !(Nat.beq k k')
    | _, _ => true)

def bare2 (o p : Oper) : Cls → Cls → Bool
  | .new, .new => o.guard.isNone && p.guard.isNone
  | _, _ => true

def indep (C : Cx) (ops : Array Oper) (o p : Oper) : Bool := apart1 C ops o p && apart1 C ops p o && (clsFit (opCls C o) (opCls C p) && bare2 o p (opCls C o) (opCls C p))

theorem wr_rd {C : Cx} {o : Oper} {k : Nat} (h : wrL C o = some k) : rdL C o = some k := by
  unfold wrL at h
  unfold rdL
  split at h
  · rename_i xs k' fr g hc
    rw [hc]; exact h
  · cases h

theorem appU_t {k : Nat} {d : Option Nat} {r : Res} {s : St} {t : Nat} (h : d ≠ some t) : (appU k d r s).t t = s.t t := by
  unfold appU
  split
  · rw [put_same _ d _ t h]; rfl
  · rw [put_same _ d _ t h]

theorem appU_l {k k' : Nat} {d : Option Nat} {r : Res} {s : St} (h : r.2 ≠ none → k ≠ k') : (appU k d r s).l k' = s.l k' := by
  unfold appU
  split
  · rename_i c hc
    rw [put_l, setL_l, if_neg (fun e => h (by simp [hc]) e.symm)]
  · rw [put_l]

theorem appU_comm {k1 k2 : Nat} {d1 d2 : Option Nat} {r1 r2 : Res} {s : St} (hd : ∀ t, d1 = some t → d2 ≠ some t) (hk : r1.2 ≠ none → r2.2 ≠ none → k1 ≠ k2) :
    appU k2 d2 r2 (appU k1 d1 r1 s) = appU k1 d1 r1 (appU k2 d2 r2 s) := by
  have ext : ∀ {a b : St}, a.t = b.t → a.l = b.l → a = b := by intro a b h1 h2; cases a; cases b; simp at h1 h2; rw [h1, h2]
  have tt : ∀ (k : Nat) (d : Option Nat) (r : Res) (s : St) (t : Nat), (appU k d r s).t t = if d = some t then r.1 else s.t t := by
    intro k d r s t
    by_cases h : d = some t
    · rw [if_pos h]; subst h
      unfold appU
      split <;> rw [put_t, if_pos rfl]
    · rw [if_neg h, appU_t h]
  have ll : ∀ (k : Nat) (d : Option Nat) (r : Res) (s : St) (i : Nat), (appU k d r s).l i = match r.2 with
      | some c => if i = k then c else s.l i
      | none => s.l i := by
    intro k d r s i
    unfold appU
    cases r.2 with
    | none => simp only; rw [put_l]
    | some c => simp only; rw [put_l, setL_l]
  apply ext
  · funext t
    rw [tt, tt, tt, tt]
    by_cases h1 : d1 = some t
    · rw [if_neg (hd t h1), if_pos h1, if_pos h1]
    · rw [if_neg h1, if_neg h1]
  · funext i
    rw [ll, ll, ll, ll]
    cases h1 : r1.2 with
    | none => rfl
    | some c1 =>
      cases h2 : r2.2 with
      | none => rfl
      | some c2 =>
        have := hk (by simp [h1]) (by simp [h2])
        simp only
        by_cases e1 : i = k1
        · subst e1; simp [this]
        · simp [e1]

theorem apart1_spec {C : Cx} {ops : Array Oper} {o p : Oper} (h : apart1 C ops o p = true) :
    (∀ d, o.dst = some d → d ∉ rdS C ops p ∧ p.dst ≠ some d) ∧ (∀ k, wrL C o = some k → rdL C p ≠ some k) := by
  simp only [apart1, Bool.and_eq_true] at h
  refine ⟨fun d hd => ?_, fun k hk hr => ?_⟩
  · have h1 := h.1
    rw [hd] at h1
    simp only [Bool.and_eq_true, Bool.not_eq_true', List.contains_eq_mem, decide_eq_false_iff_not] at h1
    refine ⟨h1.1, fun hp => ?_⟩
    have := h1.2
    rw [hp] at this
    simp at this
  · have h2 := h.2
    rw [hk, hr] at h2
    simp at h2

theorem swap {C : Cx} (hC : C.good) {ops : Array Oper} {o p : Oper} (hi : indep C ops o p = true) {s : St} {σ : Mem} {K : St → Mem → Prop}
    (h : opG C ops o s σ (fun s σ => opG C ops p s σ K)) : opG C ops p s σ (fun s σ => opG C ops o s σ K) := by
  simp only [indep, Bool.and_eq_true] at hi
  obtain ⟨⟨h1, h2⟩, hcl⟩ := hi
  obtain ⟨a1, b1⟩ := apart1_spec h1
  obtain ⟨a2, b2⟩ := apart1_spec h2
  have cong : ∀ {o p : Oper}, (∀ d, o.dst = some d → d ∉ rdS C ops p ∧ p.dst ≠ some d) → (∀ k, wrL C o = some k → rdL C p ≠ some k) → ∀ {r : Res}, (r.2 ≠ none → wrL C o = some (kO C o)) →
      ∀ {s : St}, actG C ops p (appU (kO C o) o.dst r s) = actG C ops p s := by
    intro o p a b r hr s
    refine actG_congr (fun t ht => appU_t fun e => (a t e).1 ht) (fun k hk => appU_l fun hn e => ?_)
    have := hr hn
    rw [e] at this
    exact b k this hk
  have comm : ∀ {r1 r2 : Res}, (r1.2 ≠ none → wrL C o = some (kO C o)) → (r2.2 ≠ none → wrL C p = some (kO C p)) →
      appU (kO C p) p.dst r2 (appU (kO C o) o.dst r1 s) = appU (kO C o) o.dst r1 (appU (kO C p) p.dst r2 s) := by
    intro r1 r2 q1 q2
    refine appU_comm (fun t ht => (a1 t ht).2) fun n1 n2 e => ?_
    have := q1 n1
    have h2 := wr_rd (q2 n2)
    rw [e] at this
    exact b1 _ this h2
  obtain ⟨hcl, hbr⟩ := hcl
  have hfit : (Det true (actG C ops o s) ∨ Det true (actG C ops p s) ∨ (Det false (actG C ops o s) ∧ Det false (actG C ops p s))) ∨ (NewD (actG C ops o s) ∧ NewD (actG C ops p s)) := by
    cases ho : opCls C o with
    | none => exact .inl (.inl (actG_det hC (by rw [ho]; rfl) s))
    | read =>
      cases hp : opCls C p with
      | none => exact .inl (.inr (.inl (actG_det hC (by rw [hp]; rfl) s)))
      | read => exact .inl (.inr (.inr ⟨actG_det hC (by rw [ho]; rfl) s, actG_det hC (by rw [hp]; rfl) s⟩))
      | new => rw [ho, hp] at hcl; cases hcl
      | write => rw [ho, hp] at hcl; cases hcl
    | new =>
      cases hp : opCls C p with
      | none => exact .inl (.inr (.inl (actG_det hC (by rw [hp]; rfl) s)))
      | read => rw [ho, hp] at hcl; cases hcl
      | new =>
        rw [ho, hp] at hbr
        simp only [bare2, Bool.and_eq_true, Option.isNone_iff_eq_none] at hbr
        exact .inr ⟨actG_new hC ho hbr.1 s, actG_new hC hp hbr.2 s⟩
      | write => rw [ho, hp] at hcl; cases hcl
    | write =>
      cases hp : opCls C p with
      | none => exact .inl (.inr (.inl (actG_det hC (by rw [hp]; rfl) s)))
      | read => rw [ho, hp] at hcl; cases hcl
      | new => rw [ho, hp] at hcl; cases hcl
      | write => rw [ho, hp] at hcl; cases hcl
  rw [opG_act] at h ⊢
  have hA : actG C ops o s (fun r1 τ => actG C ops p s (fun r2 τ' => ((r1.2 ≠ none → wrL C o = some (kO C o)) ∧ (r2.2 ≠ none → wrL C p = some (kO C p))) ∧
      K (appU (kO C p) p.dst r2 (appU (kO C o) o.dst r1 s)) τ') τ) σ := by
    refine actG_mono hC (fun r1 τ hk => ?_) (actG_wr hC h)
    obtain ⟨hk, hr⟩ := hk
    rw [opG_act, cong a1 b1 hr] at hk
    exact actG_mono hC (fun r2 τ' hk => ⟨⟨hr, hk.2⟩, hk.1⟩) (actG_wr hC hk)
  have hB : actG C ops p s (fun r2 τ => actG C ops o s (fun r1 τ' => ((r1.2 ≠ none → wrL C o = some (kO C o)) ∧ (r2.2 ≠ none → wrL C p = some (kO C p))) ∧
      K (appU (kO C p) p.dst r2 (appU (kO C o) o.dst r1 s)) τ') τ) σ := by
    rcases hfit with hfit | ⟨n1, n2⟩
    · exact swapAB (A := actG C ops o s) (B := actG C ops p s) (fun h => actG_mono hC h) (fun h => actG_mono hC h) (actG_live hC) hfit hA
    · exact swapNew (A := actG C ops o s) (B := actG C ops p s) n1 n2 hA
  refine actG_mono hC (fun r2 τ hk => ?_) hB
  obtain ⟨r1, τ1, q⟩ := actG_live hC hk
  rw [opG_act, cong a2 b2 q.1.2]
  refine actG_mono hC (fun r1 τ' hk => ?_) hk
  rw [← comm hk.1.1 hk.1.2]
  exact hk.2

end Go.Fl
