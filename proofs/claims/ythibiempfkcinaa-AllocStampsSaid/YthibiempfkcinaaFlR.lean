/- The closed evaluator: functions; a function without arguments that answers true. No condition. -/
import Derived.Test.YthibiempfkcinaaFlQ
namespace Go.Fl
open Go
set_option linter.unusedVariables false
set_option linter.unusedSimpArgs false

inductive XR where
  | t (i : Nat)
  | c (a k sz : Nat) (ag : Bool)

def toR (C : Cx) : List ResultVar → Option (List XR)
  | [] => some []
  | .tmp i :: rs => match toR C rs with
    | some l => some (.t i :: l)
    | none => none
  | .cell a t :: rs => match C.loc.lookup a, toR C rs with
    | some k, some l => some (.c a k (tSz C.P t) (tAgg C.P t) :: l)
    | _, _ => none

noncomputable def evR1 (e : En) (x : XR) (f : Value → Bool) : Bool := match x with
  | .t i => getK e i f
  | .c a b sz ag => match gLoad sz ag [e.get a] (e.getL b) with
    | some v => fcV v f
    | none => false

noncomputable def evR (e : En) (l : List XR) : (List Value → Bool) → Bool :=
  List.rec (motive := fun _ => (List Value → Bool) → Bool) (fun k => k []) (fun x _ ih k => evR1 e x fun v => ih fun vs => k (v :: vs)) l

def ofArgs : List Value → Nat → Tr Value → Tr Value
  | [], _, t => t
  | v :: vs, i, t => ofArgs vs (Nat.succ i) (t.set i (some v))

noncomputable def argK (vs : List Value) : Nat → Tr Value → (Tr Value → Bool) → Bool :=
  List.rec (motive := fun _ => Nat → Tr Value → (Tr Value → Bool) → Bool) (fun _ t k => k t) (fun v _ ih i t k => Tr.setK (Nat.succ i) t i (some v) fun t => ih (Nat.succ i) t k) vs
theorem argK_eq : ∀ {vs : List Value} {i : Nat} {t : Tr Value} {k : Tr Value → Bool}, argK vs i t k = k (ofArgs vs i t)
  | [], _, _, _ => rfl
  | v :: vs, i, t, k => by
    show Tr.setK (Nat.succ i) t i (some v) (fun t => argK vs (Nat.succ i) t k) = _
    rw [Tr.setK_eq, argK_eq]; rfl

noncomputable def kRet (rs : List XR) (k : Value → Mx → Bool) : KF := fun x e μ =>
  Ex.rec (evR e rs fun vs => k (tupV vs) μ) (fun _ => false) (evR e rs fun vs => k (tupV vs) μ) x

/-- A function's run. -/
noncomputable def evFn (np : Nat) (x : XC XN) (rs : List XR) : EvF := fun args μ k =>
  bif arity np args then argK args 0 .e fun t => ev x (kRet rs k) ⟨undef, t, .e⟩ μ else false

theorem ofArgs_get : ∀ (vs : List Value) (i : Nat) (t : Tr Value) (j : Nat), (ofArgs vs i t).get j = if i ≤ j then (match vs[j - i]? with
    | some v => some v
    | none => t.get j) else t.get j
  | [], i, t, j => by simp [ofArgs]
  | v :: vs, i, t, j => by
    simp only [ofArgs]
    rw [ofArgs_get vs]
    by_cases h1 : i = j
    · subst h1
      rw [if_neg (by simp), if_pos (Nat.le_refl _), Tr.get_set]
      simp
    · by_cases h2 : i ≤ j
      · rw [if_pos (by show i + 1 ≤ j; omega), if_pos h2, show j - i = (j - Nat.succ i) + 1 by simp only [Nat.succ_eq_add_one]; omega, List.getElem?_cons_succ, Tr.get_set, if_neg (Ne.symm h1)]
      · rw [if_neg (by show ¬ i + 1 ≤ j; omega), if_neg h2, Tr.get_set, if_neg (Ne.symm h1)]

theorem evR_sound {C : Cx} {r : Rn} {e : En} {s : St} (hs : RS r e s) : ∀ {rs : List ResultVar} {l : List XR}, toR C rs = some l → ∀ {k : List Value → Bool} {K : List Value → Prop}, evR e l k = true →
    (∀ vs vs', k vs = true → RVL r vs vs' → K vs') → resW C rs s K
  | [], l, h, k, K, hk, post => by cases h; exact post _ _ hk .nil
  | .tmp i :: rs, l, h, k, K, hk, post => by
    simp only [toR] at h
    split at h
    · rename_i l' h1
      cases h
      have hk : evR1 e (.t i) (fun v => evR e l' fun vs => k (v :: vs)) = true := hk
      simp only [evR1, getK_eq] at hk
      exact evR_sound hs h1 (k := fun vs => k (e.get i :: vs)) hk fun vs vs' h1 h2 => post _ _ h1 (.cons (hs.t i) h2)
    · cases h
  | .cell a t :: rs, l, h, k, K, hk, post => by
    simp only [toR] at h
    split at h
    · rename_i b l' h1 h2
      cases h
      have hk : evR1 e (.c a b (tSz C.P t) (tAgg C.P t)) (fun v => evR e l' fun vs => k (v :: vs)) = true := hk
      simp only [evR1, fcV_eq] at hk
      split at hk
      · rename_i v hv
        obtain ⟨v', q1, q2⟩ := gLoad_RV (.cons (hs.t a) .nil) (hs.l b) hv
        simp only [resW, h1, xO, q1]
        exact evR_sound hs h2 (k := fun vs => k (v :: vs)) hk fun vs vs' h1 h2 => post _ _ h1 (.cons q2 h2)
      · cases hk
    · cases h

theorem tupV_RV {r : Rn} {vs vs' : List Value} (h : RVL r vs vs') : RV r (tupV vs) (tupV vs') := by
  cases h with
  | nil => exact .tup_mk .nil
  | cons h hs =>
    cases hs with
    | nil => exact h
    | cons h2 hs => exact .tup_mk (.cons h (.cons h2 hs))

theorem arity_RV : ∀ {n : Nat} {l l' : List Value} {r : Rn}, RVL r l l' → arity n l = arity n l'
  | 0, _, _, _, h => by cases h <;> rfl
  | n + 1, _, _, _, h => by
    cases h with
    | nil => rfl
    | cons _ hs => exact arity_RV (n := n) hs

theorem evFn_sound {C : Cx} {fn : Func} {c : Code} {np : Nat} {x : XC XN} {rs : List XR} (h1 : toC C c = some (x.map XN.sm)) (h2 : toR C fn.results.toList = some rs) (h3 : x.ok C.loc) :
    EvOk (FnS C fn c np) (evFn np x rs) := by
  intro σ0 r μ σ args args' k Q hM ha hk post
  unfold evFn at hk
  unfold FnS
  rw [← arity_RV ha]
  cases har : arity np args
  · rw [har] at hk; cases hk
  · rw [har] at hk
    have hk : argK args 0 .e (fun t => ev x (kRet rs k) ⟨undef, t, .e⟩ μ) = true := hk
    rw [argK_eq] at hk
    rw [if_pos rfl]
    unfold FnW
    have hs : RS r ⟨undef, ofArgs args 0 .e, .e⟩ ⟨fun i => args'.getD i undef, fun _ => []⟩ := by
      refine ⟨fun i => ?_, fun k => .nil⟩
      unfold En.get
      dsimp only
      rw [ofArgs_get, if_pos (Nat.zero_le _), Nat.sub_zero, List.getD_eq_getElem?_getD]
      cases hx : args[i]? with
      | none =>
        have : args'[i]? = none := by
          have h1 : args.length ≤ i := by simpa using hx
          simp [← ha.len, h1]
        rw [this]
        exact .undef
      | some v =>
        obtain ⟨v', q1, q2⟩ := ha.get hx
        rw [q1]
        exact q2
    refine ev_sound x c h1 h3 _ _ _ _ r hs hM hk ?_
    intro a e' μ' r' s' σ' q1 q2 q3 q4
    cases a with
    | exit i => cases q1
    | normal => exact evR_sound q3 h2 q1 fun vs vs' p1 p2 => post _ _ _ _ _ p1 q2 q4 (tupV_RV p2)
    | ret => exact evR_sound q3 h2 q1 fun vs vs' p1 p2 => post _ _ _ _ _ p1 q2 q4 (tupV_RV p2)

theorem EvOk.of {S S' : Spec} {V : EvF} (h : EvOk S V) (e : S = S') : EvOk S' V := e ▸ h

/-! ### What a closed run tells -/

def isT : Value → Bool
  | .bool b => b
  | _ => false

theorem RM.start (σ : Mem) : RM σ (fun _ => none) ⟨.e, 0⟩ σ :=
  ⟨fun _ _ h => (by cases h), fun _ _ _ _ _ _ h => (by cases h), fun _ _ => ⟨rfl, rfl⟩, fun _ _ h => h, fun _ _ _ h => (by cases h)⟩

/-- Run on arguments of which some are known in part only. -/
theorem EvOk.run {S : Spec} {V : EvF} (h : EvOk S V) {args args' : List Value} (ha : RVL (fun _ => none) args args') (hk : V args ⟨.e, 0⟩ (fun v _ => isT v) = true) (σ : Mem) :
    S args' (fun v τ => v = .bool true ∧ ∀ i b, σ.get i = some b → τ.get i = some b) σ := by
  refine h σ _ _ σ args args' _ _ (.start σ) ha hk ?_
  intro v μ' r' v' σ' q1 q2 q3 q4
  refine ⟨?_, q3.m4⟩
  unfold isT at q1
  split at q1
  · rw [q4.bool_inv, q1]
  · cases q1

/-! ### Contracts in place of what was read off -/

/-- What leaves less in the store tells less: a function by its contract. -/
theorem Entry.refine {P : Program} {g : Nat} {c c' : Cls} {S S' : Spec} (h : Entry P g c S) (hg : Good c' S')
    (hS : ∀ args K σ, S' args K σ → S args (fun v τ => ∃ τ', (∀ i b, τ'.get i = some b → τ.get i = some b) ∧ K v τ') σ) : Entry P g c' S' := by
  refine ⟨fun args Q σ hs ρ w args' hsim hv => ?_, hg, h.call⟩
  refine (h.sound args _ σ (hS args Q σ hs) ρ w args' hsim hv).mono ?_
  rintro e w' ⟨v, v', ρ', τ, rfl, ⟨τ', hsub, hq⟩, h1, h2, h3⟩
  refine ⟨v, v', ρ', τ', rfl, hq, h1, ⟨fun id blk hb => h2.s1 id blk (hsub _ _ hb), fun i j bi bj ei ej hij h1 h3 => h2.s2 i j bi bj ei ej hij (hsub _ _ h1) (hsub _ _ h3), h2.s3⟩, h3.le, h3.same, h3.size, h3.keep, ?_⟩
  rintro r b hb ⟨id, blk, e, q1, q2, q3, q4⟩
  exact h3.own r b hb ⟨id, blk, e, hsub _ _ q1, q2, q3, q4⟩

/-- A function that answers true, and leaves nothing. -/
def sTrue : Spec := fun args K σ => match args with
  | [] => K (.bool true) σ
  | _ => False

theorem sTrue_good : Good .none sTrue := by
  refine ⟨fun args K K' σ h hs => ?_, fun args K σ hs => ?_, fun _ args => ?_, (fun h => by cases h), (fun h => by cases h)⟩
  · cases args with
    | nil => exact h _ _ hs
    | cons _ _ => exact hs
  · cases args with
    | nil => exact ⟨_, _, hs⟩
    | cons _ _ => exact hs.elim
  · cases args with
    | nil => exact Det.ret (Value.bool true)
    | cons _ _ => exact Det.no

theorem Entry.awake {P : Program} {g : Nat} {c : Cls} {S : Spec} {V : EvF} (h : Entry P g c S) (hV : EvOk S V) (hk : V [] ⟨.e, 0⟩ (fun v _ => isT v) = true) : Entry P g .none sTrue := by
  refine h.refine sTrue_good fun args K σ hs => ?_
  cases args with
  | nil =>
    refine h.good.mono _ _ _ _ ?_ (hV.run .nil hk σ)
    rintro v τ ⟨rfl, hsub⟩
    exact ⟨σ, hsub, hs⟩
  | cons _ _ => exact hs.elim

end Go.Fl
