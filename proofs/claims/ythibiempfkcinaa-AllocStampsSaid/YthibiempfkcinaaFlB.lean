/- The evaluator: regions, code, functions; what holds of each operation: more holds behind it where more is asked, it comes to something, and what its class says. No condition. -/
import Derived.Test.YthibiempfkcinaaFlA
namespace Go.Fl
open Go
set_option linter.unusedVariables false
set_option linter.unusedSimpArgs false

/-! ### Regions and code -/

def gval (ops : Array Oper) (s : St) (j : Nat) : Value :=
  match ops[j]? with
  | some o => match o.dst with
    | some d => s.t d
    | none => undef
  | none => undef

/-- Does an operation's guard stand in a slot that holds no local address? -/
def gOk (C : Cx) (ops : Array Oper) (j : Nat) : Bool :=
  match ops[j]? with
  | some o => (C.dl o).isNone
  | none => true

/-- A guard's slot, when its value is known. -/
def gput (ops : Array Oper) (s : St) (j : Nat) (b : Bool) : St :=
  match ops[j]? with
  | some o => s.put o.dst (.bool b)
  | none => s

def xIf (v : Value) (A B : Prop) : Prop :=
  match v with
  | .bool true => A
  | .bool false => B
  | _ => False

/-- The operations of a region, one behind the other; what guards have decided. -/
def opsW (C : Cx) (ops : Array Oper) (K : St → Mem → Prop) : List Oper → Nat → List (Nat × Option Bool) → St → Mem → Prop
  | [], _, _, s, σ => K s σ
  | o :: rest, i, dec, s, σ =>
    match o.guard with
    | none => opW C o s σ fun s σ => opsW C ops K rest (i + 1) dec s σ
    | some (j, w) =>
      if gOk C ops j = true then
      match dec.lookup j with
      | some (some b) =>
        if (b == w) = true then opW C o s σ fun s σ => opsW C ops K rest (i + 1) dec s σ
        else opsW C ops K rest (i + 1) ((i, none) :: dec) (s.put o.dst undef) σ
      | some none => opsW C ops K rest (i + 1) ((i, none) :: dec) (s.put o.dst undef) σ
      | none => if Nat.blt j i = true then
          xIf (gval ops s j)
            (if w = true then opW C o (gput ops s j true) σ fun s σ => opsW C ops K rest (i + 1) ((j, some true) :: dec) s σ
             else opsW C ops K rest (i + 1) ((i, none) :: (j, some true) :: dec) ((gput ops s j true).put o.dst undef) σ)
            (if w = true then opsW C ops K rest (i + 1) ((i, none) :: (j, some false) :: dec) ((gput ops s j false).put o.dst undef) σ
             else opW C o (gput ops s j false) σ fun s σ => opsW C ops K rest (i + 1) ((j, some false) :: dec) s σ)
        else False
      else False

inductive Ex where
  | normal
  | exit (id : Nat)
  | ret

/-- The first region of a code, by its number and one; 0 is none. -/
def firstReg : Code → Nat
  | .region id _ _ => Nat.succ id
  | .seq a b | .cond _ a b => match firstReg a with
    | 0 => firstReg b
    | n + 1 => n + 1
  | .block _ c | .loop c | .scope c => firstReg c
  | _ => 0

/-- A loop: the least thing that holds where a round leads to where it holds. -/
def xLoop (F : (List Value → List (List Value) → Mem → Prop) → List Value → List (List Value) → Mem → Prop)
    (ts : List Value) (ls : List (List Value)) (σ : Mem) : Prop :=
  ∀ J : List Value → List (List Value) → Mem → Prop,
    (∀ ts ls σ, (∃ R : List Value → List (List Value) → Mem → Prop, (∀ ts ls σ, R ts ls σ → J ts ls σ) ∧ F R ts ls σ) → J ts ls σ) → J ts ls σ

/-- A loop's first round. -/
theorem xLoop_fold {F : (List Value → List (List Value) → Mem → Prop) → List Value → List (List Value) → Mem → Prop} {ts : List Value} {ls : List (List Value)} {σ : Mem}
    (h : F (fun ts ls σ => xLoop F ts ls σ) ts ls σ) : xLoop F ts ls σ :=
  fun J hJ => hJ _ _ _ ⟨_, fun _ _ _ hR => hR J hJ, h⟩

/-- A loop by what holds at each round's begin, and a number that each round lowers. -/
theorem xLoop_inv {F : (List Value → List (List Value) → Mem → Prop) → List Value → List (List Value) → Mem → Prop}
    (I : Nat → List Value → List (List Value) → Mem → Prop) (hr : ∀ n ts ls σ, I n ts ls σ → F (fun ts' ls' σ' => ∃ m, m < n ∧ I m ts' ls' σ') ts ls σ)
    {n : Nat} {ts : List Value} {ls : List (List Value)} {σ : Mem} (h0 : I n ts ls σ) : xLoop F ts ls σ := by
  intro J hJ
  have key : ∀ n ts ls σ, I n ts ls σ → J ts ls σ := by
    intro n
    induction n using Nat.strongRecOn with
    | _ n ih =>
      intro ts ls σ hi
      exact hJ _ _ _ ⟨_, fun ts' ls' σ' ⟨m, hm, hi'⟩ => ih m hm _ _ _ hi', hr n ts ls σ hi⟩
  exact key _ _ _ _ h0

def mkSt (kt kl : List Nat) (ts : List Value) (ls : List (List Value)) : St :=
  ⟨fun i => bif kl.contains i then locP i else bif kt.contains i then ts.getD (kt.idxOf i) poison else poison,
   fun i => bif kl.contains i then ls.getD (kl.idxOf i) [] else []⟩

def isLocP (k : Nat) : Value → Bool
  | .pointer (some ⟨b, 0, some 0⟩) => Nat.beq b k
  | _ => false

def backW (C : Cx) (kt kl : List Nat) (s : St) (σ : Mem) (R : List Value → List (List Value) → Mem → Prop) : Prop :=
  if (kl.all (fun k => isLocP k (s.t k) && C.loc.lookup k == some k) && kt.all (fun t => (C.loc.lookup t).isNone && Nat.blt t C.n)) = true then R (kt.map s.t) (kl.map s.l) σ else False

/-- Where a code's ways meet again: what is kept there. -/
def joinKey (C : Cx) (a b : Code) : Option (List Nat × List Nat) :=
  match firstReg a with
  | 0 => none
  | _ + 1 => C.keep.lookup (Nat.add (firstReg b) 1000000)

def xJoin (F : List Value → List (List Value) → Mem → Prop) (G : (List Value → List (List Value) → Mem → Prop) → Prop) : Prop := G F

def jW (C : Cx) (a b : Code) (B : St → Mem → Prop) (G : (St → Mem → Prop) → Prop) : Prop :=
  match joinKey C a b with
  | some (kt, kl) => xJoin (fun ts ls σ => B (mkSt kt kl ts ls) σ) fun J => G fun s σ => backW C kt kl s σ J
  | none => G B

def thru (C : Cx) (a b : Code) (B : St → Mem → Prop) (s : St) (σ : Mem) : Prop :=
  match joinKey C a b with
  | some (kt, kl) => backW C kt kl s σ fun ts ls σ => B (mkSt kt kl ts ls) σ
  | none => B s σ

theorem jW_eq {C : Cx} {a b : Code} {B : St → Mem → Prop} {G : (St → Mem → Prop) → Prop} : jW C a b B G = G (thru C a b B) := by
  unfold jW thru
  cases joinKey C a b <;> rfl

def Wp (C : Cx) : Code → (Ex → St → Mem → Prop) → St → Mem → Prop
  | .skip, Q, s, σ => Q .normal s σ
  | .label _, Q, s, σ => Q .normal s σ
  | .seq a b, Q, s, σ => jW C a b (fun s σ => Wp C b Q s σ) fun B => Wp C a (fun e s σ => match e with
    | .normal => B s σ
    | .exit i => Q (.exit i) s σ
    | .ret => Q .ret s σ) s σ
  | .cond c a b, Q, s, σ => if (C.isLoc c).isNone = true then xIf (evO s c) (Wp C a Q s σ) (Wp C b Q s σ) else False
  | .block id c, Q, s, σ => Wp C c (fun e s σ => match e with
    | .normal => Q .normal s σ
    | .exit i => bif Nat.beq i id then Q .normal s σ else Q (.exit i) s σ
    | .ret => Q .ret s σ) s σ
  | .scope c, Q, s, σ => Wp C c Q s σ
  | .loop c, Q, s, σ =>
    match C.keep.lookup (firstReg c) with
    | some (kt, kl) => backW C kt kl s σ (xLoop fun R ts ls σ => Wp C c (fun e s σ => match e with
      | .normal => backW C kt kl s σ R
      | .exit i => Q (.exit i) s σ
      | .ret => Q .ret s σ) (mkSt kt kl ts ls) σ)
    | none => False
  | .exit id, Q, s, σ => Q (.exit id) s σ
  | .ret, Q, s, σ => Q .ret s σ
  | .region _ ops _, Q, s, σ => opsW C ops (fun s σ => Q .normal s σ) ops.toList 0 [] s σ
  | _, _, _, _ => False

theorem Wp_seq {C : Cx} {a b : Code} {Q : Ex → St → Mem → Prop} {s : St} {σ : Mem} : Wp C (.seq a b) Q s σ = Wp C a (fun e s σ => match e with
    | .normal => thru C a b (fun s σ => Wp C b Q s σ) s σ
    | .exit i => Q (.exit i) s σ
    | .ret => Q .ret s σ) s σ := jW_eq

/-- A function's results, one behind the other. -/
def resW (C : Cx) : List ResultVar → St → (List Value → Prop) → Prop
  | [], _, K => K []
  | .tmp t :: rs, s, K => resW C rs s fun vs => K (s.t t :: vs)
  | .cell a t :: rs, s, K => match C.loc.lookup a with
    | some k => xO (gLoad (tSz C.P t) (tAgg C.P t) [s.t a] (s.l k)) fun v => resW C rs s fun vs => K (v :: vs)
    | none => False

def tupV : List Value → Value
  | [v] => v
  | vs => .tuple vs.toArray

def FnW (C : Cx) (fn : Func) (c : Code) (args : List Value) (K : Value → Mem → Prop) (σ : Mem) : Prop :=
  Wp C c (fun e s σ' => match e with
    | .exit _ => False
    | .normal => resW C fn.results.toList s fun vs => K (tupV vs) σ'
    | .ret => resW C fn.results.toList s fun vs => K (tupV vs) σ') ⟨fun i => args.getD i undef, fun _ => []⟩ σ

/-! ### What holds of a reading -/

/-- What leaves the store alone comes to one thing, whatever the store holds (or: in this store), or to nothing. -/
def Det (all : Bool) {α : Type} (W : (α → Mem → Prop) → Mem → Prop) : Prop :=
  ∀ σ, (∀ K τ, (all = false → τ = σ) → ¬ W K τ) ∨ ∃ r, ∀ K τ, (all = false → τ = σ) → (W K τ ↔ K r τ)

/-- What makes one block comes to it, or to nothing. -/
def NewD {α : Type} (W : (α → Mem → Prop) → Mem → Prop) : Prop :=
  (∀ K τ, ¬ W K τ) ∨ ∃ (c : List Value) (v : Nat → α), ∀ K τ, W K τ ↔ ∀ id, τ.get id = none → K (v id) (τ.set id ⟨c, true⟩)

structure Good (c : Cls) (S : Spec) : Prop where
  mono : ∀ args K K' σ, (∀ v τ, K v τ → K' v τ) → S args K σ → S args K' σ
  live : ∀ args K σ, S args K σ → ∃ v τ, K v τ
  none : c = .none → ∀ args, Det true (S args)
  read : c = .read → ∀ args, Det false (S args)
  new : c = .new → ∀ args, NewD (S args)

theorem Mem.fresh (σ : Mem) : ∃ i, σ.get i = none := let ⟨N, h⟩ := σ.fin; ⟨N, h N (Nat.le_refl N)⟩

theorem good_load (sz : Nat) (ag : Bool) : Good .read (hLoad sz ag) := by
  constructor
  · intro args K K' σ h hs
    unfold hLoad at *
    split at hs
    rotate_left
    · exact hs.elim
    split at hs
    · exact h _ _ hs
    · exact hs.elim
  · intro args K σ hs
    unfold hLoad at hs
    split at hs
    rotate_left
    · exact hs.elim
    split at hs
    · exact ⟨_, _, hs⟩
    · exact hs.elim
  · intro h; cases h
  · intro _ args σ
    unfold hLoad
    split
    · rename_i b o
      cases hr : rd σ b o sz ag with
      | none => exact .inl fun K τ hτ h => by cases hτ rfl; rw [hr] at h; exact h
      | some v => exact .inr ⟨v, fun K τ hτ => by cases hτ rfl; rw [hr]⟩
    · exact .inl fun K τ _ h => h
  · intro h; cases h


theorem good_store (sz : Nat) : Good .write (hStore sz) := by
  constructor
  · intro args K K' σ h hs
    unfold hStore at *
    split at hs
    rotate_left
    · exact hs.elim
    split at hs
    · exact h _ _ hs
    · exact hs.elim
  · intro args K σ hs
    unfold hStore at hs
    split at hs
    rotate_left
    · exact hs.elim
    split at hs
    · exact ⟨_, _, hs⟩
    · exact hs.elim
  · intro h; cases h
  · intro h; cases h
  · intro h; cases h


theorem newB_mono {c : List Value} {v : Nat → Value} {K K' : Value → Mem → Prop} {σ : Mem} (h : ∀ v τ, K v τ → K' v τ)
    (hs : newB c v K σ) : newB c v K' σ := fun id hid => h _ _ (hs id hid)

theorem newB_live {c : List Value} {v : Nat → Value} {K : Value → Mem → Prop} {σ : Mem} (hs : newB c v K σ) : ∃ v τ, K v τ :=
  let ⟨i, hi⟩ := σ.fresh; ⟨_, _, hs i hi⟩

theorem good_alloc (z : List Value) : Good .new (hAlloc z) := by
  constructor
  · intro args K K' σ h hs
    unfold hAlloc at *
    split at hs
    · exact newB_mono h hs
    · exact hs.elim
  · intro args K σ hs
    unfold hAlloc at hs
    split at hs
    · exact newB_live hs
    · exact hs.elim
  · intro h; cases h
  · intro h; cases h
  · intro _ args
    unfold hAlloc
    split
    · exact .inr ⟨_, _, fun K τ => Iff.rfl⟩
    · exact .inl fun K τ h => h


theorem good_box (sz : Nat) : Good .new (hBox sz) := by
  constructor
  · intro args K K' σ h hs
    unfold hBox at *
    split at hs
    rotate_left
    · exact hs.elim
    split at hs
    · exact newB_mono h hs
    · exact hs.elim
  · intro args K σ hs
    unfold hBox at hs
    split at hs
    rotate_left
    · exact hs.elim
    split at hs
    · exact newB_live hs
    · exact hs.elim
  · intro h; cases h
  · intro h; cases h
  · intro _ args
    unfold hBox
    split
    · split
      · exact .inr ⟨_, _, fun K τ => Iff.rfl⟩
      · exact .inl fun K τ h => h
    · exact .inl fun K τ h => h


theorem good_buildS (es len : Nat) (z : List Value) (idx : List Nat) : Good .new (hBuildS es len z idx) := by
  constructor
  · intro args K K' σ h hs
    unfold hBuildS at *
    split at hs
    · exact newB_mono h hs
    · exact hs.elim
  · intro args K σ hs
    unfold hBuildS at hs
    split at hs
    · exact newB_live hs
    · exact hs.elim
  · intro h; cases h
  · intro h; cases h
  · intro _ args
    unfold hBuildS
    split
    · exact .inr ⟨_, _, fun K τ => Iff.rfl⟩
    · exact .inl fun K τ h => h


theorem good_makeS (es b : Nat) (z : List Value) : Good .new (hMakeS es b z) := by
  constructor
  · intro args K K' σ h hs
    unfold hMakeS at *
    split at hs
    rotate_left
    · exact hs.elim
    split at hs
    rotate_left
    · exact hs.elim
    rename_i hn
    rw [if_pos hn]
    exact newB_mono h hs
  · intro args K σ hs
    unfold hMakeS at hs
    split at hs
    rotate_left
    · exact hs.elim
    split at hs
    · exact newB_live hs
    · exact hs.elim
  · intro h; cases h
  · intro h; cases h
  · intro _ args
    unfold hMakeS
    split
    · split
      · exact .inr ⟨_, _, fun K τ => Iff.rfl⟩
      · exact .inl fun K τ h => h
    · exact .inl fun K τ h => h


theorem app_mono {es n : Nat} {new : List Value} {s : Value} {K K' : Value → Mem → Prop} {σ : Mem} (h : ∀ v τ, K v τ → K' v τ)
    (hs : app es n new s K σ) : app es n new s K' σ := by
  unfold app at *
  split at hs
  · split at hs
    · rename_i hn
      rw [if_pos hn]
      exact h _ _ hs
    · rename_i hn
      rw [if_neg hn]
      split at hs
      · rename_i hn
        rw [if_pos hn]
        exact newB_mono h hs
      · exact hs.elim
  · split at hs
    · split at hs
      · rename_i hn
        rw [if_pos hn]
        exact newB_mono (fun v τ hk => h _ _ hk) hs
      · exact hs.elim
    · exact hs.elim
  · exact hs.elim

theorem app_live {es n : Nat} {new : List Value} {s : Value} {K : Value → Mem → Prop} {σ : Mem} (hs : app es n new s K σ) : ∃ v τ, K v τ := by
  unfold app at hs
  split at hs
  · split at hs
    · exact ⟨_, _, hs⟩
    · split at hs
      · exact newB_live hs
      · exact hs.elim
  · split at hs
    · split at hs
      · obtain ⟨v, τ, h⟩ := newB_live hs
        exact ⟨_, _, h⟩
      · exact hs.elim
    · exact hs.elim
  · exact hs.elim

theorem good_append (es b : Nat) : Good .write (hAppend es b) := by
  constructor
  · intro args K K' σ h hs
    unfold hAppend at *
    split at hs
    rotate_left
    · exact hs.elim
    split at hs
    rotate_left
    · exact hs.elim
    split at hs
    rotate_left
    · exact hs.elim
    rename_i hn
    rw [if_pos hn]
    exact app_mono h hs
  · intro args K σ hs
    unfold hAppend at hs
    split at hs
    rotate_left
    · exact hs.elim
    split at hs
    rotate_left
    · exact hs.elim
    split at hs
    · exact app_live hs
    · exact hs.elim
  · intro h; cases h
  · intro h; cases h
  · intro h; cases h


theorem good_appendL (es b : Nat) (cs : List Value) : Good .write (hAppendL es b cs) := by
  constructor
  · intro args K K' σ h hs
    unfold hAppendL at *
    split at hs
    rotate_left
    · exact hs.elim
    split at hs
    rotate_left
    · exact hs.elim
    rename_i hn
    rw [if_pos hn]
    exact app_mono h hs
  · intro args K σ hs
    unfold hAppendL at hs
    split at hs
    rotate_left
    · exact hs.elim
    split at hs
    · exact app_live hs
    · exact hs.elim
  · intro h; cases h
  · intro h; cases h
  · intro h; cases h


/-- The callees are as their entries say. -/
def Cx.good (C : Cx) : Prop := ∀ g c S, C.T.lookup g = some (c, S) → Good c S

def Sm.good : Sm → Prop
  | .h c r => Good c r
  | .hl c _ r => ∀ cs, Good c (r cs)
  | _ => True

theorem atF_f {C : Cx} {o : Oper} {p : List Operand × Sm} (h : atF C o = some p) : ∃ g, p.2 = .f g ∧ fOf C o.op = some (p.1, g) := by
  unfold atF at h
  split at h
  · rename_i xs g hf
    split at h
    · split at h
      · cases h; exact ⟨g, rfl, hf⟩
      · cases h
    · split at h
      · split at h
        · cases h; exact ⟨g, rfl, hf⟩
        · cases h
      · cases h
  · cases h

theorem atNew_good {C : Cx} {o : Oper} {xs : List Operand} {l : Nat → Sm} {hh : Sm} {p : List Operand × Sm}
    (h : atNew C o xs l hh = some p) (hl : ∀ k, (l k).good) (h' : hh.good) : p.2.good := by
  unfold atNew at h
  split at h
  · split at h
    · split at h
      · cases h; exact hl _
      · cases h
    · split at h
      · cases h; exact h'
      · cases h
  · cases h

theorem comp_good {C : Cx} (hC : C.good) {o : Oper} {p : List Operand × Sm} (h : comp C o = some p) : p.2.good := by
  have hF : ∀ {p : List Operand × Sm}, atF C o = some p → p.2.good := by
    intro p h
    obtain ⟨g, hg, _⟩ := atF_f h
    rw [hg]; trivial
  unfold comp at h
  split at h
  · split at h
    · exact atNew_good h (fun _ => trivial) (good_alloc _)
    · cases h
  · split at h
    · exact atNew_good h (fun _ => trivial) (good_box _)
    · cases h
  · unfold atLoad at h
    split at h
    · split at h
      · cases h; trivial
      · cases h; exact good_load _ _
    · cases h
  · unfold atStore at h
    split at h
    · split at h
      · cases h; trivial
      · cases h; exact good_store _
    · cases h
  · split at h
    · split at h
      · split at h
        · exact atNew_good h (fun _ => trivial) (good_buildS _ _ _ _)
        · cases h
      · cases h
    · cases h
  · split at h
    · split at h
      · split at h
        · cases h; exact good_makeS _ _ _
        · cases h
      · cases h
    · cases h
  · split at h
    · split at h
      · unfold atAppend at h
        split at h
        · split at h
          · split at h
            · split at h
              · cases h; exact fun cs => good_appendL _ _ cs
              · cases h; exact good_append _ _
            · cases h
          · cases h
        · cases h
      · cases h
    · unfold atCall at h
      split at h
      · split at h
        · rename_i c S hl
          cases h; exact hC _ _ _ hl
        · cases h
      · cases h
    · exact hF h
  · exact hF h

theorem xF_mono {g : List Value → Option Value} {args : List Value} {K K' : Value → Prop} (h : ∀ v, K v → K' v) (hs : xF g args K) : xF g args K' := by
  unfold xF at *
  split at hs
  · exact h _ hs
  · exact hs.elim

theorem xF_live {g : List Value → Option Value} {args : List Value} {K : Value → Prop} (hs : xF g args K) : ∃ v, g args = some v ∧ K v := by
  unfold xF at hs
  split at hs
  · exact ⟨_, by assumption, hs⟩
  · exact hs.elim

theorem xO_mono {v : Option Value} {K K' : Value → Prop} (h : ∀ v, K v → K' v) (hs : xO v K) : xO v K' := by
  cases v with
  | none => exact hs
  | some v => exact h _ hs

theorem xC_mono {c : Option (List Value)} {K K' : List Value → Prop} (h : ∀ v, K v → K' v) (hs : xC c K) : xC c K' := by
  cases c with
  | none => exact hs
  | some c => exact h _ hs

theorem xO_live {v : Option Value} {K : Value → Prop} (hs : xO v K) : ∃ x, v = some x ∧ K x := by
  cases v with
  | none => exact hs.elim
  | some v => exact ⟨v, rfl, hs⟩

theorem xC_live {c : Option (List Value)} {K : List Value → Prop} (hs : xC c K) : ∃ x, c = some x ∧ K x := by
  cases c with
  | none => exact hs.elim
  | some c => exact ⟨c, rfl, hs⟩

theorem runSm_mono {C : Cx} {m : Sm} (hm : m.good) {d : Option Nat} {args : List Value} {s : St} {σ : Mem} {K K' : St → Mem → Prop}
    (h : ∀ s τ, K s τ → K' s τ) (hs : runSm C m d args s σ K) : runSm C m d args s σ K' := by
  cases m with
  | f g => exact xF_mono (fun v hk => h _ _ hk) hs
  | lr k g => exact xO_mono (fun v hk => h _ _ hk) hs
  | lw k fr g =>
    cases fr with
    | none => exact xC_mono (fun v hk => h _ _ hk) hs
    | some v =>
      simp only [runSm] at *
      split at hs
      · rename_i hf; rw [if_pos hf]; exact xC_mono (fun v hk => h _ _ hk) hs
      · exact hs.elim
  | h c r => exact Good.mono hm _ _ _ _ (fun v τ hk => h _ _ hk) hs
  | hl c k r => exact Good.mono (hm _) _ _ _ _ (fun v τ hk => h _ _ hk) hs

theorem runSm_live {C : Cx} {m : Sm} (hm : m.good) {d : Option Nat} {args : List Value} {s : St} {σ : Mem} {K : St → Mem → Prop}
    (hs : runSm C m d args s σ K) : ∃ s τ, K s τ := by
  cases m with
  | f g => obtain ⟨v, _, hv⟩ := xF_live hs; exact ⟨_, _, hv⟩
  | lr k g => obtain ⟨v, _, hv⟩ := xO_live hs; exact ⟨_, _, hv⟩
  | lw k fr g =>
    cases fr with
    | none => obtain ⟨v, _, hv⟩ := xC_live hs; exact ⟨_, _, hv⟩
    | some v =>
      simp only [runSm] at hs
      split at hs
      · obtain ⟨v, _, hv⟩ := xC_live hs; exact ⟨_, _, hv⟩
      · exact hs.elim
  | h c r => obtain ⟨v, τ, hv⟩ := Good.live hm _ _ _ hs; exact ⟨_, _, hv⟩
  | hl c k r => obtain ⟨v, τ, hv⟩ := Good.live (hm _) _ _ _ hs; exact ⟨_, _, hv⟩

theorem opW_mono {C : Cx} (hC : C.good) {o : Oper} {s : St} {σ : Mem} {K K' : St → Mem → Prop} (h : ∀ s τ, K s τ → K' s τ)
    (hs : opW C o s σ K) : opW C o s σ K' := by
  unfold opW at *
  split at hs
  · rename_i xs m hc
    split at hs
    rotate_left
    · exact hs.elim
    rename_i hd
    rw [if_pos hd]
    exact runSm_mono (comp_good hC hc) h hs
  · exact hs.elim

theorem opW_live {C : Cx} (hC : C.good) {o : Oper} {s : St} {σ : Mem} {K : St → Mem → Prop} (hs : opW C o s σ K) : ∃ s τ, K s τ := by
  unfold opW at hs
  split at hs
  · rename_i xs m hc
    split at hs
    rotate_left
    · exact hs.elim
    exact runSm_live (comp_good hC hc) hs
  · exact hs.elim

theorem xIf_mono {v : Value} {A B A' B' : Prop} (hA : A → A') (hB : B → B') (h : xIf v A B) : xIf v A' B' := by
  unfold xIf at *
  split at h <;> first | exact hA h | exact hB h | exact h.elim

theorem xIf_live {v : Value} {A B : Prop} (h : xIf v A B) : A ∨ B := by
  unfold xIf at h
  split at h <;> first | exact .inl h | exact .inr h | exact h.elim

theorem opsW_mono {C : Cx} (hC : C.good) {ops : Array Oper} {K K' : St → Mem → Prop} (h : ∀ s τ, K s τ → K' s τ) :
    ∀ (l : List Oper) (i : Nat) (dec : List (Nat × Option Bool)) (s : St) (σ : Mem), opsW C ops K l i dec s σ → opsW C ops K' l i dec s σ := by
  intro l
  induction l with
  | nil => intro i dec s σ hs; exact h _ _ hs
  | cons o rest ih =>
    intro i dec s σ hs
    unfold opsW at hs ⊢
    split at hs
    · exact opW_mono hC (fun s τ => ih _ _ s τ) hs
    · split at hs
      rotate_left
      · exact hs.elim
      rename_i hg
      rw [if_pos hg]
      split at hs
      · split at hs
        · rename_i hb; rw [if_pos hb]; exact opW_mono hC (fun s τ => ih _ _ s τ) hs
        · rename_i hb; rw [if_neg hb]; exact ih _ _ _ _ hs
      · exact ih _ _ _ _ hs
      · split at hs
        rotate_left
        · exact hs.elim
        rename_i hb
        rw [if_pos hb]
        refine xIf_mono (fun h => ?_) (fun h => ?_) hs
        · split at h
          · rename_i hw; rw [if_pos hw]; exact opW_mono hC (fun s τ => ih _ _ s τ) h
          · rename_i hw; rw [if_neg hw]; exact ih _ _ _ _ h
        · split at h
          · rename_i hw; rw [if_pos hw]; exact ih _ _ _ _ h
          · rename_i hw; rw [if_neg hw]; exact opW_mono hC (fun s τ => ih _ _ s τ) h

theorem opsW_live {C : Cx} (hC : C.good) {ops : Array Oper} {K : St → Mem → Prop} :
    ∀ (l : List Oper) (i : Nat) (dec : List (Nat × Option Bool)) (s : St) (σ : Mem), opsW C ops K l i dec s σ → ∃ s τ, K s τ := by
  intro l
  induction l with
  | nil => intro i dec s σ hs; exact ⟨_, _, hs⟩
  | cons o rest ih =>
    intro i dec s σ hs
    have step : ∀ {dec : List (Nat × Option Bool)} {s : St} {σ : Mem}, opW C o s σ (fun s σ => opsW C ops K rest (i + 1) dec s σ) → ∃ s τ, K s τ := by
      intro dec s σ h
      obtain ⟨s', τ, h'⟩ := opW_live hC h
      exact ih _ _ _ _ h'
    unfold opsW at hs
    split at hs
    · exact step hs
    · split at hs
      rotate_left
      · exact hs.elim
      split at hs
      · split at hs
        · exact step hs
        · exact ih _ _ _ _ hs
      · exact ih _ _ _ _ hs
      · split at hs
        rotate_left
        · exact hs.elim
        rcases xIf_live hs with h | h
        · split at h
          · exact step h
          · exact ih _ _ _ _ h
        · split at h
          · exact ih _ _ _ _ h
          · exact step h

theorem backW_mono {C : Cx} {kt kl : List Nat} {s : St} {σ : Mem} {R R' : List Value → List (List Value) → Mem → Prop} (h : ∀ ts ls σ, R ts ls σ → R' ts ls σ)
    (hs : backW C kt kl s σ R) : backW C kt kl s σ R' := by
  unfold backW at *
  split at hs
  rotate_left
  · exact hs.elim
  rename_i hb
  rw [if_pos hb]
  exact h _ _ _ hs

theorem thru_mono {C : Cx} {a b : Code} {B B' : St → Mem → Prop} (h : ∀ s σ, B s σ → B' s σ) {s : St} {σ : Mem} (hs : thru C a b B s σ) : thru C a b B' s σ := by
  unfold thru at *
  split at hs
  · exact backW_mono (fun _ _ _ q => h _ _ q) hs
  · exact h _ _ hs

theorem backW_live {C : Cx} {kt kl : List Nat} {s : St} {σ : Mem} {R : List Value → List (List Value) → Mem → Prop}
    (hs : backW C kt kl s σ R) : ∃ ts ls σ, R ts ls σ := by
  unfold backW at hs
  split at hs
  · exact ⟨_, _, _, hs⟩
  · exact hs.elim

theorem thru_live {C : Cx} {a b : Code} {B : St → Mem → Prop} {s : St} {σ : Mem} (hs : thru C a b B s σ) : ∃ s σ, B s σ := by
  unfold thru at *
  split at hs
  · obtain ⟨ts, ls, σ, h⟩ := backW_live hs; exact ⟨_, _, h⟩
  · exact ⟨_, _, hs⟩

theorem xLoop_mono {F F' : (List Value → List (List Value) → Mem → Prop) → List Value → List (List Value) → Mem → Prop}
    (h : ∀ R ts ls σ, F R ts ls σ → F' R ts ls σ) {ts : List Value} {ls : List (List Value)} {σ : Mem} (hs : xLoop F ts ls σ) : xLoop F' ts ls σ :=
  fun J hJ => hs J fun ts ls σ ⟨R, hR, hF⟩ => hJ ts ls σ ⟨R, hR, h _ _ _ _ hF⟩

theorem Wp_mono {C : Cx} (hC : C.good) (c : Code) : ∀ {Q Q' : Ex → St → Mem → Prop}, (∀ e s τ, Q e s τ → Q' e s τ) → ∀ s σ, Wp C c Q s σ → Wp C c Q' s σ := by
  induction c with
  | skip => intro Q Q' h s σ hs; exact h _ _ _ hs
  | label l => intro Q Q' h s σ hs; exact h _ _ _ hs
  | exit l => intro Q Q' h s σ hs; exact h _ _ _ hs
  | ret => intro Q Q' h s σ hs; exact h _ _ _ hs
  | seq a b iha ihb =>
    intro Q Q' h s σ hs
    rw [Wp_seq] at hs ⊢
    refine iha (fun e s τ hq => ?_) s σ hs
    cases e with
    | normal => exact thru_mono (fun s σ hq => ihb h _ _ hq) hq
    | exit i => exact h _ _ _ hq
    | ret => exact h _ _ _ hq
  | cond c a b iha ihb =>
    intro Q Q' h s σ hs
    unfold Wp at hs ⊢
    split at hs
    rotate_left
    · exact hs.elim
    rename_i hl
    rw [if_pos hl]
    exact xIf_mono (iha h _ _) (ihb h _ _) hs
  | block id c ih =>
    intro Q Q' h s σ hs
    refine ih (fun e s τ hq => ?_) s σ hs
    cases e with
    | normal => exact h _ _ _ hq
    | exit i =>
      dsimp only at *
      cases hb : Nat.beq i id
      · rw [hb] at hq; exact h _ _ _ hq
      · rw [hb] at hq; exact h _ _ _ hq
    | ret => exact h _ _ _ hq
  | scope c ih => intro Q Q' h s σ hs; exact ih h s σ hs
  | loop c ih =>
    intro Q Q' h s σ hs
    unfold Wp at hs ⊢
    split at hs
    rotate_left
    · exact hs.elim
    rename_i kt kl hk
    refine backW_mono (fun ts ls σ hx => xLoop_mono (fun R ts ls σ hF => ?_) hx) hs
    refine ih (fun e s τ hq => ?_) _ _ hF
    cases e with
    | normal => exact hq
    | exit i => exact h _ _ _ hq
    | ret => exact h _ _ _ hq
  | region id ops draw => intro Q Q' h s σ hs; exact opsW_mono hC (fun s τ => h _ s τ) _ _ _ _ _ hs
  | rangeFunc f ps a b _ _ => intro Q Q' h s σ hs; exact hs.elim
  | goto l => intro Q Q' h s σ hs; exact hs.elim
  | refuse w => intro Q Q' h s σ hs; exact hs.elim

theorem Wp_live {C : Cx} (hC : C.good) (c : Code) : ∀ {Q : Ex → St → Mem → Prop} (s : St) (σ : Mem), Wp C c Q s σ → ∃ e s τ, Q e s τ := by
  induction c with
  | skip => intro Q s σ hs; exact ⟨_, _, _, hs⟩
  | label l => intro Q s σ hs; exact ⟨_, _, _, hs⟩
  | exit l => intro Q s σ hs; exact ⟨_, _, _, hs⟩
  | ret => intro Q s σ hs; exact ⟨_, _, _, hs⟩
  | seq a b iha ihb =>
    intro Q s σ hs
    rw [Wp_seq] at hs
    obtain ⟨e, s', τ, hq⟩ := iha s σ hs
    cases e with
    | normal => obtain ⟨s2, τ2, hq2⟩ := thru_live hq; exact ihb _ _ hq2
    | exit i => exact ⟨_, _, _, hq⟩
    | ret => exact ⟨_, _, _, hq⟩
  | cond c a b iha ihb =>
    intro Q s σ hs
    unfold Wp at hs
    split at hs
    rotate_left
    · exact hs.elim
    rcases xIf_live hs with h | h
    · exact iha _ _ h
    · exact ihb _ _ h
  | block id c ih =>
    intro Q s σ hs
    obtain ⟨e, s', τ, hq⟩ := ih s σ hs
    cases e with
    | normal => exact ⟨_, _, _, hq⟩
    | exit i =>
      dsimp only at hq
      cases hb : Nat.beq i id
      · rw [hb] at hq; exact ⟨_, _, _, hq⟩
      · rw [hb] at hq; exact ⟨_, _, _, hq⟩
    | ret => exact ⟨_, _, _, hq⟩
  | scope c ih => intro Q s σ hs; exact ih s σ hs
  | loop c ih =>
    intro Q s σ hs
    unfold Wp at hs
    split at hs
    rotate_left
    · exact hs.elim
    rename_i kt kl hk
    obtain ⟨ts, ls, σ', hl⟩ := backW_live hs
    refine hl (fun _ _ _ => ∃ e s τ, Q e s τ) fun ts ls σ ⟨R, hR, hF⟩ => ?_
    obtain ⟨e, s', τ, hq⟩ := ih _ _ hF
    cases e with
    | normal =>
      obtain ⟨ts', ls', σ', h⟩ := backW_live hq
      exact hR _ _ _ h
    | exit i => exact ⟨_, _, _, hq⟩
    | ret => exact ⟨_, _, _, hq⟩
  | region id ops draw => intro Q s σ hs; obtain ⟨s', τ, h⟩ := opsW_live hC _ _ _ _ _ hs; exact ⟨_, _, _, h⟩
  | rangeFunc f ps a b _ _ => intro Q s σ hs; exact hs.elim
  | goto l => intro Q s σ hs; exact hs.elim
  | refuse w => intro Q s σ hs; exact hs.elim

/-! ### Functions that leave the store alone -/

def clsOk (all : Bool) : Cls → Bool
  | .none => true
  | .read => !all
  | .new => false
  | .write => false

def smCls : Sm → Cls
  | .h c _ | .hl c _ _ => c
  | _ => .none

theorem Det.weak {all : Bool} {α : Type} {W : (α → Mem → Prop) → Mem → Prop} (h : Det true W) : Det all W := by
  intro σ
  rcases h σ with h | ⟨r, h⟩
  · exact .inl fun K τ _ => h K τ (fun h => by cases h)
  · exact .inr ⟨r, fun K τ _ => h K τ (fun h => by cases h)⟩

theorem Det.of_good {c : Cls} {S : Spec} (hg : Good c S) {all : Bool} (hc : clsOk all c = true) (args : List Value) : Det all (S args) := by
  cases c with
  | none => exact (hg.none rfl args).weak
  | read =>
    have : all = false := by simpa [clsOk] using hc
    subst this
    exact hg.read rfl args
  | new => cases hc
  | write => cases hc

/-- One behind the other. -/
theorem Det.bind {all : Bool} {α β : Type} {W : (α → Mem → Prop) → Mem → Prop} {W' : α → (β → Mem → Prop) → Mem → Prop} (h : Det all W) (h' : ∀ r, Det all (W' r)) :
    Det all (fun K σ => W (fun r σ => W' r K σ) σ) := by
  intro σ
  rcases h σ with h | ⟨r, h⟩
  · exact .inl fun K τ hτ => h _ τ hτ
  · rcases h' r σ with h' | ⟨r', h'⟩
    · exact .inl fun K τ hτ hw => h' K τ hτ ((h _ τ hτ).1 hw)
    · exact .inr ⟨r', fun K τ hτ => (h _ τ hτ).trans (h' K τ hτ)⟩

theorem Det.ret {all : Bool} {α : Type} (r : α) : Det all (fun (K : α → Mem → Prop) σ => K r σ) := fun σ => .inr ⟨r, fun K τ _ => Iff.rfl⟩
theorem Det.no {all : Bool} {α : Type} : Det all (fun (_ : α → Mem → Prop) _ => False) := fun σ => .inl fun K τ _ h => h

theorem Det.map {all : Bool} {α β : Type} {W : (α → Mem → Prop) → Mem → Prop} (h : Det all W) (f : α → β) : Det all (fun (K : β → Mem → Prop) σ => W (fun r σ => K (f r) σ) σ) :=
  h.bind (W' := fun r K σ => K (f r) σ) fun r => Det.ret (f r)

theorem xO_det {all : Bool} {α : Type} (v : Option Value) (f : Value → α) : Det all (fun (K : α → Mem → Prop) σ => xO v fun v => K (f v) σ) := by
  cases v with
  | none => exact Det.no
  | some v => exact Det.ret _

theorem xC_det {all : Bool} {α : Type} (v : Option (List Value)) (f : List Value → α) : Det all (fun (K : α → Mem → Prop) σ => xC v fun v => K (f v) σ) := by
  cases v with
  | none => exact Det.no
  | some v => exact Det.ret _

theorem runSm_det {C : Cx} {all : Bool} {m : Sm} (hm : m.good) (hc : clsOk all (smCls m) = true) (d : Option Nat) (args : List Value) (s : St) :
    Det all (fun K σ => runSm C m d args s σ K) := by
  cases m with
  | f g =>
    simp only [runSm, xF]
    cases g args with
    | none => exact Det.no
    | some v => exact Det.ret _
  | lr k g => exact xO_det _ _
  | lw k fr g =>
    cases fr with
    | none => exact xC_det _ _
    | some v =>
      simp only [runSm]
      split
      · exact xC_det _ _
      · exact Det.no
  | h c r => exact (Det.of_good hm hc args).map fun v => s.put d v
  | hl c k r => exact (Det.of_good (hm _) hc args).map fun v => s.put d v

def opCls (C : Cx) (o : Oper) : Cls :=
  match comp C o with
  | some (_, m) => smCls m
  | none => .none

theorem opW_det {C : Cx} (hC : C.good) {all : Bool} {o : Oper} (hc : clsOk all (opCls C o) = true) (s : St) : Det all (fun K σ => opW C o s σ K) := by
  unfold opCls at hc
  simp only [opW]
  cases hcm : comp C o with
  | none => exact Det.no
  | some p =>
    obtain ⟨xs, m⟩ := p
    simp only [hcm] at hc ⊢
    split
    · exact runSm_det (comp_good hC hcm) hc _ _ _
    · exact Det.no

/-- A region's or a code's class, by its operations; loops have none. -/
def quietL (C : Cx) (all : Bool) (l : List Oper) : Bool := l.all fun o => clsOk all (opCls C o)

def quietC (C : Cx) (all : Bool) : Code → Bool
  | .skip | .label _ | .exit _ | .ret => true
  | .seq a b | .cond _ a b => quietC C all a && quietC C all b
  | .block _ c | .scope c => quietC C all c
  | .region _ ops _ => quietL C all ops.toList
  | _ => false

theorem xIf_det {all : Bool} {α : Type} (v : Value) {A B : (α → Mem → Prop) → Mem → Prop} (hA : Det all A) (hB : Det all B) : Det all (fun K σ => xIf v (A K σ) (B K σ)) := by
  unfold xIf
  split
  · exact hA
  · exact hB
  · exact Det.no

theorem opsW_det {C : Cx} (hC : C.good) {all : Bool} {ops : Array Oper} : ∀ (l : List Oper), quietL C all l = true → ∀ (i : Nat) (dec : List (Nat × Option Bool)) (s : St),
    Det all (fun K σ => opsW C ops K l i dec s σ) := by
  intro l
  induction l with
  | nil => intro _ i dec s; exact Det.ret s
  | cons o rest ih =>
    intro hq i dec s
    simp only [quietL, List.all_cons, Bool.and_eq_true] at hq
    have step : ∀ (dec : List (Nat × Option Bool)) (s : St), Det all (fun K σ => opW C o s σ (fun s σ => opsW C ops K rest (i + 1) dec s σ)) :=
      fun dec s => (opW_det hC hq.1 s).bind (W' := fun s K σ => opsW C ops K rest (i + 1) dec s σ) fun s => ih hq.2 _ _ _
    have ih' := ih hq.2
    unfold opsW
    split
    · exact step _ _
    · split
      · split
        · split
          · exact step _ _
          · exact ih' _ _ _
        · exact ih' _ _ _
        · split
          · refine xIf_det _ ?_ ?_
            · split
              · exact step _ _
              · exact ih' _ _ _
            · split
              · exact ih' _ _ _
              · exact step _ _
          · exact Det.no
      · exact Det.no

theorem thru_det {C : Cx} {a b : Code} {all : Bool} {α : Type} {W' : St → (α → Mem → Prop) → Mem → Prop} (h : ∀ s, Det all (W' s)) (s : St) :
    Det all (fun K σ => thru C a b (fun s σ => W' s K σ) s σ) := by
  unfold thru
  split
  · unfold backW
    split
    · exact h _
    · exact Det.no
  · exact h s

theorem Wp_det {C : Cx} (hC : C.good) {all : Bool} (c : Code) : quietC C all c = true → ∀ (s : St),
    Det all (fun (K : Ex × St → Mem → Prop) σ => Wp C c (fun e s σ => K (e, s) σ) s σ) := by
  induction c with
  | skip => intro _ s; exact Det.ret (Ex.normal, s)
  | label l => intro _ s; exact Det.ret (Ex.normal, s)
  | exit l => intro _ s; exact Det.ret (Ex.exit l, s)
  | ret => intro _ s; exact Det.ret (Ex.ret, s)
  | seq a b iha ihb =>
    intro hq s
    simp only [quietC, Bool.and_eq_true] at hq
    simp only [Wp_seq]
    exact (iha hq.1 s).bind (W' := fun x (K : Ex × St → Mem → Prop) σ => match x.1 with
      | .normal => thru C a b (fun s σ => Wp C b (fun e s σ => K (e, s) σ) s σ) x.2 σ
      | .exit i => K (.exit i, x.2) σ
      | .ret => K (.ret, x.2) σ) fun x => by
        obtain ⟨e, s'⟩ := x
        cases e with
        | normal => exact thru_det (W' := fun s (K : Ex × St → Mem → Prop) σ => Wp C b (fun e s σ => K (e, s) σ) s σ) (ihb hq.2) s'
        | exit i => exact Det.ret (Ex.exit i, s')
        | ret => exact Det.ret (Ex.ret, s')
  | cond c a b iha ihb =>
    intro hq s
    simp only [quietC, Bool.and_eq_true] at hq
    unfold Wp
    split
    · exact xIf_det _ (iha hq.1 s) (ihb hq.2 s)
    · exact Det.no
  | block id c ih =>
    intro hq s
    exact (ih hq s).bind (W' := fun x (K : Ex × St → Mem → Prop) σ => match x.1 with
      | .normal => K (.normal, x.2) σ
      | .exit i => bif Nat.beq i id then K (.normal, x.2) σ else K (.exit i, x.2) σ
      | .ret => K (.ret, x.2) σ) fun x => by
        obtain ⟨e, s'⟩ := x
        cases e with
        | normal => exact Det.ret (Ex.normal, s')
        | exit i =>
          dsimp only
          cases Nat.beq i id
          · exact Det.ret (Ex.exit i, s')
          · exact Det.ret (Ex.normal, s')
        | ret => exact Det.ret (Ex.ret, s')
  | scope c ih => intro hq s; exact ih hq s
  | region id ops draw =>
    intro hq s
    exact (opsW_det hC _ hq 0 [] s).map fun s => (Ex.normal, s)
  | loop c _ => intro hq; cases hq
  | rangeFunc f ps a b _ _ => intro hq; cases hq
  | goto l => intro hq; cases hq
  | refuse w => intro hq; cases hq

theorem resW_mono {C : Cx} : ∀ {rs : List ResultVar} {s : St} {K K' : List Value → Prop}, (∀ vs, K vs → K' vs) → resW C rs s K → resW C rs s K'
  | [], s, K, K', h, hs => h _ hs
  | .tmp t :: rs, s, K, K', h, hs => resW_mono (rs := rs) (fun vs hk => h _ hk) hs
  | .cell a t :: rs, s, K, K', h, hs => by
    unfold resW at hs ⊢
    split at hs
    · exact xO_mono (fun v hk => resW_mono (rs := rs) (fun vs hk => h _ hk) hk) hs
    · exact hs.elim

theorem resW_live {C : Cx} : ∀ {rs : List ResultVar} {s : St} {K : List Value → Prop}, resW C rs s K → ∃ vs, K vs
  | [], s, K, hs => ⟨_, hs⟩
  | .tmp t :: rs, s, K, hs => let ⟨_, h⟩ := resW_live (rs := rs) hs; ⟨_, h⟩
  | .cell a t :: rs, s, K, hs => by
    unfold resW at hs
    split at hs
    · obtain ⟨v, _, hv⟩ := xO_live hs
      obtain ⟨vs, h⟩ := resW_live (rs := rs) hv
      exact ⟨_, h⟩
    · exact hs.elim

theorem resW_det {C : Cx} {all : Bool} : ∀ (rs : List ResultVar) (s : St), Det all (fun (K : List Value → Mem → Prop) σ => resW C rs s fun vs => K vs σ)
  | [], s => Det.ret []
  | .tmp t :: rs, s => (resW_det rs s).map fun vs => s.t t :: vs
  | .cell a t :: rs, s => by
    unfold resW
    split
    · rename_i k _
      cases gLoad (tSz C.P t) (tAgg C.P t) [s.t a] (s.l k) with
      | none => exact Det.no
      | some v => exact (resW_det rs s).map fun vs => v :: vs
    · exact Det.no

theorem FnW_good {C : Cx} (hC : C.good) (fn : Func) (c : Code) (cl : Cls) (hq : cl = .none → quietC C true c = true) (hr : cl = .read → quietC C false c = true) (hn : cl ≠ .new) :
    Good cl (FnW C fn c) := by
  have det : ∀ all, quietC C all c = true → ∀ args, Det all (FnW C fn c args) := by
    intro all hq args
    exact (Wp_det hC c hq ⟨fun i => args.getD i undef, fun _ => []⟩).bind (W' := fun x (K : Value → Mem → Prop) σ' => match x.1 with
      | .exit _ => False
      | .normal => resW C fn.results.toList x.2 fun vs => K (tupV vs) σ'
      | .ret => resW C fn.results.toList x.2 fun vs => K (tupV vs) σ') fun x => by
        obtain ⟨e, s'⟩ := x
        cases e with
        | normal => exact (resW_det fn.results.toList s').map tupV
        | exit i => exact Det.no
        | ret => exact (resW_det fn.results.toList s').map tupV
  constructor
  · intro args K K' σ h hs
    refine Wp_mono hC c (fun e s τ hq => ?_) _ _ hs
    cases e with
    | exit i => exact hq
    | normal => exact resW_mono (fun vs hk => h _ _ hk) hq
    | ret => exact resW_mono (fun vs hk => h _ _ hk) hq
  · intro args K σ hs
    obtain ⟨e, s, τ, hq⟩ := Wp_live hC c _ _ hs
    cases e with
    | exit i => exact hq.elim
    | normal => obtain ⟨vs, h⟩ := resW_live hq; exact ⟨_, _, h⟩
    | ret => obtain ⟨vs, h⟩ := resW_live hq; exact ⟨_, _, h⟩
  · intro h args; exact det true (hq h) args
  · intro h args; exact det false (hr h) args
  · intro h; exact absurd h hn

end Go.Fl
