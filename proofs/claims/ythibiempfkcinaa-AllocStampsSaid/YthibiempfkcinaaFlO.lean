/- The closed evaluator: code that runs on a store of its own, and that it tells what 'Wp' comes to in each store. No condition. -/
import Derived.Test.YthibiempfkcinaaFlN
namespace Go.Fl
open Go
set_option linter.unusedVariables false
set_option linter.unusedSimpArgs false

/-! ### Tries -/

inductive Tr (α : Type) where
  | e
  | n (v : Option α) (l r : Tr α)

def Tr.get {α : Type} : Tr α → Nat → Option α
  | .e, _ => none
  | .n v l r, i => bif Nat.beq i 0 then v else bif Nat.beq (Nat.mod i 2) 1 then l.get (Nat.div i 2) else r.get (Nat.sub (Nat.div i 2) 1)

def Tr.v {α : Type} : Tr α → Option α
  | .e => none
  | .n v _ _ => v
def Tr.l {α : Type} : Tr α → Tr α
  | .e => .e
  | .n _ l _ => l
def Tr.r {α : Type} : Tr α → Tr α
  | .e => .e
  | .n _ _ r => r

def Tr.setF {α : Type} : Nat → Tr α → Nat → Option α → Tr α
  | 0, t, _, _ => t
  | d + 1, t, i, x => bif Nat.beq i 0 then .n x t.l t.r else bif Nat.beq (Nat.mod i 2) 1 then .n t.v (Tr.setF d t.l (Nat.div i 2) x) t.r
    else .n t.v t.l (Tr.setF d t.r (Nat.sub (Nat.div i 2) 1) x)

def Tr.set {α : Type} (t : Tr α) (i : Nat) (x : Option α) : Tr α := Tr.setF (Nat.succ i) t i x

theorem Tr.get_eta {α : Type} (t : Tr α) (j : Nat) : t.get j = bif Nat.beq j 0 then t.v else bif Nat.beq (Nat.mod j 2) 1 then t.l.get (Nat.div j 2) else t.r.get (Nat.sub (Nat.div j 2) 1) := by
  cases t with
  | e => simp only [Tr.get, Tr.v, Tr.l, Tr.r]; cases Nat.beq j 0 <;> cases Nat.beq (Nat.mod j 2) 1 <;> rfl
  | n v l r => rfl

theorem Tr.get_setF {α : Type} : ∀ (d : Nat) (t : Tr α) (i j : Nat) (x : Option α), i < d → (Tr.setF d t i x).get j = if j = i then x else t.get j
  | 0, _, _, _, _, h => by omega
  | d + 1, t, i, j, x, h => by
    rw [Tr.get_eta t j]
    unfold Tr.setF
    have dv : ∀ a : Nat, Nat.div a 2 = a / 2 := fun _ => rfl
    have md : ∀ a : Nat, Nat.mod a 2 = a % 2 := fun _ => rfl
    have sb : ∀ a : Nat, Nat.sub a 1 = a - 1 := fun _ => rfl
    have bq : ∀ a b : Nat, Nat.beq a b = decide (a = b) := fun a b => by
      by_cases e : a = b
      · simp [e, Nat.beq_refl]
      · have : Nat.beq a b = false := by cases q : Nat.beq a b; rfl; exact absurd (Nat.eq_of_beq_eq_true q) e
        simp [this, e]
    simp only [dv, md, sb, bq]
    by_cases h0 : i = 0
    · subst h0
      simp only [decide_true, cond_true, Tr.get, bq, dv, md, sb]
      by_cases hj : j = 0 <;> simp [hj]
    · simp only [h0, decide_false, cond_false]
      by_cases h1 : i % 2 = 1
      · simp only [h1, decide_true, cond_true, Tr.get, bq, dv, md, sb]
        by_cases hj : j = 0
        · simp [hj, Ne.symm h0]
        · simp only [hj, decide_false, cond_false]
          by_cases hj1 : j % 2 = 1
          · simp only [hj1, decide_true, cond_true]
            rw [Tr.get_setF d _ _ _ _ (by omega)]
            by_cases e : j = i
            · subst e; simp
            · rw [if_neg e, if_neg (by omega)]
          · simp only [hj1, decide_false, cond_false]
            rw [if_neg (by intro e; subst e; exact hj1 h1)]
      · simp only [h1, decide_false, cond_false, Tr.get, bq, dv, md, sb]
        by_cases hj : j = 0
        · simp [hj, Ne.symm h0]
        · simp only [hj, decide_false, cond_false]
          by_cases hj1 : j % 2 = 1
          · simp only [hj1, decide_true, cond_true]
            rw [if_neg (by intro e; subst e; exact h1 hj1)]
          · simp only [hj1, decide_false, cond_false]
            rw [Tr.get_setF d _ _ _ _ (by omega)]
            by_cases e : j = i
            · subst e; simp
            · rw [if_neg e, if_neg (by omega)]

theorem Tr.get_set {α : Type} (t : Tr α) (i j : Nat) (x : Option α) : (t.set i x).get j = if j = i then x else t.get j := Tr.get_setF _ _ _ _ _ (Nat.lt_succ_self i)

/-- The same, by the recursor itself. -/
noncomputable def Tr.getR {α : Type} (t : Tr α) : Nat → Option α :=
  Tr.rec (motive := fun _ => Nat → Option α) (fun _ => none) (fun v _ _ gl gr i => Bool.rec (Bool.rec (gr (Nat.sub (Nat.div i 2) 1)) (gl (Nat.div i 2)) (Nat.beq (Nat.mod i 2) 1)) v (Nat.beq i 0)) t

theorem Tr.getR_eq {α : Type} (t : Tr α) : ∀ i, t.getR i = t.get i := by
  induction t with
  | e => intro i; rfl
  | n v l r ihl ihr =>
    intro i
    show Bool.rec (motive := fun _ => Option α) (Bool.rec (motive := fun _ => Option α) (Tr.getR r (Nat.sub (Nat.div i 2) 1)) (Tr.getR l (Nat.div i 2)) (Nat.beq (Nat.mod i 2) 1)) v (Nat.beq i 0) = _
    rw [ihl, ihr]
    have e : (Tr.n v l r).get i = bif Nat.beq i 0 then v else bif Nat.beq (Nat.mod i 2) 1 then l.get (Nat.div i 2) else r.get (Nat.sub (Nat.div i 2) 1) := rfl
    rw [e]
    cases Nat.beq i 0 <;> cases Nat.beq (Nat.mod i 2) 1 <;> rfl

/-! ### What runs -/

/-- A frame: what stands in a slot of which nothing is written, the slots, the local blocks. -/
structure En where
  d : Value
  t : Tr Value
  l : Tr (List Value)

def En.get (e : En) (i : Nat) : Value := match e.t.get i with
  | some v => v
  | none => e.d
def En.getL (e : En) (i : Nat) : List Value := match e.l.get i with
  | some v => v
  | none => []
def En.put (e : En) (d : Option Nat) (v : Value) : En := match d with
  | some d => ⟨e.d, e.t.set d (some v), e.l⟩
  | none => e
def En.setL (e : En) (k : Nat) (c : List Value) : En := ⟨e.d, e.t, e.l.set k (some c)⟩

/-- A store: blocks, and the next one's number. -/
structure Mx where
  t : Tr (List Value)
  n : Nat

abbrev EvF := List Value → Mx → (Value → Mx → Bool) → Bool

inductive XM where
  | f (g : List Value → Option Value)
  | band (q : EqK)
  | ifc (t : TypeId)
  | lr (k sz : Nat) (ag : Bool)
  | ls (k sz : Nat)
  | la (k : Nat) (z : List Value)
  | lb (k sz : Nat)
  | lB (k es len : Nat) (z : List Value) (idx : List Nat)
  | load (sz : Nat) (ag : Bool)
  | store (sz : Nat)
  | alloc (z : List Value)
  | box (sz : Nat)
  | bs (es len : Nat) (z : List Value) (idx : List Nat)
  | ms (es bytes : Nat) (z : List Value)
  | app (es bytes : Nat)
  | appL (k es bytes : Nat)
  | call (c : Cls) (S : Spec) (V : EvF)

def XM.sm : XM → Sm
  | .f g => .f g
  | .band q => .f (fBin .and q)
  | .ifc t => .f (fIface t)
  | .lr k sz ag => .lr k (gLoad sz ag)
  | .ls k sz => .lw k none (gStore sz)
  | .la k z => .lw k (some (locP k)) (gAlloc z)
  | .lb k sz => .lw k (some (locP k)) (gBox sz)
  | .lB k es len z idx => .lw k (some (locS k len es)) (gBuildS es len z idx)
  | .load sz ag => .h .read (hLoad sz ag)
  | .store sz => .h .write (hStore sz)
  | .alloc z => .h .new (hAlloc z)
  | .box sz => .h .new (hBox sz)
  | .bs es len z idx => .h .new (hBuildS es len z idx)
  | .ms es by' z => .h .new (hMakeS es by' z)
  | .app es by' => .h .write (hAppend es by')
  | .appL k es by' => .hl .write k (hAppendL es by')
  | .call c S _ => .h c S

structure XO (M : Type) where
  g : Option (Nat × Nat × Bool × Option Nat)
  dst : Option Nat
  xs : List Operand
  m : M

inductive XC (M : Type) where
  | skip
  | ret
  | exit (i : Nat)
  | seq (j : Option (List Nat × List Nat)) (a b : XC M)
  | cond (x : Operand) (a b : XC M)
  | block (i : Nat) (a : XC M)
  | scope (a : XC M)
  | loop (j : List Nat × List Nat) (a : XC M)
  | reg (l : List (XO M))

def XO.map {M N : Type} (f : M → N) (o : XO M) : XO N := ⟨o.g, o.dst, o.xs, f o.m⟩

def XC.map {M N : Type} (f : M → N) : XC M → XC N
  | .skip => .skip
  | .ret => .ret
  | .exit i => .exit i
  | .seq j a b => .seq j (a.map f) (b.map f)
  | .cond x a b => .cond x (a.map f) (b.map f)
  | .block i a => .block i (a.map f)
  | .scope a => .scope (a.map f)
  | .loop j a => .loop j (a.map f)
  | .reg l => .reg (l.map (XO.map f))

def keepOk (C : Cx) (j : List Nat × List Nat) : Bool := j.2.all (fun k => C.loc.lookup k == some k) && j.1.all fun t => (C.loc.lookup t).isNone && Nat.blt t C.n

def toO (C : Cx) (ops : Array Oper) (i : Nat) (o : Oper) : Option (XO Sm) :=
  match comp C o with
  | some (xs, m) => if (o.dst.all fun d => Nat.blt d C.n) = true then
      match o.guard with
      | none => some ⟨none, o.dst, xs, m⟩
      | some (j, w) => if (gOk C ops j && Nat.blt j i) = true then
          match ops[j]? with
          | some p => some ⟨some (i, j, w, p.dst), o.dst, xs, m⟩
          | none => none
        else none
    else none
  | none => none

def toOs (C : Cx) (ops : Array Oper) : Nat → List Oper → Option (List (XO Sm))
  | _, [] => some []
  | i, o :: rest => match toO C ops i o, toOs C ops (i + 1) rest with
    | some x, some l => some (x :: l)
    | _, _ => none

/-- A code's form for the evaluator. -/
def toC (C : Cx) : Code → Option (XC Sm)
  | .skip | .label _ => some .skip
  | .ret => some .ret
  | .exit i => some (.exit i)
  | .seq a b => match toC C a, toC C b with
    | some x, some y => match joinKey C a b with
      | some j => if keepOk C j = true then some (.seq (some j) x y) else none
      | none => some (.seq none x y)
    | _, _ => none
  | .cond c a b => match toC C a, toC C b with
    | some x, some y => if (C.isLoc c).isNone = true then some (.cond c x y) else none
    | _, _ => none
  | .block i a => match toC C a with
    | some x => some (.block i x)
    | none => none
  | .scope a => match toC C a with
    | some x => some (.scope x)
    | none => none
  | .loop a => match toC C a, C.keep.lookup (firstReg a) with
    | some x, some j => if keepOk C j = true then some (.loop j x) else none
    | _, _ => none
  | .region _ ops _ => match toOs C ops 0 ops.toList with
    | some l => some (.reg l)
    | none => none
  | _ => none

def evA (e : En) : Operand → Value
  | .tmp t => e.get t
  | .const v => bif constOk v then v else poison
  | _ => poison

/-! ### To work things out ahead -/

def fcN (m : Nat) (k : Nat → Bool) : Bool := match m with
  | 0 => k 0
  | m + 1 => k (Nat.succ m)
theorem fcN_eq {m : Nat} {k : Nat → Bool} : fcN m k = k m := by cases m <;> rfl

def fcI (n : Int) (k : Int → Bool) : Bool := match n with
  | .ofNat m => fcN m fun m => k (.ofNat m)
  | .negSucc m => fcN m fun m => k (.negSucc m)
theorem fcI_eq {n : Int} {k : Int → Bool} : fcI n k = k n := by cases n <;> simp only [fcI, fcN_eq]

noncomputable def fcL (l : List Value) : (List Value → Bool) → Bool :=
  List.rec (motive := fun _ => (List Value → Bool) → Bool) (fun k => k []) (fun x _ ih k => ih fun ys => k (x :: ys)) l
theorem fcL_eq : ∀ {l : List Value} {k : List Value → Bool}, fcL l k = k l
  | [], _ => rfl
  | x :: xs, k => by
    show fcL xs (fun ys => k (x :: ys)) = _
    rw [fcL_eq]

def fcA (a : Addr) (k : Addr → Bool) : Bool := match a with
  | ⟨b, o, none⟩ => fcN b fun b => fcN o fun o => k ⟨b, o, none⟩
  | ⟨b, o, some q⟩ => fcN b fun b => fcN o fun o => k ⟨b, o, some q⟩
theorem fcA_eq {a : Addr} {k : Addr → Bool} : fcA a k = k a := by
  obtain ⟨b, o, q⟩ := a
  cases q <;> simp only [fcA, fcN_eq]

noncomputable def fcV (v : Value) (k : Value → Bool) : Bool := match v with
  | .int q n => fcI n fun n => k (.int q n)
  | .bool b => (match b with
    | true => k (.bool true)
    | false => k (.bool false))
  | .pointer (some a) => fcA a fun a => k (.pointer (some a))
  | .slice (some a) n c => fcA a fun a => fcN n fun n => fcN c fun c => k (.slice (some a) n c)
  | .agg ⟨l⟩ => fcL l fun l => k (.agg ⟨l⟩)
  | .tuple ⟨l⟩ => fcL l fun l => k (.tuple ⟨l⟩)
  | v => k v
theorem fcV_eq {v : Value} {k : Value → Bool} : fcV v k = k v := by
  unfold fcV
  split
  · rw [fcI_eq]
  · rename_i b; cases b <;> rfl
  · rw [fcA_eq]
  · rw [fcA_eq, fcN_eq, fcN_eq]
  · rw [fcL_eq]
  · rw [fcL_eq]
  · rfl

noncomputable def setE {α : Type} (ih : Tr α → Nat → Option α → (Tr α → Bool) → Bool) (i : Nat) (x : Option α) (k : Tr α → Bool) : Bool :=
  Bool.rec (Bool.rec (fcN (Nat.sub (Nat.div i 2) 1) fun i => ih .e i x fun r => k (.n none .e r)) (fcN (Nat.div i 2) fun i => ih .e i x fun l => k (.n none l .e)) (Nat.beq (Nat.mod i 2) 1)) (k (.n x .e .e)) (Nat.beq i 0)
noncomputable def setN {α : Type} (ih : Tr α → Nat → Option α → (Tr α → Bool) → Bool) (v : Option α) (l r : Tr α) (i : Nat) (x : Option α) (k : Tr α → Bool) : Bool :=
  Bool.rec (Bool.rec (fcN (Nat.sub (Nat.div i 2) 1) fun i => ih r i x fun r => k (.n v l r)) (fcN (Nat.div i 2) fun i => ih l i x fun l => k (.n v l r)) (Nat.beq (Nat.mod i 2) 1)) (k (.n x l r)) (Nat.beq i 0)
noncomputable def Tr.setK {α : Type} (d : Nat) : Tr α → Nat → Option α → (Tr α → Bool) → Bool :=
  Nat.rec (motive := fun _ => Tr α → Nat → Option α → (Tr α → Bool) → Bool) (fun t _ _ k => k t)
    (fun _ ih t i x k => Tr.casesOn t (setE ih i x k) (fun v l r => setN ih v l r i x k)) d

theorem Tr.setK_eq {α : Type} : ∀ (d : Nat) (t : Tr α) (i : Nat) (x : Option α) (k : Tr α → Bool), Tr.setK d t i x k = k (Tr.setF d t i x)
  | 0, _, _, _, _ => rfl
  | d + 1, t, i, x, k => by
    cases t with
    | e =>
      show setE (Tr.setK d) i x k = _
      simp only [setE, Tr.setF, fcN_eq, Tr.setK_eq d, Tr.l, Tr.r, Tr.v]; cases Nat.beq i 0 <;> cases Nat.beq (Nat.mod i 2) 1 <;> rfl
    | n v l r =>
      show setN (Tr.setK d) v l r i x k = _
      simp only [setN, Tr.setF, fcN_eq, Tr.setK_eq d, Tr.l, Tr.r, Tr.v]; cases Nat.beq i 0 <;> cases Nat.beq (Nat.mod i 2) 1 <;> rfl

/-- A value laid into a slot (that is worked out already). -/
noncomputable def ptN (e : En) (d : Option Nat) (v : Value) (k : En → Bool) : Bool :=
  Option.rec (k e) (fun d => Tr.setK (Nat.succ d) e.t d (some v) fun t => k ⟨e.d, t, e.l⟩) d
theorem ptN_eq {e : En} {d : Option Nat} {v : Value} {k : En → Bool} : ptN e d v k = k (e.put d v) := by
  cases d with
  | none => rfl
  | some d =>
    show Tr.setK (Nat.succ d) e.t d (some v) (fun t => k ⟨e.d, t, e.l⟩) = _
    rw [Tr.setK_eq]; rfl

/-- A value laid into a slot. -/
noncomputable def pt (e : En) (d : Option Nat) (v : Value) (k : En → Bool) : Bool := fcV v fun v => ptN e d v k
theorem pt_eq {e : En} {d : Option Nat} {v : Value} {k : En → Bool} : pt e d v k = k (e.put d v) := by
  rw [pt, fcV_eq, ptN_eq]

noncomputable def ptL (e : En) (b : Nat) (c : List Value) (k : En → Bool) : Bool := fcL c fun c => Tr.setK (Nat.succ b) e.l b (some c) fun l => k ⟨e.d, e.t, l⟩
theorem ptL_eq {e : En} {b : Nat} {c : List Value} {k : En → Bool} : ptL e b c k = k (e.setL b c) := by
  simp only [ptL, fcL_eq, Tr.setK_eq]; rfl

noncomputable def stX (μ : Mx) (b : Nat) (c : List Value) (k : Mx → Bool) : Bool := fcL c fun c => Tr.setK (Nat.succ b) μ.t b (some c) fun t => k ⟨t, μ.n⟩
theorem stX_eq {μ : Mx} {b : Nat} {c : List Value} {k : Mx → Bool} : stX μ b c k = k ⟨μ.t.set b (some c), μ.n⟩ := by
  simp only [stX, fcL_eq, Tr.setK_eq]; rfl

noncomputable def getK (e : En) (t : Nat) (k : Value → Bool) : Bool := Option.rec (k e.d) (fun v => k v) (e.t.getR t)
theorem getK_eq {e : En} {t : Nat} {k : Value → Bool} : getK e t k = k (e.get t) := by
  unfold getK En.get
  rw [Tr.getR_eq]
  cases e.t.get t <;> rfl

noncomputable def evX (e : En) (x : Operand) (k : Value → Bool) : Bool :=
  Operand.casesOn x (fun t => getK e t k) (fun v => Bool.rec (k poison) (k v) (constOk v)) (fun _ => k poison) (fun _ => k poison)
theorem evX_eq {e : En} {x : Operand} {k : Value → Bool} : evX e x k = k (evA e x) := by
  cases x with
  | tmp t => exact getK_eq
  | const v => show Bool.rec (k poison) (k v) (constOk v) = k (bif constOk v then v else poison); cases constOk v <;> rfl
  | _ => rfl

noncomputable def evAs (e : En) (xs : List Operand) : (List Value → Bool) → Bool :=
  List.rec (motive := fun _ => (List Value → Bool) → Bool) (fun k => k []) (fun x _ ih k => evX e x fun v => ih fun vs => k (v :: vs)) xs
theorem evAs_eq {e : En} : ∀ {xs : List Operand} {k : List Value → Bool}, evAs e xs k = k (xs.map (evA e))
  | [], _ => rfl
  | x :: xs, k => by
    show evX e x (fun v => evAs e xs fun vs => k (v :: vs)) = _
    rw [evX_eq, evAs_eq]
    rfl

def lkD (j : Nat) : List (Nat × Option Bool) → Option (Option Bool)
  | [] => none
  | (i, b) :: l => bif Nat.beq j i then some b else lkD j l
theorem lkD_eq {j : Nat} : ∀ {l : List (Nat × Option Bool)}, lkD j l = l.lookup j
  | [] => rfl
  | (i, b) :: l => by
    simp only [lkD, List.lookup_cons, lkD_eq]
    by_cases e : j = i
    · subst e; simp [Nat.beq_refl]
    · have h1 : Nat.beq j i = false := by cases q : Nat.beq j i; rfl; exact absurd (Nat.eq_of_beq_eq_true q) e
      have h2 : (j == i) = false := by simpa using e
      rw [h1, h2]; rfl

/-! ### Numbers, fast -/

def wrapF (k : IntKind) (n : Int) : Int := match k, n with
  | .i64, .ofNat m => bif Nat.ble 9223372036854775808 m then IntKind.wrap .i64 (.ofNat m) else .ofNat m
  | .u64, .ofNat m => .ofNat (Nat.mod m 18446744073709551616)
  | k, n => k.wrap n

theorem wrap_i64 {n : Int} (h1 : -9223372036854775808 ≤ n) (h2 : n < 9223372036854775808) : IntKind.wrap .i64 n = n := by
  unfold IntKind.wrap
  have a : ((2 : Int) ^ IntKind.i64.bits) = 18446744073709551616 := by decide +kernel
  have b : ((2 : Int) ^ (IntKind.i64.bits - 1)) = 9223372036854775808 := by decide +kernel
  simp only [a, b, IntKind.signed, Bool.true_and, decide_eq_true_eq]
  split <;> omega

theorem wrap_u64 (n : Int) : IntKind.wrap .u64 n = n % 18446744073709551616 := by
  unfold IntKind.wrap
  have a : ((2 : Int) ^ IntKind.u64.bits) = 18446744073709551616 := by decide +kernel
  simp only [a, IntKind.signed, Bool.false_and, Bool.false_eq_true, if_false]

theorem ble_false {a b : Nat} (h : Nat.ble a b = false) : b < a := by
  rcases Nat.lt_or_ge b a with q | q
  · exact q
  · have := Nat.ble_eq_true_of_le q; rw [h] at this; cases this

theorem wF1 (m B : Nat) (hB : B = 9223372036854775808) : (bif Nat.ble B m then IntKind.wrap .i64 (.ofNat m) else .ofNat m) = IntKind.wrap .i64 (.ofNat m) := by
  cases h : Nat.ble B m
  · have := ble_false h
    simp only [cond_false, Int.ofNat_eq_natCast]
    rw [wrap_i64] <;> omega
  · simp only [cond_true]

theorem wF3 (m B : Nat) (hB : B = 18446744073709551616) : Int.ofNat (Nat.mod m B) = IntKind.wrap .u64 (.ofNat m) := by
  rw [wrap_u64, Int.ofNat_eq_natCast, Int.ofNat_eq_natCast]
  have : ((m % B : Nat) : Int) = (m : Int) % (B : Int) := Int.natCast_emod m B
  show ((m % B : Nat) : Int) = _
  rw [this, hB]
  rfl

theorem wrapF_eq (k : IntKind) (n : Int) : wrapF k n = k.wrap n := by
  cases k with
  | i64 =>
    cases n with
    | ofNat m => exact wF1 m _ rfl
    | negSucc m => rfl
  | u64 =>
    cases n with
    | ofNat m => exact wF3 m _ rfl
    | negSucc m => rfl
  | _ => cases n <;> rfl

def freshE (loc : List (Nat × Nat)) (k : Nat) (e : En) : Bool := loc.all fun (t, k') => !(k' == k) || isUndef (e.get t)

noncomputable def newX (c : List Value) (v : Nat → Value) (μ : Mx) (k : Value → Mx → Bool) : Bool := fcN μ.n fun n => stX μ n c fun μ' => match μ' with
  | ⟨t, _⟩ => fcN (Nat.succ n) fun n' => k (v n) ⟨t, n'⟩

theorem newX_eq {c : List Value} {v : Nat → Value} {μ : Mx} {k : Value → Mx → Bool} : newX c v μ k = k (v μ.n) ⟨μ.t.set μ.n (some c), Nat.succ μ.n⟩ := by
  simp only [newX, fcN_eq, stX_eq]

def srcX (μ : Mx) (es : Nat) : Value → Option (List Value)
  | .slice none 0 0 => some []
  | .slice (some ⟨b, o, none⟩) n _ => match μ.t.get b with
    | some cells => if o + n * es ≤ cells.length then some ((cells.drop o).take (n * es)) else none
    | none => none
  | _ => none

noncomputable def appX (es n : Nat) (new : List Value) (s : Value) (μ : Mx) (k : Value → Mx → Bool) : Bool :=
  match s with
  | .slice none 0 0 => if n = 0 then k (.slice none 0 0) μ else if n ≤ 1073741824 then newX new (fun id => .slice (some ⟨id, 0, none⟩) n es) μ k else false
  | .slice (some ⟨b, o, none⟩) len c => match μ.t.get b with
    | some cells => if c = es ∧ 0 < es ∧ o + len * es = cells.length ∧ len + n ≤ 1073741824 then
        newX (cells.drop o ++ new) (fun id => .slice (some ⟨id, 0, none⟩) (len + n) es) ⟨μ.t.set b none, μ.n⟩ k else false
    | none => false
  | _ => false

def tokAnd : List Value → Option Value
  | [.iface 0 (.tuple cs), .int k m'] => match cs.toList with
    | [.int k1 m, .int k2 n] => if k1 = k ∧ k2 = k ∧ m = m' then some (.int k n) else none
    | _ => none
  | _ => none

/-- An operation's run. -/
noncomputable def evM (loc : List (Nat × Nat)) (m : XM) (d : Option Nat) (args : List Value) (e : En) (μ : Mx) (k : En → Mx → Bool) : Bool :=
  match m with
  | .f g => match g args with
    | some v => pt e d v fun e => k e μ
    | none => false
  | .band q => match fBin .and q args with
    | some v => pt e d v fun e => k e μ
    | none => match tokAnd args with
      | some v => pt e d v fun e => k e μ
      | none => false
  | .ifc t => match args with
    | [x] => if isUndef x then false else pt e d (.iface t x) fun e => k e μ
    | _ => false
  | .lr b sz ag => match gLoad sz ag args (e.getL b) with
    | some v => pt e d v fun e => k e μ
    | none => false
  | .ls b sz => match gStore sz args (e.getL b) with
    | some c => ptL e b c fun e => pt e d undef fun e => k e μ
    | none => false
  | .la b z => if z.all constOk && freshE loc b e then (match gAlloc z args (e.getL b) with
    | some c => ptL e b c fun e => pt e d (locP b) fun e => k e μ
    | none => false) else false
  | .lb b sz => if freshE loc b e then (match gBox sz args (e.getL b) with
    | some c => ptL e b c fun e => pt e d (locP b) fun e => k e μ
    | none => false) else false
  | .lB b es len z idx => if z.all constOk && freshE loc b e then (match gBuildS es len z idx args (e.getL b) with
    | some c => ptL e b c fun e => pt e d (locS b len es) fun e => k e μ
    | none => false) else false
  | .load sz ag => match args with
    | [.pointer (some ⟨b, o, none⟩)] => match μ.t.get b with
      | some cells => match sub cells o sz ag with
        | some v => pt e d v fun e => k e μ
        | none => false
      | none => false
    | _ => false
  | .store sz => match args with
    | [.pointer (some ⟨b, o, none⟩), x] => match μ.t.get b, cellsOf x sz with
      | some cells, some c => if o + sz ≤ cells.length ∧ c.all oneB = true then pt e d undef fun e => stX μ b (lay cells o c) fun μ => k e μ else false
      | _, _ => false
    | _ => false
  | .alloc z => match args with
    | [] => if z.all constOk then newX z (fun id => .pointer (some ⟨id, 0, none⟩)) μ fun v μ => pt e d v fun e => k e μ else false
    | _ => false
  | .box sz => match args with
    | [x] => match cellsOf x sz with
      | some c => newX c (fun id => .pointer (some ⟨id, 0, none⟩)) μ fun v μ => pt e d v fun e => k e μ
      | none => false
    | _ => false
  | .bs es len z idx => if z.all constOk then (match fillL (fun i => some (i * es, es)) (List.replicate len z).flatten idx args with
      | some c => newX c (fun id => .slice (some ⟨id, 0, none⟩) len es) μ fun v μ => pt e d v fun e => k e μ
      | none => false) else false
  | .ms es by' z => match args with
    | [.int .i64 n, .int .i64 m] => if (n = m ∧ 0 ≤ n ∧ n ≤ 1073741824 ∧ by' ≤ 1024) ∧ z.all constOk = true then
        newX (List.replicate n.toNat z).flatten (fun id => .slice (some ⟨id, 0, none⟩) n.toNat es) μ fun v μ => pt e d v fun e => k e μ else false
    | _ => false
  | .app es by' => match args with
    | [s, x] => match srcX μ es x with
      | some new => if by' ≤ 1024 ∧ new.all oneB = true then appX es (lenS x) new s μ fun v μ => pt e d v fun e => k e μ else false
      | none => false
    | _ => false
  | .appL b es by' => match args with
    | [s, .slice (some ⟨_, 0, some 0⟩) n _] => if by' ≤ 1024 ∧ (e.getL b).length = n * es ∧ (e.getL b).all oneB = true then appX es n (e.getL b) s μ fun v μ => pt e d v fun e => k e μ else false
    | _ => false
  | .call _ _ V => V args μ fun v μ => pt e d v fun e => k e μ

abbrev Run := Option Nat → List Value → En → Mx → (En → Mx → Bool) → Bool

/-- An operation, and its run. -/
structure XN where
  m : XM
  r : Run

noncomputable def evOp (o : XO XN) (e : En) (μ : Mx) (k : En → Mx → Bool) : Bool := evAs e o.xs fun args => o.m.r o.dst args e μ k

noncomputable def evIf (v : Value) (A B : Bool) : Bool := match v with
  | .bool b => Bool.rec B A b
  | _ => false

noncomputable def gvE (e : En) : Option Nat → Value
  | some d => e.get d
  | none => undef

abbrev OpsF := List (Nat × Option Bool) → En → Mx → Bool

/-- An operation that is left out. -/
noncomputable def gSkip (o : XO XN) (i : Nat) (ih : OpsF) (dec : List (Nat × Option Bool)) (e : En) (μ : Mx) : Bool := ptN e o.dst undef fun e => ih ((i, none) :: dec) e μ
noncomputable def gDo (o : XO XN) (ih : OpsF) (dec : List (Nat × Option Bool)) (e : En) (μ : Mx) : Bool := evOp o e μ fun e μ => ih dec e μ
/-- An operation whose guard is not yet decided. -/
noncomputable def gTry (o : XO XN) (i j : Nat) (w : Bool) (d : Option Nat) (ih : OpsF) (dec : List (Nat × Option Bool)) (e : En) (μ : Mx) : Bool :=
  evIf (gvE e d)
    (Bool.rec (ptN e d (.bool true) fun e => gSkip o i ih ((j, some true) :: dec) e μ) (ptN e d (.bool true) fun e => gDo o ih ((j, some true) :: dec) e μ) w)
    (Bool.rec (ptN e d (.bool false) fun e => gDo o ih ((j, some false) :: dec) e μ) (ptN e d (.bool false) fun e => gSkip o i ih ((j, some false) :: dec) e μ) w)
noncomputable def gAsk (o : XO XN) (i j : Nat) (w : Bool) (d : Option Nat) (ih : OpsF) (dec : List (Nat × Option Bool)) (e : En) (μ : Mx) : Bool :=
  Option.rec (gTry o i j w d ih dec e μ) (fun b => Option.rec (gSkip o i ih dec e μ) (fun b => Bool.rec (gSkip o i ih dec e μ) (gDo o ih dec e μ) (b == w)) b) (lkD j dec)

noncomputable def evOps (k : En → Mx → Bool) (l : List (XO XN)) : OpsF :=
  List.rec (motive := fun _ => OpsF) (fun _ e μ => k e μ)
    (fun o _ ih dec e μ => Option.rec (gDo o ih dec e μ) (fun q => gAsk o q.1 q.2.1 q.2.2.1 q.2.2.2 ih dec e μ) o.g) l

noncomputable def mkE (kt kl : List Nat) (e : En) : En :=
  ⟨poison, kl.foldr (fun k t => t.set k (some (locP k))) (kt.foldr (fun i t => t.set i (some (e.get i))) .e), kl.foldr (fun k t => t.set k (some (e.getL k))) .e⟩

/-- The same, worked out. -/
noncomputable def mkT (e : En) (kt : List Nat) : (Tr Value → Bool) → Bool :=
  List.rec (motive := fun _ => (Tr Value → Bool) → Bool) (fun k => k .e) (fun i _ ih k => ih fun t => getK e i fun v => Tr.setK (Nat.succ i) t i (some v) k) kt
noncomputable def mkP (kl : List Nat) (t : Tr Value) : (Tr Value → Bool) → Bool :=
  List.rec (motive := fun _ => (Tr Value → Bool) → Bool) (fun k => k t) (fun i _ ih k => ih fun t => Tr.setK (Nat.succ i) t i (some (locP i)) k) kl
noncomputable def mkL (e : En) (kl : List Nat) : (Tr (List Value) → Bool) → Bool :=
  List.rec (motive := fun _ => (Tr (List Value) → Bool) → Bool) (fun k => k .e) (fun i _ ih k => ih fun t => fcL (e.getL i) fun c => Tr.setK (Nat.succ i) t i (some c) k) kl
noncomputable def mkK (kt kl : List Nat) (e : En) (k : En → Bool) : Bool := mkT e kt fun t => mkP kl t fun t => mkL e kl fun l => k ⟨poison, t, l⟩

theorem mkT_eq {e : En} : ∀ {kt : List Nat} {k : Tr Value → Bool}, mkT e kt k = k (kt.foldr (fun i t => t.set i (some (e.get i))) .e)
  | [], _ => rfl
  | i :: kt, k => by
    show mkT e kt (fun t => getK e i fun v => Tr.setK (Nat.succ i) t i (some v) k) = _
    rw [mkT_eq, getK_eq, Tr.setK_eq]; rfl
theorem mkP_eq {t : Tr Value} : ∀ {kl : List Nat} {k : Tr Value → Bool}, mkP kl t k = k (kl.foldr (fun k t => t.set k (some (locP k))) t)
  | [], _ => rfl
  | i :: kl, k => by
    show mkP kl t (fun t => Tr.setK (Nat.succ i) t i (some (locP i)) k) = _
    rw [mkP_eq, Tr.setK_eq]; rfl
theorem mkL_eq {e : En} : ∀ {kl : List Nat} {k : Tr (List Value) → Bool}, mkL e kl k = k (kl.foldr (fun k t => t.set k (some (e.getL k))) .e)
  | [], _ => rfl
  | i :: kl, k => by
    show mkL e kl (fun t => fcL (e.getL i) fun c => Tr.setK (Nat.succ i) t i (some c) k) = _
    rw [mkL_eq, fcL_eq, Tr.setK_eq]; rfl
theorem mkK_eq {kt kl : List Nat} {e : En} {k : En → Bool} : mkK kt kl e k = k (mkE kt kl e) := by
  rw [mkK, mkT_eq, mkP_eq, mkL_eq]; rfl

noncomputable def backE (kt kl : List Nat) (e : En) (k : En → Bool) : Bool := Bool.rec false (mkK kt kl e k) (kl.all fun k => isLocP k (e.get k))

noncomputable def evLoop (F : (En → Mx → Bool) → En → Mx → Bool) (n : Nat) : En → Mx → Bool :=
  Nat.rec (motive := fun _ => En → Mx → Bool) (fun _ _ => false) (fun _ ih e μ => F ih e μ) n

abbrev KF := Ex → En → Mx → Bool

noncomputable def kSeq (B : En → Mx → Bool) (k : KF) : KF := fun x e μ => Ex.rec (B e μ) (fun i => k (.exit i) e μ) (k .ret e μ) x
noncomputable def kBlock (id : Nat) (k : KF) : KF := fun x e μ => Ex.rec (k .normal e μ) (fun i => Bool.rec (k (.exit i) e μ) (k .normal e μ) (Nat.beq i id)) (k .ret e μ) x
noncomputable def kJoin (j : Option (List Nat × List Nat)) (B : En → Mx → Bool) : En → Mx → Bool := fun e μ => Option.rec (B e μ) (fun q => backE q.1 q.2 e fun e => B e μ) j
noncomputable def kLoop (q : List Nat × List Nat) (ih : KF → En → Mx → Bool) (k : KF) : En → Mx → Bool := fun e μ =>
  backE q.1 q.2 e fun e => evLoop (fun R e μ => ih (kSeq (fun e μ => backE q.1 q.2 e fun e => R e μ) k) e μ) 1000000 e μ

noncomputable def ev (x : XC XN) : KF → En → Mx → Bool :=
  XC.rec (motive := fun _ => KF → En → Mx → Bool)
    (fun k e μ => k .normal e μ)
    (fun k e μ => k .ret e μ)
    (fun i k e μ => k (.exit i) e μ)
    (fun j _ _ iha ihb k e μ => iha (kSeq (kJoin j fun e μ => ihb k e μ) k) e μ)
    (fun c _ _ iha ihb k e μ => evX e c fun v => evIf v (iha k e μ) (ihb k e μ))
    (fun id _ ih k e μ => ih (kBlock id k) e μ)
    (fun _ ih k e μ => ih k e μ)
    (fun q _ ih k e μ => kLoop q ih k e μ)
    (fun l k e μ => evOps (fun e μ => k .normal e μ) l [] e μ) x

end Go.Fl
