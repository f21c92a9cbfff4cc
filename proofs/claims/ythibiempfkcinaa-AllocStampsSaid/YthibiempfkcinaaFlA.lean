/- The evaluator: a deterministic reading of the model's code over an abstract store; its definitions. No condition. -/
import Derived.WalkKit
import Derived.Orders
import Derived.Below
import Derived.Scope
namespace Go.Fl
open Go
set_option linter.unusedVariables false
set_option linter.unusedSimpArgs false

/-- A block of the abstract store: its cells, may it be written. -/
structure Blk where
  cells : List Value
  rw : Bool

/-- The abstract store. -/
structure Mem where
  get : Nat → Option Blk
  fin : ∃ N, ∀ i, N ≤ i → get i = none

theorem Mem.ext' {σ τ : Mem} (h : σ.get = τ.get) : σ = τ := by cases σ; cases τ; cases h; rfl

def Mem.set (σ : Mem) (i : Nat) (b : Blk) : Mem :=
  ⟨fun j => if j = i then some b else σ.get j, by
    obtain ⟨N, hN⟩ := σ.fin
    exact ⟨N + i + 1, fun j hj => by rw [if_neg (by omega)]; exact hN j (by omega)⟩⟩

def Mem.del (σ : Mem) (i : Nat) : Mem :=
  ⟨fun j => if j = i then none else σ.get j, by
    obtain ⟨N, hN⟩ := σ.fin
    exact ⟨N, fun j hj => by split; rfl; exact hN j hj⟩⟩

/-- A value of which nothing is known. -/
def poison : Value := .tuple #[.nilFunc]

/-- Where a block of the abstract store lies in the world: block, shift, room. -/
structure RE where
  blk : Nat
  sh : Nat
  cap : Nat

abbrev Ren := Nat → Option RE

/-- A value of the abstract store and what it is in the world. (A slice of the abstract store bears, in the place of its capacity, the cells of one element.) -/
inductive V (ρ : Ren) : Value → Value → Prop
  | poi (v' : Value) : V ρ (.tuple #[.nilFunc]) v'
  | bool (b : Bool) : V ρ (.bool b) (.bool b)
  | int (k : IntKind) (n : Int) : V ρ (.int k n) (.int k n)
  | str (s : ByteArray) : V ρ (.string s) (.string s)
  | nilP : V ρ (.pointer none) (.pointer none)
  | ptr {b o : Nat} {e : RE} (h : ρ b = some e) : V ρ (.pointer (some ⟨b, o, none⟩)) (.pointer (some ⟨e.blk, e.sh + o, none⟩))
  | nilS : V ρ (.slice none 0 0) (.slice none 0 0)
  | sl {b o n c c' : Nat} {e : RE} (h : ρ b = some e) (hl : n ≤ c') (hc : o + c' * c ≤ e.cap) :
      V ρ (.slice (some ⟨b, o, none⟩) n c) (.slice (some ⟨e.blk, e.sh + o, none⟩) n c')
  | slE {b o c : Nat} {a' : Addr} : V ρ (.slice (some ⟨b, o, none⟩) 0 c) (.slice (some a') 0 0)
  | agg {cs cs' : Array Value} (h : cs.size = cs'.size) (hv : ∀ (i : Nat) (v v' : Value), cs[i]? = some v → cs'[i]? = some v' → V ρ v v') : V ρ (.agg cs) (.agg cs')
  | tup {cs cs' : Array Value} (h : cs.size = cs'.size) (hv : ∀ (i : Nat) (v v' : Value), cs[i]? = some v → cs'[i]? = some v' → V ρ v v') : V ρ (.tuple cs) (.tuple cs')
  | nilI : V ρ .nilIface .nilIface
  | iface (t : TypeId) {v v' : Value} (h : V ρ v v') : V ρ (.iface t v) (.iface t v')
  | nilF : V ρ .nilFunc .nilFunc

/-- The effect of an operation on the store: none, it reads it, it makes one block (of things that hang on its operands alone), it may write it. -/
inductive Cls where
  | none | read | new | write
  deriving DecidableEq

abbrev Spec := List Value → (Value → Mem → Prop) → Mem → Prop

/-! ### Values -/

def fMove : List Value → Option Value
  | [x] => some x
  | _ => none

def fPick : List Value → Option Value
  | [.bool true, a, _] => some a
  | [.bool false, _, b] => some b
  | _ => none

def fNil : List Value → Option Value
  | [.pointer (some a)] => some (.pointer (some a))
  | _ => none

/-- An address some cells further. -/
def adv (a : Addr) (n : Nat) : Addr := ⟨a.block, a.off + n, a.spot⟩

def fFld (off : Nat) : List Value → Option Value
  | [.pointer (some a)] => some (.pointer (some (adv a off)))
  | _ => none

def sub (cs : List Value) (off sz : Nat) (ag : Bool) : Option Value :=
  if off + sz ≤ cs.length then (if ag then some (.agg ((cs.drop off).take sz).toArray) else cs[off]?) else none

def fFldV (off sz : Nat) (ag : Bool) : List Value → Option Value
  | [.agg cs] => sub cs.toList off sz ag
  | _ => none

def fIxS (es : Nat) : List Value → Option Value
  | [.slice (some a) n _, .int _ i] => if 0 ≤ i ∧ i < (n : Int) then some (.pointer (some (adv a (i.toNat * es)))) else none
  | _ => none

def fIxA (n es : Nat) : List Value → Option Value
  | [.pointer (some a), .int _ i] => if 0 ≤ i ∧ i < (n : Int) then some (.pointer (some (adv a (i.toNat * es)))) else none
  | _ => none

def fIxV (n es : Nat) (ag : Bool) : List Value → Option Value
  | [.agg cs, .int _ i] => if 0 ≤ i ∧ i < (n : Int) then sub cs.toList (i.toNat * es) es ag else none
  | _ => none

def fExt (ix : Nat) : List Value → Option Value
  | [.tuple vs] => if vs.size = 1 then none else vs.toList[ix]?
  | _ => none

def constOk : Value → Bool
  | .bool _ | .int _ _ | .string _ | .pointer none | .slice none 0 0 | .nilIface | .nilFunc => true
  | _ => false

def tSz (P : Program) (t : TypeId) : Nat := P.cellsOf t
def tAgg (P : Program) (t : TypeId) : Bool :=
  match P.underlying t with
  | some (.struct _) | some (.array _ _) => true
  | _ => false
def tKnown (P : Program) (t : TypeId) : Bool := (P.underlying t).isSome && (P.info? t).isSome
def tZero (P : Program) (t : TypeId) : Option (List Value) :=
  match P.info? t with
  | some i => match i.zero with
    | some (.agg cs) => if cs.toList.all constOk && i.size == cs.size then some cs.toList else none
    | some v => if constOk v && i.size == 1 then some [v] else none
    | none => none
  | none => none

def eqCell : Bool → Value → Value → Option Bool
  | true, .int k a, .int k' b => if k = k' then some (a == b) else none
  | false, .bool a, .bool b => some (a == b)
  | _, _, _ => none

def eqCells : List Bool → List Value → List Value → Option Bool
  | [], [], [] => some true
  | q :: qs, x :: xs, y :: ys => match eqCell q x y, eqCells qs xs ys with
    | some a, some b => some (a && b)
    | _, _ => none
  | _, _, _ => none

/-- Kinds of types that are held against each other: bools, pointers, structs of numbers (true) and bools. -/
inductive EqK where
  | bool | ptr | flat (ks : List Bool) | no

def eqV : EqK → Value → Value → Option Bool
  | .bool, .bool a, .bool b => some (a == b)
  | .ptr, .pointer none, .pointer b => some b.isNone
  | .ptr, .pointer (some _), .pointer none => some false
  | .flat ks, .agg xs, .agg ys => eqCells ks xs.toList ys.toList
  | _, _, _ => none

def flatFs (P : Program) : List Field → Nat → List Bool → Bool
  | [], _, [] => true
  | f :: fs, i, q :: qs => !(f.name == "_") && f.offset == i && tKnown P f.type && (match P.underlying f.type with
    | some (.int _) => q
    | some .bool => !q
    | _ => false) && flatFs P fs (i + 1) qs
  | _, _, _ => false

def eqOk (P : Program) (x : Nat × EqK) : Bool :=
  match x.2, P.underlying x.1 with
  | .bool, some .bool => true
  | .ptr, some (.pointer _) => true
  | .flat ks, some (.struct fs) => !(P.stoodInHeld x.1) && !(P.eqGuardType P.depth x.1) && flatFs P fs.toList 0 ks
  | .no, _ => true
  | _, _ => false

def binI (op : BinOp) (k : IntKind) (a b : Int) : Option Value :=
  match op with
  | .add => some (.int k (k.wrap (a + b)))
  | .sub => some (.int k (k.wrap (a - b)))
  | .mul => some (.int k (k.wrap (a * b)))
  | .quo => if b = 0 then none else some (.int k (k.wrap (a.tdiv b)))
  | .rem => if b = 0 then none else some (.int k (a.tmod b))
  | .and => some (.int k (k.wrap ((BitVec.ofInt k.bits a &&& BitVec.ofInt k.bits b).toNat : Int)))
  | .or => some (.int k (k.wrap ((BitVec.ofInt k.bits a ||| BitVec.ofInt k.bits b).toNat : Int)))
  | .xor => some (.int k (k.wrap ((BitVec.ofInt k.bits a ^^^ BitVec.ofInt k.bits b).toNat : Int)))
  | .eql => some (.bool (a == b))
  | .neq => some (.bool (a != b))
  | .lss => some (.bool (decide (a < b)))
  | .leq => some (.bool (decide (a ≤ b)))
  | .gtr => some (.bool (decide (a > b)))
  | .geq => some (.bool (decide (a ≥ b)))
  | _ => none

def shI (op : BinOp) (k : IntKind) (a b : Int) : Option Value :=
  if b < 0 then none else
  match op with
  | .shl => some (.int k (k.wrap (a * 2 ^ (min b.toNat k.bits))))
  | .shr => some (.int k (a.fdiv (2 ^ (min b.toNat k.bits))))
  | _ => none

def isSh : BinOp → Bool
  | .shl | .shr => true
  | _ => false

def fBin (op : BinOp) (q : EqK) : List Value → Option Value
  | [.int k a, .int k' b] => if isSh op then shI op k a b else if k = k' then binI op k a b else none
  | [x, y] => match op with
    | .eql => (eqV q x y).map fun b => .bool b
    | .neq => (eqV q x y).map fun b => .bool (!b)
    | _ => none
  | _ => none

def fUn (op : UnOp) : List Value → Option Value
  | [.bool b] => if op = .not then some (.bool !b) else none
  | [.int k n] => if op = .neg then some (.int k (k.wrap (0 - n))) else none
  | _ => none

def fConv (k : IntKind) : List Value → Option Value
  | [.int _ n] => some (.int k (k.wrap n))
  | _ => none

def fLen : List Value → Option Value
  | [.slice _ n _] => some (.int .i64 n)
  | _ => none

def fMin : List Value → Option Value
  | [.int k x, .int _ y] => some (.int k (if y < x then y else x))
  | _ => none

def fMax : List Value → Option Value
  | [.int k x, .int _ y] => some (.int k (if y > x then y else x))
  | _ => none

def fIface (t : TypeId) : List Value → Option Value
  | [x] => some (.iface t x)
  | _ => none

def resl (es : Nat) (a : Option Addr) (n c : Nat) (l h : Int) : Option Value :=
  if 0 ≤ l ∧ l ≤ h ∧ h ≤ (n : Int) then
    (match a with
      | some ad => if c = es then some (.slice (some (adv ad (l.toNat * es))) (h.toNat - l.toNat) es) else none
      | none => some (.slice none 0 0))
  else none

def fSl (es : Nat) (lo hi : Bool) : List Value → Option Value
  | [.slice a n c] => if lo = false ∧ hi = false then resl es a n c 0 n else none
  | [.slice a n c, .int _ i] => if lo = true ∧ hi = false then resl es a n c i n else if lo = false ∧ hi = true then resl es a n c 0 i else none
  | [.slice a n c, .int _ i, .int _ j] => if lo = true ∧ hi = true then resl es a n c i j else none
  | _ => none

/-- The cells of a value that has so many; nothing of a tuple. -/
def cellsOf (v : Value) (sz : Nat) : Option (List Value) :=
  match v with
  | .agg cs => if cs.size = sz then some cs.toList else none
  | .tuple _ => none
  | v => if sz = 1 then some [v] else none

/-- Cells laid into cells from a place on. -/
def lay (cs : List Value) (off : Nat) (vs : List Value) : List Value := cs.take off ++ vs ++ cs.drop (off + vs.length)

def fillL (places : Nat → Option (Nat × Nat)) : List Value → List Nat → List Value → Option (List Value)
  | cells, [], [] => some cells
  | cells, i :: is, v :: vs => match places i with
    | some (off, sz) => match cellsOf v sz with
      | some c => if off + sz ≤ cells.length then fillL places (lay cells off c) is vs else none
      | none => none
    | none => none
  | _, _, _ => none

def fBuild (places : List (Nat × Nat)) (zero : List Value) (idx : List Nat) (args : List Value) : Option Value :=
  (fillL (fun i => places[i]?) zero idx args).map fun c => .agg c.toArray

/-- A local block's place, as a pointer, as a slice. -/
def locP (k : Nat) : Value := .pointer (some ⟨k, 0, some 0⟩)
def locS (k n es : Nat) : Value := .slice (some ⟨k, 0, some 0⟩) n es

def isUndef : Value → Bool
  | .tuple _ => true
  | _ => false

def oneB : Value → Bool
  | .agg _ | .tuple _ => false
  | _ => true

/-! ### Local blocks -/

def gLoad (sz : Nat) (ag : Bool) : List Value → List Value → Option Value
  | [.pointer (some a)], cs => sub cs a.off sz ag
  | _, _ => none

def gStore (sz : Nat) : List Value → List Value → Option (List Value)
  | [.pointer (some a), x], cs => match cellsOf x sz with
    | some c => if a.off + sz ≤ cs.length ∧ c.all oneB = true then some (lay cs a.off c) else none
    | none => none
  | _, _ => none

def gAlloc (z : List Value) : List Value → List Value → Option (List Value)
  | [], _ => some z
  | _, _ => none

def gBox (sz : Nat) : List Value → List Value → Option (List Value)
  | [x], _ => cellsOf x sz
  | _, _ => none

def gBuildS (es len : Nat) (zero : List Value) (idx : List Nat) (args _cs : List Value) : Option (List Value) :=
  fillL (fun i => some (i * es, es)) (List.replicate len zero).flatten idx args

/-! ### The store -/

def rd (σ : Mem) (b o sz : Nat) (ag : Bool) : Option Value :=
  match σ.get b with
  | some blk => sub blk.cells o sz ag
  | none => none

def hLoad (sz : Nat) (ag : Bool) (args : List Value) (K : Value → Mem → Prop) (σ : Mem) : Prop :=
  match args with
  | [.pointer (some ⟨b, o, none⟩)] => match rd σ b o sz ag with
    | some v => K v σ
    | none => False
  | _ => False

def wr (σ : Mem) (b o sz : Nat) (x : Value) : Option Mem :=
  match σ.get b, cellsOf x sz with
  | some blk, some c => if blk.rw = true ∧ o + sz ≤ blk.cells.length ∧ c.all oneB = true then some (σ.set b ⟨lay blk.cells o c, true⟩) else none
  | _, _ => none

def hStore (sz : Nat) (args : List Value) (K : Value → Mem → Prop) (σ : Mem) : Prop :=
  match args with
  | [.pointer (some ⟨b, o, none⟩), x] => match wr σ b o sz x with
    | some τ => K undef τ
    | none => False
  | _ => False

/-- A new block: whatever its name is. -/
def newB (c : List Value) (v : Nat → Value) (K : Value → Mem → Prop) (σ : Mem) : Prop :=
  ∀ id, σ.get id = none → K (v id) (σ.set id ⟨c, true⟩)

def hAlloc (z : List Value) (args : List Value) (K : Value → Mem → Prop) (σ : Mem) : Prop :=
  match args with
  | [] => newB z (fun id => .pointer (some ⟨id, 0, none⟩)) K σ
  | _ => False

def hBox (sz : Nat) (args : List Value) (K : Value → Mem → Prop) (σ : Mem) : Prop :=
  match args with
  | [x] => match cellsOf x sz with
    | some c => newB c (fun id => .pointer (some ⟨id, 0, none⟩)) K σ
    | none => False
  | _ => False

def hBuildS (es len : Nat) (zero : List Value) (idx : List Nat) (args : List Value) (K : Value → Mem → Prop) (σ : Mem) : Prop :=
  match fillL (fun i => some (i * es, es)) (List.replicate len zero).flatten idx args with
  | some c => newB c (fun id => .slice (some ⟨id, 0, none⟩) len es) K σ
  | none => False

def hMakeS (es bytes : Nat) (zero : List Value) (args : List Value) (K : Value → Mem → Prop) (σ : Mem) : Prop :=
  match args with
  | [.int .i64 n, .int .i64 m] =>
    if n = m ∧ 0 ≤ n ∧ n ≤ 1073741824 ∧ bytes ≤ 1024 then
      newB (List.replicate n.toNat zero).flatten (fun id => .slice (some ⟨id, 0, none⟩) n.toNat es) K σ
    else False
  | _ => False

/-- The first cells of a slice that is to be appended. -/
def srcOf (σ : Mem) (es : Nat) : Value → Option (List Value)
  | .slice none 0 0 => some []
  | .slice (some ⟨b, o, none⟩) n _ => match σ.get b with
    | some blk => if o + n * es ≤ blk.cells.length then some ((blk.cells.drop o).take (n * es)) else none
    | none => none
  | _ => none

def lenS : Value → Nat
  | .slice _ n _ => n
  | _ => 0

/-- To append cells to a slice: what it lay in is gone. -/
def app (es n : Nat) (new : List Value) (s : Value) (K : Value → Mem → Prop) (σ : Mem) : Prop :=
  match s with
  | .slice none 0 0 =>
    if n = 0 then K (.slice none 0 0) σ else
    if n ≤ 1073741824 then newB new (fun id => .slice (some ⟨id, 0, none⟩) n es) K σ else False
  | .slice (some ⟨b, o, none⟩) len c => match σ.get b with
    | some blk =>
      if blk.rw = true ∧ c = es ∧ 0 < es ∧ o + len * es = blk.cells.length ∧ len + n ≤ 1073741824 then
        newB (blk.cells.drop o ++ new) (fun id => .slice (some ⟨id, 0, none⟩) (len + n) es) (fun v τ => K v (τ.del b)) σ
      else False
    | none => False
  | _ => False

def hAppend (es bytes : Nat) (args : List Value) (K : Value → Mem → Prop) (σ : Mem) : Prop :=
  match args with
  | [s, x] => match srcOf σ es x with
    | some new => if bytes ≤ 1024 ∧ new.all oneB = true then app es (lenS x) new s K σ else False
    | none => False
  | _ => False

/-- To append what stands in a local block. -/
def hAppendL (es bytes : Nat) (cs args : List Value) (K : Value → Mem → Prop) (σ : Mem) : Prop :=
  match args with
  | [s, .slice (some ⟨_, 0, some 0⟩) n _] => if bytes ≤ 1024 ∧ cs.length = n * es ∧ cs.all oneB = true then app es n cs s K σ else False
  | _ => False

/-! ### Operations -/

/-- What an operation is. -/
inductive Sm where
  | f (g : List Value → Option Value)
  | lr (k : Nat) (g : List Value → List Value → Option Value)
  | lw (k : Nat) (fresh : Option Value) (g : List Value → List Value → Option (List Value))
  | h (c : Cls) (r : Spec)
  | hl (c : Cls) (k : Nat) (r : List Value → Spec)

/-- A frame's values: slots, local blocks. -/
structure St where
  t : Nat → Value
  l : Nat → List Value

def St.put (s : St) (d : Option Nat) (v : Value) : St :=
  match d with
  | some d => ⟨fun i => bif Nat.beq i d then v else s.t i, s.l⟩
  | none => s

def St.setL (s : St) (k : Nat) (c : List Value) : St := ⟨s.t, fun i => bif Nat.beq i k then c else s.l i⟩

/-- What a function's text is read by: the program, the callees, the slots that hold the address of a local block, the equal types, the number of slots. -/
structure Cx where
  P : Program
  T : List (Nat × Cls × Spec)
  loc : List (Nat × Nat)
  eqt : List (Nat × EqK)
  n : Nat
  keep : List (Nat × List Nat × List Nat)

def evO (s : St) : Operand → Value
  | .tmp t => s.t t
  | .const v => bif constOk v then v else poison
  | _ => poison

def Cx.isLoc (C : Cx) : Operand → Option Nat
  | .tmp t => C.loc.lookup t
  | _ => none

def Cx.plain (C : Cx) (xs : List Operand) : Bool := xs.all fun x => (C.isLoc x).isNone

def Cx.dl (C : Cx) (o : Oper) : Option Nat := o.dst.bind fun d => C.loc.lookup d

/-- Operations that only compute: their operands, and what they compute. -/
def fOf (C : Cx) (op : Op) : Option (List Operand × (List Value → Option Value)) :=
  match op with
  | .move x | .assign x => some ([x], fMove)
  | .pick c a b => some ([c, a, b], fPick)
  | .nilCheck x => some ([x], fNil)
  | .fieldAddr s x f => match C.P.underlying s with
    | some (.struct fs) => match fs[f]? with
      | some fd => if tKnown C.P fd.type && tSz C.P fd.type != 0 then some ([x], fFld fd.offset) else none
      | none => none
    | _ => none
  | .field s x f => match C.P.underlying s with
    | some (.struct fs) => match fs[f]? with
      | some fd => if tKnown C.P fd.type && (tAgg C.P fd.type || tSz C.P fd.type == 1) then some ([x], fFldV fd.offset (tSz C.P fd.type) (tAgg C.P fd.type)) else none
      | none => none
    | _ => none
  | .indexAddr t x i => match C.P.underlying t with
    | some (.slice e) => if tKnown C.P e then some ([x, i], fIxS (tSz C.P e)) else none
    | some (.array n e) => if tKnown C.P e && Nat.ble 2 n then some ([x, i], fIxA n (tSz C.P e)) else none
    | _ => none
  | .index t x i => match C.P.underlying t with
    | some (.array n e) => if tKnown C.P e && (tAgg C.P e || tSz C.P e == 1) then some ([x, i], fIxV n (tSz C.P e) (tAgg C.P e)) else none
    | _ => none
  | .extract x i => some ([x], fExt i)
  | .binOp op t x y _ => some ([x, y], fBin op ((C.eqt.lookup t).getD .no))
  | .unOp op _ x => some ([x], fUn op)
  | .convert src dst x => match C.P.underlying src, C.P.underlying dst with
    | some (.int _), some (.int k) => some ([x], fConv k)
    | _, _ => none
  | .build t parts => match C.P.underlying t, tZero C.P t with
    | some (.struct fs), some z =>
      if fs.all fun f => tKnown C.P f.type then some (parts.toList.map (·.2), fBuild (fs.toList.map fun f => (f.offset, tSz C.P f.type)) z (parts.toList.map (·.1))) else none
    | some (.array n e), some z =>
      if tKnown C.P e then some (parts.toList.map (·.2), fBuild ((List.range n).map fun i => (i * tSz C.P e, tSz C.P e)) z (parts.toList.map (·.1))) else none
    | _, _ => none
  | .slice t x lo hi none => match C.P.underlying t with
    | some (.slice e) => if tKnown C.P e then some ([x] ++ lo.toList ++ hi.toList, fSl (tSz C.P e) lo.isSome hi.isSome) else none
    | _ => none
  | .makeInterface t x => match C.P.underlying t with
    | some (.interface _) | none => none
    | _ => some ([x], fIface t)
  | .call c => match c.callee, c.args.toList, c.argTypes.toList with
    | .builtin .len, [x], [t] => (match C.P.underlying t with
      | some (.slice _) => some ([x], fLen)
      | _ => none)
    | .builtin .min, [x, y], _ => some ([x, y], fMin)
    | .builtin .max, [x, y], _ => some ([x, y], fMax)
    | _, _, _ => none
  | _ => none

/-- Is it an operation on addresses that keeps the block? -/
def addrOp : Op → Bool
  | .move _ | .nilCheck _ | .fieldAddr .. => true
  | _ => false

def arrOp (P : Program) : Op → Bool
  | .indexAddr t _ _ => match P.underlying t with
    | some (.array _ _) => true
    | _ => false
  | _ => false

/-- A new block: local or not. -/
def atNew (C : Cx) (o : Oper) (xs : List Operand) (l : Nat → Sm) (h : Sm) : Option (List Operand × Sm) :=
  match o.dst with
  | some d => match C.loc.lookup d with
    | some k => if (k == d && C.plain xs) = true then some (xs, l k) else none
    | none => if C.plain xs = true then some (xs, h) else none
  | none => none

def atLoad (C : Cx) (o : Oper) (t : TypeId) (p : Operand) : Option (List Operand × Sm) :=
  if (tKnown C.P t && (tAgg C.P t || tSz C.P t == 1) && (C.dl o).isNone) = true then
    match C.isLoc p with
    | some k => some ([p], .lr k (gLoad (tSz C.P t) (tAgg C.P t)))
    | none => some ([p], .h .read (hLoad (tSz C.P t) (tAgg C.P t)))
  else none

def atStore (C : Cx) (o : Oper) (t : TypeId) (p x : Operand) : Option (List Operand × Sm) :=
  if (tKnown C.P t && C.plain [x] && o.dst.isNone) = true then
    match C.isLoc p with
    | some k => some ([p, x], .lw k none (gStore (tSz C.P t)))
    | none => some ([p, x], .h .write (hStore (tSz C.P t)))
  else none

def atAppend (C : Cx) (o : Oper) (s x : Operand) (t u : TypeId) : Option (List Operand × Sm) :=
  match C.P.underlying t, C.P.underlying u with
  | some (.slice e), some (.slice _) => match tZero C.P e with
    | some _ => if (C.plain [s] && (C.dl o).isNone && o.dst.isSome && tKnown C.P e) = true then
        match C.isLoc x with
        | some k => some ([s, x], .hl .write k (hAppendL (tSz C.P e) (C.P.bytesOf e)))
        | none => some ([s, x], .h .write (hAppend (tSz C.P e) (C.P.bytesOf e)))
      else none
    | none => none
  | _, _ => none

def atCall (C : Cx) (o : Oper) (g : Nat) (args : List Operand) : Option (List Operand × Sm) :=
  if (C.plain args && (C.dl o).isNone && o.dst.isSome) = true then
    match C.T.lookup g with
    | some (c, S) => some (args, .h c S)
    | none => none
  else none

def atF (C : Cx) (o : Oper) : Option (List Operand × Sm) :=
  match fOf C o.op with
  | some (xs, g) => match C.dl o with
    | none => if (C.plain xs && o.dst.isSome) = true then some (xs, .f g) else none
    | some k => match xs with
      | x :: ys => if (C.plain ys && C.isLoc x == some k && (addrOp o.op || arrOp C.P o.op)) = true then some (x :: ys, .f g) else none
      | [] => none
  | none => none

/-- An operation: its operands, and what it is. -/
def comp (C : Cx) (o : Oper) : Option (List Operand × Sm) :=
  match o.op with
  | .alloc e => match tZero C.P e with
    | some z => atNew C o [] (fun k => .lw k (some (locP k)) (gAlloc z)) (.h .new (hAlloc z))
    | none => none
  | .box e x => if tKnown C.P e = true then atNew C o [x] (fun k => .lw k (some (locP k)) (gBox (tSz C.P e))) (.h .new (hBox (tSz C.P e))) else none
  | .load t p => atLoad C o t p
  | .store t p x => atStore C o t p x
  | .buildSlice t len parts => match C.P.underlying t with
    | some (.slice e) => match tZero C.P e with
      | some z => if Nat.ble (len * tSz C.P e) 16777216 = true then
          atNew C o (parts.toList.map (·.2)) (fun k => .lw k (some (locS k len (tSz C.P e))) (gBuildS (tSz C.P e) len z (parts.toList.map (·.1)))) (.h .new (hBuildS (tSz C.P e) len z (parts.toList.map (·.1))))
        else none
      | none => none
    | _ => none
  | .makeSlice t n m => match C.P.underlying t with
    | some (.slice e) => match tZero C.P e with
      | some z => if (C.plain [n, m] && (C.dl o).isNone && o.dst.isSome) = true then some ([n, m], .h .new (hMakeS (tSz C.P e) (C.P.bytesOf e) z)) else none
      | none => none
    | _ => none
  | .call c => match c.callee with
    | .builtin .append => match c.args.toList, c.argTypes.toList with
      | [s, x], [t, u] => atAppend C o s x t u
      | _, _ => none
    | .value (.func g) => atCall C o g c.args.toList
    | _ => atF C o
  | _ => atF C o

def xF (g : List Value → Option Value) (args : List Value) (K : Value → Prop) : Prop :=
  match g args with
  | some v => K v
  | none => False

def xO (v : Option Value) (K : Value → Prop) : Prop :=
  match v with
  | some v => K v
  | none => False

def xC (c : Option (List Value)) (K : List Value → Prop) : Prop :=
  match c with
  | some c => K c
  | none => False

def freshB (C : Cx) (k : Nat) (s : St) : Bool := C.loc.all fun (t, k') => !(k' == k) || isUndef (s.t t)

def runSm (C : Cx) (m : Sm) (d : Option Nat) (args : List Value) (s : St) (σ : Mem) (K : St → Mem → Prop) : Prop :=
  match m with
  | .f g => xF g args fun v => K (s.put d v) σ
  | .lr k g => xO (g args (s.l k)) fun v => K (s.put d v) σ
  | .lw k (some v) g => if freshB C k s = true then xC (g args (s.l k)) fun c => K ((s.setL k c).put d v) σ else False
  | .lw k none g => xC (g args (s.l k)) fun c => K ((s.setL k c).put d undef) σ
  | .h _ r => r args (fun v τ => K (s.put d v) τ) σ
  | .hl _ k r => r (s.l k) args (fun v τ => K (s.put d v) τ) σ

/-- One operation. -/
def opW (C : Cx) (o : Oper) (s : St) (σ : Mem) (K : St → Mem → Prop) : Prop :=
  match comp C o with
  | some (xs, m) => if (o.dst.all fun d => Nat.blt d C.n) = true then runSm C m o.dst (xs.map (evO s)) s σ K else False
  | none => False

end Go.Fl
