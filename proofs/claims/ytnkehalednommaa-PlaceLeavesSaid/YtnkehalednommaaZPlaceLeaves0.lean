/- What the claim leans on, part 0: own readings of the program's functions, what they come to, laws of them. No condition. -/
import Derived.WalkKit
import Derived.Orders
import Derived.Below
import Derived.Scope
import Derived.ChangeArms
import Derived.OpenShut
import Derived.DataReads
import Derived.Test.YtnkehalednommaaProg
import Derived.KernelRfl
import Derived.IntWalk
namespace Go.Fl
open Go
set_option linter.unusedVariables false
set_option linter.unusedSimpArgs false
structure Blk where
 cells : List Value
 rw : Bool
structure Mem where
 get : Nat → Option Blk
 fin : ∃ N, ∀ i, N ≤ i → get i = none
theorem Mem.ext' {σ τ : Mem} (h : σ.get = τ.get) : σ = τ := by cases σ; cases τ; cases h; rfl
def Mem.set (σ : Mem) (i : Nat) (b : Blk) : Mem :=
 ⟨fun j => if j = i then some b else σ.get j, by
  obtain ⟨N, hN⟩ := σ.fin
  exact ⟨N + i + 1, fun j hj => by rw [if_neg (by omega)]; exact hN j (by omega)⟩⟩
def Mem.del (σ : Mem) (i : Nat) : Mem :=
 ⟨fun j => if j = i then none else σ.get j, by
  obtain ⟨N, hN⟩ := σ.fin
  exact ⟨N, fun j hj => by split; rfl; exact hN j hj⟩⟩
def poison : Value := .tuple #[.nilFunc]
structure RE where
 blk : Nat
 sh : Nat
 cap : Nat
abbrev Ren := Nat → Option RE
inductive V (ρ : Ren) : Value → Value → Prop
 | poi (v' : Value) : V ρ (.tuple #[.nilFunc]) v'
 | bool (b : Bool) : V ρ (.bool b) (.bool b)
 | int (k : IntKind) (n : Int) : V ρ (.int k n) (.int k n)
 | str (s : ByteArray) : V ρ (.string s) (.string s)
 | nilP : V ρ (.pointer none) (.pointer none)
 | ptr {b o : Nat} {e : RE} (h : ρ b = some e) : V ρ (.pointer (some ⟨b, o, none⟩)) (.pointer (some ⟨e.blk, e.sh + o, none⟩))
 | nilS : V ρ (.slice none 0 0) (.slice none 0 0)
 | sl {b o n c c' : Nat} {e : RE} (h : ρ b = some e) (hl : n ≤ c') (hc : o + c' * c ≤ e.cap) :
   V ρ (.slice (some ⟨b, o, none⟩) n c) (.slice (some ⟨e.blk, e.sh + o, none⟩) n c')
 | slE {b o c : Nat} {a' : Addr} : V ρ (.slice (some ⟨b, o, none⟩) 0 c) (.slice (some a') 0 0)
 | agg {cs cs' : Array Value} (h : cs.size = cs'.size) (hv : ∀ (i : Nat) (v v' : Value), cs[i]? = some v → cs'[i]? = some v' → V ρ v v') : V ρ (.agg cs) (.agg cs')
 | tup {cs cs' : Array Value} (h : cs.size = cs'.size) (hv : ∀ (i : Nat) (v v' : Value), cs[i]? = some v → cs'[i]? = some v' → V ρ v v') : V ρ (.tuple cs) (.tuple cs')
 | nilI : V ρ .nilIface .nilIface
 | iface (t : TypeId) {v v' : Value} (h : V ρ v v') : V ρ (.iface t v) (.iface t v')
 | nilF : V ρ .nilFunc .nilFunc
inductive Cls where
 | none | read | new | write
 deriving DecidableEq
abbrev Spec := List Value → (Value → Mem → Prop) → Mem → Prop
def fMove : List Value → Option Value
 | [x] => some x
 | _ => none
def fPick : List Value → Option Value
 | [.bool true, a, _] => some a
 | [.bool false, _, b] => some b
 | _ => none
def fNil : List Value → Option Value
 | [.pointer (some a)] => some (.pointer (some a))
 | _ => none
def adv (a : Addr) (n : Nat) : Addr := ⟨a.block, a.off + n, a.spot⟩
def fFld (off : Nat) : List Value → Option Value
 | [.pointer (some a)] => some (.pointer (some (adv a off)))
 | _ => none
def sub (cs : List Value) (off sz : Nat) (ag : Bool) : Option Value :=
 if off + sz ≤ cs.length then (if ag then some (.agg ((cs.drop off).take sz).toArray) else cs[off]?) else none
def fFldV (off sz : Nat) (ag : Bool) : List Value → Option Value
 | [.agg cs] => sub cs.toList off sz ag
 | _ => none
def fIxS (es : Nat) : List Value → Option Value
 | [.slice (some a) n _, .int _ i] => if 0 ≤ i ∧ i < (n : Int) then some (.pointer (some (adv a (i.toNat * es)))) else none
 | _ => none
def fIxA (n es : Nat) : List Value → Option Value
 | [.pointer (some a), .int _ i] => if 0 ≤ i ∧ i < (n : Int) then some (.pointer (some (adv a (i.toNat * es)))) else none
 | _ => none
def fIxV (n es : Nat) (ag : Bool) : List Value → Option Value
 | [.agg cs, .int _ i] => if 0 ≤ i ∧ i < (n : Int) then sub cs.toList (i.toNat * es) es ag else none
 | _ => none
def fExt (ix : Nat) : List Value → Option Value
 | [.tuple vs] => if vs.size = 1 then none else vs.toList[ix]?
 | _ => none
def constOk : Value → Bool
 | .bool _ | .int _ _ | .string _ | .pointer none | .slice none 0 0 | .nilIface | .nilFunc => true
 | _ => false
def tSz (P : Program) (t : TypeId) : Nat := P.cellsOf t
def tAgg (P : Program) (t : TypeId) : Bool :=
 match P.underlying t with
 | some (.struct _) | some (.array _ _) => true
 | _ => false
def tKnown (P : Program) (t : TypeId) : Bool := (P.underlying t).isSome && (P.info? t).isSome
def tZero (P : Program) (t : TypeId) : Option (List Value) :=
 match P.info? t with
 | some i => match i.zero with
  | some (.agg cs) => if cs.toList.all constOk && i.size == cs.size then some cs.toList else none
  | some v => if constOk v && i.size == 1 then some [v] else none
  | none => none
 | none => none
def eqCell : Bool → Value → Value → Option Bool
 | true, .int k a, .int k' b => if k = k' then some (a == b) else none
 | false, .bool a, .bool b => some (a == b)
 | _, _, _ => none
def eqCells : List Bool → List Value → List Value → Option Bool
 | [], [], [] => some true
 | q :: qs, x :: xs, y :: ys => match eqCell q x y, eqCells qs xs ys with
  | some a, some b => some (a && b)
  | _, _ => none
 | _, _, _ => none
inductive EqK where
 | bool | ptr | flat (ks : List Bool) | no | slc
def eqV : EqK → Value → Value → Option Bool
 | .bool, .bool a, .bool b => some (a == b)
 | .ptr, .pointer none, .pointer b => some b.isNone
 | .ptr, .pointer (some _), .pointer none => some false
 | .flat ks, .agg xs, .agg ys => eqCells ks xs.toList ys.toList
 | .slc, .slice a _ _, .slice none 0 0 => some a.isNone
 | _, _, _ => none
def flatFs (P : Program) : List Field → Nat → List Bool → Bool
 | [], _, [] => true
 | f :: fs, i, q :: qs => !(f.name == "_") && f.offset == i && tKnown P f.type && (match P.underlying f.type with
  | some (.int _) => q
  | some .bool => !q
  | _ => false) && flatFs P fs (i + 1) qs
 | _, _, _ => false
def eqOk (P : Program) (x : Nat × EqK) : Bool :=
 match x.2, P.underlying x.1 with
 | .bool, some .bool => true
 | .ptr, some (.pointer _) => true
 | .flat ks, some (.struct fs) => !(P.stoodInHeld x.1) && !(P.eqGuardType P.depth x.1) && flatFs P fs.toList 0 ks
 | .no, _ => true
 | .slc, some (.slice _) => true
 | _, _ => false
def binI (op : BinOp) (k : IntKind) (a b : Int) : Option Value :=
 match op with
 | .add => some (.int k (k.wrap (a + b)))
 | .sub => some (.int k (k.wrap (a - b)))
 | .mul => some (.int k (k.wrap (a * b)))
 | .quo => if b = 0 then none else some (.int k (k.wrap (a.tdiv b)))
 | .rem => if b = 0 then none else some (.int k (a.tmod b))
 | .and => some (.int k (k.wrap ((BitVec.ofInt k.bits a &&& BitVec.ofInt k.bits b).toNat : Int)))
 | .or => some (.int k (k.wrap ((BitVec.ofInt k.bits a ||| BitVec.ofInt k.bits b).toNat : Int)))
 | .xor => some (.int k (k.wrap ((BitVec.ofInt k.bits a ^^^ BitVec.ofInt k.bits b).toNat : Int)))
 | .eql => some (.bool (a == b))
 | .neq => some (.bool (a != b))
 | .lss => some (.bool (decide (a < b)))
 | .leq => some (.bool (decide (a ≤ b)))
 | .gtr => some (.bool (decide (a > b)))
 | .geq => some (.bool (decide (a ≥ b)))
 | _ => none
def shI (op : BinOp) (k : IntKind) (a b : Int) : Option Value :=
 if b < 0 then none else
 match op with
 | .shl => some (.int k (k.wrap (a * 2 ^ (min b.toNat k.bits))))
 | .shr => some (.int k (a.fdiv (2 ^ (min b.toNat k.bits))))
 | _ => none
def isSh : BinOp → Bool
 | .shl | .shr => true
 | _ => false
def fBin (op : BinOp) (q : EqK) : List Value → Option Value
 | [.int k a, .int k' b] => if isSh op then shI op k a b else if k = k' then binI op k a b else none
 | [x, y] => match op with
  | .eql => (eqV q x y).map fun b => .bool b
  | .neq => (eqV q x y).map fun b => .bool (!b)
  | _ => none
 | _ => none
def fUn (op : UnOp) : List Value → Option Value
 | [.bool b] => if op = .not then some (.bool !b) else none
 | [.int k n] => if op = .neg then some (.int k (k.wrap (0 - n))) else none
 | _ => none
def fConv (k : IntKind) : List Value → Option Value
 | [.int _ n] => some (.int k (k.wrap n))
 | _ => none
def fLen : List Value → Option Value
 | [.slice _ n _] => some (.int .i64 n)
 | _ => none
def fMin : List Value → Option Value
 | [.int k x, .int _ y] => some (.int k (if y < x then y else x))
 | _ => none
def fMax : List Value → Option Value
 | [.int k x, .int _ y] => some (.int k (if y > x then y else x))
 | _ => none
def fIface (t : TypeId) : List Value → Option Value
 | [x] => some (.iface t x)
 | _ => none
def resl (es : Nat) (a : Option Addr) (n c : Nat) (l h : Int) : Option Value :=
 if 0 ≤ l ∧ l ≤ h ∧ h ≤ (n : Int) then
  (match a with
   | some ad => if c = es then some (.slice (some (adv ad (l.toNat * es))) (h.toNat - l.toNat) es) else none
   | none => some (.slice none 0 0))
 else none
def fSl (es : Nat) (lo hi : Bool) : List Value → Option Value
 | [.slice a n c] => if lo = false ∧ hi = false then resl es a n c 0 n else none
 | [.slice a n c, .int _ i] => if lo = true ∧ hi = false then resl es a n c i n else if lo = false ∧ hi = true then resl es a n c 0 i else none
 | [.slice a n c, .int _ i, .int _ j] => if lo = true ∧ hi = true then resl es a n c i j else none
 | _ => none
def cellsOf (v : Value) (sz : Nat) : Option (List Value) :=
 match v with
 | .agg cs => if cs.size = sz then some cs.toList else none
 | .tuple _ => none
 | v => if sz = 1 then some [v] else none
def lay (cs : List Value) (off : Nat) (vs : List Value) : List Value := cs.take off ++ vs ++ cs.drop (off + vs.length)
def fillL (places : Nat → Option (Nat × Nat)) : List Value → List Nat → List Value → Option (List Value)
 | cells, [], [] => some cells
 | cells, i :: is, v :: vs => match places i with
  | some (off, sz) => match cellsOf v sz with
   | some c => if off + sz ≤ cells.length then fillL places (lay cells off c) is vs else none
   | none => none
  | none => none
 | _, _, _ => none
def fBuild (places : List (Nat × Nat)) (zero : List Value) (idx : List Nat) (args : List Value) : Option Value :=
 (fillL (fun i => places[i]?) zero idx args).map fun c => .agg c.toArray
def locP (k : Nat) : Value := .pointer (some ⟨k, 0, some 0⟩)
def locS (k n es : Nat) : Value := .slice (some ⟨k, 0, some 0⟩) n es
def isUndef : Value → Bool
 | .tuple _ => true
 | _ => false
def oneB : Value → Bool
 | .agg _ | .tuple _ => false
 | _ => true
def gLoad (sz : Nat) (ag : Bool) : List Value → List Value → Option Value
 | [.pointer (some a)], cs => sub cs a.off sz ag
 | _, _ => none
def gStore (sz : Nat) : List Value → List Value → Option (List Value)
 | [.pointer (some a), x], cs => match cellsOf x sz with
  | some c => if a.off + sz ≤ cs.length ∧ c.all oneB = true then some (lay cs a.off c) else none
  | none => none
 | _, _ => none
def gAlloc (z : List Value) : List Value → List Value → Option (List Value)
 | [], _ => some z
 | _, _ => none
def gBox (sz : Nat) : List Value → List Value → Option (List Value)
 | [x], _ => cellsOf x sz
 | _, _ => none
def gBuildS (es len : Nat) (zero : List Value) (idx : List Nat) (args _cs : List Value) : Option (List Value) :=
 fillL (fun i => some (i * es, es)) (List.replicate len zero).flatten idx args
def rd (σ : Mem) (b o sz : Nat) (ag : Bool) : Option Value :=
 match σ.get b with
 | some blk => sub blk.cells o sz ag
 | none => none
def hLoad (sz : Nat) (ag : Bool) (args : List Value) (K : Value → Mem → Prop) (σ : Mem) : Prop :=
 match args with
 | [.pointer (some ⟨b, o, none⟩)] => match rd σ b o sz ag with
  | some v => K v σ
  | none => False
 | _ => False
def wr (σ : Mem) (b o sz : Nat) (x : Value) : Option Mem :=
 match σ.get b, cellsOf x sz with
 | some blk, some c => if blk.rw = true ∧ o + sz ≤ blk.cells.length ∧ c.all oneB = true then some (σ.set b ⟨lay blk.cells o c, true⟩) else none
 | _, _ => none
def hStore (sz : Nat) (args : List Value) (K : Value → Mem → Prop) (σ : Mem) : Prop :=
 match args with
 | [.pointer (some ⟨b, o, none⟩), x] => match wr σ b o sz x with
  | some τ => K undef τ
  | none => False
 | _ => False
def newB (c : List Value) (v : Nat → Value) (K : Value → Mem → Prop) (σ : Mem) : Prop :=
 ∀ id, σ.get id = none → K (v id) (σ.set id ⟨c, true⟩)
def hAlloc (z : List Value) (args : List Value) (K : Value → Mem → Prop) (σ : Mem) : Prop :=
 match args with
 | [] => newB z (fun id => .pointer (some ⟨id, 0, none⟩)) K σ
 | _ => False
def hBox (sz : Nat) (args : List Value) (K : Value → Mem → Prop) (σ : Mem) : Prop :=
 match args with
 | [x] => match cellsOf x sz with
  | some c => newB c (fun id => .pointer (some ⟨id, 0, none⟩)) K σ
  | none => False
 | _ => False
def hBuildS (es len : Nat) (zero : List Value) (idx : List Nat) (args : List Value) (K : Value → Mem → Prop) (σ : Mem) : Prop :=
 match fillL (fun i => some (i * es, es)) (List.replicate len zero).flatten idx args with
 | some c => newB c (fun id => .slice (some ⟨id, 0, none⟩) len es) K σ
 | none => False
def hMakeS (es bytes : Nat) (zero : List Value) (args : List Value) (K : Value → Mem → Prop) (σ : Mem) : Prop :=
 match args with
 | [.int .i64 n, .int .i64 m] =>
  if n = m ∧ 0 ≤ n ∧ n ≤ 1073741824 ∧ bytes ≤ 1024 then
   newB (List.replicate n.toNat zero).flatten (fun id => .slice (some ⟨id, 0, none⟩) n.toNat es) K σ
  else False
 | _ => False
def srcOf (σ : Mem) (es : Nat) : Value → Option (List Value)
 | .slice none 0 0 => some []
 | .slice (some ⟨b, o, none⟩) n _ => match σ.get b with
  | some blk => if o + n * es ≤ blk.cells.length then some ((blk.cells.drop o).take (n * es)) else none
  | none => none
 | _ => none
def lenS : Value → Nat
 | .slice _ n _ => n
 | _ => 0
def app (es n : Nat) (new : List Value) (s : Value) (K : Value → Mem → Prop) (σ : Mem) : Prop :=
 match s with
 | .slice none 0 0 =>
  if n = 0 then K (.slice none 0 0) σ else
  if n ≤ 1073741824 then newB new (fun id => .slice (some ⟨id, 0, none⟩) n es) K σ else False
 | .slice (some ⟨b, o, none⟩) len c => match σ.get b with
  | some blk =>
   if blk.rw = true ∧ c = es ∧ 0 < es ∧ o + len * es = blk.cells.length ∧ len + n ≤ 1073741824 then
    newB (blk.cells.drop o ++ new) (fun id => .slice (some ⟨id, 0, none⟩) (len + n) es) (fun v τ => K v (τ.del b)) σ
   else False
  | none => False
 | _ => False
def hAppend (es bytes : Nat) (args : List Value) (K : Value → Mem → Prop) (σ : Mem) : Prop :=
 match args with
 | [s, x] => match srcOf σ es x with
  | some new => if bytes ≤ 1024 ∧ new.all oneB = true then app es (lenS x) new s K σ else False
  | none => False
 | _ => False
def hAppendL (es bytes : Nat) (cs args : List Value) (K : Value → Mem → Prop) (σ : Mem) : Prop :=
 match args with
 | [s, .slice (some ⟨_, 0, some 0⟩) n _] => if bytes ≤ 1024 ∧ cs.length = n * es ∧ cs.all oneB = true then app es n cs s K σ else False
 | _ => False
inductive Sm where
 | f (g : List Value → Option Value)
 | lr (k : Nat) (g : List Value → List Value → Option Value)
 | lw (k : Nat) (fresh : Option Value) (g : List Value → List Value → Option (List Value))
 | h (c : Cls) (r : Spec)
 | hl (c : Cls) (k : Nat) (r : List Value → Spec)
structure St where
 t : Nat → Value
 l : Nat → List Value
def St.put (s : St) (d : Option Nat) (v : Value) : St :=
 match d with
 | some d => ⟨fun i => bif Nat.beq i d then v else s.t i, s.l⟩
 | none => s
def St.setL (s : St) (k : Nat) (c : List Value) : St := ⟨s.t, fun i => bif Nat.beq i k then c else s.l i⟩
structure Cx where
 P : Program
 T : List (Nat × Cls × Spec)
 loc : List (Nat × Nat)
 eqt : List (Nat × EqK)
 n : Nat
 keep : List (Nat × List Nat × List Nat)
 alt : List (Nat × Nat × List Nat × List (List Nat × List Nat)) := []
 inv : List (String × Nat × Nat) := []
def evO (s : St) : Operand → Value
 | .tmp t => s.t t
 | .const v => bif constOk v then v else poison
 | _ => poison
def Cx.isLoc (C : Cx) : Operand → Option Nat
 | .tmp t => C.loc.lookup t
 | _ => none
def Cx.plain (C : Cx) (xs : List Operand) : Bool := xs.all fun x => (C.isLoc x).isNone
def Cx.dl (C : Cx) (o : Oper) : Option Nat := o.dst.bind fun d => C.loc.lookup d
def fOf (C : Cx) (op : Op) : Option (List Operand × (List Value → Option Value)) :=
 match op with
 | .move x | .assign x => some ([x], fMove)
 | .pick c a b => some ([c, a, b], fPick)
 | .nilCheck x => some ([x], fNil)
 | .fieldAddr s x f => match C.P.underlying s with
  | some (.struct fs) => match fs[f]? with
   | some fd => if tKnown C.P fd.type && tSz C.P fd.type != 0 then some ([x], fFld fd.offset) else none
   | none => none
  | _ => none
 | .field s x f => match C.P.underlying s with
  | some (.struct fs) => match fs[f]? with
   | some fd => if tKnown C.P fd.type && (tAgg C.P fd.type || tSz C.P fd.type == 1) then some ([x], fFldV fd.offset (tSz C.P fd.type) (tAgg C.P fd.type)) else none
   | none => none
  | _ => none
 | .indexAddr t x i => match C.P.underlying t with
  | some (.slice e) => if tKnown C.P e then some ([x, i], fIxS (tSz C.P e)) else none
  | some (.array n e) => if tKnown C.P e && Nat.ble 2 n then some ([x, i], fIxA n (tSz C.P e)) else none
  | _ => none
 | .index t x i => match C.P.underlying t with
  | some (.array n e) => if tKnown C.P e && (tAgg C.P e || tSz C.P e == 1) then some ([x, i], fIxV n (tSz C.P e) (tAgg C.P e)) else none
  | _ => none
 | .extract x i => some ([x], fExt i)
 | .binOp op t x y _ => some ([x, y], fBin op ((C.eqt.lookup t).getD .no))
 | .unOp op _ x => some ([x], fUn op)
 | .convert src dst x => match C.P.underlying src, C.P.underlying dst with
  | some (.int _), some (.int k) => some ([x], fConv k)
  | _, _ => none
 | .build t parts => match C.P.underlying t, tZero C.P t with
  | some (.struct fs), some z =>
   if fs.all fun f => tKnown C.P f.type then some (parts.toList.map (·.2), fBuild (fs.toList.map fun f => (f.offset, tSz C.P f.type)) z (parts.toList.map (·.1))) else none
  | some (.array n e), some z =>
   if tKnown C.P e then some (parts.toList.map (·.2), fBuild ((List.range n).map fun i => (i * tSz C.P e, tSz C.P e)) z (parts.toList.map (·.1))) else none
  | _, _ => none
 | .slice t x lo hi none => match C.P.underlying t with
  | some (.slice e) => if tKnown C.P e then some ([x] ++ lo.toList ++ hi.toList, fSl (tSz C.P e) lo.isSome hi.isSome) else none
  | _ => none
 | .makeInterface t x => match C.P.underlying t with
  | some (.interface _) | none => none
  | _ => some ([x], fIface t)
 | .call c => match c.callee, c.args.toList, c.argTypes.toList with
  | .builtin .len, [x], [t] => (match C.P.underlying t with
   | some (.slice _) => some ([x], fLen)
   | _ => none)
  | .builtin .min, [x, y], _ => some ([x, y], fMin)
  | .builtin .max, [x, y], _ => some ([x, y], fMax)
  | _, _, _ => none
 | _ => none
def addrOp : Op → Bool
 | .move _ | .nilCheck _ | .fieldAddr .. => true
 | _ => false
def arrOp (P : Program) : Op → Bool
 | .indexAddr t _ _ => match P.underlying t with
  | some (.array _ _) => true
  | _ => false
 | _ => false
def atNew (C : Cx) (o : Oper) (xs : List Operand) (l : Nat → Sm) (h : Sm) : Option (List Operand × Sm) :=
 match o.dst with
 | some d => match C.loc.lookup d with
  | some k => if (k == d && C.plain xs) = true then some (xs, l k) else none
  | none => if C.plain xs = true then some (xs, h) else none
 | none => none
def atLoad (C : Cx) (o : Oper) (t : TypeId) (p : Operand) : Option (List Operand × Sm) :=
 if (tKnown C.P t && (tAgg C.P t || tSz C.P t == 1) && (C.dl o).isNone) = true then
  match C.isLoc p with
  | some k => some ([p], .lr k (gLoad (tSz C.P t) (tAgg C.P t)))
  | none => some ([p], .h .read (hLoad (tSz C.P t) (tAgg C.P t)))
 else none
def atStore (C : Cx) (o : Oper) (t : TypeId) (p x : Operand) : Option (List Operand × Sm) :=
 if (tKnown C.P t && C.plain [x] && o.dst.isNone) = true then
  match C.isLoc p with
  | some k => some ([p, x], .lw k none (gStore (tSz C.P t)))
  | none => some ([p, x], .h .write (hStore (tSz C.P t)))
 else none
def atAppend (C : Cx) (o : Oper) (s x : Operand) (t u : TypeId) : Option (List Operand × Sm) :=
 match C.P.underlying t, C.P.underlying u with
 | some (.slice e), some (.slice _) => match tZero C.P e with
  | some _ => if (C.plain [s] && (C.dl o).isNone && o.dst.isSome && tKnown C.P e) = true then
    match C.isLoc x with
    | some k => some ([s, x], .hl .write k (hAppendL (tSz C.P e) (C.P.bytesOf e)))
    | none => some ([s, x], .h .write (hAppend (tSz C.P e) (C.P.bytesOf e)))
   else none
  | none => none
 | _, _ => none
def atCall (C : Cx) (o : Oper) (g : Nat) (args : List Operand) : Option (List Operand × Sm) :=
 if (C.plain args && (C.dl o).isNone && o.dst.isSome) = true then
  match C.T.lookup g with
  | some (c, S) => some (args, .h c S)
  | none => none
 else none
def hInv (tbl : List (Nat × Spec)) : Spec := fun args K σ => match args with
 | .iface t v :: rest => match tbl.lookup t with
  | some S => S (v :: rest) K σ
  | none => False
 | _ => False
def invTab (C : Cx) (name : String) : List (Nat × Spec) := C.inv.filterMap fun e => if (e.1 == name) = true then (match C.T.lookup e.2.2 with
 | some x => some (e.2.1, x.2)
 | none => none) else none
def atInv (C : Cx) (o : Oper) (recv : Operand) (name : String) (args : List Operand) : Option (List Operand × Sm) :=
 if (C.plain (recv :: args) && (C.dl o).isNone && o.dst.isSome) = true then some (recv :: args, .h .write (hInv (invTab C name))) else none
def atF (C : Cx) (o : Oper) : Option (List Operand × Sm) :=
 match fOf C o.op with
 | some (xs, g) => match C.dl o with
  | none => if (C.plain xs && o.dst.isSome) = true then some (xs, .f g) else none
  | some k => match xs with
   | x :: ys => if (C.plain ys && C.isLoc x == some k && (addrOp o.op || arrOp C.P o.op)) = true then some (x :: ys, .f g) else none
   | [] => none
 | none => none
def comp (C : Cx) (o : Oper) : Option (List Operand × Sm) :=
 match o.op with
 | .alloc e => match tZero C.P e with
  | some z => atNew C o [] (fun k => .lw k (some (locP k)) (gAlloc z)) (.h .new (hAlloc z))
  | none => none
 | .box e x => if tKnown C.P e = true then atNew C o [x] (fun k => .lw k (some (locP k)) (gBox (tSz C.P e))) (.h .new (hBox (tSz C.P e))) else none
 | .load t p => atLoad C o t p
 | .store t p x => atStore C o t p x
 | .buildSlice t len parts => match C.P.underlying t with
  | some (.slice e) => match tZero C.P e with
   | some z => if Nat.ble (len * tSz C.P e) 16777216 = true then
     atNew C o (parts.toList.map (·.2)) (fun k => .lw k (some (locS k len (tSz C.P e))) (gBuildS (tSz C.P e) len z (parts.toList.map (·.1)))) (.h .new (hBuildS (tSz C.P e) len z (parts.toList.map (·.1))))
    else none
   | none => none
  | _ => none
 | .makeSlice t n m => match C.P.underlying t with
  | some (.slice e) => match tZero C.P e with
   | some z => if (C.plain [n, m] && (C.dl o).isNone && o.dst.isSome) = true then some ([n, m], .h .new (hMakeS (tSz C.P e) (C.P.bytesOf e) z)) else none
   | none => none
  | _ => none
 | .call c => match c.callee with
  | .builtin .append => match c.args.toList, c.argTypes.toList with
   | [s, x], [t, u] => atAppend C o s x t u
   | _, _ => none
  | .value (.func g) => atCall C o g c.args.toList
  | .invoke recv name => atInv C o recv name c.args.toList
  | _ => atF C o
 | _ => atF C o
def xF (g : List Value → Option Value) (args : List Value) (K : Value → Prop) : Prop :=
 match g args with
 | some v => K v
 | none => False
def xO (v : Option Value) (K : Value → Prop) : Prop :=
 match v with
 | some v => K v
 | none => False
def xC (c : Option (List Value)) (K : List Value → Prop) : Prop :=
 match c with
 | some c => K c
 | none => False
def freshB (C : Cx) (k : Nat) (s : St) : Bool := C.loc.all fun (t, k') => !(k' == k) || isUndef (s.t t)
def runSm (C : Cx) (m : Sm) (d : Option Nat) (args : List Value) (s : St) (σ : Mem) (K : St → Mem → Prop) : Prop :=
 match m with
 | .f g => xF g args fun v => K (s.put d v) σ
 | .lr k g => xO (g args (s.l k)) fun v => K (s.put d v) σ
 | .lw k (some v) g => if freshB C k s = true then xC (g args (s.l k)) fun c => K ((s.setL k c).put d v) σ else False
 | .lw k none g => xC (g args (s.l k)) fun c => K ((s.setL k c).put d undef) σ
 | .h _ r => r args (fun v τ => K (s.put d v) τ) σ
 | .hl _ k r => r (s.l k) args (fun v τ => K (s.put d v) τ) σ
def opW (C : Cx) (o : Oper) (s : St) (σ : Mem) (K : St → Mem → Prop) : Prop :=
 match comp C o with
 | some (xs, m) => if (o.dst.all fun d => Nat.blt d C.n) = true then runSm C m o.dst (xs.map (evO s)) s σ K else False
 | none => False
end Go.Fl
namespace Go.Fl
open Go
set_option linter.unusedVariables false
set_option linter.unusedSimpArgs false
def gval (ops : Array Oper) (s : St) (j : Nat) : Value :=
 match ops[j]? with
 | some o => match o.dst with
  | some d => s.t d
  | none => undef
 | none => undef
def gOk (C : Cx) (ops : Array Oper) (j : Nat) : Bool :=
 match ops[j]? with
 | some o => (C.dl o).isNone
 | none => true
def gput (ops : Array Oper) (s : St) (j : Nat) (b : Bool) : St :=
 match ops[j]? with
 | some o => s.put o.dst (.bool b)
 | none => s
def xIf (v : Value) (A B : Prop) : Prop :=
 match v with
 | .bool true => A
 | .bool false => B
 | _ => False
def opsW (C : Cx) (ops : Array Oper) (K : St → Mem → Prop) : List Oper → Nat → List (Nat × Option Bool) → St → Mem → Prop
  | [], _, _, s, σ => K s σ
  | o :: rest, i, dec, s, σ =>
    match o.guard with
    | none => opW C o s σ fun s σ => opsW C ops K rest (i + 1) dec s σ
    | some (j, w) =>
      if gOk C ops j = true then
      match dec.lookup j with
      | some (some b) =>
        if (b == w) = true then opW C o s σ fun s σ => opsW C ops K rest (i + 1) dec s σ
        else opsW C ops K rest (i + 1) ((i, none) :: dec) (s.put o.dst undef) σ
      | some none => opsW C ops K rest (i + 1) ((i, none) :: dec) (s.put o.dst undef) σ
      | none => if Nat.blt j i = true then
          xIf (gval ops s j)
            (if w = true then opW C o (gput ops s j true) σ fun s σ => opsW C ops K rest (i + 1) ((j, some true) :: dec) s σ
             else opsW C ops K rest (i + 1) ((i, none) :: (j, some true) :: dec) ((gput ops s j true).put o.dst undef) σ)
            (if w = true then opsW C ops K rest (i + 1) ((i, none) :: (j, some false) :: dec) ((gput ops s j false).put o.dst undef) σ
             else opW C o (gput ops s j false) σ fun s σ => opsW C ops K rest (i + 1) ((j, some false) :: dec) s σ)
        else False
      else False
def altL (ops : Array Oper) (is : List Nat) : List Oper := is.filterMap fun i => ops[i]?
def ordAll (P : List Nat → Prop) : List (List Nat × List Nat) → Prop
 | [] => False
 | [x] => P x.2
 | x :: y :: l => P x.2 ∧ ordAll P (y :: l)
theorem ordAll_mem {P : List Nat → Prop} : ∀ {l : List (List Nat × List Nat)}, ordAll P l → ∀ x ∈ l, P x.2
 | [], h, _, _ => h.elim
 | [a], h, x, hx => by rw [List.mem_singleton.1 hx]; exact h
 | a :: b :: l, h, x, hx => by
  rcases List.mem_cons.1 hx with rfl | hx
  ·exact h.1
  ·exact ordAll_mem h.2 x hx
theorem ordAll_mono {P Q : List Nat → Prop} (hPQ : ∀ is, P is → Q is) : ∀ {l : List (List Nat × List Nat)}, ordAll P l → ordAll Q l
 | [], h => h
 | [a], h => hPQ _ h
 | a :: b :: l, h => ⟨hPQ _ h.1, ordAll_mono hPQ h.2⟩
theorem ordAll_live {P : List Nat → Prop} : ∀ {l : List (List Nat × List Nat)}, ordAll P l → ∃ is, P is
 | [], h => h.elim
 | [a], h => ⟨_, h⟩
 | a :: b :: l, h => ⟨_, h.1⟩
inductive Ex where
 | normal
 | exit (id : Nat)
 | ret
def firstReg : Code → Nat
 | .region id _ _ => Nat.succ id
 | .seq a b | .cond _ a b => match firstReg a with
  | 0 => firstReg b
  | n + 1 => n + 1
 | .block _ c | .loop c | .scope c => firstReg c
 | _ => 0
def xLoop (F : (List Value → List (List Value) → Mem → Prop) → List Value → List (List Value) → Mem → Prop)
  (ts : List Value) (ls : List (List Value)) (σ : Mem) : Prop :=
 ∀ J : List Value → List (List Value) → Mem → Prop,
  (∀ ts ls σ, (∃ R : List Value → List (List Value) → Mem → Prop, (∀ ts ls σ, R ts ls σ → J ts ls σ) ∧ F R ts ls σ) → J ts ls σ) → J ts ls σ
theorem xLoop_fold {F : (List Value → List (List Value) → Mem → Prop) → List Value → List (List Value) → Mem → Prop} {ts : List Value} {ls : List (List Value)} {σ : Mem}
  (h : F (fun ts ls σ => xLoop F ts ls σ) ts ls σ) : xLoop F ts ls σ :=
 fun J hJ => hJ _ _ _ ⟨_, fun _ _ _ hR => hR J hJ, h⟩
theorem xLoop_inv {F : (List Value → List (List Value) → Mem → Prop) → List Value → List (List Value) → Mem → Prop}
  (I : Nat → List Value → List (List Value) → Mem → Prop) (hr : ∀ n ts ls σ, I n ts ls σ → F (fun ts' ls' σ' => ∃ m, m < n ∧ I m ts' ls' σ') ts ls σ)
  {n : Nat} {ts : List Value} {ls : List (List Value)} {σ : Mem} (h0 : I n ts ls σ) : xLoop F ts ls σ := by
 intro J hJ
 have key : ∀ n ts ls σ, I n ts ls σ → J ts ls σ := by
  intro n
  induction n using Nat.strongRecOn with
  | _ n ih =>
   intro ts ls σ hi
   exact hJ _ _ _ ⟨_, fun ts' ls' σ' ⟨m, hm, hi'⟩ => ih m hm _ _ _ hi', hr n ts ls σ hi⟩
 exact key _ _ _ _ h0
def mkSt (kt kl : List Nat) (ts : List Value) (ls : List (List Value)) : St :=
  ⟨fun i => bif kl.contains i then locP i else bif kt.contains i then ts.getD (kt.idxOf i) poison else poison,
   fun i => bif kl.contains i then ls.getD (kl.idxOf i) [] else []⟩
def isLocP (k : Nat) : Value → Bool
 | .pointer (some ⟨b, 0, some 0⟩) => Nat.beq b k
 | _ => false
def backW (C : Cx) (kt kl : List Nat) (s : St) (σ : Mem) (R : List Value → List (List Value) → Mem → Prop) : Prop :=
 if (kl.all (fun k => isLocP k (s.t k) && C.loc.lookup k == some k) && kt.all (fun t => (C.loc.lookup t).isNone && Nat.blt t C.n)) = true then R (kt.map s.t) (kl.map s.l) σ else False
def joinKey (C : Cx) (a b : Code) : Option (List Nat × List Nat) :=
 match firstReg a with
 | 0 => none
 | _ + 1 => C.keep.lookup (Nat.add (firstReg b) 1000000)
def xJoin (F : List Value → List (List Value) → Mem → Prop) (G : (List Value → List (List Value) → Mem → Prop) → Prop) : Prop := G F
def jW (C : Cx) (a b : Code) (B : St → Mem → Prop) (G : (St → Mem → Prop) → Prop) : Prop :=
 match joinKey C a b with
 | some (kt, kl) => xJoin (fun ts ls σ => B (mkSt kt kl ts ls) σ) fun J => G fun s σ => backW C kt kl s σ J
 | none => G B
def thru (C : Cx) (a b : Code) (B : St → Mem → Prop) (s : St) (σ : Mem) : Prop :=
 match joinKey C a b with
 | some (kt, kl) => backW C kt kl s σ fun ts ls σ => B (mkSt kt kl ts ls) σ
 | none => B s σ
theorem jW_eq {C : Cx} {a b : Code} {B : St → Mem → Prop} {G : (St → Mem → Prop) → Prop} : jW C a b B G = G (thru C a b B) := by
 unfold jW thru
 cases joinKey C a b <;> rfl
def Wp (C : Cx) : Code → (Ex → St → Mem → Prop) → St → Mem → Prop
 | .skip, Q, s, σ => Q .normal s σ
 | .label _, Q, s, σ => Q .normal s σ
 | .seq a b, Q, s, σ => jW C a b (fun s σ => Wp C b Q s σ) fun B => Wp C a (fun e s σ => match e with
  | .normal => B s σ
  | .exit i => Q (.exit i) s σ
  | .ret => Q .ret s σ) s σ
 | .cond c a b, Q, s, σ => if (C.isLoc c).isNone = true then xIf (evO s c) (Wp C a Q s σ) (Wp C b Q s σ) else False
 | .block id c, Q, s, σ => Wp C c (fun e s σ => match e with
  | .normal => Q .normal s σ
  | .exit i => bif Nat.beq i id then Q .normal s σ else Q (.exit i) s σ
  | .ret => Q .ret s σ) s σ
 | .scope c, Q, s, σ => Wp C c Q s σ
 | .loop c, Q, s, σ =>
  match C.keep.lookup (firstReg c) with
  | some (kt, kl) => backW C kt kl s σ (xLoop fun R ts ls σ => Wp C c (fun e s σ => match e with
   | .normal => backW C kt kl s σ R
   | .exit i => Q (.exit i) s σ
   | .ret => Q .ret s σ) (mkSt kt kl ts ls) σ)
  | none => False
 | .exit id, Q, s, σ => Q (.exit id) s σ
 | .ret, Q, s, σ => Q .ret s σ
 | .region id ops _, Q, s, σ => match C.alt.lookup id with
  | none => opsW C ops (fun s σ => Q .normal s σ) ops.toList 0 [] s σ
  | some (_, _, al) => ordAll (fun is => opsW C ops (fun s σ => Q .normal s σ) (altL ops is) 0 [] s σ) al
 | _, _, _, _ => False
theorem Wp_seq {C : Cx} {a b : Code} {Q : Ex → St → Mem → Prop} {s : St} {σ : Mem} : Wp C (.seq a b) Q s σ = Wp C a (fun e s σ => match e with
  | .normal => thru C a b (fun s σ => Wp C b Q s σ) s σ
  | .exit i => Q (.exit i) s σ
  | .ret => Q .ret s σ) s σ := jW_eq
def resW (C : Cx) : List ResultVar → St → (List Value → Prop) → Prop
 | [], _, K => K []
 | .tmp t :: rs, s, K => resW C rs s fun vs => K (s.t t :: vs)
 | .cell a t :: rs, s, K => match C.loc.lookup a with
  | some k => xO (gLoad (tSz C.P t) (tAgg C.P t) [s.t a] (s.l k)) fun v => resW C rs s fun vs => K (v :: vs)
  | none => False
def tupV : List Value → Value
 | [v] => v
 | vs => .tuple vs.toArray
def FnW (C : Cx) (fn : Func) (c : Code) (args : List Value) (K : Value → Mem → Prop) (σ : Mem) : Prop :=
 Wp C c (fun e s σ' => match e with
  | .exit _ => False
  | .normal => resW C fn.results.toList s fun vs => K (tupV vs) σ'
  | .ret => resW C fn.results.toList s fun vs => K (tupV vs) σ') ⟨fun i => args.getD i undef, fun _ => []⟩ σ
def Det (all : Bool) {α : Type} (W : (α → Mem → Prop) → Mem → Prop) : Prop :=
 ∀ σ, (∀ K τ, (all = false → τ = σ) → ¬ W K τ) ∨ ∃ r, ∀ K τ, (all = false → τ = σ) → (W K τ ↔ K r τ)
def NewD {α : Type} (W : (α → Mem → Prop) → Mem → Prop) : Prop :=
 (∀ K τ, ¬ W K τ) ∨ ∃ (c : List Value) (v : Nat → α), ∀ K τ, W K τ ↔ ∀ id, τ.get id = none → K (v id) (τ.set id ⟨c, true⟩)
structure Good (c : Cls) (S : Spec) : Prop where
 mono : ∀ args K K' σ, (∀ v τ, K v τ → K' v τ) → S args K σ → S args K' σ
 live : ∀ args K σ, S args K σ → ∃ v τ, K v τ
 none : c = .none → ∀ args, Det true (S args)
 read : c = .read → ∀ args, Det false (S args)
 new : c = .new → ∀ args, NewD (S args)
theorem Mem.fresh (σ : Mem) : ∃ i, σ.get i = none := let ⟨N, h⟩ := σ.fin; ⟨N, h N (Nat.le_refl N)⟩
theorem good_load (sz : Nat) (ag : Bool) : Good .read (hLoad sz ag) := by
 constructor
 ·intro args K K' σ h hs
  unfold hLoad at *
  split at hs
  rotate_left
  ·exact hs.elim
  split at hs
  ·exact h _ _ hs
  ·exact hs.elim
 ·intro args K σ hs
  unfold hLoad at hs
  split at hs
  rotate_left
  ·exact hs.elim
  split at hs
  ·exact ⟨_, _, hs⟩
  ·exact hs.elim
 ·intro h; cases h
 ·intro _ args σ
  unfold hLoad
  split
  ·rename_i b o
   cases hr : rd σ b o sz ag with
   | none => exact .inl fun K τ hτ h => by cases hτ rfl; rw [hr] at h; exact h
   | some v => exact .inr ⟨v, fun K τ hτ => by cases hτ rfl; rw [hr]⟩
  ·exact .inl fun K τ _ h => h
 ·intro h; cases h
theorem good_store (sz : Nat) : Good .write (hStore sz) := by
 constructor
 ·intro args K K' σ h hs
  unfold hStore at *
  split at hs
  rotate_left
  ·exact hs.elim
  split at hs
  ·exact h _ _ hs
  ·exact hs.elim
 ·intro args K σ hs
  unfold hStore at hs
  split at hs
  rotate_left
  ·exact hs.elim
  split at hs
  ·exact ⟨_, _, hs⟩
  ·exact hs.elim
 ·intro h; cases h
 ·intro h; cases h
 ·intro h; cases h
theorem newB_mono {c : List Value} {v : Nat → Value} {K K' : Value → Mem → Prop} {σ : Mem} (h : ∀ v τ, K v τ → K' v τ)
  (hs : newB c v K σ) : newB c v K' σ := fun id hid => h _ _ (hs id hid)
theorem newB_live {c : List Value} {v : Nat → Value} {K : Value → Mem → Prop} {σ : Mem} (hs : newB c v K σ) : ∃ v τ, K v τ :=
 let ⟨i, hi⟩ := σ.fresh; ⟨_, _, hs i hi⟩
theorem good_alloc (z : List Value) : Good .new (hAlloc z) := by
 constructor
 ·intro args K K' σ h hs
  unfold hAlloc at *
  split at hs
  ·exact newB_mono h hs
  ·exact hs.elim
 ·intro args K σ hs
  unfold hAlloc at hs
  split at hs
  ·exact newB_live hs
  ·exact hs.elim
 ·intro h; cases h
 ·intro h; cases h
 ·intro _ args
  unfold hAlloc
  split
  ·exact .inr ⟨_, _, fun K τ => Iff.rfl⟩
  ·exact .inl fun K τ h => h
theorem good_box (sz : Nat) : Good .new (hBox sz) := by
 constructor
 ·intro args K K' σ h hs
  unfold hBox at *
  split at hs
  rotate_left
  ·exact hs.elim
  split at hs
  ·exact newB_mono h hs
  ·exact hs.elim
 ·intro args K σ hs
  unfold hBox at hs
  split at hs
  rotate_left
  ·exact hs.elim
  split at hs
  ·exact newB_live hs
  ·exact hs.elim
 ·intro h; cases h
 ·intro h; cases h
 ·intro _ args
  unfold hBox
  split
  ·split
   ·exact .inr ⟨_, _, fun K τ => Iff.rfl⟩
   ·exact .inl fun K τ h => h
  ·exact .inl fun K τ h => h
theorem good_buildS (es len : Nat) (z : List Value) (idx : List Nat) : Good .new (hBuildS es len z idx) := by
 constructor
 ·intro args K K' σ h hs
  unfold hBuildS at *
  split at hs
  ·exact newB_mono h hs
  ·exact hs.elim
 ·intro args K σ hs
  unfold hBuildS at hs
  split at hs
  ·exact newB_live hs
  ·exact hs.elim
 ·intro h; cases h
 ·intro h; cases h
 ·intro _ args
  unfold hBuildS
  split
  ·exact .inr ⟨_, _, fun K τ => Iff.rfl⟩
  ·exact .inl fun K τ h => h
theorem good_makeS (es b : Nat) (z : List Value) : Good .new (hMakeS es b z) := by
 constructor
 ·intro args K K' σ h hs
  unfold hMakeS at *
  split at hs
  rotate_left
  ·exact hs.elim
  split at hs
  rotate_left
  ·exact hs.elim
  rename_i hn
  rw [if_pos hn]
  exact newB_mono h hs
 ·intro args K σ hs
  unfold hMakeS at hs
  split at hs
  rotate_left
  ·exact hs.elim
  split at hs
  ·exact newB_live hs
  ·exact hs.elim
 ·intro h; cases h
 ·intro h; cases h
 ·intro _ args
  unfold hMakeS
  split
  ·split
   ·exact .inr ⟨_, _, fun K τ => Iff.rfl⟩
   ·exact .inl fun K τ h => h
  ·exact .inl fun K τ h => h
theorem app_mono {es n : Nat} {new : List Value} {s : Value} {K K' : Value → Mem → Prop} {σ : Mem} (h : ∀ v τ, K v τ → K' v τ)
  (hs : app es n new s K σ) : app es n new s K' σ := by
 unfold app at *
 split at hs
 ·split at hs
  ·rename_i hn
   rw [if_pos hn]
   exact h _ _ hs
  ·rename_i hn
   rw [if_neg hn]
   split at hs
   ·rename_i hn
    rw [if_pos hn]
    exact newB_mono h hs
   ·exact hs.elim
 ·split at hs
  ·split at hs
   ·rename_i hn
    rw [if_pos hn]
    exact newB_mono (fun v τ hk => h _ _ hk) hs
   ·exact hs.elim
  ·exact hs.elim
 ·exact hs.elim
theorem app_live {es n : Nat} {new : List Value} {s : Value} {K : Value → Mem → Prop} {σ : Mem} (hs : app es n new s K σ) : ∃ v τ, K v τ := by
 unfold app at hs
 split at hs
 ·split at hs
  ·exact ⟨_, _, hs⟩
  ·split at hs
   ·exact newB_live hs
   ·exact hs.elim
 ·split at hs
  ·split at hs
   ·obtain ⟨v, τ, h⟩ := newB_live hs
    exact ⟨_, _, h⟩
   ·exact hs.elim
  ·exact hs.elim
 ·exact hs.elim
theorem good_append (es b : Nat) : Good .write (hAppend es b) := by
 constructor
 ·intro args K K' σ h hs
  unfold hAppend at *
  split at hs
  rotate_left
  ·exact hs.elim
  split at hs
  rotate_left
  ·exact hs.elim
  split at hs
  rotate_left
  ·exact hs.elim
  rename_i hn
  rw [if_pos hn]
  exact app_mono h hs
 ·intro args K σ hs
  unfold hAppend at hs
  split at hs
  rotate_left
  ·exact hs.elim
  split at hs
  rotate_left
  ·exact hs.elim
  split at hs
  ·exact app_live hs
  ·exact hs.elim
 ·intro h; cases h
 ·intro h; cases h
 ·intro h; cases h
theorem good_appendL (es b : Nat) (cs : List Value) : Good .write (hAppendL es b cs) := by
 constructor
 ·intro args K K' σ h hs
  unfold hAppendL at *
  split at hs
  rotate_left
  ·exact hs.elim
  split at hs
  rotate_left
  ·exact hs.elim
  rename_i hn
  rw [if_pos hn]
  exact app_mono h hs
 ·intro args K σ hs
  unfold hAppendL at hs
  split at hs
  rotate_left
  ·exact hs.elim
  split at hs
  ·exact app_live hs
  ·exact hs.elim
 ·intro h; cases h
 ·intro h; cases h
 ·intro h; cases h
def Cx.good (C : Cx) : Prop := ∀ g c S, C.T.lookup g = some (c, S) → Good c S
def Sm.good : Sm → Prop
 | .h c r => Good c r
 | .hl c _ r => ∀ cs, Good c (r cs)
 | _ => True
theorem atF_f {C : Cx} {o : Oper} {p : List Operand × Sm} (h : atF C o = some p) : ∃ g, p.2 = .f g ∧ fOf C o.op = some (p.1, g) := by
 unfold atF at h
 split at h
 ·rename_i xs g hf
  split at h
  ·split at h
   ·cases h; exact ⟨g, rfl, hf⟩
   ·cases h
  ·split at h
   ·split at h
    ·cases h; exact ⟨g, rfl, hf⟩
    ·cases h
   ·cases h
 ·cases h
theorem atNew_good {C : Cx} {o : Oper} {xs : List Operand} {l : Nat → Sm} {hh : Sm} {p : List Operand × Sm}
  (h : atNew C o xs l hh = some p) (hl : ∀ k, (l k).good) (h' : hh.good) : p.2.good := by
 unfold atNew at h
 split at h
 ·split at h
  ·split at h
   ·cases h; exact hl _
   ·cases h
  ·split at h
   ·cases h; exact h'
   ·cases h
 ·cases h
theorem invTab_mem {C : Cx} {name : String} {t : Nat} {S : Spec} (h : (invTab C name).lookup t = some S) : ∃ g c, (name, t, g) ∈ C.inv ∧ C.T.lookup g = some (c, S) := by
 unfold invTab at h
 generalize C.inv = L at h ⊢
 induction L with
 | nil => cases h
 | cons e l ih =>
  obtain ⟨n, t', g⟩ := e
  simp only [List.filterMap_cons] at h
  split at h
  ·obtain ⟨g', c, h1, h2⟩ := ih h
   exact ⟨g', c, List.mem_cons_of_mem _ h1, h2⟩
  ·rename_i x hx
   split at hx
   ·rename_i hn
    split at hx
    ·rename_i y hy
     cases hx
     simp only [List.lookup_cons] at h
     split at h
     ·rename_i hb
      cases h
      have e1 : t = t' := by simpa using hb
      have e2 : n = name := by simpa using hn
      subst e1; subst e2
      exact ⟨g, y.1, List.mem_cons_self .., by rw [hy]⟩
     ·obtain ⟨g', c, h1, h2⟩ := ih h
      exact ⟨g', c, List.mem_cons_of_mem _ h1, h2⟩
    ·cases hx
   ·cases hx
theorem good_inv {tbl : List (Nat × Spec)} (h : ∀ t S, tbl.lookup t = some S → ∃ c, Good c S) : Good .write (hInv tbl) := by
 refine ⟨fun args K K' σ hk hs => ?_, fun args K σ hs => ?_, (fun h => by cases h), (fun h => by cases h), (fun h => by cases h)⟩
 ·unfold hInv at hs ⊢
  split at hs
  ·split at hs
   ·rename_i S hS
    obtain ⟨c, hg⟩ := h _ _ hS
    exact hg.mono _ _ _ _ hk hs
   ·exact hs
  ·exact hs
 ·unfold hInv at hs
  split at hs
  ·split at hs
   ·rename_i S hS
    obtain ⟨c, hg⟩ := h _ _ hS
    exact hg.live _ _ _ hs
   ·exact hs.elim
  ·exact hs.elim
theorem comp_good {C : Cx} (hC : C.good) {o : Oper} {p : List Operand × Sm} (h : comp C o = some p) : p.2.good := by
 have hF : ∀ {p : List Operand × Sm}, atF C o = some p → p.2.good := by
  intro p h
  obtain ⟨g, hg, _⟩ := atF_f h
  rw [hg]; trivial
 unfold comp at h
 split at h
 ·split at h
  ·exact atNew_good h (fun _ => trivial) (good_alloc _)
  ·cases h
 ·split at h
  ·exact atNew_good h (fun _ => trivial) (good_box _)
  ·cases h
 ·unfold atLoad at h
  split at h
  ·split at h
   ·cases h; trivial
   ·cases h; exact good_load _ _
  ·cases h
 ·unfold atStore at h
  split at h
  ·split at h
   ·cases h; trivial
   ·cases h; exact good_store _
  ·cases h
 ·split at h
  ·split at h
   ·split at h
    ·exact atNew_good h (fun _ => trivial) (good_buildS _ _ _ _)
    ·cases h
   ·cases h
  ·cases h
 ·split at h
  ·split at h
   ·split at h
    ·cases h; exact good_makeS _ _ _
    ·cases h
   ·cases h
  ·cases h
 ·split at h
  ·split at h
   ·unfold atAppend at h
    split at h
    ·split at h
     ·split at h
      ·split at h
       ·cases h; exact fun cs => good_appendL _ _ cs
       ·cases h; exact good_append _ _
      ·cases h
     ·cases h
    ·cases h
   ·cases h
  ·unfold atCall at h
   split at h
   ·split at h
    ·rename_i c S hl
     cases h; exact hC _ _ _ hl
    ·cases h
   ·cases h
  ·unfold atInv at h
   split at h
   ·cases h
    exact good_inv fun t S hS => let ⟨g, c, _, hl⟩ := invTab_mem hS; ⟨c, hC _ _ _ hl⟩
   ·cases h
  ·exact hF h
 ·exact hF h
theorem xF_mono {g : List Value → Option Value} {args : List Value} {K K' : Value → Prop} (h : ∀ v, K v → K' v) (hs : xF g args K) : xF g args K' := by
 unfold xF at *
 split at hs
 ·exact h _ hs
 ·exact hs.elim
theorem xF_live {g : List Value → Option Value} {args : List Value} {K : Value → Prop} (hs : xF g args K) : ∃ v, g args = some v ∧ K v := by
 unfold xF at hs
 split at hs
 ·exact ⟨_, by assumption, hs⟩
 ·exact hs.elim
theorem xO_mono {v : Option Value} {K K' : Value → Prop} (h : ∀ v, K v → K' v) (hs : xO v K) : xO v K' := by
 cases v with
 | none => exact hs
 | some v => exact h _ hs
theorem xC_mono {c : Option (List Value)} {K K' : List Value → Prop} (h : ∀ v, K v → K' v) (hs : xC c K) : xC c K' := by
 cases c with
 | none => exact hs
 | some c => exact h _ hs
theorem xO_live {v : Option Value} {K : Value → Prop} (hs : xO v K) : ∃ x, v = some x ∧ K x := by
 cases v with
 | none => exact hs.elim
 | some v => exact ⟨v, rfl, hs⟩
theorem xC_live {c : Option (List Value)} {K : List Value → Prop} (hs : xC c K) : ∃ x, c = some x ∧ K x := by
 cases c with
 | none => exact hs.elim
 | some c => exact ⟨c, rfl, hs⟩
theorem runSm_mono {C : Cx} {m : Sm} (hm : m.good) {d : Option Nat} {args : List Value} {s : St} {σ : Mem} {K K' : St → Mem → Prop}
  (h : ∀ s τ, K s τ → K' s τ) (hs : runSm C m d args s σ K) : runSm C m d args s σ K' := by
 cases m with
 | f g => exact xF_mono (fun v hk => h _ _ hk) hs
 | lr k g => exact xO_mono (fun v hk => h _ _ hk) hs
 | lw k fr g =>
  cases fr with
  | none => exact xC_mono (fun v hk => h _ _ hk) hs
  | some v =>
   simp only [runSm] at *
   split at hs
   ·rename_i hf; rw [if_pos hf]; exact xC_mono (fun v hk => h _ _ hk) hs
   ·exact hs.elim
 | h c r => exact Good.mono hm _ _ _ _ (fun v τ hk => h _ _ hk) hs
 | hl c k r => exact Good.mono (hm _) _ _ _ _ (fun v τ hk => h _ _ hk) hs
theorem runSm_live {C : Cx} {m : Sm} (hm : m.good) {d : Option Nat} {args : List Value} {s : St} {σ : Mem} {K : St → Mem → Prop}
  (hs : runSm C m d args s σ K) : ∃ s τ, K s τ := by
 cases m with
 | f g => obtain ⟨v, _, hv⟩ := xF_live hs; exact ⟨_, _, hv⟩
 | lr k g => obtain ⟨v, _, hv⟩ := xO_live hs; exact ⟨_, _, hv⟩
 | lw k fr g =>
  cases fr with
  | none => obtain ⟨v, _, hv⟩ := xC_live hs; exact ⟨_, _, hv⟩
  | some v =>
   simp only [runSm] at hs
   split at hs
   ·obtain ⟨v, _, hv⟩ := xC_live hs; exact ⟨_, _, hv⟩
   ·exact hs.elim
 | h c r => obtain ⟨v, τ, hv⟩ := Good.live hm _ _ _ hs; exact ⟨_, _, hv⟩
 | hl c k r => obtain ⟨v, τ, hv⟩ := Good.live (hm _) _ _ _ hs; exact ⟨_, _, hv⟩
theorem opW_mono {C : Cx} (hC : C.good) {o : Oper} {s : St} {σ : Mem} {K K' : St → Mem → Prop} (h : ∀ s τ, K s τ → K' s τ)
  (hs : opW C o s σ K) : opW C o s σ K' := by
 unfold opW at *
 split at hs
 ·rename_i xs m hc
  split at hs
  rotate_left
  ·exact hs.elim
  rename_i hd
  rw [if_pos hd]
  exact runSm_mono (comp_good hC hc) h hs
 ·exact hs.elim
theorem opW_live {C : Cx} (hC : C.good) {o : Oper} {s : St} {σ : Mem} {K : St → Mem → Prop} (hs : opW C o s σ K) : ∃ s τ, K s τ := by
 unfold opW at hs
 split at hs
 ·rename_i xs m hc
  split at hs
  rotate_left
  ·exact hs.elim
  exact runSm_live (comp_good hC hc) hs
 ·exact hs.elim
theorem xIf_mono {v : Value} {A B A' B' : Prop} (hA : A → A') (hB : B → B') (h : xIf v A B) : xIf v A' B' := by
 unfold xIf at *
 split at h <;> first | exact hA h | exact hB h | exact h.elim
theorem xIf_live {v : Value} {A B : Prop} (h : xIf v A B) : A ∨ B := by
 unfold xIf at h
 split at h <;> first | exact .inl h | exact .inr h | exact h.elim
theorem opsW_mono {C : Cx} (hC : C.good) {ops : Array Oper} {K K' : St → Mem → Prop} (h : ∀ s τ, K s τ → K' s τ) :
  ∀ (l : List Oper) (i : Nat) (dec : List (Nat × Option Bool)) (s : St) (σ : Mem), opsW C ops K l i dec s σ → opsW C ops K' l i dec s σ := by
 intro l
 induction l with
 | nil => intro i dec s σ hs; exact h _ _ hs
 | cons o rest ih =>
  intro i dec s σ hs
  unfold opsW at hs ⊢
  split at hs
  ·exact opW_mono hC (fun s τ => ih _ _ s τ) hs
  ·split at hs
   rotate_left
   ·exact hs.elim
   rename_i hg
   rw [if_pos hg]
   split at hs
   ·split at hs
    ·rename_i hb; rw [if_pos hb]; exact opW_mono hC (fun s τ => ih _ _ s τ) hs
    ·rename_i hb; rw [if_neg hb]; exact ih _ _ _ _ hs
   ·exact ih _ _ _ _ hs
   ·split at hs
    rotate_left
    ·exact hs.elim
    rename_i hb
    rw [if_pos hb]
    refine xIf_mono (fun h => ?_) (fun h => ?_) hs
    ·split at h
     ·rename_i hw; rw [if_pos hw]; exact opW_mono hC (fun s τ => ih _ _ s τ) h
     ·rename_i hw; rw [if_neg hw]; exact ih _ _ _ _ h
    ·split at h
     ·rename_i hw; rw [if_pos hw]; exact ih _ _ _ _ h
     ·rename_i hw; rw [if_neg hw]; exact opW_mono hC (fun s τ => ih _ _ s τ) h
theorem opsW_live {C : Cx} (hC : C.good) {ops : Array Oper} {K : St → Mem → Prop} :
  ∀ (l : List Oper) (i : Nat) (dec : List (Nat × Option Bool)) (s : St) (σ : Mem), opsW C ops K l i dec s σ → ∃ s τ, K s τ := by
 intro l
 induction l with
 | nil => intro i dec s σ hs; exact ⟨_, _, hs⟩
 | cons o rest ih =>
  intro i dec s σ hs
  have step : ∀ {dec : List (Nat × Option Bool)} {s : St} {σ : Mem}, opW C o s σ (fun s σ => opsW C ops K rest (i + 1) dec s σ) → ∃ s τ, K s τ := by
   intro dec s σ h
   obtain ⟨s', τ, h'⟩ := opW_live hC h
   exact ih _ _ _ _ h'
  unfold opsW at hs
  split at hs
  ·exact step hs
  ·split at hs
   rotate_left
   ·exact hs.elim
   split at hs
   ·split at hs
    ·exact step hs
    ·exact ih _ _ _ _ hs
   ·exact ih _ _ _ _ hs
   ·split at hs
    rotate_left
    ·exact hs.elim
    rcases xIf_live hs with h | h
    ·split at h
     ·exact step h
     ·exact ih _ _ _ _ h
    ·split at h
     ·exact ih _ _ _ _ h
     ·exact step h
theorem backW_mono {C : Cx} {kt kl : List Nat} {s : St} {σ : Mem} {R R' : List Value → List (List Value) → Mem → Prop} (h : ∀ ts ls σ, R ts ls σ → R' ts ls σ)
  (hs : backW C kt kl s σ R) : backW C kt kl s σ R' := by
 unfold backW at *
 split at hs
 rotate_left
 ·exact hs.elim
 rename_i hb
 rw [if_pos hb]
 exact h _ _ _ hs
theorem thru_mono {C : Cx} {a b : Code} {B B' : St → Mem → Prop} (h : ∀ s σ, B s σ → B' s σ) {s : St} {σ : Mem} (hs : thru C a b B s σ) : thru C a b B' s σ := by
 unfold thru at *
 split at hs
 ·exact backW_mono (fun _ _ _ q => h _ _ q) hs
 ·exact h _ _ hs
theorem backW_live {C : Cx} {kt kl : List Nat} {s : St} {σ : Mem} {R : List Value → List (List Value) → Mem → Prop}
  (hs : backW C kt kl s σ R) : ∃ ts ls σ, R ts ls σ := by
 unfold backW at hs
 split at hs
 ·exact ⟨_, _, _, hs⟩
 ·exact hs.elim
theorem thru_live {C : Cx} {a b : Code} {B : St → Mem → Prop} {s : St} {σ : Mem} (hs : thru C a b B s σ) : ∃ s σ, B s σ := by
 unfold thru at *
 split at hs
 ·obtain ⟨ts, ls, σ, h⟩ := backW_live hs; exact ⟨_, _, h⟩
 ·exact ⟨_, _, hs⟩
theorem xLoop_mono {F F' : (List Value → List (List Value) → Mem → Prop) → List Value → List (List Value) → Mem → Prop}
  (h : ∀ R ts ls σ, F R ts ls σ → F' R ts ls σ) {ts : List Value} {ls : List (List Value)} {σ : Mem} (hs : xLoop F ts ls σ) : xLoop F' ts ls σ :=
 fun J hJ => hs J fun ts ls σ ⟨R, hR, hF⟩ => hJ ts ls σ ⟨R, hR, h _ _ _ _ hF⟩
theorem Wp_mono {C : Cx} (hC : C.good) (c : Code) : ∀ {Q Q' : Ex → St → Mem → Prop}, (∀ e s τ, Q e s τ → Q' e s τ) → ∀ s σ, Wp C c Q s σ → Wp C c Q' s σ := by
 induction c with
 | skip => intro Q Q' h s σ hs; exact h _ _ _ hs
 | label l => intro Q Q' h s σ hs; exact h _ _ _ hs
 | exit l => intro Q Q' h s σ hs; exact h _ _ _ hs
 | ret => intro Q Q' h s σ hs; exact h _ _ _ hs
 | seq a b iha ihb =>
  intro Q Q' h s σ hs
  rw [Wp_seq] at hs ⊢
  refine iha (fun e s τ hq => ?_) s σ hs
  cases e with
  | normal => exact thru_mono (fun s σ hq => ihb h _ _ hq) hq
  | exit i => exact h _ _ _ hq
  | ret => exact h _ _ _ hq
 | cond c a b iha ihb =>
  intro Q Q' h s σ hs
  unfold Wp at hs ⊢
  split at hs
  rotate_left
  ·exact hs.elim
  rename_i hl
  rw [if_pos hl]
  exact xIf_mono (iha h _ _) (ihb h _ _) hs
 | block id c ih =>
  intro Q Q' h s σ hs
  refine ih (fun e s τ hq => ?_) s σ hs
  cases e with
  | normal => exact h _ _ _ hq
  | exit i =>
   dsimp only at *
   cases hb : Nat.beq i id
   ·rw [hb] at hq; exact h _ _ _ hq
   ·rw [hb] at hq; exact h _ _ _ hq
  | ret => exact h _ _ _ hq
 | scope c ih => intro Q Q' h s σ hs; exact ih h s σ hs
 | loop c ih =>
  intro Q Q' h s σ hs
  unfold Wp at hs ⊢
  split at hs
  rotate_left
  ·exact hs.elim
  rename_i kt kl hk
  refine backW_mono (fun ts ls σ hx => xLoop_mono (fun R ts ls σ hF => ?_) hx) hs
  refine ih (fun e s τ hq => ?_) _ _ hF
  cases e with
  | normal => exact hq
  | exit i => exact h _ _ _ hq
  | ret => exact h _ _ _ hq
 | region id ops draw =>
  intro Q Q' h s σ hs
  cases e : C.alt.lookup id with
  | none => simp only [Wp, e] at hs ⊢; exact opsW_mono hC (fun s τ => h _ s τ) _ _ _ _ _ hs
  | some x => obtain ⟨a, b, al⟩ := x; simp only [Wp, e] at hs ⊢; exact ordAll_mono (fun is hi => opsW_mono hC (fun s τ => h _ s τ) _ _ _ _ _ hi) hs
 | rangeFunc f ps a b _ _ => intro Q Q' h s σ hs; exact hs.elim
 | goto l => intro Q Q' h s σ hs; exact hs.elim
 | refuse w => intro Q Q' h s σ hs; exact hs.elim
theorem Wp_live {C : Cx} (hC : C.good) (c : Code) : ∀ {Q : Ex → St → Mem → Prop} (s : St) (σ : Mem), Wp C c Q s σ → ∃ e s τ, Q e s τ := by
 induction c with
 | skip => intro Q s σ hs; exact ⟨_, _, _, hs⟩
 | label l => intro Q s σ hs; exact ⟨_, _, _, hs⟩
 | exit l => intro Q s σ hs; exact ⟨_, _, _, hs⟩
 | ret => intro Q s σ hs; exact ⟨_, _, _, hs⟩
 | seq a b iha ihb =>
  intro Q s σ hs
  rw [Wp_seq] at hs
  obtain ⟨e, s', τ, hq⟩ := iha s σ hs
  cases e with
  | normal => obtain ⟨s2, τ2, hq2⟩ := thru_live hq; exact ihb _ _ hq2
  | exit i => exact ⟨_, _, _, hq⟩
  | ret => exact ⟨_, _, _, hq⟩
 | cond c a b iha ihb =>
  intro Q s σ hs
  unfold Wp at hs
  split at hs
  rotate_left
  ·exact hs.elim
  rcases xIf_live hs with h | h
  ·exact iha _ _ h
  ·exact ihb _ _ h
 | block id c ih =>
  intro Q s σ hs
  obtain ⟨e, s', τ, hq⟩ := ih s σ hs
  cases e with
  | normal => exact ⟨_, _, _, hq⟩
  | exit i =>
   dsimp only at hq
   cases hb : Nat.beq i id
   ·rw [hb] at hq; exact ⟨_, _, _, hq⟩
   ·rw [hb] at hq; exact ⟨_, _, _, hq⟩
  | ret => exact ⟨_, _, _, hq⟩
 | scope c ih => intro Q s σ hs; exact ih s σ hs
 | loop c ih =>
  intro Q s σ hs
  unfold Wp at hs
  split at hs
  rotate_left
  ·exact hs.elim
  rename_i kt kl hk
  obtain ⟨ts, ls, σ', hl⟩ := backW_live hs
  refine hl (fun _ _ _ => ∃ e s τ, Q e s τ) fun ts ls σ ⟨R, hR, hF⟩ => ?_
  obtain ⟨e, s', τ, hq⟩ := ih _ _ hF
  cases e with
  | normal =>
   obtain ⟨ts', ls', σ', h⟩ := backW_live hq
   exact hR _ _ _ h
  | exit i => exact ⟨_, _, _, hq⟩
  | ret => exact ⟨_, _, _, hq⟩
 | region id ops draw =>
  intro Q s σ hs
  cases e : C.alt.lookup id with
  | none => simp only [Wp, e] at hs; obtain ⟨s', τ, h⟩ := opsW_live hC _ _ _ _ _ hs; exact ⟨_, _, _, h⟩
  | some x => obtain ⟨a, b, al⟩ := x; simp only [Wp, e] at hs; obtain ⟨is, hi⟩ := ordAll_live hs; obtain ⟨s', τ, h⟩ := opsW_live hC _ _ _ _ _ hi; exact ⟨_, _, _, h⟩
 | rangeFunc f ps a b _ _ => intro Q s σ hs; exact hs.elim
 | goto l => intro Q s σ hs; exact hs.elim
 | refuse w => intro Q s σ hs; exact hs.elim
def clsOk (all : Bool) : Cls → Bool
 | .none => true
 | .read => !all
 | .new => false
 | .write => false
def smCls : Sm → Cls
 | .h c _ | .hl c _ _ => c
 | _ => .none
theorem Det.weak {all : Bool} {α : Type} {W : (α → Mem → Prop) → Mem → Prop} (h : Det true W) : Det all W := by
 intro σ
 rcases h σ with h | ⟨r, h⟩
 ·exact .inl fun K τ _ => h K τ (fun h => by cases h)
 ·exact .inr ⟨r, fun K τ _ => h K τ (fun h => by cases h)⟩
theorem Det.of_good {c : Cls} {S : Spec} (hg : Good c S) {all : Bool} (hc : clsOk all c = true) (args : List Value) : Det all (S args) := by
 cases c with
 | none => exact (hg.none rfl args).weak
 | read =>
  have : all = false := by simpa [clsOk] using hc
  subst this
  exact hg.read rfl args
 | new => cases hc
 | write => cases hc
theorem Det.bind {all : Bool} {α β : Type} {W : (α → Mem → Prop) → Mem → Prop} {W' : α → (β → Mem → Prop) → Mem → Prop} (h : Det all W) (h' : ∀ r, Det all (W' r)) :
  Det all (fun K σ => W (fun r σ => W' r K σ) σ) := by
 intro σ
 rcases h σ with h | ⟨r, h⟩
 ·exact .inl fun K τ hτ => h _ τ hτ
 ·rcases h' r σ with h' | ⟨r', h'⟩
  ·exact .inl fun K τ hτ hw => h' K τ hτ ((h _ τ hτ).1 hw)
  ·exact .inr ⟨r', fun K τ hτ => (h _ τ hτ).trans (h' K τ hτ)⟩
theorem Det.ret {all : Bool} {α : Type} (r : α) : Det all (fun (K : α → Mem → Prop) σ => K r σ) := fun σ => .inr ⟨r, fun K τ _ => Iff.rfl⟩
theorem Det.no {all : Bool} {α : Type} : Det all (fun (_ : α → Mem → Prop) _ => False) := fun σ => .inl fun K τ _ h => h
theorem Det.map {all : Bool} {α β : Type} {W : (α → Mem → Prop) → Mem → Prop} (h : Det all W) (f : α → β) : Det all (fun (K : β → Mem → Prop) σ => W (fun r σ => K (f r) σ) σ) :=
 h.bind (W' := fun r K σ => K (f r) σ) fun r => Det.ret (f r)
theorem xO_det {all : Bool} {α : Type} (v : Option Value) (f : Value → α) : Det all (fun (K : α → Mem → Prop) σ => xO v fun v => K (f v) σ) := by
 cases v with
 | none => exact Det.no
 | some v => exact Det.ret _
theorem xC_det {all : Bool} {α : Type} (v : Option (List Value)) (f : List Value → α) : Det all (fun (K : α → Mem → Prop) σ => xC v fun v => K (f v) σ) := by
 cases v with
 | none => exact Det.no
 | some v => exact Det.ret _
theorem runSm_det {C : Cx} {all : Bool} {m : Sm} (hm : m.good) (hc : clsOk all (smCls m) = true) (d : Option Nat) (args : List Value) (s : St) :
  Det all (fun K σ => runSm C m d args s σ K) := by
 cases m with
 | f g =>
  simp only [runSm, xF]
  cases g args with
  | none => exact Det.no
  | some v => exact Det.ret _
 | lr k g => exact xO_det _ _
 | lw k fr g =>
  cases fr with
  | none => exact xC_det _ _
  | some v =>
   simp only [runSm]
   split
   ·exact xC_det _ _
   ·exact Det.no
 | h c r => exact (Det.of_good hm hc args).map fun v => s.put d v
 | hl c k r => exact (Det.of_good (hm _) hc args).map fun v => s.put d v
def opCls (C : Cx) (o : Oper) : Cls :=
 match comp C o with
 | some (_, m) => smCls m
 | none => .none
theorem opW_det {C : Cx} (hC : C.good) {all : Bool} {o : Oper} (hc : clsOk all (opCls C o) = true) (s : St) : Det all (fun K σ => opW C o s σ K) := by
 unfold opCls at hc
 simp only [opW]
 cases hcm : comp C o with
 | none => exact Det.no
 | some p =>
  obtain ⟨xs, m⟩ := p
  simp only [hcm] at hc ⊢
  split
  ·exact runSm_det (comp_good hC hcm) hc _ _ _
  ·exact Det.no
def quietL (C : Cx) (all : Bool) (l : List Oper) : Bool := l.all fun o => clsOk all (opCls C o)
def quietC (C : Cx) (all : Bool) : Code → Bool
 | .skip | .label _ | .exit _ | .ret => true
 | .seq a b | .cond _ a b => quietC C all a && quietC C all b
 | .block _ c | .scope c => quietC C all c
 | .region id ops _ => (C.alt.lookup id).isNone && quietL C all ops.toList
 | _ => false
theorem xIf_det {all : Bool} {α : Type} (v : Value) {A B : (α → Mem → Prop) → Mem → Prop} (hA : Det all A) (hB : Det all B) : Det all (fun K σ => xIf v (A K σ) (B K σ)) := by
 unfold xIf
 split
 ·exact hA
 ·exact hB
 ·exact Det.no
theorem opsW_det {C : Cx} (hC : C.good) {all : Bool} {ops : Array Oper} : ∀ (l : List Oper), quietL C all l = true → ∀ (i : Nat) (dec : List (Nat × Option Bool)) (s : St),
  Det all (fun K σ => opsW C ops K l i dec s σ) := by
 intro l
 induction l with
 | nil => intro _ i dec s; exact Det.ret s
 | cons o rest ih =>
  intro hq i dec s
  simp only [quietL, List.all_cons, Bool.and_eq_true] at hq
  have step : ∀ (dec : List (Nat × Option Bool)) (s : St), Det all (fun K σ => opW C o s σ (fun s σ => opsW C ops K rest (i + 1) dec s σ)) :=
   fun dec s => (opW_det hC hq.1 s).bind (W' := fun s K σ => opsW C ops K rest (i + 1) dec s σ) fun s => ih hq.2 _ _ _
  have ih' := ih hq.2
  unfold opsW
  split
  ·exact step _ _
  ·split
   ·split
    ·split
     ·exact step _ _
     ·exact ih' _ _ _
    ·exact ih' _ _ _
    ·split
     ·refine xIf_det _ ?_ ?_
      ·split
       ·exact step _ _
       ·exact ih' _ _ _
      ·split
       ·exact ih' _ _ _
       ·exact step _ _
     ·exact Det.no
   ·exact Det.no
theorem thru_det {C : Cx} {a b : Code} {all : Bool} {α : Type} {W' : St → (α → Mem → Prop) → Mem → Prop} (h : ∀ s, Det all (W' s)) (s : St) :
  Det all (fun K σ => thru C a b (fun s σ => W' s K σ) s σ) := by
 unfold thru
 split
 ·unfold backW
  split
  ·exact h _
  ·exact Det.no
 ·exact h s
theorem Wp_det {C : Cx} (hC : C.good) {all : Bool} (c : Code) : quietC C all c = true → ∀ (s : St),
  Det all (fun (K : Ex × St → Mem → Prop) σ => Wp C c (fun e s σ => K (e, s) σ) s σ) := by
 induction c with
 | skip => intro _ s; exact Det.ret (Ex.normal, s)
 | label l => intro _ s; exact Det.ret (Ex.normal, s)
 | exit l => intro _ s; exact Det.ret (Ex.exit l, s)
 | ret => intro _ s; exact Det.ret (Ex.ret, s)
 | seq a b iha ihb =>
  intro hq s
  simp only [quietC, Bool.and_eq_true] at hq
  simp only [Wp_seq]
  exact (iha hq.1 s).bind (W' := fun x (K : Ex × St → Mem → Prop) σ => match x.1 with
   | .normal => thru C a b (fun s σ => Wp C b (fun e s σ => K (e, s) σ) s σ) x.2 σ
   | .exit i => K (.exit i, x.2) σ
   | .ret => K (.ret, x.2) σ) fun x => by
    obtain ⟨e, s'⟩ := x
    cases e with
    | normal => exact thru_det (W' := fun s (K : Ex × St → Mem → Prop) σ => Wp C b (fun e s σ => K (e, s) σ) s σ) (ihb hq.2) s'
    | exit i => exact Det.ret (Ex.exit i, s')
    | ret => exact Det.ret (Ex.ret, s')
 | cond c a b iha ihb =>
  intro hq s
  simp only [quietC, Bool.and_eq_true] at hq
  unfold Wp
  split
  ·exact xIf_det _ (iha hq.1 s) (ihb hq.2 s)
  ·exact Det.no
 | block id c ih =>
  intro hq s
  exact (ih hq s).bind (W' := fun x (K : Ex × St → Mem → Prop) σ => match x.1 with
   | .normal => K (.normal, x.2) σ
   | .exit i => bif Nat.beq i id then K (.normal, x.2) σ else K (.exit i, x.2) σ
   | .ret => K (.ret, x.2) σ) fun x => by
    obtain ⟨e, s'⟩ := x
    cases e with
    | normal => exact Det.ret (Ex.normal, s')
    | exit i =>
     dsimp only
     cases Nat.beq i id
     ·exact Det.ret (Ex.exit i, s')
     ·exact Det.ret (Ex.normal, s')
    | ret => exact Det.ret (Ex.ret, s')
 | scope c ih => intro hq s; exact ih hq s
 | region id ops draw =>
  intro hq s
  simp only [quietC, Bool.and_eq_true] at hq
  cases e : C.alt.lookup id with
  | none => simp only [Wp, e]; exact (opsW_det hC _ hq.2 0 [] s).map fun s => (Ex.normal, s)
  | some x => rw [e] at hq; cases hq.1
 | loop c _ => intro hq; cases hq
 | rangeFunc f ps a b _ _ => intro hq; cases hq
 | goto l => intro hq; cases hq
 | refuse w => intro hq; cases hq
theorem resW_mono {C : Cx} : ∀ {rs : List ResultVar} {s : St} {K K' : List Value → Prop}, (∀ vs, K vs → K' vs) → resW C rs s K → resW C rs s K'
 | [], s, K, K', h, hs => h _ hs
 | .tmp t :: rs, s, K, K', h, hs => resW_mono (rs := rs) (fun vs hk => h _ hk) hs
 | .cell a t :: rs, s, K, K', h, hs => by
  unfold resW at hs ⊢
  split at hs
  ·exact xO_mono (fun v hk => resW_mono (rs := rs) (fun vs hk => h _ hk) hk) hs
  ·exact hs.elim
theorem resW_live {C : Cx} : ∀ {rs : List ResultVar} {s : St} {K : List Value → Prop}, resW C rs s K → ∃ vs, K vs
 | [], s, K, hs => ⟨_, hs⟩
 | .tmp t :: rs, s, K, hs => let ⟨_, h⟩ := resW_live (rs := rs) hs; ⟨_, h⟩
 | .cell a t :: rs, s, K, hs => by
  unfold resW at hs
  split at hs
  ·obtain ⟨v, _, hv⟩ := xO_live hs
   obtain ⟨vs, h⟩ := resW_live (rs := rs) hv
   exact ⟨_, h⟩
  ·exact hs.elim
theorem resW_det {C : Cx} {all : Bool} : ∀ (rs : List ResultVar) (s : St), Det all (fun (K : List Value → Mem → Prop) σ => resW C rs s fun vs => K vs σ)
 | [], s => Det.ret []
 | .tmp t :: rs, s => (resW_det rs s).map fun vs => s.t t :: vs
 | .cell a t :: rs, s => by
  unfold resW
  split
  ·rename_i k _
   cases gLoad (tSz C.P t) (tAgg C.P t) [s.t a] (s.l k) with
   | none => exact Det.no
   | some v => exact (resW_det rs s).map fun vs => v :: vs
  ·exact Det.no
theorem FnW_good {C : Cx} (hC : C.good) (fn : Func) (c : Code) (cl : Cls) (hq : cl = .none → quietC C true c = true) (hr : cl = .read → quietC C false c = true) (hn : cl ≠ .new) :
  Good cl (FnW C fn c) := by
 have det : ∀ all, quietC C all c = true → ∀ args, Det all (FnW C fn c args) := by
  intro all hq args
  exact (Wp_det hC c hq ⟨fun i => args.getD i undef, fun _ => []⟩).bind (W' := fun x (K : Value → Mem → Prop) σ' => match x.1 with
   | .exit _ => False
   | .normal => resW C fn.results.toList x.2 fun vs => K (tupV vs) σ'
   | .ret => resW C fn.results.toList x.2 fun vs => K (tupV vs) σ') fun x => by
    obtain ⟨e, s'⟩ := x
    cases e with
    | normal => exact (resW_det fn.results.toList s').map tupV
    | exit i => exact Det.no
    | ret => exact (resW_det fn.results.toList s').map tupV
 constructor
 ·intro args K K' σ h hs
  refine Wp_mono hC c (fun e s τ hq => ?_) _ _ hs
  cases e with
  | exit i => exact hq
  | normal => exact resW_mono (fun vs hk => h _ _ hk) hq
  | ret => exact resW_mono (fun vs hk => h _ _ hk) hq
 ·intro args K σ hs
  obtain ⟨e, s, τ, hq⟩ := Wp_live hC c _ _ hs
  cases e with
  | exit i => exact hq.elim
  | normal => obtain ⟨vs, h⟩ := resW_live hq; exact ⟨_, _, h⟩
  | ret => obtain ⟨vs, h⟩ := resW_live hq; exact ⟨_, _, h⟩
 ·intro h args; exact det true (hq h) args
 ·intro h args; exact det false (hr h) args
 ·intro h; exact absurd h hn
end Go.Fl
namespace Go.Fl
open Go
set_option linter.unusedVariables false
set_option linter.unusedSimpArgs false
def Ren.le (ρ ρ' : Ren) : Prop := ∀ i e, ρ i = some e → ρ' i = some e
theorem V.mono {ρ ρ' : Ren} (hr : ρ.le ρ') {v v' : Value} (h : V ρ v v') : V ρ' v v' := by
 induction h with
 | poi v' => exact .poi v'
 | bool b => exact .bool b
 | int k n => exact .int k n
 | str s => exact .str s
 | nilP => exact .nilP
 | ptr h => exact .ptr (hr _ _ h)
 | nilS => exact .nilS
 | sl h hl hc => exact .sl (hr _ _ h) hl hc
 | slE => exact .slE
 | agg h _ ih => exact .agg h ih
 | tup h _ ih => exact .tup h ih
 | nilI => exact .nilI
 | iface t _ ih => exact .iface t ih
 | nilF => exact .nilF
inductive VL (ρ : Ren) : List Value → List Value → Prop
 | nil : VL ρ [] []
 | cons {x x' : Value} {xs xs' : List Value} (h : V ρ x x') (hs : VL ρ xs xs') : VL ρ (x :: xs) (x' :: xs')
theorem VL.mono {ρ ρ' : Ren} (hr : ρ.le ρ') {v v' : List Value} (h : VL ρ v v') : VL ρ' v v' := by
 induction h with
 | nil => exact .nil
 | cons h _ ih => exact .cons (h.mono hr) ih
theorem VL.len {ρ : Ren} {v v' : List Value} (h : VL ρ v v') : v.length = v'.length := by
 induction h with
 | nil => rfl
 | cons _ _ ih => simp [ih]
theorem VL.get {ρ : Ren} {v v' : List Value} (h : VL ρ v v') {i : Nat} {x : Value} (hx : v[i]? = some x) : ∃ x', v'[i]? = some x' ∧ V ρ x x' := by
 induction h generalizing i with
 | nil => simp at hx
 | cons h _ ih =>
  cases i with
  | zero => simp at hx; subst hx; exact ⟨_, by simp, h⟩
  | succ i => simp at hx; obtain ⟨x', h1, h2⟩ := ih hx; exact ⟨x', by simpa using h1, h2⟩
theorem VL.of_get {ρ : Ren} : ∀ {v v' : List Value}, v.length = v'.length → (∀ (i : Nat) (x x' : Value), v[i]? = some x → v'[i]? = some x' → V ρ x x') → VL ρ v v'
 | [], [], _, _ => .nil
 | x :: xs, x' :: xs', hl, h => .cons (h 0 x x' rfl rfl) (VL.of_get (by simpa using hl) fun i y y' hy hy' => h (i + 1) y y' (by simpa using hy) (by simpa using hy'))
 | [], _ :: _, hl, _ => by simp at hl
 | _ :: _, [], hl, _ => by simp at hl
theorem VL.append {ρ : Ren} {a a' b b' : List Value} (h : VL ρ a a') (k : VL ρ b b') : VL ρ (a ++ b) (a' ++ b') := by
 induction h with
 | nil => exact k
 | cons h _ ih => exact .cons h ih
theorem VL.take {ρ : Ren} {a a' : List Value} (h : VL ρ a a') (n : Nat) : VL ρ (a.take n) (a'.take n) := by
 induction h generalizing n with
 | nil => simp; exact .nil
 | cons h _ ih =>
  cases n with
  | zero => simp; exact .nil
  | succ n => simp; exact .cons h (ih n)
theorem VL.drop {ρ : Ren} {a a' : List Value} (h : VL ρ a a') (n : Nat) : VL ρ (a.drop n) (a'.drop n) := by
 induction h generalizing n with
 | nil => simp; exact .nil
 | cons h hs ih =>
  cases n with
  | zero => simp; exact .cons h hs
  | succ n => simp; exact ih n
theorem VL.lay {ρ : Ren} {a a' b b' : List Value} (h : VL ρ a a') (k : VL ρ b b') (off : Nat) : VL ρ (lay a off b) (lay a' off b') := by
 unfold Fl.lay
 rw [k.len]
 exact ((h.take _).append k).append (h.drop _)
theorem V.agg_inv {ρ : Ren} {cs : Array Value} {v' : Value} (h : V ρ (.agg cs) v') : ∃ cs', v' = .agg cs' ∧ VL ρ cs.toList cs'.toList := by
 cases h with
 | agg h hv =>
  rename_i cs'
  refine ⟨cs', rfl, VL.of_get (by simpa using h) fun i x x' hx hx' => hv i x x' (by simpa using hx) (by simpa using hx')⟩
theorem V.agg_mk {ρ : Ren} {cs cs' : List Value} (h : VL ρ cs cs') : V ρ (.agg cs.toArray) (.agg cs'.toArray) :=
 .agg (by simp [h.len]) fun i v v' hv hv' => by
  obtain ⟨x', h1, h2⟩ := h.get (i := i) (x := v) (by simpa using hv)
  have : v' = x' := by simpa [h1] using hv'.symm
  exact this ▸ h2
theorem V.agg_mk' {ρ : Ren} {cs : List Value} {cs' : Array Value} (h : VL ρ cs cs'.toList) : V ρ (.agg cs.toArray) (.agg cs') := by
 have := V.agg_mk h
 simpa using this
theorem V.tup_mk {ρ : Ren} {cs cs' : List Value} (h : VL ρ cs cs') : V ρ (.tuple cs.toArray) (.tuple cs'.toArray) :=
 .tup (by simp [h.len]) fun i v v' hv hv' => by
  obtain ⟨x', h1, h2⟩ := h.get (i := i) (x := v) (by simpa using hv)
  have : v' = x' := by simpa [h1] using hv'.symm
  exact this ▸ h2
theorem V.undef {ρ : Ren} : V ρ undef undef := by
 have := V.tup_mk (ρ := ρ) (cs := []) (cs' := []) .nil
 simpa [Go.undef] using this
theorem V.tup_inv {ρ : Ren} {cs : Array Value} {v' : Value} (h : V ρ (.tuple cs) v') (hs : cs.size ≠ 1) : ∃ cs', v' = .tuple cs' ∧ VL ρ cs.toList cs'.toList := by
 cases h with
 | poi _ => simp at hs
 | tup h hv =>
  rename_i cs'
  refine ⟨cs', rfl, VL.of_get (by simpa using h) fun i x x' hx hx' => hv i x x' (by simpa using hx) (by simpa using hx')⟩
theorem V.const {ρ : Ren} {v : Value} (h : constOk v = true) : V ρ v v := by
 unfold constOk at h
 split at h
 ·exact .bool _
 ·exact .int _ _
 ·exact .str _
 ·exact .nilP
 ·exact .nilS
 ·exact .nilI
 ·exact .nilF
 ·cases h
theorem sub_sound {ρ : Ren} {cs cs' : List Value} (h : VL ρ cs cs') {off sz : Nat} {ag : Bool} {v : Value} (hs : sub cs off sz ag = some v) :
  off + sz ≤ cs'.length ∧ ∃ v', (if ag then some (.agg ((cs'.drop off).take sz).toArray) else cs'[off]?) = some v' ∧ V ρ v v' := by
 unfold sub at hs
 split at hs
 ·rename_i hle
  refine ⟨h.len ▸ hle, ?_⟩
  cases ag
  ·obtain ⟨x', h1, h2⟩ := h.get hs
   exact ⟨x', h1, h2⟩
  ·cases hs
   exact ⟨_, rfl, V.agg_mk ((h.drop _).take _)⟩
 ·cases hs
section
variable {P : Program} {w : World} {ρ : Ren}
theorem run_underlying' {t : TypeId} {d : TypeDesc} (h : P.underlying t = some d) : (underlying t).run P w = .ok d w := by
 simp [underlying, h]
theorem run_typeInfo' {t : TypeId} {i : TypeInfo} (h : P.info? t = some i) : (typeInfo t).run P w = .ok i w := by
 simp [typeInfo, h]
theorem known_info {t : TypeId} (h : tKnown P t = true) : ∃ i, P.info? t = some i := by
 simp only [tKnown, Bool.and_eq_true] at h
 exact Option.isSome_iff_exists.1 h.2
theorem known_desc {t : TypeId} (h : tKnown P t = true) : ∃ d, P.underlying t = some d := by
 simp only [tKnown, Bool.and_eq_true] at h
 exact Option.isSome_iff_exists.1 h.1
theorem run_sizeOf' {t : TypeId} (h : tKnown P t = true) : (sizeOf t).run P w = .ok (tSz P t) w := by
 obtain ⟨i, hi⟩ := known_info h
 simp [sizeOf, typeInfo, hi, tSz, Program.cellsOf]
theorem run_isAgg' {t : TypeId} (h : tKnown P t = true) : (isAgg t).run P w = .ok (tAgg P t) w := by
 obtain ⟨d, hd⟩ := known_desc h
 simp only [isAgg, Sem.run_bind, run_underlying' hd, Result.andThen_ok, tAgg, hd]
 cases d <;> rfl
theorem run_part' {t : TypeId} (h : tKnown P t = true) (cs : Array Value) (off : Nat) (hl : off + tSz P t ≤ cs.size) {v : Value}
  (hv : (if tAgg P t then some (.agg ((cs.toList.drop off).take (tSz P t)).toArray) else cs.toList[off]?) = some v) : (part t cs off).run P w = .ok v w := by
 simp only [part, Sem.run_bind, run_isAgg' h, Result.andThen_ok]
 cases hA : tAgg P t
 ·simp only [hA, Bool.false_eq_true, if_false] at hv ⊢
  have : cs[off]? = some v := by simpa using hv
  simp [this]
 ·simp only [hA, if_true, Option.some.injEq] at hv ⊢
  subst hv
  simp only [Sem.run_bind, run_sizeOf' h, Result.andThen_ok, Sem.run_pure]
  congr 2
  apply Array.ext'
  simp [Array.toList_extract, List.extract_eq_take_drop]
theorem V.int_inv {k : IntKind} {n : Int} {v' : Value} (h : V ρ (.int k n) v') : v' = .int k n := by cases h; rfl
theorem V.bool_inv {b : Bool} {v' : Value} (h : V ρ (.bool b) v') : v' = .bool b := by cases h; rfl
theorem add_adv {a : Addr} (h : a.spot = none) (n : Nat) : a.add n = adv a n := by
 unfold Addr.add adv
 split
 ·rename_i h0; subst h0; cases a; rfl
 ·cases a; simp at h; subst h; rfl
theorem V.ptr_inv {a : Addr} {v' : Value} (h : V ρ (.pointer (some a)) v') : ∃ a', v' = .pointer (some a') ∧ a'.spot = none ∧ a.spot = none ∧ ∀ n, V ρ (.pointer (some (adv a n))) (.pointer (some (adv a' n))) := by
 cases h with
 | ptr h =>
  refine ⟨_, rfl, rfl, rfl, fun n => ?_⟩
  simpa [adv, Nat.add_assoc] using V.ptr (o := _ + n) h
theorem VL.one {x : Value} {xs' : List Value} (h : VL ρ [x] xs') : ∃ x', xs' = [x'] ∧ V ρ x x' := by
 cases h with
 | cons h hs => cases hs; exact ⟨_, rfl, h⟩
theorem VL.two {x y : Value} {xs' : List Value} (h : VL ρ [x, y] xs') : ∃ x' y', xs' = [x', y'] ∧ V ρ x x' ∧ V ρ y y' := by
 cases h with
 | cons h hs => obtain ⟨y', rfl, hy⟩ := hs.one; exact ⟨_, _, rfl, h, hy⟩
theorem VL.three {x y z : Value} {xs' : List Value} (h : VL ρ [x, y, z] xs') : ∃ x' y' z', xs' = [x', y', z'] ∧ V ρ x x' ∧ V ρ y y' ∧ V ρ z z' := by
 cases h with
 | cons h hs => obtain ⟨y', z', rfl, hy, hz⟩ := hs.two; exact ⟨_, _, _, rfl, h, hy, hz⟩
theorem intCmp_run {op : BinOp} {k : IntKind} {a b : Int} {v : Value} (h : binI op k a b = some v) (hn : isSh op = false) :
  (binOp op 0 (.int k a) (.int k b)).run P w = .ok v w := by
 cases op <;> simp [binI, isSh] at h hn <;> simp [binOp, Op.intArith, Op.intDiv, Op.intBits, Op.intCmp, h]
 all_goals first
  | exact h.2
  | skip
theorem binOp_int {op : BinOp} {k : IntKind} {a b : Int} (t : TypeId) (hn : isSh op = false) :
  binOp op t (.int k a) (.int k b) = binOp op 0 (.int k a) (.int k b) := by
 cases op <;> simp [isSh] at hn <;> simp [binOp]
theorem sh_run {op : BinOp} {k k' : IntKind} {a b : Int} {v : Value} (t : TypeId) (hn : isSh op = true) (h : shI op k a b = some v) :
  (binOp op t (.int k a) (.int k' b)).run P w = .ok v w := by
 unfold shI at h
 split at h
 ·cases h
 ·rename_i hb
  cases op <;> simp [isSh] at hn <;> simp at h <;> subst h <;> simp [binOp, Op.shift, hb]
theorem eqGuard_int {op : BinOp} {t : TypeId} {x y : Operand} {k k' : IntKind} {a b : Int} : (eqGuard op t x y (.int k a) (.int k' b)).run P w = .ok () w := by
 unfold eqGuard
 split <;> rfl
theorem eqFields_run (d : Nat) (xs ys : Array Value) : ∀ (fs : List Field) (i : Nat) (ks : List Bool) (l m : List Value) (r : Bool),
  flatFs P fs i ks = true → xs.toList.drop i = l → ys.toList.drop i = m → eqCells ks l m = some r → (Op.eqFields (d + 1) xs ys fs).run P w = .ok r w := by
 intro fs
 induction fs with
 | nil =>
  intro i ks l m r hf hl hm he
  cases ks with
  | nil =>
   cases l with
   | nil => cases m with
    | nil => simp [eqCells] at he; subst he; simp [Op.eqFields]
    | cons _ _ => simp [eqCells] at he
   | cons _ _ => simp [eqCells] at he
  | cons _ _ => simp [flatFs] at hf
 | cons f fs ih =>
  intro i ks l m r hf hl hm he
  cases ks with
  | nil => simp [flatFs] at hf
  | cons q qs =>
   cases l with
   | nil => simp [eqCells] at he
   | cons x l => cases m with
    | nil => simp [eqCells] at he
    | cons y m =>
     simp only [flatFs, Bool.and_eq_true, Bool.not_eq_true', beq_eq_false_iff_ne, beq_iff_eq] at hf
     obtain ⟨⟨⟨⟨hn, ho⟩, hk⟩, hq⟩, hr⟩ := hf
     simp only [eqCells] at he
     split at he
     ·rename_i b1 b2 he1 he2
      simp at he
      have hx : xs.toList[i]? = some x := by have := congrArg (fun l => l[0]?) hl; simpa using this
      have hy : ys.toList[i]? = some y := by have := congrArg (fun l => l[0]?) hm; simpa using this
      have hl' : xs.toList.drop (i + 1) = l := by have := congrArg List.tail hl; simpa using this
      have hm' : ys.toList.drop (i + 1) = m := by have := congrArg List.tail hm; simpa using this
      have ix : i < xs.size := by have := (List.getElem?_eq_some_iff.1 hx).1; simpa using this
      have iy : i < ys.size := by have := (List.getElem?_eq_some_iff.1 hy).1; simpa using this
      have hA : tAgg P f.type = false := by
       unfold tAgg
       cases hu : P.underlying f.type with
       | none => simp [hu] at hq
       | some dd => cases dd <;> simp [hu] at hq ⊢
      have px : (part f.type xs f.offset).run P w = .ok x w := by
       simp only [part, Sem.run_bind, run_isAgg' hk, Result.andThen_ok, hA, ho]
       have : xs[i]? = some x := by simpa using hx
       simp [this]
      have py : (part f.type ys f.offset).run P w = .ok y w := by
       simp only [part, Sem.run_bind, run_isAgg' hk, Result.andThen_ok, hA, ho]
       have : ys[i]? = some y := by simpa using hy
       simp [this]
      have pe : (Op.equalIn (d + 1) f.type x y).run P w = .ok b1 w := by
       unfold eqCell at he1
       split at he1
       ·split at he1
        ·rename_i hkk; subst hkk
         simp at he1; subst he1
         cases hu : P.underlying f.type with
         | none => simp [hu] at hq
         | some dd => cases dd with
          | int k' => exact run_equalIn_int w d f.type _ k' _ _ hu
          | _ => simp [hu] at hq
        ·cases he1
       ·simp at he1; subst he1
        cases hu : P.underlying f.type with
        | none => simp [hu] at hq
        | some dd => cases dd with
         | bool => exact run_equalIn_bool' w d f.type _ _ hu
         | _ => simp [hu] at hq
       ·cases he1
      have ih' := ih (i + 1) qs l m b2 hr hl' hm' he2
      simp only [Op.eqFields, hn, ne_eq, not_false_eq_true, if_true, Sem.run_bind, px, py, pe, Result.andThen_ok]
      cases b1
      ·simp at he ⊢; exact he
      ·simp at he ⊢; rw [ih', he]
     ·cases he
theorem eq_ptr1 (d : Nat) {t e : TypeId} (hu : P.underlying t = some (.pointer e)) (b : Option Addr) :
  (Op.equalIn (d + 1) t (.pointer none) (.pointer b)).run P w = .ok b.isNone w := by
 simp [Op.equalIn, run_underlying' hu]
theorem eq_ptr2 (d : Nat) {t e : TypeId} (hu : P.underlying t = some (.pointer e)) (a : Addr) :
  (Op.equalIn (d + 1) t (.pointer (some a)) (.pointer none)).run P w = .ok false w := by
 simp [Op.equalIn, run_underlying' hu]
theorem eqOk_bool {t : TypeId} (h : eqOk P (t, .bool) = true) : P.underlying t = some .bool := by
 unfold eqOk at h
 cases hu : P.underlying t with
 | none => simp [hu] at h
 | some d => cases d <;> simp [hu] at h ⊢
theorem eqOk_ptr {t : TypeId} (h : eqOk P (t, .ptr) = true) : ∃ e, P.underlying t = some (.pointer e) := by
 unfold eqOk at h
 cases hu : P.underlying t with
 | none => simp [hu] at h
 | some d => cases d <;> simp [hu] at h ⊢
theorem eqOk_slc {t : TypeId} (h : eqOk P (t, .slc) = true) : ∃ e, P.underlying t = some (.slice e) := by
 unfold eqOk at h
 cases hu : P.underlying t with
 | none => simp [hu] at h
 | some d => cases d <;> simp [hu] at h ⊢
theorem eq_slc (d : Nat) {t e : TypeId} (hu : P.underlying t = some (.slice e)) (a : Option Addr) (n c : Nat) :
  (Op.equalIn (d + 1) t (.slice a n c) (.slice none 0 0)).run P w = .ok a.isNone w := by
 cases a <;> simp [Op.equalIn, run_underlying' hu]
theorem eqOk_flat {t : TypeId} {ks : List Bool} (h : eqOk P (t, .flat ks) = true) :
  ∃ fs, P.underlying t = some (.struct fs) ∧ P.stoodInHeld t = false ∧ P.eqGuardType P.depth t = false ∧ flatFs P fs.toList 0 ks = true := by
 unfold eqOk at h
 cases hu : P.underlying t with
 | none => simp [hu] at h
 | some d =>
  cases d with
  | struct fs => simp [hu] at h; exact ⟨fs, rfl, h.1.1, h.1.2, h.2⟩
  | _ => simp [hu] at h
theorem eq_run {t : TypeId} {q : EqK} (hq : eqOk P (t, q) = true) {x y : Value} {b : Bool} (h : eqV q x y = some b) :
  (Op.equal t x y).run P w = .ok b w := by
 unfold Op.equal Op.maxDepth
 unfold eqV at h
 split at h
 ·simp at h; subst h
  exact run_equalIn_bool' w 9999 t _ _ (eqOk_bool hq)
 ·simp at h; subst h
  obtain ⟨e, hu⟩ := eqOk_ptr hq
  exact eq_ptr1 9999 hu _
 ·simp at h; subst h
  obtain ⟨e, hu⟩ := eqOk_ptr hq
  exact eq_ptr2 9999 hu _
 ·obtain ⟨fs, hu, h1, h2, h3⟩ := eqOk_flat hq
  have hf : P.fieldsOf t = fs := by simp [Program.fieldsOf, hu]
  rw [run_equalIn_struct w 9999 t _ _ (by rw [hf]; exact hu) h1, hf]
  exact eqFields_run 9998 _ _ fs.toList 0 _ _ _ b h3 rfl rfl (by simpa using h)
 ·simp at h; subst h
  obtain ⟨e, hu⟩ := eqOk_slc hq
  exact eq_slc 9999 hu _ _ _
 ·cases h
end
end Go.Fl
namespace Go.Fl
open Go
set_option linter.unusedVariables false
set_option linter.unusedSimpArgs false
section
variable {P : Program} {w : World} {ρ : Ren}
theorem run_fieldAt {s : TypeId} {fs : Array Field} {f : Nat} {fd : Field} (hs : P.underlying s = some (.struct fs)) (hf : fs[f]? = some fd)
  (hk : tKnown P fd.type = true) (hz : tSz P fd.type ≠ 0) {a : Addr} (ha : a.spot = none) :
  (Instr.fieldAt s (.pointer (some a)) f).run P w = .ok (.pointer (some (adv a fd.offset))) w := by
 simp only [Instr.fieldAt, Sem.run_bind, run_underlying' hs, Result.andThen_ok, hf, Instr.sureAddr, Sem.run_pure, fieldPlace, run_sizeOf' hk, Sem.run_ite, hz, if_false, add_adv ha]
theorem run_indexS {t e : TypeId} (ht : P.underlying t = some (.slice e)) (hk : tKnown P e = true) {a : Addr} (ha : a.spot = none) {n c : Nat} {k : IntKind} {i : Int}
  (h0 : 0 ≤ i) (h1 : i < (n : Int)) :
  (Instr.indexAt t (.slice (some a) n c) (.int k i)).run P w = .ok (.pointer (some (adv a (i.toNat * tSz P e)))) w := by
 simp only [Instr.indexAt, asIntOf, Sem.run_bind, Sem.run_pure, run_underlying' ht, Result.andThen_ok, h0, h1, and_self, if_true, run_sizeOf' hk, add_adv ha]
theorem run_indexA {t e : TypeId} {n : Nat} (ht : P.underlying t = some (.array n e)) (hk : tKnown P e = true) {a : Addr} (ha : a.spot = none) {k : IntKind} {i : Int}
  (h0 : 0 ≤ i) (h1 : i < (n : Int)) :
  (Instr.indexAt t (.pointer (some a)) (.int k i)).run P w = .ok (.pointer (some (adv a (i.toNat * tSz P e)))) w := by
 simp only [Instr.indexAt, asIntOf, Sem.run_bind, Sem.run_pure, run_underlying' ht, Result.andThen_ok, Instr.sureAddr, h0, h1, and_self, if_true, run_sizeOf' hk, add_adv ha]
theorem run_fieldV {s : TypeId} {fs : Array Field} {f : Nat} {fd : Field} (hs : P.underlying s = some (.struct fs)) (hf : fs[f]? = some fd)
  (hk : tKnown P fd.type = true) (cs : Array Value) (hl : fd.offset + tSz P fd.type ≤ cs.size) {v : Value}
  (hv : (if tAgg P fd.type then some (.agg ((cs.toList.drop fd.offset).take (tSz P fd.type)).toArray) else cs.toList[fd.offset]?) = some v) :
  (Instr.field s (.agg cs) f).run P w = .ok v w := by
 simp only [Instr.field, Sem.run_bind, run_underlying' hs, Result.andThen_ok, hf, asAgg, Sem.run_pure, run_part' hk cs fd.offset hl hv]
theorem run_indexV {t e : TypeId} {n : Nat} (ht : P.underlying t = some (.array n e)) (hk : tKnown P e = true) (cs : Array Value) {k : IntKind} {i : Int}
  (h0 : 0 ≤ i) (h1 : i < (n : Int)) (hl : i.toNat * tSz P e + tSz P e ≤ cs.size) {v : Value}
  (hv : (if tAgg P e then some (.agg ((cs.toList.drop (i.toNat * tSz P e)).take (tSz P e)).toArray) else cs.toList[i.toNat * tSz P e]?) = some v) :
  (Instr.index t (.agg cs) (.int k i)).run P w = .ok v w := by
 simp only [Instr.index, asIntOf, Sem.run_bind, Sem.run_pure, run_underlying' ht, Result.andThen_ok, h0, h1, and_self, if_true, run_sizeOf' hk, run_part' hk cs _ hl hv]
theorem foldl_lay (vs : List Value) : ∀ (cells : Array Value) (off n : Nat), off + n + vs.length ≤ cells.size →
  ((vs.zipIdx n).foldl (fun cs (p : Value × Nat) => cs.setIfInBounds (off + p.2) p.1) cells).toList = cells.toList.take (off + n) ++ vs ++ cells.toList.drop (off + n + vs.length) := by
 induction vs with
 | nil => intro cells off n h; simp
 | cons v vs ih =>
  intro cells off n h
  simp only [List.zipIdx_cons, List.foldl_cons]
  simp only [List.length_cons] at h
  rw [ih (cells.setIfInBounds (off + n) v) off (n + 1) (by simp; omega)]
  have hlt : off + n < cells.toList.length := by simp; omega
  simp only [Array.toList_setIfInBounds]
  rw [show off + (n + 1) = off + n + 1 from by omega]
  rw [List.take_succ_eq_append_getElem (by simpa using hlt)]
  simp only [List.getElem_set_self, List.length_cons]
  rw [List.take_set_of_le (Nat.le_refl _), List.drop_set_of_lt (by omega)]
  simp [Nat.add_assoc, Nat.add_comm 1]
theorem cells_of {v : Value} {sz : Nat} {c : List Value} (h : cellsOf v sz = some c) : v.cells.toList = c ∧ v.cells.size = sz ∧ c.length = sz := by
 unfold cellsOf at h
 split at h
 ·split at h
  ·cases h; rename_i hs; exact ⟨rfl, hs, by simpa using hs⟩
  ·cases h
 ·cases h
 ·split at h
  ·cases h
   rename_i h1 h2 h3
   subst h3
   have : v.cells = #[v] := by
    cases v <;> first | rfl | (exfalso; exact h1 _ rfl) | (exfalso; exact h2 _ rfl)
   rw [this]; exact ⟨rfl, rfl, rfl⟩
  ·cases h
theorem V.cells {v v' : Value} (h : V ρ v v') {sz : Nat} {c : List Value} (hc : cellsOf v sz = some c) : ∃ c', cellsOf v' sz = some c' ∧ VL ρ c c' := by
 unfold cellsOf at hc
 split at hc
 ·split at hc
  ·rename_i cs hs
   cases hc
   obtain ⟨cs', rfl, hl⟩ := h.agg_inv
   have : cs'.size = sz := by have := hl.len; simp at this; omega
   exact ⟨_, by simp [cellsOf, this], hl⟩
  ·cases hc
 ·cases hc
 ·split at hc
  ·rename_i h1 h2 h3
   cases hc
   have hn : ∀ v', V ρ v v' → (∀ cs, v' ≠ .agg cs) ∧ (∀ cs, v' ≠ .tuple cs) := by
    intro v' h
    cases h <;> first
     | (exfalso; exact h2 _ rfl)
     | (exfalso; exact h1 _ rfl)
     | exact ⟨(fun _ hh => by cases hh), (fun _ hh => by cases hh)⟩
   obtain ⟨n1, n2⟩ := hn v' h
   refine ⟨[v'], ?_, .cons h .nil⟩
   unfold cellsOf
   split
   ·exact absurd rfl (n1 _)
   ·exact absurd rfl (n2 _)
   ·simp [h3]
  ·cases hc
theorem fill_sound {places place' : Nat → Option (Nat × Nat)} (hpp : ∀ i p, places i = some p → place' i = some p) : ∀ {idx : List Nat} {cells cells' : List Value} {vs vs' : List Value} {c : List Value},
  VL ρ cells cells' → VL ρ vs vs' → fillL places cells idx vs = some c →
  ∃ c', Instr.fill place' cells'.toArray (idx.zip vs') = some c' ∧ VL ρ c c'.toList := by
 intro idx
 induction idx with
 | nil =>
  intro cells cells' vs vs' c hc hv h
  cases hv with
  | nil => simp [fillL] at h; subst h; exact ⟨cells'.toArray, by simp [Instr.fill], by simpa using hc⟩
  | cons _ _ => simp [fillL] at h
 | cons i is ih =>
  intro cells cells' vs vs' c hc hv h
  cases hv with
  | nil => simp [fillL] at h
  | cons hx hs =>
   simp only [fillL] at h
   split at h
   ·rename_i off sz hp
    split at h
    ·rename_i cc hcc
     split at h
     ·rename_i hle
      obtain ⟨cc', hcc', hl⟩ := hx.cells hcc
      obtain ⟨e1, e2, e3⟩ := cells_of hcc'
      have hlay := hc.lay hl off
      obtain ⟨c', h1, h2⟩ := ih hlay hs h
      refine ⟨c', ?_, h2⟩
      simp only [List.zip_cons_cons, Instr.fill, hpp _ _ hp]
      rw [if_neg]
      ·rw [← h1]
       congr 1
       apply Array.ext'
       rw [← Array.foldl_toList, Array.toList_zipIdx, foldl_lay _ _ _ _ (by simp [e2]; rw [← hc.len]; exact hle)]
       simp [lay, e1]
      ·simp [e2]; rw [← hc.len]; exact hle
     ·cases h
    ·cases h
   ·cases h
theorem tZero_spec {t : TypeId} {z : List Value} (h : tZero P t = some z) :
  ∃ i zv, P.info? t = some i ∧ i.zero = some zv ∧ zv.cells.toList = z ∧ tSz P t = z.length ∧ VL ρ z z ∧ (z.length = tSz P t) ∧ ∀ x ∈ z, oneB x = true := by
 have vl : ∀ {l : List Value}, (l.all constOk) = true → VL ρ l l ∧ ∀ x ∈ l, oneB x = true := by
  intro l hl
  induction l with
  | nil => exact ⟨.nil, by simp⟩
  | cons x xs ih =>
   simp only [List.all_cons, Bool.and_eq_true] at hl
   obtain ⟨h1, h2⟩ := ih hl.2
   refine ⟨.cons (.const hl.1) h1, ?_⟩
   intro y hy
   rcases List.mem_cons.1 hy with rfl | hy
   ·have := hl.1
    unfold constOk at this
    split at this <;> first | rfl | cases this
   ·exact h2 _ hy
 unfold tZero at h
 split at h
 ·rename_i i hi
  have hsz : tSz P t = i.size := by simp [tSz, Program.cellsOf, hi]
  split at h
  ·rename_i cs hz
   split at h
   ·rename_i hb
    cases h
    simp only [Bool.and_eq_true, beq_iff_eq] at hb
    obtain ⟨v1, v2⟩ := vl hb.1
    exact ⟨i, _, hi, hz, rfl, by rw [hsz, hb.2]; simp, v1, by rw [hsz, hb.2]; simp, v2⟩
   ·cases h
  ·rename_i v hn hz
   split at h
   ·rename_i hb
    cases h
    simp only [Bool.and_eq_true, beq_iff_eq] at hb
    have hb1 : ([v].all constOk) = true := by simp [hb.1]
    obtain ⟨v1, v2⟩ := vl hb1
    refine ⟨i, _, hi, hz, ?_, by rw [hsz, hb.2]; rfl, v1, by rw [hsz, hb.2]; rfl, v2⟩
    have := hb.1
    unfold constOk at this
    split at this <;> first | rfl | cases this
   ·cases h
  ·cases h
 ·cases h
theorem mapM_places {fs : List Field} (h : ∀ f ∈ fs, tKnown P f.type = true) :
  (fs.mapM fun f => do pure (f.offset, ← sizeOf f.type) : Sem _).run P w = .ok (fs.map fun (f : Field) => (f.offset, tSz P f.type)) w := by
 induction fs with
 | nil => simp
 | cons f fs ih =>
  simp only [List.mapM_cons, Sem.run_bind, run_sizeOf' (h f (by simp)), Result.andThen_ok, Sem.run_pure, ih fun g hg => h g (by simp [hg]), List.map_cons]
theorem run_zeroValue' {t : TypeId} {i : TypeInfo} {zv : Value} (hi : P.info? t = some i) (hz : i.zero = some zv) : (zeroValue t).run P w = .ok zv w := by
 simp [zeroValue, run_typeInfo' hi, hz]
theorem zip_map_parts {ev : Operand → Value} (parts : Array (Nat × Operand)) :
  (parts.map fun (i, x) => (i, ev x)).toList = (parts.toList.map (·.1)).zip ((parts.toList.map (·.2)).map ev) := by
 simp only [Array.toList_map]
 generalize parts.toList = l
 induction l with
 | nil => rfl
 | cons p ps ih => simp [ih]
theorem run_build {t : TypeId} {fs : Array Field} (ht : P.underlying t = some (.struct fs)) {z : List Value} (hz : tZero P t = some z)
  (hk : ∀ f ∈ fs, tKnown P f.type = true) {parts : Array (Nat × Value)} {idx : List Nat} {vs' vs : List Value} (hp : parts.toList = idx.zip vs') (hv : VL ρ vs vs')
  {v : Value} (h : fBuild (fs.toList.map fun (f : Field) => (f.offset, tSz P f.type)) z idx vs = some v) : ∃ v', (Instr.build t parts).run P w = .ok v' w ∧ V ρ v v' := by
 obtain ⟨i, zv, hi, hzv, hc, hs, hvl, _, _⟩ := tZero_spec (ρ := ρ) hz
 simp only [fBuild, Option.map_eq_some_iff] at h
 obtain ⟨c, hc1, rfl⟩ := h
 obtain ⟨c', h1, h2⟩ := fill_sound (place' := fun (i : Nat) => (fs[i]?).map fun (f : Field) => (f.offset, tSz P f.type)) (fun i p h => by simpa using h) hvl hv hc1
 refine ⟨.agg c', ?_, V.agg_mk' h2⟩
 have hm : (fs.mapM fun f => do pure (f.offset, ← sizeOf f.type) : Sem _).run P w = .ok (fs.map fun (f : Field) => (f.offset, tSz P f.type)) w := by
  rw [Array.mapM_eq_mapM_toList]
  simp only [Sem.run_map, mapM_places (fs := fs.toList) (fun f hf => hk f (by simpa using hf)), Result.andThen_ok]
  congr 1
  apply Array.ext'
  simp
 have hcz : zv.cells = z.toArray := Array.ext' (by simpa using hc)
 have hpl : (fun i => (fs.map fun (f : Field) => (f.offset, tSz P f.type))[i]?) = fun (i : Nat) => (fs[i]?).map fun (f : Field) => (f.offset, tSz P f.type) := by
  funext i; simp [Array.getElem?_map]
 simp only [Instr.build, Sem.run_bind, run_zeroValue' hi hzv, Result.andThen_ok, run_underlying' ht, hm, hcz, hp, hpl, h1, Sem.run_pure]
theorem run_buildA {t e : TypeId} {n : Nat} (ht : P.underlying t = some (.array n e)) {z : List Value} (hz : tZero P t = some z)
  (hk : tKnown P e = true) {parts : Array (Nat × Value)} {idx : List Nat} {vs' vs : List Value} (hp : parts.toList = idx.zip vs') (hv : VL ρ vs vs')
  {v : Value} (h : fBuild ((List.range n).map fun i => (i * tSz P e, tSz P e)) z idx vs = some v) : ∃ v', (Instr.build t parts).run P w = .ok v' w ∧ V ρ v v' := by
 obtain ⟨i, zv, hi, hzv, hc, hs, hvl, _, _⟩ := tZero_spec (ρ := ρ) hz
 simp only [fBuild, Option.map_eq_some_iff] at h
 obtain ⟨c, hc1, rfl⟩ := h
 obtain ⟨c', h1, h2⟩ := fill_sound (place' := fun (i : Nat) => some (i * tSz P e, tSz P e)) (fun i p h => by
  simp only [List.getElem?_map, Option.map_eq_some_iff] at h
  obtain ⟨j, hj, rfl⟩ := h
  obtain ⟨hlt, he⟩ := List.getElem?_eq_some_iff.1 hj
  simp at he; subst he; rfl) hvl hv hc1
 refine ⟨.agg c', ?_, V.agg_mk' h2⟩
 have hcz : zv.cells = z.toArray := Array.ext' (by simpa using hc)
 simp only [Instr.build, Sem.run_bind, run_zeroValue' hi hzv, Result.andThen_ok, run_underlying' ht, run_sizeOf' hk, hcz, hp, h1, Sem.run_pure]
def bnd (d : Int) : Option Value → Option Int
 | none => some d
 | some (.int _ i) => some i
 | _ => none
theorem run_sliceAt {t e : TypeId} (ht : P.underlying t = some (.slice e)) (hk : tKnown P e = true) {a : Option Addr} {n c : Nat} {lo hi : Option Value} {l h : Int}
  (hlo : bnd 0 lo = some l) (hhi : bnd n hi = some h) (h0 : 0 ≤ l) (h1 : l ≤ h) (h2 : h ≤ (n : Int)) (h3 : n ≤ c) :
  (Instr.sliceAt t (.slice a n c) lo hi none).run P w =
   .ok (.slice (if c = l.toNat then a else a.map (·.add (l.toNat * tSz P e))) (h.toNat - l.toNat) (c - l.toNat)) w := by
 have hb : (Instr.sliceBounds true n c lo hi none).run P w = .ok (l.toNat, h.toNat, c) w := by
  have hc : h ≤ (c : Int) := by omega
  have hlh : l ≤ (h.toNat : Int) := by omega
  have h0' : 0 ≤ h := by omega
  rcases lo with _ | (_ | ⟨k1, i⟩ | _ | _ | _ | _ | _ | _ | _ | _ | _ | _ | _ | _ | _) <;> simp [bnd] at hlo <;>
   rcases hi with _ | (_ | ⟨k2, j⟩ | _ | _ | _ | _ | _ | _ | _ | _ | _ | _ | _ | _ | _) <;> simp [bnd] at hhi <;> subst hlo <;> subst hhi <;>
   simp [Instr.sliceBounds, Instr.sliceBound, asIntOf, *] <;> (intro hh; omega)
 simp only [Instr.sliceAt, Instr.slice, Sem.run_bind, run_underlying' ht, Result.andThen_ok, hb, run_sizeOf' hk, Sem.run_pure]
theorem resl_sound {es : Nat} {a : Option Addr} {n c : Nat} {l h : Int} {v v' : Value} (hv : V ρ (.slice a n c) v') (hr : resl es a n c l h = some v) :
  ∃ a' c', v' = .slice a' n c' ∧ n ≤ c' ∧ 0 ≤ l ∧ l ≤ h ∧ h ≤ (n : Int) ∧
   V ρ v (.slice (if c' = l.toNat then a' else a'.map (·.add (l.toNat * es))) (h.toNat - l.toNat) (c' - l.toNat)) := by
 unfold resl at hr
 split at hr
 ·rename_i hb
  obtain ⟨h0, h1, h2⟩ := hb
  cases hv with
  | nilS =>
   simp at hr
   subst hr
   refine ⟨none, 0, rfl, Nat.le_refl _, h0, h1, h2, ?_⟩
   have : l = 0 := by simp at h2; omega
   subst this
   have : h = 0 := by simp at h2; omega
   subst this
   simp
   exact .nilS
  | @sl b o n c c' e hb hl hc =>
   simp at hr
   obtain ⟨rfl, rfl⟩ := hr
   refine ⟨_, c', rfl, hl, h0, h1, h2, ?_⟩
   by_cases hcl : c' = l.toNat
   ·have : h.toNat - l.toNat = 0 := by omega
    simp [hcl, this]
    exact .slE
   ·simp only [hcl, if_false, Option.map_some]
    rw [add_adv rfl]
    simp only [adv, Nat.add_assoc]
    refine .sl hb (by omega) ?_
    have : o + l.toNat * c + (c' - l.toNat) * c = o + c' * c := by
     rw [Nat.sub_mul]
     have : l.toNat * c ≤ c' * c := Nat.mul_le_mul_right _ (by omega)
     omega
    omega
  | @slE b o c a' =>
   simp at hr
   obtain ⟨rfl, rfl⟩ := hr
   have : l = 0 := by simp at h2; omega
   subst this
   have : h = 0 := by simp at h2; omega
   subst this
   refine ⟨_, 0, rfl, Nat.le_refl _, h0, h1, h2, ?_⟩
   simp
   exact .slE
 ·cases hr
theorem run_resolve_bi (P : Program) (w : World) {ev : Operand → Value} {c : Call} {b : Builtin} {t : TypeId} (hc : c.callee = .builtin b) :
  ∃ cs, (resolve ev c t).run P w = .ok { target := .builtin b c.argTypes t cs, args := c.args.map ev } w :=
 ⟨_, by simp only [resolve, hc]; rfl⟩
theorem eqCells_V : ∀ {ks : List Bool} {l m l' m' : List Value} {r : Bool}, VL ρ l l' → VL ρ m m' → eqCells ks l m = some r → eqCells ks l' m' = some r := by
 intro ks
 induction ks with
 | nil =>
  intro l m l' m' r hl hm h
  cases hl with
  | nil => cases hm with
   | nil => exact h
   | cons _ _ => simp [eqCells] at h
  | cons _ _ => simp [eqCells] at h
 | cons q qs ih =>
  intro l m l' m' r hl hm h
  cases hl with
  | nil => simp [eqCells] at h
  | @cons x x' xs xs' hx hs => cases hm with
   | nil => simp [eqCells] at h
   | @cons y y' ys ys' hy ht =>
    simp only [eqCells] at h ⊢
    split at h
    ·rename_i a b h1 h2
     have h2' := ih hs ht h2
     have h1' : eqCell q x' y' = some a := by
      unfold eqCell at h1
      split at h1
      ·rw [hx.int_inv, hy.int_inv]; exact h1
      ·rw [hx.bool_inv, hy.bool_inv]; exact h1
      ·cases h1
     rw [h1', h2']; exact h
    ·cases h
theorem eqV_V {q : EqK} {x y x' y' : Value} {b : Bool} (hx : V ρ x x') (hy : V ρ y y') (h : eqV q x y = some b) : eqV q x' y' = some b := by
 unfold eqV at h
 split at h
 ·rw [hx.bool_inv, hy.bool_inv]; exact h
 ·cases hx; cases hy <;> simpa [eqV] using h
 ·cases hx; cases hy; simpa [eqV] using h
 ·obtain ⟨xs', rfl, hl⟩ := hx.agg_inv
  obtain ⟨ys', rfl, hm⟩ := hy.agg_inv
  exact eqCells_V hl hm h
 ·cases hy
  cases hx <;> simpa [eqV] using h
 ·cases h
theorem eq_bin {t : TypeId} {q : EqK} (hq : eqOk P (t, q) = true) {x y : Value} {b : Bool} (h : eqV q x y = some b) (o1 o2 : Operand) (op : BinOp) :
  (eqGuard op t o1 o2 x y).run P w = .ok () w ∧ (binOp .eql t x y).run P w = .ok (.bool b) w ∧ (binOp .neq t x y).run P w = .ok (.bool (!b)) w := by
 have he := eq_run (w := w) hq h
 unfold eqV at h
 split at h
 ·refine ⟨?_, ?_, ?_⟩
  ·unfold eqGuard; split <;> rfl
  ·simp only [binOp, Sem.run_bind, he, Result.andThen_ok, Sem.run_pure]
  ·simp only [binOp, Sem.run_bind, he, Result.andThen_ok, Sem.run_pure]
 ·refine ⟨?_, ?_, ?_⟩
  ·unfold eqGuard; split <;> rfl
  ·simp only [binOp, Sem.run_bind, he, Result.andThen_ok, Sem.run_pure]
  ·simp only [binOp, Sem.run_bind, he, Result.andThen_ok, Sem.run_pure]
 ·refine ⟨?_, ?_, ?_⟩
  ·unfold eqGuard; split <;> rfl
  ·simp only [binOp, Sem.run_bind, he, Result.andThen_ok, Sem.run_pure]
  ·simp only [binOp, Sem.run_bind, he, Result.andThen_ok, Sem.run_pure]
 ·obtain ⟨fs, hu, h1, h2, h3⟩ := eqOk_flat hq
  refine ⟨?_, ?_, ?_⟩
  ·cases op <;> simp [eqGuard, h2]
  ·simp only [binOp, Sem.run_bind, he, Result.andThen_ok, Sem.run_pure]
  ·simp only [binOp, Sem.run_bind, he, Result.andThen_ok, Sem.run_pure]
 ·refine ⟨?_, ?_, ?_⟩
  ·unfold eqGuard; split <;> rfl
  ·simp only [binOp, Sem.run_bind, he, Result.andThen_ok, Sem.run_pure]
  ·simp only [binOp, Sem.run_bind, he, Result.andThen_ok, Sem.run_pure]
 ·cases h
theorem mem_of_lookup {α : Type} {l : List (Nat × α)} {t : Nat} {q : α} (h : l.lookup t = some q) : (t, q) ∈ l := by
 induction l with
 | nil => simp at h
 | cons p ps ih =>
  obtain ⟨a, b⟩ := p
  simp only [List.lookup_cons] at h
  split at h
  ·rename_i hb; simp at hb h; subst hb; subst h; simp
  ·exact List.mem_cons_of_mem _ (ih h)
theorem map_toList {ev : Operand → Value} {c : Call} {l : List Operand} (h : c.args.toList = l) : c.args.map ev = (l.map ev).toArray := by
 apply Array.ext'; simp [h]
theorem f_sound {C : Cx} {o : Oper} {xs : List Operand} {g : List Value → Option Value} (hf : fOf C o.op = some (xs, g)) (he : C.eqt.all (eqOk C.P) = true)
  {ev ev' : Operand → Value} (hx : VL ρ (xs.map ev) (xs.map ev')) {v : Value} (hg : g (xs.map ev) = some v) :
  ∃ v', (execOp ev' o).run C.P w = .ok (.value v') w ∧ V ρ v v' := by
 have fin : ∀ {s : Sem Value} {v' : Value}, s.run C.P w = .ok v' w → (do pure (Next.value (← s)) : Sem Next).run C.P w = .ok (.value v') w := by
  intro s v' h; simp [h]
 obtain ⟨dst, op, ty, pos, after, guard⟩ := o
 unfold fOf at hf
 cases op <;> simp only at hf
 case move x =>
  cases hf
  simp only [List.map_cons, List.map_nil] at hx hg
  obtain ⟨x', e, hv⟩ := hx.one
  simp [fMove] at hg e; subst hg
  exact ⟨_, by simp [execOp], e ▸ hv⟩
 case assign x =>
  cases hf
  simp only [List.map_cons, List.map_nil] at hx hg
  obtain ⟨x', e, hv⟩ := hx.one
  simp [fMove] at hg e; subst hg
  exact ⟨_, by simp [execOp], e ▸ hv⟩
 case pick c a b =>
  cases hf
  simp only [List.map_cons, List.map_nil] at hx hg
  obtain ⟨c', a', b', e, hc, ha, hb⟩ := hx.three
  simp at e
  obtain ⟨rfl, rfl, rfl⟩ := e
  unfold fPick at hg
  split at hg
  ·rename_i h; cases hg; simp at h; obtain ⟨h1, rfl, _⟩ := h
   rw [h1] at hc; have := hc.bool_inv
   exact ⟨_, by simp [execOp, this, asBool], ha⟩
  ·rename_i h; cases hg; simp at h; obtain ⟨h1, _, rfl⟩ := h
   rw [h1] at hc; have := hc.bool_inv
   exact ⟨_, by simp [execOp, this, asBool], hb⟩
  ·cases hg
 case nilCheck x =>
  cases hf
  simp only [List.map_cons, List.map_nil] at hx hg
  obtain ⟨x', e, hv⟩ := hx.one
  simp at e; subst e
  unfold fNil at hg
  split at hg
  ·rename_i a h; cases hg; simp at h; rw [h] at hv
   obtain ⟨a', e', _, _, _⟩ := hv.ptr_inv
   rw [e'] at hv
   exact ⟨_, by simp [execOp, e'], hv⟩
  ·cases hg
 case fieldAddr s x f =>
  split at hf
  ·rename_i fs hs
   split at hf
   ·rename_i fd hfd
    split at hf
    ·rename_i hk
     cases hf
     simp only [Bool.and_eq_true, bne_iff_ne, ne_eq] at hk
     simp only [List.map_cons, List.map_nil] at hx hg
     obtain ⟨x', e, hv⟩ := hx.one
     simp at e; subst e
     unfold fFld at hg
     split at hg
     ·rename_i a h; cases hg; simp at h; rw [h] at hv
      obtain ⟨a', e', h1, h2, h3⟩ := hv.ptr_inv
      exact ⟨_, by simp only [execOp, e']; exact fin (run_fieldAt hs hfd hk.1 hk.2 h1), h3 _⟩
     ·cases hg
    ·cases hf
   ·cases hf
  ·cases hf
 case field s x f =>
  split at hf
  ·rename_i fs hs
   split at hf
   ·rename_i fd hfd
    split at hf
    ·rename_i hk
     cases hf
     simp only [Bool.and_eq_true] at hk
     simp only [List.map_cons, List.map_nil] at hx hg
     obtain ⟨x', e, hv⟩ := hx.one
     simp at e; subst e
     unfold fFldV at hg
     split at hg
     ·rename_i cs h; simp at h; rw [h] at hv
      obtain ⟨cs', e', hl⟩ := hv.agg_inv
      obtain ⟨hle, v', h1, h2⟩ := sub_sound hl hg
      exact ⟨v', by simp only [execOp, e']; exact fin (run_fieldV hs hfd hk.1 cs' (by simpa using hle) h1), h2⟩
     ·cases hg
    ·cases hf
   ·cases hf
  ·cases hf
 case indexAddr t x ix =>
  split at hf
  ·rename_i e ht
   split at hf
   ·rename_i hk
    cases hf
    simp only [List.map_cons, List.map_nil] at hx hg
    obtain ⟨x', i', e', hv, hi⟩ := hx.two
    simp at e'; obtain ⟨rfl, rfl⟩ := e'
    unfold fIxS at hg
    split at hg
    ·rename_i a n c k i h
     simp at h; obtain ⟨h1, h2⟩ := h
     rw [h1] at hv; rw [h2] at hi
     split at hg
     ·rename_i hb
      cases hg
      have ei := hi.int_inv
      obtain ⟨hb0, hb1⟩ := hb
      generalize hX : ev' x = X at hv
      cases hv with
      | @sl b o n c c' e hb hl hc =>
       refine ⟨_, by simp only [execOp, hX, ei]; exact fin (run_indexS ht hk rfl hb0 hb1), ?_⟩
       simpa [adv, Nat.add_assoc] using V.ptr (o := o + i.toNat * _) hb
      | slE => omega
     ·cases hg
    ·cases hg
   ·cases hf
  ·rename_i n e ht
   split at hf
   ·rename_i hk
    cases hf
    simp only [Bool.and_eq_true] at hk
    simp only [List.map_cons, List.map_nil] at hx hg
    obtain ⟨x', i', e', hv, hi⟩ := hx.two
    simp at e'; obtain ⟨rfl, rfl⟩ := e'
    unfold fIxA at hg
    split at hg
    ·rename_i a k i h
     simp at h; obtain ⟨h1, h2⟩ := h
     rw [h1] at hv; rw [h2] at hi
     split at hg
     ·rename_i hb
      cases hg
      have ei := hi.int_inv
      obtain ⟨hb0, hb1⟩ := hb
      obtain ⟨a', ea, h3, h4, h5⟩ := hv.ptr_inv
      exact ⟨_, by simp only [execOp, ea, ei]; exact fin (run_indexA ht hk.1 h3 hb0 hb1), h5 _⟩
     ·cases hg
    ·cases hg
   ·cases hf
  ·cases hf
 case index t x ix =>
  split at hf
  ·rename_i n e ht
   split at hf
   ·rename_i hk
    cases hf
    simp only [Bool.and_eq_true] at hk
    simp only [List.map_cons, List.map_nil] at hx hg
    obtain ⟨x', i', e', hv, hi⟩ := hx.two
    simp at e'; obtain ⟨rfl, rfl⟩ := e'
    unfold fIxV at hg
    split at hg
    ·rename_i cs k i h
     simp at h; obtain ⟨h1, h2⟩ := h
     rw [h1] at hv; rw [h2] at hi
     split at hg
     ·rename_i hb
      have ei := hi.int_inv
      obtain ⟨hb0, hb1⟩ := hb
      obtain ⟨cs', e', hl⟩ := hv.agg_inv
      obtain ⟨hle, v', h1, h2⟩ := sub_sound hl hg
      exact ⟨v', by simp only [execOp, e', ei]; exact fin (run_indexV ht hk.1 cs' hb0 hb1 (by simpa using hle) h1), h2⟩
     ·cases hg
    ·cases hg
   ·cases hf
  ·cases hf
 case extract x ix =>
  cases hf
  simp only [List.map_cons, List.map_nil] at hx hg
  obtain ⟨x', e, hv⟩ := hx.one
  simp at e; subst e
  unfold fExt at hg
  split at hg
  ·rename_i vs h
   simp at h; rw [h] at hv
   split at hg
   ·cases hg
   ·rename_i hs
    obtain ⟨vs', e', hl⟩ := hv.tup_inv hs
    obtain ⟨v', h1, h2⟩ := hl.get hg
    refine ⟨v', ?_, h2⟩
    have : vs'[ix]? = some v' := by simpa using h1
    simp [execOp, e', Instr.extract, this]
  ·cases hg
 case binOp bop t x y yt =>
  cases hf
  simp only [List.map_cons, List.map_nil] at hx hg
  obtain ⟨x', y', e, hvx, hvy⟩ := hx.two
  simp at e; obtain ⟨rfl, rfl⟩ := e
  unfold fBin at hg
  split at hg
  ·rename_i k a k' b h
   simp at h; obtain ⟨h1, h2⟩ := h
   rw [h1] at hvx; rw [h2] at hvy
   have ex := hvx.int_inv
   have ey := hvy.int_inv
   split at hg
   ·rename_i hs
    refine ⟨v, ?_, ?_⟩
    ·simp only [execOp, ex, ey]
     refine fin ?_
     rw [Sem.run_bind, eqGuard_int, Result.andThen_ok, sh_run t hs hg]
    ·unfold shI at hg
     split at hg
     ·cases hg
     ·split at hg <;> cases hg <;> exact .int _ _
   ·rename_i hs
    split at hg
    ·rename_i hkk; subst hkk
     simp at hs
     refine ⟨v, ?_, ?_⟩
     ·simp only [execOp, ex, ey]
      refine fin ?_
      rw [Sem.run_bind, eqGuard_int, Result.andThen_ok, binOp_int t hs, intCmp_run hg hs]
     ·unfold binI at hg
      split at hg <;> first
       | (cases hg; exact .int _ _)
       | (cases hg; exact .bool _)
       | (split at hg <;> cases hg; exact .int _ _)
       | cases hg
    ·cases hg
  ·rename_i x0 y0 hno h
   simp at h; obtain ⟨h1, h2⟩ := h
   rw [h1] at hvx; rw [h2] at hvy
   have hq : ∀ {b : Bool}, eqV ((C.eqt.lookup t).getD .no) x0 y0 = some b → (eqGuard bop t x y (ev' x) (ev' y)).run C.P w = .ok () w ∧
     (binOp .eql t (ev' x) (ev' y)).run C.P w = .ok (.bool b) w ∧ (binOp .neq t (ev' x) (ev' y)).run C.P w = .ok (.bool (!b)) w := by
    intro b hb
    cases hl : C.eqt.lookup t with
    | none => rw [hl] at hb; simp [eqV] at hb
    | some q =>
     rw [hl] at hb
     exact eq_bin (List.all_eq_true.1 he _ (mem_of_lookup hl)) (eqV_V hvx hvy hb) x y bop
   split at hg
   ·simp only [Option.map_eq_some_iff] at hg
    obtain ⟨b, hb, rfl⟩ := hg
    obtain ⟨q1, q2, q3⟩ := hq hb
    refine ⟨_, ?_, .bool b⟩
    simp only [execOp]
    refine fin ?_
    rw [Sem.run_bind, q1, Result.andThen_ok, q2]
   ·simp only [Option.map_eq_some_iff] at hg
    obtain ⟨b, hb, rfl⟩ := hg
    obtain ⟨q1, q2, q3⟩ := hq hb
    refine ⟨_, ?_, .bool (!b)⟩
    simp only [execOp]
    refine fin ?_
    rw [Sem.run_bind, q1, Result.andThen_ok, q3]
   ·cases hg
  ·cases hg
 case unOp uop t x =>
  cases hf
  simp only [List.map_cons, List.map_nil] at hx hg
  obtain ⟨x', e, hv⟩ := hx.one
  simp at e; subst e
  unfold fUn at hg
  split at hg
  ·rename_i b h; simp at h; rw [h] at hv
   split at hg
   ·rename_i hu; subst hu; cases hg
    exact ⟨_, by simp [execOp, hv.bool_inv, Op.unary], .bool _⟩
   ·cases hg
  ·rename_i k n h; simp at h; rw [h] at hv
   split at hg
   ·rename_i hu; subst hu; cases hg
    exact ⟨_, by simp [execOp, hv.int_inv, Op.unary, Op.intArith], .int _ _⟩
   ·cases hg
  ·cases hg
 case convert src dst x =>
  split at hf
  ·rename_i k1 k2 h1 h2
   cases hf
   simp only [List.map_cons, List.map_nil] at hx hg
   obtain ⟨x', e, hv⟩ := hx.one
   simp at e; subst e
   unfold fConv at hg
   split at hg
   ·rename_i k n h; simp at h; rw [h] at hv; cases hg
    exact ⟨_, by simp [execOp, hv.int_inv, convert, run_underlying' h1, run_underlying' h2, Conv.intToInt], .int _ _⟩
   ·cases hg
  ·cases hf
 case makeInterface t x =>
  split at hf
  ·cases hf
  ·cases hf
  ·rename_i h1 h2
   cases hf
   simp only [List.map_cons, List.map_nil] at hx hg
   obtain ⟨x', e, hv⟩ := hx.one
   simp at e; subst e
   simp [fIface] at hg; subst hg
   obtain ⟨d, hd⟩ : ∃ d, C.P.underlying t = some d := by
    cases hu : C.P.underlying t with
    | none => exact absurd hu h2
    | some d => exact ⟨d, rfl⟩
   refine ⟨_, ?_, .iface t hv⟩
   simp only [execOp]
   refine fin ?_
   simp only [Instr.makeInterface, Sem.run_bind, run_underlying' hd, Result.andThen_ok]
   cases d <;> first | rfl | exact absurd hd (h1 _)
 case build t parts =>
  split at hf
  ·rename_i fs z ht hz
   split at hf
   ·rename_i hk
    cases hf
    obtain ⟨v', h1, h2⟩ := run_build (w := w) ht hz (fun f hf => Array.all_eq_true_iff_forall_mem.1 hk f hf) (zip_map_parts (ev := ev') parts) hx hg
    exact ⟨v', by simp only [execOp]; exact fin h1, h2⟩
   ·cases hf
  ·rename_i n e z ht hz
   split at hf
   ·rename_i hk
    cases hf
    obtain ⟨v', h1, h2⟩ := run_buildA (w := w) ht hz hk (zip_map_parts (ev := ev') parts) hx hg
    exact ⟨v', by simp only [execOp]; exact fin h1, h2⟩
   ·cases hf
  ·cases hf
 case slice t x lo hi mx =>
  cases mx with
  | some _ => simp at hf
  | none =>
   simp only at hf
   split at hf
   ·rename_i e ht
    split at hf
    ·rename_i hk
     cases hf
     have core : ∀ {a : Option Addr} {n c : Nat} {l h : Int}, V ρ (.slice a n c) (ev' x) → bnd 0 (lo.map ev') = some l → (∀ n : Nat, h = n ∨ True → bnd n (hi.map ev') = some h ∨ hi = none) →
       (hi = none → h = n) → resl (tSz C.P e) a n c l h = some v → ∃ v', (execOp ev' ⟨dst, .slice t x lo hi none, ty, pos, after, guard⟩).run C.P w = .ok (.value v') w ∧ V ρ v v' := by
      intro a n c l h hv hlo hhi hn hr
      obtain ⟨a', c', e', h3, h0, h1, h2, hV⟩ := resl_sound hv hr
      refine ⟨_, ?_, hV⟩
      simp only [execOp, e', Option.map_none]
      refine fin (run_sliceAt ht hk hlo ?_ h0 h1 h2 h3)
      rcases hhi n (.inr trivial) with h | h
      ·exact h
      ·rw [h, hn h]; rfl
     unfold fSl at hg
     cases lo with
     | none =>
      cases hi with
      | none =>
       simp only [Option.toList, List.append_nil, List.map_cons, List.map_nil] at hx hg
       split at hg
       ·rename_i a n c h
        simp at h hg
        obtain ⟨x', e', hv⟩ := hx.one
        simp at e'; subst e'
        rw [h] at hv
        exact core hv rfl (fun _ _ => .inr rfl) (fun _ => rfl) hg
       ·rename_i h; simp at h
       ·rename_i h; simp at h
       ·cases hg
      | some hi =>
       simp only [Option.toList, List.append_nil, List.cons_append, List.nil_append, List.map_cons, List.map_nil] at hx hg
       split at hg
       ·rename_i h; simp at h
       ·rename_i a n c k i h
        simp at h hg
        obtain ⟨x', y', e', hv, hy⟩ := hx.two
        simp at e'; obtain ⟨rfl, rfl⟩ := e'
        rw [h.1] at hv; rw [h.2] at hy
        exact core hv rfl (fun _ _ => .inl (by simp [hy.int_inv, bnd])) (fun h => by cases h) hg
       ·rename_i h; simp at h
       ·cases hg
     | some lo =>
      cases hi with
      | none =>
       simp only [Option.toList, List.append_nil, List.cons_append, List.nil_append, List.map_cons, List.map_nil] at hx hg
       split at hg
       ·rename_i h; simp at h
       ·rename_i a n c k i h
        simp at h hg
        obtain ⟨x', y', e', hv, hy⟩ := hx.two
        simp at e'; obtain ⟨rfl, rfl⟩ := e'
        rw [h.1] at hv; rw [h.2] at hy
        exact core hv (by simp [hy.int_inv, bnd]) (fun _ _ => .inr rfl) (fun _ => rfl) hg
       ·rename_i h; simp at h
       ·cases hg
      | some hi =>
       simp only [Option.toList, List.append_nil, List.cons_append, List.nil_append, List.map_cons, List.map_nil] at hx hg
       split at hg
       ·rename_i h; simp at h
       ·rename_i h; simp at h
       ·rename_i a n c k i k2 j h
        simp at h hg
        obtain ⟨x', y', z', e', hv, hy, hz⟩ := hx.three
        simp at e'; obtain ⟨rfl, rfl, rfl⟩ := e'
        rw [h.1] at hv; rw [h.2.1] at hy; rw [h.2.2] at hz
        exact core hv (by simp [hy.int_inv, bnd]) (fun _ _ => .inl (by simp [hz.int_inv, bnd])) (fun h => by cases h) hg
       ·cases hg
    ·cases hf
   ·cases hf
 case call c =>
  split at hf
  ·rename_i x t hc ha ht
   split at hf
   ·rename_i e hu
    cases hf
    simp only [List.map_cons, List.map_nil] at hx hg
    obtain ⟨x', e', hv⟩ := hx.one
    simp at e'; subst e'
    unfold fLen at hg
    split at hg
    ·rename_i a n c0 h
     simp at h; rw [h] at hv; cases hg
     have hlen : ∃ a' c', ev' x = .slice a' n c' := by
      generalize hX : ev' x = X at hv
      cases hv <;> exact ⟨_, _, rfl⟩
     obtain ⟨a', c', e'⟩ := hlen
     obtain ⟨cs, hr⟩ := run_resolve_bi C.P w (ev := ev') (t := ty) hc
     refine ⟨_, ?_, .int _ _⟩
     have hat : c.argTypes = #[t] := Array.ext' (by simpa using ht)
     simp only [execOp, Sem.run_bind, hr, Result.andThen_ok, invoke, builtin, map_toList ha, hat, List.map_cons, List.map_nil]
     simp [Builtin.len_, run_underlying' hu, e', goInt]
    ·cases hg
   ·cases hf
  ·rename_i x y hc ha
   cases hf
   simp only [List.map_cons, List.map_nil] at hx hg
   obtain ⟨x', y', e', hvx, hvy⟩ := hx.two
   simp at e'; obtain ⟨rfl, rfl⟩ := e'
   unfold fMin at hg
   split at hg
   ·rename_i k a k2 b h
    simp at h; rw [h.1] at hvx; rw [h.2] at hvy; cases hg
    obtain ⟨cs, hr⟩ := run_resolve_bi C.P w (ev := ev') (t := ty) hc
    refine ⟨_, ?_, .int _ _⟩
    simp only [execOp, Sem.run_bind, hr, Result.andThen_ok, invoke, builtin, map_toList ha, List.map_cons, List.map_nil]
    simp [Builtin.min_, Builtin.min2, hvx.int_inv, hvy.int_inv]
   ·cases hg
  ·rename_i x y hc ha
   cases hf
   simp only [List.map_cons, List.map_nil] at hx hg
   obtain ⟨x', y', e', hvx, hvy⟩ := hx.two
   simp at e'; obtain ⟨rfl, rfl⟩ := e'
   unfold fMax at hg
   split at hg
   ·rename_i k a k2 b h
    simp at h; rw [h.1] at hvx; rw [h.2] at hvy; cases hg
    obtain ⟨cs, hr⟩ := run_resolve_bi C.P w (ev := ev') (t := ty) hc
    refine ⟨_, ?_, .int _ _⟩
    simp only [execOp, Sem.run_bind, hr, Result.andThen_ok, invoke, builtin, map_toList ha, List.map_cons, List.map_nil]
    simp [Builtin.max_, Builtin.max2, hvx.int_inv, hvy.int_inv]
   ·cases hg
  ·cases hf
 all_goals cases hf
end
end Go.Fl
namespace Go.Fl
open Go
set_option linter.unusedVariables false
set_option linter.unusedSimpArgs false
structure Same (w w' : World) : Prop where
 os : w'.os = w.os
 tape : w'.tape = w.tape
 output : w'.output = w.output
theorem Same.refl (w : World) : Same w w := ⟨rfl, rfl, rfl⟩
theorem Same.trans {a b c : World} (h : Same a b) (k : Same b c) : Same a c := ⟨k.os.trans h.os, k.tape.trans h.tape, k.output.trans h.output⟩
structure Upd (w : World) (b : Nat) (o : Obj) (w' : World) : Prop where
 same : Same w w'
 size : w'.heap.size = w.heap.size
 rest : ∀ k, k ≠ b → w'.heap[k]? = w.heap[k]?
 here : w'.heap[b]? = some o
structure Push (w : World) (o : Obj) (w' : World) : Prop where
 same : Same w w'
 size : w'.heap.size = w.heap.size + 1
 rest : ∀ k, k < w.heap.size → w'.heap[k]? = w.heap[k]?
 here : w'.heap[w.heap.size]? = some o
section
variable {P : Program} {w : World} {ρ : Ren}
theorem push_new (w : World) (o : Obj) : Push w o { w with heap := w.heap.push o } :=
 ⟨⟨rfl, rfl, rfl⟩, by simp, fun k hk => by simp [Array.getElem?_push, Nat.ne_of_lt hk], by simp⟩
theorem cell_of {b o : Nat} {arr : Array Value} {el : TypeId} {fz : Nat × Nat} (h : w.heap[b]? = some (.cells arr el fz)) : w.cell? ⟨b, o, none⟩ = arr[o]? := by
 simp [World.cell?, h]
theorem run_load' {b o : Nat} {arr : Array Value} {el : TypeId} {fz : Nat × Nat} (h : w.heap[b]? = some (.cells arr el fz)) {v : Value} (hv : arr[o]? = some v) :
  (load ⟨b, o, none⟩).run P w = .ok v w := by
 simp [cell_of h, hv]
theorem add_none (b o n : Nat) : Addr.add ⟨b, o, none⟩ n = ⟨b, o + n, none⟩ := add_adv rfl n
theorem run_loadCellsFrom {b o : Nat} {arr : Array Value} {el : TypeId} {fz : Nat × Nat} (h : w.heap[b]? = some (.cells arr el fz)) : ∀ (n i : Nat) (acc : Array Value),
  o + i + n ≤ arr.size → (loadCellsFrom ⟨b, o, none⟩ i n acc).run P w = .ok (acc ++ ((arr.toList.drop (o + i)).take n).toArray) w := by
 intro n
 induction n with
 | zero => intro i acc _; simp [loadCellsFrom]
 | succ n ih =>
  intro i acc hle
  have hlt : o + i < arr.size := by omega
  have hv : arr[o + i]? = some arr[o + i] := by simp [hlt]
  simp only [loadCellsFrom, Sem.run_bind, add_none, run_load' h hv, Result.andThen_ok]
  rw [ih (i + 1) _ (by omega)]
  congr 1
  apply Array.ext'
  have hl : o + i < arr.toList.length := by simpa using hlt
  rw [List.drop_eq_getElem_cons hl]
  simp [Nat.add_assoc]
theorem run_loadVar {t : TypeId} (hk : tKnown P t = true) (hA : tAgg P t = true ∨ tSz P t = 1) {b o : Nat} {arr : Array Value} {el : TypeId} {fz : Nat × Nat}
  (h : w.heap[b]? = some (.cells arr el fz)) (hl : o + tSz P t ≤ arr.size) {v : Value}
  (hv : (if tAgg P t then some (.agg ((arr.toList.drop o).take (tSz P t)).toArray) else arr.toList[o]?) = some v) : (loadVar t ⟨b, o, none⟩).run P w = .ok v w := by
 simp only [loadVar, Sem.run_bind, run_isAgg' hk, Result.andThen_ok]
 cases hg : tAgg P t
 ·simp only [hg, Bool.false_eq_true, if_false] at hv ⊢
  exact run_load' h (by simpa using hv)
 ·simp only [hg, if_true, Option.some.injEq] at hv ⊢
  subst hv
  simp only [Sem.run_bind, run_sizeOf' hk, Result.andThen_ok, loadCells, run_loadCellsFrom h _ 0 #[] (by simpa using hl), Sem.run_pure]
  simp
theorem frozen_no {b o : Nat} {arr : Array Value} {el : TypeId} (h : w.heap[b]? = some (.cells arr el (0, 0))) : w.frozen? ⟨b, o, none⟩ = false := by
 simp [World.frozen?, h]
theorem upd_setCell {b o : Nat} {arr : Array Value} {el : TypeId} (h : w.heap[b]? = some (.cells arr el (0, 0))) (v : Value) :
  Upd w b (.cells (arr.setIfInBounds o v) el (0, 0)) (w.setCell ⟨b, o, none⟩ v) := by
 refine ⟨⟨rfl, rfl, rfl⟩, by simp [World.setCell], fun k hk => ?_, ?_⟩
 ·simp [World.setCell, Array.getElem?_modify, Ne.symm hk]
 ·simp [World.setCell, Array.getElem?_modify, h]
theorem Upd.trans {b : Nat} {o o' : Obj} {w w' w'' : World} (h : Upd w b o w') (k : Upd w' b o' w'') : Upd w b o' w'' :=
 ⟨h.same.trans k.same, k.size.trans h.size, fun i hi => (k.rest i hi).trans (h.rest i hi), k.here⟩
theorem run_store' {b o : Nat} {arr : Array Value} {el : TypeId} (h : w.heap[b]? = some (.cells arr el (0, 0))) {v : Value} (hv : oneB v = true) (ho : o < arr.size) :
  (store ⟨b, o, none⟩ v).run P w = .ok () (w.setCell ⟨b, o, none⟩ v) := by
 rw [run_store P w _ v _ (by cases v <;> first | rfl | cases hv)]
 simp [cell_of h, ho, frozen_no h]
theorem run_storeCells {b o : Nat} {el : TypeId} : ∀ (vs : List Value) (i : Nat) (w : World) (arr : Array Value), w.heap[b]? = some (.cells arr el (0, 0)) →
  (∀ v ∈ vs, oneB v = true) → o + i + vs.length ≤ arr.size →
  ∃ w', (storeCells ⟨b, o, none⟩ vs i).run P w = .ok () w' ∧ (vs ≠ [] → Upd w b (.cells (lay arr.toList (o + i) vs).toArray el (0, 0)) w') ∧ (vs = [] → w' = w) := by
 intro vs
 induction vs with
 | nil => intro i w arr h _ _; exact ⟨w, by simp [storeCells], fun h => absurd rfl h, fun _ => rfl⟩
 | cons v vs ih =>
  intro i w arr h hone hle
  simp only [List.length_cons] at hle
  have hs := run_store' (P := P) (o := o + i) h (hone v (by simp)) (by omega)
  have hu := upd_setCell (o := o + i) h v
  obtain ⟨w', h1, h2, h3⟩ := ih (i + 1) _ (arr.setIfInBounds (o + i) v) hu.here (fun x hx => hone x (by simp [hx])) (by simp; omega)
  refine ⟨w', ?_, fun _ => ?_, fun h => by cases h⟩
  ·simp only [storeCells, Sem.run_bind, add_none, hs, Result.andThen_ok, h1]
  ·have hlt : o + i < arr.toList.length := by simp; omega
   have key : lay arr.toList (o + i) (v :: vs) = lay (arr.setIfInBounds (o + i) v).toList (o + (i + 1)) vs := by
    unfold lay
    simp only [Array.toList_setIfInBounds, List.length_cons]
    rw [show o + (i + 1) = o + i + 1 from by omega, List.take_succ_eq_append_getElem (by simpa using hlt)]
    simp only [List.getElem_set_self]
    rw [List.take_set_of_le (Nat.le_refl _), List.drop_set_of_lt (by omega)]
    simp [Nat.add_assoc, Nat.add_comm 1]
   rw [key]
   cases vs with
   | nil =>
    have := h3 rfl
    subst this
    have e : (lay (arr.setIfInBounds (o + i) v).toList (o + (i + 1)) []).toArray = arr.setIfInBounds (o + i) v := by
     apply Array.ext'; simp [lay]
    rw [e]; exact hu
   | cons x xs => exact hu.trans (h2 (by simp))
theorem run_storeVar {t : TypeId} (hk : tKnown P t = true) {b o : Nat} {el : TypeId} {arr : Array Value} (h : w.heap[b]? = some (.cells arr el (0, 0)))
  {x : Value} {c : List Value} (hc : cellsOf x (tSz P t) = some c) (ho : ∀ v ∈ c, oneB v = true) (hl : o + tSz P t ≤ arr.size) :
  ∃ w', (storeVar t ⟨b, o, none⟩ x).run P w = .ok () w' ∧ Upd w b (.cells (lay arr.toList o c).toArray el (0, 0)) w' := by
 obtain ⟨e1, e2, e3⟩ := cells_of hc
 obtain ⟨w', h1, h2, h3⟩ := run_storeCells (P := P) (o := o) c 0 w arr h ho (by omega)
 refine ⟨w', ?_, ?_⟩
 ·simp only [storeVar, Sem.run_bind, run_sizeOf' hk, Result.andThen_ok, e2, ne_eq, not_true_eq_false, if_false, Sem.run_ite, Sem.run_pure, e1]
  exact h1
 ·by_cases hn : c = []
  ·have := h3 hn
   subst this
   subst hn
   have e : (lay arr.toList o []).toArray = arr := by apply Array.ext'; simp [lay]
   rw [e]
   exact ⟨Same.refl _, rfl, fun _ _ => rfl, h⟩
  ·exact h2 hn
theorem V.oneB {v v' : Value} (h : V ρ v v') (ho : Fl.oneB v = true) : Fl.oneB v' = true := by
 cases h <;> first | rfl | cases ho
theorem VL.oneB {l l' : List Value} (h : VL ρ l l') (ho : l.all Fl.oneB = true) : ∀ v ∈ l', Fl.oneB v = true := by
 induction h with
 | nil => simp
 | cons h _ ih =>
  simp only [List.all_cons, Bool.and_eq_true] at ho
  intro v hv
  rcases List.mem_cons.1 hv with rfl | hv
  ·exact h.oneB ho.1
  ·exact ih ho.2 v hv
end
def win (arr : Array Value) (sh n : Nat) : List Value := (arr.toList.drop sh).take n
structure Sim (ρ : Ren) (σ : Mem) (w : World) : Prop where
 s1 : ∀ id blk, σ.get id = some blk → ∃ e arr el fz, ρ id = some e ∧ w.heap[e.blk]? = some (.cells arr el fz) ∧ e.sh + e.cap ≤ arr.size ∧
  blk.cells.length ≤ e.cap ∧ VL ρ blk.cells (win arr e.sh blk.cells.length) ∧ (blk.rw = true → fz = (0, 0))
 s2 : ∀ i j bi bj ei ej, i ≠ j → σ.get i = some bi → σ.get j = some bj → bi.rw = true → ρ i = some ei → ρ j = some ej → ei.blk ≠ ej.blk
 s3 : ∃ N, ∀ i, N ≤ i → ρ i = none
def Own (r : Bool) (ρ : Ren) (σ : Mem) (b : Nat) : Prop := ∃ id blk e, σ.get id = some blk ∧ (r = true → blk.rw = true) ∧ ρ id = some e ∧ e.blk = b
structure Stp (ρ0 : Ren) (σ0 : Mem) (w0 : World) (ρ : Ren) (σ : Mem) (w : World) : Prop where
 le : ρ0.le ρ
 same : Same w0 w
 size : w0.heap.size ≤ w.heap.size
 keep : ∀ b, b < w0.heap.size → ¬ Own true ρ0 σ0 b → w.heap[b]? = w0.heap[b]?
 own : ∀ r b, b < w0.heap.size → Own r ρ σ b → Own r ρ0 σ0 b
theorem Stp.refl (ρ : Ren) (σ : Mem) (w : World) : Stp ρ σ w ρ σ w := ⟨fun _ _ h => h, Same.refl _, Nat.le_refl _, fun _ _ _ => rfl, fun _ _ _ h => h⟩
theorem Stp.trans {ρ0 ρ1 ρ2 : Ren} {σ0 σ1 σ2 : Mem} {w0 w1 w2 : World} (h : Stp ρ0 σ0 w0 ρ1 σ1 w1) (k : Stp ρ1 σ1 w1 ρ2 σ2 w2) : Stp ρ0 σ0 w0 ρ2 σ2 w2 :=
  ⟨fun i e he => k.le _ _ (h.le _ _ he), h.same.trans k.same, Nat.le_trans h.size k.size,
   fun b hb hn => (k.keep b (Nat.lt_of_lt_of_le hb h.size) fun ho => hn (h.own _ _ hb ho)).trans (h.keep b hb hn),
   fun r b hb ho => h.own _ _ hb (k.own _ _ (Nat.lt_of_lt_of_le hb h.size) ho)⟩
theorem Own.weak {r : Bool} {ρ : Ren} {σ : Mem} {b : Nat} (h : Own r ρ σ b) : Own false ρ σ b :=
 let ⟨i, blk, e, h1, _, h2, h3⟩ := h; ⟨i, blk, e, h1, fun h => (Bool.noConfusion h), h2, h3⟩
theorem Own.lt {r : Bool} {ρ : Ren} {σ : Mem} {w : World} (hs : Sim ρ σ w) {b : Nat} (h : Own r ρ σ b) : b < w.heap.size := by
 obtain ⟨i, blk, e, h1, _, h2, rfl⟩ := h
 obtain ⟨e', arr, el, fz, h3, h4, _⟩ := hs.s1 _ _ h1
 rw [h2] at h3; cases h3
 exact (Array.getElem?_eq_some_iff.1 h4).1
theorem Mem.get_set (σ : Mem) (i j : Nat) (b : Blk) : (σ.set i b).get j = if j = i then some b else σ.get j := rfl
theorem Mem.get_del (σ : Mem) (i j : Nat) : (σ.del i).get j = if j = i then none else σ.get j := rfl
theorem Sim.del {ρ : Ren} {σ : Mem} {w : World} (h : Sim ρ σ w) (i : Nat) : Sim ρ (σ.del i) w := by
 refine ⟨fun id blk hg => h.s1 id blk ?_, fun a b ba bb ea eb hn h1 h2 => h.s2 a b ba bb ea eb hn ?_ ?_, h.s3⟩
 ·rw [Mem.get_del] at hg; split at hg
  ·cases hg
  ·exact hg
 ·rw [Mem.get_del] at h1; split at h1
  ·cases h1
  ·exact h1
 ·rw [Mem.get_del] at h2; split at h2
  ·cases h2
  ·exact h2
theorem Own.of_del {r : Bool} {ρ : Ren} {σ : Mem} {i b : Nat} (h : Own r ρ (σ.del i) b) : Own r ρ σ b := by
 obtain ⟨id, blk, e, h1, h2, h3⟩ := h
 rw [Mem.get_del] at h1
 split at h1
 ·cases h1
 ·exact ⟨id, blk, e, h1, h2, h3⟩
theorem Sim.push {ρ : Ren} {σ : Mem} {w w' : World} (h : Sim ρ σ w) {id : Nat} (hσ : σ.get id = none) (hρ : ρ id = none) {c : List Value} {arr : Array Value} {el : TypeId}
  (hp : Push w (.cells arr el (0, 0)) w') {cap : Nat} (hcap : cap ≤ arr.size) (hlen : c.length ≤ cap) (hv : VL ρ c (win arr 0 c.length)) :
  ∃ ρ', ρ' id = some ⟨w.heap.size, 0, cap⟩ ∧ Sim ρ' (σ.set id ⟨c, true⟩) w' ∧ Stp ρ σ w ρ' (σ.set id ⟨c, true⟩) w' ∧ (∀ b, Own false ρ' (σ.set id ⟨c, true⟩) b → b < w.heap.size → Own false ρ σ b) := by
 refine ⟨fun j => if j = id then some ⟨w.heap.size, 0, cap⟩ else ρ j, by simp, ?_, ?_, ?_⟩
 ·have hle : ρ.le (fun j => if j = id then some ⟨w.heap.size, 0, cap⟩ else ρ j) := fun j e he => by
   dsimp only; split
   ·rename_i hj; subst hj; rw [hρ] at he; cases he
   ·exact he
  refine ⟨fun j blk hg => ?_, fun a b ba bb ea eb hn h1 h2 hrw e1 e2 => ?_, ?_⟩
  ·rw [Mem.get_set] at hg
   split at hg
   ·rename_i hj; subst hj; cases hg
    exact ⟨⟨w.heap.size, 0, cap⟩, arr, el, (0, 0), by simp, hp.here, by simpa using hcap, hlen, hv.mono hle, fun _ => rfl⟩
   ·rename_i hj
    obtain ⟨e, arr', el', fz, q1, q2, q3, q4, q5, q6⟩ := h.s1 _ _ hg
    exact ⟨e, arr', el', fz, by simp [hj, q1], by rw [hp.rest _ (Array.getElem?_eq_some_iff.1 q2).1]; exact q2, q3, q4, q5.mono hle, q6⟩
  ·rw [Mem.get_set] at h1 h2
   have old : ∀ {j : Nat} {bj : Blk} {e : RE}, σ.get j = some bj → ρ j = some e → e.blk < w.heap.size := by
    intro j bj e hj he
    exact Own.lt h (r := false) ⟨j, bj, e, hj, fun h => (Bool.noConfusion h), he, rfl⟩
   by_cases ha : a = id
   ·subst ha
    simp at e1; subst e1
    have hb : ¬ b = a := fun e => hn e.symm
    rw [if_neg hb] at h2 e2
    exact fun e => Nat.lt_irrefl _ (e ▸ old h2 e2)
   ·rw [if_neg ha] at h1 e1
    by_cases hb : b = id
    ·subst hb
     simp at e2; subst e2
     exact fun e => Nat.lt_irrefl _ (e ▸ old h1 e1)
    ·rw [if_neg hb] at h2 e2
     exact h.s2 _ _ _ _ _ _ hn h1 h2 hrw e1 e2
  ·obtain ⟨N, hN⟩ := h.s3
   exact ⟨N + id + 1, fun i hi => by rw [if_neg (by omega)]; exact hN i (by omega)⟩
 ·refine ⟨fun j e he => ?_, hp.same, by rw [hp.size]; omega, fun b hb _ => hp.rest b hb, fun r b hb ho => ?_⟩
  ·split
   ·rename_i hj; subst hj; rw [hρ] at he; cases he
   ·exact he
  ·obtain ⟨j, blk, e, h1, h2, h3, h4⟩ := ho
   rw [Mem.get_set] at h1
   dsimp only at h3
   by_cases hj : j = id
   ·subst hj; simp at h3; subst h3; simp at h4; omega
   ·rw [if_neg hj] at h1 h3
    exact ⟨j, blk, e, h1, h2, h3, h4⟩
 ·intro b ho hb
  obtain ⟨j, blk, e, h1, h2, h3, h4⟩ := ho
  rw [Mem.get_set] at h1
  dsimp only at h3
  by_cases hj : j = id
  ·subst hj; simp at h3; subst h3; simp at h4; omega
  ·rw [if_neg hj] at h1 h3
   exact ⟨j, blk, e, h1, h2, h3, h4⟩
theorem win_lay {arr : Array Value} {sh n o : Nat} {c : List Value} (h1 : o + c.length ≤ n) (h2 : sh + n ≤ arr.size) :
  win (lay arr.toList (sh + o) c).toArray sh n = lay (win arr sh n) o c := by
 unfold win lay
 apply List.ext_getElem
 ·simp; omega
 ·intro i hi hi'
  simp only [List.getElem_take, List.getElem_drop, List.getElem_append, List.length_append, List.length_take, List.length_drop, List.getElem_toArray, Array.getElem_toList]
  simp only [List.length_take, List.length_drop, List.length_append] at hi hi'
  have e1 : min (sh + o) arr.toList.length = sh + o := by simp at *; omega
  have e2 : min o (min n (arr.toList.length - sh)) = o := by simp at *; omega
  simp only [e1, e2]
  by_cases q1 : i < o
  ·simp [q1, show sh + i < sh + o from by omega, show sh + i < sh + o + c.length from by omega, show i < o + c.length from by omega]
  ·by_cases q2 : i < o + c.length
   ·simp [q1, q2, show ¬ sh + i < sh + o from by omega, show sh + i < sh + o + c.length from by omega]
    congr 1; omega
   ·simp [q2, show ¬ sh + i < sh + o + c.length from by omega]
    congr 1; omega
theorem Sim.upd {ρ : Ren} {σ : Mem} {w w' : World} (h : Sim ρ σ w) {id : Nat} {blk : Blk} (hg : σ.get id = some blk) (hrw : blk.rw = true) {e : RE} (he : ρ id = some e)
  {arr : Array Value} {el : TypeId} (hb : w.heap[e.blk]? = some (.cells arr el (0, 0))) {o : Nat} {c c' : List Value} (hl : o + c.length ≤ blk.cells.length) (hc : VL ρ c c')
  (hu : Upd w e.blk (.cells (lay arr.toList (e.sh + o) c').toArray el (0, 0)) w') :
  Sim ρ (σ.set id ⟨lay blk.cells o c, true⟩) w' ∧ Stp ρ σ w ρ (σ.set id ⟨lay blk.cells o c, true⟩) w' ∧ (∀ b, Own false ρ (σ.set id ⟨lay blk.cells o c, true⟩) b → Own false ρ σ b) := by
 obtain ⟨e', arr', el', fz, q1, q2, q3, q4, q5, q6⟩ := h.s1 _ _ hg
 rw [he] at q1; cases q1
 rw [hb] at q2; cases q2
 have hlen : (lay blk.cells o c).length = blk.cells.length := by simp [lay]; omega
 have hown : ∀ r b, Own r ρ (σ.set id ⟨lay blk.cells o c, true⟩) b → Own r ρ σ b := by
  intro r b ho
  obtain ⟨j, bj, ej, h1, h2, h3, h4⟩ := ho
  rw [Mem.get_set] at h1
  split at h1
  ·rename_i hj; subst hj
   exact ⟨j, blk, ej, hg, fun _ => hrw, h3, h4⟩
  ·exact ⟨j, bj, ej, h1, h2, h3, h4⟩
 refine ⟨⟨fun j bj hj => ?_, fun a b ba bb ea eb hn h1 h2 hr e1 e2 => ?_, h.s3⟩, ⟨fun _ _ h => h, hu.same, by rw [hu.size]; exact Nat.le_refl _, fun b hb' hn => ?_, fun r b _ ho => hown r b ho⟩, fun b => hown false b⟩
 ·rw [Mem.get_set] at hj
  split at hj
  ·rename_i hji; subst hji; cases hj
   refine ⟨e, _, el, (0, 0), he, hu.here, ?_, by simp only; rw [hlen]; exact q4, ?_, fun _ => rfl⟩
   ·simp [lay, hc.len.symm]; omega
   ·simp only [hlen]
    rw [win_lay (by rw [← hc.len]; exact hl) (by omega)]
    exact q5.lay hc o
  ·rename_i hji
   obtain ⟨e2, arr2, el2, fz2, r1, r2, r3, r4, r5, r6⟩ := h.s1 _ _ hj
   have : e2.blk ≠ e.blk := fun hh => h.s2 _ _ _ _ _ _ (Ne.symm hji) hg hj hrw he r1 hh.symm
   exact ⟨e2, arr2, el2, fz2, r1, by rw [hu.rest _ this]; exact r2, r3, r4, r5, r6⟩
 ·have old : ∀ {j : Nat} {bj : Blk}, (σ.set id ⟨lay blk.cells o c, true⟩).get j = some bj → ∃ bj', σ.get j = some bj' ∧ bj'.rw = bj.rw := by
   intro j bj hj
   rw [Mem.get_set] at hj
   split at hj
   ·rename_i hji; subst hji; cases hj; exact ⟨blk, hg, hrw⟩
   ·exact ⟨bj, hj, rfl⟩
  obtain ⟨ba', h1', r1⟩ := old h1
  obtain ⟨bb', h2', r2⟩ := old h2
  exact h.s2 _ _ _ _ _ _ hn h1' h2' (r1.trans hr) e1 e2
 ·exact hu.rest b fun hh => hn ⟨id, blk, e, hg, fun _ => hrw, he, hh.symm⟩
end Go.Fl
namespace Go.Fl
open Go
set_option linter.unusedVariables false
set_option linter.unusedSimpArgs false
def LocV (lm : Nat → Option Nat) (k : Nat) (v v' : Value) : Prop :=
 isUndef v = true ∨ (∃ o b, v = .pointer (some ⟨k, o, some 0⟩) ∧ lm k = some b ∧ v' = .pointer (some ⟨b, o, none⟩)) ∨
  (∃ o b n es c', v = .slice (some ⟨k, o, some 0⟩) n es ∧ lm k = some b ∧ v' = .slice (some ⟨b, o, none⟩) n c')
structure FI (C : Cx) (ρ0 : Ren) (σ0 : Mem) (w0 : World) (lm : Nat → Option Nat) (ρ : Ren) (s : St) (σ : Mem) (a : Act) (w : World) : Prop where
 sim : Sim ρ σ w
 stp : Stp ρ0 σ0 w0 ρ σ w
 n : a.tmps.size = C.n
 df : a.defers = []
 tm : ∀ t, C.loc.lookup t = none → V ρ (s.t t) (a.tmps.getD t undef)
 lt : ∀ t k, C.loc.lookup t = some k → LocV lm k (s.t t) (a.tmps.getD t undef)
 lb : ∀ k b, lm k = some b → w0.heap.size ≤ b ∧ ∃ arr el, w.heap[b]? = some (.cells arr el (0, 0)) ∧ VL ρ (s.l k) arr.toList
 li : ∀ k k' b, lm k = some b → lm k' = some b → k = k'
 ld : ∀ k b, lm k = some b → ¬ Own false ρ σ b
def Sound (P : Program) (f : FuncId) (S : Spec) : Prop :=
 ∀ args Q σ, S args Q σ → ∀ (ρ : Ren) (w : World) (args' : List Value), Sim ρ σ w → VL ρ args args' →
  Calls P f args'.toArray w fun e w' => ∃ v v' ρ' σ', e = .returned v' ∧ Q v σ' ∧ V ρ' v v' ∧ Sim ρ' σ' w' ∧ Stp ρ σ w ρ' σ' w'
def Callable (P : Program) (f : FuncId) : Prop := ∃ fn, P.funcs[f]? = some fn ∧ (fn.name == "runtime.NumGoroutine") = false ∧ fn.body.isNone = false
def MethOk (P : Program) (e : String × Nat × Nat) : Prop := ∀ v w, (method (P.types.size + Made.depth) e.2.1 v e.1).run P w = .ok (e.2.2, v) w
def TOk (P : Program) (T : List (Nat × Cls × Spec)) : Prop := ∀ g c S, T.lookup g = some (c, S) → Sound P g S ∧ Good c S ∧ Callable P g
structure COk (C : Cx) : Prop where
 t : TOk C.P C.T
 i : ∀ e ∈ C.inv, MethOk C.P e
section
variable {C : Cx} {ρ0 : Ren} {σ0 : Mem} {w0 : World} {lm : Nat → Option Nat} {ρ : Ren} {s : St} {σ : Mem} {a : Act} {w : World}
theorem put_size (a : Act) (d : Option Nat) (v : Value) : (a.put d v).tmps.size = a.tmps.size := by
 cases d <;> simp [Act.put]
theorem put_defers (a : Act) (d : Option Nat) (v : Value) : (a.put d v).defers = a.defers := by
 cases d <;> rfl
theorem getD_put {a : Act} {d : Nat} {v : Value} (hd : d < a.tmps.size) (t : Nat) : (a.put (some d) v).tmps.getD t undef = if t = d then v else a.tmps.getD t undef := by
 simp only [Act.put, Array.getD_eq_getD_getElem?, Array.getElem?_setIfInBounds]
 by_cases h : t = d
 ·subst h; simp [hd]
 ·simp [h, Ne.symm h]
theorem put_t (s : St) (d : Nat) (v : Value) (t : Nat) : (s.put (some d) v).t t = if t = d then v else s.t t := by
 simp only [St.put]
 cases h : Nat.beq t d
 ·have : t ≠ d := Nat.ne_of_beq_eq_false h
  simp [this]
 ·have : t = d := Nat.eq_of_beq_eq_true h
  simp [this]
theorem put_l (s : St) (d : Option Nat) (v : Value) : (s.put d v).l = s.l := by cases d <;> rfl
theorem FI.put (h : FI C ρ0 σ0 w0 lm ρ s σ a w) {d : Nat} (hd : d < C.n) {v v' : Value}
  (hp : C.loc.lookup d = none → V ρ v v') (hl : ∀ k, C.loc.lookup d = some k → LocV lm k v v') : FI C ρ0 σ0 w0 lm ρ (s.put (some d) v) σ (a.put (some d) v') w := by
 refine ⟨h.sim, h.stp, by rw [put_size]; exact h.n, by rw [put_defers]; exact h.df, fun t ht => ?_, fun t k ht => ?_, fun k b hk => ?_, h.li, h.ld⟩
 ·rw [put_t, getD_put (by rw [h.n]; exact hd)]
  split
  ·rename_i e; subst e; exact hp ht
  ·exact h.tm t ht
 ·rw [put_t, getD_put (by rw [h.n]; exact hd)]
  split
  ·rename_i e; subst e; exact hl k ht
  ·exact h.lt t k ht
 ·rw [put_l]; exact h.lb k b hk
theorem FI.put_none (h : FI C ρ0 σ0 w0 lm ρ s σ a w) (v v' : Value) : FI C ρ0 σ0 w0 lm ρ (s.put none v) σ (a.put none v') w := h
theorem FI.step (h : FI C ρ0 σ0 w0 lm ρ s σ a w) {ρ' : Ren} {σ' : Mem} {w' : World} (hs : Sim ρ' σ' w') (ht : Stp ρ σ w ρ' σ' w') : FI C ρ0 σ0 w0 lm ρ' s σ' a w' := by
 have hlt : ∀ k b, lm k = some b → b < w.heap.size := fun k b hk => by
  obtain ⟨_, arr, el, h1, _⟩ := h.lb k b hk
  exact (Array.getElem?_eq_some_iff.1 h1).1
 refine ⟨hs, h.stp.trans ht, h.n, h.df, fun t hl => (h.tm t hl).mono ht.le, h.lt, fun k b hk => ?_, h.li, fun k b hk ho => h.ld k b hk (ht.own _ _ (hlt k b hk) ho)⟩
 obtain ⟨h0, arr, el, h1, h2⟩ := h.lb k b hk
 exact ⟨h0, arr, el, by rw [ht.keep b (hlt k b hk) (fun ho => h.ld k b hk ho.weak)]; exact h1, h2.mono ht.le⟩
theorem Sim.other {o : Obj} {b : Nat} {w' : World} (h : Sim ρ σ w) (hb : ¬ Own false ρ σ b) (hu : Upd w b o w') : Sim ρ σ w' := by
 refine ⟨fun id blk hg => ?_, h.s2, h.s3⟩
 obtain ⟨e, arr, el, fz, q1, q2, q3⟩ := h.s1 id blk hg
 exact ⟨e, arr, el, fz, q1, by rw [hu.rest _ (fun e' => hb ⟨id, blk, e, hg, fun h => (Bool.noConfusion h), q1, e'⟩)]; exact q2, q3⟩
theorem Sim.pushed {o : Obj} {w' : World} (h : Sim ρ σ w) (hu : Push w o w') : Sim ρ σ w' := by
 refine ⟨fun id blk hg => ?_, h.s2, h.s3⟩
 obtain ⟨e, arr, el, fz, q1, q2, q3⟩ := h.s1 id blk hg
 exact ⟨e, arr, el, fz, q1, by rw [hu.rest _ (Array.getElem?_eq_some_iff.1 q2).1]; exact q2, q3⟩
theorem setL_l (s : St) (k : Nat) (c : List Value) (i : Nat) : (s.setL k c).l i = if i = k then c else s.l i := by
 simp only [St.setL]
 cases h : Nat.beq i k
 ·have : i ≠ k := Nat.ne_of_beq_eq_false h
  simp [this]
 ·have : i = k := Nat.eq_of_beq_eq_true h
  simp [this]
theorem FI.setL (h : FI C ρ0 σ0 w0 lm ρ s σ a w) {k b : Nat} (hk : lm k = some b) {arr : Array Value} {el : TypeId} {c : List Value} {w' : World}
  (hu : Upd w b (.cells arr el (0, 0)) w') (hc : VL ρ c arr.toList) : FI C ρ0 σ0 w0 lm ρ (s.setL k c) σ a w' := by
 refine ⟨h.sim.other (h.ld k b hk) hu, ⟨h.stp.le, h.stp.same.trans hu.same, by rw [hu.size]; exact h.stp.size, fun b' hb' hn => ?_, h.stp.own⟩, h.n, h.df, h.tm, h.lt, fun k' b' hk' => ?_, h.li, h.ld⟩
 ·have : b' ≠ b := fun e => by
   have := (h.lb k b hk).1
   omega
  rw [hu.rest _ this]
  exact h.stp.keep b' hb' hn
 ·rw [setL_l]
  by_cases e : k' = k
  ·subst e
   rw [hk] at hk'; cases hk'
   exact ⟨(h.lb _ _ hk).1, arr, el, hu.here, by simpa using hc⟩
  ·obtain ⟨h0, arr', el', h1, h2⟩ := h.lb k' b' hk'
   have : b' ≠ b := fun e' => e (h.li _ _ b (e' ▸ hk') hk)
   exact ⟨h0, arr', el', by rw [hu.rest _ this]; exact h1, by simpa [e] using h2⟩
theorem FI.newL (h : FI C ρ0 σ0 w0 lm ρ s σ a w) {k : Nat} (hf : freshB C k s = true) {arr : Array Value} {el : TypeId} {c : List Value} {w' : World}
  (hp : Push w (.cells arr el (0, 0)) w') (hc : VL ρ c arr.toList) :
  FI C ρ0 σ0 w0 (fun i => if i = k then some w.heap.size else lm i) ρ (s.setL k c) σ a w' := by
 have hlt : ∀ k b, lm k = some b → b < w.heap.size := fun k b hk => by
  obtain ⟨_, arr, el, h1, _⟩ := h.lb k b hk
  exact (Array.getElem?_eq_some_iff.1 h1).1
 refine ⟨h.sim.pushed hp, ⟨h.stp.le, h.stp.same.trans hp.same, by have := h.stp.size; rw [hp.size]; omega, fun b' hb' hn => ?_, h.stp.own⟩, h.n, h.df, h.tm, fun t k' ht => ?_, fun k' b' hk' => ?_, fun k1 k2 b h1 h2 => ?_, fun k' b' hk' => ?_⟩
 ·rw [hp.rest _ (Nat.lt_of_lt_of_le hb' h.stp.size)]
  exact h.stp.keep b' hb' hn
 ·by_cases e : k' = k
  ·subst e
   have := List.all_eq_true.1 hf _ (mem_of_lookup ht)
   simp at this
   exact .inl this
  ·rcases h.lt t k' ht with h1 | ⟨o, b, h1, h2, h3⟩ | ⟨o, b, n, es, c', h1, h2, h3⟩
   ·exact .inl h1
   ·exact .inr (.inl ⟨o, b, h1, by simp [e, h2], h3⟩)
   ·exact .inr (.inr ⟨o, b, n, es, c', h1, by simp [e, h2], h3⟩)
 ·rw [setL_l]
  by_cases e : k' = k
  ·subst e
   simp at hk'; subst hk'
   exact ⟨h.stp.size, arr, el, hp.here, by simpa using hc⟩
  ·simp [e] at hk'
   obtain ⟨h0, arr', el', h1, h2⟩ := h.lb k' b' hk'
   exact ⟨h0, arr', el', by rw [hp.rest _ (hlt _ _ hk')]; exact h1, by simpa [e] using h2⟩
 ·by_cases e1 : k1 = k
  ·by_cases e2 : k2 = k
   ·rw [e1, e2]
   ·simp [e1] at h1; simp [e2] at h2
    have := hlt _ _ h2; omega
  ·by_cases e2 : k2 = k
   ·simp [e1] at h1; simp [e2] at h2
    have := hlt _ _ h1; omega
   ·simp [e1] at h1; simp [e2] at h2
    exact h.li _ _ _ h1 h2
 ·by_cases e : k' = k
  ·simp [e] at hk'; subst hk'
   intro ho
   exact absurd (Own.lt h.sim ho) (by omega)
  ·simp [e] at hk'; exact h.ld _ _ hk'
theorem FI.plain (h : FI C ρ0 σ0 w0 lm ρ s σ a w) {x : Operand} (hx : (C.isLoc x).isNone = true) : V ρ (evO s x) (a.eval x) := by
 cases x with
 | tmp t => exact h.tm t (by simpa [Cx.isLoc] using hx)
 | const v =>
  simp only [evO, Act.eval]
  cases hc : constOk v
  ·exact .poi _
  ·exact .const hc
 | global g => exact .poi _
 | func f => exact .poi _
theorem FI.plains (h : FI C ρ0 σ0 w0 lm ρ s σ a w) : ∀ {xs : List Operand}, C.plain xs = true → VL ρ (xs.map (evO s)) (xs.map a.eval)
 | [], _ => .nil
 | x :: xs, hx => by
  simp only [Cx.plain, List.all_cons, Bool.and_eq_true] at hx
  exact .cons (h.plain hx.1) (FI.plains h hx.2)
theorem FI.locv (h : FI C ρ0 σ0 w0 lm ρ s σ a w) {x : Operand} {k : Nat} (hx : C.isLoc x = some k) : LocV lm k (evO s x) (a.eval x) := by
 cases x with
 | tmp t => exact h.lt t k hx
 | const v => cases hx
 | global g => cases hx
 | func f => cases hx
theorem locF_sound {o : Oper} {x : Operand} {ys : List Operand} {g : List Value → Option Value} (hf : fOf C o.op = some (x :: ys, g)) (ha : (addrOp o.op || arrOp C.P o.op) = true)
  {ev ev' : Operand → Value} {k : Nat} (hx : LocV lm k (ev x) (ev' x)) (hys : VL ρ (ys.map ev) (ys.map ev')) {v : Value} (hg : g ((x :: ys).map ev) = some v) :
  ∃ v', (execOp ev' o).run C.P w = .ok (.value v') w ∧ LocV lm k v v' := by
 have fin : ∀ {s : Sem Value} {v' : Value}, s.run C.P w = .ok v' w → (do pure (Next.value (← s)) : Sem Next).run C.P w = .ok (.value v') w := by
  intro s v' h; simp [h]
 obtain ⟨dst, op, ty, pos, after, guard⟩ := o
 unfold fOf at hf
 cases op <;> simp only [addrOp, arrOp, Bool.or_false, Bool.false_or, Bool.or_self] at ha <;> simp only at hf
 case move x0 =>
  cases hf
  simp [fMove] at hg; subst hg
  exact ⟨_, by simp [execOp], hx⟩
 case nilCheck x0 =>
  cases hf
  simp only [List.map_cons, List.map_nil] at hg
  unfold fNil at hg
  split at hg
  ·rename_i ad h; simp at h; cases hg
   rcases hx with h1 | ⟨o, b, h1, h2, h3⟩ | ⟨o, b, n, es, c', h1, h2, h3⟩
   ·rw [h] at h1; cases h1
   ·refine ⟨_, by simp [execOp, h3], .inr (.inl ⟨o, b, by rw [← h1, h], h2, rfl⟩)⟩
   ·rw [h] at h1; cases h1
  ·cases hg
 case fieldAddr st x0 f =>
  split at hf
  ·rename_i fs hs
   split at hf
   ·rename_i fd hfd
    split at hf
    ·rename_i hk
     cases hf
     simp only [Bool.and_eq_true, bne_iff_ne, ne_eq] at hk
     simp only [List.map_cons, List.map_nil] at hg
     unfold fFld at hg
     split at hg
     ·rename_i ad h; simp at h; cases hg
      rcases hx with h1 | ⟨o, b, h1, h2, h3⟩ | ⟨o, b, n, es, c', h1, h2, h3⟩
      ·rw [h] at h1; cases h1
      ·rw [h] at h1; cases h1
       refine ⟨_, by simp only [execOp, h3]; exact fin (run_fieldAt hs hfd hk.1 hk.2 rfl), .inr (.inl ⟨o + fd.offset, b, by simp [adv], h2, by simp [adv]⟩)⟩
      ·rw [h] at h1; cases h1
     ·cases hg
    ·cases hf
   ·cases hf
  ·cases hf
 case indexAddr t x0 ix =>
  split at hf
  ·rename_i e ht; rw [ht] at ha; cases ha
  ·rename_i n e ht
   split at hf
   ·rename_i hk
    cases hf
    simp only [Bool.and_eq_true] at hk
    simp only [List.map_cons, List.map_nil] at hg hys
    obtain ⟨i', e', hi⟩ := hys.one
    simp at e'; subst e'
    unfold fIxA at hg
    split at hg
    ·rename_i ad k2 i h
     simp at h; obtain ⟨h1, h2⟩ := h
     rw [h2] at hi
     split at hg
     ·rename_i hb
      cases hg
      have ei := hi.int_inv
      obtain ⟨hb0, hb1⟩ := hb
      rcases hx with q1 | ⟨o, b, q1, q2, q3⟩ | ⟨o, b, n, es, c', q1, q2, q3⟩
      ·rw [h1] at q1; cases q1
      ·rw [h1] at q1; cases q1
       refine ⟨_, by simp only [execOp, q3, ei]; exact fin (run_indexA ht hk.1 rfl hb0 hb1), .inr (.inl ⟨o + i.toNat * tSz C.P e, b, by simp [adv], q2, by simp [adv]⟩)⟩
      ·rw [h1] at q1; cases q1
     ·cases hg
    ·cases hg
   ·cases hf
  ·cases hf
 all_goals cases ha
end
end Go.Fl
namespace Go.Fl
open Go
set_option linter.unusedVariables false
set_option linter.unusedSimpArgs false
section
variable {C : Cx} {ρ0 : Ren} {σ0 : Mem} {w0 : World} {lm : Nat → Option Nat} {ρ : Ren} {s : St} {σ : Mem} {a : Act} {w : World}
theorem run_newVar {P : Program} (t : TypeId) (v : Value) (w : World) :
  (newVar t v).run P w = .ok ⟨w.heap.size, 0, none⟩ { w with heap := w.heap.push (.cells v.cells t) } := by
 simp [newVar, newRow]
theorem finV {P : Program} {s : Sem Value} {v' : Value} {w w' : World} (h : s.run P w = .ok v' w') : (do pure (Next.value (← s)) : Sem Next).run P w = .ok (.value v') w' := by
 simp [h]
theorem finU {P : Program} {s : Sem Unit} {w w' : World} (h : s.run P w = .ok () w') : (do s; pure Next.skip : Sem Next).run P w = .ok .skip w' := by
 simp [h]
theorem fresh2 (h : Sim ρ σ w) : ∃ id, σ.get id = none ∧ ρ id = none := by
 obtain ⟨N, hN⟩ := σ.fin
 obtain ⟨M, hM⟩ := h.s3
 exact ⟨N + M, hN _ (by omega), hM _ (by omega)⟩
def Step (P : Program) (o : Oper) (a : Act) (ρ : Ren) (σ : Mem) (w : World) (K : Value → Mem → Prop) : Prop :=
 ∀ (next : Act → World → Prop) (Q : Exit → Act → World → Prop),
  (∀ v v' ρ' σ' w', K v σ' → V ρ' v v' → Sim ρ' σ' w' → Stp ρ σ w ρ' σ' w' → next (a.put o.dst v') w') → o.wp P a w next Q
theorem step_value {P : Program} {o : Oper} {K : Value → Mem → Prop} {v v' : Value} {ρ' : Ren} {σ' : Mem} {w' : World}
  (hr : (execOp a.eval o).run P w = .ok (.value v') w') (hk : K v σ') (hv : V ρ' v v') (hs : Sim ρ' σ' w') (ht : Stp ρ σ w ρ' σ' w') : Step P o a ρ σ w K := by
 intro next Q hn
 unfold Oper.wp
 rw [hr, Oper.upon_value]
 exact hn _ _ _ _ _ hk hv hs ht
theorem step_skip' {P : Program} {o : Oper} {K : Value → Mem → Prop} {ρ' : Ren} {σ' : Mem} {w' : World}
  (hr : (execOp a.eval o).run P w = .ok .skip w') (hk : K undef σ') (hs : Sim ρ' σ' w') (ht : Stp ρ σ w ρ' σ' w') : Step P o a ρ σ w K := by
 intro next Q hn
 unfold Oper.wp
 rw [hr, Oper.upon_skip]
 exact hn _ _ _ _ _ hk .undef hs ht
theorem V.ptr_of {b o : Nat} {e : RE} {v' : Value} (h : V ρ (.pointer (some ⟨b, o, none⟩)) v') (he : ρ b = some e) : v' = .pointer (some ⟨e.blk, e.sh + o, none⟩) := by
 cases h with
 | ptr h => rw [he] at h; cases h; rfl
theorem step_load {o : Oper} {t : TypeId} {p : Operand} (ho : o.op = .load t p) (hk : tKnown C.P t = true) (hA : (tAgg C.P t || tSz C.P t == 1) = true)
  (hp : V ρ (evO s p) (a.eval p)) (hs : Sim ρ σ w) {K : Value → Mem → Prop} (h : hLoad (tSz C.P t) (tAgg C.P t) [evO s p] K σ) : Step C.P o a ρ σ w K := by
 obtain ⟨dst, op, ty, pos, after, guard⟩ := o
 simp only at ho; subst ho
 unfold hLoad at h
 split at h
 ·rename_i b off hx
  simp at hx
  split at h
  ·rename_i v hv
   unfold rd at hv
   split at hv
   ·rename_i blk hg
    obtain ⟨e, arr, el, fz, q1, q2, q3, q4, q5, q6⟩ := hs.s1 _ _ hg
    rw [hx] at hp
    have hp' : a.eval p = .pointer (some ⟨e.blk, e.sh + off, none⟩) := hp.ptr_of q1
    obtain ⟨hle, v', h1, h2⟩ := sub_sound q5 hv
    have hwl : (win arr e.sh blk.cells.length).length = blk.cells.length := q5.len.symm
    rw [hwl] at hle
    have hv' : (if tAgg C.P t then some (.agg ((arr.toList.drop (e.sh + off)).take (tSz C.P t)).toArray) else arr.toList[e.sh + off]?) = some v' := by
     rw [← h1]
     unfold win
     cases hg : tAgg C.P t
     ·have : tSz C.P t = 1 := by simpa [hg] using hA
      simp only [Bool.false_eq_true, if_false]
      rw [List.getElem?_take, List.getElem?_drop, if_pos (by omega)]
     ·simp only [if_true]
      rw [List.drop_take, List.take_take, List.drop_drop, Nat.min_eq_left (by omega)]
    have hr := run_loadVar (P := C.P) (w := w) hk (by simpa using hA) q2 (o := e.sh + off) (by omega) hv'
    refine step_value (v' := v') ?_ h h2 hs (Stp.refl _ _ _)
    simp only [execOp, hp']
    exact finV (by simp only [Instr.loadAt, Instr.sureAddr, Sem.run_bind, Sem.run_pure, Result.andThen_ok, hr])
   ·cases hv
  ·exact h.elim
 ·exact h.elim
theorem step_store {o : Oper} {t : TypeId} {p x : Operand} (ho : o.op = .store t p x) (hk : tKnown C.P t = true)
  (hp : V ρ (evO s p) (a.eval p)) (hx : V ρ (evO s x) (a.eval x)) (hs : Sim ρ σ w) {K : Value → Mem → Prop} (h : hStore (tSz C.P t) [evO s p, evO s x] K σ) : Step C.P o a ρ σ w K := by
 obtain ⟨dst, op, ty, pos, after, guard⟩ := o
 simp only at ho; subst ho
 unfold hStore at h
 split at h
 ·rename_i b off x0 hxx
  simp at hxx
  split at h
  ·rename_i τ hτ
   unfold wr at hτ
   split at hτ
   ·rename_i blk c hg hc
    split at hτ
    ·rename_i hb
     cases hτ
     obtain ⟨hrw, hle, hone⟩ := hb
     obtain ⟨e, arr, el, fz, q1, q2, q3, q4, q5, q6⟩ := hs.s1 _ _ hg
     have := q6 hrw; subst this
     rw [hxx.1] at hp; rw [hxx.2] at hx
     have hp' : a.eval p = .pointer (some ⟨e.blk, e.sh + off, none⟩) := hp.ptr_of q1
     obtain ⟨c', hc', hl⟩ := hx.cells hc
     have hlc := (cells_of hc).2.2
     obtain ⟨w', hr, hu⟩ := run_storeVar (P := C.P) (w := w) (o := e.sh + off) hk q2 hc' (hl.oneB hone) (by omega)
     obtain ⟨k1, k2, k3⟩ := hs.upd hg hrw q1 q2 (o := off) (by omega) hl hu
     refine step_skip' (w' := w') ?_ h k1 k2
     simp only [execOp, hp']
     exact finU (by simp only [Instr.storeAt, Instr.sureAddr, Sem.run_bind, Sem.run_pure, Result.andThen_ok, hr])
    ·cases hτ
   ·cases hτ
  ·exact h.elim
 ·exact h.elim
theorem win_all (arr : Array Value) : win arr 0 arr.size = arr.toList := by
 unfold win
 simp [List.take_of_length_le]
theorem step_new {o : Oper} {c : List Value} {v : Nat → Value} {K : Value → Mem → Prop} (hs : Sim ρ σ w) (h : newB c v K σ) {arr : Array Value} {el : TypeId} {w' : World} {v' : Value}
  (hp : Push w (.cells arr el (0, 0)) w') (hv : VL ρ c (win arr 0 c.length)) (hlen : c.length ≤ arr.size) (hr : (execOp a.eval o).run C.P w = .ok (.value v') w')
  (hV : ∀ ρ' id, ρ' id = some ⟨w.heap.size, 0, arr.size⟩ → V ρ' (v id) v') : Step C.P o a ρ σ w K := by
 obtain ⟨id, h1, h2⟩ := fresh2 hs
 obtain ⟨ρ', q1, q2, q3, q4⟩ := hs.push h1 h2 hp (Nat.le_refl arr.size) hlen hv
 exact step_value hr (h id h1) (hV ρ' id q1) q2 q3
theorem step_alloc {o : Oper} {e : TypeId} (ho : o.op = .alloc e) {z : List Value} (hz : tZero C.P e = some z) (hs : Sim ρ σ w) {K : Value → Mem → Prop}
  (h : hAlloc z [] K σ) : Step C.P o a ρ σ w K := by
 obtain ⟨dst, op, ty, pos, after, guard⟩ := o
 simp only at ho; subst ho
 obtain ⟨i, zv, hi, hzv, hc, _, hvl, _, _⟩ := tZero_spec (ρ := ρ) hz
 refine step_new hs h (arr := zv.cells) (el := e) (push_new w _) ?_ ?_ (v' := .pointer (some ⟨w.heap.size, 0, none⟩)) ?_ (fun ρ' id h => by simpa using V.ptr (o := 0) h)
 ·have : z.length = zv.cells.size := by rw [← hc]; simp
  rw [this, win_all, hc]; exact hvl
 ·rw [← hc]; simp
 ·simp only [execOp]
  refine finV ?_
  simp only [Instr.alloc, Sem.run_bind, run_zeroValue' hi hzv, Result.andThen_ok, run_newVar, Sem.run_pure]
theorem step_box {o : Oper} {e : TypeId} {x : Operand} (ho : o.op = .box e x) (hx : V ρ (evO s x) (a.eval x)) (hs : Sim ρ σ w) {K : Value → Mem → Prop} {sz : Nat}
  (h : hBox sz [evO s x] K σ) : Step C.P o a ρ σ w K := by
 obtain ⟨dst, op, ty, pos, after, guard⟩ := o
 simp only at ho; subst ho
 simp only [hBox] at h
 split at h
 ·rename_i c hc
  ·skip
   obtain ⟨c', hc', hl⟩ := hx.cells hc
   obtain ⟨e1, e2, e3⟩ := cells_of hc'
   have e4 := (cells_of hc).2.2
   refine step_new hs h (arr := (a.eval x).cells) (el := e) (push_new w _) ?_ (by omega) (v' := .pointer (some ⟨w.heap.size, 0, none⟩)) ?_ (fun ρ' id h => by simpa using V.ptr (o := 0) h)
   ·rw [e4, ← e2, win_all, e1]; exact hl
   ·simp only [execOp]
    refine finV ?_
    simp only [Instr.box, Sem.run_bind, Result.andThen_ok, run_newVar, Sem.run_pure]
 ·exact h.elim
theorem range_flat (z : List Value) (n : Nat) : ((Array.range (n * z.length)).map (z.toArray[· % z.toArray.size]!)).toList = (List.replicate n z).flatten := by
 induction n with
 | zero => simp
 | succ n ih =>
  have h1 : (List.replicate (n + 1) z).flatten = (List.replicate n z).flatten ++ z := by
   rw [List.replicate_succ', List.flatten_append]; simp
  rw [h1, ← ih]
  apply List.ext_getElem
  ·simp [Nat.succ_mul]
  ·intro i hi hi'
   simp only [Array.toList_map, List.getElem_map, Array.getElem_toList, Array.getElem_range, List.getElem_append, Array.length_toList, Array.size_map, Array.size_range]
   have hi2 : i < n * z.length + z.length := by simpa [Nat.succ_mul] using hi
   split
   ·rfl
   ·rename_i hge
    have hge2 : n * z.length ≤ i := by simpa using hge
    have hz : 0 < z.length := by omega
    have : i % z.length = i - n * z.length := by
     have e : i = (i - n * z.length) + n * z.length := by omega
     rw [e, Nat.add_mul_mod_self_right, Nat.mod_eq_of_lt (by omega)]
     omega
    simp only [List.size_toArray, this]
    rw [getElem!_pos _ _ (by simp; omega)]
    simp
theorem zero_flat {P : Program} {e : TypeId} {z : List Value} (hz : tZero P e = some z) (ρ : Ren) (n : Nat) :
  VL ρ (List.replicate n z).flatten (List.replicate n z).flatten ∧ (List.replicate n z).flatten.length = n * tSz P e := by
 obtain ⟨i, zv, hi, hzv, hc, h1, hvl, h2, _⟩ := tZero_spec (ρ := ρ) hz
 induction n with
 | zero => simp; exact .nil
 | succ n ih =>
  refine ⟨?_, ?_⟩
  ·rw [List.replicate_succ, List.flatten_cons]
   exact hvl.append ih.1
  ·rw [List.replicate_succ, List.flatten_cons, List.length_append, ih.2, h2, Nat.succ_mul, Nat.add_comm]
theorem run_buildS {P : Program} {t e : TypeId} (ht : P.underlying t = some (.slice e)) {z : List Value} (hz : tZero P e = some z) {len : Nat} (hb : Nat.ble (len * tSz P e) 16777216 = true)
  {parts : Array (Nat × Value)} {idx : List Nat} {vs vs' : List Value} (hp : parts.toList = idx.zip vs') (hv : VL ρ vs vs') {c : List Value}
  (h : fillL (fun i => some (i * tSz P e, tSz P e)) (List.replicate len z).flatten idx vs = some c) :
  ∃ c', VL ρ c c'.toList ∧ (Instr.buildSlice t len parts).run P w = .ok (.slice (some ⟨w.heap.size, 0, none⟩) len len) { w with heap := w.heap.push (.cells c' e) } := by
 obtain ⟨i, zv, hi, hzv, hc, hsz, hvl, h2, _⟩ := tZero_spec (ρ := ρ) hz
 obtain ⟨zf, zl⟩ := zero_flat hz ρ len
 obtain ⟨c', h3, h4⟩ := fill_sound (fun _ _ h => h) zf hv h
 refine ⟨c', h4, ?_⟩
 have hk : tKnown P e = true ∨ True := .inr trivial
 have hcz : zv.cells = z.toArray := Array.ext' (by simpa using hc)
 have hso : (sizeOf e).run P w = .ok (tSz P e) w := by simp [sizeOf, typeInfo, hi, tSz, Program.cellsOf]
 have hle : ¬ len * tSz P e > 2 ^ 24 := by
  have := Nat.le_of_ble_eq_true hb
  simpa using this
 have hcells : ∀ (zc : Array Value), (len * tSz P e = 0 ∨ zc = z.toArray) → ((Array.range (len * tSz P e)).map (zc[· % zc.size]!)) = (List.replicate len z).flatten.toArray := by
  intro zc hzc
  apply Array.ext'
  rcases hzc with h0 | rfl
  ·rw [h0]
   have : (List.replicate len z).flatten.length = 0 := by rw [zl, h0]
   simp [List.length_eq_zero_iff.1 this]
  ·rw [← h2]; simpa using range_flat z len
 simp only [Instr.buildSlice, Sem.run_bind, run_underlying' ht, Result.andThen_ok, hso, Sem.run_ite, hle, if_false, Sem.run_pure]
 by_cases h0 : len * tSz P e = 0
 ·simp only [h0, if_true, Sem.run_pure, Result.andThen_ok]
  have := hcells #[] (.inl h0)
  rw [h0] at this
  simp only [this, hp, h3, Sem.run_bind, newRow, run_newObj, Result.andThen_ok, Sem.run_pure]
 ·simp only [h0, if_false, Sem.run_bind, run_zeroValue' hi hzv, Sem.run_pure, Result.andThen_ok, hcz]
  have := hcells z.toArray (.inr rfl)
  simp only [this, hp, h3, Sem.run_bind, newRow, run_newObj, Result.andThen_ok, Sem.run_pure]
theorem fillL_len {places : Nat → Option (Nat × Nat)} : ∀ {idx : List Nat} {cells vs c : List Value}, fillL places cells idx vs = some c → c.length = cells.length := by
 intro idx
 induction idx with
 | nil => intro cells vs c h; cases vs <;> simp [fillL] at h; rw [h]
 | cons i is ih =>
  intro cells vs c h
  cases vs with
  | nil => simp [fillL] at h
  | cons v vs =>
   simp only [fillL] at h
   split at h
   ·split at h
    ·split at h
     ·rename_i off sz hp _ cc hcc hle
      rw [ih h]
      have := (cells_of hcc).2.2
      simp [lay]; omega
     ·cases h
    ·cases h
   ·cases h
theorem step_buildS {o : Oper} {t e : TypeId} {len : Nat} {parts : Array (Nat × Operand)} (ho : o.op = .buildSlice t len parts) (ht : C.P.underlying t = some (.slice e))
  {z : List Value} (hz : tZero C.P e = some z) (hb : Nat.ble (len * tSz C.P e) 16777216 = true)
  (hx : VL ρ ((parts.toList.map (·.2)).map (evO s)) ((parts.toList.map (·.2)).map a.eval)) (hs : Sim ρ σ w) {K : Value → Mem → Prop}
  (h : hBuildS (tSz C.P e) len z (parts.toList.map (·.1)) ((parts.toList.map (·.2)).map (evO s)) K σ) : Step C.P o a ρ σ w K := by
 obtain ⟨dst, op, ty, pos, after, guard⟩ := o
 simp only at ho; subst ho
 unfold hBuildS at h
 split at h
 ·rename_i c hc
  obtain ⟨c', h1, h2⟩ := run_buildS (w := w) ht hz hb (zip_map_parts (ev := a.eval) parts) hx hc
  have hlen := fillL_len hc
  have hsz : c'.size = len * tSz C.P e := by
   have := h1.len; rw [hlen, (zero_flat hz ρ len).2] at this; simpa using this.symm
  refine step_new hs h (arr := c') (el := e) (push_new w _) ?_ (by have := h1.len; simp at this; omega) (v' := .slice (some ⟨w.heap.size, 0, none⟩) len len) ?_ (fun ρ' id h => ?_)
  ·have : c.length = c'.size := by have := h1.len; simpa using this
   rw [this, win_all]; exact h1
  ·simp only [execOp]; exact finV h2
  ·have := V.sl (ρ := ρ') (o := 0) (n := len) (c := tSz C.P e) (c' := len) h (Nat.le_refl _) (by simp [hsz])
   simpa using this
 ·exact h.elim
theorem wrap_id {n : Int} (h0 : 0 ≤ n) (h1 : n ≤ 1073741824) : IntKind.i64.wrap n = n := by
 simp [IntKind.wrap, IntKind.bits, IntKind.signed]
 omega
theorem step_makeS {o : Oper} {t e : TypeId} {n m : Operand} (ho : o.op = .makeSlice t n m) (ht : C.P.underlying t = some (.slice e))
  {z : List Value} (hz : tZero C.P e = some z) (hn : V ρ (evO s n) (a.eval n)) (hm : V ρ (evO s m) (a.eval m)) (hs : Sim ρ σ w) {K : Value → Mem → Prop}
  (h : hMakeS (tSz C.P e) (C.P.bytesOf e) z [evO s n, evO s m] K σ) : Step C.P o a ρ σ w K := by
 obtain ⟨dst, op, ty, pos, after, guard⟩ := o
 simp only at ho; subst ho
 unfold hMakeS at h
 split at h
 ·rename_i x y hxy
  simp at hxy
  rw [hxy.1] at hn; rw [hxy.2] at hm
  split at h
  ·rename_i hb
   obtain ⟨rfl, h0, h1, h2⟩ := hb
   obtain ⟨i, zv, hi, hzv, hc, hsz, hvl, hl2, _⟩ := tZero_spec (ρ := ρ) hz
   obtain ⟨zf, zl⟩ := zero_flat hz ρ x.toNat
   have hcz : zv.cells = z.toArray := Array.ext' (by simpa using hc)
   have hso : (sizeOf e).run C.P w = .ok (tSz C.P e) w := by simp [sizeOf, typeInfo, hi, tSz, Program.cellsOf]
   have hby : i.bytes ≤ 1024 := by simpa [Program.bytesOf, hi] using h2
   have hbn : (i.bytes : Int) * x ≤ 1024 * 1073741824 := by
    have : (i.bytes : Int) * x ≤ 1024 * x := Int.mul_le_mul_of_nonneg_right (by omega) h0
    omega
   have hcells : ∀ (zc : Array Value), (x.toNat * tSz C.P e = 0 ∨ zc = z.toArray) → ((Array.range (x.toNat * tSz C.P e)).map (zc[· % zc.size]!)) = (List.replicate x.toNat z).flatten.toArray := by
    intro zc hzc
    apply Array.ext'
    rcases hzc with h0 | rfl
    ·rw [h0]
     have : (List.replicate x.toNat z).flatten.length = 0 := by rw [zl, h0]
     simp [List.length_eq_zero_iff.1 this]
    ·rw [← hl2]; simpa using range_flat z x.toNat
   refine step_new hs h (arr := (List.replicate x.toNat z).flatten.toArray) (el := e) (push_new w _) ?_ (by simp) (v' := .slice (some ⟨w.heap.size, 0, none⟩) x.toNat x.toNat) ?_ (fun ρ' id h => ?_)
   ·have : (List.replicate x.toNat z).flatten.length = (List.replicate x.toNat z).flatten.toArray.size := by simp
    rw [this, win_all]; exact zf
   ·simp only [execOp, hn.int_inv, hm.int_inv]
    refine finV ?_
    simp only [Instr.makeSlice, Sem.run_bind, run_underlying' ht, Result.andThen_ok, asInt, asIntOf, Sem.run_pure, run_typeInfo' hi, wrap_id h0 h1]
    have c1 : ¬ (x < 0) := by omega
    have c2 : ¬ ((i.bytes : Int) * x > 2 ^ 48) := by omega
    simp only [c1, c2, decide_false, Bool.or_self, Bool.false_or, Bool.or_false, gt_iff_lt, Int.lt_irrefl, Bool.false_eq_true, if_false, Sem.run_ite, Sem.run_bind, run_askRoom, Result.andThen_ok, hso, Sem.run_pure]
    by_cases h00 : x.toNat * tSz C.P e = 0
    ·simp only [h00, if_true, Sem.run_pure, Result.andThen_ok]
     have := hcells #[] (.inl h00)
     rw [h00] at this
     simp only [this, newRow, Sem.run_bind, run_newObj, Result.andThen_ok, Sem.run_pure]
    ·simp only [h00, if_false, Sem.run_bind, run_zeroValue' hi hzv, Sem.run_pure, Result.andThen_ok, hcz]
     have := hcells z.toArray (.inr rfl)
     simp only [this, newRow, Sem.run_bind, run_newObj, Result.andThen_ok, Sem.run_pure]
   ·have := V.sl (ρ := ρ') (o := 0) (n := x.toNat) (c := tSz C.P e) (c' := x.toNat) h (Nat.le_refl _) (by simp only [List.size_toArray, zl]; omega)
    simpa using this
  ·exact h.elim
 ·exact h.elim
theorem growBy_le (n : Nat) : ∀ (r c : Nat), c ≤ n + (n + 768) / 4 → Builtin.growBy n r c ≤ n + (n + 768) / 4
 | 0, c, h => h
 | r + 1, c, h => by
  simp only [Builtin.growBy]
  split
  ·exact h
  ·exact growBy_le n r _ (by omega)
theorem nextcap_le {n c : Nat} (h : c < n) : Builtin.nextslicecap n c ≤ 2 * n + 1000 := by
 unfold Builtin.nextslicecap
 split
 ·omega
 ·split
  ·omega
  ·have := growBy_le n 4 c (by omega)
   omega
theorem run_first {P : Program} {es n : Nat} {x x' : Value} (hx : V ρ x x') (hs : Sim ρ σ w) {new : List Value} (h : srcOf σ es x = some new) (hn : lenS x = n) :
  ∃ new', VL ρ new new' ∧ new.length = n * es ∧ (∀ w' : World, w'.heap = w.heap → (Builtin.firstCells es n x').run P w' = .ok new'.toArray w') ∧ ∃ a c, x' = .slice a n c := by
 unfold srcOf at h
 split at h
 ·cases h
  simp [lenS] at hn; subst hn
  cases hx
  exact ⟨[], .nil, by simp, fun w' _ => by simp [Builtin.firstCells], none, 0, rfl⟩
 ·rename_i b o m c
  simp [lenS] at hn; subst hn
  split at h
  ·rename_i blk hg
   split at h
   ·rename_i hle
    cases h
    obtain ⟨e, arr, el, fz, q1, q2, q3, q4, q5, q6⟩ := hs.s1 _ _ hg
    have hwl : ∀ {k : Nat}, o + k ≤ blk.cells.length → ((win arr e.sh blk.cells.length).drop o).take k = (arr.toList.drop (e.sh + o)).take k := by
     intro k hk
     unfold win
     rw [List.drop_take, List.take_take, List.drop_drop, Nat.min_eq_left (by omega)]
    cases hx with
    | @sl _ _ _ _ c' e2 hb hl hc =>
     rw [q1] at hb; cases hb
     refine ⟨_, (q5.drop o).take _, by simp; omega, fun w' hw => ?_, _, _, rfl⟩
     have hq : w'.heap[e.blk]? = some (.cells arr el fz) := by rw [hw]; exact q2
     simp only [Builtin.firstCells, loadCells]
     rw [run_loadCellsFrom hq _ 0 #[] (by omega), hwl hle]
     simp
    | @slE _ _ _ a' =>
     refine ⟨[], by simpa using VL.nil, by simp, fun w' hw => ?_, _, _, rfl⟩
     simp [Builtin.firstCells, loadCells, loadCellsFrom]
   ·cases h
  ·cases h
 ·cases h
end
end Go.Fl
namespace Go.Fl
open Go
set_option linter.unusedVariables false
set_option linter.unusedSimpArgs false
section
variable {C : Cx} {ρ0 : Ren} {σ0 : Mem} {w0 : World} {lm : Nat → Option Nat} {ρ : Ren} {s : St} {σ : Mem} {a : Act} {w : World}
theorem Sim.heap {w' : World} (h : Sim ρ σ w) (hh : w'.heap = w.heap) : Sim ρ σ w' :=
 ⟨fun id blk hg => by rw [hh]; exact h.s1 id blk hg, h.s2, h.s3⟩
theorem run_append_in {P : Program} {t u e : TypeId} (ht : P.underlying t = some (.slice e)) (hu : ∃ e', P.underlying u = some (.slice e')) (hk : tKnown P e = true)
  {ty : TypeId} {base : Option Addr} {sl sc n : Nat} {x' : Value} {new' : List Value} (hn : ∃ a c, x' = .slice a n c)
  (hf : (Builtin.firstCells (tSz P e) n x').run P w = .ok new'.toArray w) (hle : sl + n ≤ sc) {w' : World}
  (hst : ∀ ad, base = some ad → (storeCells (ad.add (sl * tSz P e)) new').run P w = .ok () w') (hno : base = none → w' = w) :
  (Builtin.append_ #[t, u] ty #[.slice base sl sc, x']).run P w = .ok (.slice base (sl + n) sc) w' := by
 obtain ⟨e', hu⟩ := hu
 obtain ⟨a, c, rfl⟩ := hn
 simp only [Builtin.append_, Sem.run_bind, run_underlying' ht, Result.andThen_ok, run_sizeOf' hk, run_underlying' hu, Sem.run_pure, List.getElem?_toArray, List.getElem?_cons_zero, List.getElem?_cons_succ]
 simp only [Builtin.lenOf, Sem.run_bind, Sem.run_pure, Result.andThen_ok, Bool.not_false, if_true, hf, Sem.run_ite, hle, Bool.false_eq_true, if_false]
 cases base with
 | none => simp only [Result.andThen_ok, Sem.run_pure, Sem.run_bind, hno rfl]
 | some ad => simp only [Result.andThen_ok, Sem.run_pure, Sem.run_bind, hst ad rfl]
theorem run_append_out {P : Program} {t u e : TypeId} (ht : P.underlying t = some (.slice e)) (hu : ∃ e', P.underlying u = some (.slice e')) (hk : tKnown P e = true)
  {i : TypeInfo} {zv : Value} (hi : P.info? e = some i) (hz : i.zero = some zv) (hzs : zv.cells.size = tSz P e)
  {ty : TypeId} {base : Option Addr} {sl sc n : Nat} {x' : Value} {new' old' : List Value} (hn : ∃ a c, x' = .slice a n c)
  (hf : ∀ w' : World, w'.heap = w.heap → (Builtin.firstCells (tSz P e) n x').run P w' = .ok new'.toArray w') (hgt : sc < sl + n) (hb : sl + n ≤ 1073741824) (hby : i.bytes ≤ 1024)
  (ho : ∀ w' : World, w'.heap = w.heap → (Builtin.firstCells (tSz P e) sl (.slice base sl sc)).run P w' = .ok old'.toArray w') :
  ∃ cap arr w', sl + n ≤ cap ∧ arr.toList.take (old'.length + new'.length) = old' ++ new' ∧ arr.size = old'.length + new'.length + (cap - (sl + n)) * tSz P e ∧ Push w (.cells arr e (0, 0)) w' ∧
   (Builtin.append_ #[t, u] ty #[.slice base sl sc, x']).run P w = .ok (.slice (some ⟨w.heap.size, 0, none⟩) (sl + n) cap) w' := by
 obtain ⟨e', hu⟩ := hu
 obtain ⟨a, c, rfl⟩ := hn
 let q : Question := .appendCap (sl + n) sc e
 let cap := q.cut (w.tape w.drawn q)
 let w1 : World := { w with drawn := w.drawn + 1 }
 have hw1 : w1.heap = w.heap := rfl
 have hcap : sl + n ≤ cap := by
  show sl + n ≤ q.cut (w.tape w.drawn q)
  simp [q, Question.cut]
 have hnf : q.forced = false := rfl
 have hnext : ¬ (Builtin.nextslicecap (sl + n) sc * i.bytes > 2 ^ 48) := by
  have h1 := nextcap_le hgt
  have : Builtin.nextslicecap (sl + n) sc * i.bytes ≤ (2 * 1073741824 + 1000) * 1024 := Nat.mul_le_mul (by omega) hby
  omega
 have hnle : ¬ sl + n ≤ sc := by omega
 refine ⟨cap, old'.toArray ++ new'.toArray ++ Builtin.zeroCells zv.cells (cap - (sl + n)), { w1 with heap := w1.heap.push (.cells (old'.toArray ++ new'.toArray ++ Builtin.zeroCells zv.cells (cap - (sl + n))) e) }, hcap, ?_, ?_, ?_, ?_⟩
 ·simp only [Array.toList_append]
  exact List.take_left' (by simp)
 ·simp [Builtin.zeroCells, hzs]
 ·exact ⟨⟨rfl, rfl, rfl⟩, by simp [w1], fun k hk => by simp [w1, Array.getElem?_push, Nat.ne_of_lt hk], by simp [w1]⟩
 ·simp only [Builtin.append_, Sem.run_bind, run_underlying' ht, Result.andThen_ok, run_sizeOf' hk, run_underlying' hu, Sem.run_pure, List.getElem?_toArray, List.getElem?_cons_zero, List.getElem?_cons_succ]
  have hmax : ¬ (((sl + n : Nat) : Int) > IntKind.i64.max ∧ (False ∨ i.bytes = 0)) := by
   have : IntKind.i64.max = 9223372036854775807 := by decide
   rw [this]; omega
  simp only [Builtin.lenOf, Sem.run_bind, Sem.run_pure, Result.andThen_ok, Bool.not_false, if_true, Sem.run_ite, hnle, Bool.false_eq_true, if_false, run_typeInfo' hi, hmax, hnext, run_choose]
  have hq : (Question.appendCap (sl + n) sc e).forced = false := rfl
  simp only [hq, Bool.false_eq_true, if_false, Result.andThen_ok, run_askRoom]
  rw [ho _ hw1, Result.andThen_ok, hf _ hw1]
  simp only [Result.andThen_ok, run_zeroValue' hi hz, newRow, Sem.run_bind, run_newObj, Sem.run_pure]
  rfl
theorem Sim.regrow (h : Sim ρ σ w) {b : Nat} {blk : Blk} (hg : σ.get b = some blk) (hrw : blk.rw = true) {e : RE} (he : ρ b = some e) {id : Nat} (h1 : σ.get id = none) (h2 : ρ id = none)
  {w' : World} {o : Nat} {c : List Value} {arr : Array Value} {el : TypeId} (hu : Upd w e.blk (.cells arr el (0, 0)) w') (hsz : e.sh + e.cap ≤ arr.size) (ho : o ≤ e.cap) (hc : c.length ≤ e.cap - o)
  (hv : VL ρ c (win arr (e.sh + o) c.length)) :
  ∃ ρ', ρ' id = some ⟨e.blk, e.sh + o, e.cap - o⟩ ∧ Sim ρ' ((σ.set id ⟨c, true⟩).del b) w' ∧ Stp ρ σ w ρ' ((σ.set id ⟨c, true⟩).del b) w' := by
 have hbi : b ≠ id := fun e => by rw [e, h1] at hg; cases hg
 have hle : ρ.le (fun j => if j = id then some ⟨e.blk, e.sh + o, e.cap - o⟩ else ρ j) := fun j ej hj => by
  dsimp only
  split
  ·rename_i hji; subst hji; rw [h2] at hj; cases hj
  ·exact hj
 have hget : ∀ {j : Nat} {bj : Blk}, ((σ.set id ⟨c, true⟩).del b).get j = some bj → (j = id ∧ bj = ⟨c, true⟩) ∨ (j ≠ id ∧ j ≠ b ∧ σ.get j = some bj) := by
  intro j bj hj
  rw [Mem.get_del] at hj
  split at hj
  ·cases hj
  ·rename_i hjb
   rw [Mem.get_set] at hj
   split at hj
   ·rename_i hji; cases hj; exact .inl ⟨hji, rfl⟩
   ·rename_i hji; exact .inr ⟨hji, hjb, hj⟩
 have hown : ∀ r x, Own r (fun j => if j = id then some ⟨e.blk, e.sh + o, e.cap - o⟩ else ρ j) ((σ.set id ⟨c, true⟩).del b) x → Own r ρ σ x := by
  intro r x hx
  obtain ⟨j, bj, ej, q1, q2, q3, q4⟩ := hx
  rcases hget q1 with ⟨rfl, rfl⟩ | ⟨n1, n2, q5⟩
  ·simp at q3; subst q3
   exact ⟨b, blk, e, hg, fun _ => hrw, he, q4⟩
  ·dsimp only at q3; rw [if_neg n1] at q3
   exact ⟨j, bj, ej, q5, q2, q3, q4⟩
 refine ⟨fun j => if j = id then some ⟨e.blk, e.sh + o, e.cap - o⟩ else ρ j, by simp, ⟨fun j bj hj => ?_, fun x y bx bY ex ey hn hx hy hr ex' ey' => ?_, ?_⟩, ⟨hle, hu.same, by rw [hu.size]; exact Nat.le_refl _, fun x _ hx => hu.rest x fun hh => hx ⟨b, blk, e, hg, fun _ => hrw, he, hh.symm⟩, fun r x _ hx => hown r x hx⟩⟩
 ·rcases hget hj with ⟨rfl, rfl⟩ | ⟨n1, n2, q5⟩
  ·exact ⟨⟨e.blk, e.sh + o, e.cap - o⟩, arr, el, (0, 0), by simp, hu.here, by simp only; omega, hc, hv.mono hle, fun _ => rfl⟩
  ·obtain ⟨e2, arr2, el2, fz2, r1, r2, r3, r4, r5, r6⟩ := h.s1 _ _ q5
   have : e2.blk ≠ e.blk := fun hh => h.s2 _ _ _ _ _ _ (Ne.symm n2) hg q5 hrw he r1 hh.symm
   exact ⟨e2, arr2, el2, fz2, by simp [n1, r1], by rw [hu.rest _ this]; exact r2, r3, r4, r5.mono hle, r6⟩
 ·rcases hget hx with ⟨rfl, rfl⟩ | ⟨n1, n2, q5⟩
  ·rcases hget hy with ⟨rfl, rfl⟩ | ⟨m1, m2, q6⟩
   ·exact absurd rfl hn
   ·simp at ex'; subst ex'
    rw [if_neg m1] at ey'
    exact fun hh => h.s2 _ _ _ _ _ _ (Ne.symm m2) hg q6 hrw he ey' hh
  ·rw [if_neg n1] at ex'
   rcases hget hy with ⟨rfl, rfl⟩ | ⟨m1, m2, q6⟩
   ·simp at ey'; subst ey'
    exact fun hh => h.s2 _ _ _ _ _ _ (Ne.symm n2) hg q5 hrw he ex' hh.symm
   ·rw [if_neg m1] at ey'
    exact h.s2 _ _ _ _ _ _ hn q5 q6 hr ex' ey'
 ·obtain ⟨N, hN⟩ := h.s3
  exact ⟨N + id + 1, fun i hi => by rw [if_neg (by omega)]; exact hN i (by omega)⟩
theorem Stp.del (h : Stp ρ0 σ0 w0 ρ σ w) (b : Nat) : Stp ρ0 σ0 w0 ρ (σ.del b) w :=
 ⟨h.le, h.same, h.size, h.keep, fun r x hx ho => h.own r x hx ho.of_del⟩
theorem step_app {o : Oper} {t u e : TypeId} (ht : C.P.underlying t = some (.slice e)) (hu : ∃ e', C.P.underlying u = some (.slice e'))
  {z : List Value} (hz : tZero C.P e = some z) (hk : tKnown C.P e = true) {n : Nat} {new new' : List Value} {s0 x' : Value} {sv : Value} (hs : Sim ρ σ w) (hsv : V ρ sv s0)
  (hrun : ∀ v' w', (∃ ty, (Builtin.append_ #[t, u] ty #[s0, x']).run C.P w = .ok v' w') → (execOp a.eval o).run C.P w = .ok (.value v') w') (hty : ∃ ty : TypeId, True)
  (hby : C.P.bytesOf e ≤ 1024) (hnew : VL ρ new new') (hlen : new.length = n * tSz C.P e) (hone : ∀ v ∈ new', oneB v = true)
  (hf : ∀ w' : World, w'.heap = w.heap → (Builtin.firstCells (tSz C.P e) n x').run C.P w' = .ok new'.toArray w') (hn : ∃ a c, x' = .slice a n c)
  {K : Value → Mem → Prop} (h : app (tSz C.P e) n new sv K σ) : Step C.P o a ρ σ w K := by
 obtain ⟨ty, _⟩ := hty
 obtain ⟨i, zv, hi, hzv, hc, hsz, hvl, hl2, _⟩ := tZero_spec (ρ := ρ) hz
 have hzs : zv.cells.size = tSz C.P e := by rw [← hl2, ← hc]; simp
 have hby' : i.bytes ≤ 1024 := by simpa [Program.bytesOf, hi] using hby
 have hlen' : new'.length = n * tSz C.P e := by rw [← hnew.len]; exact hlen
 unfold app at h
 split at h
 · -- nil
  cases hsv
  split at h
  ·rename_i h0
   subst h0
   refine step_value (v' := .slice none 0 0) (hrun _ _ ⟨ty, ?_⟩) h .nilS hs (Stp.refl _ _ _)
   have := run_append_in (P := C.P) (w := w) ht hu hk (ty := ty) (base := none) (sl := 0) (sc := 0) hn (hf w rfl) (by omega) (w' := w) (by simp) (fun _ => rfl)
   simpa using this
  ·rename_i h0
   split at h
   ·rename_i hb
    obtain ⟨cap, arr, w', q1, q2, q3, q4, q5⟩ := run_append_out (P := C.P) (w := w) ht hu hk hi hzv hzs (ty := ty) (base := none) (sl := 0) (sc := 0) (old' := []) hn hf (by omega) (by omega) hby'
     (fun w' _ => by simp [Builtin.firstCells])
    simp only [List.length_nil, Nat.zero_add, List.nil_append] at q1 q2 q3 q5
    have hcn : cap * tSz C.P e = n * tSz C.P e + (cap - n) * tSz C.P e := by rw [← Nat.add_mul]; congr 1; omega
    refine step_new hs h q4 ?_ (by rw [hlen, q3, hlen']; omega) (hrun _ _ ⟨ty, q5⟩) (fun ρ' id h => ?_)
    ·unfold win
     rw [hnew.len, List.drop_zero, q2]; exact hnew
    ·have := V.sl (ρ := ρ') (o := 0) (n := n) (c := tSz C.P e) (c' := cap) h q1 (by simp only; rw [q3, hlen']; omega)
     simpa using this
   ·exact h.elim
 ·rename_i b off len c0
  split at h
  ·rename_i blk hg
   split at h
   ·rename_i hb
    obtain ⟨hrw, rfl, hes, hcov, hbig⟩ := hb
    obtain ⟨e0, arr0, el0, fz, p1, p2, p3, p4, p5, p6⟩ := hs.s1 _ _ hg
    have := p6 hrw; subst this
    obtain ⟨id, f1, f2⟩ := fresh2 hs
    have hK := h id f1
    have hold : VL ρ (blk.cells.drop off) ((arr0.toList.drop (e0.sh + off)).take (len * tSz C.P e)) := by
     have := p5.drop off
     unfold win at this
     rw [List.drop_take, List.drop_drop] at this
     have e1 : blk.cells.length - off = len * tSz C.P e := by omega
     rw [e1] at this; exact this
    have holdlen : (blk.cells.drop off).length = len * tSz C.P e := by simp; omega
    -- growing into a block of the world's own
    have grow : ∀ {base : Option Addr} {sc : Nat}, s0 = .slice base len sc → sc < len + n →
      (∀ w' : World, w'.heap = w.heap → (Builtin.firstCells (tSz C.P e) len (.slice base len sc)).run C.P w' = .ok ((arr0.toList.drop (e0.sh + off)).take (len * tSz C.P e)).toArray w') → Step C.P o a ρ σ w K := by
     intro base sc hsv0 hlt hfc
     subst hsv0
     obtain ⟨cap, arr, w', q1, q2, q3, q4, q5⟩ := run_append_out (P := C.P) (w := w) ht hu hk hi hzv hzs (ty := ty) hn hf hlt (by omega) hby' hfc
     have hol : ((arr0.toList.drop (e0.sh + off)).take (len * tSz C.P e)).length = len * tSz C.P e := by rw [← hold.len]; exact holdlen
     rw [hol, hlen'] at q3
     rw [hol] at q2
     have hcn : cap * tSz C.P e = len * tSz C.P e + n * tSz C.P e + (cap - (len + n)) * tSz C.P e := by
      rw [← Nat.add_mul, ← Nat.add_mul]; congr 1; omega
     have hcl : (blk.cells.drop off ++ new).length = len * tSz C.P e + n * tSz C.P e := by rw [List.length_append, holdlen, hlen]
     obtain ⟨ρ', r1, r2, r3, _⟩ := hs.push (c := blk.cells.drop off ++ new) f1 f2 q4 (Nat.le_refl arr.size) (by rw [hcl, q3]; omega) (by
      unfold win
      rw [hcl, List.drop_zero, ← hlen', q2]
      exact hold.append hnew)
     refine step_value (hrun _ _ ⟨ty, q5⟩) hK ?_ (r2.del b) (r3.del b)
     have := V.sl (ρ := ρ') (o := 0) (n := len + n) (c := tSz C.P e) (c' := cap) r1 q1 (by simp only; rw [q3]; omega)
     simpa using this
    cases hsv with
    | @sl _ _ _ _ c' e2 hb hl hcap =>
     rw [p1] at hb; cases hb
     by_cases hroom : len + n ≤ c'
     ·have hcn : (len + n) * tSz C.P e ≤ c' * tSz C.P e := Nat.mul_le_mul_right _ hroom
      rw [Nat.add_mul] at hcn
      obtain ⟨w', s1, s2, s3⟩ := run_storeCells (P := C.P) (b := e0.blk) (o := e0.sh + off + len * tSz C.P e) new' 0 w arr0 p2 hone (by omega)
      have hU : Upd w e0.blk (.cells (lay arr0.toList (e0.sh + off + len * tSz C.P e) new').toArray el0 (0, 0)) w' := by
       by_cases hne : new' = []
       ·have := s3 hne; subst this; subst hne
        have e1 : (lay arr0.toList (e0.sh + off + len * tSz C.P e) []).toArray = arr0 := by apply Array.ext'; simp [lay]
        rw [e1]; exact ⟨Same.refl _, rfl, fun _ _ => rfl, p2⟩
       ·simpa using s2 hne
      have hsz2 : (lay arr0.toList (e0.sh + off + len * tSz C.P e) new').length = arr0.size := by simp [lay]; omega
      obtain ⟨ρ', r1, r2, r3⟩ := hs.regrow hg hrw p1 f1 f2 (o := off) (c := blk.cells.drop off ++ new) hU (by simp only [List.size_toArray, hsz2]; exact p3) (by omega) (by
       rw [List.length_append, holdlen, hlen]; omega) (by
       have hcl : (blk.cells.drop off ++ new).length = len * tSz C.P e + n * tSz C.P e := by rw [List.length_append, holdlen, hlen]
       rw [hcl]
       have : win (lay arr0.toList (e0.sh + off + len * tSz C.P e) new').toArray (e0.sh + off) (len * tSz C.P e + n * tSz C.P e) = (arr0.toList.drop (e0.sh + off)).take (len * tSz C.P e) ++ new' := by
        unfold win lay
        simp only []
        rw [← hlen']
        apply List.ext_getElem
        ·simp; omega
        ·intro j hj hj'
         simp only [List.getElem_take, List.getElem_drop, List.getElem_append, List.length_append, List.length_take, List.length_drop, Array.length_toList]
         have m1 : min (e0.sh + off + len * tSz C.P e) arr0.size = e0.sh + off + len * tSz C.P e := by omega
         have m2 : min (len * tSz C.P e) (arr0.size - (e0.sh + off)) = len * tSz C.P e := by omega
         simp only [m1, m2]
         have hj2 : j < len * tSz C.P e + new'.length := by
          simp at hj; omega
         by_cases c1 : j < len * tSz C.P e
         ·simp [c1, show e0.sh + off + j < e0.sh + off + len * tSz C.P e from by omega, show e0.sh + off + j < e0.sh + off + len * tSz C.P e + new'.length from by omega]
         ·simp [c1, show ¬ e0.sh + off + j < e0.sh + off + len * tSz C.P e from by omega, show e0.sh + off + j < e0.sh + off + len * tSz C.P e + new'.length from by omega]
          congr 1; omega
       rw [this]
       exact hold.append hnew)
      refine step_value (hrun _ _ ⟨ty, run_append_in (P := C.P) ht hu hk hn (hf w rfl) hroom (w' := w') (fun ad had => ?_) (fun h => by cases h)⟩) hK ?_ r2 r3
      ·cases had
       rw [add_none]; simpa using s1
      ·have := V.sl (ρ := ρ') (o := 0) (n := len + n) (c := tSz C.P e) (c' := c') r1 hroom (by simp only; omega)
       simpa using this
     ·refine grow rfl (by omega) fun w' hw => ?_
      have hq : w'.heap[e0.blk]? = some (.cells arr0 el0 (0, 0)) := by rw [hw]; exact p2
      simp only [Builtin.firstCells, loadCells]
      rw [run_loadCellsFrom hq _ 0 #[] (by omega)]
      simp
    | @slE _ _ _ a' =>
     by_cases h0 : n = 0
     ·subst h0
      have hnil : new' = [] := by
       have : new'.length = 0 := by rw [hlen']; simp
       exact List.length_eq_zero_iff.1 this
      subst hnil
      obtain ⟨ρ', r1, r2, r3⟩ := hs.regrow hg hrw p1 f1 f2 (o := off) (c := blk.cells.drop off ++ new) (⟨Same.refl w, rfl, fun _ _ => rfl, p2⟩ : Upd w e0.blk (.cells arr0 el0 (0, 0)) w) p3 (by omega) (by
       rw [List.length_append, holdlen, hlen]; omega) (by
       have hcl : (blk.cells.drop off ++ new).length = 0 := by rw [List.length_append, holdlen, hlen]; simp
       have : blk.cells.drop off ++ new = [] := List.length_eq_zero_iff.1 hcl
       rw [this]; simp [win]; exact .nil)
      refine step_value (hrun _ _ ⟨ty, run_append_in (P := C.P) ht hu hk hn (hf w rfl) (Nat.le_refl _) (w' := w) (fun ad had => ?_) (fun h => by cases h)⟩) hK ?_ r2 r3
      ·simp [storeCells]
      ·simpa using V.slE
     ·refine grow rfl (by omega) fun w' hw => ?_
      simp [Builtin.firstCells, loadCells, loadCellsFrom]
   ·exact h.elim
  ·exact h.elim
 ·exact h.elim
end
end Go.Fl
namespace Go.Fl
open Go
set_option linter.unusedVariables false
set_option linter.unusedSimpArgs false
section
variable {C : Cx} {ρ0 : Ren} {σ0 : Mem} {w0 : World} {lm : Nat → Option Nat} {ρ : Ren} {s : St} {σ : Mem} {a : Act} {w : World}
theorem run_call_bi {P : Program} {ev : Operand → Value} {o : Oper} {c : Call} (ho : o.op = .call c) (hc : c.callee = .builtin .append) {v' : Value} {w' : World}
  (h : ∃ ty, (Builtin.append_ c.argTypes ty (c.args.map ev)).run P w = .ok v' w') : (execOp ev o).run P w = .ok (.value v') w' := by
 obtain ⟨dst, op, ty, pos, after, guard⟩ := o
 simp only at ho; subst ho
 obtain ⟨ty', h⟩ := h
 obtain ⟨cs, hr⟩ := run_resolve_bi P w (ev := ev) (t := ty) hc
 simp only [execOp, Sem.run_bind, hr, Result.andThen_ok, invoke, builtin]
 have : (Builtin.append_ c.argTypes ty (c.args.map ev)).run P w = .ok v' w' := h
 simp only [this, Result.andThen_ok, Sem.run_pure]
theorem step_append {o : Oper} {c : Call} {sx x : Operand} {t u e : TypeId} (ho : o.op = .call c) (hc : c.callee = .builtin .append) (ha : c.args.toList = [sx, x]) (hat : c.argTypes.toList = [t, u])
  (ht : C.P.underlying t = some (.slice e)) (hu : ∃ e', C.P.underlying u = some (.slice e')) {z : List Value} (hz : tZero C.P e = some z) (hk : tKnown C.P e = true)
  (hsx : V ρ (evO s sx) (a.eval sx)) (hx : V ρ (evO s x) (a.eval x)) (hs : Sim ρ σ w) {K : Value → Mem → Prop} (h : hAppend (tSz C.P e) (C.P.bytesOf e) [evO s sx, evO s x] K σ) : Step C.P o a ρ σ w K := by
 simp only [hAppend] at h
 split at h
 ·rename_i new hnew
  split at h
  ·rename_i hby
   obtain ⟨hby, hone⟩ := hby
   obtain ⟨new', h1, h2, h3, h4⟩ := run_first (P := C.P) (w := w) hx hs hnew rfl
   refine step_app ht hu hz hk hs hsx (x' := a.eval x) (fun v' w' hr => ?_) ⟨0, trivial⟩ hby h1 h2 (h1.oneB hone) h3 h4 h
   refine run_call_bi ho hc ?_
   have e1 : c.argTypes = #[t, u] := Array.ext' (by simpa using hat)
   rw [e1, map_toList ha]
   exact hr
  ·exact h.elim
 ·exact h.elim
theorem step_appendL {o : Oper} {c : Call} {sx x : Operand} {t u e : TypeId} (ho : o.op = .call c) (hc : c.callee = .builtin .append) (ha : c.args.toList = [sx, x]) (hat : c.argTypes.toList = [t, u])
  (ht : C.P.underlying t = some (.slice e)) (hu : ∃ e', C.P.underlying u = some (.slice e')) {z : List Value} (hz : tZero C.P e = some z) (hk : tKnown C.P e = true)
  (hsx : V ρ (evO s sx) (a.eval sx)) {k : Nat} (hx : LocV lm k (evO s x) (a.eval x)) (hs : Sim ρ σ w)
  (hlb : ∀ b, lm k = some b → ∃ arr el, w.heap[b]? = some (.cells arr el (0, 0)) ∧ VL ρ (s.l k) arr.toList)
  {K : Value → Mem → Prop} (h : hAppendL (tSz C.P e) (C.P.bytesOf e) (s.l k) [evO s sx, evO s x] K σ) : Step C.P o a ρ σ w K := by
 unfold hAppendL at h
 split at h
 ·rename_i s1 b0 n c0 hxx
  simp at hxx
  obtain ⟨rfl, hxx⟩ := hxx
  split at h
  ·rename_i hb
   obtain ⟨hby, hlen, hone⟩ := hb
   rcases hx with h1 | ⟨o', b, h1, h2, h3⟩ | ⟨o', b, n', es, c', h1, h2, h3⟩
   ·rw [hxx] at h1; cases h1
   ·rw [hxx] at h1; cases h1
   ·rw [hxx] at h1; cases h1
    obtain ⟨arr, el, q1, q2⟩ := hlb b h2
    refine step_app ht hu hz hk hs hsx (x' := a.eval x) (fun v' w' hr => ?_) ⟨0, trivial⟩ hby q2 hlen (q2.oneB hone) (fun w' hw => ?_) ⟨_, _, h3⟩ h
    ·refine run_call_bi ho hc ?_
     have e1 : c.argTypes = #[t, u] := Array.ext' (by simpa using hat)
     rw [e1, map_toList ha]
     exact hr
    ·have hq : w'.heap[b]? = some (.cells arr el (0, 0)) := by rw [hw]; exact q1
     have hl2 : arr.size = n * tSz C.P e := by have := q2.len; rw [hlen] at this; simpa using this.symm
     rw [h3]
     simp only [Builtin.firstCells, loadCells]
     rw [run_loadCellsFrom hq _ 0 #[] (by omega)]
     rw [← hl2]
     simp [List.take_of_length_le]
  ·exact h.elim
 ·exact h.elim
theorem step_call {o : Oper} {c : Call} {g : Nat} (ho : o.op = .call c) (hc : c.callee = .value (.func g)) {S : Spec} (hS : Sound C.P g S) (hcl : Callable C.P g)
  (hx : VL ρ (c.args.toList.map (evO s)) (c.args.toList.map a.eval)) (hs : Sim ρ σ w) {K : Value → Mem → Prop} (h : S (c.args.toList.map (evO s)) K σ) : Step C.P o a ρ σ w K := by
 obtain ⟨dst, op, ty, pos, after, guard⟩ := o
 simp only at ho; subst ho
 obtain ⟨fn, q1, q2, q3⟩ := hcl
 intro next Q hn
 unfold Oper.wp
 have hr : (execOp a.eval ⟨dst, .call c, ty, pos, after, guard⟩).run C.P w = .ok (.enter g (c.args.toList.map a.eval).toArray) w := by
  have e1 : c.args.map a.eval = (c.args.toList.map a.eval).toArray := by apply Array.ext'; simp
  simp only [execOp, resolve, hc, Act.eval, Deferred.ofValue, Sem.run_bind, Sem.run_pure, Result.andThen_ok, invoke, callFunc, run_program, q1, q2, q3, Bool.false_eq_true, if_false, Sem.run_ite]
  congr 2
  apply Array.ext'
  simp [Act.eval]
 rw [hr, Oper.upon_enter]
 refine Calls.mono (hS _ K σ h ρ w _ hs hx) fun e w' he => ?_
 obtain ⟨v, v', ρ', σ', rfl, h1, h2, h3, h4⟩ := he
 exact hn _ _ _ _ _ h1 h2 h3 h4
theorem step_inv {o : Oper} {c : Call} {recv : Operand} {name : String} {g t : Nat} {v0 : Value} (ho : o.op = .call c) (hc : c.callee = .invoke recv name) (hv0 : evO s recv = .iface t v0) {S : Spec} (hm : MethOk C.P (name, t, g)) (hS : Sound C.P g S) (hcl : Callable C.P g)
  (hx : VL ρ ((recv :: c.args.toList).map (evO s)) ((recv :: c.args.toList).map a.eval)) (hs : Sim ρ σ w) {K : Value → Mem → Prop} (h : S (v0 :: c.args.toList.map (evO s)) K σ) : Step C.P o a ρ σ w K := by
 obtain ⟨dst, op, ty, pos, after, guard⟩ := o
 simp only at ho; subst ho
 obtain ⟨fn, q1, q2, q3⟩ := hcl
 simp only [List.map_cons] at hx
 cases hx with
 | cons hr hx =>
  rw [hv0] at hr
  generalize he : a.eval recv = rv at hr
  cases hr with
  | iface _ hv =>
   rename_i v'
   intro next Q hn
   unfold Oper.wp
   have hr : (execOp a.eval ⟨dst, .call c, ty, pos, after, guard⟩).run C.P w = .ok (.enter g (v' :: c.args.toList.map a.eval).toArray) w := by
    have h0 : (#[Value.iface t v'] ++ c.args.map a.eval)[0]? = some (.iface t v') := by rw [← Array.getElem?_toList]; simp [-Array.getElem?_toList]
    have h1 : (#[Value.iface t v'] ++ c.args.map a.eval).extract 1 (#[Value.iface t v'] ++ c.args.map a.eval).size = c.args.map a.eval := by
     apply Array.ext'; simp [List.take_of_length_le]
    simp only [execOp, resolve, hc, he, Sem.run_bind, Sem.run_pure, Result.andThen_ok, invoke, h0, h1, callMethod, callFunc, run_program, hm v' w, q1, q2, q3, Bool.false_eq_true, if_false, Sem.run_ite]
    congr 2
    apply Array.ext'
    simp
   rw [hr, Oper.upon_enter]
   refine Calls.mono (hS _ K σ h ρ w _ hs (.cons hv hx)) fun e w' he => ?_
   obtain ⟨v, v', ρ', σ', rfl, h1, h2, h3, h4⟩ := he
   exact hn _ _ _ _ _ h1 h2 h3 h4
theorem dst_lt {o : Oper} (hd : (o.dst.all fun d => Nat.blt d C.n) = true) {d : Nat} (h : o.dst = some d) : d < C.n := by
 rw [h] at hd
 exact Nat.le_of_ble_eq_true hd
theorem dl_some {o : Oper} {d : Nat} (h : o.dst = some d) : C.dl o = C.loc.lookup d := by
 simp only [Cx.dl, h, Option.bind_some]
theorem of_step {o : Oper} {K : St → Mem → Prop} (hI : FI C ρ0 σ0 w0 lm ρ s σ a w) (hd : (o.dst.all fun d => Nat.blt d C.n) = true) (hl : C.dl o = none)
  (h : Step C.P o a ρ σ w fun v τ => K (s.put o.dst v) τ) {next : Act → World → Prop} {Q : Exit → Act → World → Prop}
  (hn : ∀ lm' ρ' s' σ' a' w', K s' σ' → FI C ρ0 σ0 w0 lm' ρ' s' σ' a' w' → next a' w') : o.wp C.P a w next Q := by
 refine h next Q fun v v' ρ' σ' w' hk hv hs ht => hn lm ρ' _ σ' _ w' hk ?_
 have h1 := hI.step hs ht
 cases hdst : o.dst with
 | none => exact h1.put_none v v'
 | some d =>
  refine h1.put (dst_lt hd hdst) (fun _ => hv) fun k hk => ?_
  rw [dl_some hdst] at hl
  rw [hl] at hk; cases hk
theorem of_value {o : Oper} {K : St → Mem → Prop} (hI : FI C ρ0 σ0 w0 lm ρ s σ a w) (hd : (o.dst.all fun d => Nat.blt d C.n) = true) {v v' : Value}
  (hr : (execOp a.eval o).run C.P w = .ok (.value v') w) (hk : K (s.put o.dst v) σ) (hp : C.dl o = none → V ρ v v') (hl : ∀ k, C.dl o = some k → LocV lm k v v')
  {next : Act → World → Prop} {Q : Exit → Act → World → Prop}
  (hn : ∀ lm' ρ' s' σ' a' w', K s' σ' → FI C ρ0 σ0 w0 lm' ρ' s' σ' a' w' → next a' w') : o.wp C.P a w next Q := by
 unfold Oper.wp
 rw [hr, Oper.upon_value]
 refine hn lm ρ _ σ _ w hk ?_
 cases hdst : o.dst with
 | none => exact hI.put_none v v'
 | some d =>
  exact hI.put (dst_lt hd hdst) (fun h => hp (by rw [dl_some hdst]; exact h)) fun k hk => hl k (by rw [dl_some hdst]; exact hk)
theorem runSm_h {c : Cls} {r : Spec} {d : Option Nat} {args : List Value} {K : St → Mem → Prop} (h : runSm C (.h c r) d args s σ K) : r args (fun v τ => K (s.put d v) τ) σ := h
theorem of_newL {o : Oper} {K : St → Mem → Prop} (hI : FI C ρ0 σ0 w0 lm ρ s σ a w) (hd : (o.dst.all fun d => Nat.blt d C.n) = true) {k : Nat} (hdst : o.dst = some k) (hl : C.loc.lookup k = some k)
  (hf : freshB C k s = true) {arr : Array Value} {el : TypeId} {c : List Value} {w' : World} {v v' : Value} (hp : Push w (.cells arr el (0, 0)) w') (hc : VL ρ c arr.toList)
  (hr : (execOp a.eval o).run C.P w = .ok (.value v') w') (hk : K ((s.setL k c).put o.dst v) σ) (hv : LocV (fun i => if i = k then some w.heap.size else lm i) k v v')
  {next : Act → World → Prop} {Q : Exit → Act → World → Prop}
  (hn : ∀ lm' ρ' s' σ' a' w', K s' σ' → FI C ρ0 σ0 w0 lm' ρ' s' σ' a' w' → next a' w') : o.wp C.P a w next Q := by
 unfold Oper.wp
 rw [hr, Oper.upon_value]
 refine hn (fun i => if i = k then some w.heap.size else lm i) ρ _ σ _ w' hk ?_
 rw [hdst]
 exact (hI.newL hf hp hc).put (dst_lt hd hdst) (fun h => by rw [hl] at h; cases h) fun k' hk' => by rw [hl] at hk'; cases hk'; exact hv
theorem atNew_spec {o : Oper} {xs : List Operand} {l : Nat → Sm} {hh : Sm} {p : List Operand × Sm} (h : atNew C o xs l hh = some p) :
  C.plain xs = true ∧ ((∃ k, o.dst = some k ∧ C.loc.lookup k = some k ∧ p = (xs, l k)) ∨ (C.dl o = none ∧ p = (xs, hh))) := by
 unfold atNew at h
 split at h
 ·rename_i d hd
  split at h
  ·rename_i k hk
   split at h
   ·rename_i hb
    cases h
    simp only [Bool.and_eq_true, beq_iff_eq] at hb
    obtain ⟨rfl, hp⟩ := hb
    exact ⟨hp, .inl ⟨k, hd, hk, rfl⟩⟩
   ·cases h
  ·rename_i hk
   split at h
   ·rename_i hp
    cases h
    exact ⟨hp, .inr ⟨by simp [Cx.dl, hd, hk], rfl⟩⟩
   ·cases h
 ·cases h
theorem opW_sound (hT : COk C) (he : C.eqt.all (eqOk C.P) = true) (hI : FI C ρ0 σ0 w0 lm ρ s σ a w) {o : Oper} {K : St → Mem → Prop} (h : opW C o s σ K)
  {next : Act → World → Prop} {Q : Exit → Act → World → Prop}
  (hn : ∀ lm' ρ' s' σ' a' w', K s' σ' → FI C ρ0 σ0 w0 lm' ρ' s' σ' a' w' → next a' w') : o.wp C.P a w next Q := by
 unfold opW at h
 split at h
 case h_2 => exact h.elim
 rename_i xs m hcm
 split at h
 case isFalse => exact h.elim
 rename_i hd
 have hF : atF C o = some (xs, m) → o.wp C.P a w next Q := by
  intro hf
  unfold atF at hf
  split at hf
  ·rename_i ys g hfo
   split at hf
   ·rename_i hdl
    split at hf
    ·rename_i hb
     cases hf
     simp only [Bool.and_eq_true] at hb
     obtain ⟨v, hg, hk⟩ := xF_live h
     obtain ⟨v', hr, hv⟩ := f_sound hfo he (ev := evO s) (ev' := a.eval) (hI.plains hb.1) hg
     exact of_value hI hd hr hk (fun _ => hv) (fun k hk => by rw [hdl] at hk; cases hk) hn
    ·cases hf
   ·rename_i k hdl
    split at hf
    ·rename_i x ys'
     split at hf
     ·rename_i hb
      cases hf
      simp only [Bool.and_eq_true, beq_iff_eq] at hb
      obtain ⟨v, hg, hk⟩ := xF_live h
      obtain ⟨v', hr, hv⟩ := locF_sound (w := w) (lm := lm) hfo hb.2 (hI.locv hb.1.2) (hI.plains hb.1.1) hg
      exact of_value hI hd hr hk (fun h => by rw [hdl] at h; cases h) (fun k' hk' => by rw [hdl] at hk'; cases hk'; exact hv) hn
     ·cases hf
    ·cases hf
  ·cases hf
 unfold comp at hcm
 split at hcm
 · -- alloc
  rename_i e hop
  split at hcm
  ·rename_i z hz
   obtain ⟨hp, ⟨k, h1, h2, h3⟩ | ⟨h1, h2⟩⟩ := atNew_spec hcm
   ·cases h3
    simp only [runSm] at h
    split at h
    rotate_left
    ·exact h.elim
    ·rename_i hfr
     obtain ⟨i, zv, hi, hzv, hc, hsz, hvl, hl2, _⟩ := tZero_spec (ρ := ρ) hz
     simp only [List.map_nil, gAlloc, xC] at h
     refine of_newL hI hd h1 h2 hfr (push_new w (.cells zv.cells e)) (by rw [hc]; exact hvl) (v' := .pointer (some ⟨w.heap.size, 0, none⟩)) ?_ h (.inr (.inl ⟨0, w.heap.size, rfl, by simp, rfl⟩)) hn
     obtain ⟨dst, op, ty, pos, after, guard⟩ := o
     simp only at hop; subst hop
     simp only [execOp]
     refine finV ?_
     simp only [Instr.alloc, Sem.run_bind, run_zeroValue' hi hzv, Result.andThen_ok, run_newVar, Sem.run_pure]
   ·cases h2
    exact of_step hI hd h1 (step_alloc hop hz hI.sim (runSm_h h)) hn
  ·cases hcm
 · -- box
  rename_i e x hop
  split at hcm
  ·rename_i hk
   obtain ⟨hp, ⟨k, h1, h2, h3⟩ | ⟨h1, h2⟩⟩ := atNew_spec hcm
   ·cases h3
    simp only [runSm] at h
    split at h
    rotate_left
    ·exact h.elim
    ·rename_i hfr
     obtain ⟨c0, hc0, h⟩ := xC_live h
     ·simp only [List.map_cons, List.map_nil, gBox] at hc0
      have hx := hI.plain (x := x) (by simpa [Cx.plain] using hp)
      obtain ⟨c', hc', hl⟩ := hx.cells hc0
      obtain ⟨e1, e2, e3⟩ := cells_of hc'
      refine of_newL hI hd h1 h2 hfr (push_new w (.cells (a.eval x).cells e)) (by rw [e1]; exact hl) (v' := .pointer (some ⟨w.heap.size, 0, none⟩)) ?_ h (.inr (.inl ⟨0, w.heap.size, rfl, by simp, rfl⟩)) hn
      obtain ⟨dst, op, ty, pos, after, guard⟩ := o
      simp only at hop; subst hop
      simp only [execOp]
      refine finV ?_
      simp only [Instr.box, Sem.run_bind, Result.andThen_ok, run_newVar, Sem.run_pure]
   ·cases h2
    exact of_step hI hd h1 (step_box (s := s) hop (hI.plain (by simpa [Cx.plain] using hp)) hI.sim (runSm_h h)) hn
  ·cases hcm
 · -- load
  rename_i t p hop
  unfold atLoad at hcm
  split at hcm
  ·rename_i hb
   simp only [Bool.and_eq_true] at hb
   have hdl : C.dl o = none := by simpa using hb.2
   split at hcm
   ·rename_i k hk
    cases hcm
    simp only [runSm, List.map_cons, List.map_nil] at h
    obtain ⟨v, hv, h⟩ := xO_live h
    ·unfold gLoad at hv
     split at hv
     ·rename_i ad cs hx
      simp at hx
      rcases hI.locv hk with q1 | ⟨o', b, q1, q2, q3⟩ | ⟨o', b, n', es, c', q1, q2, q3⟩
      ·rw [hx] at q1; cases q1
      ·rw [hx] at q1; cases q1
       obtain ⟨_, arr, el, r1, r2⟩ := hI.lb _ _ q2
       obtain ⟨hle, v', s1, s2⟩ := sub_sound r2 hv
       refine of_value hI hd ?_ h (fun _ => s2) (fun k hk => by rw [hdl] at hk; cases hk) hn
       obtain ⟨dst, op, ty, pos, after, guard⟩ := o
       simp only at hop; subst hop
       simp only [execOp, q3]
       refine finV ?_
       simp only [Instr.loadAt, Instr.sureAddr, Sem.run_bind, Sem.run_pure, Result.andThen_ok]
       exact run_loadVar hb.1.1 (by simpa using hb.1.2) r1 (by simpa using hle) s1
      ·rw [hx] at q1; cases q1
     ·cases hv
   ·rename_i hk
    cases hcm
    exact of_step hI hd hdl (step_load (s := s) hop hb.1.1 hb.1.2 (hI.plain (by simp [hk])) hI.sim (runSm_h h)) hn
  ·cases hcm
 · -- store
  rename_i t p x hop
  unfold atStore at hcm
  split at hcm
  ·rename_i hb
   simp only [Bool.and_eq_true] at hb
   have hdn : o.dst = none := by simpa using hb.2
   have hx := hI.plain (x := x) (by simpa [Cx.plain] using hb.1.2)
   split at hcm
   ·rename_i k hk
    cases hcm
    simp only [runSm, List.map_cons, List.map_nil] at h
    obtain ⟨c, hvc, h⟩ := xC_live h
    ·unfold gStore at hvc
     split at hvc
     ·rename_i ad x0 cs hxx
      simp at hxx
      obtain ⟨hx1, rfl⟩ := hxx
      split at hvc
      ·rename_i c0 hc0
       split at hvc
       ·rename_i hle
        cases hvc
        rcases hI.locv hk with q1 | ⟨o', b, q1, q2, q3⟩ | ⟨o', b, n', es, c', q1, q2, q3⟩
        ·rw [hx1] at q1; cases q1
        ·rw [hx1] at q1; cases q1
         obtain ⟨_, arr, el, r1, r2⟩ := hI.lb _ _ q2
         obtain ⟨c', hc', hl⟩ := hx.cells hc0
         have hsz : arr.size = (s.l k).length := by simpa using r2.len.symm
         obtain ⟨w', s1, s2⟩ := run_storeVar (P := C.P) (w := w) (o := o') hb.1.1 r1 hc' (hl.oneB hle.2) (by rw [hsz]; exact hle.1)
         unfold Oper.wp
         have hr : (execOp a.eval o).run C.P w = .ok .skip w' := by
          obtain ⟨dst, op, ty, pos, after, guard⟩ := o
          simp only at hop; subst hop
          simp only [execOp, q3]
          exact finU (by simp only [Instr.storeAt, Instr.sureAddr, Sem.run_bind, Sem.run_pure, Result.andThen_ok, s1])
         rw [hr, Oper.upon_skip, hdn]
         rw [hdn] at h
         exact hn lm ρ _ σ _ w' h (hI.setL q2 s2 (by simpa using r2.lay hl o'))
        ·rw [hx1] at q1; cases q1
       ·cases hvc
      ·cases hvc
     ·cases hvc
   ·rename_i hk
    cases hcm
    exact of_step hI hd (by simp [Cx.dl, hdn]) (step_store (s := s) hop hb.1.1 (hI.plain (by simp [hk])) hx hI.sim (runSm_h h)) hn
  ·cases hcm
 · -- buildSlice
  rename_i t len parts hop
  split at hcm
  ·rename_i e ht
   split at hcm
   ·rename_i z hz
    split at hcm
    ·rename_i hb
     obtain ⟨hp, ⟨k, h1, h2, h3⟩ | ⟨h1, h2⟩⟩ := atNew_spec hcm
     ·cases h3
      simp only [runSm] at h
      split at h
      rotate_left
      ·exact h.elim
      ·rename_i hfr
       obtain ⟨c0, hc0, h⟩ := xC_live h
       ·simp only [gBuildS] at hc0
        obtain ⟨c', r1, r2⟩ := run_buildS (w := w) ht hz hb (zip_map_parts (ev := a.eval) parts) (hI.plains hp) hc0
        refine of_newL hI hd h1 h2 hfr (push_new w (.cells c' e)) r1 (v' := .slice (some ⟨w.heap.size, 0, none⟩) len len) ?_ h
         (.inr (.inr ⟨0, w.heap.size, len, _, len, rfl, by simp, rfl⟩)) hn
        obtain ⟨dst, op, ty, pos, after, guard⟩ := o
        simp only at hop; subst hop
        simp only [execOp]
        exact finV r2
     ·cases h2
      exact of_step hI hd h1 (step_buildS (s := s) hop ht hz hb (hI.plains hp) hI.sim (runSm_h h)) hn
    ·cases hcm
   ·cases hcm
  ·cases hcm
 · -- makeSlice
  rename_i t n m hop
  split at hcm
  ·rename_i e ht
   split at hcm
   ·rename_i z hz
    split at hcm
    ·rename_i hb
     cases hcm
     simp only [Bool.and_eq_true, Cx.plain, List.all_cons, List.all_nil, Bool.and_true] at hb
     exact of_step hI hd (by simpa using hb.1.2) (step_makeS (s := s) hop ht hz (hI.plain hb.1.1.1) (hI.plain hb.1.1.2) hI.sim (runSm_h h)) hn
    ·cases hcm
   ·cases hcm
  ·cases hcm
 · -- call
  rename_i c hop
  split at hcm
  ·rename_i hc
   split at hcm
   ·rename_i sx x t u ha hat
    unfold atAppend at hcm
    split at hcm
    ·rename_i e e' ht hu
     split at hcm
     ·rename_i z hz
      split at hcm
      ·rename_i hb
       simp only [Bool.and_eq_true, Cx.plain, List.all_cons, List.all_nil, Bool.and_true] at hb
       have hdl : C.dl o = none := by simpa using hb.1.1.2
       split at hcm
       ·rename_i k hk
        cases hcm
        exact of_step hI hd hdl (step_appendL (s := s) (lm := lm) hop hc ha hat ht ⟨_, hu⟩ hz hb.2 (hI.plain hb.1.1.1) (hI.locv hk) hI.sim
         (fun b hb => let ⟨_, arr, el, r1, r2⟩ := hI.lb _ _ hb; ⟨arr, el, r1, r2⟩) h) hn
       ·rename_i hk
        cases hcm
        exact of_step hI hd hdl (step_append (s := s) hop hc ha hat ht ⟨_, hu⟩ hz hb.2 (hI.plain hb.1.1.1) (hI.plain (by simp [hk])) hI.sim (runSm_h h)) hn
      ·cases hcm
     ·cases hcm
    ·cases hcm
   ·cases hcm
  ·rename_i g hc
   unfold atCall at hcm
   split at hcm
   ·rename_i hb
    simp only [Bool.and_eq_true] at hb
    split at hcm
    ·rename_i cl S hl
     cases hcm
     obtain ⟨t1, t2, t3⟩ := hT.t _ _ _ hl
     exact of_step hI hd (by simpa using hb.1.2) (step_call (s := s) hop hc t1 t3 (hI.plains hb.1.1) hI.sim (runSm_h h)) hn
    ·cases hcm
   ·cases hcm
  ·rename_i recv name hc
   unfold atInv at hcm
   split at hcm
   ·rename_i hb
    simp only [Bool.and_eq_true] at hb
    cases hcm
    have h' := runSm_h h
    simp only [List.map_cons] at h'
    unfold hInv at h'
    split at h'
    ·rename_i t v rest hargs
     simp only [List.cons.injEq] at hargs
     split at h'
     ·rename_i S hl
      obtain ⟨g, cl, hin, hlk⟩ := invTab_mem hl
      obtain ⟨t1, t2, t3⟩ := hT.t _ _ _ hlk
      rw [← hargs.2] at h'
      exact of_step hI hd (by simpa using hb.1.2) (step_inv (s := s) hop hc hargs.1 (hT.i _ hin) t1 t3 (hI.plains hb.1.1) hI.sim h') hn
     ·exact h'.elim
    ·exact h'.elim
   ·cases hcm
  ·exact hF hcm
 ·exact hF hcm
end
end Go.Fl
namespace Go.Fl
open Go
set_option linter.unusedVariables false
set_option linter.unusedSimpArgs false
def opG (C : Cx) (ops : Array Oper) (o : Oper) (s : St) (σ : Mem) (K : St → Mem → Prop) : Prop :=
 match o.guard with
 | none => opW C o s σ K
 | some (j, w) => if gOk C ops j = true then
   match gval ops s j with
   | .bool b => if b = w then opW C o s σ K else K (s.put o.dst undef) σ
   | .tuple vs => if vs.size = 0 then K (s.put o.dst undef) σ else False
   | _ => False
  else False
def opsI (C : Cx) (ops : Array Oper) (K : St → Mem → Prop) : List Nat → St → Mem → Prop
 | [], s, σ => K s σ
 | i :: rest, s, σ => match ops[i]? with
  | some o => opG C ops o s σ fun s σ => opsI C ops K rest s σ
  | none => opsI C ops K rest s σ
def distinctB : List Oper → Bool
 | [] => true
 | o :: l => (match o.dst with
  | some d => l.all fun p => match p.dst with
   | some e => !(Nat.beq d e)
   | none => true
  | none => true) && distinctB l
theorem distinct_spec : ∀ {l : List Oper}, distinctB l = true → ∀ {i j : Nat} {o p : Oper} {d : Nat}, l[i]? = some o → l[j]? = some p → i ≠ j → o.dst = some d → p.dst ≠ some d := by
 intro l
 induction l with
 | nil => intro _ i j o p d hi; simp at hi
 | cons x xs ih =>
  intro h i j o p d hi hj hn hd hp
  simp only [distinctB, Bool.and_eq_true] at h
  have key : ∀ {k : Nat} {q : Oper} {d : Nat}, x.dst = some d → xs[k]? = some q → q.dst ≠ some d := by
   intro k q d hx hk hq
   have h1 := h.1
   rw [hx] at h1
   have := List.all_eq_true.1 h1 q (List.mem_of_getElem? hk)
   rw [hq] at this
   simp at this
  cases i with
  | zero =>
   simp at hi; subst hi
   cases j with
   | zero => exact hn rfl
   | succ j => exact key hd (by simpa using hj) hp
  | succ i =>
   cases j with
   | zero => simp at hj; subst hj; exact key hp (by simpa using hi) hd
   | succ j => exact ih h.2 (by simpa using hi) (by simpa using hj) (by omega) hd hp
def DecOk (ops : Array Oper) (s : St) (i : Nat) (dec : List (Nat × Option Bool)) : Prop :=
 ∀ j x, dec.lookup j = some x → j < i ∧ (match x with
  | some b => gval ops s j = .bool b
  | none => gval ops s j = undef)
theorem runSm_t {C : Cx} {m : Sm} {d : Option Nat} {args : List Value} {s : St} {σ : Mem} {K : St → Mem → Prop} (hm : m.good) (h : runSm C m d args s σ K) :
  runSm C m d args s σ (fun s' τ => K s' τ ∧ ∀ t, d ≠ some t → s'.t t = s.t t) := by
 have hput : ∀ (s : St) (v : Value) t, d ≠ some t → (s.put d v).t t = s.t t := by
  intro s v t ht
  cases d with
  | none => rfl
  | some d => rw [put_t]; rw [if_neg]; intro e; exact ht (by rw [e])
 cases m with
 | f g => exact xF_mono (fun v hk => ⟨hk, hput s v⟩) h
 | lr k g => exact xO_mono (fun v hk => ⟨hk, hput s v⟩) h
 | lw k fr g =>
  cases fr with
  | none => exact xC_mono (fun c hk => ⟨hk, hput (s.setL k _) _⟩) h
  | some v =>
   simp only [runSm] at *
   split at h
   ·rename_i hf
    rw [if_pos hf]
    exact xC_mono (fun c hk => ⟨hk, hput (s.setL k _) _⟩) h
   ·exact h.elim
 | h c r => exact Good.mono hm _ _ _ _ (fun v τ hk => ⟨hk, hput s v⟩) h
 | hl c k r => exact Good.mono (hm _) _ _ _ _ (fun v τ hk => ⟨hk, hput s v⟩) h
theorem opW_t {C : Cx} (hC : C.good) {o : Oper} {s : St} {σ : Mem} {K : St → Mem → Prop} (h : opW C o s σ K) : opW C o s σ (fun s' τ => K s' τ ∧ ∀ t, o.dst ≠ some t → s'.t t = s.t t) := by
 unfold opW at *
 split at h
 ·rename_i xs m hc
  split at h
  ·rename_i hd
   rw [if_pos hd]
   exact runSm_t (comp_good hC hc) h
  ·exact h.elim
 ·exact h.elim
theorem gval_same {ops : Array Oper} {s s' : St} {i j : Nat} {o : Oper} (hD : distinctB ops.toList = true) (ho : ops[i]? = some o) (hj : j < i)
  (h : ∀ t, o.dst ≠ some t → s'.t t = s.t t) : gval ops s' j = gval ops s j := by
 unfold gval
 split
 ·rename_i p hp
  split
  ·rename_i d hd
   refine h d ?_
   exact distinct_spec hD (i := j) (j := i) (by simpa using hp) (by simpa using ho) (by omega) hd
  ·rfl
 ·rfl
theorem DecOk.next {ops : Array Oper} {s s' : St} {i : Nat} {o : Oper} {dec : List (Nat × Option Bool)} (hD : distinctB ops.toList = true) (ho : ops[i]? = some o)
  (h : ∀ t, o.dst ≠ some t → s'.t t = s.t t) (hd : DecOk ops s i dec) : DecOk ops s' (i + 1) dec := by
 intro j x hj
 obtain ⟨h1, h2⟩ := hd j x hj
 refine ⟨by omega, ?_⟩
 cases x with
 | none => simp only at h2 ⊢; rw [gval_same hD ho h1 h]; exact h2
 | some b => simp only at h2 ⊢; rw [gval_same hD ho h1 h]; exact h2
theorem DecOk.cons {ops : Array Oper} {s : St} {i j : Nat} {x : Option Bool} {dec : List (Nat × Option Bool)} (hj : j < i) (hx : match x with
  | some b => gval ops s j = .bool b
  | none => gval ops s j = undef) (hd : DecOk ops s i dec) : DecOk ops s i ((j, x) :: dec) := by
 intro k y hk
 simp only [List.lookup_cons] at hk
 split at hk
 ·rename_i he
  simp at he hk; subst he; subst hk
  exact ⟨hj, hx⟩
 ·exact hd k y hk
theorem put_same (s : St) (d : Option Nat) (v : Value) : ∀ t, d ≠ some t → (s.put d v).t t = s.t t := by
 intro t ht
 cases d with
 | none => rfl
 | some d => rw [put_t, if_neg]; intro e; exact ht (by rw [e])
theorem gval_put {ops : Array Oper} {s : St} {i : Nat} {o : Oper} (ho : ops[i]? = some o) : gval ops (s.put o.dst undef) i = undef := by
 unfold gval
 simp only [ho]
 cases hd : o.dst with
 | none => rfl
 | some d => simp only; rw [put_t, if_pos rfl]
theorem gput_eq {ops : Array Oper} {s : St} {j : Nat} {b : Bool} (h : gval ops s j = .bool b) : gput ops s j b = s := by
 unfold gval at h
 unfold gput
 split at h
 ·rename_i o ho
  split at h
  ·rename_i d hd
   have ext : ∀ {a b : St}, a.t = b.t → a.l = b.l → a = b := by intro a b h1 h2; cases a; cases b; simp at h1 h2; rw [h1, h2]
   apply ext
   ·funext t
    rw [hd, put_t]
    split
    ·rename_i e; subst e; exact h.symm
    ·rfl
   ·rw [put_l]
  ·cases h
 ·cases h
theorem opsW_opsI {C : Cx} (hC : C.good) {ops : Array Oper} {K : St → Mem → Prop} (hD : distinctB ops.toList = true) :
  ∀ (l : List Oper) (i : Nat) (dec : List (Nat × Option Bool)) (s : St) (σ : Mem), ops.toList.drop i = l → DecOk ops s i dec → opsW C ops K l i dec s σ →
   opsI C ops K (List.range' i l.length) s σ := by
 intro l
 induction l with
 | nil => intro i dec s σ hl hd h; simpa [opsI, opsW] using h
 | cons o rest ih =>
  intro i dec s σ hl hd h
  have ho : ops[i]? = some o := by
   have := congrArg (fun l => l[0]?) hl
   simpa using this
  have hrest : ops.toList.drop (i + 1) = rest := by have := congrArg List.tail hl; simpa using this
  have go : ∀ {dec : List (Nat × Option Bool)}, DecOk ops s i dec → opW C o s σ (fun s σ => opsW C ops K rest (i + 1) dec s σ) →
    opW C o s σ (fun s σ => opsI C ops K (List.range' (i + 1) rest.length) s σ) := by
   intro dec hd h
   exact opW_mono hC (fun s' τ hk => ih _ _ _ _ hrest (hd.next hD ho hk.2) hk.1) (opW_t hC h)
  have skip : ∀ {dec : List (Nat × Option Bool)}, DecOk ops s i dec → opsW C ops K rest (i + 1) ((i, none) :: dec) (s.put o.dst undef) σ →
    opsI C ops K (List.range' (i + 1) rest.length) (s.put o.dst undef) σ := by
   intro dec hd h
   exact ih _ _ _ _ hrest (DecOk.cons (by omega) (gval_put ho) (hd.next hD ho (put_same s o.dst undef))) h
  simp only [List.length_cons, List.range'_succ, opsI, ho]
  unfold opsW at h
  unfold opG
  split at h
  ·rename_i hg
   try rw [hg]
   exact go hd h
  ·rename_i j w hg
   try rw [hg]
   dsimp only
   split at h
   rotate_left
   ·exact h.elim
   rename_i hgo
   rw [if_pos hgo]
   split at h
   ·rename_i b hl
    have hv := (hd _ _ hl).2
    dsimp only at hv
    rw [hv]
    dsimp only
    split at h
    ·rename_i hb
     simp at hb
     rw [if_pos hb]
     exact go hd h
    ·rename_i hb
     simp at hb
     rw [if_neg (by simpa using hb)]
     exact skip hd h
   ·rename_i hl
    have hv := (hd _ _ hl).2
    dsimp only at hv
    rw [hv]
    simp only [undef]
    exact skip hd h
   ·rename_i hl
    split at h
    rotate_left
    ·exact h.elim
    rename_i hj
    have hji : j < i := Nat.le_of_ble_eq_true hj
    unfold xIf at h
    split at h
    ·rename_i hv
     rw [gput_eq hv] at h
     rw [hv]
     dsimp only
     have hd' := DecOk.cons (x := some true) hji hv hd
     split at h
     ·rename_i hw; rw [hw, if_pos rfl]; exact go hd' h
     ·rename_i hw
      rw [if_neg (fun e => hw e.symm)]
      exact skip hd' h
    ·rename_i hv
     rw [gput_eq hv] at h
     rw [hv]
     dsimp only
     have hd' := DecOk.cons (x := some false) hji hv hd
     split at h
     ·rename_i hw
      rw [if_neg (by rw [hw]; simp)]
      exact skip hd' h
     ·rename_i hw
      have : w = false := by simpa using hw
      rw [this, if_pos rfl]
      exact go hd' h
    ·exact h.elim
section
variable {C : Cx} {ρ0 : Ren} {σ0 : Mem} {w0 : World} {lm : Nat → Option Nat} {ρ : Ren} {s : St} {σ : Mem} {a : Act} {w : World}
def Post (C : Cx) (ρ0 : Ren) (σ0 : Mem) (w0 : World) (K : St → Mem → Prop) (next : Act → World → Prop) : Prop :=
 ∀ lm ρ s σ a w, K s σ → FI C ρ0 σ0 w0 lm ρ s σ a w → next a w
theorem opG_sound (hT : COk C) (he : C.eqt.all (eqOk C.P) = true) {ops : Array Oper} {i : Nat} {o : Oper} (ho : ops[i]? = some o) {K : St → Mem → Prop} (h : opG C ops o s σ K)
  (hI : FI C ρ0 σ0 w0 lm ρ s σ a w) (hdn : (o.dst.all fun d => Nat.blt d C.n) = true) {next : Act → World → Prop} {Q : Exit → Act → World → Prop} (hn : Post C ρ0 σ0 w0 K next) : wpOp C.P ops Q i next a w := by
 unfold wpOp
 rw [ho]
 dsimp only
 unfold opG at h
 have skip : FI C ρ0 σ0 w0 lm ρ (s.put o.dst undef) σ (a.put o.dst undef) w := by
  cases hdst : o.dst with
  | none => exact hI
  | some d => exact hI.put (dst_lt hdn hdst) (fun _ => .undef) (fun k _ => .inl rfl)
 split at h
 ·rename_i hg
  have : Region.wanted o (yielded ops a.tmps) = true := by simp [Region.wanted, hg]
  rw [if_pos this]
  exact .inl (opW_sound hT he hI h fun lm' ρ' s' σ' a' w' hk hf => hn _ _ _ _ _ _ hk hf)
 ·rename_i j w' hg
  split at h
  rotate_left
  ·exact h.elim
  rename_i hgo
  have hy : ∀ {v : Value}, gval ops s j = v → (∀ b, v = .bool b → yielded ops a.tmps j = some b) ∧ (v = undef → yielded ops a.tmps j = none) := by
   intro v hv
   unfold gval at hv
   unfold yielded
   unfold gOk at hgo
   cases hj : ops[j]? with
   | none =>
    rw [hj] at hv
    subst hv
    exact ⟨(fun b h => by cases h), (fun _ => by simp)⟩
   | some p =>
    rw [hj] at hv hgo
    dsimp only at hv hgo
    cases hd : p.dst with
    | none =>
     rw [hd] at hv
     subst hv
     exact ⟨(fun b h => by cases h), (fun _ => by simp [hd])⟩
    | some d =>
     rw [hd] at hv
     dsimp only at hv
     have hpl : C.loc.lookup d = none := by
      have := hgo
      rw [dl_some hd] at this
      simpa using this
     have hV := hI.tm d hpl
     rw [hv] at hV
     refine ⟨fun b h => ?_, fun h => ?_⟩
     ·rw [h] at hV
      have := hV.bool_inv
      simp only [Option.bind_some, hd]
      rw [Array.getD_eq_getD_getElem?] at this
      cases hx : a.tmps[d]? with
      | none => rw [hx] at this; cases this
      | some x => rw [hx] at this; simp at this; subst this; rfl
     ·rw [h] at hV
      simp only [Option.bind_some, hd]
      rw [Array.getD_eq_getD_getElem?] at hV
      cases hx : a.tmps[d]? with
      | none => rfl
      | some x =>
       rw [hx] at hV
       simp only [Option.getD_some] at hV
       cases hV with
       | tup _ _ => rfl
  split at h
  ·rename_i b hv
   have hyv := (hy hv).1 b rfl
   split at h
   ·rename_i hb
    have : Region.wanted o (yielded ops a.tmps) = true := by simp [Region.wanted, hg, hyv, hb]
    rw [if_pos this]
    exact .inl (opW_sound hT he hI h fun lm' ρ' s' σ' a' w' hk hf => hn _ _ _ _ _ _ hk hf)
   ·rename_i hb
    have : Region.wanted o (yielded ops a.tmps) = false := by simp [Region.wanted, hg, hyv, hb]
    rw [this]
    exact hn _ _ _ _ _ _ h skip
  ·rename_i vs hv
   split at h
   ·rename_i hz
    have : vs = #[] := Array.eq_empty_of_size_eq_zero hz
    subst this
    have hyv := (hy hv).2 rfl
    have : Region.wanted o (yielded ops a.tmps) = false := by simp [Region.wanted, hg, hyv]
    rw [this]
    exact hn _ _ _ _ _ _ h skip
   ·exact h.elim
  ·exact h.elim
def dstsOk (C : Cx) (ops : Array Oper) : Bool := ops.toList.all fun o => o.dst.all fun d => Nat.blt d C.n
theorem dsts_spec {ops : Array Oper} (h : dstsOk C ops = true) {i : Nat} {o : Oper} (ho : ops[i]? = some o) : (o.dst.all fun d => Nat.blt d C.n) = true :=
 List.all_eq_true.1 h o (by have := Array.mem_of_getElem? ho; simpa using this)
theorem opsI_sound (hT : COk C) (he : C.eqt.all (eqOk C.P) = true) {ops : Array Oper} (hds : dstsOk C ops = true) {K : St → Mem → Prop} {Q : Exit → Act → World → Prop}
  (hQ : Post C ρ0 σ0 w0 K (Q .normal)) : ∀ (is : List Nat) (lm : Nat → Option Nat) (ρ : Ren) (s : St) (σ : Mem) (a : Act) (w : World), opsI C ops K is s σ → FI C ρ0 σ0 w0 lm ρ s σ a w → wpOps C.P ops Q is a w := by
 intro is
 induction is with
 | nil => intro lm ρ s σ a w h hI; exact hQ _ _ _ _ _ _ h hI
 | cons i is ih =>
  intro lm ρ s σ a w h hI
  rw [wpOps_cons]
  cases ho : ops[i]? with
  | none =>
   simp only [opsI, ho] at h
   unfold wpOp
   rw [ho]
   exact ih _ _ _ _ _ _ h hI
  | some o =>
   simp only [opsI, ho] at h
   exact opG_sound hT he ho h hI (dsts_spec hds ho) fun lm ρ s σ a w hk hf => ih _ _ _ _ _ _ hk hf
end
end Go.Fl
namespace Go.Fl
open Go
set_option linter.unusedVariables false
set_option linter.unusedSimpArgs false
abbrev Res := Value × Option (List Value)
def actSm (C : Cx) (m : Sm) (args : List Value) (s : St) (K : Res → Mem → Prop) (σ : Mem) : Prop :=
 match m with
 | .f g => xF g args fun v => K (v, none) σ
 | .lr k g => xO (g args (s.l k)) fun v => K (v, none) σ
 | .lw k (some v) g => if freshB C k s = true then xC (g args (s.l k)) fun c => K (v, some c) σ else False
 | .lw k none g => xC (g args (s.l k)) fun c => K (undef, some c) σ
 | .h _ r => r args (fun v τ => K (v, none) τ) σ
 | .hl _ k r => r (s.l k) args (fun v τ => K (v, none) τ) σ
def kSm : Sm → Nat
 | .lw k _ _ => k
 | _ => 0
def kO (C : Cx) (o : Oper) : Nat :=
 match comp C o with
 | some (_, m) => kSm m
 | none => 0
def appU (k : Nat) (d : Option Nat) (r : Res) (s : St) : St :=
 match r.2 with
 | some c => (s.setL k c).put d r.1
 | none => s.put d r.1
def actO (C : Cx) (o : Oper) (s : St) (K : Res → Mem → Prop) (σ : Mem) : Prop :=
 match comp C o with
 | some (xs, m) => if (o.dst.all fun d => Nat.blt d C.n) = true then actSm C m (xs.map (evO s)) s K σ else False
 | none => False
def actG (C : Cx) (ops : Array Oper) (o : Oper) (s : St) (K : Res → Mem → Prop) (σ : Mem) : Prop :=
 match o.guard with
 | none => actO C o s K σ
 | some (j, w) => if gOk C ops j = true then
   match gval ops s j with
   | .bool b => if b = w then actO C o s K σ else K (undef, none) σ
   | .tuple vs => if vs.size = 0 then K (undef, none) σ else False
   | _ => False
  else False
theorem runSm_act {C : Cx} {m : Sm} {d : Option Nat} {args : List Value} {s : St} {σ : Mem} {K : St → Mem → Prop} :
  runSm C m d args s σ K = actSm C m args s (fun r τ => K (appU (kSm m) d r s) τ) σ := by
 cases m with
 | f g => rfl
 | lr k g => rfl
 | lw k fr g => cases fr <;> rfl
 | h c r => rfl
 | hl c k r => rfl
theorem opW_act {C : Cx} {o : Oper} {s : St} {σ : Mem} {K : St → Mem → Prop} : opW C o s σ K = actO C o s (fun r τ => K (appU (kO C o) o.dst r s) τ) σ := by
 unfold opW actO kO
 cases hc : comp C o with
 | none => rfl
 | some p => simp only [runSm_act]
theorem opG_act {C : Cx} {ops : Array Oper} {o : Oper} {s : St} {σ : Mem} {K : St → Mem → Prop} : opG C ops o s σ K = actG C ops o s (fun r τ => K (appU (kO C o) o.dst r s) τ) σ := by
 unfold opG actG
 simp only [opW_act]
 rfl
theorem actSm_mono {C : Cx} {m : Sm} (hm : m.good) {args : List Value} {s : St} {σ : Mem} {K K' : Res → Mem → Prop} (h : ∀ r τ, K r τ → K' r τ) (hs : actSm C m args s K σ) : actSm C m args s K' σ := by
 cases m with
 | f g => exact xF_mono (fun v hk => h _ _ hk) hs
 | lr k g => exact xO_mono (fun v hk => h _ _ hk) hs
 | lw k fr g =>
  cases fr with
  | none => exact xC_mono (fun v hk => h _ _ hk) hs
  | some v =>
   simp only [actSm] at *
   split at hs
   ·rename_i hf; rw [if_pos hf]; exact xC_mono (fun v hk => h _ _ hk) hs
   ·exact hs.elim
 | h c r => exact Good.mono hm _ _ _ _ (fun v τ hk => h _ _ hk) hs
 | hl c k r => exact Good.mono (hm _) _ _ _ _ (fun v τ hk => h _ _ hk) hs
theorem actSm_live {C : Cx} {m : Sm} (hm : m.good) {args : List Value} {s : St} {σ : Mem} {K : Res → Mem → Prop} (hs : actSm C m args s K σ) : ∃ r τ, K r τ := by
 cases m with
 | f g => obtain ⟨v, _, hv⟩ := xF_live hs; exact ⟨_, _, hv⟩
 | lr k g => obtain ⟨v, _, hv⟩ := xO_live hs; exact ⟨_, _, hv⟩
 | lw k fr g =>
  cases fr with
  | none => obtain ⟨v, _, hv⟩ := xC_live hs; exact ⟨_, _, hv⟩
  | some v =>
   simp only [actSm] at hs
   split at hs
   ·obtain ⟨v, _, hv⟩ := xC_live hs; exact ⟨_, _, hv⟩
   ·exact hs.elim
 | h c r => obtain ⟨v, τ, hv⟩ := Good.live hm _ _ _ hs; exact ⟨_, _, hv⟩
 | hl c k r => obtain ⟨v, τ, hv⟩ := Good.live (hm _) _ _ _ hs; exact ⟨_, _, hv⟩
theorem actSm_det {C : Cx} {all : Bool} {m : Sm} (hm : m.good) (hc : clsOk all (smCls m) = true) (args : List Value) (s : St) : Det all (actSm C m args s) := by
 cases m with
 | f g =>
  unfold actSm
  simp only [xF]
  cases g args with
  | none => exact Det.no
  | some v => exact Det.ret _
 | lr k g => exact xO_det _ _
 | lw k fr g =>
  cases fr with
  | none => exact xC_det (g args (s.l k)) (fun c => (undef, some c))
  | some v =>
   unfold actSm
   simp only
   split
   ·exact xC_det (g args (s.l k)) (fun c => (v, some c))
   ·exact Det.no
 | h c r => exact (Det.of_good hm hc args).map fun v => (v, none)
 | hl c k r => exact (Det.of_good (hm _) hc args).map fun v => (v, none)
theorem actO_mono {C : Cx} (hC : C.good) {o : Oper} {s : St} {σ : Mem} {K K' : Res → Mem → Prop} (h : ∀ r τ, K r τ → K' r τ) (hs : actO C o s K σ) : actO C o s K' σ := by
 unfold actO at *
 split at hs
 ·rename_i xs m hc
  split at hs
  ·rename_i hd; rw [if_pos hd]; exact actSm_mono (comp_good hC hc) h hs
  ·exact hs.elim
 ·exact hs.elim
theorem actO_live {C : Cx} (hC : C.good) {o : Oper} {s : St} {σ : Mem} {K : Res → Mem → Prop} (hs : actO C o s K σ) : ∃ r τ, K r τ := by
 unfold actO at hs
 split at hs
 ·rename_i xs m hc
  split at hs
  ·exact actSm_live (comp_good hC hc) hs
  ·exact hs.elim
 ·exact hs.elim
theorem actO_det {C : Cx} (hC : C.good) {all : Bool} {o : Oper} (hc : clsOk all (opCls C o) = true) (s : St) : Det all (actO C o s) := by
 unfold opCls at hc
 unfold actO
 cases hcm : comp C o with
 | none => exact Det.no
 | some p =>
  obtain ⟨xs, m⟩ := p
  simp only [hcm] at hc ⊢
  split
  ·exact actSm_det (comp_good hC hcm) hc _ _
  ·exact Det.no
theorem actG_mono {C : Cx} (hC : C.good) {ops : Array Oper} {o : Oper} {s : St} {σ : Mem} {K K' : Res → Mem → Prop} (h : ∀ r τ, K r τ → K' r τ) (hs : actG C ops o s K σ) : actG C ops o s K' σ := by
 unfold actG at *
 split at hs
 ·exact actO_mono hC h hs
 ·split at hs
  rotate_left
  ·exact hs.elim
  rename_i hg
  rw [if_pos hg]
  split at hs
  ·split at hs
   ·rename_i hb; rw [if_pos hb]; exact actO_mono hC h hs
   ·rename_i hb; rw [if_neg hb]; exact h _ _ hs
  ·split at hs
   ·rename_i hb; rw [if_pos hb]; exact h _ _ hs
   ·exact hs.elim
  ·exact hs.elim
theorem actG_live {C : Cx} (hC : C.good) {ops : Array Oper} {o : Oper} {s : St} {σ : Mem} {K : Res → Mem → Prop} (hs : actG C ops o s K σ) : ∃ r τ, K r τ := by
 unfold actG at hs
 split at hs
 ·exact actO_live hC hs
 ·split at hs
  rotate_left
  ·exact hs.elim
  split at hs
  ·split at hs
   ·exact actO_live hC hs
   ·exact ⟨_, _, hs⟩
  ·split at hs
   ·exact ⟨_, _, hs⟩
   ·exact hs.elim
  ·exact hs.elim
theorem actG_det {C : Cx} (hC : C.good) {all : Bool} {ops : Array Oper} {o : Oper} (hc : clsOk all (opCls C o) = true) (s : St) : Det all (actG C ops o s) := by
 unfold actG
 split
 ·exact actO_det hC hc s
 ·split
  ·split
   ·split
    ·exact actO_det hC hc s
    ·exact Det.ret _
   ·split
    ·exact Det.ret _
    ·exact Det.no
   ·exact Det.no
  ·exact Det.no
theorem actO_new {C : Cx} (hC : C.good) {o : Oper} (hc : opCls C o = .new) (s : St) : NewD (actO C o s) := by
 unfold opCls at hc
 unfold actO
 cases hcm : comp C o with
 | none => exact .inl fun K τ h => h
 | some p =>
  obtain ⟨xs, m⟩ := p
  have hg := comp_good hC hcm
  simp only [hcm] at hc ⊢
  split
  ·have map : ∀ {c : Cls} {r : Spec} {args : List Value}, c = .new → Good c r → NewD (fun (K : Res → Mem → Prop) σ => r args (fun v τ => K (v, none) τ) σ) := by
    intro c r args e hgood
    rcases hgood.new e args with h | ⟨cc, v, h⟩
    ·exact .inl fun K τ => h _ τ
    ·exact .inr ⟨cc, fun id => (v id, none), fun K τ => h _ τ⟩
   cases m with
   | f g => cases hc
   | lr k g => cases hc
   | lw k fr g => cases hc
   | h c r => exact map hc hg
   | hl c k r => exact map hc (hg (s.l k))
  ·exact .inl fun K τ h => h
theorem swapNew {α β : Type} {A : (α → Mem → Prop) → Mem → Prop} {B : (β → Mem → Prop) → Mem → Prop} (hA : NewD A) (hB : NewD B) {K : α → β → Mem → Prop} {σ : Mem}
  (h : A (fun r1 τ => B (fun r2 τ' => K r1 r2 τ') τ) σ) : B (fun r2 τ => A (fun r1 τ' => K r1 r2 τ') τ) σ := by
 rcases hA with hA | ⟨c, v, hA⟩
 ·exact absurd h (hA _ σ)
 ·have h1 := (hA _ σ).1 h
  rcases hB with hB | ⟨d, u, hB⟩
  ·obtain ⟨i, hi⟩ := σ.fresh
   exact absurd (h1 i hi) (hB _ _)
  ·refine (hB _ σ).2 fun j hj => (hA _ _).2 fun i hi => ?_
   rw [Mem.get_set] at hi
   split at hi
   ·cases hi
   ·rename_i hij
    have h2 := (hB _ _).1 (h1 i hi) j (by rw [Mem.get_set, if_neg (Ne.symm hij)]; exact hj)
    have e : (σ.set i ⟨c, true⟩).set j ⟨d, true⟩ = (σ.set j ⟨d, true⟩).set i ⟨c, true⟩ := by
     apply Mem.ext'
     funext k
     rw [Mem.get_set, Mem.get_set, Mem.get_set, Mem.get_set]
     by_cases e1 : k = j
     ·subst e1; simp [Ne.symm hij]
     ·simp [e1]
    rw [e] at h2
    exact h2
theorem actG_new {C : Cx} (hC : C.good) {ops : Array Oper} {o : Oper} (hc : opCls C o = .new) (hg : o.guard = none) (s : St) : NewD (actG C ops o s) := by
 have : actG C ops o s = actO C o s := by
  unfold actG
  simp only [hg]
 rw [this]
 exact actO_new hC hc s
theorem swapAB {α β : Type} {A : (α → Mem → Prop) → Mem → Prop} {B : (β → Mem → Prop) → Mem → Prop} (mA : ∀ {K K' : α → Mem → Prop} {σ}, (∀ r τ, K r τ → K' r τ) → A K σ → A K' σ)
  (mB : ∀ {K K' : β → Mem → Prop} {σ}, (∀ r τ, K r τ → K' r τ) → B K σ → B K' σ) (lA : ∀ {K : α → Mem → Prop} {σ}, A K σ → ∃ r τ, K r τ)
  (hc : Det true A ∨ Det true B ∨ (Det false A ∧ Det false B)) {K : α → β → Mem → Prop} {σ : Mem} (h : A (fun r1 τ => B (fun r2 τ' => K r1 r2 τ') τ) σ) : B (fun r2 τ => A (fun r1 τ' => K r1 r2 τ') τ) σ := by
 rcases hc with hA | hB | ⟨hA, hB⟩
 ·rcases hA σ with hA | ⟨r1, hA⟩
  ·exact absurd h (hA _ σ (fun h => by cases h))
  ·have h1 := (hA _ σ (fun h => by cases h)).1 h
   exact mB (fun r2 τ hk => (hA _ τ (fun h => by cases h)).2 hk) h1
 ·rcases hB σ with hB | ⟨r2, hB⟩
  ·obtain ⟨r1, τ, h1⟩ := lA h
   exact absurd h1 (hB _ τ (fun h => by cases h))
  ·refine (hB _ σ (fun h => by cases h)).2 ?_
   exact mA (fun r1 τ hk => (hB _ τ (fun h => by cases h)).1 hk) h
 ·rcases hA σ with hA | ⟨r1, hA⟩
  ·exact absurd h (hA _ σ (fun _ => rfl))
  ·have h1 := (hA _ σ (fun _ => rfl)).1 h
   rcases hB σ with hB | ⟨r2, hB⟩
   ·exact absurd h1 (hB _ σ (fun _ => rfl))
   ·have h2 := (hB _ σ (fun _ => rfl)).1 h1
    exact (hB _ σ (fun _ => rfl)).2 ((hA _ σ (fun _ => rfl)).2 h2)
def opSlots : List Operand → List Nat
 | [] => []
 | .tmp t :: xs => t :: opSlots xs
 | _ :: xs => opSlots xs
def gSlot (ops : Array Oper) (o : Oper) : List Nat :=
 match o.guard with
 | some (j, _) => match ops[j]? with
  | some p => p.dst.toList
  | none => []
 | none => []
def locSlots (C : Cx) (k : Nat) : List Nat := (C.loc.filter fun x => Nat.beq x.2 k).map (·.1)
def rdS (C : Cx) (ops : Array Oper) (o : Oper) : List Nat :=
 (match comp C o with
  | some (xs, m) => opSlots xs ++ (match m with
   | .lw k (some _) _ => locSlots C k
   | _ => [])
  | none => []) ++ gSlot ops o
def rdL (C : Cx) (o : Oper) : Option Nat :=
 match comp C o with
 | some (_, .lr k _) | some (_, .lw k _ _) | some (_, .hl _ k _) => some k
 | _ => none
def wrL (C : Cx) (o : Oper) : Option Nat :=
 match comp C o with
 | some (_, .lw k _ _) => some k
 | _ => none
theorem evO_congr {s s' : St} : ∀ {xs : List Operand}, (∀ t ∈ opSlots xs, s'.t t = s.t t) → xs.map (evO s') = xs.map (evO s)
 | [], _ => rfl
 | .tmp t :: xs, h => by
  simp only [List.map_cons, evO]
  rw [h t (by simp [opSlots]), evO_congr fun u hu => h u (by simp [opSlots, hu])]
 | .const v :: xs, h => by
  simp only [List.map_cons, evO]
  rw [evO_congr fun u hu => h u (by simp [opSlots, hu])]
 | .global g :: xs, h => by
  simp only [List.map_cons, evO]
  rw [evO_congr fun u hu => h u (by simp [opSlots, hu])]
 | .func g :: xs, h => by
  simp only [List.map_cons, evO]
  rw [evO_congr fun u hu => h u (by simp [opSlots, hu])]
theorem fresh_congr {C : Cx} {k : Nat} {s s' : St} (h : ∀ t ∈ locSlots C k, s'.t t = s.t t) : freshB C k s' = freshB C k s := by
 unfold freshB
 apply Bool.eq_iff_iff.2
 simp only [List.all_eq_true]
 refine ⟨fun hh x hx => ?_, fun hh x hx => ?_⟩
 ·have := hh x hx
  obtain ⟨t, k'⟩ := x
  dsimp only at *
  by_cases e : k' = k
  ·subst e
   rwa [h t (by simp only [locSlots, List.mem_map, List.mem_filter]; exact ⟨(t, k'), ⟨hx, by simp⟩, rfl⟩)] at this
  ·simp [e]
 ·have := hh x hx
  obtain ⟨t, k'⟩ := x
  dsimp only at *
  by_cases e : k' = k
  ·subst e
   rwa [h t (by simp only [locSlots, List.mem_map, List.mem_filter]; exact ⟨(t, k'), ⟨hx, by simp⟩, rfl⟩)]
  ·simp [e]
theorem actG_congr {C : Cx} {ops : Array Oper} {o : Oper} {s s' : St} (ht : ∀ t ∈ rdS C ops o, s'.t t = s.t t) (hl : ∀ k, rdL C o = some k → s'.l k = s.l k) :
  actG C ops o s' = actG C ops o s := by
 have hO : actO C o s' = actO C o s := by
  funext K σ
  unfold actO
  unfold rdS at ht
  unfold rdL at hl
  cases hc : comp C o with
  | none => rfl
  | some p =>
   obtain ⟨xs, m⟩ := p
   simp only [hc, List.mem_append] at ht hl ⊢
   rw [evO_congr fun t h => ht t (.inl (.inl h))]
   congr 1
   cases m with
   | f g => rfl
   | lr k g => simp only [actSm]; rw [hl k rfl]
   | lw k fr g =>
    cases fr with
    | none => simp only [actSm]; rw [hl k rfl]
    | some v => simp only [actSm]; rw [hl k rfl, fresh_congr fun t h => ht t (.inl (.inr h))]
   | h c r => rfl
   | hl c k r => simp only [actSm]; rw [hl k rfl]
 have hgv : ∀ j w, o.guard = some (j, w) → gval ops s' j = gval ops s j := by
  intro j w hg
  unfold gval
  cases hj : ops[j]? with
  | none => rfl
  | some p =>
   cases hd : p.dst with
   | none => simp [hd]
   | some d =>
    simp only [hd]
    refine ht d ?_
    simp [rdS, gSlot, hg, hj, hd]
 unfold actG
 funext K σ
 cases hg : o.guard with
 | none => simp only [hO]
 | some p =>
  obtain ⟨j, w⟩ := p
  simp only [hO, hgv j w hg]
theorem actG_wr {C : Cx} (hC : C.good) {ops : Array Oper} {o : Oper} {s : St} {K : Res → Mem → Prop} {σ : Mem} (h : actG C ops o s K σ) :
  actG C ops o s (fun r τ => K r τ ∧ (r.2 ≠ none → wrL C o = some (kO C o))) σ := by
 have hO : actO C o s K σ → actO C o s (fun r τ => K r τ ∧ (r.2 ≠ none → wrL C o = some (kO C o))) σ := by
  intro h
  unfold actO wrL kO at *
  split at h
  ·rename_i xs m hc
   have hg := comp_good hC hc
   split at h
   ·rename_i hd
    simp only [hc]
    rw [if_pos hd]
    cases m with
    | f g => exact xF_mono (fun v hk => ⟨hk, fun h => absurd rfl h⟩) h
    | lr k g => exact xO_mono (fun v hk => ⟨hk, fun h => absurd rfl h⟩) h
    | lw k fr g =>
     cases fr with
     | none => exact xC_mono (fun v hk => ⟨hk, fun _ => rfl⟩) h
     | some v =>
      simp only [actSm] at *
      split at h
      ·rename_i hf; rw [if_pos hf]; exact xC_mono (fun v hk => ⟨hk, fun _ => rfl⟩) h
      ·exact h.elim
    | h c r => exact Good.mono hg _ _ _ _ (fun v τ hk => ⟨hk, fun h => absurd rfl h⟩) h
    | hl c k r => exact Good.mono (hg _) _ _ _ _ (fun v τ hk => ⟨hk, fun h => absurd rfl h⟩) h
   ·exact h.elim
  ·exact h.elim
 unfold actG at *
 split at h
 ·exact hO h
 ·split at h
  rotate_left
  ·exact h.elim
  rename_i hg
  rw [if_pos hg]
  split at h
  ·split at h
   ·rename_i hb; rw [if_pos hb]; exact hO h
   ·rename_i hb; rw [if_neg hb]; exact ⟨h, fun h => absurd rfl h⟩
  ·split at h
   ·rename_i hb; rw [if_pos hb]; exact ⟨h, fun h => absurd rfl h⟩
   ·exact h.elim
  ·exact h.elim
def clsFit : Cls → Cls → Bool
 | .none, _ => true
 | _, .none => true
 | .read, .read => true
 | .new, .new => true
 | _, _ => false
def apart1 (C : Cx) (ops : Array Oper) (o p : Oper) : Bool :=
 (match o.dst with
  | some d => !((rdS C ops p).contains d) && (match p.dst with
   | some e => !(Nat.beq d e)
   | none => true)
  | none => true) &&
 (match wrL C o, rdL C p with
  | some k, some k' => !(Nat.beq k k')
  | _, _ => true)
def bare2 (o p : Oper) : Cls → Cls → Bool
 | .new, .new => o.guard.isNone && p.guard.isNone
 | _, _ => true
def indep (C : Cx) (ops : Array Oper) (o p : Oper) : Bool := apart1 C ops o p && apart1 C ops p o && (clsFit (opCls C o) (opCls C p) && bare2 o p (opCls C o) (opCls C p))
theorem wr_rd {C : Cx} {o : Oper} {k : Nat} (h : wrL C o = some k) : rdL C o = some k := by
 unfold wrL at h
 unfold rdL
 split at h
 ·rename_i xs k' fr g hc
  rw [hc]; exact h
 ·cases h
theorem appU_t {k : Nat} {d : Option Nat} {r : Res} {s : St} {t : Nat} (h : d ≠ some t) : (appU k d r s).t t = s.t t := by
 unfold appU
 split
 ·rw [put_same _ d _ t h]; rfl
 ·rw [put_same _ d _ t h]
theorem appU_l {k k' : Nat} {d : Option Nat} {r : Res} {s : St} (h : r.2 ≠ none → k ≠ k') : (appU k d r s).l k' = s.l k' := by
 unfold appU
 split
 ·rename_i c hc
  rw [put_l, setL_l, if_neg (fun e => h (by simp [hc]) e.symm)]
 ·rw [put_l]
theorem appU_comm {k1 k2 : Nat} {d1 d2 : Option Nat} {r1 r2 : Res} {s : St} (hd : ∀ t, d1 = some t → d2 ≠ some t) (hk : r1.2 ≠ none → r2.2 ≠ none → k1 ≠ k2) :
  appU k2 d2 r2 (appU k1 d1 r1 s) = appU k1 d1 r1 (appU k2 d2 r2 s) := by
 have ext : ∀ {a b : St}, a.t = b.t → a.l = b.l → a = b := by intro a b h1 h2; cases a; cases b; simp at h1 h2; rw [h1, h2]
 have tt : ∀ (k : Nat) (d : Option Nat) (r : Res) (s : St) (t : Nat), (appU k d r s).t t = if d = some t then r.1 else s.t t := by
  intro k d r s t
  by_cases h : d = some t
  ·rw [if_pos h]; subst h
   unfold appU
   split <;> rw [put_t, if_pos rfl]
  ·rw [if_neg h, appU_t h]
 have ll : ∀ (k : Nat) (d : Option Nat) (r : Res) (s : St) (i : Nat), (appU k d r s).l i = match r.2 with
   | some c => if i = k then c else s.l i
   | none => s.l i := by
  intro k d r s i
  unfold appU
  cases r.2 with
  | none => simp only; rw [put_l]
  | some c => simp only; rw [put_l, setL_l]
 apply ext
 ·funext t
  rw [tt, tt, tt, tt]
  by_cases h1 : d1 = some t
  ·rw [if_neg (hd t h1), if_pos h1, if_pos h1]
  ·rw [if_neg h1, if_neg h1]
 ·funext i
  rw [ll, ll, ll, ll]
  cases h1 : r1.2 with
  | none => rfl
  | some c1 =>
   cases h2 : r2.2 with
   | none => rfl
   | some c2 =>
    have := hk (by simp [h1]) (by simp [h2])
    simp only
    by_cases e1 : i = k1
    ·subst e1; simp [this]
    ·simp [e1]
theorem apart1_spec {C : Cx} {ops : Array Oper} {o p : Oper} (h : apart1 C ops o p = true) :
  (∀ d, o.dst = some d → d ∉ rdS C ops p ∧ p.dst ≠ some d) ∧ (∀ k, wrL C o = some k → rdL C p ≠ some k) := by
 simp only [apart1, Bool.and_eq_true] at h
 refine ⟨fun d hd => ?_, fun k hk hr => ?_⟩
 ·have h1 := h.1
  rw [hd] at h1
  simp only [Bool.and_eq_true, Bool.not_eq_true', List.contains_eq_mem, decide_eq_false_iff_not] at h1
  refine ⟨h1.1, fun hp => ?_⟩
  have := h1.2
  rw [hp] at this
  simp at this
 ·have h2 := h.2
  rw [hk, hr] at h2
  simp at h2
theorem swap {C : Cx} (hC : C.good) {ops : Array Oper} {o p : Oper} (hi : indep C ops o p = true) {s : St} {σ : Mem} {K : St → Mem → Prop}
  (h : opG C ops o s σ (fun s σ => opG C ops p s σ K)) : opG C ops p s σ (fun s σ => opG C ops o s σ K) := by
 simp only [indep, Bool.and_eq_true] at hi
 obtain ⟨⟨h1, h2⟩, hcl⟩ := hi
 obtain ⟨a1, b1⟩ := apart1_spec h1
 obtain ⟨a2, b2⟩ := apart1_spec h2
 have cong : ∀ {o p : Oper}, (∀ d, o.dst = some d → d ∉ rdS C ops p ∧ p.dst ≠ some d) → (∀ k, wrL C o = some k → rdL C p ≠ some k) → ∀ {r : Res}, (r.2 ≠ none → wrL C o = some (kO C o)) →
   ∀ {s : St}, actG C ops p (appU (kO C o) o.dst r s) = actG C ops p s := by
  intro o p a b r hr s
  refine actG_congr (fun t ht => appU_t fun e => (a t e).1 ht) (fun k hk => appU_l fun hn e => ?_)
  have := hr hn
  rw [e] at this
  exact b k this hk
 have comm : ∀ {r1 r2 : Res}, (r1.2 ≠ none → wrL C o = some (kO C o)) → (r2.2 ≠ none → wrL C p = some (kO C p)) →
   appU (kO C p) p.dst r2 (appU (kO C o) o.dst r1 s) = appU (kO C o) o.dst r1 (appU (kO C p) p.dst r2 s) := by
  intro r1 r2 q1 q2
  refine appU_comm (fun t ht => (a1 t ht).2) fun n1 n2 e => ?_
  have := q1 n1
  have h2 := wr_rd (q2 n2)
  rw [e] at this
  exact b1 _ this h2
 obtain ⟨hcl, hbr⟩ := hcl
 have hfit : (Det true (actG C ops o s) ∨ Det true (actG C ops p s) ∨ (Det false (actG C ops o s) ∧ Det false (actG C ops p s))) ∨ (NewD (actG C ops o s) ∧ NewD (actG C ops p s)) := by
  cases ho : opCls C o with
  | none => exact .inl (.inl (actG_det hC (by rw [ho]; rfl) s))
  | read =>
   cases hp : opCls C p with
   | none => exact .inl (.inr (.inl (actG_det hC (by rw [hp]; rfl) s)))
   | read => exact .inl (.inr (.inr ⟨actG_det hC (by rw [ho]; rfl) s, actG_det hC (by rw [hp]; rfl) s⟩))
   | new => rw [ho, hp] at hcl; cases hcl
   | write => rw [ho, hp] at hcl; cases hcl
  | new =>
   cases hp : opCls C p with
   | none => exact .inl (.inr (.inl (actG_det hC (by rw [hp]; rfl) s)))
   | read => rw [ho, hp] at hcl; cases hcl
   | new =>
    rw [ho, hp] at hbr
    simp only [bare2, Bool.and_eq_true, Option.isNone_iff_eq_none] at hbr
    exact .inr ⟨actG_new hC ho hbr.1 s, actG_new hC hp hbr.2 s⟩
   | write => rw [ho, hp] at hcl; cases hcl
  | write =>
   cases hp : opCls C p with
   | none => exact .inl (.inr (.inl (actG_det hC (by rw [hp]; rfl) s)))
   | read => rw [ho, hp] at hcl; cases hcl
   | new => rw [ho, hp] at hcl; cases hcl
   | write => rw [ho, hp] at hcl; cases hcl
 rw [opG_act] at h ⊢
 have hA : actG C ops o s (fun r1 τ => actG C ops p s (fun r2 τ' => ((r1.2 ≠ none → wrL C o = some (kO C o)) ∧ (r2.2 ≠ none → wrL C p = some (kO C p))) ∧
   K (appU (kO C p) p.dst r2 (appU (kO C o) o.dst r1 s)) τ') τ) σ := by
  refine actG_mono hC (fun r1 τ hk => ?_) (actG_wr hC h)
  obtain ⟨hk, hr⟩ := hk
  rw [opG_act, cong a1 b1 hr] at hk
  exact actG_mono hC (fun r2 τ' hk => ⟨⟨hr, hk.2⟩, hk.1⟩) (actG_wr hC hk)
 have hB : actG C ops p s (fun r2 τ => actG C ops o s (fun r1 τ' => ((r1.2 ≠ none → wrL C o = some (kO C o)) ∧ (r2.2 ≠ none → wrL C p = some (kO C p))) ∧
   K (appU (kO C p) p.dst r2 (appU (kO C o) o.dst r1 s)) τ') τ) σ := by
  rcases hfit with hfit | ⟨n1, n2⟩
  ·exact swapAB (A := actG C ops o s) (B := actG C ops p s) (fun h => actG_mono hC h) (fun h => actG_mono hC h) (actG_live hC) hfit hA
  ·exact swapNew (A := actG C ops o s) (B := actG C ops p s) n1 n2 hA
 refine actG_mono hC (fun r2 τ hk => ?_) hB
 obtain ⟨r1, τ1, q⟩ := actG_live hC hk
 rw [opG_act, cong a2 b2 q.1.2]
 refine actG_mono hC (fun r1 τ' hk => ?_) hk
 rw [← comm hk.1.1 hk.1.2]
 exact hk.2
end Go.Fl
