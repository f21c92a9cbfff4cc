/- What the claim leans on, part 0: own readings of the program's functions, what they come to, laws of them. No condition. -/
import Derived.WalkKit
import Derived.Orders
import Derived.Below
import Derived.Scope
import Derived.ChangeArms
import Derived.OpenShut
import Derived.DataReads
import Derived.Test.YtedpfdkhebmocaaGreatProg
import Derived.KernelRfl
import Derived.IntWalk
import Derived.SizedLaws
set_option linter.unusedVariables false
set_option linter.unusedSimpArgs false
namespace Go.Fl
open Go
theorem af{c:Prop}{h:Decidable c}(q:c){α:Sort _}{t e:α}:ite c t e=t:=if_pos q
theorem ae{c:Prop}{h:Decidable c}(q:¬c){α:Sort _}{t e:α}:ite c t e=e:=if_neg q
structure uc where
 cells:List Value
 rw:Bool
structure Mem where
 get:Nat→Option uc
 fin:∃ N,∀ i,N≤i→get i=none
theorem Mem.ext'{σ τ:Mem}(h:σ.get=τ.get):σ=τ:=by cases σ;cases τ;cases h;rfl
def Mem.set(σ:Mem)(i:Nat)(b:uc):Mem:=
 ⟨fun j=>if j=i then some b else σ.get j,by
  obtain⟨N,hN⟩:=σ.fin
  exact⟨N+i+1,fun j hj=>by rw[ae (by omega)];exact hN j (by omega)⟩⟩
def Mem.del(σ:Mem)(i:Nat):Mem:=
 ⟨fun j=>if j=i then none else σ.get j,by
  obtain⟨N,hN⟩:=σ.fin
  exact⟨N,fun j hj=>by split;rfl;exact hN j hj⟩⟩
def ar:Value:=.tuple #[.nilFunc]
structure RE where
 cJ:Nat
 sh:Nat
 cap:Nat
abbrev dS:=Nat→Option RE
inductive V(ρ:dS):Value→Value→Prop
 | Rd (v':Value):V ρ (.tuple #[.nilFunc]) v'
 | bool (b:Bool):V ρ (.bool b) (.bool b)
 | int (k:IntKind) (n:Int):V ρ (.int k n) (.int k n)
 | str (s:ByteArray):V ρ (.string s) (.string s)
 | Ri:V ρ (.pointer none) (.pointer none)
 | ptr {b o:Nat} {e:RE} (h:ρ b=some e):V ρ (.pointer (some ⟨b,o,none⟩)) (.pointer (some ⟨e.cJ,e.sh+o,none⟩))
 | yM:V ρ (.slice none 0 0) (.slice none 0 0)
 | sl {b o n c c':Nat} {e:RE} (h:ρ b=some e) (hl:n≤c') (hc:o+c'*c≤e.cap) :
   V ρ (.slice (some ⟨b,o,none⟩) n c) (.slice (some ⟨e.cJ,e.sh+o,none⟩) n c')
 | Ke {b o c:Nat} {a':Addr}:V ρ (.slice (some ⟨b,o,none⟩) 0 c) (.slice (some a') 0 0)
 | agg {cs cs':Array Value} (h:cs.size=cs'.size) (hv:∀(i:Nat) (v v':Value),cs[i]?=some v→cs'[i]?=some v'→V ρ v v'):V ρ (.agg cs) (.agg cs')
 | TD {cs cs':Array Value} (h:cs.size=cs'.size) (hv:∀(i:Nat) (v v':Value),cs[i]?=some v→cs'[i]?=some v'→V ρ v v'):V ρ (.tuple cs) (.tuple cs')
 | Rj:V ρ .nilIface .nilIface
 | iface (t:TypeId) {v v':Value} (h:V ρ v v'):V ρ (.iface t v) (.iface t v')
 | Rl:V ρ .nilFunc .nilFunc
inductive vo where
 | none|read|new|write
 deriving DecidableEq
abbrev Spec:=List Value→(Value→Mem→Prop)→Mem→Prop
def zx:List Value→Option Value
 | [x]=>some x
 | _=>none
def aB:List Value→Option Value
 | [.bool true,a,_]=>some a
 | [.bool false,_,b]=>some b
 | _=>none
def ay:List Value→Option Value
 | [.pointer (some a)]=>some (.pointer (some a))
 | _=>none
def Cc(a:Addr)(n:Nat):Addr:=⟨a.block,a.off+n,a.spot⟩
def Jw(off:Nat):List Value→Option Value
 | [.pointer (some a)]=>some (.pointer (some (Cc a off)))
 | _=>none
def sub(cs:List Value)(off sz:Nat)(ag:Bool):Option Value:=
 if off+sz≤cs.length then(if ag then some (.agg ((cs.drop off).take sz).toArray)else cs[off]?)else none
def b7(off sz:Nat)(ag:Bool):List Value→Option Value
 | [.agg cs]=>sub cs.toList off sz ag
 | _=>none
def dx(es:Nat):List Value→Option Value
 | [.slice (some a) n _,.int _ i]=>if 0≤i∧i<(n:Int)then some (.pointer (some (Cc a (i.toNat*es))))else none
 | _=>none
def RQ(n es:Nat):List Value→Option Value
 | [.pointer (some a),.int _ i]=>if 0≤i∧i<(n:Int)then some (.pointer (some (Cc a (i.toNat*es))))else none
 | _=>none
def Vz(n es:Nat)(ag:Bool):List Value→Option Value
 | [.agg cs,.int _ i]=>if 0≤i∧i<(n:Int)then sub cs.toList (i.toNat*es) es ag else none
 | _=>none
def dH(ix:Nat):List Value→Option Value
 | [.tuple vs]=>if vs.size=1 then none else vs.toList[ix]?
 | _=>none
def jt:Value→Bool
 | .bool _ | .int _ _ | .string _ | .pointer none | .slice none 0 0 | .nilIface | .nilFunc=>true
 | _=>false
def bQ(P:Program)(t:TypeId):Nat:=P.cellsOf t
def jy(P:Program)(t:TypeId):Bool:=
 match P.underlying t with
 | some (.struct _)|some (.array _ _)=>true
 | _=>false
def tKnown(P:Program)(t:TypeId):Bool:=(P.underlying t).isSome&&(P.info? t).isSome
def jx(P:Program)(t:TypeId):Option (List Value):=
 match P.info? t with
 | some i=>match i.zero with
  | some (.agg cs)=>if cs.toList.all jt&&i.size == cs.size then some cs.toList else none
  | some v=>if jt v&&i.size == 1 then some [v]else none
  | none=>none
 | none=>none
def BK:Bool→Value→Value→Option Bool
 | true,.int k a,.int k' b=>if k=k' then some (a == b)else none
 | false,.bool a,.bool b=>some (a == b)
 | _,_,_=>none
def dF:List Bool→List Value→List Value→Option Bool
 | [],[],[]=>some true
 | q::qs,x::xs,y::ys=>match BK q x y,dF qs xs ys with
  | some a,some b=>some (a&&b)
  | _,_=>none
 | _,_,_=>none
inductive fY where
 | bool|ptr|flat (ks:List Bool)|no|Yb
def Ga:fY→Value→Value→Option Bool
 | .bool,.bool a,.bool b=>some (a == b)
 | .ptr,.pointer none,.pointer b=>some b.isNone
 | .ptr,.pointer (some _),.pointer none=>some false
 | .flat ks,.agg xs,.agg ys=>dF ks xs.toList ys.toList
 | .Yb,.slice a _ _,.slice none 0 0=>some a.isNone
 | _,_,_=>none
def qh(P:Program):List Field→Nat→List Bool→Bool
 | [],_,[]=>true
 | f :: fs, i, q :: qs => !(f.name == "_") && f.offset == i && tKnown P f.type && (match P.underlying f.type with
  | some (.int _)=>q
  | some .bool => !q
  | _=>false)&&qh P fs (i+1) qs
 | _,_,_=>false
def eqOk(P:Program)(x:Nat×fY):Bool:=
 match x.2,P.underlying x.1 with
 | .bool,some .bool=>true
 | .ptr,some (.pointer _)=>true
 | .flat ks,some (.struct fs) => !(P.stoodInHeld x.1) && !(P.eqGuardType P.depth x.1)&&qh P fs.toList 0 ks
 | .no,_=>true
 | .Yb,some (.slice _)=>true
 | _,_=>false
def mZ(op:BinOp)(k:IntKind)(a b:Int):Option Value:=
 match op with
 | .add=>some (.int k (k.wrap (a+b)))
 | .sub=>some (.int k (k.wrap (a-b)))
 | .mul=>some (.int k (k.wrap (a*b)))
 | .quo=>if b=0 then none else some (.int k (k.wrap (a.tdiv b)))
 | .rem=>if b=0 then none else some (.int k (a.tmod b))
 | .and=>some (.int k (k.wrap ((BitVec.ofInt k.bits a &&& BitVec.ofInt k.bits b).toNat:Int)))
 | .or=>some (.int k (k.wrap ((BitVec.ofInt k.bits a ||| BitVec.ofInt k.bits b).toNat:Int)))
 | .xor=>some (.int k (k.wrap ((BitVec.ofInt k.bits a ^^^ BitVec.ofInt k.bits b).toNat:Int)))
 | .eql=>some (.bool (a == b))
 | .neq=>some (.bool (a != b))
 | .lss=>some (.bool (decide (a<b)))
 | .leq=>some (.bool (decide (a≤b)))
 | .gtr=>some (.bool (decide (a > b)))
 | .geq=>some (.bool (decide (a ≥ b)))
 | _=>none
def SE(op:BinOp)(k:IntKind)(a b:Int):Option Value:=
 if b<0 then none else
 match op with
 | .shl=>some (.int k (k.wrap (a*2 ^ (min b.toNat k.bits))))
 | .shr=>some (.int k (a.fdiv (2 ^ (min b.toNat k.bits))))
 | _=>none
def ka:BinOp→Bool
 | .shl | .shr=>true
 | _=>false
def aq(op:BinOp)(q:fY):List Value→Option Value
 | [.int k a,.int k' b]=>if ka op then SE op k a b else if k=k' then mZ op k a b else none
 | [x,y]=>match op with
  | .eql=>(Ga q x y).map fun b=>.bool b
  | .neq=>(Ga q x y).map fun b=>.bool (!b)
  | _=>none
 | _=>none
def mV(op:UnOp):List Value→Option Value
 | [.bool b]=>if op=.not then some (.bool !b)else none
 | [.int k n]=>if op=.neg then some (.int k (k.wrap (0-n)))else none
 | _=>none
def cZ(k:IntKind):List Value→Option Value
 | [.int _ n]=>some (.int k (k.wrap n))
 | _=>none
def jS:List Value→Option Value
 | [.slice _ n _]=>some (.int .i64 n)
 | _=>none
def Jv:List Value→Option Value
 | [.int k x,.int _ y]=>some (.int k (if y<x then y else x))
 | _=>none
def Lp:List Value→Option Value
 | [.int k x,.int _ y]=>some (.int k (if y > x then y else x))
 | _=>none
def E9(t:TypeId):List Value→Option Value
 | [x]=>some (.iface t x)
 | _=>none
def ED(es:Nat)(a:Option Addr)(n c:Nat)(l h:Int):Option Value:=
 if 0≤l∧l≤h∧h≤(n:Int)then
  (match a with
   | some ad=>if c=es then some (.slice (some (Cc ad (l.toNat*es))) (h.toNat-l.toNat) es)else none
   | none=>some (.slice none 0 0))
 else none
def fSl(es:Nat)(lo hi:Bool):List Value→Option Value
 | [.slice a n c]=>if lo=false∧hi=false then ED es a n c 0 n else none
 | [.slice a n c,.int _ i]=>if lo=true∧hi=false then ED es a n c i n else if lo=false∧hi=true then ED es a n c 0 i else none
 | [.slice a n c,.int _ i,.int _ j]=>if lo=true∧hi=true then ED es a n c i j else none
 | _=>none
def cellsOf(v:Value)(sz:Nat):Option (List Value):=
 match v with
 | .agg cs=>if cs.size=sz then some cs.toList else none
 | .tuple _=>none
 | v=>if sz=1 then some [v]else none
def lay(cs:List Value)(off:Nat)(vs:List Value):List Value:=cs.take off++vs++cs.drop (off+vs.length)
def jU(mP:Nat→Option (Nat×Nat)):List Value→List Nat→List Value→Option (List Value)
 | cells,[],[]=>some cells
 | cells,i::is,v::vs=>match mP i with
  | some (off,sz)=>match cellsOf v sz with
   | some c=>if off+sz≤cells.length then jU mP (lay cells off c) is vs else none
   | none=>none
  | none=>none
 | _,_,_=>none
def aM(mP:List (Nat×Nat))(zero:List Value)(idx:List Nat)(args:List Value):Option Value:=
 (jU (fun i=>mP[i]?) zero idx args).map fun c=>.agg c.toArray
def au(k:Nat):Value:=.pointer (some ⟨k,0,some 0⟩)
def rR(k n es:Nat):Value:=.slice (some ⟨k,0,some 0⟩) n es
def FX:Value→Bool
 | .tuple _=>true
 | _=>false
def dV:Value→Bool
 | .agg _ | .tuple _=>false
 | _=>true
def ah(sz:Nat)(ag:Bool):List Value→List Value→Option Value
 | [.pointer (some a)],cs=>sub cs a.off sz ag
 | _,_=>none
def aH(sz:Nat):List Value→List Value→Option (List Value)
 | [.pointer (some a),x],cs=>match cellsOf x sz with
  | some c=>if a.off+sz≤cs.length∧c.all dV=true then some (lay cs a.off c)else none
  | none=>none
 | _,_=>none
def mU(z:List Value):List Value→List Value→Option (List Value)
 | [],_=>some z
 | _,_=>none
def bO(sz:Nat):List Value→List Value→Option (List Value)
 | [x],_=>cellsOf x sz
 | _,_=>none
def iu(es len:Nat)(zero:List Value)(idx:List Nat)(args _cs:List Value):Option (List Value):=
 jU (fun i=>some (i*es,es)) (List.replicate len zero).flatten idx args
def rd(σ:Mem)(b o sz:Nat)(ag:Bool):Option Value:=
 match σ.get b with
 | some cJ=>sub cJ.cells o sz ag
 | none=>none
def aj(sz:Nat)(ag:Bool)(args:List Value)(K:Value→Mem→Prop)(σ:Mem):Prop:=
 match args with
 | [.pointer (some ⟨b,o,none⟩)]=>match rd σ b o sz ag with
  | some v=>K v σ
  | none=>False
 | _=>False
def wr(σ:Mem)(b o sz:Nat)(x:Value):Option Mem:=
 match σ.get b,cellsOf x sz with
 | some cJ,some c=>if cJ.rw=true∧o+sz≤cJ.cells.length∧c.all dV=true then some (σ.set b ⟨lay cJ.cells o c,true⟩)else none
 | _,_=>none
def ax(sz:Nat)(args:List Value)(K:Value→Mem→Prop)(σ:Mem):Prop:=
 match args with
 | [.pointer (some ⟨b,o,none⟩),x]=>match wr σ b o sz x with
  | some τ=>K undef τ
  | none=>False
 | _=>False
def tq(c:List Value)(v:Nat→Value)(K:Value→Mem→Prop)(σ:Mem):Prop:=
 ∀ id,σ.get id=none→K (v id) (σ.set id ⟨c,true⟩)
def tB(z:List Value)(args:List Value)(K:Value→Mem→Prop)(σ:Mem):Prop:=
 match args with
 | []=>tq z (fun id=>.pointer (some ⟨id,0,none⟩)) K σ
 | _=>False
def jD(sz:Nat)(args:List Value)(K:Value→Mem→Prop)(σ:Mem):Prop:=
 match args with
 | [x]=>match cellsOf x sz with
  | some c=>tq c (fun id=>.pointer (some ⟨id,0,none⟩)) K σ
  | none=>False
 | _=>False
def fW(es len:Nat)(zero:List Value)(idx:List Nat)(args:List Value)(K:Value→Mem→Prop)(σ:Mem):Prop:=
 match jU (fun i=>some (i*es,es)) (List.replicate len zero).flatten idx args with
 | some c=>tq c (fun id=>.slice (some ⟨id,0,none⟩) len es) K σ
 | none=>False
def kG(es bytes:Nat)(zero:List Value)(args:List Value)(K:Value→Mem→Prop)(σ:Mem):Prop:=
 match args with
 | [.int .i64 n,.int .i64 m]=>
  if n=m∧0≤n∧n≤1073741824∧bytes≤1024 then
   tq (List.replicate n.toNat zero).flatten (fun id=>.slice (some ⟨id,0,none⟩) n.toNat es) K σ
  else False
 | _=>False
def Ir(σ:Mem)(es:Nat):Value→Option (List Value)
 | .slice none 0 0=>some []
 | .slice (some ⟨b,o,none⟩) n _=>match σ.get b with
  | some cJ=>if o+n*es≤cJ.cells.length then some ((cJ.cells.drop o).take (n*es))else none
  | none=>none
 | _=>none
def KR:Value→Nat
 | .slice _ n _=>n
 | _=>0
def app(es n:Nat)(new:List Value)(s:Value)(K:Value→Mem→Prop)(σ:Mem):Prop:=
 match s with
 | .slice none 0 0=>
  if n=0 then K (.slice none 0 0) σ else
  if n≤1073741824 then tq new (fun id=>.slice (some ⟨id,0,none⟩) n es) K σ else False
 | .slice (some ⟨b,o,none⟩) len c=>match σ.get b with
  | some cJ=>
   if cJ.rw=true∧c=es∧0<es∧o+len*es=cJ.cells.length∧len+n≤1073741824 then
    tq (cJ.cells.drop o++new) (fun id=>.slice (some ⟨id,0,none⟩) (len+n) es) (fun v τ=>K v (τ.del b)) σ
   else False
  | none=>False
 | _=>False
def hAppend(es bytes:Nat)(args:List Value)(K:Value→Mem→Prop)(σ:Mem):Prop:=
 match args with
 | [s,x]=>match Ir σ es x with
  | some new=>if bytes≤1024∧new.all dV=true then app es (KR x) new s K σ else False
  | none=>False
 | _=>False
def cv(es bytes:Nat)(cs args:List Value)(K:Value→Mem→Prop)(σ:Mem):Prop:=
 match args with
 | [s,.slice (some ⟨_,0,some 0⟩) n _]=>if bytes≤1024∧cs.length=n*es∧cs.all dV=true then app es n cs s K σ else False
 | _=>False
inductive Sm where
 | f (g:List Value→Option Value)
 | lr (k:Nat) (g:List Value→List Value→Option Value)
 | lw (k:Nat) (fresh:Option Value) (g:List Value→List Value→Option (List Value))
 | h (c:vo) (r:Spec)
 | hl (c:vo) (k:Nat) (r:List Value→Spec)
structure St where
 t:Nat→Value
 l:Nat→List Value
def St.put(s:St)(d:Option Nat)(v:Value):St:=
 match d with
 | some d=>⟨fun i=>bif Nat.beq i d then v else s.t i,s.l⟩
 | none=>s
def St.uo(s:St)(k:Nat)(c:List Value):St:=⟨s.t,fun i=>bif Nat.beq i k then c else s.l i⟩
structure Cx where
 P:Program
 T:List (Nat×vo×Spec)
 loc:List (Nat×Nat)
 eqt:List (Nat×fY)
 n:Nat
 aL:List (Nat×List Nat×List Nat)
 alt:List (Nat×Nat×List Nat×List (List Nat×List Nat)):=[]
 inv:List (String×Nat×Nat):=[]
def mg(s:St):Operand→Value
 | .tmp t=>s.t t
 | .const v=>bif jt v then v else ar
 | _=>ar
def Cx.rT(C:Cx):Operand→Option Nat
 | .tmp t=>C.loc.lookup t
 | _=>none
def Cx.plain(C:Cx)(xs:List Operand):Bool:=xs.all fun x=>(C.rT x).isNone
def Cx.dl(C:Cx)(o:Oper):Option Nat:=o.dst.bind fun d=>C.loc.lookup d
def S_(C:Cx)(op:Op):Option (List Operand×(List Value→Option Value)):=
 match op with
 | .move x | .assign x=>some ([x],zx)
 | .pick c a b=>some ([c,a,b],aB)
 | .nilCheck x=>some ([x],ay)
 | .fieldAddr s x f=>match C.P.underlying s with
  | some (.struct fs)=>match fs[f]? with
   | some fd=>if tKnown C.P fd.type&&bQ C.P fd.type != 0 then some ([x],Jw fd.offset)else none
   | none=>none
  | _=>none
 | .field s x f=>match C.P.underlying s with
  | some (.struct fs)=>match fs[f]? with
   | some fd=>if tKnown C.P fd.type&&(jy C.P fd.type||bQ C.P fd.type == 1)then some ([x],b7 fd.offset (bQ C.P fd.type) (jy C.P fd.type))else none
   | none=>none
  | _=>none
 | .indexAddr t x i=>match C.P.underlying t with
  | some (.slice e)=>if tKnown C.P e then some ([x,i],dx (bQ C.P e))else none
  | some (.array n e)=>if tKnown C.P e&&Nat.ble 2 n then some ([x,i],RQ n (bQ C.P e))else none
  | _=>none
 | .index t x i=>match C.P.underlying t with
  | some (.array n e)=>if tKnown C.P e&&(jy C.P e||bQ C.P e == 1)then some ([x,i],Vz n (bQ C.P e) (jy C.P e))else none
  | _=>none
 | .extract x i=>some ([x],dH i)
 | .binOp op t x y _=>some ([x,y],aq op ((C.eqt.lookup t).getD .no))
 | .unOp op _ x=>some ([x],mV op)
 | .convert src dst x=>match C.P.underlying src,C.P.underlying dst with
  | some (.int _),some (.int k)=>some ([x],cZ k)
  | _,_=>none
 | .build t parts=>match C.P.underlying t,jx C.P t with
  | some (.struct fs),some z=>
   if fs.all fun f=>tKnown C.P f.type then some (parts.toList.map (·.2),aM (fs.toList.map fun f=>(f.offset,bQ C.P f.type)) z (parts.toList.map (·.1)))else none
  | some (.array n e),some z=>
   if tKnown C.P e then some (parts.toList.map (·.2),aM ((List.range n).map fun i=>(i*bQ C.P e,bQ C.P e)) z (parts.toList.map (·.1)))else none
  | _,_=>none
 | .slice t x lo hi none=>match C.P.underlying t with
  | some (.slice e)=>if tKnown C.P e then some ([x]++lo.toList++hi.toList,fSl (bQ C.P e) lo.isSome hi.isSome)else none
  | _=>none
 | .makeInterface t x=>match C.P.underlying t with
  | some (.interface _)|none=>none
  | _=>some ([x],E9 t)
 | .call c=>match c.callee,c.args.toList,c.argTypes.toList with
  | .builtin .len,[x],[t]=>(match C.P.underlying t with
   | some (.slice _)=>some ([x],jS)
   | _=>none)
  | .builtin .min,[x,y],_=>some ([x,y],Jv)
  | .builtin .max,[x,y],_=>some ([x,y],Lp)
  | _,_,_=>none
 | _=>none
def Ft:Op→Bool
 | .move _ | .nilCheck _ | .fieldAddr ..=>true
 | _=>false
def JY(P:Program):Op→Bool
 | .indexAddr t _ _=>match P.underlying t with
  | some (.array _ _)=>true
  | _=>false
 | _=>false
def yg(C:Cx)(o:Oper)(xs:List Operand)(l:Nat→Sm)(h:Sm):Option (List Operand×Sm):=
 match o.dst with
 | some d=>match C.loc.lookup d with
  | some k=>if(k == d&&C.plain xs)=true then some (xs,l k)else none
  | none=>if C.plain xs=true then some (xs,h)else none
 | none=>none
def Fk(C:Cx)(o:Oper)(t:TypeId)(p:Operand):Option (List Operand×Sm):=
 if(tKnown C.P t&&(jy C.P t||bQ C.P t == 1)&&(C.dl o).isNone)=true then
  match C.rT p with
  | some k=>some ([p],.lr k (ah (bQ C.P t) (jy C.P t)))
  | none=>some ([p],.h .read (aj (bQ C.P t) (jy C.P t)))
 else none
def BZ(C:Cx)(o:Oper)(t:TypeId)(p x:Operand):Option (List Operand×Sm):=
 if(tKnown C.P t&&C.plain [x]&&o.dst.isNone)=true then
  match C.rT p with
  | some k=>some ([p,x],.lw k none (aH (bQ C.P t)))
  | none=>some ([p,x],.h .write (ax (bQ C.P t)))
 else none
def yh(C:Cx)(o:Oper)(s x:Operand)(t u:TypeId):Option (List Operand×Sm):=
 match C.P.underlying t,C.P.underlying u with
 | some (.slice e),some (.slice _)=>match jx C.P e with
  | some _=>if(C.plain [s]&&(C.dl o).isNone&&o.dst.isSome&&tKnown C.P e)=true then
    match C.rT x with
    | some k=>some ([s,x],.hl .write k (cv (bQ C.P e) (C.P.bytesOf e)))
    | none=>some ([s,x],.h .write (hAppend (bQ C.P e) (C.P.bytesOf e)))
   else none
  | none=>none
 | _,_=>none
def Fo(C:Cx)(o:Oper)(g:Nat)(args:List Operand):Option (List Operand×Sm):=
 if(C.plain args&&(C.dl o).isNone&&o.dst.isSome)=true then
  match C.T.lookup g with
  | some (c,S)=>some (args,.h c S)
  | none=>none
 else none
def Jk(Xl:List (Nat×Spec)):Spec:=fun args K σ=>match args with
 | .iface t v::rest=>match Xl.lookup t with
  | some S=>S (v::rest) K σ
  | none=>False
 | _=>False
def EZ(C:Cx)(name:String):List (Nat×Spec):=C.inv.filterMap fun e=>if(e.1 == name)=true then(match C.T.lookup e.2.2 with
 | some x=>some (e.2.1,x.2)
 | none=>none)else none
def JX(C:Cx)(o:Oper)(recv:Operand)(name:String)(args:List Operand):Option (List Operand×Sm):=
 if(C.plain (recv::args)&&(C.dl o).isNone&&o.dst.isSome)=true then some (recv::args,.h .write (Jk (EZ C name)))else none
def So(C:Cx)(o:Oper):Option (List Operand×Sm):=
 match S_ C o.op with
 | some (xs,g)=>match C.dl o with
  | none=>if(C.plain xs&&o.dst.isSome)=true then some (xs,.f g)else none
  | some k=>match xs with
   | x::ys=>if(C.plain ys&&C.rT x == some k&&(Ft o.op||JY C.P o.op))=true then some (x::ys,.f g)else none
   | []=>none
 | none=>none
def comp(C:Cx)(o:Oper):Option (List Operand×Sm):=
 match o.op with
 | .alloc e=>match jx C.P e with
  | some z=>yg C o [] (fun k=>.lw k (some (au k)) (mU z)) (.h .new (tB z))
  | none=>none
 | .box e x=>if tKnown C.P e=true then yg C o [x] (fun k=>.lw k (some (au k)) (bO (bQ C.P e))) (.h .new (jD (bQ C.P e)))else none
 | .load t p=>Fk C o t p
 | .store t p x=>BZ C o t p x
 | .buildSlice t len parts=>match C.P.underlying t with
  | some (.slice e)=>match jx C.P e with
   | some z=>if Nat.ble (len*bQ C.P e) 16777216=true then
     yg C o (parts.toList.map (·.2)) (fun k=>.lw k (some (rR k len (bQ C.P e))) (iu (bQ C.P e) len z (parts.toList.map (·.1)))) (.h .new (fW (bQ C.P e) len z (parts.toList.map (·.1))))
    else none
   | none=>none
  | _=>none
 | .makeSlice t n m=>match C.P.underlying t with
  | some (.slice e)=>match jx C.P e with
   | some z=>if(C.plain [n,m]&&(C.dl o).isNone&&o.dst.isSome)=true then some ([n,m],.h .new (kG (bQ C.P e) (C.P.bytesOf e) z))else none
   | none=>none
  | _=>none
 | .call c=>match c.callee with
  | .builtin .append=>match c.args.toList,c.argTypes.toList with
   | [s,x],[t,u]=>yh C o s x t u
   | _,_=>none
  | .value (.func g)=>Fo C o g c.args.toList
  | .invoke recv name=>JX C o recv name c.args.toList
  | _=>So C o
 | _=>So C o
def xF(g:List Value→Option Value)(args:List Value)(K:Value→Prop):Prop:=
 match g args with
 | some v=>K v
 | none=>False
def xO(v:Option Value)(K:Value→Prop):Prop:=
 match v with
 | some v=>K v
 | none=>False
def xC(c:Option (List Value))(K:List Value→Prop):Prop:=
 match c with
 | some c=>K c
 | none=>False
def qg(C:Cx)(k:Nat)(s:St):Bool:=C.loc.all fun(t,k') => !(k' == k)||FX (s.t t)
def ij(C:Cx)(m:Sm)(d:Option Nat)(args:List Value)(s:St)(σ:Mem)(K:St→Mem→Prop):Prop:=
 match m with
 | .f g=>xF g args fun v=>K (s.put d v) σ
 | .lr k g=>xO (g args (s.l k)) fun v=>K (s.put d v) σ
 | .lw k (some v) g=>if qg C k s=true then xC (g args (s.l k)) fun c=>K ((s.uo k c).put d v) σ else False
 | .lw k none g=>xC (g args (s.l k)) fun c=>K ((s.uo k c).put d undef) σ
 | .h _ r=>r args (fun v τ=>K (s.put d v) τ) σ
 | .hl _ k r=>r (s.l k) args (fun v τ=>K (s.put d v) τ) σ
def vd(C:Cx)(o:Oper)(s:St)(σ:Mem)(K:St→Mem→Prop):Prop:=
 match comp C o with
 | some (xs,m)=>if(o.dst.all fun d=>Nat.blt d C.n)=true then ij C m o.dst (xs.map (mg s)) s σ K else False
 | none=>False
end Go.Fl
namespace Go.Fl
open Go
def mT(ops:Array Oper)(s:St)(j:Nat):Value:=
 match ops[j]? with
 | some o=>match o.dst with
  | some d=>s.t d
  | none=>undef
 | none=>undef
def XO(C:Cx)(ops:Array Oper)(j:Nat):Bool:=
 match ops[j]? with
 | some o=>(C.dl o).isNone
 | none=>true
def G6(ops:Array Oper)(s:St)(j:Nat)(b:Bool):St:=
 match ops[j]? with
 | some o=>s.put o.dst (.bool b)
 | none=>s
def aV(v:Value)(A B:Prop):Prop:=
 match v with
 | .bool true=>A
 | .bool false=>B
 | _=>False
def gO(C : Cx)(ops : Array Oper)(K : St → Mem → Prop) : List Oper → Nat → List (Nat×Option Bool) → St → Mem → Prop
  | [], _, _, s, σ => K s σ
  | o::rest, i, dec, s, σ =>
    match o.guard with
    | none => vd C o s σ fun s σ => gO C ops K rest (i + 1) dec s σ
    | some (j, w) =>
      if XO C ops j = true then
      match dec.lookup j with
      | some (some b) =>
        if(b == w) = true then vd C o s σ fun s σ => gO C ops K rest (i + 1) dec s σ
        else gO C ops K rest (i + 1) ((i, none)::dec) (s.put o.dst undef) σ
      | some none => gO C ops K rest (i + 1) ((i, none)::dec) (s.put o.dst undef) σ
      | none => if Nat.blt j i = true then
          aV (mT ops s j)
            (if w = true then vd C o (G6 ops s j true) σ fun s σ => gO C ops K rest (i + 1) ((j, some true)::dec) s σ
             else gO C ops K rest (i + 1) ((i, none)::(j, some true)::dec) ((G6 ops s j true).put o.dst undef) σ)
            (if w = true then gO C ops K rest (i + 1) ((i, none)::(j, some false)::dec) ((G6 ops s j false).put o.dst undef) σ
             else vd C o (G6 ops s j false) σ fun s σ => gO C ops K rest (i + 1) ((j, some false)::dec) s σ)
        else False
      else False
def Fs(ops:Array Oper)(is:List Nat):List Oper:=is.filterMap fun i=>ops[i]?
def p_(P:List Nat→Prop):List (List Nat×List Nat)→Prop
 | []=>False
 | [x]=>P x.2
 | x::y::l=>P x.2∧p_ P (y::l)
theorem xy{P:List Nat→Prop}:∀{l:List (List Nat×List Nat)},p_ P l→∀ x∈l,P x.2
 | [],h,_,_=>h.elim
 | [a],h,x,hx=>by rw[List.mem_singleton.1 hx];exact h
 | a::b::l,h,x,hx=>by
  rcases List.mem_cons.1 hx with rfl|hx
  ·exact h.1
  ·exact xy h.2 x hx
theorem tT{P Q:List Nat→Prop}(hPQ:∀ is,P is→Q is):∀{l:List (List Nat×List Nat)},p_ P l→p_ Q l
 | [],h=>h
 | [a],h=>hPQ _ h
 | a::b::l,h=>⟨hPQ _ h.1,tT hPQ h.2⟩
theorem CU{P:List Nat→Prop}:∀{l:List (List Nat×List Nat)},p_ P l→∃ is,P is
 | [],h=>h.elim
 | [a],h=>⟨_,h⟩
 | a::b::l,h=>⟨_,h.1⟩
inductive Ex where
 | normal
 | exit (id:Nat)
 | ret
def me:Code→Nat
 | .region id _ _=>Nat.succ id
 | .seq a b | .cond _ a b=>match me a with
  | 0=>me b
  | n+1=>n+1
 | .block _ c | .loop c | .scope c=>me c
 | _=>0
def eY(F:(List Value→List (List Value)→Mem→Prop)→List Value→List (List Value)→Mem→Prop)
  (ts:List Value) (ls:List (List Value)) (σ:Mem):Prop:=
 ∀ J:List Value→List (List Value)→Mem→Prop,
  (∀ ts ls σ,(∃ R:List Value→List (List Value)→Mem→Prop,(∀ ts ls σ,R ts ls σ→J ts ls σ)∧F R ts ls σ)→J ts ls σ)→J ts ls σ
theorem dA{F:(List Value→List (List Value)→Mem→Prop)→List Value→List (List Value)→Mem→Prop}{ts:List Value}{ls:List (List Value)}{σ:Mem}
  (h:F (fun ts ls σ=>eY F ts ls σ) ts ls σ):eY F ts ls σ:=
 fun J hJ=>hJ _ _ _ ⟨_,fun _ _ _ hR=>hR J hJ,h⟩
theorem sE{F:(List Value→List (List Value)→Mem→Prop)→List Value→List (List Value)→Mem→Prop}
  (I:Nat→List Value→List (List Value)→Mem→Prop) (hr:∀ n ts ls σ,I n ts ls σ→F (fun Q0 Rq σ'=>∃ m,m<n∧I m Q0 Rq σ') ts ls σ)
  {n:Nat} {ts:List Value} {ls:List (List Value)} {σ:Mem} (h0:I n ts ls σ):eY F ts ls σ:=by
 intro J hJ
 have key:∀ n ts ls σ,I n ts ls σ→J ts ls σ:=by
  intro n
  induction n using Nat.strongRecOn with
  | _ n ih=>
   intro ts ls σ hi
   exact hJ _ _ _ ⟨_,fun Q0 Rq σ' ⟨m,hm,xI⟩=>ih m hm _ _ _ xI,hr n ts ls σ hi⟩
 exact key _ _ _ _ h0
def CY(kt kl : List Nat)(ts : List Value)(ls : List (List Value)) : St :=
  ⟨fun i => bif kl.contains i then au i else bif kt.contains i then ts.getD (kt.idxOf i) ar else ar,
   fun i => bif kl.contains i then ls.getD (kl.idxOf i) []else []⟩
def IW(k:Nat):Value→Bool
 | .pointer (some ⟨b,0,some 0⟩)=>Nat.beq b k
 | _=>false
def nj(C:Cx)(kt kl:List Nat)(s:St)(σ:Mem)(R:List Value→List (List Value)→Mem→Prop):Prop:=
 if(kl.all (fun k=>IW k (s.t k)&&C.loc.lookup k == some k)&&kt.all (fun t=>(C.loc.lookup t).isNone&&Nat.blt t C.n))=true then R (kt.map s.t) (kl.map s.l) σ else False
def BC(C:Cx)(a b:Code):Option (List Nat×List Nat):=
 match me a with
 | 0=>none
 | _+1=>C.aL.lookup (Nat.add (me b) 1000000)
def a9(F:List Value→List (List Value)→Mem→Prop)(G:(List Value→List (List Value)→Mem→Prop)→Prop):Prop:=G F
def jW(C:Cx)(a b:Code)(B:St→Mem→Prop)(G:(St→Mem→Prop)→Prop):Prop:=
 match BC C a b with
 | some (kt,kl)=>a9 (fun ts ls σ=>B (CY kt kl ts ls) σ) fun J=>G fun s σ=>nj C kt kl s σ J
 | none=>G B
def sV(C:Cx)(a b:Code)(B:St→Mem→Prop)(s:St)(σ:Mem):Prop:=
 match BC C a b with
 | some (kt,kl)=>nj C kt kl s σ fun ts ls σ=>B (CY kt kl ts ls) σ
 | none=>B s σ
theorem UL{C:Cx}{a b:Code}{B:St→Mem→Prop}{G:(St→Mem→Prop)→Prop}:jW C a b B G=G (sV C a b B):=by
 unfold jW sV
 cases BC C a b<;>rfl
def Wp(C:Cx):Code→(Ex→St→Mem→Prop)→St→Mem→Prop
 | .skip,Q,s,σ=>Q .normal s σ
 | .label _,Q,s,σ=>Q .normal s σ
 | .seq a b,Q,s,σ=>jW C a b (fun s σ=>Wp C b Q s σ) fun B=>Wp C a (fun e s σ=>match e with
  | .normal=>B s σ
  | .exit i=>Q (.exit i) s σ
  | .ret=>Q .ret s σ) s σ
 | .cond c a b,Q,s,σ=>if(C.rT c).isNone=true then aV (mg s c) (Wp C a Q s σ) (Wp C b Q s σ)else False
 | .block id c,Q,s,σ=>Wp C c (fun e s σ=>match e with
  | .normal=>Q .normal s σ
  | .exit i=>bif Nat.beq i id then Q .normal s σ else Q (.exit i) s σ
  | .ret=>Q .ret s σ) s σ
 | .scope c,Q,s,σ=>Wp C c Q s σ
 | .loop c,Q,s,σ=>
  match C.aL.lookup (me c)with
  | some (kt,kl)=>nj C kt kl s σ (eY fun R ts ls σ=>Wp C c (fun e s σ=>match e with
   | .normal=>nj C kt kl s σ R
   | .exit i=>Q (.exit i) s σ
   | .ret=>Q .ret s σ) (CY kt kl ts ls) σ)
  | none=>False
 | .exit id,Q,s,σ=>Q (.exit id) s σ
 | .ret,Q,s,σ=>Q .ret s σ
 | .region id ops _,Q,s,σ=>match C.alt.lookup id with
  | none=>gO C ops (fun s σ=>Q .normal s σ) ops.toList 0 [] s σ
  | some (_,_,al)=>p_ (fun is=>gO C ops (fun s σ=>Q .normal s σ) (Fs ops is) 0 [] s σ) al
 | _,_,_,_=>False
theorem B3{C:Cx}{a b:Code}{Q:Ex→St→Mem→Prop}{s:St}{σ:Mem}:Wp C (.seq a b) Q s σ=Wp C a (fun e s σ=>match e with
  | .normal=>sV C a b (fun s σ=>Wp C b Q s σ) s σ
  | .exit i=>Q (.exit i) s σ
  | .ret=>Q .ret s σ) s σ:=UL
def pt(C:Cx):List ResultVar→St→(List Value→Prop)→Prop
 | [],_,K=>K []
 | .tmp t::rs,s,K=>pt C rs s fun vs=>K (s.t t::vs)
 | .cell a t::rs,s,K=>match C.loc.lookup a with
  | some k=>xO (ah (bQ C.P t) (jy C.P t) [s.t a] (s.l k)) fun v=>pt C rs s fun vs=>K (v::vs)
  | none=>False
def Cv:List Value→Value
 | [v]=>v
 | vs=>.tuple vs.toArray
def FnW(C:Cx)(fn:Func)(c:Code)(args:List Value)(K:Value→Mem→Prop)(σ:Mem):Prop:=
 Wp C c (fun e s σ'=>match e with
  | .exit _=>False
  | .normal=>pt C fn.results.toList s fun vs=>K (Cv vs) σ'
  | .ret=>pt C fn.results.toList s fun vs=>K (Cv vs) σ') ⟨fun i=>args.getD i undef,fun _=>[]⟩ σ
def dq(all:Bool){α:Type}(W:(α→Mem→Prop)→Mem→Prop):Prop:=
 ∀ σ,(∀ K τ,(all=false→τ=σ)→¬ W K τ)∨∃ r,∀ K τ,(all=false→τ=σ)→(W K τ ↔ K r τ)
def DI{α:Type}(W:(α→Mem→Prop)→Mem→Prop):Prop:=
 (∀ K τ,¬ W K τ)∨∃(c:List Value) (v:Nat→α),∀ K τ,W K τ ↔ ∀ id,τ.get id=none→K (v id) (τ.set id ⟨c,true⟩)
structure Good(c:vo)(S:Spec):Prop where
 mono:∀ args K K' σ,(∀ v τ,K v τ→K' v τ)→S args K σ→S args K' σ
 live:∀ args K σ,S args K σ→∃ v τ,K v τ
 none:c=.none→∀ args,dq true (S args)
 read:c=.read→∀ args,dq false (S args)
 new:c=.new→∀ args,DI (S args)
theorem Mem.fresh(σ:Mem):∃ i,σ.get i=none:=let ⟨N,h⟩:=σ.fin;⟨N,h N (Nat.le_refl N)⟩
theorem G7(sz:Nat)(ag:Bool):Good .read (aj sz ag):=by
 constructor
 ·intro args K K' σ h hs
  unfold aj at *
  split at hs
  rotate_left
  ·exact hs.elim
  split at hs
  ·exact h _ _ hs
  ·exact hs.elim
 ·intro args K σ hs
  unfold aj at hs
  split at hs
  rotate_left
  ·exact hs.elim
  split at hs
  ·exact⟨_,_,hs⟩
  ·exact hs.elim
 ·intro h;cases h
 ·intro _ args σ
  unfold aj
  split
  ·rename_i b o
   cases hr:rd σ b o sz ag with
   | none=>exact .inl fun K τ hτ h=>by cases hτ rfl;rw[hr]at h;exact h
   | some v=>exact .inr ⟨v,fun K τ hτ=>by cases hτ rfl;rw[hr]⟩
  ·exact .inl fun K τ _ h=>h
 ·intro h;cases h
theorem E5(sz:Nat):Good .write (ax sz):=by
 constructor
 ·intro args K K' σ h hs
  unfold ax at *
  split at hs
  rotate_left
  ·exact hs.elim
  split at hs
  ·exact h _ _ hs
  ·exact hs.elim
 ·intro args K σ hs
  unfold ax at hs
  split at hs
  rotate_left
  ·exact hs.elim
  split at hs
  ·exact⟨_,_,hs⟩
  ·exact hs.elim
 ·intro h;cases h
 ·intro h;cases h
 ·intro h;cases h
theorem kf{c:List Value}{v:Nat→Value}{K K':Value→Mem→Prop}{σ:Mem}(h:∀ v τ,K v τ→K' v τ)
  (hs:tq c v K σ):tq c v K' σ:=fun id dQ=>h _ _ (hs id dQ)
theorem kg{c:List Value}{v:Nat→Value}{K:Value→Mem→Prop}{σ:Mem}(hs:tq c v K σ):∃ v τ,K v τ:=
 let ⟨i,hi⟩:=σ.fresh;⟨_,_,hs i hi⟩
theorem E7(z:List Value):Good .new (tB z):=by
 constructor
 ·intro args K K' σ h hs
  unfold tB at *
  split at hs
  ·exact kf h hs
  ·exact hs.elim
 ·intro args K σ hs
  unfold tB at hs
  split at hs
  ·exact kg hs
  ·exact hs.elim
 ·intro h;cases h
 ·intro h;cases h
 ·intro _ args
  unfold tB
  split
  ·exact .inr ⟨_,_,fun K τ=>Iff.rfl⟩
  ·exact .inl fun K τ h=>h
theorem Jo(sz:Nat):Good .new (jD sz):=by
 constructor
 ·intro args K K' σ h hs
  unfold jD at *
  split at hs
  rotate_left
  ·exact hs.elim
  split at hs
  ·exact kf h hs
  ·exact hs.elim
 ·intro args K σ hs
  unfold jD at hs
  split at hs
  rotate_left
  ·exact hs.elim
  split at hs
  ·exact kg hs
  ·exact hs.elim
 ·intro h;cases h
 ·intro h;cases h
 ·intro _ args
  unfold jD
  split
  ·split
   ·exact .inr ⟨_,_,fun K τ=>Iff.rfl⟩
   ·exact .inl fun K τ h=>h
  ·exact .inl fun K τ h=>h
theorem C9(es len:Nat)(z:List Value)(idx:List Nat):Good .new (fW es len z idx):=by
 constructor
 ·intro args K K' σ h hs
  unfold fW at *
  split at hs
  ·exact kf h hs
  ·exact hs.elim
 ·intro args K σ hs
  unfold fW at hs
  split at hs
  ·exact kg hs
  ·exact hs.elim
 ·intro h;cases h
 ·intro h;cases h
 ·intro _ args
  unfold fW
  split
  ·exact .inr ⟨_,_,fun K τ=>Iff.rfl⟩
  ·exact .inl fun K τ h=>h
theorem E6(es b:Nat)(z:List Value):Good .new (kG es b z):=by
 constructor
 ·intro args K K' σ h hs
  unfold kG at *
  split at hs
  rotate_left
  ·exact hs.elim
  split at hs
  rotate_left
  ·exact hs.elim
  rename_i hn
  rw[af hn]
  exact kf h hs
 ·intro args K σ hs
  unfold kG at hs
  split at hs
  rotate_left
  ·exact hs.elim
  split at hs
  ·exact kg hs
  ·exact hs.elim
 ·intro h;cases h
 ·intro h;cases h
 ·intro _ args
  unfold kG
  split
  ·split
   ·exact .inr ⟨_,_,fun K τ=>Iff.rfl⟩
   ·exact .inl fun K τ h=>h
  ·exact .inl fun K τ h=>h
theorem DA{es n:Nat}{new:List Value}{s:Value}{K K':Value→Mem→Prop}{σ:Mem}(h:∀ v τ,K v τ→K' v τ)
  (hs:app es n new s K σ):app es n new s K' σ:=by
 unfold app at *
 split at hs
 ·split at hs
  ·rename_i hn
   rw[af hn]
   exact h _ _ hs
  ·rename_i hn
   rw[ae hn]
   split at hs
   ·rename_i hn
    rw[af hn]
    exact kf h hs
   ·exact hs.elim
 ·split at hs
  ·split at hs
   ·rename_i hn
    rw[af hn]
    exact kf (fun v τ hk=>h _ _ hk) hs
   ·exact hs.elim
  ·exact hs.elim
 ·exact hs.elim
theorem DB{es n:Nat}{new:List Value}{s:Value}{K:Value→Mem→Prop}{σ:Mem}(hs:app es n new s K σ):∃ v τ,K v τ:=by
 unfold app at hs
 split at hs
 ·split at hs
  ·exact⟨_,_,hs⟩
  ·split at hs
   ·exact kg hs
   ·exact hs.elim
 ·split at hs
  ·split at hs
   ·obtain⟨v,τ,h⟩:=kg hs
    exact⟨_,_,h⟩
   ·exact hs.elim
  ·exact hs.elim
 ·exact hs.elim
theorem C'(es b:Nat):Good .write (hAppend es b):=by
 constructor
 ·intro args K K' σ h hs
  unfold hAppend at *
  split at hs
  rotate_left
  ·exact hs.elim
  split at hs
  rotate_left
  ·exact hs.elim
  split at hs
  rotate_left
  ·exact hs.elim
  rename_i hn
  rw[af hn]
  exact DA h hs
 ·intro args K σ hs
  unfold hAppend at hs
  split at hs
  rotate_left
  ·exact hs.elim
  split at hs
  rotate_left
  ·exact hs.elim
  split at hs
  ·exact DB hs
  ·exact hs.elim
 ·intro h;cases h
 ·intro h;cases h
 ·intro h;cases h
theorem BG(es b:Nat)(cs:List Value):Good .write (cv es b cs):=by
 constructor
 ·intro args K K' σ h hs
  unfold cv at *
  split at hs
  rotate_left
  ·exact hs.elim
  split at hs
  rotate_left
  ·exact hs.elim
  rename_i hn
  rw[af hn]
  exact DA h hs
 ·intro args K σ hs
  unfold cv at hs
  split at hs
  rotate_left
  ·exact hs.elim
  split at hs
  ·exact DB hs
  ·exact hs.elim
 ·intro h;cases h
 ·intro h;cases h
 ·intro h;cases h
def Cx.bP(C:Cx):Prop:=∀ g c S,C.T.lookup g=some (c,S)→Good c S
def Sm.bP:Sm→Prop
 | .h c r=>Good c r
 | .hl c _ r=>∀ cs,Good c (r cs)
 | _=>True
theorem W8{C:Cx}{o:Oper}{p:List Operand×Sm}(h:So C o=some p):∃ g,p.2=.f g∧S_ C o.op=some (p.1,g):=by
 unfold So at h
 split at h
 ·rename_i xs g hf
  split at h
  ·split at h
   ·cases h;exact⟨g,rfl,hf⟩
   ·cases h
  ·split at h
   ·split at h
    ·cases h;exact⟨g,rfl,hf⟩
    ·cases h
   ·cases h
 ·cases h
theorem qm{C:Cx}{o:Oper}{xs:List Operand}{l:Nat→Sm}{hh:Sm}{p:List Operand×Sm}
  (h:yg C o xs l hh=some p) (hl:∀ k,(l k).bP) (h':hh.bP):p.2.bP:=by
 unfold yg at h
 split at h
 ·split at h
  ·split at h
   ·cases h;exact hl _
   ·cases h
  ·split at h
   ·cases h;exact h'
   ·cases h
 ·cases h
theorem xE{C:Cx}{name:String}{t:Nat}{S:Spec}(h:(EZ C name).lookup t=some S):∃ g c,(name,t,g)∈C.inv∧C.T.lookup g=some (c,S):=by
 unfold EZ at h
 generalize C.inv=L at h ⊢
 induction L with
 | nil=>cases h
 | cons e l ih=>
  obtain⟨n,t',g⟩:=e
  simp only[List.filterMap_cons]at h
  split at h
  ·obtain⟨g',c,h1,h2⟩:=ih h
   exact⟨g',c,List.mem_cons_of_mem _ h1,h2⟩
  ·rename_i x hx
   split at hx
   ·rename_i hn
    split at hx
    ·rename_i y hy
     cases hx
     simp only[List.lookup_cons]at h
     split at h
     ·rename_i hb
      cases h
      have e1:t=t':=by simpa using hb
      have e2:n=name:=by simpa using hn
      subst e1;subst e2
      exact⟨g,y.1,List.mem_cons_self ..,by rw[hy]⟩
     ·obtain⟨g',c,h1,h2⟩:=ih h
      exact⟨g',c,List.mem_cons_of_mem _ h1,h2⟩
    ·cases hx
   ·cases hx
theorem Jn{Xl:List (Nat×Spec)}(h:∀ t S,Xl.lookup t=some S→∃ c,Good c S):Good .write (Jk Xl):=by
 refine⟨fun args K K' σ hk hs=>?_,fun args K σ hs=>?_,(fun h=>by cases h),(fun h=>by cases h),(fun h=>by cases h)⟩
 ·unfold Jk at hs ⊢
  split at hs
  ·split at hs
   ·rename_i S hS
    obtain⟨c,hg⟩:=h _ _ hS
    exact hg.mono _ _ _ _ hk hs
   ·exact hs
  ·exact hs
 ·unfold Jk at hs
  split at hs
  ·split at hs
   ·rename_i S hS
    obtain⟨c,hg⟩:=h _ _ hS
    exact hg.live _ _ _ hs
   ·exact hs.elim
  ·exact hs.elim
theorem fp{C:Cx}(hC:C.bP){o:Oper}{p:List Operand×Sm}(h:comp C o=some p):p.2.bP:=by
 have hF:∀{p:List Operand×Sm},So C o=some p→p.2.bP:=by
  intro p h
  obtain⟨g,hg,_⟩:=W8 h
  rw[hg];trivial
 unfold comp at h
 split at h
 ·split at h
  ·exact qm h (fun _=>trivial) (E7 _)
  ·cases h
 ·split at h
  ·exact qm h (fun _=>trivial) (Jo _)
  ·cases h
 ·unfold Fk at h
  split at h
  ·split at h
   ·cases h;trivial
   ·cases h;exact G7 _ _
  ·cases h
 ·unfold BZ at h
  split at h
  ·split at h
   ·cases h;trivial
   ·cases h;exact E5 _
  ·cases h
 ·split at h
  ·split at h
   ·split at h
    ·exact qm h (fun _=>trivial) (C9 _ _ _ _)
    ·cases h
   ·cases h
  ·cases h
 ·split at h
  ·split at h
   ·split at h
    ·cases h;exact E6 _ _ _
    ·cases h
   ·cases h
  ·cases h
 ·split at h
  ·split at h
   ·unfold yh at h
    split at h
    ·split at h
     ·split at h
      ·split at h
       ·cases h;exact fun cs=>BG _ _ cs
       ·cases h;exact C' _ _
      ·cases h
     ·cases h
    ·cases h
   ·cases h
  ·unfold Fo at h
   split at h
   ·split at h
    ·rename_i c S hl
     cases h;exact hC _ _ _ hl
    ·cases h
   ·cases h
  ·unfold JX at h
   split at h
   ·cases h
    exact Jn fun t S hS=>let ⟨g,c,_,hl⟩:=xE hS;⟨c,hC _ _ _ hl⟩
   ·cases h
  ·exact hF h
 ·exact hF h
theorem uD{g:List Value→Option Value}{args:List Value}{K K':Value→Prop}(h:∀ v,K v→K' v)(hs:xF g args K):xF g args K':=by
 unfold xF at *
 split at hs
 ·exact h _ hs
 ·exact hs.elim
theorem uE{g:List Value→Option Value}{args:List Value}{K:Value→Prop}(hs:xF g args K):∃ v,g args=some v∧K v:=by
 unfold xF at hs
 split at hs
 ·exact⟨_,by assumption,hs⟩
 ·exact hs.elim
theorem qD{v:Option Value}{K K':Value→Prop}(h:∀ v,K v→K' v)(hs:xO v K):xO v K':=by
 cases v with
 | none=>exact hs
 | some v=>exact h _ hs
theorem kZ{c:Option (List Value)}{K K':List Value→Prop}(h:∀ v,K v→K' v)(hs:xC c K):xC c K':=by
 cases c with
 | none=>exact hs
 | some c=>exact h _ hs
theorem qE{v:Option Value}{K:Value→Prop}(hs:xO v K):∃ x,v=some x∧K x:=by
 cases v with
 | none=>exact hs.elim
 | some v=>exact⟨v,rfl,hs⟩
theorem mE{c:Option (List Value)}{K:List Value→Prop}(hs:xC c K):∃ x,c=some x∧K x:=by
 cases c with
 | none=>exact hs.elim
 | some c=>exact⟨c,rfl,hs⟩
theorem Ey{C:Cx}{m:Sm}(hm:m.bP){d:Option Nat}{args:List Value}{s:St}{σ:Mem}{K K':St→Mem→Prop}
  (h:∀ s τ,K s τ→K' s τ) (hs:ij C m d args s σ K):ij C m d args s σ K':=by
 cases m with
 | f g=>exact uD (fun v hk=>h _ _ hk) hs
 | lr k g=>exact qD (fun v hk=>h _ _ hk) hs
 | lw k fr g=>
  cases fr with
  | none=>exact kZ (fun v hk=>h _ _ hk) hs
  | some v=>
   simp only[ij]at *
   split at hs
   ·rename_i hf;rw[af hf];exact kZ (fun v hk=>h _ _ hk) hs
   ·exact hs.elim
 | h c r=>exact Good.mono hm _ _ _ _ (fun v τ hk=>h _ _ hk) hs
 | hl c k r=>exact Good.mono (hm _) _ _ _ _ (fun v τ hk=>h _ _ hk) hs
theorem Ez{C:Cx}{m:Sm}(hm:m.bP){d:Option Nat}{args:List Value}{s:St}{σ:Mem}{K:St→Mem→Prop}
  (hs:ij C m d args s σ K):∃ s τ,K s τ:=by
 cases m with
 | f g=>obtain⟨v,_,hv⟩:=uE hs;exact⟨_,_,hv⟩
 | lr k g=>obtain⟨v,_,hv⟩:=qE hs;exact⟨_,_,hv⟩
 | lw k fr g=>
  cases fr with
  | none=>obtain⟨v,_,hv⟩:=mE hs;exact⟨_,_,hv⟩
  | some v=>
   simp only[ij]at hs
   split at hs
   ·obtain⟨v,_,hv⟩:=mE hs;exact⟨_,_,hv⟩
   ·exact hs.elim
 | h c r=>obtain⟨v,τ,hv⟩:=Good.live hm _ _ _ hs;exact⟨_,_,hv⟩
 | hl c k r=>obtain⟨v,τ,hv⟩:=Good.live (hm _) _ _ _ hs;exact⟨_,_,hv⟩
theorem lY{C:Cx}(hC:C.bP){o:Oper}{s:St}{σ:Mem}{K K':St→Mem→Prop}(h:∀ s τ,K s τ→K' s τ)
  (hs:vd C o s σ K):vd C o s σ K':=by
 unfold vd at *
 split at hs
 ·rename_i xs m hc
  split at hs
  rotate_left
  ·exact hs.elim
  rename_i hd
  rw[af hd]
  exact Ey (fp hC hc) h hs
 ·exact hs.elim
theorem IM{C:Cx}(hC:C.bP){o:Oper}{s:St}{σ:Mem}{K:St→Mem→Prop}(hs:vd C o s σ K):∃ s τ,K s τ:=by
 unfold vd at hs
 split at hs
 ·rename_i xs m hc
  split at hs
  rotate_left
  ·exact hs.elim
  exact Ez (fp hC hc) hs
 ·exact hs.elim
theorem Cg{v:Value}{A B A' B':Prop}(hA:A→A')(hB:B→B')(h:aV v A B):aV v A' B':=by
 unfold aV at *
 split at h<;>first|exact hA h|exact hB h|exact h.elim
theorem Ci{v:Value}{A B:Prop}(h:aV v A B):A∨B:=by
 unfold aV at h
 split at h<;>first|exact .inl h|exact .inr h|exact h.elim
theorem za{C:Cx}(hC:C.bP){ops:Array Oper}{K K':St→Mem→Prop}(h:∀ s τ,K s τ→K' s τ) :
  ∀(l:List Oper) (i:Nat) (dec:List (Nat×Option Bool)) (s:St) (σ:Mem),gO C ops K l i dec s σ→gO C ops K' l i dec s σ:=by
 intro l
 induction l with
 | nil=>intro i dec s σ hs;exact h _ _ hs
 | cons o rest ih=>
  intro i dec s σ hs
  unfold gO at hs ⊢
  split at hs
  ·exact lY hC (fun s τ=>ih _ _ s τ) hs
  ·split at hs
   rotate_left
   ·exact hs.elim
   rename_i hg
   rw[af hg]
   split at hs
   ·split at hs
    ·rename_i hb;rw[af hb];exact lY hC (fun s τ=>ih _ _ s τ) hs
    ·rename_i hb;rw[ae hb];exact ih _ _ _ _ hs
   ·exact ih _ _ _ _ hs
   ·split at hs
    rotate_left
    ·exact hs.elim
    rename_i hb
    rw[af hb]
    refine Cg (fun h=>?_) (fun h=>?_) hs
    ·split at h
     ·rename_i hw;rw[af hw];exact lY hC (fun s τ=>ih _ _ s τ) h
     ·rename_i hw;rw[ae hw];exact ih _ _ _ _ h
    ·split at h
     ·rename_i hw;rw[af hw];exact ih _ _ _ _ h
     ·rename_i hw;rw[ae hw];exact lY hC (fun s τ=>ih _ _ s τ) h
theorem zb{C:Cx}(hC:C.bP){ops:Array Oper}{K:St→Mem→Prop} :
  ∀(l:List Oper) (i:Nat) (dec:List (Nat×Option Bool)) (s:St) (σ:Mem),gO C ops K l i dec s σ→∃ s τ,K s τ:=by
 intro l
 induction l with
 | nil=>intro i dec s σ hs;exact⟨_,_,hs⟩
 | cons o rest ih=>
  intro i dec s σ hs
  have step:∀{dec:List (Nat×Option Bool)} {s:St} {σ:Mem},vd C o s σ (fun s σ=>gO C ops K rest (i+1) dec s σ)→∃ s τ,K s τ:=by
   intro dec s σ h
   obtain⟨s',τ,h'⟩:=IM hC h
   exact ih _ _ _ _ h'
  unfold gO at hs
  split at hs
  ·exact step hs
  ·split at hs
   rotate_left
   ·exact hs.elim
   split at hs
   ·split at hs
    ·exact step hs
    ·exact ih _ _ _ _ hs
   ·exact ih _ _ _ _ hs
   ·split at hs
    rotate_left
    ·exact hs.elim
    rcases Ci hs with h|h
    ·split at h
     ·exact step h
     ·exact ih _ _ _ _ h
    ·split at h
     ·exact ih _ _ _ _ h
     ·exact step h
theorem yf{C:Cx}{kt kl:List Nat}{s:St}{σ:Mem}{R R':List Value→List (List Value)→Mem→Prop}(h:∀ ts ls σ,R ts ls σ→R' ts ls σ)
  (hs:nj C kt kl s σ R):nj C kt kl s σ R':=by
 unfold nj at *
 split at hs
 rotate_left
 ·exact hs.elim
 rename_i hb
 rw[af hb]
 exact h _ _ _ hs
theorem Gz{C:Cx}{a b:Code}{B B':St→Mem→Prop}(h:∀ s σ,B s σ→B' s σ){s:St}{σ:Mem}(hs:sV C a b B s σ):sV C a b B' s σ:=by
 unfold sV at *
 split at hs
 ·exact yf (fun _ _ _ q=>h _ _ q) hs
 ·exact h _ _ hs
theorem qk{C:Cx}{kt kl:List Nat}{s:St}{σ:Mem}{R:List Value→List (List Value)→Mem→Prop}
  (hs:nj C kt kl s σ R):∃ ts ls σ,R ts ls σ:=by
 unfold nj at hs
 split at hs
 ·exact⟨_,_,_,hs⟩
 ·exact hs.elim
theorem GA{C:Cx}{a b:Code}{B:St→Mem→Prop}{s:St}{σ:Mem}(hs:sV C a b B s σ):∃ s σ,B s σ:=by
 unfold sV at *
 split at hs
 ·obtain⟨ts,ls,σ,h⟩:=qk hs;exact⟨_,_,h⟩
 ·exact⟨_,_,hs⟩
theorem DV{F F':(List Value→List (List Value)→Mem→Prop)→List Value→List (List Value)→Mem→Prop}
  (h:∀ R ts ls σ,F R ts ls σ→F' R ts ls σ) {ts:List Value} {ls:List (List Value)} {σ:Mem} (hs:eY F ts ls σ):eY F' ts ls σ:=
 fun J hJ=>hs J fun ts ls σ ⟨R,hR,hF⟩=>hJ ts ls σ ⟨R,hR,h _ _ _ _ hF⟩
theorem LX{C:Cx}(hC:C.bP)(c:Code):∀{Q Q':Ex→St→Mem→Prop},(∀ e s τ,Q e s τ→Q' e s τ)→∀ s σ,Wp C c Q s σ→Wp C c Q' s σ:=by
 induction c with
 | skip=>intro Q Q' h s σ hs;exact h _ _ _ hs
 | label l=>intro Q Q' h s σ hs;exact h _ _ _ hs
 | exit l=>intro Q Q' h s σ hs;exact h _ _ _ hs
 | ret=>intro Q Q' h s σ hs;exact h _ _ _ hs
 | seq a b IY IX=>
  intro Q Q' h s σ hs
  rw[B3]at hs ⊢
  refine IY (fun e s τ hq=>?_) s σ hs
  cases e with
  | normal=>exact Gz (fun s σ hq=>IX h _ _ hq) hq
  | exit i=>exact h _ _ _ hq
  | ret=>exact h _ _ _ hq
 | cond c a b IY IX=>
  intro Q Q' h s σ hs
  unfold Wp at hs ⊢
  split at hs
  rotate_left
  ·exact hs.elim
  rename_i hl
  rw[af hl]
  exact Cg (IY h _ _) (IX h _ _) hs
 | block id c ih=>
  intro Q Q' h s σ hs
  refine ih (fun e s τ hq=>?_) s σ hs
  cases e with
  | normal=>exact h _ _ _ hq
  | exit i=>
   dsimp only at *
   cases hb:Nat.beq i id
   ·rw[hb]at hq;exact h _ _ _ hq
   ·rw[hb]at hq;exact h _ _ _ hq
  | ret=>exact h _ _ _ hq
 | scope c ih=>intro Q Q' h s σ hs;exact ih h s σ hs
 | loop c ih=>
  intro Q Q' h s σ hs
  unfold Wp at hs ⊢
  split at hs
  rotate_left
  ·exact hs.elim
  rename_i kt kl hk
  refine yf (fun ts ls σ hx=>DV (fun R ts ls σ hF=>?_) hx) hs
  refine ih (fun e s τ hq=>?_) _ _ hF
  cases e with
  | normal=>exact hq
  | exit i=>exact h _ _ _ hq
  | ret=>exact h _ _ _ hq
 | region id ops draw=>
  intro Q Q' h s σ hs
  cases e:C.alt.lookup id with
  | none=>simp only[Wp,e]at hs ⊢;exact za hC (fun s τ=>h _ s τ) _ _ _ _ _ hs
  | some x=>obtain⟨a,b,al⟩:=x;simp only[Wp,e]at hs ⊢;exact tT (fun is hi=>za hC (fun s τ=>h _ s τ) _ _ _ _ _ hi) hs
 | rangeFunc f ps a b _ _=>intro Q Q' h s σ hs;exact hs.elim
 | goto l=>intro Q Q' h s σ hs;exact hs.elim
 | refuse w=>intro Q Q' h s σ hs;exact hs.elim
theorem LY{C:Cx}(hC:C.bP)(c:Code):∀{Q:Ex→St→Mem→Prop} (s:St) (σ:Mem),Wp C c Q s σ→∃ e s τ,Q e s τ:=by
 induction c with
 | skip=>intro Q s σ hs;exact⟨_,_,_,hs⟩
 | label l=>intro Q s σ hs;exact⟨_,_,_,hs⟩
 | exit l=>intro Q s σ hs;exact⟨_,_,_,hs⟩
 | ret=>intro Q s σ hs;exact⟨_,_,_,hs⟩
 | seq a b IY IX=>
  intro Q s σ hs
  rw[B3]at hs
  obtain⟨e,s',τ,hq⟩:=IY s σ hs
  cases e with
  | normal=>obtain⟨s2,τ2,hq2⟩:=GA hq;exact IX _ _ hq2
  | exit i=>exact⟨_,_,_,hq⟩
  | ret=>exact⟨_,_,_,hq⟩
 | cond c a b IY IX=>
  intro Q s σ hs
  unfold Wp at hs
  split at hs
  rotate_left
  ·exact hs.elim
  rcases Ci hs with h|h
  ·exact IY _ _ h
  ·exact IX _ _ h
 | block id c ih=>
  intro Q s σ hs
  obtain⟨e,s',τ,hq⟩:=ih s σ hs
  cases e with
  | normal=>exact⟨_,_,_,hq⟩
  | exit i=>
   dsimp only at hq
   cases hb:Nat.beq i id
   ·rw[hb]at hq;exact⟨_,_,_,hq⟩
   ·rw[hb]at hq;exact⟨_,_,_,hq⟩
  | ret=>exact⟨_,_,_,hq⟩
 | scope c ih=>intro Q s σ hs;exact ih s σ hs
 | loop c ih=>
  intro Q s σ hs
  unfold Wp at hs
  split at hs
  rotate_left
  ·exact hs.elim
  rename_i kt kl hk
  obtain⟨ts,ls,σ',hl⟩:=qk hs
  refine hl (fun _ _ _=>∃ e s τ,Q e s τ) fun ts ls σ ⟨R,hR,hF⟩=>?_
  obtain⟨e,s',τ,hq⟩:=ih _ _ hF
  cases e with
  | normal=>
   obtain⟨Q0,Rq,σ',h⟩:=qk hq
   exact hR _ _ _ h
  | exit i=>exact⟨_,_,_,hq⟩
  | ret=>exact⟨_,_,_,hq⟩
 | region id ops draw=>
  intro Q s σ hs
  cases e:C.alt.lookup id with
  | none=>simp only[Wp,e]at hs;obtain⟨s',τ,h⟩:=zb hC _ _ _ _ _ hs;exact⟨_,_,_,h⟩
  | some x=>obtain⟨a,b,al⟩:=x;simp only[Wp,e]at hs;obtain⟨is,hi⟩:=CU hs;obtain⟨s',τ,h⟩:=zb hC _ _ _ _ _ hi;exact⟨_,_,_,h⟩
 | rangeFunc f ps a b _ _=>intro Q s σ hs;exact hs.elim
 | goto l=>intro Q s σ hs;exact hs.elim
 | refuse w=>intro Q s σ hs;exact hs.elim
def na(all:Bool):vo→Bool
 | .none=>true
 | .read => !all
 | .new=>false
 | .write=>false
def It:Sm→vo
 | .h c _ | .hl c _ _=>c
 | _=>.none
theorem dq.O6{all:Bool}{α:Type}{W:(α→Mem→Prop)→Mem→Prop}(h:dq true W):dq all W:=by
 intro σ
 rcases h σ with h|⟨r,h⟩
 ·exact .inl fun K τ _=>h K τ (fun h=>by cases h)
 ·exact .inr ⟨r,fun K τ _=>h K τ (fun h=>by cases h)⟩
theorem dq.vh{c:vo}{S:Spec}(hg:Good c S){all:Bool}(hc:na all c=true)(args:List Value):dq all (S args):=by
 cases c with
 | none=>exact(hg.none rfl args).O6
 | read=>
  have:all=false:=by simpa[na]using hc
  subst this
  exact hg.read rfl args
 | new=>cases hc
 | write=>cases hc
theorem dq.bind{all:Bool}{α β:Type}{W:(α→Mem→Prop)→Mem→Prop}{W':α→(β→Mem→Prop)→Mem→Prop}(h:dq all W)(h':∀ r,dq all (W' r)) :
  dq all (fun K σ=>W (fun r σ=>W' r K σ) σ):=by
 intro σ
 rcases h σ with h|⟨r,h⟩
 ·exact .inl fun K τ hτ=>h _ τ hτ
 ·rcases h' r σ with h'|⟨r',h'⟩
  ·exact .inl fun K τ hτ hw=>h' K τ hτ ((h _ τ hτ).1 hw)
  ·exact .inr ⟨r',fun K τ hτ=>(h _ τ hτ).trans (h' K τ hτ)⟩
theorem dq.ret{all:Bool}{α:Type}(r:α):dq all (fun(K:α→Mem→Prop) σ=>K r σ):=fun σ=>.inr ⟨r,fun K τ _=>Iff.rfl⟩
theorem dq.no{all:Bool}{α:Type}:dq all (fun(_:α→Mem→Prop) _=>False):=fun σ=>.inl fun K τ _ h=>h
theorem dq.map{all:Bool}{α β:Type}{W:(α→Mem→Prop)→Mem→Prop}(h:dq all W)(f:α→β):dq all (fun(K:β→Mem→Prop) σ=>W (fun r σ=>K (f r) σ) σ):=
 h.bind (W':=fun r K σ=>K (f r) σ) fun r=>dq.ret (f r)
theorem HV{all:Bool}{α:Type}(v:Option Value)(f:Value→α):dq all (fun(K:α→Mem→Prop) σ=>xO v fun v=>K (f v) σ):=by
 cases v with
 | none=>exact dq.no
 | some v=>exact dq.ret _
theorem zK{all:Bool}{α:Type}(v:Option (List Value))(f:List Value→α):dq all (fun(K:α→Mem→Prop) σ=>xC v fun v=>K (f v) σ):=by
 cases v with
 | none=>exact dq.no
 | some v=>exact dq.ret _
theorem GS{C:Cx}{all:Bool}{m:Sm}(hm:m.bP)(hc:na all (It m)=true)(d:Option Nat)(args:List Value)(s:St) :
  dq all (fun K σ=>ij C m d args s σ K):=by
 cases m with
 | f g=>
  simp only[ij,xF]
  cases g args with
  | none=>exact dq.no
  | some v=>exact dq.ret _
 | lr k g=>exact HV _ _
 | lw k fr g=>
  cases fr with
  | none=>exact zK _ _
  | some v=>
   simp only[ij]
   split
   ·exact zK _ _
   ·exact dq.no
 | h c r=>exact(dq.vh hm hc args).map fun v=>s.put d v
 | hl c k r=>exact(dq.vh (hm _) hc args).map fun v=>s.put d v
def fO(C:Cx)(o:Oper):vo:=
 match comp C o with
 | some (_,m)=>It m
 | none=>.none
theorem FR{C:Cx}(hC:C.bP){all:Bool}{o:Oper}(hc:na all (fO C o)=true)(s:St):dq all (fun K σ=>vd C o s σ K):=by
 unfold fO at hc
 simp only[vd]
 cases fu:comp C o with
 | none=>exact dq.no
 | some p=>
  obtain⟨xs,m⟩:=p
  simp only[fu]at hc ⊢
  split
  ·exact GS (fp hC fu) hc _ _ _
  ·exact dq.no
def EG(C:Cx)(all:Bool)(l:List Oper):Bool:=l.all fun o=>na all (fO C o)
def im(C:Cx)(all:Bool):Code→Bool
 | .skip | .label _ | .exit _ | .ret=>true
 | .seq a b | .cond _ a b=>im C all a&&im C all b
 | .block _ c | .scope c=>im C all c
 | .region id ops _=>(C.alt.lookup id).isNone&&EG C all ops.toList
 | _=>false
theorem FD{all:Bool}{α:Type}(v:Value){A B:(α→Mem→Prop)→Mem→Prop}(hA:dq all A)(hB:dq all B):dq all (fun K σ=>aV v (A K σ) (B K σ)):=by
 unfold aV
 split
 ·exact hA
 ·exact hB
 ·exact dq.no
theorem IL{C:Cx}(hC:C.bP){all:Bool}{ops:Array Oper}:∀(l:List Oper),EG C all l=true→∀(i:Nat) (dec:List (Nat×Option Bool)) (s:St),
  dq all (fun K σ=>gO C ops K l i dec s σ):=by
 intro l
 induction l with
 | nil=>intro _ i dec s;exact dq.ret s
 | cons o rest ih=>
  intro hq i dec s
  simp only[EG,List.all_cons,Bool.and_eq_true]at hq
  have step:∀(dec:List (Nat×Option Bool)) (s:St),dq all (fun K σ=>vd C o s σ (fun s σ=>gO C ops K rest (i+1) dec s σ)):=
   fun dec s=>(FR hC hq.1 s).bind (W':=fun s K σ=>gO C ops K rest (i+1) dec s σ) fun s=>ih hq.2 _ _ _
  have SR:=ih hq.2
  unfold gO
  split
  ·exact step _ _
  ·split
   ·split
    ·split
     ·exact step _ _
     ·exact SR _ _ _
    ·exact SR _ _ _
    ·split
     ·refine FD _ ?_ ?_
      ·split
       ·exact step _ _
       ·exact SR _ _ _
      ·split
       ·exact SR _ _ _
       ·exact step _ _
     ·exact dq.no
   ·exact dq.no
theorem Im{C:Cx}{a b:Code}{all:Bool}{α:Type}{W':St→(α→Mem→Prop)→Mem→Prop}(h:∀ s,dq all (W' s))(s:St) :
  dq all (fun K σ=>sV C a b (fun s σ=>W' s K σ) s σ):=by
 unfold sV
 split
 ·unfold nj
  split
  ·exact h _
  ·exact dq.no
 ·exact h s
theorem Sw{C:Cx}(hC:C.bP){all:Bool}(c:Code):im C all c=true→∀(s:St),
  dq all (fun(K:Ex×St→Mem→Prop) σ=>Wp C c (fun e s σ=>K (e,s) σ) s σ):=by
 induction c with
 | skip=>intro _ s;exact dq.ret (Ex.normal,s)
 | label l=>intro _ s;exact dq.ret (Ex.normal,s)
 | exit l=>intro _ s;exact dq.ret (Ex.exit l,s)
 | ret=>intro _ s;exact dq.ret (Ex.ret,s)
 | seq a b IY IX=>
  intro hq s
  simp only[im,Bool.and_eq_true]at hq
  simp only[B3]
  exact(IY hq.1 s).bind (W':=fun x (K:Ex×St→Mem→Prop) σ=>match x.1 with
   | .normal=>sV C a b (fun s σ=>Wp C b (fun e s σ=>K (e,s) σ) s σ) x.2 σ
   | .exit i=>K (.exit i,x.2) σ
   | .ret=>K (.ret,x.2) σ) fun x=>by
    obtain⟨e,s'⟩:=x
    cases e with
    | normal=>exact Im (W':=fun s (K:Ex×St→Mem→Prop) σ=>Wp C b (fun e s σ=>K (e,s) σ) s σ) (IX hq.2) s'
    | exit i=>exact dq.ret (Ex.exit i,s')
    | ret=>exact dq.ret (Ex.ret,s')
 | cond c a b IY IX=>
  intro hq s
  simp only[im,Bool.and_eq_true]at hq
  unfold Wp
  split
  ·exact FD _ (IY hq.1 s) (IX hq.2 s)
  ·exact dq.no
 | block id c ih=>
  intro hq s
  exact(ih hq s).bind (W':=fun x (K:Ex×St→Mem→Prop) σ=>match x.1 with
   | .normal=>K (.normal,x.2) σ
   | .exit i=>bif Nat.beq i id then K (.normal,x.2) σ else K (.exit i,x.2) σ
   | .ret=>K (.ret,x.2) σ) fun x=>by
    obtain⟨e,s'⟩:=x
    cases e with
    | normal=>exact dq.ret (Ex.normal,s')
    | exit i=>
     dsimp only
     cases Nat.beq i id
     ·exact dq.ret (Ex.exit i,s')
     ·exact dq.ret (Ex.normal,s')
    | ret=>exact dq.ret (Ex.ret,s')
 | scope c ih=>intro hq s;exact ih hq s
 | region id ops draw=>
  intro hq s
  simp only[im,Bool.and_eq_true]at hq
  cases e:C.alt.lookup id with
  | none=>simp only[Wp,e];exact(IL hC _ hq.2 0 [] s).map fun s=>(Ex.normal,s)
  | some x=>rw[e]at hq;cases hq.1
 | loop c _=>intro hq;cases hq
 | rangeFunc f ps a b _ _=>intro hq;cases hq
 | goto l=>intro hq;cases hq
 | refuse w=>intro hq;cases hq
theorem oO{C:Cx}:∀{rs:List ResultVar} {s:St} {K K':List Value→Prop},(∀ vs,K vs→K' vs)→pt C rs s K→pt C rs s K'
 | [],s,K,K',h,hs=>h _ hs
 | .tmp t::rs,s,K,K',h,hs=>oO (rs:=rs) (fun vs hk=>h _ hk) hs
 | .cell a t::rs,s,K,K',h,hs=>by
  unfold pt at hs ⊢
  split at hs
  ·exact qD (fun v hk=>oO (rs:=rs) (fun vs hk=>h _ hk) hk) hs
  ·exact hs.elim
theorem oP{C:Cx}:∀{rs:List ResultVar} {s:St} {K:List Value→Prop},pt C rs s K→∃ vs,K vs
 | [],s,K,hs=>⟨_,hs⟩
 | .tmp t::rs,s,K,hs=>let ⟨_,h⟩:=oP (rs:=rs) hs;⟨_,h⟩
 | .cell a t::rs,s,K,hs=>by
  unfold pt at hs
  split at hs
  ·obtain⟨v,_,hv⟩:=qE hs
   obtain⟨vs,h⟩:=oP (rs:=rs) hv
   exact⟨_,h⟩
  ·exact hs.elim
theorem rO{C:Cx}{all:Bool}:∀(rs:List ResultVar) (s:St),dq all (fun(K:List Value→Mem→Prop) σ=>pt C rs s fun vs=>K vs σ)
 | [],s=>dq.ret []
 | .tmp t::rs,s=>(rO rs s).map fun vs=>s.t t::vs
 | .cell a t::rs,s=>by
  unfold pt
  split
  ·rename_i k _
   cases ah (bQ C.P t) (jy C.P t) [s.t a] (s.l k)with
   | none=>exact dq.no
   | some v=>exact(rO rs s).map fun vs=>v::vs
  ·exact dq.no
theorem Kb{C:Cx}(hC:C.bP)(fn:Func)(c:Code)(cl:vo)(hq:cl=.none→im C true c=true)(hr:cl=.read→im C false c=true)(hn:cl≠.new) :
  Good cl (FnW C fn c):=by
 have det:∀ all,im C all c=true→∀ args,dq all (FnW C fn c args):=by
  intro all hq args
  exact(Sw hC c hq ⟨fun i=>args.getD i undef,fun _=>[]⟩).bind (W':=fun x (K:Value→Mem→Prop) σ'=>match x.1 with
   | .exit _=>False
   | .normal=>pt C fn.results.toList x.2 fun vs=>K (Cv vs) σ'
   | .ret=>pt C fn.results.toList x.2 fun vs=>K (Cv vs) σ') fun x=>by
    obtain⟨e,s'⟩:=x
    cases e with
    | normal=>exact(rO fn.results.toList s').map Cv
    | exit i=>exact dq.no
    | ret=>exact(rO fn.results.toList s').map Cv
 constructor
 ·intro args K K' σ h hs
  refine LX hC c (fun e s τ hq=>?_) _ _ hs
  cases e with
  | exit i=>exact hq
  | normal=>exact oO (fun vs hk=>h _ _ hk) hq
  | ret=>exact oO (fun vs hk=>h _ _ hk) hq
 ·intro args K σ hs
  obtain⟨e,s,τ,hq⟩:=LY hC c _ _ hs
  cases e with
  | exit i=>exact hq.elim
  | normal=>obtain⟨vs,h⟩:=oP hq;exact⟨_,_,h⟩
  | ret=>obtain⟨vs,h⟩:=oP hq;exact⟨_,_,h⟩
 ·intro h args;exact det true (hq h) args
 ·intro h args;exact det false (hr h) args
 ·intro h;exact absurd h hn
end Go.Fl
namespace Go.Fl
open Go
def dS.le(ρ ρ':dS):Prop:=∀ i e,ρ i=some e→ρ' i=some e
theorem V.mono{ρ ρ':dS}(hr:ρ.le ρ'){v v':Value}(h:V ρ v v'):V ρ' v v':=by
 induction h with
 | Rd v'=>exact .Rd v'
 | bool b=>exact .bool b
 | int k n=>exact .int k n
 | str s=>exact .str s
 | Ri=>exact .Ri
 | ptr h=>exact .ptr (hr _ _ h)
 | yM=>exact .yM
 | sl h hl hc=>exact .sl (hr _ _ h) hl hc
 | Ke=>exact .Ke
 | agg h _ ih=>exact .agg h ih
 | TD h _ ih=>exact .TD h ih
 | Rj=>exact .Rj
 | iface t _ ih=>exact .iface t ih
 | Rl=>exact .Rl
inductive VL(ρ:dS):List Value→List Value→Prop
 | nil:VL ρ [] []
 | cons {x x':Value} {xs FB:List Value} (h:V ρ x x') (hs:VL ρ xs FB):VL ρ (x::xs) (x'::FB)
theorem VL.mono{ρ ρ':dS}(hr:ρ.le ρ'){v v':List Value}(h:VL ρ v v'):VL ρ' v v':=by
 induction h with
 | nil=>exact .nil
 | cons h _ ih=>exact .cons (h.mono hr) ih
theorem VL.len{ρ:dS}{v v':List Value}(h:VL ρ v v'):v.length=v'.length:=by
 induction h with
 | nil=>rfl
 | cons _ _ ih=>simp[ih]
theorem VL.get{ρ:dS}{v v':List Value}(h:VL ρ v v'){i:Nat}{x:Value}(hx:v[i]?=some x):∃ x',v'[i]?=some x'∧V ρ x x':=by
 induction h generalizing i with
 | nil=>simp at hx
 | cons h _ ih=>
  cases i with
  | zero=>simp at hx;subst hx;exact⟨_,by simp,h⟩
  | succ i=>simp at hx;obtain⟨x',h1,h2⟩:=ih hx;exact⟨x',by simpa using h1,h2⟩
theorem VL.EN{ρ:dS}:∀{v v':List Value},v.length=v'.length→(∀(i:Nat) (x x':Value),v[i]?=some x→v'[i]?=some x'→V ρ x x')→VL ρ v v'
 | [],[],_,_=>.nil
 | x::xs,x'::FB,hl,h=>.cons (h 0 x x' rfl rfl) (VL.EN (by simpa using hl) fun i y y' hy yN=>h (i+1) y y' (by simpa using hy) (by simpa using yN))
 | [],_::_,hl,_=>by simp at hl
 | _::_,[],hl,_=>by simp at hl
theorem VL.append{ρ:dS}{a a' b b':List Value}(h:VL ρ a a')(k:VL ρ b b'):VL ρ (a++b) (a'++b'):=by
 induction h with
 | nil=>exact k
 | cons h _ ih=>exact .cons h ih
theorem VL.take{ρ:dS}{a a':List Value}(h:VL ρ a a')(n:Nat):VL ρ (a.take n) (a'.take n):=by
 induction h generalizing n with
 | nil=>simp;exact .nil
 | cons h _ ih=>
  cases n with
  | zero=>simp;exact .nil
  | succ n=>simp;exact .cons h (ih n)
theorem VL.drop{ρ:dS}{a a':List Value}(h:VL ρ a a')(n:Nat):VL ρ (a.drop n) (a'.drop n):=by
 induction h generalizing n with
 | nil=>simp;exact .nil
 | cons h hs ih=>
  cases n with
  | zero=>simp;exact .cons h hs
  | succ n=>simp;exact ih n
theorem VL.lay{ρ:dS}{a a' b b':List Value}(h:VL ρ a a')(k:VL ρ b b')(off:Nat):VL ρ (lay a off b) (lay a' off b'):=by
 unfold Fl.lay
 rw[k.len]
 exact((h.take _).append k).append (h.drop _)
theorem V.so{ρ:dS}{cs:Array Value}{v':Value}(h:V ρ (.agg cs) v'):∃ cs',v'=.agg cs'∧VL ρ cs.toList cs'.toList:=by
 cases h with
 | agg h hv=>
  rename_i cs'
  refine⟨cs',rfl,VL.EN (by simpa using h) fun i x x' hx zm=>hv i x x' (by simpa using hx) (by simpa using zm)⟩
theorem V.J0{ρ:dS}{cs cs':List Value}(h:VL ρ cs cs'):V ρ (.agg cs.toArray) (.agg cs'.toArray):=
 .agg (by simp[h.len]) fun i v v' hv UR=>by
  obtain⟨x',h1,h2⟩:=h.get (i:=i) (x:=v) (by simpa using hv)
  have:v'=x':=by simpa[h1]using UR.symm
  exact this ▸ h2
theorem V.Gl{ρ:dS}{cs:List Value}{cs':Array Value}(h:VL ρ cs cs'.toList):V ρ (.agg cs.toArray) (.agg cs'):=by
 have:=V.J0 h
 simpa using this
theorem V.Il{ρ:dS}{cs cs':List Value}(h:VL ρ cs cs'):V ρ (.tuple cs.toArray) (.tuple cs'.toArray):=
 .TD (by simp[h.len]) fun i v v' hv UR=>by
  obtain⟨x',h1,h2⟩:=h.get (i:=i) (x:=v) (by simpa using hv)
  have:v'=x':=by simpa[h1]using UR.symm
  exact this ▸ h2
theorem V.undef{ρ:dS}:V ρ undef undef:=by
 have:=V.Il (ρ:=ρ) (cs:=[]) (cs':=[]) .nil
 simpa[Go.undef]using this
theorem V.KB{ρ:dS}{cs:Array Value}{v':Value}(h:V ρ (.tuple cs) v')(hs:cs.size≠1):∃ cs',v'=.tuple cs'∧VL ρ cs.toList cs'.toList:=by
 cases h with
 | Rd _=>simp at hs
 | TD h hv=>
  rename_i cs'
  refine⟨cs',rfl,VL.EN (by simpa using h) fun i x x' hx zm=>hv i x x' (by simpa using hx) (by simpa using zm)⟩
theorem V.const{ρ:dS}{v:Value}(h:jt v=true):V ρ v v:=by
 unfold jt at h
 split at h
 ·exact .bool _
 ·exact .int _ _
 ·exact .str _
 ·exact .Ri
 ·exact .yM
 ·exact .Rj
 ·exact .Rl
 ·cases h
theorem lW{ρ:dS}{cs cs':List Value}(h:VL ρ cs cs'){off sz:Nat}{ag:Bool}{v:Value}(hs:sub cs off sz ag=some v) :
  off+sz≤cs'.length∧∃ v',(if ag then some (.agg ((cs'.drop off).take sz).toArray)else cs'[off]?)=some v'∧V ρ v v':=by
 unfold sub at hs
 split at hs
 ·rename_i hle
  refine⟨h.len ▸ hle,?_⟩
  cases ag
  ·obtain⟨x',h1,h2⟩:=h.get hs
   exact⟨x',h1,h2⟩
  ·cases hs
   exact⟨_,rfl,V.J0 ((h.drop _).take _)⟩
 ·cases hs
section
variable{P:Program}{w:World}{ρ:dS}
theorem aY{t:TypeId}{d:TypeDesc}(h:P.underlying t=some d):(underlying t).run P w=.ok d w:=by
 simp[underlying,h]
theorem ly{t:TypeId}{i:TypeInfo}(h:P.info? t=some i):(typeInfo t).run P w=.ok i w:=by
 simp[typeInfo,h]
theorem EX{t:TypeId}(h:tKnown P t=true):∃ i,P.info? t=some i:=by
 simp only[tKnown,Bool.and_eq_true]at h
 exact Option.isSome_iff_exists.1 h.2
theorem EY{t:TypeId}(h:tKnown P t=true):∃ d,P.underlying t=some d:=by
 simp only[tKnown,Bool.and_eq_true]at h
 exact Option.isSome_iff_exists.1 h.1
theorem cD{t:TypeId}(h:tKnown P t=true):(sizeOf t).run P w=.ok (bQ P t) w:=by
 obtain⟨i,hi⟩:=EX h
 simp[sizeOf,typeInfo,hi,bQ,Program.cellsOf]
theorem mN{t:TypeId}(h:tKnown P t=true):(isAgg t).run P w=.ok (jy P t) w:=by
 obtain⟨d,hd⟩:=EY h
 simp only[isAgg,Sem.run_bind,aY hd,Result.andThen_ok,jy,hd]
 cases d<;>rfl
theorem y6{t:TypeId}(h:tKnown P t=true)(cs:Array Value)(off:Nat)(hl:off+bQ P t≤cs.size){v:Value}
  (hv:(if jy P t then some (.agg ((cs.toList.drop off).take (bQ P t)).toArray)else cs.toList[off]?)=some v):(part t cs off).run P w=.ok v w:=by
 simp only[part,Sem.run_bind,mN h,Result.andThen_ok]
 cases hA:jy P t
 ·simp only[hA,Bool.false_eq_true,if_false]at hv ⊢
  have:cs[off]?=some v:=by simpa using hv
  simp[this]
 ·simp only[hA,if_true,Option.some.injEq]at hv ⊢
  subst hv
  simp only[Sem.run_bind,cD h,Result.andThen_ok,Sem.run_pure]
  congr 2
  apply Array.ext'
  simp[Array.toList_extract,List.extract_eq_take_drop]
theorem V.cM{k:IntKind}{n:Int}{v':Value}(h:V ρ (.int k n) v'):v'=.int k n:=by cases h;rfl
theorem V.fg{b:Bool}{v':Value}(h:V ρ (.bool b) v'):v'=.bool b:=by cases h;rfl
theorem sq{a:Addr}(h:a.spot=none)(n:Nat):a.add n=Cc a n:=by
 unfold Addr.add Cc
 split
 ·rename_i h0;subst h0;cases a;rfl
 ·cases a;simp at h;subst h;rfl
theorem V.Br{a:Addr}{v':Value}(h:V ρ (.pointer (some a)) v'):∃ a',v'=.pointer (some a')∧a'.spot=none∧a.spot=none∧∀ n,V ρ (.pointer (some (Cc a n))) (.pointer (some (Cc a' n))):=by
 cases h with
 | ptr h=>
  refine⟨_,rfl,rfl,rfl,fun n=>?_⟩
  simpa[Cc,Nat.add_assoc]using V.ptr (o:=_+n) h
theorem VL.one{x:Value}{FB:List Value}(h:VL ρ [x] FB):∃ x',FB=[x']∧V ρ x x':=by
 cases h with
 | cons h hs=>cases hs;exact⟨_,rfl,h⟩
theorem VL.two{x y:Value}{FB:List Value}(h:VL ρ [x,y] FB):∃ x' y',FB=[x',y']∧V ρ x x'∧V ρ y y':=by
 cases h with
 | cons h hs=>obtain⟨y',rfl,hy⟩:=hs.one;exact⟨_,_,rfl,h,hy⟩
theorem VL.three{x y z:Value}{FB:List Value}(h:VL ρ [x,y,z] FB):∃ x' y' z',FB=[x',y',z']∧V ρ x x'∧V ρ y y'∧V ρ z z':=by
 cases h with
 | cons h hs=>obtain⟨y',z',rfl,hy,hz⟩:=hs.two;exact⟨_,_,_,rfl,h,hy,hz⟩
theorem E0{op:BinOp}{k:IntKind}{a b:Int}{v:Value}(h:mZ op k a b=some v)(hn:ka op=false) :
  (binOp op 0 (.int k a) (.int k b)).run P w=.ok v w:=by
 cases op<;>simp[mZ,ka]at h hn<;>simp[binOp,Op.intArith,Op.intDiv,Op.intBits,Op.intCmp,h]
 all_goals first
  | exact h.2
  | skip
theorem Hs{op:BinOp}{k:IntKind}{a b:Int}(t:TypeId)(hn:ka op=false) :
  binOp op t (.int k a) (.int k b)=binOp op 0 (.int k a) (.int k b):=by
 cases op<;>simp[ka]at hn<;>simp[binOp]
theorem Q8{op:BinOp}{k k':IntKind}{a b:Int}{v:Value}(t:TypeId)(hn:ka op=true)(h:SE op k a b=some v) :
  (binOp op t (.int k a) (.int k' b)).run P w=.ok v w:=by
 unfold SE at h
 split at h
 ·cases h
 ·rename_i hb
  cases op<;>simp[ka]at hn<;>simp at h<;>subst h<;>simp[binOp,Op.shift,hb]
theorem tX{op:BinOp}{t:TypeId}{x y:Operand}{k k':IntKind}{a b:Int}:(eqGuard op t x y (.int k a) (.int k' b)).run P w=.ok () w:=by
 unfold eqGuard
 split<;>rfl
theorem BJ(d:Nat)(xs ys:Array Value):∀(fs:List Field) (i:Nat) (ks:List Bool) (l m:List Value) (r:Bool),
  qh P fs i ks=true→xs.toList.drop i=l→ys.toList.drop i=m→dF ks l m=some r→(Op.eqFields (d+1) xs ys fs).run P w=.ok r w:=by
 intro fs
 induction fs with
 | nil=>
  intro i ks l m r hf hl hm he
  cases ks with
  | nil=>
   cases l with
   | nil=>cases m with
    | nil=>simp[dF]at he;subst he;simp[Op.eqFields]
    | cons _ _=>simp[dF]at he
   | cons _ _=>simp[dF]at he
  | cons _ _=>simp[qh]at hf
 | cons f fs ih=>
  intro i ks l m r hf hl hm he
  cases ks with
  | nil=>simp[qh]at hf
  | cons q qs=>
   cases l with
   | nil=>simp[dF]at he
   | cons x l=>cases m with
    | nil=>simp[dF]at he
    | cons y m=>
     simp only[qh,Bool.and_eq_true,Bool.not_eq_true',beq_eq_false_iff_ne,beq_iff_eq]at hf
     obtain⟨⟨⟨⟨hn,ho⟩,hk⟩,hq⟩,hr⟩:=hf
     simp only[dF]at he
     split at he
     ·rename_i b1 b2 K_ he2
      simp at he
      have hx:xs.toList[i]?=some x:=by have:=congrArg (fun l=>l[0]?) hl;simpa using this
      have hy:ys.toList[i]?=some y:=by have:=congrArg (fun l=>l[0]?) hm;simpa using this
      have qA:xs.toList.drop (i+1)=l:=by have:=congrArg List.tail hl;simpa using this
      have Ja:ys.toList.drop (i+1)=m:=by have:=congrArg List.tail hm;simpa using this
      have ix:i<xs.size:=by have:=(List.getElem?_eq_some_iff.1 hx).1;simpa using this
      have iy:i<ys.size:=by have:=(List.getElem?_eq_some_iff.1 hy).1;simpa using this
      have hA:jy P f.type=false:=by
       unfold jy
       cases hu:P.underlying f.type with
       | none=>simp[hu]at hq
       | some dd=>cases dd<;>simp[hu]at hq ⊢
      have px:(part f.type xs f.offset).run P w=.ok x w:=by
       simp only[part,Sem.run_bind,mN hk,Result.andThen_ok,hA,ho]
       have:xs[i]?=some x:=by simpa using hx
       simp[this]
      have py:(part f.type ys f.offset).run P w=.ok y w:=by
       simp only[part,Sem.run_bind,mN hk,Result.andThen_ok,hA,ho]
       have:ys[i]?=some y:=by simpa using hy
       simp[this]
      have pe:(Op.equalIn (d+1) f.type x y).run P w=.ok b1 w:=by
       unfold BK at K_
       split at K_
       ·split at K_
        ·rename_i XA;subst XA
         simp at K_;subst K_
         cases hu:P.underlying f.type with
         | none=>simp[hu]at hq
         | some dd=>cases dd with
          | int k'=>exact run_equalIn_int w d f.type _ k' _ _ hu
          | _=>simp[hu]at hq
        ·cases K_
       ·simp at K_;subst K_
        cases hu:P.underlying f.type with
        | none=>simp[hu]at hq
        | some dd=>cases dd with
         | bool=>exact run_equalIn_bool' w d f.type _ _ hu
         | _=>simp[hu]at hq
       ·cases K_
      have SR:=ih (i+1) qs l m b2 hr qA Ja he2
      simp only[Op.eqFields,hn,ne_eq,not_false_eq_true,if_true,Sem.run_bind,px,py,pe,Result.andThen_ok]
      cases b1
      ·simp at he ⊢;exact he
      ·simp at he ⊢;rw[SR,he]
     ·cases he
theorem Lr(d:Nat){t e:TypeId}(hu:P.underlying t=some (.pointer e))(b:Option Addr) :
  (Op.equalIn (d+1) t (.pointer none) (.pointer b)).run P w=.ok b.isNone w:=by
 simp[Op.equalIn,aY hu]
theorem Lq(d:Nat){t e:TypeId}(hu:P.underlying t=some (.pointer e))(a:Addr) :
  (Op.equalIn (d+1) t (.pointer (some a)) (.pointer none)).run P w=.ok false w:=by
 simp[Op.equalIn,aY hu]
theorem G_{t:TypeId}(h:eqOk P (t,.bool)=true):P.underlying t=some .bool:=by
 unfold eqOk at h
 cases hu:P.underlying t with
 | none=>simp[hu]at h
 | some d=>cases d<;>simp[hu]at h ⊢
theorem Dj{t:TypeId}(h:eqOk P (t,.ptr)=true):∃ e,P.underlying t=some (.pointer e):=by
 unfold eqOk at h
 cases hu:P.underlying t with
 | none=>simp[hu]at h
 | some d=>cases d<;>simp[hu]at h ⊢
theorem Jy{t:TypeId}(h:eqOk P (t,.Yb)=true):∃ e,P.underlying t=some (.slice e):=by
 unfold eqOk at h
 cases hu:P.underlying t with
 | none=>simp[hu]at h
 | some d=>cases d<;>simp[hu]at h ⊢
theorem RR(d:Nat){t e:TypeId}(hu:P.underlying t=some (.slice e))(a:Option Addr)(n c:Nat) :
  (Op.equalIn (d+1) t (.slice a n c) (.slice none 0 0)).run P w=.ok a.isNone w:=by
 cases a<;>simp[Op.equalIn,aY hu]
theorem zy{t:TypeId}{ks:List Bool}(h:eqOk P (t,.flat ks)=true) :
  ∃ fs,P.underlying t=some (.struct fs)∧P.stoodInHeld t=false∧P.eqGuardType P.depth t=false∧qh P fs.toList 0 ks=true:=by
 unfold eqOk at h
 cases hu:P.underlying t with
 | none=>simp[hu]at h
 | some d=>
  cases d with
  | struct fs=>simp[hu]at h;exact⟨fs,rfl,h.1.1,h.1.2,h.2⟩
  | _=>simp[hu]at h
theorem RS{t:TypeId}{q:fY}(hq:eqOk P (t,q)=true){x y:Value}{b:Bool}(h:Ga q x y=some b) :
  (Op.equal t x y).run P w=.ok b w:=by
 unfold Op.equal Op.maxDepth
 unfold Ga at h
 split at h
 ·simp at h;subst h
  exact run_equalIn_bool' w 9999 t _ _ (G_ hq)
 ·simp at h;subst h
  obtain⟨e,hu⟩:=Dj hq
  exact Lr 9999 hu _
 ·simp at h;subst h
  obtain⟨e,hu⟩:=Dj hq
  exact Lq 9999 hu _
 ·obtain⟨fs,hu,h1,h2,h3⟩:=zy hq
  have hf:P.fieldsOf t=fs:=by simp[Program.fieldsOf,hu]
  rw[run_equalIn_struct w 9999 t _ _ (by rw[hf];exact hu) h1,hf]
  exact BJ 9998 _ _ fs.toList 0 _ _ _ b h3 rfl rfl (by simpa using h)
 ·simp at h;subst h
  obtain⟨e,hu⟩:=Jy hq
  exact RR 9999 hu _ _ _
 ·cases h
end
end Go.Fl
namespace Go.Fl
open Go
section
variable{P:Program}{w:World}{ρ:dS}
theorem tP{s:TypeId}{fs:Array Field}{f:Nat}{fd:Field}(hs:P.underlying s=some (.struct fs))(hf:fs[f]?=some fd)
  (hk:tKnown P fd.type=true) (hz:bQ P fd.type≠0) {a:Addr} (ha:a.spot=none) :
  (Instr.fieldAt s (.pointer (some a)) f).run P w=.ok (.pointer (some (Cc a fd.offset))) w:=by
 simp only[Instr.fieldAt,Sem.run_bind,aY hs,Result.andThen_ok,hf,Instr.sureAddr,Sem.run_pure,fieldPlace,cD hk,Sem.run_ite,hz,if_false,sq ha]
theorem Eu{t e:TypeId}(ht:P.underlying t=some (.slice e))(hk:tKnown P e=true){a:Addr}(ha:a.spot=none){n c:Nat}{k:IntKind}{i:Int}
  (h0:0≤i) (h1:i<(n:Int)) :
  (Instr.indexAt t (.slice (some a) n c) (.int k i)).run P w=.ok (.pointer (some (Cc a (i.toNat*bQ P e)))) w:=by
 simp only[Instr.indexAt,asIntOf,Sem.run_bind,Sem.run_pure,aY ht,Result.andThen_ok,h0,h1,and_self,if_true,cD hk,sq ha]
theorem xn{t e:TypeId}{n:Nat}(ht:P.underlying t=some (.array n e))(hk:tKnown P e=true){a:Addr}(ha:a.spot=none){k:IntKind}{i:Int}
  (h0:0≤i) (h1:i<(n:Int)) :
  (Instr.indexAt t (.pointer (some a)) (.int k i)).run P w=.ok (.pointer (some (Cc a (i.toNat*bQ P e)))) w:=by
 simp only[Instr.indexAt,asIntOf,Sem.run_bind,Sem.run_pure,aY ht,Result.andThen_ok,Instr.sureAddr,h0,h1,and_self,if_true,cD hk,sq ha]
theorem Ev{s:TypeId}{fs:Array Field}{f:Nat}{fd:Field}(hs:P.underlying s=some (.struct fs))(hf:fs[f]?=some fd)
  (hk:tKnown P fd.type=true) (cs:Array Value) (hl:fd.offset+bQ P fd.type≤cs.size) {v:Value}
  (hv:(if jy P fd.type then some (.agg ((cs.toList.drop fd.offset).take (bQ P fd.type)).toArray)else cs.toList[fd.offset]?)=some v) :
  (Instr.field s (.agg cs) f).run P w=.ok v w:=by
 simp only[Instr.field,Sem.run_bind,aY hs,Result.andThen_ok,hf,asAgg,Sem.run_pure,y6 hk cs fd.offset hl hv]
theorem Et{t e:TypeId}{n:Nat}(ht:P.underlying t=some (.array n e))(hk:tKnown P e=true)(cs:Array Value){k:IntKind}{i:Int}
  (h0:0≤i) (h1:i<(n:Int)) (hl:i.toNat*bQ P e+bQ P e≤cs.size) {v:Value}
  (hv:(if jy P e then some (.agg ((cs.toList.drop (i.toNat*bQ P e)).take (bQ P e)).toArray)else cs.toList[i.toNat*bQ P e]?)=some v) :
  (Instr.index t (.agg cs) (.int k i)).run P w=.ok v w:=by
 simp only[Instr.index,asIntOf,Sem.run_bind,Sem.run_pure,aY ht,Result.andThen_ok,h0,h1,and_self,if_true,cD hk,y6 hk cs _ hl hv]
theorem G9(vs:List Value):∀(cells:Array Value) (off n:Nat),off+n+vs.length≤cells.size →
  ((vs.zipIdx n).foldl (fun cs (p:Value×Nat)=>cs.setIfInBounds (off+p.2) p.1) cells).toList=cells.toList.take (off+n)++vs++cells.toList.drop (off+n+vs.length):=by
 induction vs with
 | nil=>intro cells off n h;simp
 | cons v vs ih=>
  intro cells off n h
  simp only[List.zipIdx_cons,List.foldl_cons]
  simp only[List.length_cons]at h
  rw[ih (cells.setIfInBounds (off+n) v) off (n+1) (by simp;omega)]
  have iL:off+n<cells.toList.length:=by simp;omega
  simp only[Array.toList_setIfInBounds]
  rw[show off+(n+1)=off+n+1 from by omega]
  rw[List.take_succ_eq_append_getElem (by simpa using iL)]
  simp only[List.getElem_set_self,List.length_cons]
  rw[List.take_set_of_le (Nat.le_refl _),List.drop_set_of_lt (by omega)]
  simp[Nat.add_assoc,Nat.add_comm 1]
theorem kH{v:Value}{sz:Nat}{c:List Value}(h:cellsOf v sz=some c):v.cells.toList=c∧v.cells.size=sz∧c.length=sz:=by
 unfold cellsOf at h
 split at h
 ·split at h
  ·cases h;rename_i hs;exact⟨rfl,hs,by simpa using hs⟩
  ·cases h
 ·cases h
 ·split at h
  ·cases h
   rename_i h1 h2 h3
   subst h3
   have:v.cells=#[v]:=by
    cases v<;>first|rfl|(exfalso;exact h1 _ rfl)|(exfalso;exact h2 _ rfl)
   rw[this];exact⟨rfl,rfl,rfl⟩
  ·cases h
theorem V.cells{v v':Value}(h:V ρ v v'){sz:Nat}{c:List Value}(hc:cellsOf v sz=some c):∃ c',cellsOf v' sz=some c'∧VL ρ c c':=by
 unfold cellsOf at hc
 split at hc
 ·split at hc
  ·rename_i cs hs
   cases hc
   obtain⟨cs',rfl,hl⟩:=h.so
   have:cs'.size=sz:=by have:=hl.len;simp at this;omega
   exact⟨_,by simp[cellsOf,this],hl⟩
  ·cases hc
 ·cases hc
 ·split at hc
  ·rename_i h1 h2 h3
   cases hc
   have hn:∀ v',V ρ v v'→(∀ cs,v'≠.agg cs)∧(∀ cs,v'≠.tuple cs):=by
    intro v' h
    cases h<;>first
     | (exfalso;exact h2 _ rfl)
     | (exfalso;exact h1 _ rfl)
     | exact⟨(fun _ hh=>by cases hh),(fun _ hh=>by cases hh)⟩
   obtain⟨n1,n2⟩:=hn v' h
   refine⟨[v'],?_,.cons h .nil⟩
   unfold cellsOf
   split
   ·exact absurd rfl (n1 _)
   ·exact absurd rfl (n2 _)
   ·simp[h3]
  ·cases hc
theorem qi{mP place':Nat→Option (Nat×Nat)}(hpp:∀ i p,mP i=some p→place' i=some p):∀{idx:List Nat} {cells xY:List Value} {vs pG:List Value} {c:List Value},
  VL ρ cells xY→VL ρ vs pG→jU mP cells idx vs=some c →
  ∃ c',Instr.fill place' xY.toArray (idx.zip pG)=some c'∧VL ρ c c'.toList:=by
 intro idx
 induction idx with
 | nil=>
  intro cells xY vs pG c hc hv h
  cases hv with
  | nil=>simp[jU]at h;subst h;exact⟨xY.toArray,by simp[Instr.fill],by simpa using hc⟩
  | cons _ _=>simp[jU]at h
 | cons i is ih=>
  intro cells xY vs pG c hc hv h
  cases hv with
  | nil=>simp[jU]at h
  | cons hx hs=>
   simp only[jU]at h
   split at h
   ·rename_i off sz hp
    split at h
    ·rename_i cc zp
     split at h
     ·rename_i hle
      obtain⟨cc',aaW,hl⟩:=hx.cells zp
      obtain⟨e1,e2,e3⟩:=kH aaW
      have Jc:=hc.lay hl off
      obtain⟨c',h1,h2⟩:=ih Jc hs h
      refine⟨c',?_,h2⟩
      simp only[List.zip_cons_cons,Instr.fill,hpp _ _ hp]
      rw[ae]
      ·rw[←h1]
       congr 1
       apply Array.ext'
       rw[←Array.foldl_toList,Array.toList_zipIdx,G9 _ _ _ _ (by simp[e2];rw[←hc.len];exact hle)]
       simp[lay,e1]
      ·simp[e2];rw[←hc.len];exact hle
     ·cases h
    ·cases h
   ·cases h
theorem fb{t:TypeId}{z:List Value}(h:jx P t=some z) :
  ∃ i zv,P.info? t=some i∧i.zero=some zv∧zv.cells.toList=z∧bQ P t=z.length∧VL ρ z z∧(z.length=bQ P t)∧∀ x∈z,dV x=true:=by
 have vl:∀{l:List Value},(l.all jt)=true→VL ρ l l∧∀ x∈l,dV x=true:=by
  intro l hl
  induction l with
  | nil=>exact⟨.nil,by simp⟩
  | cons x xs ih=>
   simp only[List.all_cons,Bool.and_eq_true]at hl
   obtain⟨h1,h2⟩:=ih hl.2
   refine⟨.cons (.const hl.1) h1,?_⟩
   intro y hy
   rcases List.mem_cons.1 hy with rfl|hy
   ·have:=hl.1
    unfold jt at this
    split at this<;>first|rfl|cases this
   ·exact h2 _ hy
 unfold jx at h
 split at h
 ·rename_i i hi
  have lj:bQ P t=i.size:=by simp[bQ,Program.cellsOf,hi]
  split at h
  ·rename_i cs hz
   split at h
   ·rename_i hb
    cases h
    simp only[Bool.and_eq_true,beq_iff_eq]at hb
    obtain⟨v1,v2⟩:=vl hb.1
    exact⟨i,_,hi,hz,rfl,by rw[lj,hb.2];simp,v1,by rw[lj,hb.2];simp,v2⟩
   ·cases h
  ·rename_i v hn hz
   split at h
   ·rename_i hb
    cases h
    simp only[Bool.and_eq_true,beq_iff_eq]at hb
    have Jg:([v].all jt)=true:=by simp[hb.1]
    obtain⟨v1,v2⟩:=vl Jg
    refine⟨i,_,hi,hz,?_,by rw[lj,hb.2];rfl,v1,by rw[lj,hb.2];rfl,v2⟩
    have:=hb.1
    unfold jt at this
    split at this<;>first|rfl|cases this
   ·cases h
  ·cases h
 ·cases h
theorem CZ{fs:List Field}(h:∀ f∈fs,tKnown P f.type=true) :
  (fs.mapM fun f=>do pure (f.offset,←sizeOf f.type):Sem _).run P w=.ok (fs.map fun(f:Field)=>(f.offset,bQ P f.type)) w:=by
 induction fs with
 | nil=>simp
 | cons f fs ih=>
  simp only[List.mapM_cons,Sem.run_bind,cD (h f (by simp)),Result.andThen_ok,Sem.run_pure,ih fun g hg=>h g (by simp[hg]),List.map_cons]
theorem cU{t:TypeId}{i:TypeInfo}{zv:Value}(hi:P.info? t=some i)(hz:i.zero=some zv):(zeroValue t).run P w=.ok zv w:=by
 simp[zeroValue,ly hi,hz]
theorem jk{ev:Operand→Value}(parts:Array (Nat×Operand)) :
  (parts.map fun(i,x)=>(i,ev x)).toList=(parts.toList.map (·.1)).zip ((parts.toList.map (·.2)).map ev):=by
 simp only[Array.toList_map]
 generalize parts.toList=l
 induction l with
 | nil=>rfl
 | cons p ps ih=>simp[ih]
theorem run_build{t:TypeId}{fs:Array Field}(ht:P.underlying t=some (.struct fs)){z:List Value}(hz:jx P t=some z)
  (hk:∀ f∈fs,tKnown P f.type=true) {parts:Array (Nat×Value)} {idx:List Nat} {pG vs:List Value} (hp:parts.toList=idx.zip pG) (hv:VL ρ vs pG)
  {v:Value} (h:aM (fs.toList.map fun(f:Field)=>(f.offset,bQ P f.type)) z idx vs=some v):∃ v',(Instr.build t parts).run P w=.ok v' w∧V ρ v v':=by
 obtain⟨i,zv,hi,E1,hc,hs,HI,_,_⟩:=fb (ρ:=ρ) hz
 simp only[aM,Option.map_eq_some_iff]at h
 obtain⟨c,Vp,rfl⟩:=h
 obtain⟨c',h1,h2⟩:=qi (place':=fun(i:Nat)=>(fs[i]?).map fun(f:Field)=>(f.offset,bQ P f.type)) (fun i p h=>by simpa using h) HI hv Vp
 refine⟨.agg c',?_,V.Gl h2⟩
 have hm:(fs.mapM fun f=>do pure (f.offset,←sizeOf f.type):Sem _).run P w=.ok (fs.map fun(f:Field)=>(f.offset,bQ P f.type)) w:=by
  rw[Array.mapM_eq_mapM_toList]
  simp only[Sem.run_map,CZ (fs:=fs.toList) (fun f hf=>hk f (by simpa using hf)),Result.andThen_ok]
  congr 1
  apply Array.ext'
  simp
 have Lc:zv.cells=z.toArray:=Array.ext' (by simpa using hc)
 have MN:(fun i=>(fs.map fun(f:Field)=>(f.offset,bQ P f.type))[i]?)=fun(i:Nat)=>(fs[i]?).map fun(f:Field)=>(f.offset,bQ P f.type):=by
  funext i;simp[Array.getElem?_map]
 simp only[Instr.build,Sem.run_bind,cU hi E1,Result.andThen_ok,aY ht,hm,Lc,hp,MN,h1,Sem.run_pure]
theorem Ew{t e:TypeId}{n:Nat}(ht:P.underlying t=some (.array n e)){z:List Value}(hz:jx P t=some z)
  (hk:tKnown P e=true) {parts:Array (Nat×Value)} {idx:List Nat} {pG vs:List Value} (hp:parts.toList=idx.zip pG) (hv:VL ρ vs pG)
  {v:Value} (h:aM ((List.range n).map fun i=>(i*bQ P e,bQ P e)) z idx vs=some v):∃ v',(Instr.build t parts).run P w=.ok v' w∧V ρ v v':=by
 obtain⟨i,zv,hi,E1,hc,hs,HI,_,_⟩:=fb (ρ:=ρ) hz
 simp only[aM,Option.map_eq_some_iff]at h
 obtain⟨c,Vp,rfl⟩:=h
 obtain⟨c',h1,h2⟩:=qi (place':=fun(i:Nat)=>some (i*bQ P e,bQ P e)) (fun i p h=>by
  simp only[List.getElem?_map,Option.map_eq_some_iff]at h
  obtain⟨j,hj,rfl⟩:=h
  obtain⟨iL,he⟩:=List.getElem?_eq_some_iff.1 hj
  simp at he;subst he;rfl) HI hv Vp
 refine⟨.agg c',?_,V.Gl h2⟩
 have Lc:zv.cells=z.toArray:=Array.ext' (by simpa using hc)
 simp only[Instr.build,Sem.run_bind,cU hi E1,Result.andThen_ok,aY ht,cD hk,Lc,hp,h1,Sem.run_pure]
def Kt(d:Int):Option Value→Option Int
 | none=>some d
 | some (.int _ i)=>some i
 | _=>none
theorem CQ{t e:TypeId}(ht:P.underlying t=some (.slice e))(hk:tKnown P e=true){a:Option Addr}{n c:Nat}{lo hi:Option Value}{l h:Int}
  (pD:Kt 0 lo=some l) (XD:Kt n hi=some h) (h0:0≤l) (h1:l≤h) (h2:h≤(n:Int)) (h3:n≤c) :
  (Instr.sliceAt t (.slice a n c) lo hi none).run P w =
   .ok (.slice (if c=l.toNat then a else a.map (·.add (l.toNat*bQ P e))) (h.toNat-l.toNat) (c-l.toNat)) w:=by
 have hb:(Instr.sliceBounds true n c lo hi none).run P w=.ok (l.toNat,h.toNat,c) w:=by
  have hc:h≤(c:Int):=by omega
  have hlh:l≤(h.toNat:Int):=by omega
  have h0':0≤h:=by omega
  rcases lo with _|(_|⟨k1,i⟩|_|_|_|_|_|_|_|_|_|_|_|_|_)<;>simp[Kt]at pD <;>
   rcases hi with _|(_|⟨k2,j⟩|_|_|_|_|_|_|_|_|_|_|_|_|_)<;>simp[Kt]at XD<;>subst pD<;>subst XD <;>
   simp[Instr.sliceBounds,Instr.sliceBound,asIntOf, *]<;>(intro hh;omega)
 simp only[Instr.sliceAt,Instr.slice,Sem.run_bind,aY ht,Result.andThen_ok,hb,cD hk,Sem.run_pure]
theorem EC{es:Nat}{a:Option Addr}{n c:Nat}{l h:Int}{v v':Value}(hv:V ρ (.slice a n c) v')(hr:ED es a n c l h=some v) :
  ∃ a' c',v'=.slice a' n c'∧n≤c'∧0≤l∧l≤h∧h≤(n:Int) ∧
   V ρ v (.slice (if c'=l.toNat then a' else a'.map (·.add (l.toNat*es))) (h.toNat-l.toNat) (c'-l.toNat)):=by
 unfold ED at hr
 split at hr
 ·rename_i hb
  obtain⟨h0,h1,h2⟩:=hb
  cases hv with
  | yM=>
   simp at hr
   subst hr
   refine⟨none,0,rfl,Nat.le_refl _,h0,h1,h2,?_⟩
   have:l=0:=by simp at h2;omega
   subst this
   have:h=0:=by simp at h2;omega
   subst this
   simp
   exact .yM
  | @sl b o n c c' e hb hl hc=>
   simp at hr
   obtain⟨rfl,rfl⟩:=hr
   refine⟨_,c',rfl,hl,h0,h1,h2,?_⟩
   by_cases bE:c'=l.toNat
   ·have:h.toNat-l.toNat=0:=by omega
    simp[bE,this]
    exact .Ke
   ·simp only[bE,if_false,Option.map_some]
    rw[sq rfl]
    simp only[Cc,Nat.add_assoc]
    refine .sl hb (by omega) ?_
    have:o+l.toNat*c+(c'-l.toNat)*c=o+c'*c:=by
     rw[Nat.sub_mul]
     have:l.toNat*c≤c'*c:=Nat.mul_le_mul_right _ (by omega)
     omega
    omega
  | @Ke b o c a'=>
   simp at hr
   obtain⟨rfl,rfl⟩:=hr
   have:l=0:=by simp at h2;omega
   subst this
   have:h=0:=by simp at h2;omega
   subst this
   refine⟨_,0,rfl,Nat.le_refl _,h0,h1,h2,?_⟩
   simp
   exact .Ke
 ·cases hr
theorem ig(P:Program)(w:World){ev:Operand→Value}{c:Call}{b:Builtin}{t:TypeId}(hc:c.callee=.builtin b) :
  ∃ cs,(resolve ev c t).run P w=.ok { target:=.builtin b c.argTypes t cs,args:=c.args.map ev } w:=
 ⟨_,by simp only[resolve,hc];rfl⟩
theorem Ha:∀{ks:List Bool} {l m l' m':List Value} {r:Bool},VL ρ l l'→VL ρ m m'→dF ks l m=some r→dF ks l' m'=some r:=by
 intro ks
 induction ks with
 | nil=>
  intro l m l' m' r hl hm h
  cases hl with
  | nil=>cases hm with
   | nil=>exact h
   | cons _ _=>simp[dF]at h
  | cons _ _=>simp[dF]at h
 | cons q qs ih=>
  intro l m l' m' r hl hm h
  cases hl with
  | nil=>simp[dF]at h
  | @cons x x' xs FB hx hs=>cases hm with
   | nil=>simp[dF]at h
   | @cons y y' ys ys' hy ht=>
    simp only[dF]at h ⊢
    split at h
    ·rename_i a b h1 h2
     have Ll:=ih hs ht h2
     have S6:BK q x' y'=some a:=by
      unfold BK at h1
      split at h1
      ·rw[hx.cM,hy.cM];exact h1
      ·rw[hx.fg,hy.fg];exact h1
      ·cases h1
     rw[S6,Ll];exact h
    ·cases h
theorem VB{q:fY}{x y x' y':Value}{b:Bool}(hx:V ρ x x')(hy:V ρ y y')(h:Ga q x y=some b):Ga q x' y'=some b:=by
 unfold Ga at h
 split at h
 ·rw[hx.fg,hy.fg];exact h
 ·cases hx;cases hy<;>simpa[Ga]using h
 ·cases hx;cases hy;simpa[Ga]using h
 ·obtain⟨FB,rfl,hl⟩:=hx.so
  obtain⟨ys',rfl,hm⟩:=hy.so
  exact Ha hl hm h
 ·cases hy
  cases hx<;>simpa[Ga]using h
 ·cases h
theorem RT{t:TypeId}{q:fY}(hq:eqOk P (t,q)=true){x y:Value}{b:Bool}(h:Ga q x y=some b)(o1 o2:Operand)(op:BinOp) :
  (eqGuard op t o1 o2 x y).run P w=.ok () w∧(binOp .eql t x y).run P w=.ok (.bool b) w∧(binOp .neq t x y).run P w=.ok (.bool (!b)) w:=by
 have he:=RS (w:=w) hq h
 unfold Ga at h
 split at h
 ·refine⟨?_,?_,?_⟩
  ·unfold eqGuard;split<;>rfl
  ·simp only[binOp,Sem.run_bind,he,Result.andThen_ok,Sem.run_pure]
  ·simp only[binOp,Sem.run_bind,he,Result.andThen_ok,Sem.run_pure]
 ·refine⟨?_,?_,?_⟩
  ·unfold eqGuard;split<;>rfl
  ·simp only[binOp,Sem.run_bind,he,Result.andThen_ok,Sem.run_pure]
  ·simp only[binOp,Sem.run_bind,he,Result.andThen_ok,Sem.run_pure]
 ·refine⟨?_,?_,?_⟩
  ·unfold eqGuard;split<;>rfl
  ·simp only[binOp,Sem.run_bind,he,Result.andThen_ok,Sem.run_pure]
  ·simp only[binOp,Sem.run_bind,he,Result.andThen_ok,Sem.run_pure]
 ·obtain⟨fs,hu,h1,h2,h3⟩:=zy hq
  refine⟨?_,?_,?_⟩
  ·cases op<;>simp[eqGuard,h2]
  ·simp only[binOp,Sem.run_bind,he,Result.andThen_ok,Sem.run_pure]
  ·simp only[binOp,Sem.run_bind,he,Result.andThen_ok,Sem.run_pure]
 ·refine⟨?_,?_,?_⟩
  ·unfold eqGuard;split<;>rfl
  ·simp only[binOp,Sem.run_bind,he,Result.andThen_ok,Sem.run_pure]
  ·simp only[binOp,Sem.run_bind,he,Result.andThen_ok,Sem.run_pure]
 ·cases h
theorem lC{α:Type}{l:List (Nat×α)}{t:Nat}{q:α}(h:l.lookup t=some q):(t,q)∈l:=by
 induction l with
 | nil=>simp at h
 | cons p ps ih=>
  obtain⟨a,b⟩:=p
  simp only[List.lookup_cons]at h
  split at h
  ·rename_i hb;simp at hb h;subst hb;subst h;simp
  ·exact List.mem_cons_of_mem _ (ih h)
theorem kE{ev:Operand→Value}{c:Call}{l:List Operand}(h:c.args.toList=l):c.args.map ev=(l.map ev).toArray:=by
 apply Array.ext';simp[h]
theorem Lo{C:Cx}{o:Oper}{xs:List Operand}{g:List Value→Option Value}(hf:S_ C o.op=some (xs,g))(he:C.eqt.all (eqOk C.P)=true)
  {ev ev':Operand→Value} (hx:VL ρ (xs.map ev) (xs.map ev')) {v:Value} (hg:g (xs.map ev)=some v) :
  ∃ v',(execOp ev' o).run C.P w=.ok (.value v') w∧V ρ v v':=by
 have fin:∀{s:Sem Value} {v':Value},s.run C.P w=.ok v' w→(do pure (Next.value (←s)):Sem Next).run C.P w=.ok (.value v') w:=by
  intro s v' h;simp[h]
 obtain⟨dst,op,ty,pos,after,guard⟩:=o
 unfold S_ at hf
 cases op<;>simp only at hf
 case move x=>
  cases hf
  simp only[List.map_cons,List.map_nil]at hx hg
  obtain⟨x',e,hv⟩:=hx.one
  simp[zx]at hg e;subst hg
  exact⟨_,by simp[execOp],e ▸ hv⟩
 case assign x=>
  cases hf
  simp only[List.map_cons,List.map_nil]at hx hg
  obtain⟨x',e,hv⟩:=hx.one
  simp[zx]at hg e;subst hg
  exact⟨_,by simp[execOp],e ▸ hv⟩
 case pick c a b=>
  cases hf
  simp only[List.map_cons,List.map_nil]at hx hg
  obtain⟨c',a',b',e,hc,ha,hb⟩:=hx.three
  simp at e
  obtain⟨rfl,rfl,rfl⟩:=e
  unfold aB at hg
  split at hg
  ·rename_i h;cases hg;simp at h;obtain⟨h1,rfl,_⟩:=h
   rw[h1]at hc;have:=hc.fg
   exact⟨_,by simp[execOp,this,asBool],ha⟩
  ·rename_i h;cases hg;simp at h;obtain⟨h1,_,rfl⟩:=h
   rw[h1]at hc;have:=hc.fg
   exact⟨_,by simp[execOp,this,asBool],hb⟩
  ·cases hg
 case nilCheck x=>
  cases hf
  simp only[List.map_cons,List.map_nil]at hx hg
  obtain⟨x',e,hv⟩:=hx.one
  simp at e;subst e
  unfold ay at hg
  split at hg
  ·rename_i a h;cases hg;simp at h;rw[h]at hv
   obtain⟨a',e',_,_,_⟩:=hv.Br
   rw[e']at hv
   exact⟨_,by simp[execOp,e'],hv⟩
  ·cases hg
 case fieldAddr s x f=>
  split at hf
  ·rename_i fs hs
   split at hf
   ·rename_i fd DS
    split at hf
    ·rename_i hk
     cases hf
     simp only[Bool.and_eq_true,bne_iff_ne,ne_eq]at hk
     simp only[List.map_cons,List.map_nil]at hx hg
     obtain⟨x',e,hv⟩:=hx.one
     simp at e;subst e
     unfold Jw at hg
     split at hg
     ·rename_i a h;cases hg;simp at h;rw[h]at hv
      obtain⟨a',e',h1,h2,h3⟩:=hv.Br
      exact⟨_,by simp only[execOp,e'];exact fin (tP hs DS hk.1 hk.2 h1),h3 _⟩
     ·cases hg
    ·cases hf
   ·cases hf
  ·cases hf
 case field s x f=>
  split at hf
  ·rename_i fs hs
   split at hf
   ·rename_i fd DS
    split at hf
    ·rename_i hk
     cases hf
     simp only[Bool.and_eq_true]at hk
     simp only[List.map_cons,List.map_nil]at hx hg
     obtain⟨x',e,hv⟩:=hx.one
     simp at e;subst e
     unfold b7 at hg
     split at hg
     ·rename_i cs h;simp at h;rw[h]at hv
      obtain⟨cs',e',hl⟩:=hv.so
      obtain⟨hle,v',h1,h2⟩:=lW hl hg
      exact⟨v',by simp only[execOp,e'];exact fin (Ev hs DS hk.1 cs' (by simpa using hle) h1),h2⟩
     ·cases hg
    ·cases hf
   ·cases hf
  ·cases hf
 case indexAddr t x ix=>
  split at hf
  ·rename_i e ht
   split at hf
   ·rename_i hk
    cases hf
    simp only[List.map_cons,List.map_nil]at hx hg
    obtain⟨x',i',e',hv,hi⟩:=hx.two
    simp at e';obtain⟨rfl,rfl⟩:=e'
    unfold dx at hg
    split at hg
    ·rename_i a n c k i h
     simp at h;obtain⟨h1,h2⟩:=h
     rw[h1]at hv;rw[h2]at hi
     split at hg
     ·rename_i hb
      cases hg
      have ei:=hi.cM
      obtain⟨yR,Jg⟩:=hb
      generalize hX:ev' x=X at hv
      cases hv with
      | @sl b o n c c' e hb hl hc=>
       refine⟨_,by simp only[execOp,hX,ei];exact fin (Eu ht hk rfl yR Jg),?_⟩
       simpa[Cc,Nat.add_assoc]using V.ptr (o:=o+i.toNat*_) hb
      | Ke=>omega
     ·cases hg
    ·cases hg
   ·cases hf
  ·rename_i n e ht
   split at hf
   ·rename_i hk
    cases hf
    simp only[Bool.and_eq_true]at hk
    simp only[List.map_cons,List.map_nil]at hx hg
    obtain⟨x',i',e',hv,hi⟩:=hx.two
    simp at e';obtain⟨rfl,rfl⟩:=e'
    unfold RQ at hg
    split at hg
    ·rename_i a k i h
     simp at h;obtain⟨h1,h2⟩:=h
     rw[h1]at hv;rw[h2]at hi
     split at hg
     ·rename_i hb
      cases hg
      have ei:=hi.cM
      obtain⟨yR,Jg⟩:=hb
      obtain⟨a',ea,h3,h4,h5⟩:=hv.Br
      exact⟨_,by simp only[execOp,ea,ei];exact fin (xn ht hk.1 h3 yR Jg),h5 _⟩
     ·cases hg
    ·cases hg
   ·cases hf
  ·cases hf
 case index t x ix=>
  split at hf
  ·rename_i n e ht
   split at hf
   ·rename_i hk
    cases hf
    simp only[Bool.and_eq_true]at hk
    simp only[List.map_cons,List.map_nil]at hx hg
    obtain⟨x',i',e',hv,hi⟩:=hx.two
    simp at e';obtain⟨rfl,rfl⟩:=e'
    unfold Vz at hg
    split at hg
    ·rename_i cs k i h
     simp at h;obtain⟨h1,h2⟩:=h
     rw[h1]at hv;rw[h2]at hi
     split at hg
     ·rename_i hb
      have ei:=hi.cM
      obtain⟨yR,Jg⟩:=hb
      obtain⟨cs',e',hl⟩:=hv.so
      obtain⟨hle,v',h1,h2⟩:=lW hl hg
      exact⟨v',by simp only[execOp,e',ei];exact fin (Et ht hk.1 cs' yR Jg (by simpa using hle) h1),h2⟩
     ·cases hg
    ·cases hg
   ·cases hf
  ·cases hf
 case extract x ix=>
  cases hf
  simp only[List.map_cons,List.map_nil]at hx hg
  obtain⟨x',e,hv⟩:=hx.one
  simp at e;subst e
  unfold dH at hg
  split at hg
  ·rename_i vs h
   simp at h;rw[h]at hv
   split at hg
   ·cases hg
   ·rename_i hs
    obtain⟨pG,e',hl⟩:=hv.KB hs
    obtain⟨v',h1,h2⟩:=hl.get hg
    refine⟨v',?_,h2⟩
    have:pG[ix]?=some v':=by simpa using h1
    simp[execOp,e',Instr.extract,this]
  ·cases hg
 case binOp bop t x y yt=>
  cases hf
  simp only[List.map_cons,List.map_nil]at hx hg
  obtain⟨x',y',e,Kj,Ki⟩:=hx.two
  simp at e;obtain⟨rfl,rfl⟩:=e
  unfold aq at hg
  split at hg
  ·rename_i k a k' b h
   simp at h;obtain⟨h1,h2⟩:=h
   rw[h1]at Kj;rw[h2]at Ki
   have ex:=Kj.cM
   have ey:=Ki.cM
   split at hg
   ·rename_i hs
    refine⟨v,?_,?_⟩
    ·simp only[execOp,ex,ey]
     refine fin ?_
     rw[Sem.run_bind,tX,Result.andThen_ok,Q8 t hs hg]
    ·unfold SE at hg
     split at hg
     ·cases hg
     ·split at hg<;>cases hg<;>exact .int _ _
   ·rename_i hs
    split at hg
    ·rename_i XA;subst XA
     simp at hs
     refine⟨v,?_,?_⟩
     ·simp only[execOp,ex,ey]
      refine fin ?_
      rw[Sem.run_bind,tX,Result.andThen_ok,Hs t hs,E0 hg hs]
     ·unfold mZ at hg
      split at hg<;>first
       | (cases hg;exact .int _ _)
       | (cases hg;exact .bool _)
       | (split at hg<;>cases hg;exact .int _ _)
       | cases hg
    ·cases hg
  ·rename_i x0 y0 B_ h
   simp at h;obtain⟨h1,h2⟩:=h
   rw[h1]at Kj;rw[h2]at Ki
   have hq:∀{b:Bool},Ga ((C.eqt.lookup t).getD .no) x0 y0=some b→(eqGuard bop t x y (ev' x) (ev' y)).run C.P w=.ok () w ∧
     (binOp .eql t (ev' x) (ev' y)).run C.P w=.ok (.bool b) w∧(binOp .neq t (ev' x) (ev' y)).run C.P w=.ok (.bool (!b)) w:=by
    intro b hb
    cases hl:C.eqt.lookup t with
    | none=>rw[hl]at hb;simp[Ga]at hb
    | some q=>
     rw[hl]at hb
     exact RT (List.all_eq_true.1 he _ (lC hl)) (VB Kj Ki hb) x y bop
   split at hg
   ·simp only[Option.map_eq_some_iff]at hg
    obtain⟨b,hb,rfl⟩:=hg
    obtain⟨q1,q2,q3⟩:=hq hb
    refine⟨_,?_,.bool b⟩
    simp only[execOp]
    refine fin ?_
    rw[Sem.run_bind,q1,Result.andThen_ok,q2]
   ·simp only[Option.map_eq_some_iff]at hg
    obtain⟨b,hb,rfl⟩:=hg
    obtain⟨q1,q2,q3⟩:=hq hb
    refine⟨_,?_,.bool (!b)⟩
    simp only[execOp]
    refine fin ?_
    rw[Sem.run_bind,q1,Result.andThen_ok,q3]
   ·cases hg
  ·cases hg
 case unOp uop t x=>
  cases hf
  simp only[List.map_cons,List.map_nil]at hx hg
  obtain⟨x',e,hv⟩:=hx.one
  simp at e;subst e
  unfold mV at hg
  split at hg
  ·rename_i b h;simp at h;rw[h]at hv
   split at hg
   ·rename_i hu;subst hu;cases hg
    exact⟨_,by simp[execOp,hv.fg,Op.unary],.bool _⟩
   ·cases hg
  ·rename_i k n h;simp at h;rw[h]at hv
   split at hg
   ·rename_i hu;subst hu;cases hg
    exact⟨_,by simp[execOp,hv.cM,Op.unary,Op.intArith],.int _ _⟩
   ·cases hg
  ·cases hg
 case convert src dst x=>
  split at hf
  ·rename_i k1 k2 h1 h2
   cases hf
   simp only[List.map_cons,List.map_nil]at hx hg
   obtain⟨x',e,hv⟩:=hx.one
   simp at e;subst e
   unfold cZ at hg
   split at hg
   ·rename_i k n h;simp at h;rw[h]at hv;cases hg
    exact⟨_,by simp[execOp,hv.cM,convert,aY h1,aY h2,Conv.intToInt],.int _ _⟩
   ·cases hg
  ·cases hf
 case makeInterface t x=>
  split at hf
  ·cases hf
  ·cases hf
  ·rename_i h1 h2
   cases hf
   simp only[List.map_cons,List.map_nil]at hx hg
   obtain⟨x',e,hv⟩:=hx.one
   simp at e;subst e
   simp[E9]at hg;subst hg
   obtain⟨d,hd⟩:∃ d,C.P.underlying t=some d:=by
    cases hu:C.P.underlying t with
    | none=>exact absurd hu h2
    | some d=>exact⟨d,rfl⟩
   refine⟨_,?_,.iface t hv⟩
   simp only[execOp]
   refine fin ?_
   simp only[Instr.makeInterface,Sem.run_bind,aY hd,Result.andThen_ok]
   cases d<;>first|rfl|exact absurd hd (h1 _)
 case build t parts=>
  split at hf
  ·rename_i fs z ht hz
   split at hf
   ·rename_i hk
    cases hf
    obtain⟨v',h1,h2⟩:=run_build (w:=w) ht hz (fun f hf=>Array.all_eq_true_iff_forall_mem.1 hk f hf) (jk (ev:=ev') parts) hx hg
    exact⟨v',by simp only[execOp];exact fin h1,h2⟩
   ·cases hf
  ·rename_i n e z ht hz
   split at hf
   ·rename_i hk
    cases hf
    obtain⟨v',h1,h2⟩:=Ew (w:=w) ht hz hk (jk (ev:=ev') parts) hx hg
    exact⟨v',by simp only[execOp];exact fin h1,h2⟩
   ·cases hf
  ·cases hf
 case slice t x lo hi mx=>
  cases mx with
  | some _=>simp at hf
  | none=>
   simp only at hf
   split at hf
   ·rename_i e ht
    split at hf
    ·rename_i hk
     cases hf
     have core:∀{a:Option Addr} {n c:Nat} {l h:Int},V ρ (.slice a n c) (ev' x)→Kt 0 (lo.map ev')=some l→(∀ n:Nat,h=n∨True→Kt n (hi.map ev')=some h∨hi=none) →
       (hi=none→h=n)→ED (bQ C.P e) a n c l h=some v→∃ v',(execOp ev' ⟨dst,.slice t x lo hi none,ty,pos,after,guard⟩).run C.P w=.ok (.value v') w∧V ρ v v':=by
      intro a n c l h hv pD XD hn hr
      obtain⟨a',c',e',h3,h0,h1,h2,hV⟩:=EC hv hr
      refine⟨_,?_,hV⟩
      simp only[execOp,e',Option.map_none]
      refine fin (CQ ht hk pD ?_ h0 h1 h2 h3)
      rcases XD n (.inr trivial)with h|h
      ·exact h
      ·rw[h,hn h];rfl
     unfold fSl at hg
     cases lo with
     | none=>
      cases hi with
      | none=>
       simp only[Option.toList,List.append_nil,List.map_cons,List.map_nil]at hx hg
       split at hg
       ·rename_i a n c h
        simp at h hg
        obtain⟨x',e',hv⟩:=hx.one
        simp at e';subst e'
        rw[h]at hv
        exact core hv rfl (fun _ _=>.inr rfl) (fun _=>rfl) hg
       ·rename_i h;simp at h
       ·rename_i h;simp at h
       ·cases hg
      | some hi=>
       simp only[Option.toList,List.append_nil,List.cons_append,List.nil_append,List.map_cons,List.map_nil]at hx hg
       split at hg
       ·rename_i h;simp at h
       ·rename_i a n c k i h
        simp at h hg
        obtain⟨x',y',e',hv,hy⟩:=hx.two
        simp at e';obtain⟨rfl,rfl⟩:=e'
        rw[h.1]at hv;rw[h.2]at hy
        exact core hv rfl (fun _ _=>.inl (by simp[hy.cM,Kt])) (fun h=>by cases h) hg
       ·rename_i h;simp at h
       ·cases hg
     | some lo=>
      cases hi with
      | none=>
       simp only[Option.toList,List.append_nil,List.cons_append,List.nil_append,List.map_cons,List.map_nil]at hx hg
       split at hg
       ·rename_i h;simp at h
       ·rename_i a n c k i h
        simp at h hg
        obtain⟨x',y',e',hv,hy⟩:=hx.two
        simp at e';obtain⟨rfl,rfl⟩:=e'
        rw[h.1]at hv;rw[h.2]at hy
        exact core hv (by simp[hy.cM,Kt]) (fun _ _=>.inr rfl) (fun _=>rfl) hg
       ·rename_i h;simp at h
       ·cases hg
      | some hi=>
       simp only[Option.toList,List.cons_append,List.nil_append,List.map_cons,List.map_nil]at hx hg
       split at hg
       ·rename_i h;simp at h
       ·rename_i h;simp at h
       ·rename_i a n c k i k2 j h
        simp at h hg
        obtain⟨x',y',z',e',hv,hy,hz⟩:=hx.three
        simp at e';obtain⟨rfl,rfl,rfl⟩:=e'
        rw[h.1]at hv;rw[h.2.1]at hy;rw[h.2.2]at hz
        exact core hv (by simp[hy.cM,Kt]) (fun _ _=>.inl (by simp[hz.cM,Kt])) (fun h=>by cases h) hg
       ·cases hg
    ·cases hf
   ·cases hf
 case call c=>
  split at hf
  ·rename_i x t hc ha ht
   split at hf
   ·rename_i e hu
    cases hf
    simp only[List.map_cons,List.map_nil]at hx hg
    obtain⟨x',e',hv⟩:=hx.one
    simp at e';subst e'
    unfold jS at hg
    split at hg
    ·rename_i a n c0 h
     simp at h;rw[h]at hv;cases hg
     have hlen:∃ a' c',ev' x=.slice a' n c':=by
      generalize hX:ev' x=X at hv
      cases hv<;>exact⟨_,_,rfl⟩
     obtain⟨a',c',e'⟩:=hlen
     obtain⟨cs,hr⟩:=ig C.P w (ev:=ev') (t:=ty) hc
     refine⟨_,?_,.int _ _⟩
     have iM:c.argTypes=#[t]:=Array.ext' (by simpa using ht)
     simp only[execOp,Sem.run_bind,hr,Result.andThen_ok,invoke,builtin,kE ha,iM,List.map_cons,List.map_nil]
     simp[Builtin.len_,aY hu,e',goInt]
    ·cases hg
   ·cases hf
  ·rename_i x y hc ha
   cases hf
   simp only[List.map_cons,List.map_nil]at hx hg
   obtain⟨x',y',e',Kj,Ki⟩:=hx.two
   simp at e';obtain⟨rfl,rfl⟩:=e'
   unfold Jv at hg
   split at hg
   ·rename_i k a k2 b h
    simp at h;rw[h.1]at Kj;rw[h.2]at Ki;cases hg
    obtain⟨cs,hr⟩:=ig C.P w (ev:=ev') (t:=ty) hc
    refine⟨_,?_,.int _ _⟩
    simp only[execOp,Sem.run_bind,hr,Result.andThen_ok,invoke,builtin,kE ha,List.map_cons,List.map_nil]
    simp[Builtin.min_,Builtin.min2,Kj.cM,Ki.cM]
   ·cases hg
  ·rename_i x y hc ha
   cases hf
   simp only[List.map_cons,List.map_nil]at hx hg
   obtain⟨x',y',e',Kj,Ki⟩:=hx.two
   simp at e';obtain⟨rfl,rfl⟩:=e'
   unfold Lp at hg
   split at hg
   ·rename_i k a k2 b h
    simp at h;rw[h.1]at Kj;rw[h.2]at Ki;cases hg
    obtain⟨cs,hr⟩:=ig C.P w (ev:=ev') (t:=ty) hc
    refine⟨_,?_,.int _ _⟩
    simp only[execOp,Sem.run_bind,hr,Result.andThen_ok,invoke,builtin,kE ha,List.map_cons,List.map_nil]
    simp[Builtin.max_,Builtin.max2,Kj.cM,Ki.cM]
   ·cases hg
  ·cases hf
 all_goals cases hf
end
end Go.Fl
namespace Go.Fl
open Go
structure tI(w w':World):Prop where
 os:w'.os=w.os
 tape:w'.tape=w.tape
 output:w'.output=w.output
theorem tI.refl(w:World):tI w w:=⟨rfl,rfl,rfl⟩
theorem tI.trans{a b c:World}(h:tI a b)(k:tI b c):tI a c:=⟨k.os.trans h.os,k.tape.trans h.tape,k.output.trans h.output⟩
structure Hz(w:World)(b:Nat)(o:Obj)(w':World):Prop where
 same:tI w w'
 size:w'.heap.size=w.heap.size
 rest:∀ k,k≠b→w'.heap[k]?=w.heap[k]?
 here:w'.heap[b]?=some o
structure Fy(w:World)(o:Obj)(w':World):Prop where
 same:tI w w'
 size:w'.heap.size=w.heap.size+1
 rest:∀ k,k<w.heap.size→w'.heap[k]?=w.heap[k]?
 here:w'.heap[w.heap.size]?=some o
section
variable{P:Program}{w:World}{ρ:dS}
theorem kB(w:World)(o:Obj):Fy w o { w with heap:=w.heap.push o }:=
 ⟨⟨rfl,rfl,rfl⟩,by simp,fun k hk=>by simp[Array.getElem?_push,Nat.ne_of_lt hk],by simp⟩
theorem cell_of{b o:Nat}{arr:Array Value}{el:TypeId}{fz:Nat×Nat}(h:w.heap[b]?=some (.cells arr el fz)):w.cell? ⟨b,o,none⟩=arr[o]?:=by
 simp[World.cell?,h]
theorem y7{b o:Nat}{arr:Array Value}{el:TypeId}{fz:Nat×Nat}(h:w.heap[b]?=some (.cells arr el fz)){v:Value}(hv:arr[o]?=some v) :
  (load ⟨b,o,none⟩).run P w=.ok v w:=by
 simp[cell_of h,hv]
theorem yj(b o n:Nat):Addr.add ⟨b,o,none⟩ n=⟨b,o+n,none⟩:=sq rfl n
theorem run_loadCellsFrom{b o:Nat}{arr:Array Value}{el:TypeId}{fz:Nat×Nat}(h:w.heap[b]?=some (.cells arr el fz)):∀(n i:Nat) (acc:Array Value),
  o+i+n≤arr.size→(loadCellsFrom ⟨b,o,none⟩ i n acc).run P w=.ok (acc++((arr.toList.drop (o+i)).take n).toArray) w:=by
 intro n
 induction n with
 | zero=>intro i acc _;simp[loadCellsFrom]
 | succ n ih=>
  intro i acc hle
  have iL:o+i<arr.size:=by omega
  have hv:arr[o+i]?=some arr[o+i]:=by simp[iL]
  simp only[loadCellsFrom,Sem.run_bind,yj,y7 h hv,Result.andThen_ok]
  rw[ih (i+1) _ (by omega)]
  congr 1
  apply Array.ext'
  have hl:o+i<arr.toList.length:=by simpa using iL
  rw[List.drop_eq_getElem_cons hl]
  simp[Nat.add_assoc]
theorem og{t:TypeId}(hk:tKnown P t=true)(hA:jy P t=true∨bQ P t=1){b o:Nat}{arr:Array Value}{el:TypeId}{fz:Nat×Nat}
  (h:w.heap[b]?=some (.cells arr el fz)) (hl:o+bQ P t≤arr.size) {v:Value}
  (hv:(if jy P t then some (.agg ((arr.toList.drop o).take (bQ P t)).toArray)else arr.toList[o]?)=some v):(loadVar t ⟨b,o,none⟩).run P w=.ok v w:=by
 simp only[loadVar,Sem.run_bind,mN hk,Result.andThen_ok]
 cases hg:jy P t
 ·simp only[hg,Bool.false_eq_true,if_false]at hv ⊢
  exact y7 h (by simpa using hv)
 ·simp only[hg,if_true,Option.some.injEq]at hv ⊢
  subst hv
  simp only[Sem.run_bind,cD hk,Result.andThen_ok,loadCells,run_loadCellsFrom h _ 0 #[] (by simpa using hl),Sem.run_pure]
  simp
theorem G8{b o:Nat}{arr:Array Value}{el:TypeId}(h:w.heap[b]?=some (.cells arr el (0,0))):w.frozen? ⟨b,o,none⟩=false:=by
 simp[World.frozen?,h]
theorem Ct{b o:Nat}{arr:Array Value}{el:TypeId}(h:w.heap[b]?=some (.cells arr el (0,0)))(v:Value) :
  Hz w b (.cells (arr.setIfInBounds o v) el (0,0)) (w.setCell ⟨b,o,none⟩ v):=by
 refine⟨⟨rfl,rfl,rfl⟩,by simp[World.setCell],fun k hk=>?_,?_⟩
 ·simp[World.setCell,Array.getElem?_modify,Ne.symm hk]
 ·simp[World.setCell,Array.getElem?_modify,h]
theorem Hz.trans{b:Nat}{o o':Obj}{w w' w'':World}(h:Hz w b o w')(k:Hz w' b o' w''):Hz w b o' w'':=
 ⟨h.same.trans k.same,k.size.trans h.size,fun i hi=>(k.rest i hi).trans (h.rest i hi),k.here⟩
theorem Es{b o:Nat}{arr:Array Value}{el:TypeId}(h:w.heap[b]?=some (.cells arr el (0,0))){v:Value}(hv:dV v=true)(ho:o<arr.size) :
  (store ⟨b,o,none⟩ v).run P w=.ok () (w.setCell ⟨b,o,none⟩ v):=by
 rw[run_store P w _ v _ (by cases v<;>first|rfl|cases hv)]
 simp[cell_of h,ho,G8 h]
theorem od{b o:Nat}{el:TypeId}:∀(vs:List Value) (i:Nat) (w:World) (arr:Array Value),w.heap[b]?=some (.cells arr el (0,0)) →
  (∀ v∈vs,dV v=true)→o+i+vs.length≤arr.size →
  ∃ w',(storeCells ⟨b,o,none⟩ vs i).run P w=.ok () w'∧(vs≠[]→Hz w b (.cells (lay arr.toList (o+i) vs).toArray el (0,0)) w')∧(vs=[]→w'=w):=by
 intro vs
 induction vs with
 | nil=>intro i w arr h _ _;exact⟨w,by simp[storeCells],fun h=>absurd rfl h,fun _=>rfl⟩
 | cons v vs ih=>
  intro i w arr h rU hle
  simp only[List.length_cons]at hle
  have hs:=Es (P:=P) (o:=o+i) h (rU v (by simp)) (by omega)
  have hu:=Ct (o:=o+i) h v
  obtain⟨w',h1,h2,h3⟩:=ih (i+1) _ (arr.setIfInBounds (o+i) v) hu.here (fun x hx=>rU x (by simp[hx])) (by simp;omega)
  refine⟨w',?_,fun _=>?_,fun h=>by cases h⟩
  ·simp only[storeCells,Sem.run_bind,yj,hs,Result.andThen_ok,h1]
  ·have iL:o+i<arr.toList.length:=by simp;omega
   have key:lay arr.toList (o+i) (v::vs)=lay (arr.setIfInBounds (o+i) v).toList (o+(i+1)) vs:=by
    unfold lay
    simp only[Array.toList_setIfInBounds,List.length_cons]
    rw[show o+(i+1)=o+i+1 from by omega,List.take_succ_eq_append_getElem (by simpa using iL)]
    simp only[List.getElem_set_self]
    rw[List.take_set_of_le (Nat.le_refl _),List.drop_set_of_lt (by omega)]
    simp[Nat.add_assoc,Nat.add_comm 1]
   rw[key]
   cases vs with
   | nil=>
    have:=h3 rfl
    subst this
    have e:(lay (arr.setIfInBounds (o+i) v).toList (o+(i+1)) []).toArray=arr.setIfInBounds (o+i) v:=by
     apply Array.ext';simp[lay]
    rw[e];exact hu
   | cons x xs=>exact hu.trans (h2 (by simp))
theorem rN{t:TypeId}(hk:tKnown P t=true){b o:Nat}{el:TypeId}{arr:Array Value}(h:w.heap[b]?=some (.cells arr el (0,0)))
  {x:Value} {c:List Value} (hc:cellsOf x (bQ P t)=some c) (ho:∀ v∈c,dV v=true) (hl:o+bQ P t≤arr.size) :
  ∃ w',(storeVar t ⟨b,o,none⟩ x).run P w=.ok () w'∧Hz w b (.cells (lay arr.toList o c).toArray el (0,0)) w':=by
 obtain⟨e1,e2,e3⟩:=kH hc
 obtain⟨w',h1,h2,h3⟩:=od (P:=P) (o:=o) c 0 w arr h ho (by omega)
 refine⟨w',?_,?_⟩
 ·simp only[storeVar,Sem.run_bind,cD hk,Result.andThen_ok,e2,ne_eq,not_true_eq_false,if_false,Sem.run_ite,e1]
  exact h1
 ·by_cases hn:c=[]
  ·have:=h3 hn
   subst this
   subst hn
   have e:(lay arr.toList o []).toArray=arr:=by apply Array.ext';simp[lay]
   rw[e]
   exact⟨tI.refl _,rfl,fun _ _=>rfl,h⟩
  ·exact h2 hn
theorem V.dV{v v':Value}(h:V ρ v v')(ho:Fl.dV v=true):Fl.dV v'=true:=by
 cases h<;>first|rfl|cases ho
theorem VL.dV{l l':List Value}(h:VL ρ l l')(ho:l.all Fl.dV=true):∀ v∈l',Fl.dV v=true:=by
 induction h with
 | nil=>simp
 | cons h _ ih=>
  simp only[List.all_cons,Bool.and_eq_true]at ho
  intro v hv
  rcases List.mem_cons.1 hv with rfl|hv
  ·exact h.dV ho.1
  ·exact ih ho.2 v hv
end
def uG(arr:Array Value)(sh n:Nat):List Value:=(arr.toList.drop sh).take n
structure lp(ρ:dS)(σ:Mem)(w:World):Prop where
 s1:∀ id cJ,σ.get id=some cJ→∃ e arr el fz,ρ id=some e∧w.heap[e.cJ]?=some (.cells arr el fz)∧e.sh+e.cap≤arr.size ∧
  cJ.cells.length≤e.cap∧VL ρ cJ.cells (uG arr e.sh cJ.cells.length)∧(cJ.rw=true→fz=(0,0))
 s2:∀ i j bi bj ei ej,i≠j→σ.get i=some bi→σ.get j=some bj→bi.rw=true→ρ i=some ei→ρ j=some ej→ei.cJ≠ej.cJ
 s3:∃ N,∀ i,N≤i→ρ i=none
def yk(r:Bool)(ρ:dS)(σ:Mem)(b:Nat):Prop:=∃ id cJ e,σ.get id=some cJ∧(r=true→cJ.rw=true)∧ρ id=some e∧e.cJ=b
structure yU(ρ0:dS)(σ0:Mem)(w0:World)(ρ:dS)(σ:Mem)(w:World):Prop where
 le:ρ0.le ρ
 same:tI w0 w
 size:w0.heap.size≤w.heap.size
 aL:∀ b,b<w0.heap.size→¬ yk true ρ0 σ0 b→w.heap[b]?=w0.heap[b]?
 own:∀ r b,b<w0.heap.size→yk r ρ σ b→yk r ρ0 σ0 b
theorem yU.refl(ρ:dS)(σ:Mem)(w:World):yU ρ σ w ρ σ w:=⟨fun _ _ h=>h,tI.refl _,Nat.le_refl _,fun _ _ _=>rfl,fun _ _ _ h=>h⟩
theorem yU.trans{ρ0 ρ1 ρ2 : dS}{σ0 σ1 σ2 : Mem}{w0 w1 w2 : World}(h : yU ρ0 σ0 w0 ρ1 σ1 w1)(k : yU ρ1 σ1 w1 ρ2 σ2 w2) : yU ρ0 σ0 w0 ρ2 σ2 w2 :=
  ⟨fun i e he => k.le _ _ (h.le _ _ he), h.same.trans k.same, Nat.le_trans h.size k.size,
   fun b hb hn => (k.aL b (Nat.lt_of_lt_of_le hb h.size) fun ho => hn (h.own _ _ hb ho)).trans (h.aL b hb hn),
   fun r b hb ho => h.own _ _ hb (k.own _ _ (Nat.lt_of_lt_of_le hb h.size) ho)⟩
theorem yk.O6{r:Bool}{ρ:dS}{σ:Mem}{b:Nat}(h:yk r ρ σ b):yk false ρ σ b:=
 let ⟨i,cJ,e,h1,_,h2,h3⟩:=h;⟨i,cJ,e,h1,fun h=>(Bool.noConfusion h),h2,h3⟩
theorem yk.lt{r:Bool}{ρ:dS}{σ:Mem}{w:World}(hs:lp ρ σ w){b:Nat}(h:yk r ρ σ b):b<w.heap.size:=by
 obtain⟨i,cJ,e,h1,_,h2,rfl⟩:=h
 obtain⟨e',arr,el,fz,h3,h4,_⟩:=hs.s1 _ _ h1
 rw[h2]at h3;cases h3
 exact(Array.getElem?_eq_some_iff.1 h4).1
theorem Mem.cE(σ:Mem)(i j:Nat)(b:uc):(σ.set i b).get j=if j=i then some b else σ.get j:=rfl
theorem Mem.rZ(σ:Mem)(i j:Nat):(σ.del i).get j=if j=i then none else σ.get j:=rfl
theorem lp.del{ρ:dS}{σ:Mem}{w:World}(h:lp ρ σ w)(i:Nat):lp ρ (σ.del i) w:=by
 refine⟨fun id cJ hg=>h.s1 id cJ ?_,fun a b ba bb ea eb hn h1 h2=>h.s2 a b ba bb ea eb hn ?_ ?_,h.s3⟩
 ·rw[Mem.rZ]at hg;split at hg
  ·cases hg
  ·exact hg
 ·rw[Mem.rZ]at h1;split at h1
  ·cases h1
  ·exact h1
 ·rw[Mem.rZ]at h2;split at h2
  ·cases h2
  ·exact h2
theorem yk.Re{r:Bool}{ρ:dS}{σ:Mem}{i b:Nat}(h:yk r ρ (σ.del i) b):yk r ρ σ b:=by
 obtain⟨id,cJ,e,h1,h2,h3⟩:=h
 rw[Mem.rZ]at h1
 split at h1
 ·cases h1
 ·exact⟨id,cJ,e,h1,h2,h3⟩
theorem lp.push{ρ:dS}{σ:Mem}{w w':World}(h:lp ρ σ w){id:Nat}(hσ:σ.get id=none)(hρ:ρ id=none){c:List Value}{arr:Array Value}{el:TypeId}
  (hp:Fy w (.cells arr el (0,0)) w') {cap:Nat} (Lh:cap≤arr.size) (hlen:c.length≤cap) (hv:VL ρ c (uG arr 0 c.length)) :
  ∃ ρ',ρ' id=some ⟨w.heap.size,0,cap⟩∧lp ρ' (σ.set id ⟨c,true⟩) w'∧yU ρ σ w ρ' (σ.set id ⟨c,true⟩) w'∧(∀ b,yk false ρ' (σ.set id ⟨c,true⟩) b→b<w.heap.size→yk false ρ σ b):=by
 refine⟨fun j=>if j=id then some ⟨w.heap.size,0,cap⟩else ρ j,by simp,?_,?_,?_⟩
 ·have hle:ρ.le (fun j=>if j=id then some ⟨w.heap.size,0,cap⟩else ρ j):=fun j e he=>by
   dsimp only;split
   ·rename_i hj;subst hj;rw[hρ]at he;cases he
   ·exact he
  refine⟨fun j cJ hg=>?_,fun a b ba bb ea eb hn h1 h2 xH e1 e2=>?_,?_⟩
  ·rw[Mem.cE]at hg
   split at hg
   ·rename_i hj;subst hj;cases hg
    exact⟨⟨w.heap.size,0,cap⟩,arr,el,(0,0),by simp,hp.here,by simpa using Lh,hlen,hv.mono hle,fun _=>rfl⟩
   ·rename_i hj
    obtain⟨e,Dz,MY,fz,q1,q2,q3,q4,q5,q6⟩:=h.s1 _ _ hg
    exact⟨e,Dz,MY,fz,by simp[hj,q1],by rw[hp.rest _ (Array.getElem?_eq_some_iff.1 q2).1];exact q2,q3,q4,q5.mono hle,q6⟩
  ·rw[Mem.cE]at h1 h2
   have old:∀{j:Nat} {bj:uc} {e:RE},σ.get j=some bj→ρ j=some e→e.cJ<w.heap.size:=by
    intro j bj e hj he
    exact yk.lt h (r:=false) ⟨j,bj,e,hj,fun h=>(Bool.noConfusion h),he,rfl⟩
   by_cases ha:a=id
   ·subst ha
    simp at e1;subst e1
    have hb:¬ b=a:=fun e=>hn e.symm
    rw[ae hb]at h2 e2
    exact fun e=>Nat.lt_irrefl _ (e ▸ old h2 e2)
   ·rw[ae ha]at h1 e1
    by_cases hb:b=id
    ·subst hb
     simp at e2;subst e2
     exact fun e=>Nat.lt_irrefl _ (e ▸ old h1 e1)
    ·rw[ae hb]at h2 e2
     exact h.s2 _ _ _ _ _ _ hn h1 h2 xH e1 e2
  ·obtain⟨N,hN⟩:=h.s3
   exact⟨N+id+1,fun i hi=>by rw[ae (by omega)];exact hN i (by omega)⟩
 ·refine⟨fun j e he=>?_,hp.same,by rw[hp.size];omega,fun b hb _=>hp.rest b hb,fun r b hb ho=>?_⟩
  ·split
   ·rename_i hj;subst hj;rw[hρ]at he;cases he
   ·exact he
  ·obtain⟨j,cJ,e,h1,h2,h3,h4⟩:=ho
   rw[Mem.cE]at h1
   dsimp only at h3
   by_cases hj:j=id
   ·subst hj;simp at h3;subst h3;simp at h4;omega
   ·rw[ae hj]at h1 h3
    exact⟨j,cJ,e,h1,h2,h3,h4⟩
 ·intro b ho hb
  obtain⟨j,cJ,e,h1,h2,h3,h4⟩:=ho
  rw[Mem.cE]at h1
  dsimp only at h3
  by_cases hj:j=id
  ·subst hj;simp at h3;subst h3;simp at h4;omega
  ·rw[ae hj]at h1 h3
   exact⟨j,cJ,e,h1,h2,h3,h4⟩
theorem Ky{arr:Array Value}{sh n o:Nat}{c:List Value}(h1:o+c.length≤n)(h2:sh+n≤arr.size) :
  uG (lay arr.toList (sh+o) c).toArray sh n=lay (uG arr sh n) o c:=by
 unfold uG lay
 apply List.ext_getElem
 ·simp;omega
 ·intro i hi xI
  simp only[List.getElem_take,List.getElem_drop,List.getElem_append,List.length_append,List.length_take,List.length_drop,Array.getElem_toList]
  simp only[List.length_take,List.length_drop,List.length_append]at hi xI
  have e1:min (sh+o) arr.toList.length=sh+o:=by simp at *;omega
  have e2:min o (min n (arr.toList.length-sh))=o:=by simp at *;omega
  simp only[e1,e2]
  by_cases q1:i<o
  ·simp[q1,show sh+i<sh+o from by omega,show sh+i<sh+o+c.length from by omega,show i<o+c.length from by omega]
  ·by_cases q2:i<o+c.length
   ·simp[q1,q2,show ¬ sh+i<sh+o from by omega,show sh+i<sh+o+c.length from by omega]
    congr 1;omega
   ·simp[q2,show ¬ sh+i<sh+o+c.length from by omega]
    congr 1;omega
theorem lp.aX{ρ:dS}{σ:Mem}{w w':World}(h:lp ρ σ w){id:Nat}{cJ:uc}(hg:σ.get id=some cJ)(xH:cJ.rw=true){e:RE}(he:ρ id=some e)
  {arr:Array Value} {el:TypeId} (hb:w.heap[e.cJ]?=some (.cells arr el (0,0))) {o:Nat} {c c':List Value} (hl:o+c.length≤cJ.cells.length) (hc:VL ρ c c')
  (hu:Hz w e.cJ (.cells (lay arr.toList (e.sh+o) c').toArray el (0,0)) w') :
  lp ρ (σ.set id ⟨lay cJ.cells o c,true⟩) w'∧yU ρ σ w ρ (σ.set id ⟨lay cJ.cells o c,true⟩) w'∧(∀ b,yk false ρ (σ.set id ⟨lay cJ.cells o c,true⟩) b→yk false ρ σ b):=by
 obtain⟨e',Dz,MY,fz,q1,q2,q3,q4,q5,q6⟩:=h.s1 _ _ hg
 rw[he]at q1;cases q1
 rw[hb]at q2;cases q2
 have hlen:(lay cJ.cells o c).length=cJ.cells.length:=by simp[lay];omega
 have C5:∀ r b,yk r ρ (σ.set id ⟨lay cJ.cells o c,true⟩) b→yk r ρ σ b:=by
  intro r b ho
  obtain⟨j,bj,ej,h1,h2,h3,h4⟩:=ho
  rw[Mem.cE]at h1
  split at h1
  ·rename_i hj;subst hj
   exact⟨j,cJ,ej,hg,fun _=>xH,h3,h4⟩
  ·exact⟨j,bj,ej,h1,h2,h3,h4⟩
 refine⟨⟨fun j bj hj=>?_,fun a b ba bb ea eb hn h1 h2 hr e1 e2=>?_,h.s3⟩,⟨fun _ _ h=>h,hu.same,by rw[hu.size];exact Nat.le_refl _,fun b vm hn=>?_,fun r b _ ho=>C5 r b ho⟩,fun b=>C5 false b⟩
 ·rw[Mem.cE]at hj
  split at hj
  ·rename_i F2;subst F2;cases hj
   refine⟨e,_,el,(0,0),he,hu.here,?_,by simp only;rw[hlen];exact q4,?_,fun _=>rfl⟩
   ·simp[lay,hc.len.symm];omega
   ·simp only[hlen]
    rw[Ky (by rw[←hc.len];exact hl) (by omega)]
    exact q5.lay hc o
  ·rename_i F2
   obtain⟨e2,Sp,el2,fz2,r1,r2,r3,r4,r5,r6⟩:=h.s1 _ _ hj
   have:e2.cJ≠e.cJ:=fun hh=>h.s2 _ _ _ _ _ _ (Ne.symm F2) hg hj xH he r1 hh.symm
   exact⟨e2,Sp,el2,fz2,r1,by rw[hu.rest _ this];exact r2,r3,r4,r5,r6⟩
 ·have old:∀{j:Nat} {bj:uc},(σ.set id ⟨lay cJ.cells o c,true⟩).get j=some bj→∃ bj',σ.get j=some bj'∧bj'.rw=bj.rw:=by
   intro j bj hj
   rw[Mem.cE]at hj
   split at hj
   ·rename_i F2;subst F2;cases hj;exact⟨cJ,hg,xH⟩
   ·exact⟨bj,hj,rfl⟩
  obtain⟨ba',S6,r1⟩:=old h1
  obtain⟨bb',Ll,r2⟩:=old h2
  exact h.s2 _ _ _ _ _ _ hn S6 Ll (r1.trans hr) e1 e2
 ·exact hu.rest b fun hh=>hn ⟨id,cJ,e,hg,fun _=>xH,he,hh.symm⟩
end Go.Fl
namespace Go.Fl
open Go
def DJ(lm:Nat→Option Nat)(k:Nat)(v v':Value):Prop:=
 FX v=true∨(∃ o b,v=.pointer (some ⟨k,o,some 0⟩)∧lm k=some b∧v'=.pointer (some ⟨b,o,none⟩)) ∨
  (∃ o b n es c',v=.slice (some ⟨k,o,some 0⟩) n es∧lm k=some b∧v'=.slice (some ⟨b,o,none⟩) n c')
structure FI(C:Cx)(ρ0:dS)(σ0:Mem)(w0:World)(lm:Nat→Option Nat)(ρ:dS)(s:St)(σ:Mem)(a:Act)(w:World):Prop where
 s_:lp ρ σ w
 qw:yU ρ0 σ0 w0 ρ σ w
 n:a.tmps.size=C.n
 df:a.defers=[]
 tm:∀ t,C.loc.lookup t=none→V ρ (s.t t) (a.tmps.getD t undef)
 lt:∀ t k,C.loc.lookup t=some k→DJ lm k (s.t t) (a.tmps.getD t undef)
 lb:∀ k b,lm k=some b→w0.heap.size≤b∧∃ arr el,w.heap[b]?=some (.cells arr el (0,0))∧VL ρ (s.l k) arr.toList
 li:∀ k k' b,lm k=some b→lm k'=some b→k=k'
 ld:∀ k b,lm k=some b→¬ yk false ρ σ b
def Sound(P:Program)(f:FuncId)(S:Spec):Prop:=
 ∀ args Q σ,S args Q σ→∀(ρ:dS) (w:World) (nk:List Value),lp ρ σ w→VL ρ args nk →
  Calls P f nk.toArray w fun e w'=>∃ v v' ρ' σ',e=.returned v'∧Q v σ'∧V ρ' v v'∧lp ρ' σ' w'∧yU ρ σ w ρ' σ' w'
def Callable (P : Program) (f : FuncId) : Prop := ∃ fn, P.funcs[f]? = some fn ∧ (fn.name == "runtime.NumGoroutine") = false ∧ fn.body.isNone = false
def qt(P:Program)(e:String×Nat×Nat):Prop:=∀ v w,(method (P.types.size+Made.depth) e.2.1 v e.1).run P w=.ok (e.2.2,v) w
def aS(P:Program)(T:List (Nat×vo×Spec)):Prop:=∀ g c S,T.lookup g=some (c,S)→Sound P g S∧Good c S∧Callable P g
structure Kw(C:Cx):Prop where
 t:aS C.P C.T
 i:∀ e∈C.inv,qt C.P e
section
variable{C:Cx}{ρ0:dS}{σ0:Mem}{w0:World}{lm:Nat→Option Nat}{ρ:dS}{s:St}{σ:Mem}{a:Act}{w:World}
theorem II(a:Act)(d:Option Nat)(v:Value):(a.put d v).tmps.size=a.tmps.size:=by
 cases d<;>simp[Act.put]
theorem put_defers(a:Act)(d:Option Nat)(v:Value):(a.put d v).defers=a.defers:=by
 cases d<;>rfl
theorem Db{a:Act}{d:Nat}{v:Value}(hd:d<a.tmps.size)(t:Nat):(a.put (some d) v).tmps.getD t undef=if t=d then v else a.tmps.getD t undef:=by
 simp only[Act.put,Array.getD_eq_getD_getElem?,Array.getElem?_setIfInBounds]
 by_cases h:t=d
 ·subst h;simp[hd]
 ·simp[h,Ne.symm h]
theorem xw(s:St)(d:Nat)(v:Value)(t:Nat):(s.put (some d) v).t t=if t=d then v else s.t t:=by
 simp only[St.put]
 cases h:Nat.beq t d
 ·have:t≠d:=Nat.ne_of_beq_eq_false h
  simp[this]
 ·have:t=d:=Nat.eq_of_beq_eq_true h
  simp[this]
theorem y_(s:St)(d:Option Nat)(v:Value):(s.put d v).l=s.l:=by cases d<;>rfl
theorem FI.put(h:FI C ρ0 σ0 w0 lm ρ s σ a w){d:Nat}(hd:d<C.n){v v':Value}
  (hp:C.loc.lookup d=none→V ρ v v') (hl:∀ k,C.loc.lookup d=some k→DJ lm k v v'):FI C ρ0 σ0 w0 lm ρ (s.put (some d) v) σ (a.put (some d) v') w:=by
 refine⟨h.s_,h.qw,by rw[II];exact h.n,by rw[put_defers];exact h.df,fun t ht=>?_,fun t k ht=>?_,fun k b hk=>?_,h.li,h.ld⟩
 ·rw[xw,Db (by rw[h.n];exact hd)]
  split
  ·rename_i e;subst e;exact hp ht
  ·exact h.tm t ht
 ·rw[xw,Db (by rw[h.n];exact hd)]
  split
  ·rename_i e;subst e;exact hl k ht
  ·exact h.lt t k ht
 ·rw[y_];exact h.lb k b hk
theorem FI.CR(h:FI C ρ0 σ0 w0 lm ρ s σ a w)(v v':Value):FI C ρ0 σ0 w0 lm ρ (s.put none v) σ (a.put none v') w:=h
theorem FI.step(h:FI C ρ0 σ0 w0 lm ρ s σ a w){ρ':dS}{σ':Mem}{w':World}(hs:lp ρ' σ' w')(ht:yU ρ σ w ρ' σ' w'):FI C ρ0 σ0 w0 lm ρ' s σ' a w':=by
 have iL:∀ k b,lm k=some b→b<w.heap.size:=fun k b hk=>by
  obtain⟨_,arr,el,h1,_⟩:=h.lb k b hk
  exact(Array.getElem?_eq_some_iff.1 h1).1
 refine⟨hs,h.qw.trans ht,h.n,h.df,fun t hl=>(h.tm t hl).mono ht.le,h.lt,fun k b hk=>?_,h.li,fun k b hk ho=>h.ld k b hk (ht.own _ _ (iL k b hk) ho)⟩
 obtain⟨h0,arr,el,h1,h2⟩:=h.lb k b hk
 exact⟨h0,arr,el,by rw[ht.aL b (iL k b hk) (fun ho=>h.ld k b hk ho.O6)];exact h1,h2.mono ht.le⟩
theorem lp.other{o:Obj}{b:Nat}{w':World}(h:lp ρ σ w)(hb:¬ yk false ρ σ b)(hu:Hz w b o w'):lp ρ σ w':=by
 refine⟨fun id cJ hg=>?_,h.s2,h.s3⟩
 obtain⟨e,arr,el,fz,q1,q2,q3⟩:=h.s1 id cJ hg
 exact⟨e,arr,el,fz,q1,by rw[hu.rest _ (fun e'=>hb ⟨id,cJ,e,hg,fun h=>(Bool.noConfusion h),q1,e'⟩)];exact q2,q3⟩
theorem lp.Rc{o:Obj}{w':World}(h:lp ρ σ w)(hu:Fy w o w'):lp ρ σ w':=by
 refine⟨fun id cJ hg=>?_,h.s2,h.s3⟩
 obtain⟨e,arr,el,fz,q1,q2,q3⟩:=h.s1 id cJ hg
 exact⟨e,arr,el,fz,q1,by rw[hu.rest _ (Array.getElem?_eq_some_iff.1 q2).1];exact q2,q3⟩
theorem A_(s:St)(k:Nat)(c:List Value)(i:Nat):(s.uo k c).l i=if i=k then c else s.l i:=by
 simp only[St.uo]
 cases h:Nat.beq i k
 ·have:i≠k:=Nat.ne_of_beq_eq_false h
  simp[this]
 ·have:i=k:=Nat.eq_of_beq_eq_true h
  simp[this]
theorem FI.uo(h:FI C ρ0 σ0 w0 lm ρ s σ a w){k b:Nat}(hk:lm k=some b){arr:Array Value}{el:TypeId}{c:List Value}{w':World}
  (hu:Hz w b (.cells arr el (0,0)) w') (hc:VL ρ c arr.toList):FI C ρ0 σ0 w0 lm ρ (s.uo k c) σ a w':=by
 refine⟨h.s_.other (h.ld k b hk) hu,⟨h.qw.le,h.qw.same.trans hu.same,by rw[hu.size];exact h.qw.size,fun b' vm hn=>?_,h.qw.own⟩,h.n,h.df,h.tm,h.lt,fun k' b' kV=>?_,h.li,h.ld⟩
 ·have:b'≠b:=fun e=>by
   have:=(h.lb k b hk).1
   omega
  rw[hu.rest _ this]
  exact h.qw.aL b' vm hn
 ·rw[A_]
  by_cases e:k'=k
  ·subst e
   rw[hk]at kV;cases kV
   exact⟨(h.lb _ _ hk).1,arr,el,hu.here,by simpa using hc⟩
  ·obtain⟨h0,Dz,MY,h1,h2⟩:=h.lb k' b' kV
   have:b'≠b:=fun e'=>e (h.li _ _ b (e' ▸ kV) hk)
   exact⟨h0,Dz,MY,by rw[hu.rest _ this];exact h1,by simpa[e]using h2⟩
theorem FI.aap(h:FI C ρ0 σ0 w0 lm ρ s σ a w){k:Nat}(hf:qg C k s=true){arr:Array Value}{el:TypeId}{c:List Value}{w':World}
  (hp:Fy w (.cells arr el (0,0)) w') (hc:VL ρ c arr.toList) :
  FI C ρ0 σ0 w0 (fun i=>if i=k then some w.heap.size else lm i) ρ (s.uo k c) σ a w':=by
 have iL:∀ k b,lm k=some b→b<w.heap.size:=fun k b hk=>by
  obtain⟨_,arr,el,h1,_⟩:=h.lb k b hk
  exact(Array.getElem?_eq_some_iff.1 h1).1
 refine⟨h.s_.Rc hp,⟨h.qw.le,h.qw.same.trans hp.same,by have:=h.qw.size;rw[hp.size];omega,fun b' vm hn=>?_,h.qw.own⟩,h.n,h.df,h.tm,fun t k' ht=>?_,fun k' b' kV=>?_,fun k1 k2 b h1 h2=>?_,fun k' b' kV=>?_⟩
 ·rw[hp.rest _ (Nat.lt_of_lt_of_le vm h.qw.size)]
  exact h.qw.aL b' vm hn
 ·by_cases e:k'=k
  ·subst e
   have:=List.all_eq_true.1 hf _ (lC ht)
   simp at this
   exact .inl this
  ·rcases h.lt t k' ht with h1|⟨o,b,h1,h2,h3⟩|⟨o,b,n,es,c',h1,h2,h3⟩
   ·exact .inl h1
   ·exact .inr (.inl ⟨o,b,h1,by simp[e,h2],h3⟩)
   ·exact .inr (.inr ⟨o,b,n,es,c',h1,by simp[e,h2],h3⟩)
 ·rw[A_]
  by_cases e:k'=k
  ·subst e
   simp at kV;subst kV
   exact⟨h.qw.size,arr,el,hp.here,by simpa using hc⟩
  ·simp[e]at kV
   obtain⟨h0,Dz,MY,h1,h2⟩:=h.lb k' b' kV
   exact⟨h0,Dz,MY,by rw[hp.rest _ (iL _ _ kV)];exact h1,by simpa[e]using h2⟩
 ·by_cases e1:k1=k
  ·by_cases e2:k2=k
   ·rw[e1,e2]
   ·simp[e1]at h1;simp[e2]at h2
    have:=iL _ _ h2;omega
  ·by_cases e2:k2=k
   ·simp[e1]at h1;simp[e2]at h2
    have:=iL _ _ h1;omega
   ·simp[e1]at h1;simp[e2]at h2
    exact h.li _ _ _ h1 h2
 ·by_cases e:k'=k
  ·simp[e]at kV;subst kV
   intro ho
   exact absurd (yk.lt h.s_ ho) (by omega)
  ·simp[e]at kV;exact h.ld _ _ kV
theorem FI.plain(h:FI C ρ0 σ0 w0 lm ρ s σ a w){x:Operand}(hx:(C.rT x).isNone=true):V ρ (mg s x) (a.eval x):=by
 cases x with
 | tmp t=>exact h.tm t (by simpa[Cx.rT]using hx)
 | const v=>
  simp only[mg,Act.eval]
  cases hc:jt v
  ·exact .Rd _
  ·exact .const hc
 | global g=>exact .Rd _
 | func f=>exact .Rd _
theorem FI.pY(h:FI C ρ0 σ0 w0 lm ρ s σ a w):∀{xs:List Operand},C.plain xs=true→VL ρ (xs.map (mg s)) (xs.map a.eval)
 | [],_=>.nil
 | x::xs,hx=>by
  simp only[Cx.plain,List.all_cons,Bool.and_eq_true]at hx
  exact .cons (h.plain hx.1) (FI.pY h hx.2)
theorem FI.KP(h:FI C ρ0 σ0 w0 lm ρ s σ a w){x:Operand}{k:Nat}(hx:C.rT x=some k):DJ lm k (mg s x) (a.eval x):=by
 cases x with
 | tmp t=>exact h.lt t k hx
 | const v=>cases hx
 | global g=>cases hx
 | func f=>cases hx
theorem ER{o:Oper}{x:Operand}{ys:List Operand}{g:List Value→Option Value}(hf:S_ C o.op=some (x::ys,g))(ha:(Ft o.op||JY C.P o.op)=true)
  {ev ev':Operand→Value} {k:Nat} (hx:DJ lm k (ev x) (ev' x)) (hys:VL ρ (ys.map ev) (ys.map ev')) {v:Value} (hg:g ((x::ys).map ev)=some v) :
  ∃ v',(execOp ev' o).run C.P w=.ok (.value v') w∧DJ lm k v v':=by
 have fin:∀{s:Sem Value} {v':Value},s.run C.P w=.ok v' w→(do pure (Next.value (←s)):Sem Next).run C.P w=.ok (.value v') w:=by
  intro s v' h;simp[h]
 obtain⟨dst,op,ty,pos,after,guard⟩:=o
 unfold S_ at hf
 cases op<;>simp only[Ft,JY,Bool.or_false,Bool.false_or,Bool.or_self]at ha<;>simp only at hf
 case move x0=>
  cases hf
  simp[zx]at hg;subst hg
  exact⟨_,by simp[execOp],hx⟩
 case nilCheck x0=>
  cases hf
  simp only[List.map_cons,List.map_nil]at hg
  unfold ay at hg
  split at hg
  ·rename_i ad h;simp at h;cases hg
   rcases hx with h1|⟨o,b,h1,h2,h3⟩|⟨o,b,n,es,c',h1,h2,h3⟩
   ·rw[h]at h1;cases h1
   ·refine⟨_,by simp[execOp,h3],.inr (.inl ⟨o,b,by rw[←h1,h],h2,rfl⟩)⟩
   ·rw[h]at h1;cases h1
  ·cases hg
 case fieldAddr st x0 f=>
  split at hf
  ·rename_i fs hs
   split at hf
   ·rename_i fd DS
    split at hf
    ·rename_i hk
     cases hf
     simp only[Bool.and_eq_true,bne_iff_ne,ne_eq]at hk
     simp only[List.map_cons,List.map_nil]at hg
     unfold Jw at hg
     split at hg
     ·rename_i ad h;simp at h;cases hg
      rcases hx with h1|⟨o,b,h1,h2,h3⟩|⟨o,b,n,es,c',h1,h2,h3⟩
      ·rw[h]at h1;cases h1
      ·rw[h]at h1;cases h1
       refine⟨_,by simp only[execOp,h3];exact fin (tP hs DS hk.1 hk.2 rfl),.inr (.inl ⟨o+fd.offset,b,by simp[Cc],h2,by simp[Cc]⟩)⟩
      ·rw[h]at h1;cases h1
     ·cases hg
    ·cases hf
   ·cases hf
  ·cases hf
 case indexAddr t x0 ix=>
  split at hf
  ·rename_i e ht;rw[ht]at ha;cases ha
  ·rename_i n e ht
   split at hf
   ·rename_i hk
    cases hf
    simp only[Bool.and_eq_true]at hk
    simp only[List.map_cons,List.map_nil]at hg hys
    obtain⟨i',e',hi⟩:=hys.one
    simp at e';subst e'
    unfold RQ at hg
    split at hg
    ·rename_i ad k2 i h
     simp at h;obtain⟨h1,h2⟩:=h
     rw[h2]at hi
     split at hg
     ·rename_i hb
      cases hg
      have ei:=hi.cM
      obtain⟨yR,Jg⟩:=hb
      rcases hx with q1|⟨o,b,q1,q2,q3⟩|⟨o,b,n,es,c',q1,q2,q3⟩
      ·rw[h1]at q1;cases q1
      ·rw[h1]at q1;cases q1
       refine⟨_,by simp only[execOp,q3,ei];exact fin (xn ht hk.1 rfl yR Jg),.inr (.inl ⟨o+i.toNat*bQ C.P e,b,by simp[Cc],q2,by simp[Cc]⟩)⟩
      ·rw[h1]at q1;cases q1
     ·cases hg
    ·cases hg
   ·cases hf
  ·cases hf
 all_goals cases ha
end
end Go.Fl
namespace Go.Fl
open Go
section
variable{C:Cx}{ρ0:dS}{σ0:Mem}{w0:World}{lm:Nat→Option Nat}{ρ:dS}{s:St}{σ:Mem}{a:Act}{w:World}
theorem mM{P:Program}(t:TypeId)(v:Value)(w:World) :
  (newVar t v).run P w=.ok ⟨w.heap.size,0,none⟩ { w with heap:=w.heap.push (.cells v.cells t) }:=by
 simp[newVar,newRow]
theorem BI{P:Program}{s:Sem Value}{v':Value}{w w':World}(h:s.run P w=.ok v' w'):(do pure (Next.value (←s)):Sem Next).run P w=.ok (.value v') w':=by
 simp[h]
theorem Vx{P:Program}{s:Sem Unit}{w w':World}(h:s.run P w=.ok () w'):(do s;pure Next.skip:Sem Next).run P w=.ok .skip w':=by
 simp[h]
theorem Jt(h:lp ρ σ w):∃ id,σ.get id=none∧ρ id=none:=by
 obtain⟨N,hN⟩:=σ.fin
 obtain⟨M,hM⟩:=h.s3
 exact⟨N+M,hN _ (by omega),hM _ (by omega)⟩
def Step(P:Program)(o:Oper)(a:Act)(ρ:dS)(σ:Mem)(w:World)(K:Value→Mem→Prop):Prop:=
 ∀(next:Act→World→Prop) (Q:Exit→Act→World→Prop),
  (∀ v v' ρ' σ' w',K v σ'→V ρ' v v'→lp ρ' σ' w'→yU ρ σ w ρ' σ' w'→next (a.put o.dst v') w')→o.wp P a w next Q
theorem ja{P:Program}{o:Oper}{K:Value→Mem→Prop}{v v':Value}{ρ':dS}{σ':Mem}{w':World}
  (hr:(execOp a.eval o).run P w=.ok (.value v') w') (hk:K v σ') (hv:V ρ' v v') (hs:lp ρ' σ' w') (ht:yU ρ σ w ρ' σ' w'):Step P o a ρ σ w K:=by
 intro next Q hn
 unfold Oper.wp
 rw[hr,Oper.upon_value]
 exact hn _ _ _ _ _ hk hv hs ht
theorem D6{P:Program}{o:Oper}{K:Value→Mem→Prop}{ρ':dS}{σ':Mem}{w':World}
  (hr:(execOp a.eval o).run P w=.ok .skip w') (hk:K undef σ') (hs:lp ρ' σ' w') (ht:yU ρ σ w ρ' σ' w'):Step P o a ρ σ w K:=by
 intro next Q hn
 unfold Oper.wp
 rw[hr,Oper.upon_skip]
 exact hn _ _ _ _ _ hk .undef hs ht
theorem V.IK{b o:Nat}{e:RE}{v':Value}(h:V ρ (.pointer (some ⟨b,o,none⟩)) v')(he:ρ b=some e):v'=.pointer (some ⟨e.cJ,e.sh+o,none⟩):=by
 cases h with
 | ptr h=>rw[he]at h;cases h;rfl
theorem GD{o:Oper}{t:TypeId}{p:Operand}(ho:o.op=.load t p)(hk:tKnown C.P t=true)(hA:(jy C.P t||bQ C.P t == 1)=true)
  (hp:V ρ (mg s p) (a.eval p)) (hs:lp ρ σ w) {K:Value→Mem→Prop} (h:aj (bQ C.P t) (jy C.P t) [mg s p] K σ):Step C.P o a ρ σ w K:=by
 obtain⟨dst,op,ty,pos,after,guard⟩:=o
 simp only at ho;subst ho
 unfold aj at h
 split at h
 ·rename_i b off hx
  simp at hx
  split at h
  ·rename_i v hv
   unfold rd at hv
   split at hv
   ·rename_i cJ hg
    obtain⟨e,arr,el,fz,q1,q2,q3,q4,q5,q6⟩:=hs.s1 _ _ hg
    rw[hx]at hp
    have bG:a.eval p=.pointer (some ⟨e.cJ,e.sh+off,none⟩):=hp.IK q1
    obtain⟨hle,v',h1,h2⟩:=lW q5 hv
    have hwl:(uG arr e.sh cJ.cells.length).length=cJ.cells.length:=q5.len.symm
    rw[hwl]at hle
    have UR:(if jy C.P t then some (.agg ((arr.toList.drop (e.sh+off)).take (bQ C.P t)).toArray)else arr.toList[e.sh+off]?)=some v':=by
     rw[←h1]
     unfold uG
     cases hg:jy C.P t
     ·have:bQ C.P t=1:=by simpa[hg]using hA
      simp only[Bool.false_eq_true,if_false]
      rw[List.getElem?_take,List.getElem?_drop,af (by omega)]
     ·simp only[if_true]
      rw[List.drop_take,List.take_take,List.drop_drop,Nat.min_eq_left (by omega)]
    have hr:=og (P:=C.P) (w:=w) hk (by simpa using hA) q2 (o:=e.sh+off) (by omega) UR
    refine ja (v':=v') ?_ h h2 hs (yU.refl _ _ _)
    simp only[execOp,bG]
    exact BI (by simp only[Instr.loadAt,Instr.sureAddr,Sem.run_bind,Sem.run_pure,Result.andThen_ok,hr])
   ·cases hv
  ·exact h.elim
 ·exact h.elim
theorem D5{o:Oper}{t:TypeId}{p x:Operand}(ho:o.op=.store t p x)(hk:tKnown C.P t=true)
  (hp:V ρ (mg s p) (a.eval p)) (hx:V ρ (mg s x) (a.eval x)) (hs:lp ρ σ w) {K:Value→Mem→Prop} (h:ax (bQ C.P t) [mg s p,mg s x] K σ):Step C.P o a ρ σ w K:=by
 obtain⟨dst,op,ty,pos,after,guard⟩:=o
 simp only at ho;subst ho
 unfold ax at h
 split at h
 ·rename_i b off x0 GY
  simp at GY
  split at h
  ·rename_i τ hτ
   unfold wr at hτ
   split at hτ
   ·rename_i cJ c hg hc
    split at hτ
    ·rename_i hb
     cases hτ
     obtain⟨xH,hle,rU⟩:=hb
     obtain⟨e,arr,el,fz,q1,q2,q3,q4,q5,q6⟩:=hs.s1 _ _ hg
     have:=q6 xH;subst this
     rw[GY.1]at hp;rw[GY.2]at hx
     have bG:a.eval p=.pointer (some ⟨e.cJ,e.sh+off,none⟩):=hp.IK q1
     obtain⟨c',C7,hl⟩:=hx.cells hc
     have Ve:=(kH hc).2.2
     obtain⟨w',hr,hu⟩:=rN (P:=C.P) (w:=w) (o:=e.sh+off) hk q2 C7 (hl.dV rU) (by omega)
     obtain⟨k1,k2,k3⟩:=hs.aX hg xH q1 q2 (o:=off) (by omega) hl hu
     refine D6 (w':=w') ?_ h k1 k2
     simp only[execOp,bG]
     exact Vx (by simp only[Instr.storeAt,Instr.sureAddr,Sem.run_bind,Sem.run_pure,Result.andThen_ok,hr])
    ·cases hτ
   ·cases hτ
  ·exact h.elim
 ·exact h.elim
theorem uF(arr:Array Value):uG arr 0 arr.size=arr.toList:=by
 unfold uG
 simp[List.take_of_length_le]
theorem n9{o:Oper}{c:List Value}{v:Nat→Value}{K:Value→Mem→Prop}(hs:lp ρ σ w)(h:tq c v K σ){arr:Array Value}{el:TypeId}{w':World}{v':Value}
  (hp:Fy w (.cells arr el (0,0)) w') (hv:VL ρ c (uG arr 0 c.length)) (hlen:c.length≤arr.size) (hr:(execOp a.eval o).run C.P w=.ok (.value v') w')
  (hV:∀ ρ' id,ρ' id=some ⟨w.heap.size,0,arr.size⟩→V ρ' (v id) v'):Step C.P o a ρ σ w K:=by
 obtain⟨id,h1,h2⟩:=Jt hs
 obtain⟨ρ',q1,q2,q3,q4⟩:=hs.push h1 h2 hp (Nat.le_refl arr.size) hlen hv
 exact ja hr (h id h1) (hV ρ' id q1) q2 q3
theorem D8{o:Oper}{e:TypeId}(ho:o.op=.alloc e){z:List Value}(hz:jx C.P e=some z)(hs:lp ρ σ w){K:Value→Mem→Prop}
  (h:tB z [] K σ):Step C.P o a ρ σ w K:=by
 obtain⟨dst,op,ty,pos,after,guard⟩:=o
 simp only at ho;subst ho
 obtain⟨i,zv,hi,E1,hc,_,HI,_,_⟩:=fb (ρ:=ρ) hz
 refine n9 hs h (arr:=zv.cells) (el:=e) (kB w _) ?_ ?_ (v':=.pointer (some ⟨w.heap.size,0,none⟩)) ?_ (fun ρ' id h=>by simpa using V.ptr (o:=0) h)
 ·have:z.length=zv.cells.size:=by rw[←hc];simp
  rw[this,uF,hc];exact HI
 ·rw[←hc];simp
 ·simp only[execOp]
  refine BI ?_
  simp only[Instr.alloc,Sem.run_bind,cU hi E1,Result.andThen_ok,mM,Sem.run_pure]
theorem Iq{o:Oper}{e:TypeId}{x:Operand}(ho:o.op=.box e x)(hx:V ρ (mg s x) (a.eval x))(hs:lp ρ σ w){K:Value→Mem→Prop}{sz:Nat}
  (h:jD sz [mg s x] K σ):Step C.P o a ρ σ w K:=by
 obtain⟨dst,op,ty,pos,after,guard⟩:=o
 simp only at ho;subst ho
 simp only[jD]at h
 split at h
 ·rename_i c hc
  ·skip
   obtain⟨c',C7,hl⟩:=hx.cells hc
   obtain⟨e1,e2,e3⟩:=kH C7
   have e4:=(kH hc).2.2
   refine n9 hs h (arr:=(a.eval x).cells) (el:=e) (kB w _) ?_ (by omega) (v':=.pointer (some ⟨w.heap.size,0,none⟩)) ?_ (fun ρ' id h=>by simpa using V.ptr (o:=0) h)
   ·rw[e4,←e2,uF,e1];exact hl
   ·simp only[execOp]
    refine BI ?_
    simp only[Instr.box,Sem.run_bind,Result.andThen_ok,mM,Sem.run_pure]
 ·exact h.elim
theorem xq(z:List Value)(n:Nat):((Array.range (n*z.length)).map (z.toArray[· % z.toArray.size]!)).toList=(List.replicate n z).flatten:=by
 induction n with
 | zero=>simp
 | succ n ih=>
  have h1:(List.replicate (n+1) z).flatten=(List.replicate n z).flatten++z:=by
   rw[List.replicate_succ',List.flatten_append];simp
  rw[h1,←ih]
  apply List.ext_getElem
  ·simp[Nat.succ_mul]
  ·intro i hi xI
   simp only[Array.toList_map,List.getElem_map,Array.getElem_toList,Array.getElem_range,List.getElem_append]
   have hi2:i<n*z.length+z.length:=by simpa[Nat.succ_mul]using hi
   split
   ·rfl
   ·rename_i BE
    have ab4:n*z.length≤i:=by simpa using BE
    have hz:0<z.length:=by omega
    have:i % z.length=i-n*z.length:=by
     have e:i=(i-n*z.length)+n*z.length:=by omega
     rw[e,Nat.add_mul_mod_self_right,Nat.mod_eq_of_lt (by omega)]
     omega
    simp only[List.size_toArray,this]
    rw[getElem!_pos _ _ (by simp;omega)]
    simp
theorem sC{P:Program}{e:TypeId}{z:List Value}(hz:jx P e=some z)(ρ:dS)(n:Nat) :
  VL ρ (List.replicate n z).flatten (List.replicate n z).flatten∧(List.replicate n z).flatten.length=n*bQ P e:=by
 obtain⟨i,zv,hi,E1,hc,h1,HI,h2,_⟩:=fb (ρ:=ρ) hz
 induction n with
 | zero=>simp;exact .nil
 | succ n ih=>
  refine⟨?_,?_⟩
  ·rw[List.replicate_succ,List.flatten_cons]
   exact HI.append ih.1
  ·rw[List.replicate_succ,List.flatten_cons,List.length_append,ih.2,h2,Nat.succ_mul,Nat.add_comm]
theorem xo{P:Program}{t e:TypeId}(ht:P.underlying t=some (.slice e)){z:List Value}(hz:jx P e=some z){len:Nat}(hb:Nat.ble (len*bQ P e) 16777216=true)
  {parts:Array (Nat×Value)} {idx:List Nat} {vs pG:List Value} (hp:parts.toList=idx.zip pG) (hv:VL ρ vs pG) {c:List Value}
  (h:jU (fun i=>some (i*bQ P e,bQ P e)) (List.replicate len z).flatten idx vs=some c) :
  ∃ c',VL ρ c c'.toList∧(Instr.buildSlice t len parts).run P w=.ok (.slice (some ⟨w.heap.size,0,none⟩) len len) { w with heap:=w.heap.push (.cells c' e) }:=by
 obtain⟨i,zv,hi,E1,hc,lj,HI,h2,_⟩:=fb (ρ:=ρ) hz
 obtain⟨zf,zl⟩:=sC hz ρ len
 obtain⟨c',h3,h4⟩:=qi (fun _ _ h=>h) zf hv h
 refine⟨c',h4,?_⟩
 have hk:tKnown P e=true∨True:=.inr trivial
 have Lc:zv.cells=z.toArray:=Array.ext' (by simpa using hc)
 have hso:(sizeOf e).run P w=.ok (bQ P e) w:=by simp[sizeOf,typeInfo,hi,bQ,Program.cellsOf]
 have hle:¬ len*bQ P e > 2 ^ 24:=by
  have:=Nat.le_of_ble_eq_true hb
  simpa using this
 have xK:∀(zc:Array Value),(len*bQ P e=0∨zc=z.toArray)→((Array.range (len*bQ P e)).map (zc[· % zc.size]!))=(List.replicate len z).flatten.toArray:=by
  intro zc hzc
  apply Array.ext'
  rcases hzc with h0|rfl
  ·rw[h0]
   have:(List.replicate len z).flatten.length=0:=by rw[zl,h0]
   simp[List.length_eq_zero_iff.1 this]
  ·rw[←h2];simpa using xq z len
 simp only[Instr.buildSlice,Sem.run_bind,aY ht,Result.andThen_ok,hso,Sem.run_ite,hle,if_false,Sem.run_pure]
 by_cases h0:len*bQ P e=0
 ·simp only[h0,if_true]
  have:=xK #[] (.inl h0)
  rw[h0]at this
  simp only[this,hp,h3,Sem.run_bind,newRow,run_newObj,Result.andThen_ok,Sem.run_pure]
 ·simp only[h0,if_false,cU hi E1,Result.andThen_ok,Lc]
  have:=xK z.toArray (.inr rfl)
  simp only[this,hp,h3,Sem.run_bind,newRow,run_newObj,Result.andThen_ok,Sem.run_pure]
theorem G'{mP:Nat→Option (Nat×Nat)}:∀{idx:List Nat} {cells vs c:List Value},jU mP cells idx vs=some c→c.length=cells.length:=by
 intro idx
 induction idx with
 | nil=>intro cells vs c h;cases vs<;>simp[jU]at h;rw[h]
 | cons i is ih=>
  intro cells vs c h
  cases vs with
  | nil=>simp[jU]at h
  | cons v vs=>
   simp only[jU]at h
   split at h
   ·split at h
    ·split at h
     ·rename_i off sz hp _ cc zp hle
      rw[ih h]
      have:=(kH zp).2.2
      simp[lay];omega
     ·cases h
    ·cases h
   ·cases h
theorem Cz{o:Oper}{t e:TypeId}{len:Nat}{parts:Array (Nat×Operand)}(ho:o.op=.buildSlice t len parts)(ht:C.P.underlying t=some (.slice e))
  {z:List Value} (hz:jx C.P e=some z) (hb:Nat.ble (len*bQ C.P e) 16777216=true)
  (hx:VL ρ ((parts.toList.map (·.2)).map (mg s)) ((parts.toList.map (·.2)).map a.eval)) (hs:lp ρ σ w) {K:Value→Mem→Prop}
  (h:fW (bQ C.P e) len z (parts.toList.map (·.1)) ((parts.toList.map (·.2)).map (mg s)) K σ):Step C.P o a ρ σ w K:=by
 obtain⟨dst,op,ty,pos,after,guard⟩:=o
 simp only at ho;subst ho
 unfold fW at h
 split at h
 ·rename_i c hc
  obtain⟨c',h1,h2⟩:=xo (w:=w) ht hz hb (jk (ev:=a.eval) parts) hx hc
  have hlen:=G' hc
  have lj:c'.size=len*bQ C.P e:=by
   have:=h1.len;rw[hlen,(sC hz ρ len).2]at this;simpa using this.symm
  refine n9 hs h (arr:=c') (el:=e) (kB w _) ?_ (by have:=h1.len;simp at this;omega) (v':=.slice (some ⟨w.heap.size,0,none⟩) len len) ?_ (fun ρ' id h=>?_)
  ·have:c.length=c'.size:=by have:=h1.len;simpa using this
   rw[this,uF];exact h1
  ·simp only[execOp];exact BI h2
  ·have:=V.sl (ρ:=ρ') (o:=0) (n:=len) (c:=bQ C.P e) (c':=len) h (Nat.le_refl _) (by simp[lj])
   simpa using this
 ·exact h.elim
theorem Kx{n:Int}(h0:0≤n)(h1:n≤1073741824):IntKind.i64.wrap n=n:=by
 simp[IntKind.wrap,IntKind.bits,IntKind.signed]
 omega
theorem D7{o:Oper}{t e:TypeId}{n m:Operand}(ho:o.op=.makeSlice t n m)(ht:C.P.underlying t=some (.slice e))
  {z:List Value} (hz:jx C.P e=some z) (hn:V ρ (mg s n) (a.eval n)) (hm:V ρ (mg s m) (a.eval m)) (hs:lp ρ σ w) {K:Value→Mem→Prop}
  (h:kG (bQ C.P e) (C.P.bytesOf e) z [mg s n,mg s m] K σ):Step C.P o a ρ σ w K:=by
 obtain⟨dst,op,ty,pos,after,guard⟩:=o
 simp only at ho;subst ho
 unfold kG at h
 split at h
 ·rename_i x y hxy
  simp at hxy
  rw[hxy.1]at hn;rw[hxy.2]at hm
  split at h
  ·rename_i hb
   obtain⟨rfl,h0,h1,h2⟩:=hb
   obtain⟨i,zv,hi,E1,hc,lj,HI,SZ,_⟩:=fb (ρ:=ρ) hz
   obtain⟨zf,zl⟩:=sC hz ρ x.toNat
   have Lc:zv.cells=z.toArray:=Array.ext' (by simpa using hc)
   have hso:(sizeOf e).run C.P w=.ok (bQ C.P e) w:=by simp[sizeOf,typeInfo,hi,bQ,Program.cellsOf]
   have Ko:i.bytes≤1024:=by simpa[Program.bytesOf,hi]using h2
   have hbn:(i.bytes:Int)*x≤1024*1073741824:=by
    have:(i.bytes:Int)*x≤1024*x:=Int.mul_le_mul_of_nonneg_right (by omega) h0
    omega
   have xK:∀(zc:Array Value),(x.toNat*bQ C.P e=0∨zc=z.toArray)→((Array.range (x.toNat*bQ C.P e)).map (zc[· % zc.size]!))=(List.replicate x.toNat z).flatten.toArray:=by
    intro zc hzc
    apply Array.ext'
    rcases hzc with h0|rfl
    ·rw[h0]
     have:(List.replicate x.toNat z).flatten.length=0:=by rw[zl,h0]
     simp[List.length_eq_zero_iff.1 this]
    ·rw[←SZ];simpa using xq z x.toNat
   refine n9 hs h (arr:=(List.replicate x.toNat z).flatten.toArray) (el:=e) (kB w _) ?_ (by simp) (v':=.slice (some ⟨w.heap.size,0,none⟩) x.toNat x.toNat) ?_ (fun ρ' id h=>?_)
   ·have:(List.replicate x.toNat z).flatten.length=(List.replicate x.toNat z).flatten.toArray.size:=by simp
    rw[this,uF];exact zf
   ·simp only[execOp,hn.cM,hm.cM]
    refine BI ?_
    simp only[Instr.makeSlice,Sem.run_bind,aY ht,Result.andThen_ok,asInt,asIntOf,Sem.run_pure,ly hi,Kx h0 h1]
    have c1:¬(x<0):=by omega
    have c2:¬((i.bytes:Int)*x > 2 ^ 48):=by omega
    simp only[c1,c2,decide_false,Bool.or_self,gt_iff_lt,Int.lt_irrefl,Bool.false_eq_true,if_false,Sem.run_ite,Sem.run_bind,run_askRoom,Result.andThen_ok,hso,Sem.run_pure]
    by_cases XM:x.toNat*bQ C.P e=0
    ·simp only[XM,if_true]
     have:=xK #[] (.inl XM)
     rw[XM]at this
     simp only[this,newRow,Sem.run_bind,run_newObj,Result.andThen_ok,Sem.run_pure]
    ·simp only[XM,if_false,cU hi E1,Result.andThen_ok,Lc]
     have:=xK z.toArray (.inr rfl)
     simp only[this,newRow,Sem.run_bind,run_newObj,Result.andThen_ok,Sem.run_pure]
   ·have:=V.sl (ρ:=ρ') (o:=0) (n:=x.toNat) (c:=bQ C.P e) (c':=x.toNat) h (Nat.le_refl _) (by simp only[List.size_toArray,zl];omega)
    simpa using this
  ·exact h.elim
 ·exact h.elim
theorem zw(n:Nat):∀(r c:Nat),c≤n+(n+768) / 4→Builtin.growBy n r c≤n+(n+768) / 4
 | 0,c,h=>h
 | r+1,c,h=>by
  simp only[Builtin.growBy]
  split
  ·exact h
  ·exact zw n r _ (by omega)
theorem EO{n c:Nat}(h:c<n):Builtin.nextslicecap n c≤2*n+1000:=by
 unfold Builtin.nextslicecap
 split
 ·omega
 ·split
  ·omega
  ·have:=zw n 4 c (by omega)
   omega
theorem GR{P:Program}{es n:Nat}{x x':Value}(hx:V ρ x x')(hs:lp ρ σ w){new:List Value}(h:Ir σ es x=some new)(hn:KR x=n) :
  ∃ ir,VL ρ new ir∧new.length=n*es∧(∀ w':World,w'.heap=w.heap→(Builtin.firstCells es n x').run P w'=.ok ir.toArray w')∧∃ a c,x'=.slice a n c:=by
 unfold Ir at h
 split at h
 ·cases h
  simp[KR]at hn;subst hn
  cases hx
  exact⟨[],.nil,by simp,fun w' _=>by simp[Builtin.firstCells],none,0,rfl⟩
 ·rename_i b o m c
  simp[KR]at hn;subst hn
  split at h
  ·rename_i cJ hg
   split at h
   ·rename_i hle
    cases h
    obtain⟨e,arr,el,fz,q1,q2,q3,q4,q5,q6⟩:=hs.s1 _ _ hg
    have hwl:∀{k:Nat},o+k≤cJ.cells.length→((uG arr e.sh cJ.cells.length).drop o).take k=(arr.toList.drop (e.sh+o)).take k:=by
     intro k hk
     unfold uG
     rw[List.drop_take,List.take_take,List.drop_drop,Nat.min_eq_left (by omega)]
    cases hx with
    | @sl _ _ _ _ c' e2 hb hl hc=>
     rw[q1]at hb;cases hb
     refine⟨_,(q5.drop o).take _,by simp;omega,fun w' hw=>?_,_,_,rfl⟩
     have hq:w'.heap[e.cJ]?=some (.cells arr el fz):=by rw[hw];exact q2
     simp only[Builtin.firstCells,loadCells]
     rw[run_loadCellsFrom hq _ 0 #[] (by omega),hwl hle]
     simp
    | @Ke _ _ _ a'=>
     refine⟨[],by simpa using VL.nil,by simp,fun w' hw=>?_,_,_,rfl⟩
     simp[Builtin.firstCells,loadCells,loadCellsFrom]
   ·cases h
  ·cases h
 ·cases h
end
end Go.Fl
namespace Go.Fl
open Go
section
variable{C:Cx}{ρ0:dS}{σ0:Mem}{w0:World}{lm:Nat→Option Nat}{ρ:dS}{s:St}{σ:Mem}{a:Act}{w:World}
theorem lp.heap{w':World}(h:lp ρ σ w)(hh:w'.heap=w.heap):lp ρ σ w':=
 ⟨fun id cJ hg=>by rw[hh];exact h.s1 id cJ hg,h.s2,h.s3⟩
theorem lz{P:Program}{t u e:TypeId}(ht:P.underlying t=some (.slice e))(hu:∃ e',P.underlying u=some (.slice e'))(hk:tKnown P e=true)
  {ty:TypeId} {base:Option Addr} {sl sc n:Nat} {x':Value} {ir:List Value} (hn:∃ a c,x'=.slice a n c)
  (hf:(Builtin.firstCells (bQ P e) n x').run P w=.ok ir.toArray w) (hle:sl+n≤sc) {w':World}
  (kT:∀ ad,base=some ad→(storeCells (ad.add (sl*bQ P e)) ir).run P w=.ok () w') (B_:base=none→w'=w) :
  (Builtin.append_ #[t,u] ty #[.slice base sl sc,x']).run P w=.ok (.slice base (sl+n) sc) w':=by
 obtain⟨e',hu⟩:=hu
 obtain⟨a,c,rfl⟩:=hn
 simp only[Builtin.append_,Sem.run_bind,aY ht,Result.andThen_ok,cD hk,aY hu,Sem.run_pure,List.getElem?_toArray,List.getElem?_cons_zero,List.getElem?_cons_succ]
 simp only[Builtin.lenOf,Sem.run_bind,Sem.run_pure,Result.andThen_ok,Bool.not_false,if_true,hf,Sem.run_ite,hle,Bool.false_eq_true,if_false]
 cases base with
 | none=>simp only[Sem.run_pure,B_ rfl]
 | some ad=>simp only[Result.andThen_ok,Sem.run_pure,Sem.run_bind,kT ad rfl]
theorem oh{P:Program}{t u e:TypeId}(ht:P.underlying t=some (.slice e))(hu:∃ e',P.underlying u=some (.slice e'))(hk:tKnown P e=true)
  {i:TypeInfo} {zv:Value} (hi:P.info? e=some i) (hz:i.zero=some zv) (Xt:zv.cells.size=bQ P e)
  {ty:TypeId} {base:Option Addr} {sl sc n:Nat} {x':Value} {ir old':List Value} (hn:∃ a c,x'=.slice a n c)
  (hf:∀ w':World,w'.heap=w.heap→(Builtin.firstCells (bQ P e) n x').run P w'=.ok ir.toArray w') (hgt:sc<sl+n) (hb:sl+n≤1073741824) (Ko:i.bytes≤1024)
  (ho:∀ w':World,w'.heap=w.heap→(Builtin.firstCells (bQ P e) sl (.slice base sl sc)).run P w'=.ok old'.toArray w') :
  ∃ cap arr w',sl+n≤cap∧arr.toList.take (old'.length+ir.length)=old'++ir∧arr.size=old'.length+ir.length+(cap-(sl+n))*bQ P e∧Fy w (.cells arr e (0,0)) w' ∧
   (Builtin.append_ #[t,u] ty #[.slice base sl sc,x']).run P w=.ok (.slice (some ⟨w.heap.size,0,none⟩) (sl+n) cap) w':=by
 obtain⟨e',hu⟩:=hu
 obtain⟨a,c,rfl⟩:=hn
 let q:Question:=.appendCap (sl+n) sc e
 let cap:=q.cut (w.tape w.drawn q)
 let w1:World:={ w with drawn:=w.drawn+1 }
 have FZ:w1.heap=w.heap:=rfl
 have Lh:sl+n≤cap:=by
  show sl+n≤q.cut (w.tape w.drawn q)
  simp[q,Question.cut]
 have hnf:q.forced=false:=rfl
 have Va:¬(Builtin.nextslicecap (sl+n) sc*i.bytes > 2 ^ 48):=by
  have h1:=EO hgt
  have:Builtin.nextslicecap (sl+n) sc*i.bytes≤(2*1073741824+1000)*1024:=Nat.mul_le_mul (by omega) Ko
  omega
 have U_:¬ sl+n≤sc:=by omega
 refine⟨cap,old'.toArray++ir.toArray++Builtin.zeroCells zv.cells (cap-(sl+n)),{ w1 with heap:=w1.heap.push (.cells (old'.toArray++ir.toArray++Builtin.zeroCells zv.cells (cap-(sl+n))) e) },Lh,?_,?_,?_,?_⟩
 ·simp only[Array.toList_append]
  exact List.take_left' (by simp)
 ·simp[Builtin.zeroCells,Xt]
 ·exact⟨⟨rfl,rfl,rfl⟩,by simp[w1],fun k hk=>by simp[w1,Array.getElem?_push,Nat.ne_of_lt hk],by simp[w1]⟩
 ·simp only[Builtin.append_,Sem.run_bind,aY ht,Result.andThen_ok,cD hk,aY hu,Sem.run_pure,List.getElem?_toArray,List.getElem?_cons_zero,List.getElem?_cons_succ]
  have aaN:¬(((sl+n:Nat):Int) > IntKind.i64.max∧(False∨i.bytes=0)):=by
   have:IntKind.i64.max=9223372036854775807:=by decide
   rw[this];omega
  simp only[Builtin.lenOf,Sem.run_bind,Sem.run_pure,Result.andThen_ok,Bool.not_false,if_true,Sem.run_ite,U_,Bool.false_eq_true,if_false,ly hi,aaN,Va,run_choose]
  have hq:(Question.appendCap (sl+n) sc e).forced=false:=rfl
  simp only[hq,Bool.false_eq_true,if_false,Result.andThen_ok,run_askRoom]
  rw[ho _ FZ,Result.andThen_ok,hf _ FZ]
  simp only[Result.andThen_ok,cU hi hz,newRow,Sem.run_bind,run_newObj,Sem.run_pure]
  rfl
theorem lp.IG(h:lp ρ σ w){b:Nat}{cJ:uc}(hg:σ.get b=some cJ)(xH:cJ.rw=true){e:RE}(he:ρ b=some e){id:Nat}(h1:σ.get id=none)(h2:ρ id=none)
  {w':World} {o:Nat} {c:List Value} {arr:Array Value} {el:TypeId} (hu:Hz w e.cJ (.cells arr el (0,0)) w') (lj:e.sh+e.cap≤arr.size) (ho:o≤e.cap) (hc:c.length≤e.cap-o)
  (hv:VL ρ c (uG arr (e.sh+o) c.length)) :
  ∃ ρ',ρ' id=some ⟨e.cJ,e.sh+o,e.cap-o⟩∧lp ρ' ((σ.set id ⟨c,true⟩).del b) w'∧yU ρ σ w ρ' ((σ.set id ⟨c,true⟩).del b) w':=by
 have hbi:b≠id:=fun e=>by rw[e,h1]at hg;cases hg
 have hle:ρ.le (fun j=>if j=id then some ⟨e.cJ,e.sh+o,e.cap-o⟩else ρ j):=fun j ej hj=>by
  dsimp only
  split
  ·rename_i F2;subst F2;rw[h2]at hj;cases hj
  ·exact hj
 have C6:∀{j:Nat} {bj:uc},((σ.set id ⟨c,true⟩).del b).get j=some bj→(j=id∧bj=⟨c,true⟩)∨(j≠id∧j≠b∧σ.get j=some bj):=by
  intro j bj hj
  rw[Mem.rZ]at hj
  split at hj
  ·cases hj
  ·rename_i hjb
   rw[Mem.cE]at hj
   split at hj
   ·rename_i F2;cases hj;exact .inl ⟨F2,rfl⟩
   ·rename_i F2;exact .inr ⟨F2,hjb,hj⟩
 have C5:∀ r x,yk r (fun j=>if j=id then some ⟨e.cJ,e.sh+o,e.cap-o⟩else ρ j) ((σ.set id ⟨c,true⟩).del b) x→yk r ρ σ x:=by
  intro r x hx
  obtain⟨j,bj,ej,q1,q2,q3,q4⟩:=hx
  rcases C6 q1 with⟨rfl,rfl⟩|⟨n1,n2,q5⟩
  ·simp at q3;subst q3
   exact⟨b,cJ,e,hg,fun _=>xH,he,q4⟩
  ·dsimp only at q3;rw[ae n1]at q3
   exact⟨j,bj,ej,q5,q2,q3,q4⟩
 refine⟨fun j=>if j=id then some ⟨e.cJ,e.sh+o,e.cap-o⟩else ρ j,by simp,⟨fun j bj hj=>?_,fun x y bx bY ex ey hn hx hy hr VA Ta=>?_,?_⟩,⟨hle,hu.same,by rw[hu.size];exact Nat.le_refl _,fun x _ hx=>hu.rest x fun hh=>hx ⟨b,cJ,e,hg,fun _=>xH,he,hh.symm⟩,fun r x _ hx=>C5 r x hx⟩⟩
 ·rcases C6 hj with⟨rfl,rfl⟩|⟨n1,n2,q5⟩
  ·exact⟨⟨e.cJ,e.sh+o,e.cap-o⟩,arr,el,(0,0),by simp,hu.here,by simp only;omega,hc,hv.mono hle,fun _=>rfl⟩
  ·obtain⟨e2,Sp,el2,fz2,r1,r2,r3,r4,r5,r6⟩:=h.s1 _ _ q5
   have:e2.cJ≠e.cJ:=fun hh=>h.s2 _ _ _ _ _ _ (Ne.symm n2) hg q5 xH he r1 hh.symm
   exact⟨e2,Sp,el2,fz2,by simp[n1,r1],by rw[hu.rest _ this];exact r2,r3,r4,r5.mono hle,r6⟩
 ·rcases C6 hx with⟨rfl,rfl⟩|⟨n1,n2,q5⟩
  ·rcases C6 hy with⟨rfl,rfl⟩|⟨m1,m2,q6⟩
   ·exact absurd rfl hn
   ·simp at VA;subst VA
    rw[ae m1]at Ta
    exact fun hh=>h.s2 _ _ _ _ _ _ (Ne.symm m2) hg q6 xH he Ta hh
  ·rw[ae n1]at VA
   rcases C6 hy with⟨rfl,rfl⟩|⟨m1,m2,q6⟩
   ·simp at Ta;subst Ta
    exact fun hh=>h.s2 _ _ _ _ _ _ (Ne.symm n2) hg q5 xH he VA hh.symm
   ·rw[ae m1]at Ta
    exact h.s2 _ _ _ _ _ _ hn q5 q6 hr VA Ta
 ·obtain⟨N,hN⟩:=h.s3
  exact⟨N+id+1,fun i hi=>by rw[ae (by omega)];exact hN i (by omega)⟩
theorem yU.del(h:yU ρ0 σ0 w0 ρ σ w)(b:Nat):yU ρ0 σ0 w0 ρ (σ.del b) w:=
 ⟨h.le,h.same,h.size,h.aL,fun r x hx ho=>h.own r x hx ho.Re⟩
theorem CA{o:Oper}{t u e:TypeId}(ht:C.P.underlying t=some (.slice e))(hu:∃ e',C.P.underlying u=some (.slice e'))
  {z:List Value} (hz:jx C.P e=some z) (hk:tKnown C.P e=true) {n:Nat} {new ir:List Value} {s0 x':Value} {sv:Value} (hs:lp ρ σ w) (hsv:V ρ sv s0)
  (I4:∀ v' w',(∃ ty,(Builtin.append_ #[t,u] ty #[s0,x']).run C.P w=.ok v' w')→(execOp a.eval o).run C.P w=.ok (.value v') w') (hty:∃ ty:TypeId,True)
  (Ko:C.P.bytesOf e≤1024) (rV:VL ρ new ir) (hlen:new.length=n*bQ C.P e) (rU:∀ v∈ir,dV v=true)
  (hf:∀ w':World,w'.heap=w.heap→(Builtin.firstCells (bQ C.P e) n x').run C.P w'=.ok ir.toArray w') (hn:∃ a c,x'=.slice a n c)
  {K:Value→Mem→Prop} (h:app (bQ C.P e) n new sv K σ):Step C.P o a ρ σ w K:=by
 obtain⟨ty,_⟩:=hty
 obtain⟨i,zv,hi,E1,hc,lj,HI,SZ,_⟩:=fb (ρ:=ρ) hz
 have Xt:zv.cells.size=bQ C.P e:=by rw[←SZ,←hc];simp
 have Vq:i.bytes≤1024:=by simpa[Program.bytesOf,hi]using Ko
 have tU:ir.length=n*bQ C.P e:=by rw[←rV.len];exact hlen
 unfold app at h
 split at h
 ·
  cases hsv
  split at h
  ·rename_i h0
   subst h0
   refine ja (v':=.slice none 0 0) (I4 _ _ ⟨ty,?_⟩) h .yM hs (yU.refl _ _ _)
   have:=lz (P:=C.P) (w:=w) ht hu hk (ty:=ty) (base:=none) (sl:=0) (sc:=0) hn (hf w rfl) (by omega) (w':=w) (by simp) (fun _=>rfl)
   simpa using this
  ·rename_i h0
   split at h
   ·rename_i hb
    obtain⟨cap,arr,w',q1,q2,q3,q4,q5⟩:=oh (P:=C.P) (w:=w) ht hu hk hi E1 Xt (ty:=ty) (base:=none) (sl:=0) (sc:=0) (old':=[]) hn hf (by omega) (by omega) Vq
     (fun w' _=>by simp[Builtin.firstCells])
    simp only[List.length_nil,Nat.zero_add,List.nil_append]at q1 q2 q3 q5
    have Vo:cap*bQ C.P e=n*bQ C.P e+(cap-n)*bQ C.P e:=by rw[←Nat.add_mul];congr 1;omega
    refine n9 hs h q4 ?_ (by rw[hlen,q3,tU];omega) (I4 _ _ ⟨ty,q5⟩) (fun ρ' id h=>?_)
    ·unfold uG
     rw[rV.len,List.drop_zero,q2];exact rV
    ·have:=V.sl (ρ:=ρ') (o:=0) (n:=n) (c:=bQ C.P e) (c':=cap) h q1 (by simp only;rw[q3,tU];omega)
     simpa using this
   ·exact h.elim
 ·rename_i b off len c0
  split at h
  ·rename_i cJ hg
   split at h
   ·rename_i hb
    obtain⟨xH,rfl,hes,ab7,ab8⟩:=hb
    obtain⟨e0,qo,el0,fz,p1,p2,p3,p4,p5,p6⟩:=hs.s1 _ _ hg
    have:=p6 xH;subst this
    obtain⟨id,f1,f2⟩:=Jt hs
    have hK:=h id f1
    have hold:VL ρ (cJ.cells.drop off) ((qo.toList.drop (e0.sh+off)).take (len*bQ C.P e)):=by
     have:=p5.drop off
     unfold uG at this
     rw[List.drop_take,List.drop_drop]at this
     have e1:cJ.cells.length-off=len*bQ C.P e:=by omega
     rw[e1]at this;exact this
    have oU:(cJ.cells.drop off).length=len*bQ C.P e:=by simp;omega
    have grow:∀{base:Option Addr} {sc:Nat},s0=.slice base len sc→sc<len+n →
      (∀ w':World,w'.heap=w.heap→(Builtin.firstCells (bQ C.P e) len (.slice base len sc)).run C.P w'=.ok ((qo.toList.drop (e0.sh+off)).take (len*bQ C.P e)).toArray w')→Step C.P o a ρ σ w K:=by
     intro base sc aaH iL hfc
     subst aaH
     obtain⟨cap,arr,w',q1,q2,q3,q4,q5⟩:=oh (P:=C.P) (w:=w) ht hu hk hi E1 Xt (ty:=ty) hn hf iL (by omega) Vq hfc
     have I':((qo.toList.drop (e0.sh+off)).take (len*bQ C.P e)).length=len*bQ C.P e:=by rw[←hold.len];exact oU
     rw[I',tU]at q3
     rw[I']at q2
     have Vo:cap*bQ C.P e=len*bQ C.P e+n*bQ C.P e+(cap-(len+n))*bQ C.P e:=by
      rw[←Nat.add_mul,←Nat.add_mul];congr 1;omega
     have bE:(cJ.cells.drop off++new).length=len*bQ C.P e+n*bQ C.P e:=by rw[List.length_append,oU,hlen]
     obtain⟨ρ',r1,r2,r3,_⟩:=hs.push (c:=cJ.cells.drop off++new) f1 f2 q4 (Nat.le_refl arr.size) (by rw[bE,q3];omega) (by
      unfold uG
      rw[bE,List.drop_zero,←tU,q2]
      exact hold.append rV)
     refine ja (I4 _ _ ⟨ty,q5⟩) hK ?_ (r2.del b) (r3.del b)
     have:=V.sl (ρ:=ρ') (o:=0) (n:=len+n) (c:=bQ C.P e) (c':=cap) r1 q1 (by simp only;rw[q3];omega)
     simpa using this
    cases hsv with
    | @sl _ _ _ _ c' e2 hb hl Lh=>
     rw[p1]at hb;cases hb
     by_cases I5:len+n≤c'
     ·have Vo:(len+n)*bQ C.P e≤c'*bQ C.P e:=Nat.mul_le_mul_right _ I5
      rw[Nat.add_mul]at Vo
      obtain⟨w',s1,s2,s3⟩:=od (P:=C.P) (b:=e0.cJ) (o:=e0.sh+off+len*bQ C.P e) ir 0 w qo p2 rU (by omega)
      have hU:Hz w e0.cJ (.cells (lay qo.toList (e0.sh+off+len*bQ C.P e) ir).toArray el0 (0,0)) w':=by
       by_cases jd:ir=[]
       ·have:=s3 jd;subst this;subst jd
        have e1:(lay qo.toList (e0.sh+off+len*bQ C.P e) []).toArray=qo:=by apply Array.ext';simp[lay]
        rw[e1];exact⟨tI.refl _,rfl,fun _ _=>rfl,p2⟩
       ·simpa using s2 jd
      have aaG:(lay qo.toList (e0.sh+off+len*bQ C.P e) ir).length=qo.size:=by simp[lay];omega
      obtain⟨ρ',r1,r2,r3⟩:=hs.IG hg xH p1 f1 f2 (o:=off) (c:=cJ.cells.drop off++new) hU (by simp only[List.size_toArray,aaG];exact p3) (by omega) (by
       rw[List.length_append,oU,hlen];omega) (by
       have bE:(cJ.cells.drop off++new).length=len*bQ C.P e+n*bQ C.P e:=by rw[List.length_append,oU,hlen]
       rw[bE]
       have:uG (lay qo.toList (e0.sh+off+len*bQ C.P e) ir).toArray (e0.sh+off) (len*bQ C.P e+n*bQ C.P e)=(qo.toList.drop (e0.sh+off)).take (len*bQ C.P e)++ir:=by
        unfold uG lay
        simp only[]
        rw[←tU]
        apply List.ext_getElem
        ·simp;omega
        ·intro j hj hj'
         simp only[List.getElem_take,List.getElem_drop,List.getElem_append,List.length_append,List.length_take,List.length_drop,Array.length_toList]
         have m1:min (e0.sh+off+len*bQ C.P e) qo.size=e0.sh+off+len*bQ C.P e:=by omega
         have m2:min (len*bQ C.P e) (qo.size-(e0.sh+off))=len*bQ C.P e:=by omega
         simp only[m1,m2]
         have hj2:j<len*bQ C.P e+ir.length:=by
          simp at hj;omega
         by_cases c1:j<len*bQ C.P e
         ·simp[c1,show e0.sh+off+j<e0.sh+off+len*bQ C.P e from by omega,show e0.sh+off+j<e0.sh+off+len*bQ C.P e+ir.length from by omega]
         ·simp[c1,show ¬ e0.sh+off+j<e0.sh+off+len*bQ C.P e from by omega,show e0.sh+off+j<e0.sh+off+len*bQ C.P e+ir.length from by omega]
          congr 1;omega
       rw[this]
       exact hold.append rV)
      refine ja (I4 _ _ ⟨ty,lz (P:=C.P) ht hu hk hn (hf w rfl) I5 (w':=w') (fun ad had=>?_) (fun h=>by cases h)⟩) hK ?_ r2 r3
      ·cases had
       rw[yj];simpa using s1
      ·have:=V.sl (ρ:=ρ') (o:=0) (n:=len+n) (c:=bQ C.P e) (c':=c') r1 I5 (by simp only;omega)
       simpa using this
     ·refine grow rfl (by omega) fun w' hw=>?_
      have hq:w'.heap[e0.cJ]?=some (.cells qo el0 (0,0)):=by rw[hw];exact p2
      simp only[Builtin.firstCells,loadCells]
      rw[run_loadCellsFrom hq _ 0 #[] (by omega)]
      simp
    | @Ke _ _ _ a'=>
     by_cases h0:n=0
     ·subst h0
      have qf:ir=[]:=by
       have:ir.length=0:=by rw[tU];simp
       exact List.length_eq_zero_iff.1 this
      subst qf
      obtain⟨ρ',r1,r2,r3⟩:=hs.IG hg xH p1 f1 f2 (o:=off) (c:=cJ.cells.drop off++new) (⟨tI.refl w,rfl,fun _ _=>rfl,p2⟩:Hz w e0.cJ (.cells qo el0 (0,0)) w) p3 (by omega) (by
       rw[List.length_append,oU,hlen];omega) (by
       have bE:(cJ.cells.drop off++new).length=0:=by rw[List.length_append,oU,hlen];simp
       have:cJ.cells.drop off++new=[]:=List.length_eq_zero_iff.1 bE
       rw[this];simp[uG];exact .nil)
      refine ja (I4 _ _ ⟨ty,lz (P:=C.P) ht hu hk hn (hf w rfl) (Nat.le_refl _) (w':=w) (fun ad had=>?_) (fun h=>by cases h)⟩) hK ?_ r2 r3
      ·simp[storeCells]
      ·simpa using V.Ke
     ·refine grow rfl (by omega) fun w' hw=>?_
      simp[Builtin.firstCells,loadCells,loadCellsFrom]
   ·exact h.elim
  ·exact h.elim
 ·exact h.elim
end
end Go.Fl
namespace Go.Fl
open Go
section
variable{C:Cx}{ρ0:dS}{σ0:Mem}{w0:World}{lm:Nat→Option Nat}{ρ:dS}{s:St}{σ:Mem}{a:Act}{w:World}
theorem tQ{P:Program}{ev:Operand→Value}{o:Oper}{c:Call}(ho:o.op=.call c)(hc:c.callee=.builtin .append){v':Value}{w':World}
  (h:∃ ty,(Builtin.append_ c.argTypes ty (c.args.map ev)).run P w=.ok v' w'):(execOp ev o).run P w=.ok (.value v') w':=by
 obtain⟨dst,op,ty,pos,after,guard⟩:=o
 simp only at ho;subst ho
 obtain⟨ty',h⟩:=h
 obtain⟨cs,hr⟩:=ig P w (ev:=ev) (t:=ty) hc
 simp only[execOp,Sem.run_bind,hr,Result.andThen_ok,invoke,builtin]
 have:(Builtin.append_ c.argTypes ty (c.args.map ev)).run P w=.ok v' w':=h
 simp only[this,Result.andThen_ok,Sem.run_pure]
theorem step_append{o:Oper}{c:Call}{sx x:Operand}{t u e:TypeId}(ho:o.op=.call c)(hc:c.callee=.builtin .append)(ha:c.args.toList=[sx,x])(iM:c.argTypes.toList=[t,u])
  (ht:C.P.underlying t=some (.slice e)) (hu:∃ e',C.P.underlying u=some (.slice e')) {z:List Value} (hz:jx C.P e=some z) (hk:tKnown C.P e=true)
  (hsx:V ρ (mg s sx) (a.eval sx)) (hx:V ρ (mg s x) (a.eval x)) (hs:lp ρ σ w) {K:Value→Mem→Prop} (h:hAppend (bQ C.P e) (C.P.bytesOf e) [mg s sx,mg s x] K σ):Step C.P o a ρ σ w K:=by
 simp only[hAppend]at h
 split at h
 ·rename_i new rV
  split at h
  ·rename_i Ko
   obtain⟨Ko,rU⟩:=Ko
   obtain⟨ir,h1,h2,h3,h4⟩:=GR (P:=C.P) (w:=w) hx hs rV rfl
   refine CA ht hu hz hk hs hsx (x':=a.eval x) (fun v' w' hr=>?_) ⟨0,trivial⟩ Ko h1 h2 (h1.dV rU) h3 h4 h
   refine tQ ho hc ?_
   have e1:c.argTypes=#[t,u]:=Array.ext' (by simpa using iM)
   rw[e1,kE ha]
   exact hr
  ·exact h.elim
 ·exact h.elim
theorem A4{o:Oper}{c:Call}{sx x:Operand}{t u e:TypeId}(ho:o.op=.call c)(hc:c.callee=.builtin .append)(ha:c.args.toList=[sx,x])(iM:c.argTypes.toList=[t,u])
  (ht:C.P.underlying t=some (.slice e)) (hu:∃ e',C.P.underlying u=some (.slice e')) {z:List Value} (hz:jx C.P e=some z) (hk:tKnown C.P e=true)
  (hsx:V ρ (mg s sx) (a.eval sx)) {k:Nat} (hx:DJ lm k (mg s x) (a.eval x)) (hs:lp ρ σ w)
  (hlb:∀ b,lm k=some b→∃ arr el,w.heap[b]?=some (.cells arr el (0,0))∧VL ρ (s.l k) arr.toList)
  {K:Value→Mem→Prop} (h:cv (bQ C.P e) (C.P.bytesOf e) (s.l k) [mg s sx,mg s x] K σ):Step C.P o a ρ σ w K:=by
 unfold cv at h
 split at h
 ·rename_i s1 b0 n c0 GY
  simp at GY
  obtain⟨rfl,GY⟩:=GY
  split at h
  ·rename_i hb
   obtain⟨Ko,hlen,rU⟩:=hb
   rcases hx with h1|⟨o',b,h1,h2,h3⟩|⟨o',b,n',es,c',h1,h2,h3⟩
   ·rw[GY]at h1;cases h1
   ·rw[GY]at h1;cases h1
   ·rw[GY]at h1;cases h1
    obtain⟨arr,el,q1,q2⟩:=hlb b h2
    refine CA ht hu hz hk hs hsx (x':=a.eval x) (fun v' w' hr=>?_) ⟨0,trivial⟩ Ko q2 hlen (q2.dV rU) (fun w' hw=>?_) ⟨_,_,h3⟩ h
    ·refine tQ ho hc ?_
     have e1:c.argTypes=#[t,u]:=Array.ext' (by simpa using iM)
     rw[e1,kE ha]
     exact hr
    ·have hq:w'.heap[b]?=some (.cells arr el (0,0)):=by rw[hw];exact q1
     have SZ:arr.size=n*bQ C.P e:=by have:=q2.len;rw[hlen]at this;simpa using this.symm
     rw[h3]
     simp only[Builtin.firstCells,loadCells]
     rw[run_loadCellsFrom hq _ 0 #[] (by omega)]
     rw[←SZ]
     simp[List.take_of_length_le]
  ·exact h.elim
 ·exact h.elim
theorem GF{o:Oper}{c:Call}{g:Nat}(ho:o.op=.call c)(hc:c.callee=.value (.func g)){S:Spec}(hS:Sound C.P g S)(bE:Callable C.P g)
  (hx:VL ρ (c.args.toList.map (mg s)) (c.args.toList.map a.eval)) (hs:lp ρ σ w) {K:Value→Mem→Prop} (h:S (c.args.toList.map (mg s)) K σ):Step C.P o a ρ σ w K:=by
 obtain⟨dst,op,ty,pos,after,guard⟩:=o
 simp only at ho;subst ho
 obtain⟨fn,q1,q2,q3⟩:=bE
 intro next Q hn
 unfold Oper.wp
 have hr:(execOp a.eval ⟨dst,.call c,ty,pos,after,guard⟩).run C.P w=.ok (.enter g (c.args.toList.map a.eval).toArray) w:=by
  have e1:c.args.map a.eval=(c.args.toList.map a.eval).toArray:=by apply Array.ext';simp
  simp only[execOp,resolve,hc,Act.eval,Deferred.ofValue,Sem.run_bind,Sem.run_pure,Result.andThen_ok,invoke,callFunc,run_program,q1,q2,q3,Bool.false_eq_true,if_false]
  congr 2
  apply Array.ext'
  simp
 rw[hr,Oper.upon_enter]
 refine Calls.mono (hS _ K σ h ρ w _ hs hx) fun e w' he=>?_
 obtain⟨v,v',ρ',σ',rfl,h1,h2,h3,h4⟩:=he
 exact hn _ _ _ _ _ h1 h2 h3 h4
theorem Ip{o:Oper}{c:Call}{recv:Operand}{name:String}{g t:Nat}{v0:Value}(ho:o.op=.call c)(hc:c.callee=.invoke recv name)(hv0:mg s recv=.iface t v0){S:Spec}(hm:qt C.P (name,t,g))(hS:Sound C.P g S)(bE:Callable C.P g)
  (hx:VL ρ ((recv::c.args.toList).map (mg s)) ((recv::c.args.toList).map a.eval)) (hs:lp ρ σ w) {K:Value→Mem→Prop} (h:S (v0::c.args.toList.map (mg s)) K σ):Step C.P o a ρ σ w K:=by
 obtain⟨dst,op,ty,pos,after,guard⟩:=o
 simp only at ho;subst ho
 obtain⟨fn,q1,q2,q3⟩:=bE
 simp only[List.map_cons]at hx
 cases hx with
 | cons hr hx=>
  rw[hv0]at hr
  generalize he:a.eval recv=rv at hr
  cases hr with
  | iface _ hv=>
   rename_i v'
   intro next Q hn
   unfold Oper.wp
   have hr:(execOp a.eval ⟨dst,.call c,ty,pos,after,guard⟩).run C.P w=.ok (.enter g (v'::c.args.toList.map a.eval).toArray) w:=by
    have h0:(#[Value.iface t v']++c.args.map a.eval)[0]?=some (.iface t v'):=by rw[←Array.getElem?_toList];simp[-Array.getElem?_toList]
    have h1:(#[Value.iface t v']++c.args.map a.eval).extract 1 (#[Value.iface t v']++c.args.map a.eval).size=c.args.map a.eval:=by
     apply Array.ext';simp[List.take_of_length_le]
    simp only[execOp,resolve,hc,he,Sem.run_bind,Sem.run_pure,Result.andThen_ok,invoke,h0,h1,callMethod,callFunc,run_program,hm v' w,q1,q2,q3,Bool.false_eq_true,if_false]
    congr 2
    apply Array.ext'
    simp
   rw[hr,Oper.upon_enter]
   refine Calls.mono (hS _ K σ h ρ w _ hs (.cons hv hx)) fun e w' he=>?_
   obtain⟨v,v',ρ',σ',rfl,h1,h2,h3,h4⟩:=he
   exact hn _ _ _ _ _ h1 h2 h3 h4
theorem BO{o:Oper}(hd:(o.dst.all fun d=>Nat.blt d C.n)=true){d:Nat}(h:o.dst=some d):d<C.n:=by
 rw[h]at hd
 exact Nat.le_of_ble_eq_true hd
theorem vn{o:Oper}{d:Nat}(h:o.dst=some d):C.dl o=C.loc.lookup d:=by
 simp only[Cx.dl,h,Option.bind_some]
theorem jq{o:Oper}{K:St→Mem→Prop}(hI:FI C ρ0 σ0 w0 lm ρ s σ a w)(hd:(o.dst.all fun d=>Nat.blt d C.n)=true)(hl:C.dl o=none)
  (h:Step C.P o a ρ σ w fun v τ=>K (s.put o.dst v) τ) {next:Act→World→Prop} {Q:Exit→Act→World→Prop}
  (hn:∀ xA ρ' s' σ' a' w',K s' σ'→FI C ρ0 σ0 w0 xA ρ' s' σ' a' w'→next a' w'):o.wp C.P a w next Q:=by
 refine h next Q fun v v' ρ' σ' w' hk hv hs ht=>hn lm ρ' _ σ' _ w' hk ?_
 have h1:=hI.step hs ht
 cases xJ:o.dst with
 | none=>exact h1.CR v v'
 | some d=>
  refine h1.put (BO hd xJ) (fun _=>hv) fun k hk=>?_
  rw[vn xJ]at hl
  rw[hl]at hk;cases hk
theorem xz{o:Oper}{K:St→Mem→Prop}(hI:FI C ρ0 σ0 w0 lm ρ s σ a w)(hd:(o.dst.all fun d=>Nat.blt d C.n)=true){v v':Value}
  (hr:(execOp a.eval o).run C.P w=.ok (.value v') w) (hk:K (s.put o.dst v) σ) (hp:C.dl o=none→V ρ v v') (hl:∀ k,C.dl o=some k→DJ lm k v v')
  {next:Act→World→Prop} {Q:Exit→Act→World→Prop}
  (hn:∀ xA ρ' s' σ' a' w',K s' σ'→FI C ρ0 σ0 w0 xA ρ' s' σ' a' w'→next a' w'):o.wp C.P a w next Q:=by
 unfold Oper.wp
 rw[hr,Oper.upon_value]
 refine hn lm ρ _ σ _ w hk ?_
 cases xJ:o.dst with
 | none=>exact hI.CR v v'
 | some d=>
  exact hI.put (BO hd xJ) (fun h=>hp (by rw[vn xJ];exact h)) fun k hk=>hl k (by rw[vn xJ];exact hk)
theorem j9{c:vo}{r:Spec}{d:Option Nat}{args:List Value}{K:St→Mem→Prop}(h:ij C (.h c r) d args s σ K):r args (fun v τ=>K (s.put d v) τ) σ:=h
theorem Bt{o:Oper}{K:St→Mem→Prop}(hI:FI C ρ0 σ0 w0 lm ρ s σ a w)(hd:(o.dst.all fun d=>Nat.blt d C.n)=true){k:Nat}(xJ:o.dst=some k)(hl:C.loc.lookup k=some k)
  (hf:qg C k s=true) {arr:Array Value} {el:TypeId} {c:List Value} {w':World} {v v':Value} (hp:Fy w (.cells arr el (0,0)) w') (hc:VL ρ c arr.toList)
  (hr:(execOp a.eval o).run C.P w=.ok (.value v') w') (hk:K ((s.uo k c).put o.dst v) σ) (hv:DJ (fun i=>if i=k then some w.heap.size else lm i) k v v')
  {next:Act→World→Prop} {Q:Exit→Act→World→Prop}
  (hn:∀ xA ρ' s' σ' a' w',K s' σ'→FI C ρ0 σ0 w0 xA ρ' s' σ' a' w'→next a' w'):o.wp C.P a w next Q:=by
 unfold Oper.wp
 rw[hr,Oper.upon_value]
 refine hn (fun i=>if i=k then some w.heap.size else lm i) ρ _ σ _ w' hk ?_
 rw[xJ]
 exact(hI.aap hf hp hc).put (BO hd xJ) (fun h=>by rw[hl]at h;cases h) fun k' kV=>by rw[hl]at kV;cases kV;exact hv
theorem ql{o:Oper}{xs:List Operand}{l:Nat→Sm}{hh:Sm}{p:List Operand×Sm}(h:yg C o xs l hh=some p) :
  C.plain xs=true∧((∃ k,o.dst=some k∧C.loc.lookup k=some k∧p=(xs,l k))∨(C.dl o=none∧p=(xs,hh))):=by
 unfold yg at h
 split at h
 ·rename_i d hd
  split at h
  ·rename_i k hk
   split at h
   ·rename_i hb
    cases h
    simp only[Bool.and_eq_true,beq_iff_eq]at hb
    obtain⟨rfl,hp⟩:=hb
    exact⟨hp,.inl ⟨k,hd,hk,rfl⟩⟩
   ·cases h
  ·rename_i hk
   split at h
   ·rename_i hp
    cases h
    exact⟨hp,.inr ⟨by simp[Cx.dl,hd,hk],rfl⟩⟩
   ·cases h
 ·cases h
theorem zd(hT:Kw C)(he:C.eqt.all (eqOk C.P)=true)(hI:FI C ρ0 σ0 w0 lm ρ s σ a w){o:Oper}{K:St→Mem→Prop}(h:vd C o s σ K)
  {next:Act→World→Prop} {Q:Exit→Act→World→Prop}
  (hn:∀ xA ρ' s' σ' a' w',K s' σ'→FI C ρ0 σ0 w0 xA ρ' s' σ' a' w'→next a' w'):o.wp C.P a w next Q:=by
 unfold vd at h
 split at h
 case h_2=>exact h.elim
 rename_i xs m fu
 split at h
 case isFalse=>exact h.elim
 rename_i hd
 have hF:So C o=some (xs,m)→o.wp C.P a w next Q:=by
  intro hf
  unfold So at hf
  split at hf
  ·rename_i ys g hfo
   split at hf
   ·rename_i Kn
    split at hf
    ·rename_i hb
     cases hf
     simp only[Bool.and_eq_true]at hb
     obtain⟨v,hg,hk⟩:=uE h
     obtain⟨v',hr,hv⟩:=Lo hfo he (ev:=mg s) (ev':=a.eval) (hI.pY hb.1) hg
     exact xz hI hd hr hk (fun _=>hv) (fun k hk=>by rw[Kn]at hk;cases hk) hn
    ·cases hf
   ·rename_i k Kn
    split at hf
    ·rename_i x ys'
     split at hf
     ·rename_i hb
      cases hf
      simp only[Bool.and_eq_true,beq_iff_eq]at hb
      obtain⟨v,hg,hk⟩:=uE h
      obtain⟨v',hr,hv⟩:=ER (w:=w) (lm:=lm) hfo hb.2 (hI.KP hb.1.2) (hI.pY hb.1.1) hg
      exact xz hI hd hr hk (fun h=>by rw[Kn]at h;cases h) (fun k' kV=>by rw[Kn]at kV;cases kV;exact hv) hn
     ·cases hf
    ·cases hf
  ·cases hf
 unfold comp at fu
 split at fu
 ·
  rename_i e qd
  split at fu
  ·rename_i z hz
   obtain⟨hp,⟨k,h1,h2,h3⟩|⟨h1,h2⟩⟩:=ql fu
   ·cases h3
    simp only[ij]at h
    split at h
    rotate_left
    ·exact h.elim
    ·rename_i vk
     obtain⟨i,zv,hi,E1,hc,lj,HI,SZ,_⟩:=fb (ρ:=ρ) hz
     simp only[List.map_nil,mU,xC]at h
     refine Bt hI hd h1 h2 vk (kB w (.cells zv.cells e)) (by rw[hc];exact HI) (v':=.pointer (some ⟨w.heap.size,0,none⟩)) ?_ h (.inr (.inl ⟨0,w.heap.size,rfl,by simp,rfl⟩)) hn
     obtain⟨dst,op,ty,pos,after,guard⟩:=o
     simp only at qd;subst qd
     simp only[execOp]
     refine BI ?_
     simp only[Instr.alloc,Sem.run_bind,cU hi E1,Result.andThen_ok,mM,Sem.run_pure]
   ·cases h2
    exact jq hI hd h1 (D8 qd hz hI.s_ (j9 h)) hn
  ·cases fu
 ·
  rename_i e x qd
  split at fu
  ·rename_i hk
   obtain⟨hp,⟨k,h1,h2,h3⟩|⟨h1,h2⟩⟩:=ql fu
   ·cases h3
    simp only[ij]at h
    split at h
    rotate_left
    ·exact h.elim
    ·rename_i vk
     obtain⟨c0,Li,h⟩:=mE h
     ·simp only[List.map_cons,List.map_nil,bO]at Li
      have hx:=hI.plain (x:=x) (by simpa[Cx.plain]using hp)
      obtain⟨c',C7,hl⟩:=hx.cells Li
      obtain⟨e1,e2,e3⟩:=kH C7
      refine Bt hI hd h1 h2 vk (kB w (.cells (a.eval x).cells e)) (by rw[e1];exact hl) (v':=.pointer (some ⟨w.heap.size,0,none⟩)) ?_ h (.inr (.inl ⟨0,w.heap.size,rfl,by simp,rfl⟩)) hn
      obtain⟨dst,op,ty,pos,after,guard⟩:=o
      simp only at qd;subst qd
      simp only[execOp]
      refine BI ?_
      simp only[Instr.box,Sem.run_bind,Result.andThen_ok,mM,Sem.run_pure]
   ·cases h2
    exact jq hI hd h1 (Iq (s:=s) qd (hI.plain (by simpa[Cx.plain]using hp)) hI.s_ (j9 h)) hn
  ·cases fu
 ·
  rename_i t p qd
  unfold Fk at fu
  split at fu
  ·rename_i hb
   simp only[Bool.and_eq_true]at hb
   have Kn:C.dl o=none:=by simpa using hb.2
   split at fu
   ·rename_i k hk
    cases fu
    simp only[ij,List.map_cons,List.map_nil]at h
    obtain⟨v,hv,h⟩:=qE h
    ·unfold ah at hv
     split at hv
     ·rename_i ad cs hx
      simp at hx
      rcases hI.KP hk with q1|⟨o',b,q1,q2,q3⟩|⟨o',b,n',es,c',q1,q2,q3⟩
      ·rw[hx]at q1;cases q1
      ·rw[hx]at q1;cases q1
       obtain⟨_,arr,el,r1,r2⟩:=hI.lb _ _ q2
       obtain⟨hle,v',s1,s2⟩:=lW r2 hv
       refine xz hI hd ?_ h (fun _=>s2) (fun k hk=>by rw[Kn]at hk;cases hk) hn
       obtain⟨dst,op,ty,pos,after,guard⟩:=o
       simp only at qd;subst qd
       simp only[execOp,q3]
       refine BI ?_
       simp only[Instr.loadAt,Instr.sureAddr,Sem.run_bind,Sem.run_pure,Result.andThen_ok]
       exact og hb.1.1 (by simpa using hb.1.2) r1 (by simpa using hle) s1
      ·rw[hx]at q1;cases q1
     ·cases hv
   ·rename_i hk
    cases fu
    exact jq hI hd Kn (GD (s:=s) qd hb.1.1 hb.1.2 (hI.plain (by simp[hk])) hI.s_ (j9 h)) hn
  ·cases fu
 ·
  rename_i t p x qd
  unfold BZ at fu
  split at fu
  ·rename_i hb
   simp only[Bool.and_eq_true]at hb
   have Vj:o.dst=none:=by simpa using hb.2
   have hx:=hI.plain (x:=x) (by simpa[Cx.plain]using hb.1.2)
   split at fu
   ·rename_i k hk
    cases fu
    simp only[ij,List.map_cons,List.map_nil]at h
    obtain⟨c,MK,h⟩:=mE h
    ·unfold aH at MK
     split at MK
     ·rename_i ad x0 cs GY
      simp at GY
      obtain⟨E2,rfl⟩:=GY
      split at MK
      ·rename_i c0 Li
       split at MK
       ·rename_i hle
        cases MK
        rcases hI.KP hk with q1|⟨o',b,q1,q2,q3⟩|⟨o',b,n',es,c',q1,q2,q3⟩
        ·rw[E2]at q1;cases q1
        ·rw[E2]at q1;cases q1
         obtain⟨_,arr,el,r1,r2⟩:=hI.lb _ _ q2
         obtain⟨c',C7,hl⟩:=hx.cells Li
         have lj:arr.size=(s.l k).length:=by simpa using r2.len.symm
         obtain⟨w',s1,s2⟩:=rN (P:=C.P) (w:=w) (o:=o') hb.1.1 r1 C7 (hl.dV hle.2) (by rw[lj];exact hle.1)
         unfold Oper.wp
         have hr:(execOp a.eval o).run C.P w=.ok .skip w':=by
          obtain⟨dst,op,ty,pos,after,guard⟩:=o
          simp only at qd;subst qd
          simp only[execOp,q3]
          exact Vx (by simp only[Instr.storeAt,Instr.sureAddr,Sem.run_bind,Sem.run_pure,Result.andThen_ok,s1])
         rw[hr,Oper.upon_skip,Vj]
         rw[Vj]at h
         exact hn lm ρ _ σ _ w' h (hI.uo q2 s2 (by simpa using r2.lay hl o'))
        ·rw[E2]at q1;cases q1
       ·cases MK
      ·cases MK
     ·cases MK
   ·rename_i hk
    cases fu
    exact jq hI hd (by simp[Cx.dl,Vj]) (D5 (s:=s) qd hb.1.1 (hI.plain (by simp[hk])) hx hI.s_ (j9 h)) hn
  ·cases fu
 ·
  rename_i t len parts qd
  split at fu
  ·rename_i e ht
   split at fu
   ·rename_i z hz
    split at fu
    ·rename_i hb
     obtain⟨hp,⟨k,h1,h2,h3⟩|⟨h1,h2⟩⟩:=ql fu
     ·cases h3
      simp only[ij]at h
      split at h
      rotate_left
      ·exact h.elim
      ·rename_i vk
       obtain⟨c0,Li,h⟩:=mE h
       ·simp only[iu]at Li
        obtain⟨c',r1,r2⟩:=xo (w:=w) ht hz hb (jk (ev:=a.eval) parts) (hI.pY hp) Li
        refine Bt hI hd h1 h2 vk (kB w (.cells c' e)) r1 (v':=.slice (some ⟨w.heap.size,0,none⟩) len len) ?_ h
         (.inr (.inr ⟨0,w.heap.size,len,_,len,rfl,by simp,rfl⟩)) hn
        obtain⟨dst,op,ty,pos,after,guard⟩:=o
        simp only at qd;subst qd
        simp only[execOp]
        exact BI r2
     ·cases h2
      exact jq hI hd h1 (Cz (s:=s) qd ht hz hb (hI.pY hp) hI.s_ (j9 h)) hn
    ·cases fu
   ·cases fu
  ·cases fu
 ·
  rename_i t n m qd
  split at fu
  ·rename_i e ht
   split at fu
   ·rename_i z hz
    split at fu
    ·rename_i hb
     cases fu
     simp only[Bool.and_eq_true,Cx.plain,List.all_cons,List.all_nil,Bool.and_true]at hb
     exact jq hI hd (by simpa using hb.1.2) (D7 (s:=s) qd ht hz (hI.plain hb.1.1.1) (hI.plain hb.1.1.2) hI.s_ (j9 h)) hn
    ·cases fu
   ·cases fu
  ·cases fu
 ·
  rename_i c qd
  split at fu
  ·rename_i hc
   split at fu
   ·rename_i sx x t u ha iM
    unfold yh at fu
    split at fu
    ·rename_i e e' ht hu
     split at fu
     ·rename_i z hz
      split at fu
      ·rename_i hb
       simp only[Bool.and_eq_true,Cx.plain,List.all_cons,List.all_nil,Bool.and_true]at hb
       have Kn:C.dl o=none:=by simpa using hb.1.1.2
       split at fu
       ·rename_i k hk
        cases fu
        exact jq hI hd Kn (A4 (s:=s) (lm:=lm) qd hc ha iM ht ⟨_,hu⟩ hz hb.2 (hI.plain hb.1.1.1) (hI.KP hk) hI.s_
         (fun b hb=>let ⟨_,arr,el,r1,r2⟩:=hI.lb _ _ hb;⟨arr,el,r1,r2⟩) h) hn
       ·rename_i hk
        cases fu
        exact jq hI hd Kn (step_append (s:=s) qd hc ha iM ht ⟨_,hu⟩ hz hb.2 (hI.plain hb.1.1.1) (hI.plain (by simp[hk])) hI.s_ (j9 h)) hn
      ·cases fu
     ·cases fu
    ·cases fu
   ·cases fu
  ·rename_i g hc
   unfold Fo at fu
   split at fu
   ·rename_i hb
    simp only[Bool.and_eq_true]at hb
    split at fu
    ·rename_i cl S hl
     cases fu
     obtain⟨t1,t2,t3⟩:=hT.t _ _ _ hl
     exact jq hI hd (by simpa using hb.1.2) (GF (s:=s) qd hc t1 t3 (hI.pY hb.1.1) hI.s_ (j9 h)) hn
    ·cases fu
   ·cases fu
  ·rename_i recv name hc
   unfold JX at fu
   split at fu
   ·rename_i hb
    simp only[Bool.and_eq_true]at hb
    cases fu
    have h':=j9 h
    simp only[List.map_cons]at h'
    unfold Jk at h'
    split at h'
    ·rename_i t v rest hargs
     simp only[List.cons.injEq]at hargs
     split at h'
     ·rename_i S hl
      obtain⟨g,cl,BD,hlk⟩:=xE hl
      obtain⟨t1,t2,t3⟩:=hT.t _ _ _ hlk
      rw[←hargs.2]at h'
      exact jq hI hd (by simpa using hb.1.2) (Ip (s:=s) qd hc hargs.1 (hT.i _ BD) t1 t3 (hI.pY hb.1.1) hI.s_ h') hn
     ·exact h'.elim
    ·exact h'.elim
   ·cases fu
  ·exact hF fu
 ·exact hF fu
end
end Go.Fl
namespace Go.Fl
open Go
def ze(C:Cx)(ops:Array Oper)(o:Oper)(s:St)(σ:Mem)(K:St→Mem→Prop):Prop:=
 match o.guard with
 | none=>vd C o s σ K
 | some (j,w)=>if XO C ops j=true then
   match mT ops s j with
   | .bool b=>if b=w then vd C o s σ K else K (s.put o.dst undef) σ
   | .tuple vs=>if vs.size=0 then K (s.put o.dst undef) σ else False
   | _=>False
  else False
def kC(C:Cx)(ops:Array Oper)(K:St→Mem→Prop):List Nat→St→Mem→Prop
 | [],s,σ=>K s σ
 | i::rest,s,σ=>match ops[i]? with
  | some o=>ze C ops o s σ fun s σ=>kC C ops K rest s σ
  | none=>kC C ops K rest s σ
def fo:List Oper→Bool
 | []=>true
 | o::l=>(match o.dst with
  | some d=>l.all fun p=>match p.dst with
   | some e => !(Nat.beq d e)
   | none=>true
  | none=>true)&&fo l
theorem yS:∀{l:List Oper},fo l=true→∀{i j:Nat} {o p:Oper} {d:Nat},l[i]?=some o→l[j]?=some p→i≠j→o.dst=some d→p.dst≠some d:=by
 intro l
 induction l with
 | nil=>intro _ i j o p d hi;simp at hi
 | cons x xs ih=>
  intro h i j o p d hi hj hn hd hp
  simp only[fo,Bool.and_eq_true]at h
  have key:∀{k:Nat} {q:Oper} {d:Nat},x.dst=some d→xs[k]?=some q→q.dst≠some d:=by
   intro k q d hx hk hq
   have h1:=h.1
   rw[hx]at h1
   have:=List.all_eq_true.1 h1 q (List.mem_of_getElem? hk)
   rw[hq]at this
   simp at this
  cases i with
  | zero=>
   simp at hi;subst hi
   cases j with
   | zero=>exact hn rfl
   | succ j=>exact key hd (by simpa using hj) hp
  | succ i=>
   cases j with
   | zero=>simp at hj;subst hj;exact key hp (by simpa using hi) hd
   | succ j=>exact ih h.2 (by simpa using hi) (by simpa using hj) (by omega) hd hp
def nt(ops:Array Oper)(s:St)(i:Nat)(dec:List (Nat×Option Bool)):Prop:=
 ∀ j x,dec.lookup j=some x→j<i∧(match x with
  | some b=>mT ops s j=.bool b
  | none=>mT ops s j=undef)
theorem KH{C:Cx}{m:Sm}{d:Option Nat}{args:List Value}{s:St}{σ:Mem}{K:St→Mem→Prop}(hm:m.bP)(h:ij C m d args s σ K) :
  ij C m d args s σ (fun s' τ=>K s' τ∧∀ t,d≠some t→s'.t t=s.t t):=by
 have G1:∀(s:St) (v:Value) t,d≠some t→(s.put d v).t t=s.t t:=by
  intro s v t ht
  cases d with
  | none=>rfl
  | some d=>rw[xw];rw[ae];intro e;exact ht (by rw[e])
 cases m with
 | f g=>exact uD (fun v hk=>⟨hk,G1 s v⟩) h
 | lr k g=>exact qD (fun v hk=>⟨hk,G1 s v⟩) h
 | lw k fr g=>
  cases fr with
  | none=>exact kZ (fun c hk=>⟨hk,G1 (s.uo k _) _⟩) h
  | some v=>
   simp only[ij]at *
   split at h
   ·rename_i hf
    rw[af hf]
    exact kZ (fun c hk=>⟨hk,G1 (s.uo k _) _⟩) h
   ·exact h.elim
 | h c r=>exact Good.mono hm _ _ _ _ (fun v τ hk=>⟨hk,G1 s v⟩) h
 | hl c k r=>exact Good.mono (hm _) _ _ _ _ (fun v τ hk=>⟨hk,G1 s v⟩) h
theorem Ur{C:Cx}(hC:C.bP){o:Oper}{s:St}{σ:Mem}{K:St→Mem→Prop}(h:vd C o s σ K):vd C o s σ (fun s' τ=>K s' τ∧∀ t,o.dst≠some t→s'.t t=s.t t):=by
 unfold vd at *
 split at h
 ·rename_i xs m hc
  split at h
  ·rename_i hd
   rw[af hd]
   exact KH (fp hC hc) h
  ·exact h.elim
 ·exact h.elim
theorem zu{ops:Array Oper}{s s':St}{i j:Nat}{o:Oper}(hD:fo ops.toList=true)(ho:ops[i]?=some o)(hj:j<i)
  (h:∀ t,o.dst≠some t→s'.t t=s.t t):mT ops s' j=mT ops s j:=by
 unfold mT
 split
 ·rename_i p hp
  split
  ·rename_i d hd
   refine h d ?_
   exact yS hD (i:=j) (j:=i) (by simpa using hp) (by simpa using ho) (by omega) hd
  ·rfl
 ·rfl
theorem nt.next{ops:Array Oper}{s s':St}{i:Nat}{o:Oper}{dec:List (Nat×Option Bool)}(hD:fo ops.toList=true)(ho:ops[i]?=some o)
  (h:∀ t,o.dst≠some t→s'.t t=s.t t) (hd:nt ops s i dec):nt ops s' (i+1) dec:=by
 intro j x hj
 obtain⟨h1,h2⟩:=hd j x hj
 refine⟨by omega,?_⟩
 cases x with
 | none=>simp only at h2 ⊢;rw[zu hD ho h1 h];exact h2
 | some b=>simp only at h2 ⊢;rw[zu hD ho h1 h];exact h2
theorem nt.cons{ops:Array Oper}{s:St}{i j:Nat}{x:Option Bool}{dec:List (Nat×Option Bool)}(hj:j<i)(hx:match x with
  | some b=>mT ops s j=.bool b
  | none=>mT ops s j=undef) (hd:nt ops s i dec):nt ops s i ((j,x)::dec):=by
 intro k y hk
 simp only[List.lookup_cons]at hk
 split at hk
 ·rename_i he
  simp at he hk;subst he;subst hk
  exact⟨hj,hx⟩
 ·exact hd k y hk
theorem xx(s:St)(d:Option Nat)(v:Value):∀ t,d≠some t→(s.put d v).t t=s.t t:=by
 intro t ht
 cases d with
 | none=>rfl
 | some d=>rw[xw,ae];intro e;exact ht (by rw[e])
theorem Jm{ops:Array Oper}{s:St}{i:Nat}{o:Oper}(ho:ops[i]?=some o):mT ops (s.put o.dst undef) i=undef:=by
 unfold mT
 simp only[ho]
 cases hd:o.dst with
 | none=>rfl
 | some d=>simp only;rw[xw,af rfl]
theorem F8{ops:Array Oper}{s:St}{j:Nat}{b:Bool}(h:mT ops s j=.bool b):G6 ops s j b=s:=by
 unfold mT at h
 unfold G6
 split at h
 ·rename_i o ho
  split at h
  ·rename_i d hd
   have ext:∀{a b:St},a.t=b.t→a.l=b.l→a=b:=by intro a b h1 h2;cases a;cases b;simp at h1 h2;rw[h1,h2]
   apply ext
   ·funext t
    rw[hd,xw]
    split
    ·rename_i e;subst e;exact h.symm
    ·rfl
   ·rw[y_]
  ·cases h
 ·cases h
theorem GW{C:Cx}(hC:C.bP){ops:Array Oper}{K:St→Mem→Prop}(hD:fo ops.toList=true) :
  ∀(l:List Oper) (i:Nat) (dec:List (Nat×Option Bool)) (s:St) (σ:Mem),ops.toList.drop i=l→nt ops s i dec→gO C ops K l i dec s σ →
   kC C ops K (List.range' i l.length) s σ:=by
 intro l
 induction l with
 | nil=>intro i dec s σ hl hd h;simpa[kC,gO]using h
 | cons o rest ih=>
  intro i dec s σ hl hd h
  have ho:ops[i]?=some o:=by
   have:=congrArg (fun l=>l[0]?) hl
   simpa using this
  have ML:ops.toList.drop (i+1)=rest:=by have:=congrArg List.tail hl;simpa using this
  have go:∀{dec:List (Nat×Option Bool)},nt ops s i dec→vd C o s σ (fun s σ=>gO C ops K rest (i+1) dec s σ) →
    vd C o s σ (fun s σ=>kC C ops K (List.range' (i+1) rest.length) s σ):=by
   intro dec hd h
   exact lY hC (fun s' τ hk=>ih _ _ _ _ ML (hd.next hD ho hk.2) hk.1) (Ur hC h)
  have skip:∀{dec:List (Nat×Option Bool)},nt ops s i dec→gO C ops K rest (i+1) ((i,none)::dec) (s.put o.dst undef) σ →
    kC C ops K (List.range' (i+1) rest.length) (s.put o.dst undef) σ:=by
   intro dec hd h
   exact ih _ _ _ _ ML (nt.cons (by omega) (Jm ho) (hd.next hD ho (xx s o.dst undef))) h
  simp only[List.length_cons,List.range'_succ,kC,ho]
  unfold gO at h
  unfold ze
  split at h
  ·rename_i hg
   try rw[hg]
   exact go hd h
  ·rename_i j w hg
   try rw[hg]
   dsimp only
   split at h
   rotate_left
   ·exact h.elim
   rename_i K9
   rw[af K9]
   split at h
   ·rename_i b hl
    have hv:=(hd _ _ hl).2
    dsimp only at hv
    rw[hv]
    dsimp only
    split at h
    ·rename_i hb
     simp at hb
     rw[af hb]
     exact go hd h
    ·rename_i hb
     simp at hb
     rw[ae (by simpa using hb)]
     exact skip hd h
   ·rename_i hl
    have hv:=(hd _ _ hl).2
    dsimp only at hv
    rw[hv]
    simp only[undef]
    exact skip hd h
   ·rename_i hl
    split at h
    rotate_left
    ·exact h.elim
    rename_i hj
    have F2:j<i:=Nat.le_of_ble_eq_true hj
    unfold aV at h
    split at h
    ·rename_i hv
     rw[F8 hv]at h
     rw[hv]
     dsimp only
     have Vl:=nt.cons (x:=some true) F2 hv hd
     split at h
     ·rename_i hw;rw[hw,af rfl];exact go Vl h
     ·rename_i hw
      rw[ae (fun e=>hw e.symm)]
      exact skip Vl h
    ·rename_i hv
     rw[F8 hv]at h
     rw[hv]
     dsimp only
     have Vl:=nt.cons (x:=some false) F2 hv hd
     split at h
     ·rename_i hw
      rw[ae (by rw[hw];simp)]
      exact skip Vl h
     ·rename_i hw
      have:w=false:=by simpa using hw
      rw[this,af rfl]
      exact go Vl h
    ·exact h.elim
section
variable{C:Cx}{ρ0:dS}{σ0:Mem}{w0:World}{lm:Nat→Option Nat}{ρ:dS}{s:St}{σ:Mem}{a:Act}{w:World}
def DH(C:Cx)(ρ0:dS)(σ0:Mem)(w0:World)(K:St→Mem→Prop)(next:Act→World→Prop):Prop:=
 ∀ lm ρ s σ a w,K s σ→FI C ρ0 σ0 w0 lm ρ s σ a w→next a w
theorem lZ(hT:Kw C)(he:C.eqt.all (eqOk C.P)=true){ops:Array Oper}{i:Nat}{o:Oper}(ho:ops[i]?=some o){K:St→Mem→Prop}(h:ze C ops o s σ K)
  (hI:FI C ρ0 σ0 w0 lm ρ s σ a w) (Vj:(o.dst.all fun d=>Nat.blt d C.n)=true) {next:Act→World→Prop} {Q:Exit→Act→World→Prop} (hn:DH C ρ0 σ0 w0 K next):wpOp C.P ops Q i next a w:=by
 unfold wpOp
 rw[ho]
 dsimp only
 unfold ze at h
 have skip:FI C ρ0 σ0 w0 lm ρ (s.put o.dst undef) σ (a.put o.dst undef) w:=by
  cases xJ:o.dst with
  | none=>exact hI
  | some d=>exact hI.put (BO Vj xJ) (fun _=>.undef) (fun k _=>.inl rfl)
 split at h
 ·rename_i hg
  have:Region.wanted o (yielded ops a.tmps)=true:=by simp[Region.wanted,hg]
  rw[af this]
  exact .inl (zd hT he hI h fun xA ρ' s' σ' a' w' hk hf=>hn _ _ _ _ _ _ hk hf)
 ·rename_i j w' hg
  split at h
  rotate_left
  ·exact h.elim
  rename_i K9
  have hy:∀{v:Value},mT ops s j=v→(∀ b,v=.bool b→yielded ops a.tmps j=some b)∧(v=undef→yielded ops a.tmps j=none):=by
   intro v hv
   unfold mT at hv
   unfold yielded
   unfold XO at K9
   cases hj:ops[j]? with
   | none=>
    rw[hj]at hv
    subst hv
    exact⟨(fun b h=>by cases h),(fun _=>by simp)⟩
   | some p=>
    rw[hj]at hv K9
    dsimp only at hv K9
    cases hd:p.dst with
    | none=>
     rw[hd]at hv
     subst hv
     exact⟨(fun b h=>by cases h),(fun _=>by simp[hd])⟩
    | some d=>
     rw[hd]at hv
     dsimp only at hv
     have MN:C.loc.lookup d=none:=by
      have:=K9
      rw[vn hd]at this
      simpa using this
     have hV:=hI.tm d MN
     rw[hv]at hV
     refine⟨fun b h=>?_,fun h=>?_⟩
     ·rw[h]at hV
      have:=hV.fg
      simp only[Option.bind_some,hd]
      rw[Array.getD_eq_getD_getElem?]at this
      cases hx:a.tmps[d]? with
      | none=>rw[hx]at this;cases this
      | some x=>rw[hx]at this;simp at this;subst this;rfl
     ·rw[h]at hV
      simp only[Option.bind_some,hd]
      rw[Array.getD_eq_getD_getElem?]at hV
      cases hx:a.tmps[d]? with
      | none=>rfl
      | some x=>
       rw[hx]at hV
       simp only[Option.getD_some]at hV
       cases hV with
       | TD _ _=>rfl
  split at h
  ·rename_i b hv
   have Xu:=(hy hv).1 b rfl
   split at h
   ·rename_i hb
    have:Region.wanted o (yielded ops a.tmps)=true:=by simp[Region.wanted,hg,Xu,hb]
    rw[af this]
    exact .inl (zd hT he hI h fun xA ρ' s' σ' a' w' hk hf=>hn _ _ _ _ _ _ hk hf)
   ·rename_i hb
    have:Region.wanted o (yielded ops a.tmps)=false:=by simp[Region.wanted,hg,Xu,hb]
    rw[this]
    exact hn _ _ _ _ _ _ h skip
  ·rename_i vs hv
   split at h
   ·rename_i hz
    have:vs=#[]:=Array.eq_empty_of_size_eq_zero hz
    subst this
    have Xu:=(hy hv).2 rfl
    have:Region.wanted o (yielded ops a.tmps)=false:=by simp[Region.wanted,hg,Xu]
    rw[this]
    exact hn _ _ _ _ _ _ h skip
   ·exact h.elim
  ·exact h.elim
def ox(C:Cx)(ops:Array Oper):Bool:=ops.toList.all fun o=>o.dst.all fun d=>Nat.blt d C.n
theorem mj{ops:Array Oper}(h:ox C ops=true){i:Nat}{o:Oper}(ho:ops[i]?=some o):(o.dst.all fun d=>Nat.blt d C.n)=true:=
 List.all_eq_true.1 h o (by have:=Array.mem_of_getElem? ho;simpa using this)
theorem EK(hT:Kw C)(he:C.eqt.all (eqOk C.P)=true){ops:Array Oper}(F4:ox C ops=true){K:St→Mem→Prop}{Q:Exit→Act→World→Prop}
  (hQ:DH C ρ0 σ0 w0 K (Q .normal)):∀(is:List Nat) (lm:Nat→Option Nat) (ρ:dS) (s:St) (σ:Mem) (a:Act) (w:World),kC C ops K is s σ→FI C ρ0 σ0 w0 lm ρ s σ a w→wpOps C.P ops Q is a w:=by
 intro is
 induction is with
 | nil=>intro lm ρ s σ a w h hI;exact hQ _ _ _ _ _ _ h hI
 | cons i is ih=>
  intro lm ρ s σ a w h hI
  rw[wpOps_cons]
  cases ho:ops[i]? with
  | none=>
   simp only[kC,ho]at h
   unfold wpOp
   rw[ho]
   exact ih _ _ _ _ _ _ h hI
  | some o=>
   simp only[kC,ho]at h
   exact lZ hT he ho h hI (mj F4 ho) fun lm ρ s σ a w hk hf=>ih _ _ _ _ _ _ hk hf
end
end Go.Fl
namespace Go.Fl
open Go
abbrev B4:=Value×Option (List Value)
def kJ(C:Cx)(m:Sm)(args:List Value)(s:St)(K:B4→Mem→Prop)(σ:Mem):Prop:=
 match m with
 | .f g=>xF g args fun v=>K (v,none) σ
 | .lr k g=>xO (g args (s.l k)) fun v=>K (v,none) σ
 | .lw k (some v) g=>if qg C k s=true then xC (g args (s.l k)) fun c=>K (v,some c) σ else False
 | .lw k none g=>xC (g args (s.l k)) fun c=>K (undef,some c) σ
 | .h _ r=>r args (fun v τ=>K (v,none) τ) σ
 | .hl _ k r=>r (s.l k) args (fun v τ=>K (v,none) τ) σ
def kSm:Sm→Nat
 | .lw k _ _=>k
 | _=>0
def kO(C:Cx)(o:Oper):Nat:=
 match comp C o with
 | some (_,m)=>kSm m
 | none=>0
def ke(k:Nat)(d:Option Nat)(r:B4)(s:St):St:=
 match r.2 with
 | some c=>(s.uo k c).put d r.1
 | none=>s.put d r.1
def mn(C:Cx)(o:Oper)(s:St)(K:B4→Mem→Prop)(σ:Mem):Prop:=
 match comp C o with
 | some (xs,m)=>if(o.dst.all fun d=>Nat.blt d C.n)=true then kJ C m (xs.map (mg s)) s K σ else False
 | none=>False
def ft(C:Cx)(ops:Array Oper)(o:Oper)(s:St)(K:B4→Mem→Prop)(σ:Mem):Prop:=
 match o.guard with
 | none=>mn C o s K σ
 | some (j,w)=>if XO C ops j=true then
   match mT ops s j with
   | .bool b=>if b=w then mn C o s K σ else K (undef,none) σ
   | .tuple vs=>if vs.size=0 then K (undef,none) σ else False
   | _=>False
  else False
theorem GU{C:Cx}{m:Sm}{d:Option Nat}{args:List Value}{s:St}{σ:Mem}{K:St→Mem→Prop} :
  ij C m d args s σ K=kJ C m args s (fun r τ=>K (ke (kSm m) d r s) τ) σ:=by
 cases m with
 | f g=>rfl
 | lr k g=>rfl
 | lw k fr g=>cases fr<;>rfl
 | h c r=>rfl
 | hl c k r=>rfl
theorem KK{C:Cx}{o:Oper}{s:St}{σ:Mem}{K:St→Mem→Prop}:vd C o s σ K=mn C o s (fun r τ=>K (ke (kO C o) o.dst r s) τ) σ:=by
 unfold vd mn kO
 cases hc:comp C o with
 | none=>rfl
 | some p=>simp only[GU]
theorem vg{C:Cx}{ops:Array Oper}{o:Oper}{s:St}{σ:Mem}{K:St→Mem→Prop}:ze C ops o s σ K=ft C ops o s (fun r τ=>K (ke (kO C o) o.dst r s) τ) σ:=by
 unfold ze ft
 simp only[KK]
 rfl
theorem Fu{C:Cx}{m:Sm}(hm:m.bP){args:List Value}{s:St}{σ:Mem}{K K':B4→Mem→Prop}(h:∀ r τ,K r τ→K' r τ)(hs:kJ C m args s K σ):kJ C m args s K' σ:=by
 cases m with
 | f g=>exact uD (fun v hk=>h _ _ hk) hs
 | lr k g=>exact qD (fun v hk=>h _ _ hk) hs
 | lw k fr g=>
  cases fr with
  | none=>exact kZ (fun v hk=>h _ _ hk) hs
  | some v=>
   simp only[kJ]at *
   split at hs
   ·rename_i hf;rw[af hf];exact kZ (fun v hk=>h _ _ hk) hs
   ·exact hs.elim
 | h c r=>exact Good.mono hm _ _ _ _ (fun v τ hk=>h _ _ hk) hs
 | hl c k r=>exact Good.mono (hm _) _ _ _ _ (fun v τ hk=>h _ _ hk) hs
theorem Fv{C:Cx}{m:Sm}(hm:m.bP){args:List Value}{s:St}{σ:Mem}{K:B4→Mem→Prop}(hs:kJ C m args s K σ):∃ r τ,K r τ:=by
 cases m with
 | f g=>obtain⟨v,_,hv⟩:=uE hs;exact⟨_,_,hv⟩
 | lr k g=>obtain⟨v,_,hv⟩:=qE hs;exact⟨_,_,hv⟩
 | lw k fr g=>
  cases fr with
  | none=>obtain⟨v,_,hv⟩:=mE hs;exact⟨_,_,hv⟩
  | some v=>
   simp only[kJ]at hs
   split at hs
   ·obtain⟨v,_,hv⟩:=mE hs;exact⟨_,_,hv⟩
   ·exact hs.elim
 | h c r=>obtain⟨v,τ,hv⟩:=Good.live hm _ _ _ hs;exact⟨_,_,hv⟩
 | hl c k r=>obtain⟨v,τ,hv⟩:=Good.live (hm _) _ _ _ hs;exact⟨_,_,hv⟩
theorem Hx{C:Cx}{all:Bool}{m:Sm}(hm:m.bP)(hc:na all (It m)=true)(args:List Value)(s:St):dq all (kJ C m args s):=by
 cases m with
 | f g=>
  unfold kJ
  simp only[xF]
  cases g args with
  | none=>exact dq.no
  | some v=>exact dq.ret _
 | lr k g=>exact HV _ _
 | lw k fr g=>
  cases fr with
  | none=>exact zK (g args (s.l k)) (fun c=>(undef,some c))
  | some v=>
   unfold kJ
   simp only
   split
   ·exact zK (g args (s.l k)) (fun c=>(v,some c))
   ·exact dq.no
 | h c r=>exact(dq.vh hm hc args).map fun v=>(v,none)
 | hl c k r=>exact(dq.vh (hm _) hc args).map fun v=>(v,none)
theorem zG{C:Cx}(hC:C.bP){o:Oper}{s:St}{σ:Mem}{K K':B4→Mem→Prop}(h:∀ r τ,K r τ→K' r τ)(hs:mn C o s K σ):mn C o s K' σ:=by
 unfold mn at *
 split at hs
 ·rename_i xs m hc
  split at hs
  ·rename_i hd;rw[af hd];exact Fu (fp hC hc) h hs
  ·exact hs.elim
 ·exact hs.elim
theorem zH{C:Cx}(hC:C.bP){o:Oper}{s:St}{σ:Mem}{K:B4→Mem→Prop}(hs:mn C o s K σ):∃ r τ,K r τ:=by
 unfold mn at hs
 split at hs
 ·rename_i xs m hc
  split at hs
  ·exact Fv (fp hC hc) hs
  ·exact hs.elim
 ·exact hs.elim
theorem DF{C:Cx}(hC:C.bP){all:Bool}{o:Oper}(hc:na all (fO C o)=true)(s:St):dq all (mn C o s):=by
 unfold fO at hc
 unfold mn
 cases fu:comp C o with
 | none=>exact dq.no
 | some p=>
  obtain⟨xs,m⟩:=p
  simp only[fu]at hc ⊢
  split
  ·exact Hx (fp hC fu) hc _ _
  ·exact dq.no
theorem jh{C:Cx}(hC:C.bP){ops:Array Oper}{o:Oper}{s:St}{σ:Mem}{K K':B4→Mem→Prop}(h:∀ r τ,K r τ→K' r τ)(hs:ft C ops o s K σ):ft C ops o s K' σ:=by
 unfold ft at *
 split at hs
 ·exact zG hC h hs
 ·split at hs
  rotate_left
  ·exact hs.elim
  rename_i hg
  rw[af hg]
  split at hs
  ·split at hs
   ·rename_i hb;rw[af hb];exact zG hC h hs
   ·rename_i hb;rw[ae hb];exact h _ _ hs
  ·split at hs
   ·rename_i hb;rw[af hb];exact h _ _ hs
   ·exact hs.elim
  ·exact hs.elim
theorem zI{C:Cx}(hC:C.bP){ops:Array Oper}{o:Oper}{s:St}{σ:Mem}{K:B4→Mem→Prop}(hs:ft C ops o s K σ):∃ r τ,K r τ:=by
 unfold ft at hs
 split at hs
 ·exact zH hC hs
 ·split at hs
  rotate_left
  ·exact hs.elim
  split at hs
  ·split at hs
   ·exact zH hC hs
   ·exact⟨_,_,hs⟩
  ·split at hs
   ·exact⟨_,_,hs⟩
   ·exact hs.elim
  ·exact hs.elim
theorem mq{C:Cx}(hC:C.bP){all:Bool}{ops:Array Oper}{o:Oper}(hc:na all (fO C o)=true)(s:St):dq all (ft C ops o s):=by
 unfold ft
 split
 ·exact DF hC hc s
 ·split
  ·split
   ·split
    ·exact DF hC hc s
    ·exact dq.ret _
   ·split
    ·exact dq.ret _
    ·exact dq.no
   ·exact dq.no
  ·exact dq.no
theorem J'{C:Cx}(hC:C.bP){o:Oper}(hc:fO C o=.new)(s:St):DI (mn C o s):=by
 unfold fO at hc
 unfold mn
 cases fu:comp C o with
 | none=>exact .inl fun K τ h=>h
 | some p=>
  obtain⟨xs,m⟩:=p
  have hg:=fp hC fu
  simp only[fu]at hc ⊢
  split
  ·have map:∀{c:vo} {r:Spec} {args:List Value},c=.new→Good c r→DI (fun(K:B4→Mem→Prop) σ=>r args (fun v τ=>K (v,none) τ) σ):=by
    intro c r args e Vh
    rcases Vh.new e args with h|⟨cc,v,h⟩
    ·exact .inl fun K τ=>h _ τ
    ·exact .inr ⟨cc,fun id=>(v id,none),fun K τ=>h _ τ⟩
   cases m with
   | f g=>cases hc
   | lr k g=>cases hc
   | lw k fr g=>cases hc
   | h c r=>exact map hc hg
   | hl c k r=>exact map hc (hg (s.l k))
  ·exact .inl fun K τ h=>h
theorem KD{α β:Type}{A:(α→Mem→Prop)→Mem→Prop}{B:(β→Mem→Prop)→Mem→Prop}(hA:DI A)(hB:DI B){K:α→β→Mem→Prop}{σ:Mem}
  (h:A (fun r1 τ=>B (fun r2 τ'=>K r1 r2 τ') τ) σ):B (fun r2 τ=>A (fun r1 τ'=>K r1 r2 τ') τ) σ:=by
 rcases hA with hA|⟨c,v,hA⟩
 ·exact absurd h (hA _ σ)
 ·have h1:=(hA _ σ).1 h
  rcases hB with hB|⟨d,u,hB⟩
  ·obtain⟨i,hi⟩:=σ.fresh
   exact absurd (h1 i hi) (hB _ _)
  ·refine(hB _ σ).2 fun j hj=>(hA _ _).2 fun i hi=>?_
   rw[Mem.cE]at hi
   split at hi
   ·cases hi
   ·rename_i hij
    have h2:=(hB _ _).1 (h1 i hi) j (by rw[Mem.cE,ae (Ne.symm hij)];exact hj)
    have e:(σ.set i ⟨c,true⟩).set j ⟨d,true⟩=(σ.set j ⟨d,true⟩).set i ⟨c,true⟩:=by
     apply Mem.ext'
     funext k
     rw[Mem.cE,Mem.cE,Mem.cE,Mem.cE]
     by_cases e1:k=j
     ·subst e1;simp[Ne.symm hij]
     ·simp[e1]
    rw[e]at h2
    exact h2
theorem DG{C:Cx}(hC:C.bP){ops:Array Oper}{o:Oper}(hc:fO C o=.new)(hg:o.guard=none)(s:St):DI (ft C ops o s):=by
 have:ft C ops o s=mn C o s:=by
  unfold ft
  simp only[hg]
 rw[this]
 exact J' hC hc s
theorem Q2{α β:Type}{A:(α→Mem→Prop)→Mem→Prop}{B:(β→Mem→Prop)→Mem→Prop}(mA:∀{K K':α→Mem→Prop} {σ},(∀ r τ,K r τ→K' r τ)→A K σ→A K' σ)
  (mB:∀{K K':β→Mem→Prop} {σ},(∀ r τ,K r τ→K' r τ)→B K σ→B K' σ) (lA:∀{K:α→Mem→Prop} {σ},A K σ→∃ r τ,K r τ)
  (hc:dq true A∨dq true B∨(dq false A∧dq false B)) {K:α→β→Mem→Prop} {σ:Mem} (h:A (fun r1 τ=>B (fun r2 τ'=>K r1 r2 τ') τ) σ):B (fun r2 τ=>A (fun r1 τ'=>K r1 r2 τ') τ) σ:=by
 rcases hc with hA|hB|⟨hA,hB⟩
 ·rcases hA σ with hA|⟨r1,hA⟩
  ·exact absurd h (hA _ σ (fun h=>by cases h))
  ·have h1:=(hA _ σ (fun h=>by cases h)).1 h
   exact mB (fun r2 τ hk=>(hA _ τ (fun h=>by cases h)).2 hk) h1
 ·rcases hB σ with hB|⟨r2,hB⟩
  ·obtain⟨r1,τ,h1⟩:=lA h
   exact absurd h1 (hB _ τ (fun h=>by cases h))
  ·refine(hB _ σ (fun h=>by cases h)).2 ?_
   exact mA (fun r1 τ hk=>(hB _ τ (fun h=>by cases h)).1 hk) h
 ·rcases hA σ with hA|⟨r1,hA⟩
  ·exact absurd h (hA _ σ (fun _=>rfl))
  ·have h1:=(hA _ σ (fun _=>rfl)).1 h
   rcases hB σ with hB|⟨r2,hB⟩
   ·exact absurd h1 (hB _ σ (fun _=>rfl))
   ·have h2:=(hB _ σ (fun _=>rfl)).1 h1
    exact(hB _ σ (fun _=>rfl)).2 ((hA _ σ (fun _=>rfl)).2 h2)
def j_:List Operand→List Nat
 | []=>[]
 | .tmp t::xs=>t::j_ xs
 | _::xs=>j_ xs
def MV(ops:Array Oper)(o:Oper):List Nat:=
 match o.guard with
 | some (j,_)=>match ops[j]? with
  | some p=>p.dst.toList
  | none=>[]
 | none=>[]
def rQ(C:Cx)(k:Nat):List Nat:=(C.loc.filter fun x=>Nat.beq x.2 k).map (·.1)
def SG(C:Cx)(ops:Array Oper)(o:Oper):List Nat:=
 (match comp C o with
  | some (xs,m)=>j_ xs++(match m with
   | .lw k (some _) _=>rQ C k
   | _=>[])
  | none=>[])++MV ops o
def Rb(C:Cx)(o:Oper):Option Nat:=
 match comp C o with
 | some (_,.lr k _)|some (_,.lw k _ _)|some (_,.hl _ k _)=>some k
 | _=>none
def DY(C:Cx)(o:Oper):Option Nat:=
 match comp C o with
 | some (_,.lw k _ _)=>some k
 | _=>none
theorem mf{s s':St}:∀{xs:List Operand},(∀ t∈j_ xs,s'.t t=s.t t)→xs.map (mg s')=xs.map (mg s)
 | [],_=>rfl
 | .tmp t::xs,h=>by
  simp only[List.map_cons,mg]
  rw[h t (by simp[j_]),mf fun u hu=>h u (by simp[j_,hu])]
 | .const v::xs,h=>by
  simp only[List.map_cons,mg]
  rw[mf fun u hu=>h u (by simp[j_,hu])]
 | .global g::xs,h=>by
  simp only[List.map_cons,mg]
  rw[mf fun u hu=>h u (by simp[j_,hu])]
 | .func g::xs,h=>by
  simp only[List.map_cons,mg]
  rw[mf fun u hu=>h u (by simp[j_,hu])]
theorem Dh{C:Cx}{k:Nat}{s s':St}(h:∀ t∈rQ C k,s'.t t=s.t t):qg C k s'=qg C k s:=by
 unfold qg
 apply Bool.eq_iff_iff.2
 simp only[List.all_eq_true]
 refine⟨fun hh x hx=>?_,fun hh x hx=>?_⟩
 ·have:=hh x hx
  obtain⟨t,k'⟩:=x
  dsimp only at *
  by_cases e:k'=k
  ·subst e
   rwa [h t (by simp only[rQ,List.mem_map,List.mem_filter];exact⟨(t,k'),⟨hx,by simp⟩,rfl⟩)]at this
  ·simp[e]
 ·have:=hh x hx
  obtain⟨t,k'⟩:=x
  dsimp only at *
  by_cases e:k'=k
  ·subst e
   rwa [h t (by simp only[rQ,List.mem_map,List.mem_filter];exact⟨(t,k'),⟨hx,by simp⟩,rfl⟩)]
  ·simp[e]
theorem Fx{C:Cx}{ops:Array Oper}{o:Oper}{s s':St}(ht:∀ t∈SG C ops o,s'.t t=s.t t)(hl:∀ k,Rb C o=some k→s'.l k=s.l k) :
  ft C ops o s'=ft C ops o s:=by
 have hO:mn C o s'=mn C o s:=by
  funext K σ
  unfold mn
  unfold SG at ht
  unfold Rb at hl
  cases hc:comp C o with
  | none=>rfl
  | some p=>
   obtain⟨xs,m⟩:=p
   simp only[hc,List.mem_append]at ht hl ⊢
   rw[mf fun t h=>ht t (.inl (.inl h))]
   congr 1
   cases m with
   | f g=>rfl
   | lr k g=>simp only[kJ];rw[hl k rfl]
   | lw k fr g=>
    cases fr with
    | none=>simp only[kJ];rw[hl k rfl]
    | some v=>simp only[kJ];rw[hl k rfl,Dh fun t h=>ht t (.inl (.inr h))]
   | h c r=>rfl
   | hl c k r=>simp only[kJ];rw[hl k rfl]
 have Vg:∀ j w,o.guard=some (j,w)→mT ops s' j=mT ops s j:=by
  intro j w hg
  unfold mT
  cases hj:ops[j]? with
  | none=>rfl
  | some p=>
   cases hd:p.dst with
   | none=>simp[hd]
   | some d=>
    simp only[hd]
    refine ht d ?_
    simp[SG,MV,hg,hj,hd]
 unfold ft
 funext K σ
 cases hg:o.guard with
 | none=>simp only[hO]
 | some p=>
  obtain⟨j,w⟩:=p
  simp only[hO,Vg j w hg]
theorem Gm{C:Cx}(hC:C.bP){ops:Array Oper}{o:Oper}{s:St}{K:B4→Mem→Prop}{σ:Mem}(h:ft C ops o s K σ) :
  ft C ops o s (fun r τ=>K r τ∧(r.2≠none→DY C o=some (kO C o))) σ:=by
 have hO:mn C o s K σ→mn C o s (fun r τ=>K r τ∧(r.2≠none→DY C o=some (kO C o))) σ:=by
  intro h
  unfold mn DY kO at *
  split at h
  ·rename_i xs m hc
   have hg:=fp hC hc
   split at h
   ·rename_i hd
    simp only[hc]
    rw[af hd]
    cases m with
    | f g=>exact uD (fun v hk=>⟨hk,fun h=>absurd rfl h⟩) h
    | lr k g=>exact qD (fun v hk=>⟨hk,fun h=>absurd rfl h⟩) h
    | lw k fr g=>
     cases fr with
     | none=>exact kZ (fun v hk=>⟨hk,fun _=>rfl⟩) h
     | some v=>
      simp only[kJ]at *
      split at h
      ·rename_i hf;rw[af hf];exact kZ (fun v hk=>⟨hk,fun _=>rfl⟩) h
      ·exact h.elim
    | h c r=>exact Good.mono hg _ _ _ _ (fun v τ hk=>⟨hk,fun h=>absurd rfl h⟩) h
    | hl c k r=>exact Good.mono (hg _) _ _ _ _ (fun v τ hk=>⟨hk,fun h=>absurd rfl h⟩) h
   ·exact h.elim
  ·exact h.elim
 unfold ft at *
 split at h
 ·exact hO h
 ·split at h
  rotate_left
  ·exact h.elim
  rename_i hg
  rw[af hg]
  split at h
  ·split at h
   ·rename_i hb;rw[af hb];exact hO h
   ·rename_i hb;rw[ae hb];exact⟨h,fun h=>absurd rfl h⟩
  ·split at h
   ·rename_i hb;rw[af hb];exact⟨h,fun h=>absurd rfl h⟩
   ·exact h.elim
  ·exact h.elim
def R_:vo→vo→Bool
 | .none,_=>true
 | _,.none=>true
 | .read,.read=>true
 | .new,.new=>true
 | _,_=>false
def B1(C:Cx)(ops:Array Oper)(o p:Oper):Bool:=
 (match o.dst with
  | some d => !((SG C ops p).contains d)&&(match p.dst with
   | some e => !(Nat.beq d e)
   | none=>true)
  | none=>true) &&
 (match DY C o,Rb C p with
  | some k,some k' => !(Nat.beq k k')
  | _,_=>true)
def OX(o p:Oper):vo→vo→Bool
 | .new,.new=>o.guard.isNone&&p.guard.isNone
 | _,_=>true
def indep(C:Cx)(ops:Array Oper)(o p:Oper):Bool:=B1 C ops o p&&B1 C ops p o&&(R_ (fO C o) (fO C p)&&OX o p (fO C o) (fO C p))
theorem TA{C:Cx}{o:Oper}{k:Nat}(h:DY C o=some k):Rb C o=some k:=by
 unfold DY at h
 unfold Rb
 split at h
 ·rename_i xs k' fr g hc
  rw[hc];exact h
 ·cases h
theorem JZ{k:Nat}{d:Option Nat}{r:B4}{s:St}{t:Nat}(h:d≠some t):(ke k d r s).t t=s.t t:=by
 unfold ke
 split
 ·rw[xx _ d _ t h];rfl
 ·rw[xx _ d _ t h]
theorem Sr{k k':Nat}{d:Option Nat}{r:B4}{s:St}(h:r.2≠none→k≠k'):(ke k d r s).l k'=s.l k':=by
 unfold ke
 split
 ·rename_i c hc
  rw[y_,A_,ae (fun e=>h (by simp[hc]) e.symm)]
 ·rw[y_]
theorem Ht{k1 k2:Nat}{d1 d2:Option Nat}{r1 r2:B4}{s:St}(hd:∀ t,d1=some t→d2≠some t)(hk:r1.2≠none→r2.2≠none→k1≠k2) :
  ke k2 d2 r2 (ke k1 d1 r1 s)=ke k1 d1 r1 (ke k2 d2 r2 s):=by
 have ext:∀{a b:St},a.t=b.t→a.l=b.l→a=b:=by intro a b h1 h2;cases a;cases b;simp at h1 h2;rw[h1,h2]
 have tt:∀(k:Nat) (d:Option Nat) (r:B4) (s:St) (t:Nat),(ke k d r s).t t=if d=some t then r.1 else s.t t:=by
  intro k d r s t
  by_cases h:d=some t
  ·rw[af h];subst h
   unfold ke
   split<;>rw[xw,af rfl]
  ·rw[ae h,JZ h]
 have ll:∀(k:Nat) (d:Option Nat) (r:B4) (s:St) (i:Nat),(ke k d r s).l i=match r.2 with
   | some c=>if i=k then c else s.l i
   | none=>s.l i:=by
  intro k d r s i
  unfold ke
  cases r.2 with
  | none=>simp only;rw[y_]
  | some c=>simp only;rw[y_,A_]
 apply ext
 ·funext t
  rw[tt,tt,tt,tt]
  by_cases h1:d1=some t
  ·rw[ae (hd t h1),af h1,af h1]
  ·rw[ae h1,ae h1]
 ·funext i
  rw[ll,ll,ll,ll]
  cases h1:r1.2 with
  | none=>rfl
  | some c1=>
   cases h2:r2.2 with
   | none=>rfl
   | some c2=>
    have:=hk (by simp[h1]) (by simp[h2])
    simp only
    by_cases e1:i=k1
    ·subst e1;simp[this]
    ·simp[e1]
theorem t_{C:Cx}{ops:Array Oper}{o p:Oper}(h:B1 C ops o p=true) :
  (∀ d,o.dst=some d→d∉SG C ops p∧p.dst≠some d)∧(∀ k,DY C o=some k→Rb C p≠some k):=by
 simp only[B1,Bool.and_eq_true]at h
 refine⟨fun d hd=>?_,fun k hk hr=>?_⟩
 ·have h1:=h.1
  rw[hd]at h1
  simp only[Bool.and_eq_true,Bool.not_eq_true',List.contains_eq_mem,decide_eq_false_iff_not]at h1
  refine⟨h1.1,fun hp=>?_⟩
  have:=h1.2
  rw[hp]at this
  simp at this
 ·have h2:=h.2
  rw[hk,hr]at h2
  simp at h2
theorem swap{C:Cx}(hC:C.bP){ops:Array Oper}{o p:Oper}(hi:indep C ops o p=true){s:St}{σ:Mem}{K:St→Mem→Prop}
  (h:ze C ops o s σ (fun s σ=>ze C ops p s σ K)):ze C ops p s σ (fun s σ=>ze C ops o s σ K):=by
 simp only[indep,Bool.and_eq_true]at hi
 obtain⟨⟨h1,h2⟩,bE⟩:=hi
 obtain⟨a1,b1⟩:=t_ h1
 obtain⟨a2,b2⟩:=t_ h2
 have V6:∀{o p:Oper},(∀ d,o.dst=some d→d∉SG C ops p∧p.dst≠some d)→(∀ k,DY C o=some k→Rb C p≠some k)→∀{r:B4},(r.2≠none→DY C o=some (kO C o)) →
   ∀{s:St},ft C ops p (ke (kO C o) o.dst r s)=ft C ops p s:=by
  intro o p a b r hr s
  refine Fx (fun t ht=>JZ fun e=>(a t e).1 ht) (fun k hk=>Sr fun hn e=>?_)
  have:=hr hn
  rw[e]at this
  exact b k this hk
 have comm:∀{r1 r2:B4},(r1.2≠none→DY C o=some (kO C o))→(r2.2≠none→DY C p=some (kO C p)) →
   ke (kO C p) p.dst r2 (ke (kO C o) o.dst r1 s)=ke (kO C o) o.dst r1 (ke (kO C p) p.dst r2 s):=by
  intro r1 r2 q1 q2
  refine Ht (fun t ht=>(a1 t ht).2) fun n1 n2 e=>?_
  have:=q1 n1
  have h2:=TA (q2 n2)
  rw[e]at this
  exact b1 _ this h2
 obtain⟨bE,XH⟩:=bE
 have kF:(dq true (ft C ops o s)∨dq true (ft C ops p s)∨(dq false (ft C ops o s)∧dq false (ft C ops p s)))∨(DI (ft C ops o s)∧DI (ft C ops p s)):=by
  cases ho:fO C o with
  | none=>exact .inl (.inl (mq hC (by rw[ho];rfl) s))
  | read=>
   cases hp:fO C p with
   | none=>exact .inl (.inr (.inl (mq hC (by rw[hp];rfl) s)))
   | read=>exact .inl (.inr (.inr ⟨mq hC (by rw[ho];rfl) s,mq hC (by rw[hp];rfl) s⟩))
   | new=>rw[ho,hp]at bE;cases bE
   | write=>rw[ho,hp]at bE;cases bE
  | new=>
   cases hp:fO C p with
   | none=>exact .inl (.inr (.inl (mq hC (by rw[hp];rfl) s)))
   | read=>rw[ho,hp]at bE;cases bE
   | new=>
    rw[ho,hp]at XH
    simp only[OX,Bool.and_eq_true,Option.isNone_iff_eq_none]at XH
    exact .inr ⟨DG hC ho XH.1 s,DG hC hp XH.2 s⟩
   | write=>rw[ho,hp]at bE;cases bE
  | write=>
   cases hp:fO C p with
   | none=>exact .inl (.inr (.inl (mq hC (by rw[hp];rfl) s)))
   | read=>rw[ho,hp]at bE;cases bE
   | new=>rw[ho,hp]at bE;cases bE
   | write=>rw[ho,hp]at bE;cases bE
 rw[vg]at h ⊢
 have hA:ft C ops o s (fun r1 τ=>ft C ops p s (fun r2 τ'=>((r1.2≠none→DY C o=some (kO C o))∧(r2.2≠none→DY C p=some (kO C p))) ∧
   K (ke (kO C p) p.dst r2 (ke (kO C o) o.dst r1 s)) τ') τ) σ:=by
  refine jh hC (fun r1 τ hk=>?_) (Gm hC h)
  obtain⟨hk,hr⟩:=hk
  rw[vg,V6 a1 b1 hr]at hk
  exact jh hC (fun r2 τ' hk=>⟨⟨hr,hk.2⟩,hk.1⟩) (Gm hC hk)
 have hB:ft C ops p s (fun r2 τ=>ft C ops o s (fun r1 τ'=>((r1.2≠none→DY C o=some (kO C o))∧(r2.2≠none→DY C p=some (kO C p))) ∧
   K (ke (kO C p) p.dst r2 (ke (kO C o) o.dst r1 s)) τ') τ) σ:=by
  rcases kF with kF|⟨n1,n2⟩
  ·exact Q2 (A:=ft C ops o s) (B:=ft C ops p s) (fun h=>jh hC h) (fun h=>jh hC h) (zI hC) kF hA
  ·exact KD (A:=ft C ops o s) (B:=ft C ops p s) n1 n2 hA
 refine jh hC (fun r2 τ hk=>?_) hB
 obtain⟨r1,τ1,q⟩:=zI hC hk
 rw[vg,V6 a2 b2 q.1.2]
 refine jh hC (fun r1 τ' hk=>?_) hk
 rw[←comm hk.1.1 hk.1.2]
 exact hk.2
end Go.Fl
