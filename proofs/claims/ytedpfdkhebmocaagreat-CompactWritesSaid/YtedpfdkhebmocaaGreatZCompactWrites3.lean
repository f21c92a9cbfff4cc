/- What the claim leans on, part 3: own readings of the program's functions, what they come to, laws of them. No condition. -/
import Derived.Test.YtedpfdkhebmocaaGreatZCompactWrites2
set_option linter.unusedVariables false
set_option linter.unusedSimpArgs false
namespace Go.Fl
open Go
variable{N:Nm}{A B:Ar}{σ:Mem}{K:Value→Mem→Prop}{C:Cf}{who:Int}
def kN(w:Int):Int:=w % 1099511627776
def lL(w:Int):Bool:=decide (w / 9223372036854775808=1)
def kX(w:Int):Int:=if lL w=true then w / 1099511627776 % 4194304 else 0
def aT(v:Int)(f:Bool)(n:Int):Int:=if f=true then cl v 1099511627775+(8388608+cl n 4194303)*1099511627776 else cl v 1099511627775
theorem dC(v:Int)(f:Bool)(n:Int):0≤aT v f n∧aT v f n<18446744073709551616:=by unfold aT cl;split<;>omega
theorem qj{v n:Int}{f:Bool}(h1:0≤v∧v≤1099511627775)(h2:0≤n∧n≤4194303) :
  kN (aT v f n)=v∧lL (aT v f n)=f∧kX (aT v f n)=(if f=true then n else 0):=by
 have e:aT v f n=if f=true then v+(8388608+n)*1099511627776 else v:=by unfold aT;rw[fP h1.1 h1.2,fP h2.1 h2.2]
 cases f with
 | true=>
  rw[e];simp only[if_true]
  have hF:lL (v+(8388608+n)*1099511627776)=true:=decide_eq_true (by omega)
  refine⟨by unfold kN;omega,hF,?_⟩
  unfold kX;rw[hF];simp only[if_true];omega
 | false=>
  rw[e];simp only[Bool.false_eq_true,if_false]
  have hF:lL v=false:=decide_eq_false (by omega)
  refine⟨by unfold kN;omega,hF,?_⟩
  unfold kX;rw[hF];simp
theorem Uq{K:Value→Prop}{Q:fY}{a:Int}(h0:0≤a)(h1:a<9223372036854775808):xF (aq .or Q) [.int .u64 9223372036854775808,.int .u64 a] K=K (.int .u64 (a+9223372036854775808)):=by
 have:=sD (K:=K) (Q:=Q) (s:=63) (a:=a) (c:=1) h0 (by simpa using h1) (by decide) (by simp;omega)
 have e:xF (aq .or Q) [.int .u64 9223372036854775808,.int .u64 a] K=xF (aq .or Q) [.int .u64 a,.int .u64 (1*2 ^ 63)] K:=by
  simp only[xF,aq,ka,mZ,Bool.false_eq_true,if_false,if_true]
  rw[BitVec.or_comm];rfl
 rw[e,this];rfl
theorem o8{v n:Int}{f:Bool}:ur [.agg #[.int .i64 v,.bool f,.int .i64 n]] K σ=K (.int .u64 (aT v f n)) σ:=by
 simp only[ur,PG,zT,vG,aF,bc,Nat.reduceAdd]
 have h1:=@gJ v 1099511627775
 have h2:=@gI v 1099511627775 (by decide)
 have h3:=@gJ n 4194303
 have h4:=@gI n 4194303 (by decide)
 rw[iN (by decide) (by decide)]
 cases f
 ·simp only[Gp,aF]
  unfold aT;simp
 ·simp only[Gp,aF]
  rw[iN (by decide) (by decide),T6 h4 (by omega),Uq (by omega) (by omega),show cl n 4194303*1099511627776+9223372036854775808=(8388608+cl n 4194303)*1099511627776 by omega,aah h2 (by omega) (by omega) (by omega)]
  unfold aT;simp
theorem ln{w:Int}(h0:0≤w)(h1:w<18446744073709551616):nz [.int .u64 w] K σ=K (.agg #[.int .i64 (kN w),.bool (lL w),.int .i64 (kX w)]) σ:=by
 have b:∀(a:Int) (e:Bool) (K:Value→Prop),xF (aM [(0,1),(1,1),(2,1)] [.int .i64 0,.bool false,.int .i64 0] [0,1]) [.int .i64 a,.bool e] K=K (.agg #[.int .i64 a,.bool e,.int .i64 0]):=fun _ _ K=>nr rfl
 simp only[nz,PJ,zU,vH,iv,H0,aF]
 rw[Xa h0 h1]
 simp only[aF]
 rw[TV h0]
 simp only[aF]
 rw[IntWalk.i64_in (w % 1099511627776) (by omega),b]
 by_cases e:w / 9223372036854775808=1
 ·have hF:lL w=true:=decide_eq_true e
  simp only[e,aF,bc,KI,Nat.reduceAdd]
  rw[TY h0,O1 (by omega) (by omega)]
  simp only[aF,bc,Nat.reduceAdd]
  rw[IntWalk.i64_in (w / 1099511627776 % 4194304) (by omega),hF]
  unfold kX kN;rw[hF];rfl
 ·have hF:lL w=false:=decide_eq_false e
  simp only[e,aF,bc,KI,Nat.reduceAdd]
  rw[hF]
  unfold kX kN;rw[hF];rfl
def jB(h:Int):Bool:=decide (h / 4294967296=0∧h / 65536≠0)
def aJ(h:Int):Int:=if jB h=true then h % 65536 else 0
def b_(h:Int):Int:=if jB h=true then h / 65536 else 0
theorem oX{h:Int}(h0:0≤h):(0≤aJ h∧aJ h≤65535)∧0≤b_ h∧b_ h≤65535:=by
 unfold aJ b_ jB
 by_cases e:h / 4294967296=0∧h / 65536≠0
 ·simp only[e,ne_eq,not_false_eq_true,and_self,decide_true,if_true];omega
 ·simp[e]
theorem xZ{w:Int}(h0:0≤w)(h1:w<18446744073709551616):uu [.int .u64 w] K σ=K (.tuple #[.agg #[.int .i64 (aJ w),.int .i64 (b_ w)],.bool (jB w)]) σ:=by
 by_cases e1:w / 4294967296=0
 ·by_cases e2:w / 65536=0
  ·have hO:jB w=false:=decide_eq_false (by simp[e2])
   have b:∀(K:Value→Prop),xF (aM [(0,1),(1,1)] [.int .i64 0,.int .i64 0] []) [] K=K (.agg #[.int .i64 0,.int .i64 0]):=fun K=>nr rfl
   simp only[uu,H4,qS,nL,iv,H0,aF]
   rw[Iw h0,e1]
   simp only[aF]
   rw[Ix h0]
   simp only[e2,b,aF,bc,KI,Nat.reduceAdd]
   unfold aJ b_;rw[hO];rfl
  ·have hO:jB w=true:=decide_eq_true ⟨e1,e2⟩
   rw[Hh h0 (by omega) (by omega)]
   unfold aJ b_;rw[hO];rfl
 ·have hO:jB w=false:=decide_eq_false (by simp[e1])
  have b:∀(K:Value→Prop),xF (aM [(0,1),(1,1)] [.int .i64 0,.int .i64 0] []) [] K=K (.agg #[.int .i64 0,.int .i64 0]):=fun K=>nr rfl
  simp only[uu,H4,qS,nL,iv,H0,aF]
  rw[Iw h0]
  simp only[e1,b,ne_eq,not_false_eq_true,aF,bc,KI,Nat.reduceAdd]
  unfold aJ b_;rw[hO];rfl
structure Hl where
 slot:Int
 w:Int
 size:Int
 i:Int
 cell:Int
 read:Bool
 Xk:Bool
def Hl.l(h:Hl):List Value:=[.int .i64 h.slot,.int .u64 h.w,.int .i64 h.size,.int .i64 h.i,.int .u64 h.cell,.bool h.read,.bool h.Xk]
def Hl.new(s w z:Int):Hl:=⟨s,w,z,0,0,false,false⟩
def Hl.a(h:Hl):Int:=a8 h.w+1+h.i
def Hl.next(C:Cf)(h:Hl):Int:=if C.G≤b9 h.w then aK 3 0 (b9 h.w) 0 else aK 0 0 (b9 h.w+1) 0
def Hl.step(C:Cf)(who:Int)(A:Ar)(h:Hl):Bool×Hl×Ar:=
 if h.size≤h.i then(true,{ h with Xk:=decide (A.w (C.slot h.slot)=h.w) },(A.by who).dI (C.slot h.slot) h.w (h.next C))
 else if h.read=false then
  if lL (A.w h.a)=true∧kX (A.w h.a)=cO h.w then(false,{ h with cell:=A.w h.a,read:=false,i:=h.i+1 },(A.by who).load h.a)
  else(false,{ h with cell:=A.w h.a,read:=true },(A.by who).load h.a)
 else if A.w h.a=h.cell then(false,{ h with read:=false,i:=h.i+1 },(A.by who).dI h.a h.cell (aT (kN h.cell) true (cO h.w)))
 else(false,{ h with read:=false },(A.by who).dI h.a h.cell (aT (kN h.cell) true (cO h.w)))
structure Hl.fit(C:Cf)(h:Hl):Prop where
 slot:0≤h.slot∧h.slot<C.S
 w:0≤h.w∧h.w<18446744073709551616
 cell:0≤h.cell∧h.cell<18446744073709551616
 size:h.size≤65535
 i:0≤h.i∧h.i≤65536
 at':h.i<h.size→a8 h.w+1+h.i<C.len
theorem tF{s w z:Int}(hk:∀ id τ,σ.get id=none→τ.get id=some ⟨(Hl.new s w z).l,true⟩→Ext σ τ→K (.pointer (some ⟨id,0,none⟩)) τ):rM [.int .i64 s,.int .u64 w,.int .i64 z] K σ:=by
 have b:∀ K:Value→Prop,xF (aM [(0,1),(1,1),(2,1),(3,1),(4,1),(5,1),(6,1)] [.int .i64 0,.int .u64 0,.int .i64 0,.int .i64 0,.int .u64 0,.bool false,.bool false] [0,1,2]) [.int .i64 s,.int .u64 w,.int .i64 z] K =
   K (.agg #[.int .i64 s,.int .u64 w,.int .i64 z,.int .i64 0,.int .u64 0,.bool false,.bool false]):=fun K=>nr rfl
 simp only[rM,QH,b,aF]
 exact gA (cs:=[_,_,_,_,_,_,_]) rfl hk
theorem oD(hN:N.ok)(hC:C.ok)(hA:aZ N A σ){p:Nat}{pre post:List Value}{t:Hl}(hp:σ.get p=some ⟨pre++t.l++post,true⟩)(hd:p∉N.l)
  (hw:∀ i,0≤A.w i∧A.w i<18446744073709551616) (hn:C.len≤A.n) (hf:t.fit C)
  (hk:∀ τ,aZ N (t.step C who A).2.2 τ→τ.get p=some ⟨pre++(t.step C who A).2.1.l++post,true⟩→aQ (p::N.l) σ τ→K (.bool (t.step C who A).1) τ) :
  yI [.pointer (some ⟨p,pre.length,none⟩),N.env C who] K σ:=by
 rw[hA.obj hp]
 have hl:=br hC
 have hT:=hC.T
 have hS:=hC.S
 have iD:=hC.C
 obtain⟨f1,f2,f3,f4,f5,f6⟩:=hf
 have kW:C.chunk C.C=6+C.T+2*C.S+3*C.C:=rfl
 have pB:0≤C.slot t.slot∧C.slot t.slot<A.n:=by unfold Cf.slot;omega
 have m_:=xd t.w
 have hG1:=Q7 t.w
 have hV1:=A9 t.w
 have g4:∀(k:Nat) (x y z w x' y' z' w':Int),aH 4 [.pointer (some ⟨k,0,some 0⟩),.agg #[.int .i64 x,.int .i64 y,.int .i64 z,.int .i64 w]] [.int .i64 x',.int .i64 y',.int .i64 z',.int .i64 w']=some [.int .i64 x,.int .i64 y,.int .i64 z,.int .i64 w]:=fun _ _ _ _ _ _ _ _ _=>rfl
 have g3:∀(k:Nat) (x z:Int) (y:Bool) (x' z':Int) (y':Bool),aH 3 [.pointer (some ⟨k,0,some 0⟩),.agg #[.int .i64 x,.bool y,.int .i64 z]] [.int .i64 x',.bool y',.int .i64 z']=some [.int .i64 x,.bool y,.int .i64 z]:=fun _ _ _ _ _ _ _=>rfl
 have b02:∀(x y:Int) (K:Value→Prop),xF (aM [(0,1),(1,1),(2,1),(3,1)] [.int .i64 0,.int .i64 0,.int .i64 0,.int .i64 0] [0,2]) [.int .i64 x,.int .i64 y] K=K (.agg #[.int .i64 x,.int .i64 0,.int .i64 y,.int .i64 0]):=fun _ _ K=>nr rfl
 have b3:∀(x y:Int) (z:Bool) (K:Value→Prop),xF (aM [(0,1),(1,1),(2,1)] [.int .i64 0,.bool false,.int .i64 0] [0,1,2]) [.int .i64 x,.bool z,.int .i64 y] K=K (.agg #[.int .i64 x,.bool z,.int .i64 y]):=fun _ _ _ K=>nr rfl
 simp only[yI,QK,oM,lR,Hl.l,l7 hd,aF,bc,bN,Nat.reduceAdd,Nat.reduceLeDiff]
 rw[cX f2.1 f2.2]
 simp only[g4,l7 hd,aF,bc,bN,Nat.reduceAdd,Nat.reduceLeDiff]
 rw[IntWalk.i64_in (a8 t.w+1) (by omega),IntWalk.i64_in (a8 t.w+1+t.i) (by omega),ln f3.1 f3.2]
 simp only[g3,l7 hd,aF,bc,bN,Nat.reduceAdd,Nat.reduceLeDiff]
 unfold Hl.step at hk
 by_cases c0:t.size≤t.i
 ·rw[af c0]at hk
  simp only[c0,b02,g4,aF,bc,Nat.reduceAdd]
  rw[IntWalk.i64_in (b9 t.w+1) (by omega)]
  have e:∀ v,t.next C=v→(K (.bool true) (aD N ((A.by who).dI (C.slot t.slot) t.w v) (σ.set p ⟨pre++({ t with Xk:=decide (A.w (C.slot t.slot)=t.w) }:Hl).l++post,true⟩))):=by
   rintro v rfl;exact behind hN hd hk
  by_cases q:C.G≤b9 t.w
  ·have:=e _ (af q)
   simp only[q,u_,rC,l7 hd,aF,bc,bN,Nat.reduceAdd,Nat.reduceLeDiff]
   rw[dD hC f1.1 (by omega)]
   simp only[l7 hd,uk,aF,bc,bN,Nat.reduceAdd,Nat.reduceLeDiff]
   rw[jf,jE hN pB.1 pB.2]
   simp only[CB hd,aF,bc,Nat.reduceAdd]
   exact this
  ·have:=e _ (ae q)
   simp only[q,u_,rC,l7 hd,aF,bc,bN,Nat.reduceAdd,Nat.reduceLeDiff]
   rw[dD hC f1.1 (by omega)]
   simp only[l7 hd,uk,aF,bc,bN,Nat.reduceAdd,Nat.reduceLeDiff]
   rw[jf,jE hN pB.1 pB.2]
   simp only[CB hd,aF,bc,Nat.reduceAdd]
   exact this
 ·rw[ae c0]at hk
  have iM:=f6 (by omega)
  have yn:=hw (a8 t.w+1+t.i)
  cases c1:t.read with
  | false=>
   rw[af c1]at hk
   simp only[c0,aF]
   rw[cg hN (by omega) (by omega)]
   simp only[jR hd,l7 hd,aF,bc,bN,Nat.reduceAdd,Nat.reduceLeDiff]
   rw[ln yn.1 yn.2]
   simp only[g3,aF,bc]
   change ∀ τ,_ at hk
   by_cases q1:lL (A.w t.a)=true
   ·by_cases q2:kX (A.w t.a)=cO t.w
    ·rw[af ⟨q1,q2⟩]at hk
     have Un:lL (A.w (a8 t.w+1+t.i))=true:=q1
     have q2':kX (A.w (a8 t.w+1+t.i))=cO t.w:=q2
     simp only[Un,q2',oM,lR,rB,nW,CB hd,jR hd,l7 hd,aF,bc,bN,Nat.reduceAdd,Nat.reduceLeDiff]
     rw[IntWalk.i64_in (t.i+1) (by omega)]
     exact behind hN hd hk
    ·rw[ae (fun h=>q2 h.2)]at hk
     have Un:lL (A.w (a8 t.w+1+t.i))=true:=q1
     have q2':¬ kX (A.w (a8 t.w+1+t.i))=cO t.w:=q2
     simp only[Un,q2',oM,lR,rB,nW,CB hd,jR hd,l7 hd,aF,bc,bN,Nat.reduceAdd,Nat.reduceLeDiff]
     exact behind hN hd hk
   ·rw[ae (fun h=>q1 h.1)]at hk
    have Un:lL (A.w (a8 t.w+1+t.i))=false:=by simpa[Hl.a]using q1
    simp only[Un,oM,lR,rB,nW,CB hd,jR hd,l7 hd,aF,bc,bN,Nat.reduceAdd,Nat.reduceLeDiff]
    exact behind hN hd hk
  | true=>
   rw[ae (by rw[c1];decide)]at hk
   simp only[c0,CB hd,l7 hd,b3,aF,bc,bN,Nat.reduceAdd,Nat.reduceLeDiff]
   rw[o8,jE hN (by omega) (by omega)]
   by_cases q:A.w t.a=t.cell
   ·rw[af q]at hk
    have q':A.w (a8 t.w+1+t.i)=t.cell:=q
    simp only[q',jR hd,l7 hd,aF,bc,bN,Nat.reduceAdd,Nat.reduceLeDiff]
    rw[IntWalk.i64_in (t.i+1) (by omega)]
    exact behind hN hd hk
   ·rw[ae q]at hk
    have q':¬ A.w (a8 t.w+1+t.i)=t.cell:=q
    simp only[q',aF]
    exact behind hN hd hk
end Go.Fl
namespace Go.Fl
open Go
variable{N:Nm}{A B:Ar}{σ:Mem}{K:Value→Mem→Prop}{C:Cf}{who:Int}
def qz(C:Cf)(a:Int):Int:=if C.base 0≤a∧a<C.len then(a-C.base 0) / C.W else -1
theorem Wg(hC:C.ok){a:Int}(ha:a<9223372036854775808):Bh [C.v,.int .i64 a] K σ=K (.int .i64 (qz C a)) σ:=by
 have hW:=hC.W
 have hl:=br hC
 have hT:=hC.T
 have hS:=hC.S
 have iD:=hC.C
 have hb:C.base 0=6+C.T+2*C.S+3*C.C:=by unfold Cf.base;omega
 simp only[Bh,PQ,zW,vJ,ya hC (Int.le_refl 0) (by decide:(0:Int)≤65536),JK hC,aF,bc,bN,Int.reduceNeg]
 unfold qz
 by_cases c1:a<C.base 0
 ·simp only[c1,aF,Int.reduceNeg]
  rw[ae (by omega)]
 ·by_cases c2:C.len≤a
  ·simp only[c1,c2,aF,Int.reduceNeg]
   rw[ae (by omega)]
  ·simp only[c1,c2,XY (show C.W≠0 by omega),aF,Int.reduceNeg]
   rw[af (by omega),IntWalk.i64_in (a-C.base 0) (by omega),Int.tdiv_eq_ediv_of_nonneg (by omega)]
   have:=Int.ediv_le_self C.W (show 0≤a-C.base 0 by omega)
   have:=Int.ediv_nonneg (show 0≤a-C.base 0 by omega) (show 0≤C.W by omega)
   rw[IntWalk.i64_in _ (by omega)]
theorem EA:aA 0=3:=rfl
end Go.Fl
namespace Go.Fl
open Go
variable{N:Nm}{A B:Ar}{σ:Mem}{K:Value→Mem→Prop}{C:Cf}{who:Int}
theorem FG(hC:C.ok){c:Int}(h0:0≤c)(h1:c≤3):C.w0 (2+c)=0:=by
 have:=hC.T;have:=hC.S
 unfold Cf.w0 Cf.fr Cf.slot
 rw[ae (by omega),ae (by omega),ae (by omega)]
theorem H7(hC:C.ok){j:Int}(h0:0≤j):C.w0 (C.chunk j)=0:=by
 have:=hC.T;have:=hC.S
 unfold Cf.w0 Cf.fr Cf.slot Cf.chunk
 rw[ae (by omega),ae (by omega),ae (by omega)]
structure Pa(C:Cf)(A:Ar)(b:Int):Prop where
 ok:A.ok b
 n:C.len≤A.n
 op:∀ c,0≤c→c≤3→A.w (2+c)≤C.C
theorem Pa.mono{b b':Int}(h:Pa C A b)(hb:b≤b'):Pa C A b':=⟨⟨h.ok.w,⟨h.ok.s.1,by have:=h.ok.s.2;omega⟩,h.ok.t⟩,h.n,h.op⟩
structure Go1(C:Cf)(A:Ar)(p:Pl)(r:Bool×Pl×Ar)(a:Int):Prop where
 wh:a=2+p.cls∨a=C.chunk p.at'
 la:r.2.2.la=a
 s:r.2.2.s=A.s+1
 n:r.2.2.n=A.n
 w:∀ i,i≠a→r.2.2.w i=A.w i
 cls:r.2.1.cls=p.cls
theorem aw{w:Int→Int}{a v i:Int}{c:Prop}[Decidable c](h:i≠a):(if c then aX w a v else w) i=w i:=by
 split
 ·exact az _ _ h
 ·rfl
theorem Pl.go(hC:C.ok){b:Int}(hb:b<4611686018427387904)(h:Pa C A b){p:Pl}(hf:p.fit C) :
  Pa C (p.step C who A).2.2 (b+1)∧((p.step C who A).1=false→(p.step C who A).2.1.fit C)∧∃ a,Go1 C A p (p.step C who A) a:=by
 obtain⟨ok,n,op⟩:=h
 obtain⟨f1,f2,f3,f4⟩:=hf
 have ma:=hC.C
 have hT:=hC.T
 have hS:=hC.S
 have tz:=xU hC f3.1 f3.2 n
 have hwo:=ok.w (2+p.cls)
 have K3:=ok.w (C.chunk p.at')
 have hoo:=op p.cls f1.1 f1.2
 have GZ:IntKind.i64.wrap (A.w (2+p.cls))=A.w (2+p.cls):=IntWalk.i64_in _ (by omega)
 have jd:∀ c,0≤c→c≤3→2+c≠C.chunk p.at':=fun c c0 c3=>by unfold Cf.chunk;omega
 have L:∀ a,Pa C ((A.by who).load a) (b+1):=fun a=>
  ⟨(cW ok (by omega)).ok (by decide) ok ok.w,n,op⟩
 have Cs:∀ o v,0≤v∧v<18446744073709551616→Pa C ((A.by who).dI (C.chunk p.at') o v) (b+1):=by
  intro o v hv
  have a1:=dy (who:=who) (a:=C.chunk p.at') (o:=o) (v:=v) ok (by omega)
  refine⟨a1.ok (by decide) ok (fun i=>?_),by rw[a1.n];exact n,fun c c0 c3=>?_⟩
  ·split
   ·exact dm (P:=fun x=>0≤x∧x<18446744073709551616) hv (ok.w i)
   ·exact ok.w i
  ·rw[a1.w,aw (jd c c0 c3)];exact op c c0 c3
 have nx:∀ q:Pl,0≤q.cls∧q.cls≤3→0≤q.k_∧q.k_<18446744073709551616→0≤q.at'→0≤q.w∧q.w<18446744073709551616→(q.next C).1=false→(q.next C).2.fit C:=by
  intro q a b c d e
  have e':¬ C.C≤q.at'+1:=of_decide_eq_false e
  exact⟨a,b,⟨by show 0≤q.at'+1;omega,by show q.at'+1<C.C;omega⟩,d⟩
 unfold Pl.step
 by_cases c0:p.pc=0
 ·rw[af c0]
  dsimp only
  rw[GZ]
  refine⟨L _,fun _=>?_,2+p.cls,⟨.inl rfl,rfl,(cW (who:=who) (a:=2+p.cls) ok (by omega)).s,rfl,fun _ _=>rfl,?_⟩⟩
  ·split
   ·exact⟨f1,hwo,⟨Int.le_refl 0,by show(0:Int)<C.C;omega⟩,f4⟩
   ·exact⟨f1,hwo,⟨by dsimp only;omega,by dsimp only;omega⟩,f4⟩
  ·split<;>rfl
 rw[ae c0]
 by_cases c1:p.pc=1
 ·rw[af c1]
  refine⟨L _,fun _=>?_,C.chunk p.at',⟨.inr rfl,rfl,(cW (who:=who) (a:=C.chunk p.at') ok (by omega)).s,rfl,fun _ _=>rfl,?_⟩⟩
  ·dsimp only
   split
   ·exact⟨f1,f2,⟨Int.le_refl 0,by show(0:Int)<C.C;omega⟩,K3⟩
   ·exact⟨f1,f2,f3,K3⟩
  ·dsimp only;split<;>rfl
 rw[ae c1]
 by_cases c2:p.pc=2
 ·rw[af c2]
  have a1:=fun v=>dy (who:=who) (a:=C.chunk p.at') (o:=p.w) (v:=v) ok (by omega)
  refine⟨Cs _ _ (bS _ _ _ _),fun _=>?_,C.chunk p.at',⟨.inr rfl,lG,(a1 _).s,(a1 _).n,fun i hi=>by rw[(a1 _).w,aw hi],?_⟩⟩
  ·dsimp only;split<;>exact⟨f1,f2,f3,f4⟩
  ·dsimp only;split<;>rfl
 rw[ae c2]
 by_cases c3:p.pc=3
 ·rw[af c3]
  dsimp only
  split
  ·exact⟨L _,nx _ f1 f2 f3.1 K3,C.chunk p.at',⟨.inr rfl,rfl,(cW (who:=who) (a:=C.chunk p.at') ok (by omega)).s,rfl,fun _ _=>rfl,rfl⟩⟩
  ·exact⟨L _,fun _=>⟨f1,f2,f3,K3⟩,C.chunk p.at',⟨.inr rfl,rfl,(cW (who:=who) (a:=C.chunk p.at') ok (by omega)).s,rfl,fun _ _=>rfl,rfl⟩⟩
 rw[ae c3]
 by_cases c4:p.pc=4
 ·rw[af c4]
  have a1:=fun v=>dy (who:=who) (a:=C.chunk p.at') (o:=p.w) (v:=v) ok (by omega)
  split
  ·exact⟨Cs _ _ (bS _ _ _ _),fun _=>⟨f1,f2,f3,f4⟩,C.chunk p.at',⟨.inr rfl,lG,(a1 _).s,(a1 _).n,fun i hi=>by rw[(a1 _).w,aw hi],rfl⟩⟩
  ·exact⟨Cs _ _ (bS _ _ _ _),nx _ f1 f2 f3.1 f4,C.chunk p.at',⟨.inr rfl,lG,(a1 _).s,(a1 _).n,fun i hi=>by rw[(a1 _).w,aw hi],rfl⟩⟩
 rw[ae c4]
 by_cases c5:p.pc=5
 ·rw[af c5]
  have a1:=fun v=>dy (who:=who) (a:=2+p.cls) (o:=p.k_) (v:=v) ok (by omega)
  refine⟨⟨(a1 _).ok (by decide) ok (fun i=>?_),by rw[(a1 _).n];exact n,fun c c0 c3=>?_⟩,fun _=>?_,2+p.cls,⟨.inl rfl,lG,(a1 _).s,(a1 _).n,fun i hi=>by rw[(a1 _).w,aw hi],?_⟩⟩
  ·split
   ·exact dm (P:=fun x=>0≤x∧x<18446744073709551616) (by omega) (ok.w i)
   ·exact ok.w i
  ·rw[(a1 _).w]
   split
   ·exact dm (P:=fun x=>x≤C.C) (by omega) (op c c0 c3)
   ·exact op c c0 c3
  ·dsimp only;split<;>exact⟨f1,f2,f3,f4⟩
  ·dsimp only;split<;>rfl
 ·rw[ae c5]
  have a1:=fun v=>dy (who:=who) (a:=C.chunk p.at') (o:=p.fresh) (v:=v) ok (by omega)
  exact⟨Cs _ _ (bS _ _ _ _),fun _=>⟨f1,f2,f3,f4⟩,C.chunk p.at',⟨.inr rfl,lG,(a1 _).s,(a1 _).n,fun i hi=>by rw[(a1 _).w,aw hi],rfl⟩⟩
theorem Pl.Bv(hC:C.ok){c:Int}(h0:0≤c)(h1:c≤3):(Pl.new c).fit C:=by
 have:=hC.C
 exact⟨⟨h0,h1⟩,⟨Int.le_refl 0,by show(0:Int)<18446744073709551616;decide⟩,⟨Int.le_refl 0,by show(0:Int)<C.C;omega⟩,⟨Int.le_refl 0,by show(0:Int)<18446744073709551616;decide⟩⟩
def Pl.spot(p:Pl):Value:=.tuple #[if p.ok=true then .agg #[.int .i64 p.sa,.int .i64 p.sc]else .agg #[.int .i64 0,.int .i64 0],.bool p.ok]
end Go.Fl
namespace Go.Fl
open Go
variable{N:Nm}{A B:Ar}{σ:Mem}{K:Value→Mem→Prop}{C:Cf}{who:Int}
theorem ml{i j:Int}(h:C.chunk i=C.chunk j):i=j:=by unfold Cf.chunk at h;omega
theorem oy(hC:C.ok){i c:Int}(h0:0≤i)(h1:c≤3):C.chunk i≠2+c:=by have:=hC.T;have:=hC.S;unfold Cf.chunk;omega
section
variable{p:Pl}
theorem Pl.s0a(h:p.pc=0)(hn:IntKind.i64.wrap (A.w (2+p.cls))-1<0):p.step C who A=(false,{ p with k_:=A.w (2+p.cls),at':=0,pc:=3 },(A.by who).load (2+p.cls)):=by
 unfold Pl.step;rw[af h];dsimp only;rw[af hn]
theorem Pl.s0b(h:p.pc=0)(hn:¬ IntKind.i64.wrap (A.w (2+p.cls))-1<0):p.step C who A=(false,{ p with k_:=A.w (2+p.cls),at':=IntKind.i64.wrap (A.w (2+p.cls))-1,pc:=1 },(A.by who).load (2+p.cls)):=by
 unfold Pl.step;rw[af h];dsimp only;rw[ae hn]
theorem Pl.s1a(h:p.pc=1)(hn:bF (A.w (C.chunk p.at'))≠1∨bL (A.w (C.chunk p.at'))≠p.cls∨C.W<bD (A.w (C.chunk p.at'))+aA p.cls) :
  p.step C who A=(false,{ p with w:=A.w (C.chunk p.at'),at':=0,pc:=3 },(A.by who).load (C.chunk p.at')):=by
 unfold Pl.step;rw[ae (by omega),af h];dsimp only;rw[af hn]
theorem Pl.s1b(h:p.pc=1)(hn:¬(bF (A.w (C.chunk p.at'))≠1∨bL (A.w (C.chunk p.at'))≠p.cls∨C.W<bD (A.w (C.chunk p.at'))+aA p.cls)) :
  p.step C who A=(false,{ p with w:=A.w (C.chunk p.at'),pc:=2 },(A.by who).load (C.chunk p.at')):=by
 unfold Pl.step;rw[ae (by omega),af h];dsimp only;rw[ae hn]
theorem Pl.s2a(h:p.pc=2)(hn:A.w (C.chunk p.at')=p.w) :
  p.step C who A=(true,{ p with pc:=0,sa:=C.base p.at'+bD p.w,sc:=p.at',ok:=true },(A.by who).dI (C.chunk p.at') p.w (aR (bF p.w) (bL p.w) (bD p.w+aA p.cls) (eM p.w))):=by
 unfold Pl.step;rw[ae (by omega),ae (by omega),af h];dsimp only;rw[af hn,decide_eq_true hn]
theorem Pl.s3a(h:p.pc=3)(hn:bF (A.w (C.chunk p.at'))≠0) :
  p.step C who A=(decide (C.C≤p.at'+1),{ p with w:=A.w (C.chunk p.at'),at':=p.at'+1,pc:=3 },(A.by who).load (C.chunk p.at')):=by
 unfold Pl.step;rw[ae (by omega),ae (by omega),ae (by omega),af h];dsimp only;rw[af hn];rfl
theorem Pl.s3b(h:p.pc=3)(hn:bF (A.w (C.chunk p.at'))=0) :
  p.step C who A=(false,{ p with w:=A.w (C.chunk p.at'),pc:=4 },(A.by who).load (C.chunk p.at')):=by
 unfold Pl.step;rw[ae (by omega),ae (by omega),ae (by omega),af h];dsimp only;rw[ae (fun q=>q hn)]
theorem Pl.s4a(h:p.pc=4)(hn:A.w (C.chunk p.at')=p.w) :
  p.step C who A=(false,{ p with pc:=5 },(A.by who).dI (C.chunk p.at') p.w p.fresh):=by
 unfold Pl.step;rw[ae (by omega),ae (by omega),ae (by omega),ae (by omega),af h,af hn]
theorem Pl.s5a(h:p.pc=5)(hn:A.w (2+p.cls)=p.k_) :
  p.step C who A=(false,{ p with pc:=0 },(A.by who).dI (2+p.cls) p.k_ (p.at'+1)):=by
 unfold Pl.step;rw[ae (by omega),ae (by omega),ae (by omega),ae (by omega),ae (by omega),af h,af hn]
end
theorem A7{P Q:Prop}(q:Q):if(false:Bool)=true then P else Q:=by rw[ae Bool.false_ne_true];exact q
theorem TQ{P Q:Prop}(q:P):if(true:Bool)=true then P else Q:=by rw[af rfl];exact q
end Go.Fl
namespace Go.Fl
open Go
variable{N:Nm}{A B:Ar}{σ:Mem}{K:Value→Mem→Prop}{C:Cf}{who:Int}
structure Al where
 size:Int
 own:Bool
 pc:Int
 tk:Tk
 at':Int
 gen:Int
 p:Option Nat
 sa:Int
 sc:Int
 g:Option Nat
 oE:Int
 oH:Int
 oV:Int
 oS:Int
def Bu(p:Option Nat):Value:=.pointer (p.map fun i=>⟨i,0,none⟩)
theorem rP{i:Nat}:Bu (some i)=.pointer (some ⟨i,0,none⟩):=rfl
def Al.l(a:Al):List Value:=[.int .i64 a.size,.bool a.own,.int .i64 a.pc]++a.tk.l++[.int .i64 a.at',.int .i64 a.gen,Bu a.p,.int .i64 a.sa,.int .i64 a.sc,Bu a.g,.int .i64 a.oE,.int .u64 a.oH,.int .i64 a.oV,.int .i64 a.oS]
def Al.new(size:Int)(own:Bool):Al:=⟨size,own,0,Tk.new,0,0,none,0,0,none,0,0,0,0⟩
theorem Fj{s:Int}{o:Bool}(hk:∀ id τ,σ.get id=none→τ.get id=some ⟨(Al.new s o).l,true⟩→Ext σ τ→K (.pointer (some ⟨id,0,none⟩)) τ):CL [.int .i64 s,.bool o] K σ:=by
 have b:∀ K:Value→Prop,xF (aM [(0,1),(1,1),(2,1),(3,5),(8,1),(9,1),(10,1),(11,2),(13,1),(14,4)] [(.int .i64 0),(.bool false),(.int .i64 0),(.int .i64 0),(.int .u64 0),(.int .i64 0),(.int .i64 0),(.bool false),(.int .i64 0),(.int .i64 0),(.pointer none),(.int .i64 0),(.int .i64 0),(.pointer none),(.int .i64 0),(.int .u64 0),(.int .i64 0),(.int .i64 0)] [0,1]) [.int .i64 s,.bool o] K =
   K (.agg (Al.new s o).l.toArray):=fun K=>nr rfl
 simp only[CL,Qt,b,aF]
 exact gA (cs:=(Al.new s o).l) rfl hk
theorem Dy(hA:aZ N A σ){p:Nat}{a:Al}(hp:σ.get p=some ⟨a.l,true⟩)(hd:p∉N.l)
  (hk:K (.agg #[.int .i64 a.oE,.int .u64 a.oH,.int .i64 a.oV,.int .i64 a.oS]) σ):CN [.pointer (some ⟨p,0,none⟩)] K σ:=by
 have gs:∀ x y z w:Int,aH 4 [.pointer (some ⟨2,0,some 0⟩),.agg #[.int .i64 x,.int .u64 y,.int .i64 z,.int .i64 w]] [.int .i64 0,.int .u64 0,.int .i64 0,.int .i64 0]=some [.int .i64 x,.int .u64 y,.int .i64 z,.int .i64 w]:=fun _ _ _ _=>rfl
 have l:=@cf
 have e:aj 4 true [.pointer (some ⟨p,14,none⟩)]=fun K σ'=>aj 4 true [.pointer (some ⟨p,14,none⟩)] K σ':=rfl
 simp only[CN,Qw,aF,bc]
 rw[cf hp]
 have sb:sub a.l 14 4 true=some (.agg #[.int .i64 a.oE,.int .u64 a.oH,.int .i64 a.oV,.int .i64 a.oS]):=rfl
 rw[sb]
 simp only[gs,uk,aF]
 exact hk
theorem JL{p:Nat}{a:Al}{k:Int}(hd:p∉N.l):CM [.pointer (some ⟨p,0,none⟩),.int .i64 k] K (aD N A (σ.set p ⟨a.l,true⟩))=K (.int .u64 (aW k a.size a.at' a.gen a.own)) (aD N A (σ.set p ⟨a.l,true⟩)):=by
 have b:∀(a b c d:Int) (e:Bool) (K:Value→Prop),xF (aM [(0,1),(1,1),(2,1),(3,1),(4,1)] [.int .i64 0,.int .i64 0,.int .i64 0,.int .i64 0,.bool false] [0,1,2,3,4]) [.int .i64 a,.int .i64 b,.int .i64 c,.int .i64 d,.bool e] K =
   K (.agg #[.int .i64 a,.int .i64 b,.int .i64 c,.int .i64 d,.bool e]):=fun _ _ _ _ _ K=>nr rfl
 have ld:∀(k:Nat) (v:Value) (K:Value→Mem→Prop),sub a.l k 1 false=some v→aj 1 false [.pointer (some ⟨p,k,none⟩)] K (aD N A (σ.set p ⟨a.l,true⟩))=K v (aD N A (σ.set p ⟨a.l,true⟩)):=fun k v K h=>by
  rw[cf ((dv hd).trans (Mem.bf _ _ _)),h,Ce]
 simp only[CM,Qu,aF]
 rw[ld 0 (.int .i64 a.size) _ rfl,ld 8 (.int .i64 a.at') _ rfl,ld 9 (.int .i64 a.gen) _ rfl,ld 1 (.bool a.own) _ rfl,b,zB]
theorem JM{p:Nat}{a:Al}{x:Int}(hd:p∉N.l):Bm [.pointer (some ⟨p,0,none⟩),N.env C who,.int .i64 x] K (aD N A (σ.set p ⟨a.l,true⟩)) =
  K (.tuple #[]) (aD N A (σ.set p ⟨({ a with oE:=x,oH:=0,oV:=0,oS:=A.s }:Al).l,true⟩)):=by
 have b:∀(a c:Int) (K:Value→Prop),xF (aM [(0,1),(1,1),(2,1),(3,1)] [.int .i64 0,.int .u64 0,.int .i64 0,.int .i64 0] [0,3]) [.int .i64 a,.int .i64 c] K=K (.agg #[.int .i64 a,.int .u64 0,.int .i64 0,.int .i64 c]):=fun _ _ K=>nr rfl
 simp only[Bm,Qv,aF,bc,bN]
 rw[oC,b]
 have:=CC (K:=fun _ σ=>K (.tuple #[]) σ) (N:=N) (A:=A) (σ:=σ) (p:=p) (pre:=[]) (L:=a.l) (post:=[]) (k:=14) (sz:=4) (c:=[.int .i64 x,.int .u64 0,.int .i64 0,.int .i64 A.s]) hd rfl (Nat.le_refl 18) rfl
 refine Eq.trans this ?_
 rfl
theorem C2{p k sz:Nat}{ag:Bool}{a:Al}{v:Value}(hd:p∉N.l)(h:sub a.l k sz ag=some v):aj sz ag [.pointer (some ⟨p,k,none⟩)] K (aD N A (σ.set p ⟨a.l,true⟩))=K v (aD N A (σ.set p ⟨a.l,true⟩)):=by
 rw[cf ((dv hd).trans (Mem.bf _ _ _)),h,Ce]
theorem Kd{p k:Nat}{a:Al}(a':Al){kd:IntKind}{n:Int}(hd:p∉N.l)(hk:k+1≤18)(e:lay a.l k [.int kd n]=a'.l):ax 1 [.pointer (some ⟨p,k,none⟩),.int kd n] K (aD N A (σ.set p ⟨a.l,true⟩))=K undef (aD N A (σ.set p ⟨a'.l,true⟩)):=by
 have:=jR (N:=N) (A:=A) (σ:=σ) (K:=K) (p:=p) (pre:=[]) (L:=a.l) (post:=[]) (k:=k) (kd:=kd) (n:=n) hd hk
 rw[e]at this
 simpa only[List.nil_append,List.append_nil,List.length_nil,Nat.zero_add]using this
theorem WQ(hN:N.ok)(hC:C.ok)(hA:aZ N A σ){p:Nat}{a:Al}(hp:σ.get p=some ⟨a.l,true⟩)(hd:p∉N.l)(hn:C.len≤A.n)(h:a.pc=3)(UY:0≤a.sc∧a.sc<C.C)(bE:0≤ai a.size)
  (hk:∀ τ,aZ N ((A.by who).add (C.chunk a.sc+1) (aA (ai a.size))) τ→τ.get p=some ⟨({ a with pc:=4 }:Al).l,true⟩→aQ (p::N.l) σ τ→K (.bool false) τ):kQ [.pointer (some ⟨p,0,none⟩),N.env C who] K σ:=by
 rw[hA.obj hp]
 have tz:=xU hC UY.1 UY.2 hn
 have hT:=hC.T;have hS:=hC.S;have ma:=hC.C;have hl:=br hC
 have kW:C.chunk C.C=6+C.T+2*C.S+3*C.C:=rfl
 have Lf:C.chunk a.sc=6+C.T+2*C.S+3*a.sc:=rfl
 have G4:ai a.size≤3:=by unfold ai;split<;>(try split)<;>(try split)<;>(try split)<;>(try split)<;>omega
 have hr:=bR bE G4
 have e0:¬(3:Int)=0:=by decide
 simp only[kQ,yv,jl,fL,aF,bc,bN,Nat.reduceAdd]
 rw[C2 hd (show sub _ 2 1 false=some (.int .i64 a.pc)from rfl)]
 simp only[h,aF,Int.reduceEq]
 rw[C2 hd (show sub _ 12 1 false=some (.int .i64 a.sc)from rfl),cB hC UY.1 (by omega)]
 simp only[aF]
 rw[IntWalk.i64_in (C.chunk a.sc+1) (by omega),C2 hd (show sub _ 0 1 false=some (.int .i64 a.size)from rfl)]
 refine kc ?_
 rw[mX bE G4,Gj hN (by omega) (by omega),Kd { a with pc:=4 } hd (by decide) rfl,show IntKind.u64.wrap (aA (ai a.size))=aA (ai a.size)from IntWalk.u64_in _ (by omega)]
 exact behind hN hd hk
theorem WO(hN:N.ok)(hA:aZ N A σ){p:Nat}{a:Al}(hp:σ.get p=some ⟨a.l,true⟩)(hd:p∉N.l)(h:a.pc=4)(zn:0≤a.sa∧a.sa<A.n)
  (hk:∀ τ,aZ N ((A.by who).store a.sa (aW 1 a.size a.at' a.gen a.own)) τ→τ.get p=some ⟨({ a with pc:=5 }:Al).l,true⟩→aQ (p::N.l) σ τ→K (.bool false) τ):kQ [.pointer (some ⟨p,0,none⟩),N.env C who] K σ:=by
 rw[hA.obj hp]
 simp only[kQ,yv,jl,fL,aF,bc,bN,Nat.reduceAdd]
 rw[C2 hd (show sub _ 2 1 false=some (.int .i64 a.pc)from rfl)]
 simp only[h,aF,Int.reduceEq]
 rw[C2 hd (show sub _ 11 1 false=some (.int .i64 a.sa)from rfl),JL hd,dG hN zn.1 zn.2,Kd { a with pc:=5 } hd (by decide) rfl]
 exact behind hN hd hk
theorem WM(hN:N.ok)(hA:aZ N A σ){p:Nat}{a:Al}(hp:σ.get p=some ⟨a.l,true⟩)(hd:p∉N.l)(h:a.pc=6)(zn:0≤a.sa∧a.sa<A.n)
  (hk:∀ τ,aZ N ((A.by who).store a.sa (aW 2 a.size a.at' a.gen a.own)) τ→τ.get p=some ⟨a.l,true⟩→aQ (p::N.l) σ τ→K (.bool true) τ):kQ [.pointer (some ⟨p,0,none⟩),N.env C who] K σ:=by
 rw[hA.obj hp]
 simp only[kQ,yv,jl,fL,aF,bc,bN,Nat.reduceAdd]
 rw[C2 hd (show sub _ 2 1 false=some (.int .i64 a.pc)from rfl)]
 simp only[h,aF,Int.reduceEq]
 rw[C2 hd (show sub _ 11 1 false=some (.int .i64 a.sa)from rfl),JL hd,dG hN zn.1 zn.2]
 exact behind hN hd hk
theorem WN(hN:N.ok)(hC:C.ok)(hA:aZ N A σ){p:Nat}{a:Al}(hp:σ.get p=some ⟨a.l,true⟩)(hd:p∉N.l)(hn:C.len≤A.n)(h:a.pc=5)(iM:0≤a.at'∧a.at'<C.S)
  (hk:∀ τ,aZ N ((A.by who).store (C.slot a.at') (aK 1 a.sa a.gen 0)) τ→τ.get p=some ⟨({ a with pc:=6,oE:=0,oH:=bC a.at' a.gen,oV:=0,oS:=((A.by who).store (C.slot a.at') (aK 1 a.sa a.gen 0)).s }:Al).l,true⟩→aQ (p::N.l) σ τ→K (.bool false) τ) :
  kQ [.pointer (some ⟨p,0,none⟩),N.env C who] K σ:=by
 rw[hA.obj hp]
 have b1:∀(a b c:Int) (K:Value→Prop),xF (aM [(0,1),(1,1),(2,1),(3,1)] [.int .i64 0,.int .i64 0,.int .i64 0,.int .i64 0] [0,1,2]) [.int .i64 a,.int .i64 b,.int .i64 c] K=K (.agg #[.int .i64 a,.int .i64 b,.int .i64 c,.int .i64 0]):=fun _ _ _ K=>nr rfl
 have b2:∀(a b:Int) (K:Value→Prop),xF (aM [(0,1),(1,1)] [.int .i64 0,.int .i64 0] [0,1]) [.int .i64 a,.int .i64 b] K=K (.agg #[.int .i64 a,.int .i64 b]):=fun _ _ K=>nr rfl
 have b3:∀(a b:Int) (K:Value→Prop),xF (aM [(0,1),(1,1),(2,1),(3,1)] [.int .i64 0,.int .u64 0,.int .i64 0,.int .i64 0] [1,3]) [.int .u64 a,.int .i64 b] K=K (.agg #[.int .i64 0,.int .u64 a,.int .i64 0,.int .i64 b]):=fun _ _ K=>nr rfl
 have hT:=hC.T;have hS:=hC.S;have ma:=hC.C;have hl:=br hC
 have kW:C.chunk C.C=6+C.T+2*C.S+3*C.C:=rfl
 have kL:C.slot a.at'=6+C.T+2*a.at':=rfl
 simp only[kQ,yv,jl,fL,aF,bc,bN,Nat.reduceAdd]
 rw[C2 hd (show sub _ 2 1 false=some (.int .i64 a.pc)from rfl)]
 simp only[h,aF,Int.reduceEq]
 rw[C2 hd (show sub _ 8 1 false=some (.int .i64 a.at')from rfl),dD hC iM.1 (by omega),C2 hd (show sub _ 11 1 false=some (.int .i64 a.sa)from rfl),C2 hd (show sub _ 9 1 false=some (.int .i64 a.gen)from rfl),b1,jf,
  dG hN (by omega) (by omega),C2 hd (show sub _ 8 1 false=some (.int .i64 a.at')from rfl),C2 hd (show sub _ 9 1 false=some (.int .i64 a.gen)from rfl),b2,Dt,oC,b3]
 generalize dL:(A.by who).store (C.slot a.at') (aK 1 a.sa a.gen 0)=A' at *
 have st:∀ K:Value→Mem→Prop,ax 4 [.pointer (some ⟨p,14,none⟩),.agg #[.int .i64 0,.int .u64 (bC a.at' a.gen),.int .i64 0,.int .i64 A'.s]] K (aD N A' (σ.set p ⟨a.l,true⟩))=K undef (aD N A' (σ.set p ⟨({ a with oE:=0,oH:=bC a.at' a.gen,oV:=0,oS:=A'.s }:Al).l,true⟩)):=by
  intro K
  have:=CC (K:=K) (N:=N) (A:=A') (σ:=σ) (p:=p) (pre:=[]) (L:=a.l) (post:=[]) (k:=14) (sz:=4) (c:=[.int .i64 0,.int .u64 (bC a.at' a.gen),.int .i64 0,.int .i64 A'.s]) hd rfl (Nat.le_refl 18) rfl
  exact this
 rw[st,Kd { a with pc:=6,oE:=0,oH:=bC a.at' a.gen,oV:=0,oS:=A'.s } hd (by decide) rfl]
 exact behind hN hd hk
theorem Rw{p k sz:Nat}{ag:Bool}{a:Al}{v:Value}(hp:σ.get p=some ⟨a.l,true⟩)(h:sub a.l k sz ag=some v):aj sz ag [.pointer (some ⟨p,k,none⟩)] K σ=K v σ:=by
 rw[cf hp,h,Ce]
theorem WL(hN:N.ok)(hC:C.ok)(hA:aZ N A σ){p q:Nat}{a:Al}{g:Gv}(hp:σ.get p=some ⟨a.l,true⟩)(hq:σ.get q=some ⟨[]++g.l++[],true⟩)(hd:q∉N.l)(hw:∀ i,0≤A.w i∧A.w i<18446744073709551616)(hn:C.len≤A.n)
  (h:a.pc=7) (hg:a.g=some q) (h0:0≤g.top∧g.top<18446744073709551616) (h1:0≤g.slot∧g.slot<C.S)
  (hk:∀ τ,aZ N (g.step C who A).2.2 τ→τ.get q=some ⟨[]++(g.step C who A).2.1.l++[],true⟩→aQ (q::N.l) σ τ→K (.bool (g.step C who A).1) τ):kQ [.pointer (some ⟨p,0,none⟩),N.env C who] K σ:=by
 simp only[kQ,yv,jl,fL,aF,bc,bN,Nat.reduceAdd]
 rw[Rw hp (show sub _ 2 1 false=some (.int .i64 a.pc)from rfl)]
 simp only[h,aF,Int.reduceEq]
 rw[Rw hp (show sub _ 13 1 false=some (Bu a.g)from rfl),hg,rP]
 exact tY hN hC hA (t:=g) (pre:=[]) (post:=[]) hq hd hw hn h0 h1 hk
theorem WV(hN:N.ok)(hC:C.ok)(hA:aZ N A σ){p:Nat}{a:Al}(hp:σ.get p=some ⟨a.l,true⟩)(hd:p∉N.l)(hw:∀ i,0≤A.w i∧A.w i<18446744073709551616)(hn:C.len≤A.n)(h:a.pc=0)
  (h0:0≤a.tk.top∧a.tk.top<18446744073709551616) (h1:a.tk.pc=1→0≤a.tk.slot∧a.tk.slot<C.S) (h2:0≤a.tk.next+1)
  (k0:ai a.size<0→∀ τ,aZ N A τ→τ.get p=some ⟨({ a with oE:=5,oH:=0,oV:=0,oS:=A.s }:Al).l,true⟩→aQ (p::N.l) σ τ→K (.bool true) τ)
  (k1:0≤ai a.size→(a.tk.step C who A).1=false→∀ τ,aZ N (a.tk.step C who A).2.2 τ→τ.get p=some ⟨({ a with tk:=(a.tk.step C who A).2.1 }:Al).l,true⟩→aQ (p::N.l) σ τ→K (.bool false) τ)
  (k2:0≤ai a.size→(a.tk.step C who A).1=true→(a.tk.step C who A).2.1.ok=true→∀ τ,aZ N (a.tk.step C who A).2.2 τ→τ.get p=some ⟨({ a with tk:=(a.tk.step C who A).2.1,at':=(a.tk.step C who A).2.1.slot,pc:=1 }:Al).l,true⟩→aQ (p::N.l) σ τ→K (.bool false) τ)
  (k3:0≤ai a.size→(a.tk.step C who A).1=true→(a.tk.step C who A).2.1.ok=false→∀ τ,aZ N (a.tk.step C who A).2.2 τ→τ.get p=some ⟨({ a with tk:=(a.tk.step C who A).2.1,at':=0,pc:=1,oE:=7,oH:=0,oV:=0,oS:=(a.tk.step C who A).2.2.s }:Al).l,true⟩→aQ (p::N.l) σ τ→K (.bool true) τ) :
  kQ [.pointer (some ⟨p,0,none⟩),N.env C who] K σ:=by
 simp only[kQ,yv,jl,fL,aF,bc,bN,Nat.reduceAdd]
 rw[Rw hp (show sub _ 2 1 false=some (.int .i64 a.pc)from rfl)]
 simp only[h,aF,Int.reduceEq]
 rw[Rw hp (show sub _ 0 1 false=some (.int .i64 a.size)from rfl)]
 refine kc ?_
 by_cases c:ai a.size<0
 ·simp only[c,aF]
  rw[hA.obj hp,JM hd]
  exact behind hN hd (k0 c)
 ·simp only[c,aF]
  have c':0≤ai a.size:=by omega
  refine Dq hN hC hA (t:=a.tk) (pre:=[.int .i64 a.size,.bool a.own,.int .i64 a.pc]) (post:=[.int .i64 a.at',.int .i64 a.gen,Bu a.p,.int .i64 a.sa,.int .i64 a.sc,Bu a.g,.int .i64 a.oE,.int .u64 a.oH,.int .i64 a.oV,.int .i64 a.oS]) hp hd hw hn h0 h1 h2 fun τ dL hg' hK=>?_
  replace k1:=k1 c'
  replace k2:=k2 c'
  replace k3:=k3 c'
  generalize a.tk.step C who A=r at *
  obtain⟨d,t',A'⟩:=r
  dsimp only at *
  have XE:τ.get p=some ⟨({ a with tk:=t' }:Al).l,true⟩:=hg'
  cases d with
  | false=>simp only[aF];exact k1 rfl τ dL XE hK
  | true=>
   simp only[aF]
   refine Ds dL (pre:=[.int .i64 a.size,.bool a.own,.int .i64 a.pc]) (post:=[.int .i64 a.at',.int .i64 a.gen,Bu a.p,.int .i64 a.sa,.int .i64 a.sc,Bu a.g,.int .i64 a.oE,.int .u64 a.oH,.int .i64 a.oV,.int .i64 a.oS]) hg' hd ?_
   simp only[aF]
   rw[dL.obj XE,Kd { a with tk:=t',at':=if t'.ok=true then t'.slot else 0 } hd (by decide) rfl,Kd { a with tk:=t',at':=if t'.ok=true then t'.slot else 0,pc:=1 } hd (by decide) rfl]
   cases o:t'.ok with
   | true=>
    simp only[aF]
    exact behind hN hd fun υ u1 u2 u3=>k2 rfl o υ u1 (by simpa[o]using u2) (hK.trans u3)
   | false=>
    simp only[aF]
    rw[JM hd]
    exact behind hN hd fun υ u1 u2 u3=>k3 rfl o υ u1 (by simpa[o]using u2) (hK.trans u3)
theorem TT{p k:Nat}{a:Al}(a':Al){b:Option Addr}(hd:p∉N.l)(hk:k+1≤18)(e:lay a.l k [.pointer b]=a'.l):ax 1 [.pointer (some ⟨p,k,none⟩),.pointer b] K (aD N A (σ.set p ⟨a.l,true⟩))=K undef (aD N A (σ.set p ⟨a'.l,true⟩)):=by
 have:=stOp (N:=N) (A:=A) (σ:=σ) (K:=K) (p:=p) (pre:=[]) (L:=a.l) (post:=[]) (k:=k) (b:=b) hd hk
 rw[e]at this
 simpa only[List.nil_append,List.append_nil,List.length_nil,Nat.zero_add]using this
theorem WU(hN:N.ok)(hC:C.ok)(hA:aZ N A σ){p:Nat}{a:Al}(hp:σ.get p=some ⟨a.l,true⟩)(hd:p∉N.l)(hw:∀ i,0≤A.w i∧A.w i<18446744073709551616)(hn:C.len≤A.n)(h:a.pc=1)(iM:0≤a.at'∧a.at'<C.S)(RC:σ.get p=some ⟨a.l,true⟩)
  (hk:∀ q τ,σ.get q=none→q≠p→aZ N ((A.by who).load (C.slot a.at')) τ→τ.get p=some ⟨({ a with gen:=b9 (A.w (C.slot a.at')),pc:=2,p:=some q }:Al).l,true⟩→τ.get q=some ⟨(Pl.new (ai a.size)).l,true⟩→aQ (p::N.l) σ τ→K (.bool false) τ) :
  kQ [.pointer (some ⟨p,0,none⟩),N.env C who] K σ:=by
 have hT:=hC.T;have hS:=hC.S;have ma:=hC.C;have hl:=br hC
 have kW:C.chunk C.C=6+C.T+2*C.S+3*C.C:=rfl
 have kL:C.slot a.at'=6+C.T+2*a.at':=rfl
 have hsd:∀(w:Int) (K:Value→Prop),xF (b7 2 1 false) [.agg #[.int .i64 (cF w),.int .i64 (a8 w),.int .i64 (b9 w),.int .i64 (cO w)]] K=K (.int .i64 (b9 w)):=fun w K=>nr rfl
 rw[hA.obj hp]
 simp only[kQ,yv,jl,fL,aF,bc,bN,Nat.reduceAdd]
 rw[C2 hd (show sub _ 2 1 false=some (.int .i64 a.pc)from rfl)]
 simp only[h,aF,Int.reduceEq]
 rw[C2 hd (show sub _ 8 1 false=some (.int .i64 a.at')from rfl),dD hC iM.1 (by omega),cg hN (by omega) (by omega),cX (hw _).1 (hw _).2]
 simp only[aF,bc]
 rw[Kd { a with gen:=b9 (A.w (C.slot a.at')) } hd (by decide) rfl,Kd { a with gen:=b9 (A.w (C.slot a.at')),pc:=2 } hd (by decide) rfl,C2 (a:={ a with gen:=b9 (A.w (C.slot a.at')),pc:=2 }) hd (show sub _ 0 1 false=some (.int .i64 a.size)from rfl)]
 refine kc ?_
 refine x9 fun q τ hq gq x=>?_
 have isU:aZ N ((A.by who).load (C.slot a.at')) (aD N ((A.by who).load (C.slot a.at')) (σ.set p ⟨({ a with gen:=b9 (A.w (C.slot a.at')),pc:=2 }:Al).l,true⟩)):=mS hN
 have gU:(aD N ((A.by who).load (C.slot a.at')) (σ.set p ⟨({ a with gen:=b9 (A.w (C.slot a.at')),pc:=2 }:Al).l,true⟩)).get p=some ⟨({ a with gen:=b9 (A.w (C.slot a.at')),pc:=2 }:Al).l,true⟩:=(dv hd).trans (Mem.bf _ _ _)
 have kU:aQ (p::N.l) σ (aD N ((A.by who).load (C.slot a.at')) (σ.set p ⟨({ a with gen:=b9 (A.w (C.slot a.at')),pc:=2 }:Al).l,true⟩)):=fun i b hi hn=>by
  simp only[List.mem_cons,not_or]at hn
  rw[dv hn.2,Mem.bZ _ _ hn.1];exact hi
 generalize aD N ((A.by who).load (C.slot a.at')) (σ.set p ⟨({ a with gen:=b9 (A.w (C.slot a.at')),pc:=2 }:Al).l,true⟩)=υ at *
 have qp:q≠p:=by rintro rfl;rw[gU]at hq;cases hq
 have qn:=isU.new hq
 have hqs:σ.get q=none:=by
  cases e:σ.get q with
  | none=>rfl
  | some b=>rw[kU q b e (by simp only[List.mem_cons,not_or];exact⟨qp,qn⟩)]at hq;cases hq
 have isT:=isU.ext x
 have gT:=x _ _ gU
 rw[isT.obj gT,TT { a with gen:=b9 (A.w (C.slot a.at')),pc:=2,p:=some q } hd (by decide) rfl]
 refine behind hN hd fun ω o1 o2 o3=>hk q ω hqs qp o1 o2 ?_ ?_
 ·exact o3 q _ gq (by simp only[List.mem_cons,not_or];exact⟨qp,qn⟩)
 ·exact(kU.trans x.aL).trans o3
theorem WT(hN:N.ok)(hC:C.ok)(hA:aZ N A σ){p q:Nat}{a:Al}{t:Pl}(hp:σ.get p=some ⟨a.l,true⟩)(hd:p∉N.l)(hq:σ.get q=some ⟨[]++t.l++[],true⟩)(lE:q∉N.l)(l9:q≠p)
  (hw:∀ i,0≤A.w i∧A.w i<18446744073709551616) (hn:C.len≤A.n) (h:a.pc=2) (ha:a.p=some q) (hf:t.fit C) (ho:A.w (2+t.cls)≤C.C)
  (k0:(t.step C who A).1=false→∀ τ,aZ N (t.step C who A).2.2 τ→τ.get p=some ⟨a.l,true⟩→τ.get q=some ⟨[]++(t.step C who A).2.1.l++[],true⟩→aQ (q::p::N.l) σ τ→K (.bool false) τ)
  (k1:(t.step C who A).1=true→(t.step C who A).2.1.ok=true→∀ τ,aZ N (t.step C who A).2.2 τ→τ.get p=some ⟨({ a with sa:=(t.step C who A).2.1.sa,sc:=(t.step C who A).2.1.sc,pc:=3 }:Al).l,true⟩→aQ (q::p::N.l) σ τ→K (.bool false) τ)
  (k2:(t.step C who A).1=true→(t.step C who A).2.1.ok=false→∀ id τ,σ.get id=none→id∉N.l→id≠p→aZ N (t.step C who A).2.2 τ →
   τ.get p=some ⟨({ a with sa:=0,sc:=0,pc:=7,oE:=6,oH:=0,oV:=0,oS:=(t.step C who A).2.2.s,g:=some id }:Al).l,true⟩→τ.get id=some ⟨(Gv.mk 0 a.at' 0).l,true⟩→aQ (q::p::N.l) σ τ→K (.bool false) τ) :
  kQ [.pointer (some ⟨p,0,none⟩),N.env C who] K σ:=by
 have gs:∀ x y:Int,aH 2 [.pointer (some ⟨7,0,some 0⟩),.agg #[.int .i64 x,.int .i64 y]] [.int .i64 0,.int .i64 0]=some [.int .i64 x,.int .i64 y]:=fun _ _=>rfl
 have Uf:∀ x y:Value,sub [x,y] 0 2 true=some (.agg #[x,y]):=fun _ _=>rfl
 simp only[kQ,yv,jl,fL,aF,bc,bN,Nat.reduceAdd]
 rw[Rw hp (show sub _ 2 1 false=some (.int .i64 a.pc)from rfl)]
 simp only[h,aF,Int.reduceEq]
 rw[Rw hp (show sub _ 10 1 false=some (Bu a.p)from rfl),ha,rP]
 refine si hN hC hA (t:=t) (pre:=[]) (post:=[]) hq lE hw hn hf ho fun τ dL yo hK=>?_
 generalize t.step C who A=r at *
 obtain⟨d,t',A'⟩:=r
 dsimp only at *
 have bG:τ.get p=some ⟨a.l,true⟩:=hK.get hp (by simp only[List.mem_cons,not_or];exact⟨fun e=>l9 e.symm,hd⟩)
 have m9:aQ (q::p::N.l) σ τ:=hK.mono (by intro i hi;rcases List.mem_cons.1 hi with rfl|hi<;>simp[*])
 have I9:∀ i∈p::N.l,i∈q::p::N.l:=fun i hi=>List.mem_cons_of_mem _ hi
 cases d with
 | false=>simp only[aF];exact k0 rfl τ dL bG yo m9
 | true=>
  simp only[aF]
  rw[Rw bG (show sub _ 10 1 false=some (Bu a.p)from rfl),ha,rP]
  refine sj dL (pre:=[]) (post:=[]) yo lE ?_
  have st:∀(x y:Int) (K:Value→Mem→Prop),ax 2 [.pointer (some ⟨p,11,none⟩),.agg #[.int .i64 x,.int .i64 y]] K (aD N A' (τ.set p ⟨a.l,true⟩))=K undef (aD N A' (τ.set p ⟨({ a with sa:=x,sc:=y }:Al).l,true⟩)):=by
   intro x y K
   have:=CC (K:=K) (N:=N) (A:=A') (σ:=τ) (p:=p) (pre:=[]) (L:=a.l) (post:=[]) (k:=11) (sz:=2) (c:=[.int .i64 x,.int .i64 y]) hd rfl (by show 13≤18;decide) rfl
   exact this
  rw[dL.obj bG]
  cases o:t'.ok with
  | true=>
   simp only[gs,Uf,aF]
   rw[st,Kd { a with sa:=t'.sa,sc:=t'.sc,pc:=3 } hd (by decide) rfl]
   exact behind hN hd fun υ u1 u2 u3=>k1 rfl o υ u1 u2 (m9.trans (u3.mono I9))
  | false=>
   simp only[gs,Uf,aF]
   rw[st,Kd { a with sa:=0,sc:=0,pc:=3 } hd (by decide) rfl,JM hd]
   rw[C2 (a:={ a with sa:=0,sc:=0,pc:=3,oE:=6,oH:=0,oV:=0,oS:=A'.s }) hd (show sub _ 8 1 false=some (.int .i64 a.at')from rfl)]
   refine behind (K:=fun _ σ=>xf [.int .i64 a.at'] _ σ) (v:=undef) hN hd fun υ u1 u2 u3=>?_
   refine zC fun id ω dQ gid x=>?_
   have E2:=u1.ext x
   have I0:=x _ _ u2
   have ip:id≠p:=by rintro rfl;rw[u2]at dQ;cases dQ
   have B9:=u1.new dQ
   rw[E2.obj I0,TT { a with sa:=0,sc:=0,pc:=3,oE:=6,oH:=0,oV:=0,oS:=A'.s,g:=some id } hd (by decide) rfl,Kd { a with sa:=0,sc:=0,pc:=7,oE:=6,oH:=0,oV:=0,oS:=A'.s,g:=some id } hd (by decide) rfl]
   have UH:aQ (q::p::N.l) σ υ:=m9.trans (u3.mono I9)
   have iq:id≠q:=by
    rintro rfl
    rw[u3 _ _ yo (by simp only[List.mem_cons,not_or];exact⟨l9,lE⟩)]at dQ;cases dQ
   have ids:σ.get id=none:=by
    cases e:σ.get id with
    | none=>rfl
    | some b=>rw[UH id b e (by simp only[List.mem_cons,not_or];exact⟨iq,ip,B9⟩)]at dQ;cases dQ
   refine behind hN hd fun ρ r1 r2 r3=>k2 rfl o id ρ ids B9 ip r1 r2 ?_ ((UH.trans x.aL).trans (r3.mono I9))
   exact r3 id _ gid (by simp only[List.mem_cons,not_or];exact⟨ip,B9⟩)
end Go.Fl
namespace Go.Fl
open Go
variable{N:Nm}{A B:Ar}{σ:Mem}{K:Value→Mem→Prop}{C:Cf}{who:Int}
structure Dr where
 n:Int
 own:Bool
 hs:Int
 hg:Int
 pc:Int
 w:Int
 size:Int
 jA:Option Nat
 ov:Option Nat
 oE:Int
 oH:Int
 oV:Int
 oS:Int
def Dr.l(a:Dr):List Value:=[.int .u64 a.n,.bool a.own,.int .i64 a.hs,.int .i64 a.hg,.int .i64 a.pc,.int .u64 a.w,.int .i64 a.size,Bu a.jA,Bu a.ov,.int .i64 a.oE,.int .u64 a.oH,.int .i64 a.oV,.int .i64 a.oS]
def Dr.new(n:Int)(own:Bool):Dr:=⟨n,own,0,0,0,0,0,none,none,0,0,0,0⟩
def dZ(w g:Int):Prop:=(cF w=1∨cF w=2∨cF w=4)∧b9 w=g
instance (w g:Int):Decidable (dZ w g):=inferInstanceAs (Decidable (_∧_))
theorem pz{p k sz:Nat}{ag:Bool}{a:Dr}{v:Value}(hd:p∉N.l)(h:sub a.l k sz ag=some v):aj sz ag [.pointer (some ⟨p,k,none⟩)] K (aD N A (σ.set p ⟨a.l,true⟩))=K v (aD N A (σ.set p ⟨a.l,true⟩)):=by
 rw[cf ((dv hd).trans (Mem.bf _ _ _)),h,Ce]
theorem UC{L:List Value}{p k sz:Nat}{ag:Bool}{v:Value}(hp:σ.get p=some ⟨L,true⟩)(h:sub L k sz ag=some v):aj sz ag [.pointer (some ⟨p,k,none⟩)] K σ=K v σ:=by
 rw[cf hp,h,Ce]
theorem GG{p k:Nat}{a:Dr}(a':Dr){x:Value}(hd:p∉N.l)(hx:cellsOf x 1=some [x])(ho:dV x=true)(hk:k+1≤13)(e:lay a.l k [x]=a'.l) :
  ax 1 [.pointer (some ⟨p,k,none⟩),x] K (aD N A (σ.set p ⟨a.l,true⟩))=K undef (aD N A (σ.set p ⟨a'.l,true⟩)):=by
 have:=Mt (K:=K) (N:=N) (A:=A) (σ:=σ) (p:=p) (pre:=[]) (L:=a.l) (post:=[]) (k:=k) (sz:=1) (x:=x) (c:=[x]) hd hx rfl hk (by simp[ho])
 rw[e]at this
 simpa only[List.nil_append,List.append_nil,List.length_nil,Nat.zero_add]using this
theorem Q5{p k sz:Nat}{a:Dr}(a':Dr){c:List Value}(hd:p∉N.l)(hl:c.length=sz)(ho:c.all dV=true)(hk:k+sz≤13)(e:lay a.l k c=a'.l) :
  ax sz [.pointer (some ⟨p,k,none⟩),.agg c.toArray] K (aD N A (σ.set p ⟨a.l,true⟩))=K undef (aD N A (σ.set p ⟨a'.l,true⟩)):=by
 have:=CC (K:=K) (N:=N) (A:=A) (σ:=σ) (p:=p) (pre:=[]) (L:=a.l) (post:=[]) (k:=k) (sz:=sz) (c:=c) hd hl hk ho
 rw[e]at this
 simpa only[List.nil_append,List.append_nil,List.length_nil,Nat.zero_add]using this
theorem Hp{n:Int}{o:Bool}(hk:∀ id τ,σ.get id=none→τ.get id=some ⟨(Dr.new n o).l,true⟩→Ext σ τ→K (.pointer (some ⟨id,0,none⟩)) τ):CP [.int .u64 n,.bool o] K σ:=by
 have b:∀ K:Value→Prop,xF (aM [(0,1),(1,1),(2,2),(4,1),(5,1),(6,1),(7,1),(8,1),(9,4)] [(.int .u64 0),(.bool false),(.int .i64 0),(.int .i64 0),(.int .i64 0),(.int .u64 0),(.int .i64 0),(.pointer none),(.pointer none),(.int .i64 0),(.int .u64 0),(.int .i64 0),(.int .i64 0)] [0,1]) [.int .u64 n,.bool o] K =
   K (.agg (Dr.new n o).l.toArray):=fun K=>nr rfl
 simp only[CP,QI,b,aF]
 exact gA (cs:=(Dr.new n o).l) rfl hk
theorem Fh{st ad ge ve s g:Int}:xl [.agg #[.int .i64 st,.int .i64 ad,.int .i64 ge,.int .i64 ve],.agg #[.int .i64 s,.int .i64 g]] K σ=K (.bool (decide ((st=1∨st=2∨st=4)∧ge=g))) σ:=by
 simp only[xl,QJ,aF,bc,Nat.reduceAdd]
 by_cases h1:st=1
 ·simp[h1]
 ·by_cases h2:st=2
  ·simp[h2]
  ·by_cases h4:st=4
   ·simp[h4]
   ·simp[h1,h2,h4]
theorem Lz(hN:N.ok)(hA:aZ N A σ){a:Int}(h0:0≤a)(h1:a<A.n):Ej [N.p,.int .i64 a] K σ=K (.int .i64 (A.t a)) σ:=by
 rw[hA.eq]
 simp only[Ej,Qa,Ag,wu,Nm.p,C1,UB,aF]
 rw[ae (by omega),ae (by omega)]
 simp only[fx h0 h1,Nat.zero_add]
 rw[ldT hN h0 h1]
theorem Fi(hA:aZ N A σ){p:Nat}{a:Dr}(hp:σ.get p=some ⟨a.l,true⟩)(hk:K (.agg #[.int .i64 a.oE,.int .u64 a.oH,.int .i64 a.oV,.int .i64 a.oS]) σ):CK [.pointer (some ⟨p,0,none⟩)] K σ:=by
 have gs:∀ x y z w:Int,aH 4 [.pointer (some ⟨2,0,some 0⟩),.agg #[.int .i64 x,.int .u64 y,.int .i64 z,.int .i64 w]] [.int .i64 0,.int .u64 0,.int .i64 0,.int .i64 0]=some [.int .i64 x,.int .u64 y,.int .i64 z,.int .i64 w]:=fun _ _ _ _=>rfl
 simp only[CK,Qm,aF,bc]
 rw[UC hp (show sub a.l 9 4 true=some (.agg #[.int .i64 a.oE,.int .u64 a.oH,.int .i64 a.oV,.int .i64 a.oS])from rfl)]
 simp only[gs,uk,aF]
 exact hk
theorem BX{p:Nat}{a:Dr}(hd:p∉N.l):yE [.pointer (some ⟨p,0,none⟩),N.env C who] K (aD N A (σ.set p ⟨a.l,true⟩))=K (.bool true) (aD N A (σ.set p ⟨({ a with oE:=3,oH:=0,oV:=0,oS:=A.s }:Dr).l,true⟩)):=by
 have b:∀(c:Int) (K:Value→Prop),xF (aM [(0,1),(1,1),(2,1),(3,1)] [.int .i64 0,.int .u64 0,.int .i64 0,.int .i64 0] [0,3]) [.int .i64 3,.int .i64 c] K=K (.agg #[.int .i64 3,.int .u64 0,.int .i64 0,.int .i64 c]):=fun _ K=>nr rfl
 simp only[yE,Qk,aF,bc,bN]
 rw[oC,b]
 have:=Q5 (K:=fun _ σ=>K (.bool true) σ) (N:=N) (A:=A) (σ:=σ) (p:=p) (a:=a) { a with oE:=3,oH:=0,oV:=0,oS:=A.s } (c:=[.int .i64 3,.int .u64 0,.int .i64 0,.int .i64 A.s]) (sz:=4) (k:=9) hd rfl rfl (by decide) rfl
 exact this
theorem Wy(hN:N.ok)(hC:C.ok)(hA:aZ N A σ){p:Nat}{a:Dr}(hp:σ.get p=some ⟨a.l,true⟩)(hd:p∉N.l)(hw:∀ i,0≤A.w i∧A.w i<18446744073709551616)(hn:C.len≤A.n)(h:a.pc=0)(h1:0≤a.n∧a.n<18446744073709551616)(h2:0≤a.hs∧a.hs≤65536)
  (k0:jB a.n=false∨C.S≤aJ a.n→∀ τ,aZ N A τ→τ.get p=some ⟨({ a with hs:=aJ a.n,hg:=b_ a.n,oE:=3,oH:=0,oV:=0,oS:=A.s }:Dr).l,true⟩→aQ (p::N.l) σ τ→K (.bool true) τ)
  (k1:jB a.n=true→aJ a.n<C.S→¬ dZ (A.w (C.slot (aJ a.n))) (b_ a.n)→∀ τ,aZ N ((A.by who).load (C.slot (aJ a.n))) τ→τ.get p=some ⟨({ a with hs:=aJ a.n,hg:=b_ a.n,w:=A.w (C.slot (aJ a.n)),oE:=3,oH:=0,oV:=0,oS:=((A.by who).load (C.slot (aJ a.n))).s }:Dr).l,true⟩→aQ (p::N.l) σ τ→K (.bool true) τ)
  (k2:jB a.n=true→aJ a.n<C.S→dZ (A.w (C.slot (aJ a.n))) (b_ a.n)→∀ τ,aZ N ((A.by who).load (C.slot (aJ a.n))) τ→τ.get p=some ⟨({ a with hs:=aJ a.n,hg:=b_ a.n,w:=A.w (C.slot (aJ a.n)),pc:=1 }:Dr).l,true⟩→aQ (p::N.l) σ τ→K (.bool false) τ) :
  nC [.pointer (some ⟨p,0,none⟩),N.env C who] K σ:=by
 have hT:=hC.T;have hS:=hC.S;have ma:=hC.C;have hl:=br hC
 have kW:C.chunk C.C=6+C.T+2*C.S+3*C.C:=rfl
 obtain⟨b1,b2⟩:=oX h1.1
 rw[hA.obj hp]
 have g2:∀(k:Nat) (x y:Int),aH 2 [.pointer (some ⟨k,0,some 0⟩),.agg #[.int .i64 x,.int .i64 y]] [.int .i64 0,.int .i64 0]=some [.int .i64 x,.int .i64 y]:=fun _ _ _=>rfl
 have s2:∀ x y:Value,sub [x,y] 0 2 true=some (.agg #[x,y]):=fun _ _=>rfl
 simp only[nC,Ck,k8,ju,aF,bc,bN,Nat.reduceAdd]
 rw[pz hd (show sub _ 2 1 false=some (.int .i64 a.hs)from rfl),dD hC h2.1 h2.2,pz hd (show sub _ 4 1 false=some (.int .i64 a.pc)from rfl)]
 simp only[h,GM,Qj,aF,bc,bN,Int.reduceEq]
 rw[pz hd (show sub _ 0 1 false=some (.int .u64 a.n)from rfl),xZ h1.1 h1.2]
 simp only[g2,s2,Ai,wx,aF,bc,bN]
 have sY:∀ K:Value→Mem→Prop,ax 2 [.pointer (some ⟨p,2,none⟩),.agg #[.int .i64 (aJ a.n),.int .i64 (b_ a.n)]] K (aD N A (σ.set p ⟨a.l,true⟩))=K undef (aD N A (σ.set p ⟨({ a with hs:=aJ a.n,hg:=b_ a.n }:Dr).l,true⟩)):=
  fun K=>Q5 (a:=a) { a with hs:=aJ a.n,hg:=b_ a.n } (c:=[.int .i64 (aJ a.n),.int .i64 (b_ a.n)]) (sz:=2) (k:=2) hd rfl rfl (by decide) rfl
 rw[sY]
 cases hO:jB a.n with
 | false=>
  simp only[aF]
  rw[BX hd]
  exact behind hN hd (k0 (.inl hO))
 | true=>
  by_cases hs:C.S≤aJ a.n
  ·simp only[hs,aF]
   rw[BX hd]
   exact behind hN hd (k0 (.inr hs))
  ·have pB:0≤C.slot (aJ a.n)∧C.slot (aJ a.n)<A.n:=by unfold Cf.slot;omega
   have yn:=hw (C.slot (aJ a.n))
   simp only[hs,aF]
   rw[dD hC b1.1 (by omega),cg hN pB.1 pB.2,GG { a with hs:=aJ a.n,hg:=b_ a.n,w:=A.w (C.slot (aJ a.n)) } hd rfl rfl (by decide) rfl]
   rw[pz (a:={ a with hs:=aJ a.n,hg:=b_ a.n,w:=A.w (C.slot (aJ a.n)) }) hd (show sub _ 5 1 false=some (.int .u64 (A.w (C.slot (aJ a.n))))from rfl),cX yn.1 yn.2,Fh]
   by_cases qA:dZ (A.w (C.slot (aJ a.n))) (b_ a.n)
   ·have e:decide ((cF (A.w (C.slot (aJ a.n)))=1∨cF (A.w (C.slot (aJ a.n)))=2∨cF (A.w (C.slot (aJ a.n)))=4)∧b9 (A.w (C.slot (aJ a.n)))=b_ a.n)=true:=decide_eq_true qA
    simp only[e,aF]
    rw[GG { a with hs:=aJ a.n,hg:=b_ a.n,w:=A.w (C.slot (aJ a.n)),pc:=1 } hd rfl rfl (by decide) rfl]
    exact behind hN hd (k2 hO (by omega) qA)
   ·have e:decide ((cF (A.w (C.slot (aJ a.n)))=1∨cF (A.w (C.slot (aJ a.n)))=2∨cF (A.w (C.slot (aJ a.n)))=4)∧b9 (A.w (C.slot (aJ a.n)))=b_ a.n)=false:=decide_eq_false qA
    simp only[e,aF]
    rw[BX hd]
    exact behind hN hd (k1 hO (by omega) qA)
theorem Wx(hN:N.ok)(hC:C.ok)(hA:aZ N A σ){p:Nat}{a:Dr}(hp:σ.get p=some ⟨a.l,true⟩)(hd:p∉N.l)(hw:∀ i,0≤A.w i∧A.w i<18446744073709551616)(h:a.pc=1)(h2:0≤a.hs∧a.hs≤65536)(h3:0≤a.w∧a.w<18446744073709551616)(h4:a8 a.w<A.n)
  (k0:sy (A.w (a8 a.w))≠a.own→∀ τ,aZ N ((A.by who).load (a8 a.w)) τ→τ.get p=some ⟨({ a with oE:=3,oH:=0,oV:=0,oS:=((A.by who).load (a8 a.w)).s }:Dr).l,true⟩→aQ (p::N.l) σ τ→K (.bool true) τ)
  (k1:sy (A.w (a8 a.w))=a.own→cF a.w≠4→∀ τ,aZ N ((A.by who).load (a8 a.w)) τ→τ.get p=some ⟨({ a with size:=gH (A.w (a8 a.w)),pc:=2 }:Dr).l,true⟩→aQ (p::N.l) σ τ→K (.bool false) τ)
  (k2:sy (A.w (a8 a.w))=a.own→cF a.w=4→∀ q τ,σ.get q=none→q≠p→aZ N ((A.by who).load (a8 a.w)) τ→τ.get p=some ⟨({ a with size:=gH (A.w (a8 a.w)),pc:=4,jA:=some q }:Dr).l,true⟩ →
   τ.get q=some ⟨(Hl.new a.hs a.w (gH (A.w (a8 a.w)))).l,true⟩→aQ (p::N.l) σ τ→K (.bool false) τ) :
  nC [.pointer (some ⟨p,0,none⟩),N.env C who] K σ:=by
 have hb:=xd a.w
 have yn:=hw (a8 a.w)
 rw[hA.obj hp]
 have g5:∀(k:Nat) (x y z w:Int) (b:Bool),aH 5 [.pointer (some ⟨k,0,some 0⟩),.agg #[.int .i64 x,.int .i64 y,.int .i64 z,.int .i64 w,.bool b]] [.int .i64 0,.int .i64 0,.int .i64 0,.int .i64 0,.bool false]=some [.int .i64 x,.int .i64 y,.int .i64 z,.int .i64 w,.bool b]:=fun _ _ _ _ _ _=>rfl
 simp only[nC,Ck,k8,ju,aF,bc,bN,Nat.reduceAdd]
 rw[pz hd (show sub _ 2 1 false=some (.int .i64 a.hs)from rfl),dD hC h2.1 h2.2,pz hd (show sub _ 4 1 false=some (.int .i64 a.pc)from rfl)]
 simp only[h,aF,Int.reduceEq]
 rw[pz hd (show sub _ 5 1 false=some (.int .u64 a.w)from rfl),cX h3.1 h3.2]
 simp only[pw,aF,bc]
 rw[cg hN hb.1 h4,BU yn.1 yn.2]
 simp only[g5,aF,bc]
 rw[pz hd (show sub _ 1 1 false=some (.bool a.own)from rfl)]
 by_cases e:sy (A.w (a8 a.w))=a.own
 ·simp only[e,beq_self_eq_true,aF]
  rw[GG { a with size:=gH (A.w (a8 a.w)) } hd rfl rfl (by decide) rfl,GG { a with size:=gH (A.w (a8 a.w)),pc:=2 } hd rfl rfl (by decide) rfl,
   pz (a:={ a with size:=gH (A.w (a8 a.w)),pc:=2 }) hd (show sub _ 5 1 false=some (.int .u64 a.w)from rfl),cX h3.1 h3.2]
  simp only[pw,aF,bc]
  by_cases q:cF a.w=4
  ·simp only[q,aF]
   rw[pz (a:={ a with size:=gH (A.w (a8 a.w)),pc:=2 }) hd (show sub _ 2 1 false=some (.int .i64 a.hs)from rfl),pz (a:={ a with size:=gH (A.w (a8 a.w)),pc:=2 }) hd (show sub _ 5 1 false=some (.int .u64 a.w)from rfl),
    pz (a:={ a with size:=gH (A.w (a8 a.w)),pc:=2 }) hd (show sub _ 6 1 false=some (.int .i64 (gH (A.w (a8 a.w))))from rfl)]
   refine behind (K:=fun _ σ=>rM [.int .i64 a.hs,.int .u64 a.w,.int .i64 (gH (A.w (a8 a.w)))] _ σ) (v:=undef) hN hd fun υ u1 u2 u3=>?_
   refine tF fun id ω dQ gid x=>?_
   have E2:=u1.ext x
   have I0:=x _ _ u2
   have ip:id≠p:=by rintro rfl;rw[u2]at dQ;cases dQ
   have B9:=u1.new dQ
   have ids:σ.get id=none:=by
    cases e:σ.get id with
    | none=>rfl
    | some b=>rw[u3 id b e (by simp only[List.mem_cons,not_or];exact⟨ip,B9⟩)]at dQ;cases dQ
   rw[E2.obj I0,GG { a with size:=gH (A.w (a8 a.w)),pc:=2,jA:=some id } hd rfl rfl (by decide) rfl,GG { a with size:=gH (A.w (a8 a.w)),pc:=4,jA:=some id } hd rfl rfl (by decide) rfl]
   refine behind hN hd fun ρ r1 r2 r3=>k2 e q id ρ ids ip r1 r2 ?_ ((u3.trans x.aL).trans r3)
   exact r3 id _ gid (by simp only[List.mem_cons,not_or];exact⟨ip,B9⟩)
  ·simp only[q,aF]
   exact behind hN hd (k1 e q)
 ·have e':(sy (A.w (a8 a.w)) == a.own)=false:=by simpa using e
  simp only[e',aF]
  rw[BX hd]
  exact behind hN hd (k0 e)
theorem Ww(hN:N.ok)(hC:C.ok)(hA:aZ N A σ){p:Nat}{a:Dr}(hp:σ.get p=some ⟨a.l,true⟩)(hd:p∉N.l)(hn:C.len≤A.n)(h:a.pc=2)(h2:0≤a.hs∧a.hs<C.S)(h3:0≤a.w∧a.w<18446744073709551616)
  (k0:A.w (C.slot a.hs)≠a.w→∀ τ,aZ N ((A.by who).dI (C.slot a.hs) a.w (aK 4 (a8 a.w) (b9 a.w) (cO a.w+1))) τ→τ.get p=some ⟨({ a with pc:=0 }:Dr).l,true⟩→aQ (p::N.l) σ τ→K (.bool false) τ)
  (k1:A.w (C.slot a.hs)=a.w→∀ q τ,σ.get q=none→q≠p→aZ N ((A.by who).dI (C.slot a.hs) a.w (aK 4 (a8 a.w) (b9 a.w) (cO a.w+1))) τ→τ.get p=some ⟨({ a with pc:=3,jA:=some q }:Dr).l,true⟩ →
   τ.get q=some ⟨(Hl.new a.hs (aK 4 (a8 a.w) (b9 a.w) (cO a.w+1)) a.size).l,true⟩→aQ (p::N.l) σ τ→K (.bool false) τ) :
  nC [.pointer (some ⟨p,0,none⟩),N.env C who] K σ:=by
 have hT:=hC.T;have hS:=hC.S;have ma:=hC.C;have hl:=br hC
 have kW:C.chunk C.C=6+C.T+2*C.S+3*C.C:=rfl
 have hV:=A9 a.w
 have pB:0≤C.slot a.hs∧C.slot a.hs<A.n:=by unfold Cf.slot;omega
 rw[hA.obj hp]
 have g4:∀(k:Nat) (x y z w:Int),aH 4 [.pointer (some ⟨k,0,some 0⟩),.agg #[.int .i64 x,.int .i64 y,.int .i64 z,.int .i64 w]] [.int .i64 0,.int .i64 0,.int .i64 0,.int .i64 0]=some [.int .i64 x,.int .i64 y,.int .i64 z,.int .i64 w]:=fun _ _ _ _ _=>rfl
 simp only[nC,Ck,k8,ju,aF,bc,bN,Nat.reduceAdd]
 rw[pz hd (show sub _ 2 1 false=some (.int .i64 a.hs)from rfl),dD hC h2.1 (by omega),pz hd (show sub _ 4 1 false=some (.int .i64 a.pc)from rfl)]
 simp only[h,GN,Ql,aF,bc,bN,Nat.reduceAdd,Int.reduceEq]
 rw[pz hd (show sub _ 5 1 false=some (.int .u64 a.w)from rfl),cX h3.1 h3.2]
 simp only[g4,aF,bc,Nat.reduceAdd,Nat.reduceLeDiff]
 rw[IntWalk.i64_in (cO a.w+1) (by omega),GG { a with pc:=0 } hd rfl rfl (by decide) rfl]
 simp only[uk,aF]
 rw[jf,pz (a:={ a with pc:=0 }) hd (show sub _ 2 1 false=some (.int .i64 a.hs)from rfl),dD hC h2.1 (by omega),pz (a:={ a with pc:=0 }) hd (show sub _ 5 1 false=some (.int .u64 a.w)from rfl),jE hN pB.1 pB.2]
 by_cases e:A.w (C.slot a.hs)=a.w
 ·simp only[e,aF]
  replace k1:=k1 e
  generalize (A.by who).dI (C.slot a.hs) a.w (aK 4 (a8 a.w) (b9 a.w) (cO a.w+1))=A' at *
  rw[pz (a:={ a with pc:=0 }) hd (show sub _ 2 1 false=some (.int .i64 a.hs)from rfl),pz (a:={ a with pc:=0 }) hd (show sub _ 6 1 false=some (.int .i64 a.size)from rfl)]
  refine behind (K:=fun _ σ=>rM [.int .i64 a.hs,.int .u64 _,.int .i64 a.size] _ σ) (v:=undef) hN hd fun υ u1 u2 u3=>?_
  refine tF fun id ω dQ gid x=>?_
  have E2:=u1.ext x
  have I0:=x _ _ u2
  have ip:id≠p:=by rintro rfl;rw[u2]at dQ;cases dQ
  have B9:=u1.new dQ
  have ids:σ.get id=none:=by
   cases e:σ.get id with
   | none=>rfl
   | some b=>rw[u3 id b e (by simp only[List.mem_cons,not_or];exact⟨ip,B9⟩)]at dQ;cases dQ
  rw[E2.obj I0,GG { a with pc:=0,jA:=some id } hd rfl rfl (by decide) rfl,GG { a with pc:=3,jA:=some id } hd rfl rfl (by decide) rfl]
  refine behind hN hd fun ρ r1 r2 r3=>k1 id ρ ids ip r1 r2 ?_ ((u3.trans x.aL).trans r3)
  exact r3 id _ gid (by simp only[List.mem_cons,not_or];exact⟨ip,B9⟩)
 ·simp only[e,aF]
  exact behind hN hd (k0 e)
theorem Sg(hN:N.ok)(hC:C.ok)(hA:aZ N A σ){p q:Nat}{a:Dr}{t:Hl}(hp:σ.get p=some ⟨a.l,true⟩)(hd:p∉N.l)(hq:σ.get q=some ⟨[]++t.l++[],true⟩)(lE:q∉N.l)(l9:q≠p)(hw:∀ i,0≤A.w i∧A.w i<18446744073709551616)(hn:C.len≤A.n)
  (h:a.pc=3∨a.pc=4) (ha:a.jA=some q) (h2:0≤a.hs∧a.hs<C.S) (hf:t.fit C)
  (k0:(t.step C who A).1=false→∀ τ,aZ N (t.step C who A).2.2 τ→τ.get p=some ⟨a.l,true⟩→τ.get q=some ⟨[]++(t.step C who A).2.1.l++[],true⟩→aQ (q::p::N.l) σ τ→K (.bool false) τ)
  (k1:(t.step C who A).1=true→a.pc=3→∀ τ,aZ N (t.step C who A).2.2 τ→τ.get p=some ⟨({ a with oE:=0,oH:=0,oV:=0,oS:=(t.step C who A).2.2.t (C.slot a.hs),pc:=5 }:Dr).l,true⟩→aQ (q::p::N.l) σ τ→K (.bool false) τ)
  (k2:(t.step C who A).1=true→a.pc=4→∀ τ,aZ N (t.step C who A).2.2 τ→τ.get p=some ⟨({ a with pc:=0 }:Dr).l,true⟩→aQ (q::p::N.l) σ τ→K (.bool false) τ) :
  nC [.pointer (some ⟨p,0,none⟩),N.env C who] K σ:=by
 have hT:=hC.T;have hS:=hC.S;have ma:=hC.C;have hl:=br hC
 have kW:C.chunk C.C=6+C.T+2*C.S+3*C.C:=rfl
 have UW:0≤C.slot a.hs∧C.slot a.hs<A.n:=by unfold Cf.slot;omega
 have pB:=UW
 have aaY:(t.step C who A).2.2.n=A.n:=by
  unfold Hl.step;repeat' split
  all_goals first|rfl|exact Wa
 have I9:∀ i∈p::N.l,i∈q::p::N.l:=fun i hi=>List.mem_cons_of_mem _ hi
 have SX:∀ i∈q::N.l,i∈q::p::N.l:=fun i hi=>by rcases List.mem_cons.1 hi with rfl|hi<;>simp[*]
 have main:∀(τ:Mem),aZ N (t.step C who A).2.2 τ→τ.get p=some ⟨a.l,true⟩→aQ (q::p::N.l) σ τ→True:=fun _ _ _ _=>trivial
 rw[hA.obj hp]
 simp only[nC,Ck,k8,ju,aF,bc,bN,Nat.reduceAdd]
 rw[pz hd (show sub _ 2 1 false=some (.int .i64 a.hs)from rfl),dD hC h2.1 (by omega),pz hd (show sub _ 4 1 false=some (.int .i64 a.pc)from rfl)]
 rcases h with h|h
 ·simp only[h,aF,Int.reduceEq]
  rw[pz hd (show sub _ 7 1 false=some (Bu a.jA)from rfl),ha,rP,←hA.obj hp]
  refine oD hN hC hA (t:=t) (pre:=[]) (post:=[]) hq lE hw hn hf fun τ dL yo hK=>?_
  replace k1:=fun d=>k1 d h
  clear k2
  have bG:τ.get p=some ⟨a.l,true⟩:=hK.get hp (by simp only[List.mem_cons,not_or];exact⟨fun e=>l9 e.symm,hd⟩)
  have m9:=hK.mono SX
  generalize t.step C who A=r at *
  obtain⟨d,t',A'⟩:=r
  dsimp only at *
  cases d with
  | false=>simp only[aF];exact k0 rfl τ dL bG yo m9
  | true=>
   have b:∀(c:Int) (K:Value→Prop),xF (aM [(0,1),(1,1),(2,1),(3,1)] [.int .i64 0,.int .u64 0,.int .i64 0,.int .i64 0] [3]) [.int .i64 c] K=K (.agg #[.int .i64 0,.int .u64 0,.int .i64 0,.int .i64 c]):=fun _ K=>nr rfl
   simp only[aF]
   rw[Lz hN dL pB.1 (by rw[aaY];exact pB.2)]
   simp only[b]
   have st4:∀ K:Value→Mem→Prop,ax 4 [.pointer (some ⟨p,9,none⟩),.agg #[.int .i64 0,.int .u64 0,.int .i64 0,.int .i64 (A'.t (C.slot a.hs))]] K (aD N A' (τ.set p ⟨a.l,true⟩))=K undef (aD N A' (τ.set p ⟨({ a with oE:=0,oH:=0,oV:=0,oS:=A'.t (C.slot a.hs) }:Dr).l,true⟩)):=
    fun K=>Q5 (a:=a) { a with oE:=0,oH:=0,oV:=0,oS:=A'.t (C.slot a.hs) } (c:=[.int .i64 0,.int .u64 0,.int .i64 0,.int .i64 (A'.t (C.slot a.hs))]) (sz:=4) (k:=9) hd rfl rfl (by decide) rfl
   rw[dL.obj bG,st4,GG { a with oE:=0,oH:=0,oV:=0,oS:=A'.t (C.slot a.hs),pc:=5 } hd rfl rfl (by decide) rfl]
   exact behind hN hd fun υ u1 u2 u3=>k1 rfl υ u1 u2 (m9.trans (u3.mono I9))
 ·simp only[h,aF,Int.reduceEq]
  rw[pz hd (show sub _ 7 1 false=some (Bu a.jA)from rfl),ha,rP,←hA.obj hp]
  refine oD hN hC hA (t:=t) (pre:=[]) (post:=[]) hq lE hw hn hf fun τ dL yo hK=>?_
  replace k2:=fun d=>k2 d h
  clear k1
  have bG:τ.get p=some ⟨a.l,true⟩:=hK.get hp (by simp only[List.mem_cons,not_or];exact⟨fun e=>l9 e.symm,hd⟩)
  have m9:=hK.mono SX
  generalize t.step C who A=r at *
  obtain⟨d,t',A'⟩:=r
  dsimp only at *
  cases d with
  | false=>simp only[aF];exact k0 rfl τ dL bG yo m9
  | true=>
   simp only[aF]
   rw[dL.obj bG,GG { a with pc:=0 } hd rfl rfl (by decide) rfl]
   exact behind hN hd fun υ u1 u2 u3=>k2 rfl υ u1 u2 (m9.trans (u3.mono I9))
theorem Wv(hN:N.ok)(hC:C.ok)(hA:aZ N A σ){p:Nat}{a:Dr}(hp:σ.get p=some ⟨a.l,true⟩)(hd:p∉N.l)(hn:C.len≤A.n)(h:a.pc=5)(h2:0≤a.hs∧a.hs<C.S)(h3:0≤a.w∧a.w<18446744073709551616)(h4:0≤ai a.size)(h5:0≤qz C (a8 a.w)∧qz C (a8 a.w)<C.C)
  (hk:∀ q τ,σ.get q=none→q≠p→aZ N ((A.by who).add (C.chunk (qz C (a8 a.w))+1) (IntKind.u64.wrap (-aA (ai a.size)))) τ→τ.get p=some ⟨({ a with pc:=6,ov:=some q }:Dr).l,true⟩ →
   τ.get q=some ⟨(Gv.mk 0 a.hs 0).l,true⟩→aQ (p::N.l) σ τ→K (.bool (decide (C.G≤a.hg))) τ) :
  nC [.pointer (some ⟨p,0,none⟩),N.env C who] K σ:=by
 have hT:=hC.T;have hS:=hC.S;have ma:=hC.C;have hl:=br hC
 have kW:C.chunk C.C=6+C.T+2*C.S+3*C.C:=rfl
 have cY:ai a.size≤3:=by unfold ai;(repeat' split)<;>omega
 have hr:=bR h4 cY
 have Lf:C.chunk (qz C (a8 a.w))=6+C.T+2*C.S+3*qz C (a8 a.w):=rfl
 have Kp:=xd a.w
 rw[hA.obj hp]
 simp only[nC,Ck,k8,ju,aF,bc,bN,Nat.reduceAdd]
 rw[pz hd (show sub _ 2 1 false=some (.int .i64 a.hs)from rfl),dD hC h2.1 (by omega),pz hd (show sub _ 4 1 false=some (.int .i64 a.pc)from rfl)]
 simp only[h,aF,Int.reduceEq]
 rw[pz hd (show sub _ 5 1 false=some (.int .u64 a.w)from rfl),cX h3.1 h3.2]
 simp only[pw,aF,bc]
 rw[Wg hC (show a8 a.w<9223372036854775808 by omega)]
 simp only[cB hC h5.1 (show qz C (a8 a.w)≤65536 by omega)]
 simp only[aF]
 rw[IntWalk.i64_in (C.chunk (qz C (a8 a.w))+1) (by omega),pz hd (show sub _ 6 1 false=some (.int .i64 a.size)from rfl)]
 refine kc ?_
 rw[mX h4 cY,Tm]
 rw[IntWalk.i64_in (-aA (ai a.size)) (by omega),Gj hN (by omega) (by omega)]
 generalize (A.by who).add (C.chunk (qz C (a8 a.w))+1) (IntKind.u64.wrap (-aA (ai a.size)))=A' at *
 rw[pz hd (show sub _ 2 1 false=some (.int .i64 a.hs)from rfl)]
 refine behind (K:=fun _ σ=>xf [.int .i64 a.hs] _ σ) (v:=undef) hN hd fun υ u1 u2 u3=>?_
 refine zC fun id ω dQ gid x=>?_
 have E2:=u1.ext x
 have I0:=x _ _ u2
 have ip:id≠p:=by rintro rfl;rw[u2]at dQ;cases dQ
 have B9:=u1.new dQ
 have ids:σ.get id=none:=by
  cases e:σ.get id with
  | none=>rfl
  | some b=>rw[u3 id b e (by simp only[List.mem_cons,not_or];exact⟨ip,B9⟩)]at dQ;cases dQ
 rw[E2.obj I0,GG { a with ov:=some id } hd rfl rfl (by decide) rfl,GG { a with pc:=6,ov:=some id } hd rfl rfl (by decide) rfl,pz (a:={ a with pc:=6,ov:=some id }) hd (show sub _ 3 1 false=some (.int .i64 a.hg)from rfl)]
 simp only[aF]
 refine behind hN hd fun ρ r1 r2 r3=>hk id ρ ids ip r1 r2 ?_ ((u3.trans x.aL).trans r3)
 exact r3 id _ gid (by simp only[List.mem_cons,not_or];exact⟨ip,B9⟩)
theorem Wu(hN:N.ok)(hC:C.ok)(hA:aZ N A σ){p q:Nat}{a:Dr}{g:Gv}(hp:σ.get p=some ⟨a.l,true⟩)(hd:p∉N.l)(hq:σ.get q=some ⟨[]++g.l++[],true⟩)(lE:q∉N.l)(hw:∀ i,0≤A.w i∧A.w i<18446744073709551616)(hn:C.len≤A.n)(h:a.pc=6)(ha:a.ov=some q)
  (h2:0≤a.hs∧a.hs<C.S) (h0:0≤g.top∧g.top<18446744073709551616) (h1:0≤g.slot∧g.slot<C.S)
  (hk:∀ τ,aZ N (g.step C who A).2.2 τ→τ.get q=some ⟨[]++(g.step C who A).2.1.l++[],true⟩→aQ (q::N.l) σ τ→K (.bool (g.step C who A).1) τ) :
  nC [.pointer (some ⟨p,0,none⟩),N.env C who] K σ:=by
 rw[hA.obj hp]
 simp only[nC,Ck,k8,ju,aF,bc,bN,Nat.reduceAdd]
 rw[pz hd (show sub _ 2 1 false=some (.int .i64 a.hs)from rfl),dD hC h2.1 (by have:=hC.S;omega),pz hd (show sub _ 4 1 false=some (.int .i64 a.pc)from rfl)]
 simp only[h,aF,Int.reduceEq]
 rw[pz hd (show sub _ 8 1 false=some (Bu a.ov)from rfl),ha,rP,←hA.obj hp]
 exact tY hN hC hA (t:=g) (pre:=[]) (post:=[]) hq lE hw hn h0 h1 hk
end Go.Fl
namespace Go.Fl
open Go
variable{N:Nm}{A B:Ar}{σ:Mem}{K:Value→Mem→Prop}{C:Cf}{who:Int}
structure Dm where
 d:Dr
 h:Hl
 g:Gv
def Dm.new(n:Int)(o:Bool):Dm:=⟨Dr.new n o,Hl.new 0 0 0,⟨0,0,0⟩⟩
def Dm.step(C:Cf)(who:Int)(A:Ar)(m:Dm):Bool×Dm×Ar:=
 if m.d.pc=0 then
  if jB m.d.n=false∨C.S≤aJ m.d.n then(true,{ m with d:={ m.d with hs:=aJ m.d.n,hg:=b_ m.d.n,oE:=3,oH:=0,oV:=0,oS:=A.s } },A)
  else if dZ (A.w (C.slot (aJ m.d.n))) (b_ m.d.n)then(false,{ m with d:={ m.d with hs:=aJ m.d.n,hg:=b_ m.d.n,w:=A.w (C.slot (aJ m.d.n)),pc:=1 } },(A.by who).load (C.slot (aJ m.d.n)))
  else(true,{ m with d:={ m.d with hs:=aJ m.d.n,hg:=b_ m.d.n,w:=A.w (C.slot (aJ m.d.n)),oE:=3,oH:=0,oV:=0,oS:=((A.by who).load (C.slot (aJ m.d.n))).s } },(A.by who).load (C.slot (aJ m.d.n)))
 else if m.d.pc=1 then
  if sy (A.w (a8 m.d.w))≠m.d.own then(true,{ m with d:={ m.d with oE:=3,oH:=0,oV:=0,oS:=((A.by who).load (a8 m.d.w)).s } },(A.by who).load (a8 m.d.w))
  else if cF m.d.w=4 then(false,{ m with d:={ m.d with size:=gH (A.w (a8 m.d.w)),pc:=4 },h:=Hl.new m.d.hs m.d.w (gH (A.w (a8 m.d.w))) },(A.by who).load (a8 m.d.w))
  else(false,{ m with d:={ m.d with size:=gH (A.w (a8 m.d.w)),pc:=2 } },(A.by who).load (a8 m.d.w))
 else if m.d.pc=2 then
  if A.w (C.slot m.d.hs)=m.d.w then(false,{ m with d:={ m.d with pc:=3 },h:=Hl.new m.d.hs (aK 4 (a8 m.d.w) (b9 m.d.w) (cO m.d.w+1)) m.d.size },(A.by who).dI (C.slot m.d.hs) m.d.w (aK 4 (a8 m.d.w) (b9 m.d.w) (cO m.d.w+1)))
  else(false,{ m with d:={ m.d with pc:=0 } },(A.by who).dI (C.slot m.d.hs) m.d.w (aK 4 (a8 m.d.w) (b9 m.d.w) (cO m.d.w+1)))
 else if m.d.pc=3 then
  let r:=m.h.step C who A
  if r.1=true then(false,{ m with d:={ m.d with oE:=0,oH:=0,oV:=0,oS:=r.2.2.t (C.slot m.d.hs),pc:=5 } },r.2.2)else(false,{ m with h:=r.2.1 },r.2.2)
 else if m.d.pc=4 then
  let r:=m.h.step C who A
  if r.1=true then(false,{ m with d:={ m.d with pc:=0 } },r.2.2)else(false,{ m with h:=r.2.1 },r.2.2)
 else if m.d.pc=5 then
  (decide (C.G≤m.d.hg),{ m with d:={ m.d with pc:=6 },g:=⟨0,m.d.hs,0⟩ },(A.by who).add (C.chunk (qz C (a8 m.d.w))+1) (IntKind.u64.wrap (-aA (ai m.d.size))))
 else((m.g.step C who A).1,{ m with g:=(m.g.step C who A).2.1 },(m.g.step C who A).2.2)
structure Dm.fit(C:Cf)(A:Ar)(m:Dm):Prop where
 pc:0≤m.d.pc∧m.d.pc≤6
 n:0≤m.d.n∧m.d.n<18446744073709551616
 hs:0≤m.d.hs∧m.d.hs<C.S
 w:0≤m.d.w∧m.d.w<18446744073709551616
 a1:m.d.pc=1→a8 m.d.w<A.n
 h:m.d.pc=3∨m.d.pc=4→m.h.fit C
 c5:m.d.pc=5→0≤ai m.d.size∧0≤qz C (a8 m.d.w)∧qz C (a8 m.d.w)<C.C
 g6:m.d.pc=6→(0≤m.g.top∧m.g.top<18446744073709551616)∧0≤m.g.slot∧m.g.slot<C.S
structure HR(N:Nm)(p:Nat)(O:List Nat)(m:Dm)(τ:Mem):Prop where
 obj:∃ x y,τ.get p=some ⟨({ m.d with jA:=x,ov:=y }:Dr).l,true⟩∧(m.d.pc=3∨m.d.pc=4→∃ q,x=some q∧q∈O∧q≠p∧τ.get q=some ⟨[]++m.h.l++[],true⟩) ∧
  (m.d.pc=6→∃ q,y=some q∧q∈O∧q≠p∧τ.get q=some ⟨[]++m.g.l++[],true⟩)
 own:∀ i∈O,i∉N.l
 p:p∈O
theorem HR.ext{p:Nat}{O:List Nat}{m:Dm}{τ:Mem}(h:HR N p O m σ)(x:Ext σ τ):HR N p O m τ:=by
 obtain⟨⟨a,b,h1,h2,h3⟩,h4,h5⟩:=h
 refine⟨⟨a,b,x _ _ h1,fun e=>?_,fun e=>?_⟩,h4,h5⟩
 ·obtain⟨q,q1,q2,q3,q4⟩:=h2 e;exact⟨q,q1,q2,q3,x _ _ q4⟩
 ·obtain⟨q,q1,q2,q3,q4⟩:=h3 e;exact⟨q,q1,q2,q3,x _ _ q4⟩
theorem Du(hN:N.ok)(hC:C.ok)(hA:aZ N A σ){p:Nat}{O:List Nat}{m:Dm}(hO:HR N p O m σ)(hw:∀ i,0≤A.w i∧A.w i<18446744073709551616)(hn:C.len≤A.n)(hf:m.fit C A)
  (hk:∀ O' τ,(∀ i∈O',i∈O∨σ.get i=none)→aZ N (m.step C who A).2.2 τ→HR N p O' (m.step C who A).2.1 τ→aQ (O++N.l) σ τ→K (.bool (m.step C who A).1) τ):nC [.pointer (some ⟨p,0,none⟩),N.env C who] K σ:=by
 obtain⟨⟨x,y,hp,h3,h6⟩,own,pO⟩:=hO
 have hd:=own p pO
 have k1:∀{τ:Mem},aQ (p::N.l) σ τ→aQ (O++N.l) σ τ:=fun k=>k.mono fun i hi=>by
  rcases List.mem_cons.1 hi with rfl|hi
  ·exact List.mem_append_left _ pO
  ·exact List.mem_append_right _ hi
 have same:∀ i∈O,i∈O∨σ.get i=none:=fun i hi=>.inl hi
 have cons:∀{q:Nat},σ.get q=none→∀ i∈q::O,i∈O∨σ.get i=none:=fun h i hi=>by rcases List.mem_cons.1 hi with rfl|hi;exact .inr h;exact .inl hi
 have tp:∀{q:Nat},q∉N.l→∀ i∈q::O,i∉N.l:=fun h i hi=>by rcases List.mem_cons.1 hi with rfl|hi;exact h;exact own i hi
 have oT:=hf.pc
 have S0:=hf.hs
 have hS:=hC.S
 unfold Dm.step at hk
 by_cases c0:m.d.pc=0
 ·rw[af c0]at hk
  refine Wy hN hC hA (a:={ m.d with jA:=x,ov:=y }) hp hd hw hn c0 hf.n ⟨S0.1,by dsimp only;omega⟩ (fun c τ u1 u2 u3=>?_) (fun c d e τ u1 u2 u3=>?_) (fun c d e τ u1 u2 u3=>?_)
  ·rw[af c]at hk
   exact hk O τ same u1 ⟨⟨x,y,u2,fun q=>by dsimp only at q;omega,fun q=>by dsimp only at q;omega⟩,own,pO⟩ (k1 u3)
  ·rw[ae (show ¬(jB m.d.n=false∨C.S≤aJ m.d.n) by rintro(q|q);rw[show jB m.d.n=true from c]at q;cases q;dsimp only at d;omega),ae e]at hk
   exact hk O τ same u1 ⟨⟨x,y,u2,fun q=>by dsimp only at q;omega,fun q=>by dsimp only at q;omega⟩,own,pO⟩ (k1 u3)
  ·rw[ae (show ¬(jB m.d.n=false∨C.S≤aJ m.d.n) by rintro(q|q);rw[show jB m.d.n=true from c]at q;cases q;dsimp only at d;omega),af e]at hk
   exact hk O τ same u1 ⟨⟨x,y,u2,fun q=>by dsimp only at q;omega,fun q=>by dsimp only at q;omega⟩,own,pO⟩ (k1 u3)
 rw[ae c0]at hk
 by_cases c1:m.d.pc=1
 ·rw[af c1]at hk
  refine Wx hN hC hA (a:={ m.d with jA:=x,ov:=y }) hp hd hw c1 ⟨S0.1,by dsimp only;omega⟩ hf.w (hf.a1 c1) (fun c τ u1 u2 u3=>?_) (fun c d τ u1 u2 u3=>?_) (fun c d q τ q1 q2 u1 u2 u3 u4=>?_)
  ·rw[af c]at hk
   exact hk O τ same u1 ⟨⟨x,y,u2,fun q=>by dsimp only at q;omega,fun q=>by dsimp only at q;omega⟩,own,pO⟩ (k1 u3)
  ·rw[ae (fun q=>q c),ae d]at hk
   exact hk O τ same u1 ⟨⟨x,y,u2,fun q=>by dsimp only at q;omega,fun q=>by dsimp only at q;omega⟩,own,pO⟩ (k1 u3)
  ·rw[ae (fun q=>q c),af d]at hk
   exact hk (q::O) τ (cons q1) u1 ⟨⟨some q,y,u2,fun _=>⟨q,rfl,List.mem_cons_self ..,q2,by simpa using u3⟩,fun e=>by dsimp only at e;omega⟩,tp (hA.new q1),List.mem_cons_of_mem _ pO⟩ (k1 u4)
 rw[ae c1]at hk
 by_cases c2:m.d.pc=2
 ·rw[af c2]at hk
  refine Ww hN hC hA (a:={ m.d with jA:=x,ov:=y }) hp hd hn c2 S0 hf.w (fun c τ u1 u2 u3=>?_) (fun c q τ q1 q2 u1 u2 u3 u4=>?_)
  ·rw[ae c]at hk
   exact hk O τ same u1 ⟨⟨x,y,u2,fun q=>by dsimp only at q;omega,fun q=>by dsimp only at q;omega⟩,own,pO⟩ (k1 u3)
  ·rw[af c]at hk
   exact hk (q::O) τ (cons q1) u1 ⟨⟨some q,y,u2,fun _=>⟨q,rfl,List.mem_cons_self ..,q2,by simpa using u3⟩,fun e=>by dsimp only at e;omega⟩,tp (hA.new q1),List.mem_cons_of_mem _ pO⟩ (k1 u4)
 rw[ae c2]at hk
 by_cases Sj:m.d.pc=3∨m.d.pc=4
 ·have n6:¬ m.d.pc=6:=by rcases Sj with c|c<;>(rw[c];decide)
  obtain⟨q,rfl,qO,qp,gq⟩:=h3 Sj
  have k2:∀{τ:Mem},aQ (q::p::N.l) σ τ→aQ (O++N.l) σ τ:=fun k=>k.mono fun i hi=>by
   rcases List.mem_cons.1 hi with rfl|hi
   ·exact List.mem_append_left _ qO
   ·rcases List.mem_cons.1 hi with rfl|hi
    ·exact List.mem_append_left _ pO
    ·exact List.mem_append_right _ hi
  refine Sg hN hC hA (a:={ m.d with jA:=some q,ov:=y }) (t:=m.h) hp hd gq (own q qO) qp hw hn Sj rfl S0 (hf.h Sj) (fun d τ u1 u2 u3 u4=>?_) (fun d c τ u1 u2 u3=>?_) (fun d c τ u1 u2 u3=>?_)
  ·have kV:∀ O' τ,(∀ i∈O',i∈O∨σ.get i=none)→aZ N (m.h.step C who A).2.2 τ→HR N p O' { m with h:=(m.h.step C who A).2.1 } τ→aQ (O++N.l) σ τ→K (.bool false) τ:=by
    rcases Sj with c|c
    ·simpa only[af c,d,Bool.false_eq_true,if_false]using hk
    ·rw[ae (show ¬ m.d.pc=3 by omega)]at hk
     simpa only[af c,d,Bool.false_eq_true,if_false]using hk
   exact kV O τ same u1 ⟨⟨some q,y,u2,fun _=>⟨q,rfl,qO,qp,u3⟩,fun e=>absurd e n6⟩,own,pO⟩ (k2 u4)
  ·have c':m.d.pc=3:=c
   simp only[af c',d,if_true]at hk
   exact hk O τ same u1 ⟨⟨some q,y,u2,fun e=>by dsimp only at e;omega,fun e=>by dsimp only at e;omega⟩,own,pO⟩ (k2 u3)
  ·have c':m.d.pc=4:=c
   simp only[ae (show ¬ m.d.pc=3 by omega),af c',d,if_true]at hk
   exact hk O τ same u1 ⟨⟨some q,y,u2,fun e=>by dsimp only at e;omega,fun e=>by dsimp only at e;omega⟩,own,pO⟩ (k2 u3)
 rw[ae (fun q=>Sj (.inl q)),ae (fun q=>Sj (.inr q))]at hk
 by_cases c5:m.d.pc=5
 ·rw[af c5]at hk
  obtain⟨f1,f2⟩:=hf.c5 c5
  refine Wv hN hC hA (a:={ m.d with jA:=x,ov:=y }) hp hd hn c5 S0 hf.w f1 f2 fun q τ q1 q2 u1 u2 u3 u4=>?_
  exact hk (q::O) τ (cons q1) u1 ⟨⟨x,some q,u2,fun e=>by dsimp only at e;omega,fun _=>⟨q,rfl,List.mem_cons_self ..,q2,by simpa using u3⟩⟩,tp (hA.new q1),List.mem_cons_of_mem _ pO⟩ (k1 u4)
 rw[ae c5]at hk
 have c6:m.d.pc=6:=by omega
 obtain⟨q,rfl,qO,qp,gq⟩:=h6 c6
 obtain⟨f1,f2⟩:=hf.g6 c6
 refine Wu hN hC hA (a:={ m.d with jA:=x,ov:=some q }) (g:=m.g) hp hd gq (own q qO) hw hn c6 rfl S0 f1 f2 fun τ u1 u2 u3=>?_
 have bG:=u3.get hp (by simp only[List.mem_cons,not_or];exact⟨fun e=>qp e.symm,hd⟩)
 exact hk O τ same u1 ⟨⟨x,some q,bG,fun e=>by dsimp only at e;omega,fun _=>⟨q,rfl,qO,qp,u2⟩⟩,own,pO⟩ (u3.mono fun i hi=>by
  rcases List.mem_cons.1 hi with rfl|hi
  ·exact List.mem_append_left _ qO
  ·exact List.mem_append_right _ hi)
theorem HR.done{p:Nat}{O:List Nat}{m:Dm}(hA:aZ N A σ)(h:HR N p O m σ)(hk:K (.agg #[.int .i64 m.d.oE,.int .u64 m.d.oH,.int .i64 m.d.oV,.int .i64 m.d.oS]) σ):CK [.pointer (some ⟨p,0,none⟩)] K σ:=by
 obtain⟨⟨x,y,hp,_,_⟩,own,pO⟩:=h
 exact Fi hA (a:={ m.d with jA:=x,ov:=y }) hp hk
theorem Lw{n:Int}{o:Bool}(hA:aZ N A σ)(hk:∀ p τ,σ.get p=none→HR N p [p] (Dm.new n o) τ→Ext σ τ→K (.pointer (some ⟨p,0,none⟩)) τ):CP [.int .u64 n,.bool o] K σ:=by
 refine Hp fun p τ hp gp x=>hk p τ hp ⟨⟨none,none,gp,(fun e=>by rcases e with e|e<;>cases e),(fun e=>by cases e)⟩,fun i hi=>?_,List.mem_singleton.2 rfl⟩ x
 rw[List.mem_singleton.1 hi];exact hA.new hp
theorem Sf(hN:N.ok)(hC:C.ok)(hA:aZ N A σ){n:Int}{o:Bool}(I:Int→Dm→Ar→Prop)(D:Dm→Ar→Prop)(h0:I 0 (Dm.new n o) A)
  (hs:∀ k m A,0≤k→k<200→I k m A→m.fit C A∧(∀ i,0≤A.w i∧A.w i<18446744073709551616)∧C.len≤A.n∧if(m.step C who A).1=true then D (m.step C who A).2.1 (m.step C who A).2.2 else I (k+1) (m.step C who A).2.1 (m.step C who A).2.2)
  (he:∀ m A,I 200 m A→D m A) (hk:∀ m A' τ,D m A'→aZ N A' τ→aQ N.l σ τ→K (.agg #[.int .i64 m.d.oE,.int .u64 m.d.oH,.int .i64 m.d.oV,.int .i64 m.d.oS]) τ) :
  tf [N.env C who,.int .u64 n,.bool o] K σ:=by
 have gs:∀ x y z w:Int,aH 4 [.pointer (some ⟨6,0,some 0⟩),.agg #[.int .i64 x,.int .u64 y,.int .i64 z,.int .i64 w]] [.int .i64 0,.int .u64 0,.int .i64 0,.int .i64 0]=some [.int .i64 x,.int .u64 y,.int .i64 z,.int .i64 w]:=fun _ _ _ _=>rfl
 simp only[tf,P9,aF,bN]
 refine Lw hA fun p τ0 hp ho x0=>?_
 have fin:∀ m A' τ,D m A'→aZ N A' τ→(∃ O,HR N p O m τ)→aQ N.l σ τ→uR K [.pointer (some ⟨p,0,none⟩)] [[.int .i64 0,.int .u64 0,.int .i64 0,.int .i64 0]] τ:=by
  rintro m A' τ hD dL ⟨O,hO⟩ hK
  simp only[uR,wm,aF,bc]
  refine HR.done dL hO ?_
  simp only[gs,uk,aF]
  exact hk m A' τ hD dL hK
 refine uC (fun i=>[.pointer (some ⟨p,0,none⟩),.int .i64 i]) [N.el C who,[.int .i64 0,.int .u64 0,.int .i64 0,.int .i64 0]] 200
  (fun i τ=>∃ m A' O,0≤i∧i≤200∧aZ N A' τ∧I i m A'∧HR N p O m τ∧(∀ j∈O,σ.get j=none)∧aQ N.l σ τ) ?_ ⟨_,A,[p],by omega,by omega,hA.ext x0,h0,ho,fun j hj=>by rw[List.mem_singleton.1 hj];exact hp,x0.aL⟩
 rintro i τ ⟨m,A',O,i0,i1,dL,hI,hO,MT,hK⟩ R hR
 simp only[jL,iR,aF,bc,bN]
 by_cases ci:i<200
 ·simp only[ci,aF]
  obtain⟨hf,hw,hn,kT⟩:=hs i m A' i0 ci hI
  refine Du hN hC dL hO hw hn hf fun O' τ' DT nG Jj m9=>?_
  have E4:aQ N.l σ τ':=by
   intro j b hj yP
   refine m9 j b (hK j b hj yP) fun hm=>?_
   rcases List.mem_append.1 hm with h|h
   ·rw[MT j h]at hj;cases hj
   ·exact yP h
  have Ji:∀ j∈O',σ.get j=none:=by
   intro j hj
   rcases DT j hj with h|h
   ·exact MT j h
   ·cases e:σ.get j with
    | none=>rfl
    | some b=>rw[hK j b e (dL.new h)]at h;cases h
  generalize m.step C who A'=r at *
  obtain⟨d,m',A2⟩:=r
  dsimp only at *
  cases d with
  | true=>
   simp only[aF]at kT ⊢
   exact fin m' A2 τ' kT nG ⟨O',Jj⟩ E4
  | false=>
   simp only[aF]at kT ⊢
   rw[IntWalk.i64_in (i+1) (by omega)]
   exact hR _ ci ⟨m',A2,O',by omega,by omega,nG,kT,Jj,Ji,E4⟩
 ·simp only[ci,aF]
  have:i=200:=by omega
  subst this
  exact fin m A' τ (he _ _ hI) dL ⟨O,hO⟩ hK
end Go.Fl
namespace Go.Fl
open Go
variable{N:Nm}{A B:Ar}{σ:Mem}{K:Value→Mem→Prop}{C:Cf}{who:Int}
structure Am where
 a:Al
 t:Pl
 g:Gv
def Am.new(s:Int)(o:Bool):Am:=⟨Al.new s o,Pl.new 0,⟨0,0,0⟩⟩
def Am.out(m:Am)(A:Ar)(e:Int):Al:={ m.a with oE:=e,oH:=0,oV:=0,oS:=A.s }
def Am.step(C:Cf)(who:Int)(A:Ar)(m:Am):Bool×Am×Ar:=
 if m.a.pc=0 then
  if ai m.a.size<0 then(true,{ m with a:=m.out A 5 },A)else
  let r:=m.a.tk.step C who A
  if r.1=false then(false,{ m with a:={ m.a with tk:=r.2.1 } },r.2.2)
  else if r.2.1.ok=true then(false,{ m with a:={ m.a with tk:=r.2.1,at':=r.2.1.slot,pc:=1 } },r.2.2)
  else(true,{ m with a:={ m.a with tk:=r.2.1,at':=0,pc:=1,oE:=7,oH:=0,oV:=0,oS:=r.2.2.s } },r.2.2)
 else if m.a.pc=1 then
  (false,{ m with a:={ m.a with gen:=b9 (A.w (C.slot m.a.at')),pc:=2 },t:=Pl.new (ai m.a.size) },(A.by who).load (C.slot m.a.at'))
 else if m.a.pc=2 then
  let r:=m.t.step C who A
  if r.1=false then(false,{ m with t:=r.2.1 },r.2.2)
  else if r.2.1.ok=true then(false,{ m with a:={ m.a with sa:=r.2.1.sa,sc:=r.2.1.sc,pc:=3 },t:=r.2.1 },r.2.2)
  else(false,{ m with a:={ m.a with sa:=0,sc:=0,pc:=7,oE:=6,oH:=0,oV:=0,oS:=r.2.2.s },t:=r.2.1,g:=⟨0,m.a.at',0⟩ },r.2.2)
 else if m.a.pc=3 then(false,{ m with a:={ m.a with pc:=4 } },(A.by who).add (C.chunk m.a.sc+1) (aA (ai m.a.size)))
 else if m.a.pc=4 then(false,{ m with a:={ m.a with pc:=5 } },(A.by who).store m.a.sa (aW 1 m.a.size m.a.at' m.a.gen m.a.own))
 else if m.a.pc=5 then
  let A':=(A.by who).store (C.slot m.a.at') (aK 1 m.a.sa m.a.gen 0)
  (false,{ m with a:={ m.a with pc:=6,oE:=0,oH:=bC m.a.at' m.a.gen,oV:=0,oS:=A'.s } },A')
 else if m.a.pc=6 then(true,m,(A.by who).store m.a.sa (aW 2 m.a.size m.a.at' m.a.gen m.a.own))
 else let r:=m.g.step C who A;(r.1,{ m with g:=r.2.1 },r.2.2)
structure Am.fit(C:Cf)(A:Ar)(m:Am):Prop where
 pc:0≤m.a.pc∧m.a.pc≤7
 tk:m.a.pc=0→(0≤m.a.tk.top∧m.a.tk.top<18446744073709551616)∧(m.a.tk.pc=1→0≤m.a.tk.slot∧m.a.tk.slot<C.S)∧0≤m.a.tk.next+1
 cl:m.a.pc≠0→0≤ai m.a.size
 at':m.a.pc≠0→0≤m.a.at'∧m.a.at'<C.S
 pl:m.a.pc=2→m.t.fit C∧A.w (2+m.t.cls)≤C.C
 spot:3≤m.a.pc→m.a.pc≤6→(0≤m.a.sc∧m.a.sc<C.C)∧0≤m.a.sa∧m.a.sa<A.n
 gv:m.a.pc=7→(0≤m.g.top∧m.g.top<18446744073709551616)∧0≤m.g.slot∧m.g.slot<C.S
structure Ob(N:Nm)(p:Nat)(O:List Nat)(m:Am)(τ:Mem):Prop where
 obj:∃ x y,τ.get p=some ⟨({ m.a with p:=x,g:=y }:Al).l,true⟩∧(m.a.pc=2→∃ q,x=some q∧q∈O∧q≠p∧τ.get q=some ⟨[]++m.t.l++[],true⟩) ∧
  (m.a.pc=7→∃ q,y=some q∧q∈O∧q≠p∧τ.get q=some ⟨[]++m.g.l++[],true⟩)
 own:∀ i∈O,i∉N.l
 p:p∈O
theorem BY(hN:N.ok)(hC:C.ok)(hA:aZ N A σ){p:Nat}{O:List Nat}{m:Am}(hO:Ob N p O m σ)(hw:∀ i,0≤A.w i∧A.w i<18446744073709551616)(hn:C.len≤A.n)(hf:m.fit C A)
  (hk:∀ O' τ,(∀ i∈O',i∈O∨σ.get i=none)→aZ N (m.step C who A).2.2 τ→Ob N p O' (m.step C who A).2.1 τ→aQ (O++N.l) σ τ→K (.bool (m.step C who A).1) τ):kQ [.pointer (some ⟨p,0,none⟩),N.env C who] K σ:=by
 obtain⟨⟨x,y,hp,h2,h7⟩,own,pO⟩:=hO
 have hd:=own p pO
 have k1:∀{τ:Mem},aQ (p::N.l) σ τ→aQ (O++N.l) σ τ:=fun k=>k.mono fun i hi=>by
  rcases List.mem_cons.1 hi with rfl|hi
  ·exact List.mem_append_left _ pO
  ·exact List.mem_append_right _ hi
 have same:∀ i∈O,i∈O∨σ.get i=none:=fun i hi=>.inl hi
 have oT:=hf.pc
 unfold Am.step at hk
 by_cases c0:m.a.pc=0
 ·obtain⟨t1,t2,t3⟩:=hf.tk c0
  simp only[af c0]at hk
  refine WV hN hC hA (a:={ m.a with p:=x,g:=y }) hp hd hw hn c0 t1 t2 t3 (fun c τ u1 u2 u3=>?_) (fun c d τ u1 u2 u3=>?_) (fun c d o τ u1 u2 u3=>?_) (fun c d o τ u1 u2 u3=>?_)
  ·rw[af c]at hk
   exact hk O τ same u1 ⟨⟨x,y,u2,fun q=>by dsimp only[Am.out]at q;omega,fun q=>by dsimp only[Am.out]at q;omega⟩,own,pO⟩ (k1 u3)
  ·simp only[ae (show ¬ ai m.a.size<0 from Int.not_lt.2 c),af d]at hk
   exact hk O τ same u1 ⟨⟨x,y,u2,fun q=>by dsimp only at q;omega,fun q=>by dsimp only at q;omega⟩,own,pO⟩ (k1 u3)
  ·simp only[ae (show ¬ ai m.a.size<0 from Int.not_lt.2 c),d,o,Bool.true_eq_false,if_false,if_true]at hk
   exact hk O τ same u1 ⟨⟨x,y,u2,fun q=>by dsimp only at q;omega,fun q=>by dsimp only at q;omega⟩,own,pO⟩ (k1 u3)
  ·simp only[ae (show ¬ ai m.a.size<0 from Int.not_lt.2 c),d,o,Bool.true_eq_false,Bool.false_eq_true,if_false]at hk
   exact hk O τ same u1 ⟨⟨x,y,u2,fun q=>by dsimp only at q;omega,fun q=>by dsimp only at q;omega⟩,own,pO⟩ (k1 u3)
 have bE:=hf.cl c0
 have iM:=hf.at' c0
 by_cases c1:m.a.pc=1
 ·simp only[ae c0,af c1]at hk
  refine WU hN hC hA (a:={ m.a with p:=x,g:=y }) hp hd hw hn c1 iM hp fun q τ q1 q2 u1 u2 u3 u4=>?_
  have hqn:=hA.new q1
  refine hk (q::O) τ (fun i hi=>by rcases List.mem_cons.1 hi with rfl|hi;exact .inr q1;exact .inl hi) u1 ⟨⟨some q,y,u2,fun _=>⟨q,rfl,List.mem_cons_self ..,q2,by simpa using u3⟩,fun e=>by dsimp only at e;omega⟩,fun i hi=>?_,List.mem_cons_of_mem _ pO⟩ (k1 u4)
  rcases List.mem_cons.1 hi with rfl|hi
  ·exact hqn
  ·exact own i hi
 by_cases c2:m.a.pc=2
 ·obtain⟨q,rfl,qO,qp,gq⟩:=h2 c2
  obtain⟨f1,f2⟩:=hf.pl c2
  have k2:∀{τ:Mem},aQ (q::p::N.l) σ τ→aQ (O++N.l) σ τ:=fun k=>k.mono fun i hi=>by
   rcases List.mem_cons.1 hi with rfl|hi
   ·exact List.mem_append_left _ qO
   ·rcases List.mem_cons.1 hi with rfl|hi
    ·exact List.mem_append_left _ pO
    ·exact List.mem_append_right _ hi
  simp only[ae c0,ae c1,af c2]at hk
  refine WT hN hC hA (a:={ m.a with p:=some q,g:=y }) (t:=m.t) hp hd gq (own q qO) qp hw hn c2 rfl f1 f2 (fun d τ u1 u2 u3 u4=>?_) (fun d o τ u1 u2 u3=>?_) (fun d o id τ i1 i2 i3 u1 u2 u3 u4=>?_)
  ·simp only[af d]at hk
   exact hk O τ same u1 ⟨⟨some q,y,u2,fun _=>⟨q,rfl,qO,qp,u3⟩,fun e=>by dsimp only at e;omega⟩,own,pO⟩ (k2 u4)
  ·simp only[d,o,Bool.true_eq_false,if_false,if_true]at hk
   exact hk O τ same u1 ⟨⟨some q,y,u2,fun e=>by dsimp only at e;omega,fun e=>by dsimp only at e;omega⟩,own,pO⟩ (k2 u3)
  ·simp only[d,o,Bool.true_eq_false,Bool.false_eq_true,if_false]at hk
   refine hk (id::O) τ (fun i hi=>by rcases List.mem_cons.1 hi with rfl|hi;exact .inr i1;exact .inl hi) u1 ⟨⟨some q,some id,u2,fun e=>by dsimp only at e;omega,fun _=>⟨id,rfl,List.mem_cons_self ..,i3,by simpa using u3⟩⟩,fun i hi=>?_,List.mem_cons_of_mem _ pO⟩ (k2 u4)
   rcases List.mem_cons.1 hi with rfl|hi
   ·exact i2
   ·exact own i hi
 by_cases c3:m.a.pc=3
 ·obtain⟨s1,s2⟩:=hf.spot (by omega) (by omega)
  simp only[ae c0,ae c1,ae c2,af c3]at hk
  exact WQ hN hC hA (a:={ m.a with p:=x,g:=y }) hp hd hn c3 s1 bE fun τ u1 u2 u3=>hk O τ same u1 ⟨⟨x,y,u2,fun e=>by dsimp only at e;omega,fun e=>by dsimp only at e;omega⟩,own,pO⟩ (k1 u3)
 by_cases c4:m.a.pc=4
 ·obtain⟨s1,s2⟩:=hf.spot (by omega) (by omega)
  simp only[ae c0,ae c1,ae c2,ae c3,af c4]at hk
  exact WO hN hA (a:={ m.a with p:=x,g:=y }) hp hd c4 s2 fun τ u1 u2 u3=>hk O τ same u1 ⟨⟨x,y,u2,fun e=>by dsimp only at e;omega,fun e=>by dsimp only at e;omega⟩,own,pO⟩ (k1 u3)
 by_cases c5:m.a.pc=5
 ·simp only[ae c0,ae c1,ae c2,ae c3,ae c4,af c5]at hk
  exact WN hN hC hA (a:={ m.a with p:=x,g:=y }) hp hd hn c5 iM fun τ u1 u2 u3=>hk O τ same u1 ⟨⟨x,y,u2,fun e=>by dsimp only at e;omega,fun e=>by dsimp only at e;omega⟩,own,pO⟩ (k1 u3)
 by_cases c6:m.a.pc=6
 ·obtain⟨s1,s2⟩:=hf.spot (by omega) (by omega)
  simp only[ae c0,ae c1,ae c2,ae c3,ae c4,ae c5,af c6]at hk
  exact WM hN hA (a:={ m.a with p:=x,g:=y }) hp hd c6 s2 fun τ u1 u2 u3=>hk O τ same u1 ⟨⟨x,y,u2,fun e=>by omega,fun e=>by omega⟩,own,pO⟩ (k1 u3)
 have c7:m.a.pc=7:=by omega
 obtain⟨q,rfl,qO,qp,gq⟩:=h7 c7
 obtain⟨f1,f2⟩:=hf.gv c7
 simp only[ae c0,ae c1,ae c2,ae c3,ae c4,ae c5,ae c6]at hk
 refine WL hN hC hA (a:={ m.a with p:=x,g:=some q }) (g:=m.g) hp gq (own q qO) hw hn c7 rfl f1 f2 fun τ u1 u2 u3=>?_
 have bG:=u3.get hp (by simp only[List.mem_cons,not_or];exact⟨fun e=>qp e.symm,hd⟩)
 exact hk O τ same u1 ⟨⟨x,some q,bG,fun e=>by dsimp only at e;omega,fun _=>⟨q,rfl,qO,qp,u2⟩⟩,own,pO⟩ (u3.mono fun i hi=>by
  rcases List.mem_cons.1 hi with rfl|hi
  ·exact List.mem_append_left _ qO
  ·exact List.mem_append_right _ hi)
end Go.Fl
namespace Go.Fl
open Go
variable{N:Nm}{A B:Ar}{σ:Mem}{K:Value→Mem→Prop}{C:Cf}{who:Int}
theorem Ob.done{p:Nat}{O:List Nat}{m:Am}(hA:aZ N A σ)(h:Ob N p O m σ)(hk:K (.agg #[.int .i64 m.a.oE,.int .u64 m.a.oH,.int .i64 m.a.oV,.int .i64 m.a.oS]) σ):CN [.pointer (some ⟨p,0,none⟩)] K σ:=by
 obtain⟨⟨x,y,hp,_,_⟩,own,pO⟩:=h
 exact Dy hA (a:={ m.a with p:=x,g:=y }) hp (own p pO) hk
theorem Rf{s:Int}{o:Bool}(hA:aZ N A σ)(hk:∀ p τ,σ.get p=none→Ob N p [p] (Am.new s o) τ→Ext σ τ→K (.pointer (some ⟨p,0,none⟩)) τ):CL [.int .i64 s,.bool o] K σ:=by
 refine Fj fun p τ hp gp x=>hk p τ hp ⟨⟨none,none,gp,(fun e=>by cases e),(fun e=>by cases e)⟩,fun i hi=>?_,List.mem_singleton.2 rfl⟩ x
 rw[List.mem_singleton.1 hi];exact hA.new hp
theorem JR(hN:N.ok)(hC:C.ok)(hA:aZ N A σ){s:Int}{o:Bool}(I:Int→Am→Ar→Prop)(D:Am→Ar→Prop)(h0:I 0 (Am.new s o) A)
  (hs:∀ k m A,0≤k→k<400→I k m A→m.fit C A∧(∀ i,0≤A.w i∧A.w i<18446744073709551616)∧C.len≤A.n∧if(m.step C who A).1=true then D (m.step C who A).2.1 (m.step C who A).2.2 else I (k+1) (m.step C who A).2.1 (m.step C who A).2.2)
  (he:∀ m A,I 400 m A→D m A) (hk:∀ m A' τ,D m A'→aZ N A' τ→aQ N.l σ τ→K (.agg #[.int .i64 m.a.oE,.int .u64 m.a.oH,.int .i64 m.a.oV,.int .i64 m.a.oS]) τ) :
  tj [N.env C who,.int .i64 s,.bool o] K σ:=by
 have gs:∀ x y z w:Int,aH 4 [.pointer (some ⟨6,0,some 0⟩),.agg #[.int .i64 x,.int .u64 y,.int .i64 z,.int .i64 w]] [.int .i64 0,.int .u64 0,.int .i64 0,.int .i64 0]=some [.int .i64 x,.int .u64 y,.int .i64 z,.int .i64 w]:=fun _ _ _ _=>rfl
 simp only[tj,QD,aF,bN]
 refine Rf hA fun p τ0 hp ho x0=>?_
 have fin:∀ m A' τ,D m A'→aZ N A' τ→(∃ O,Ob N p O m τ)→aQ N.l σ τ→u9 K [.pointer (some ⟨p,0,none⟩)] [[.int .i64 0,.int .u64 0,.int .i64 0,.int .i64 0]] τ:=by
  rintro m A' τ hD dL ⟨O,hO⟩ hK
  simp only[u9,wK,aF,bc]
  refine Ob.done dL hO ?_
  simp only[gs,uk,aF]
  exact hk m A' τ hD dL hK
 refine uC (fun i=>[.pointer (some ⟨p,0,none⟩),.int .i64 i]) [N.el C who,[.int .i64 0,.int .u64 0,.int .i64 0,.int .i64 0]] 400
  (fun i τ=>∃ m A' O,0≤i∧i≤400∧aZ N A' τ∧I i m A'∧Ob N p O m τ∧(∀ j∈O,σ.get j=none)∧aQ N.l σ τ) ?_ ⟨_,A,[p],by omega,by omega,hA.ext x0,h0,ho,fun j hj=>by rw[List.mem_singleton.1 hj];exact hp,x0.aL⟩
 rintro i τ ⟨m,A',O,i0,i1,dL,hI,hO,MT,hK⟩ R hR
 simp only[jM,iS,aF,bc,bN]
 by_cases ci:i<400
 ·simp only[ci,aF]
  obtain⟨hf,hw,hn,kT⟩:=hs i m A' i0 ci hI
  refine BY hN hC dL hO hw hn hf fun O' τ' DT nG Jj m9=>?_
  have E4:aQ N.l σ τ':=by
   intro j b hj yP
   refine m9 j b (hK j b hj yP) fun hm=>?_
   rcases List.mem_append.1 hm with h|h
   ·rw[MT j h]at hj;cases hj
   ·exact yP h
  have Ji:∀ j∈O',σ.get j=none:=by
   intro j hj
   rcases DT j hj with h|h
   ·exact MT j h
   ·cases e:σ.get j with
    | none=>rfl
    | some b=>rw[hK j b e (dL.new h)]at h;cases h
  generalize m.step C who A'=r at *
  obtain⟨d,m',A2⟩:=r
  dsimp only at *
  cases d with
  | true=>
   simp only[aF]at kT ⊢
   exact fin m' A2 τ' kT nG ⟨O',Jj⟩ E4
  | false=>
   simp only[aF]at kT ⊢
   rw[IntWalk.i64_in (i+1) (by omega)]
   exact hR _ ci ⟨m',A2,O',by omega,by omega,nG,kT,Jj,Ji,E4⟩
 ·simp only[ci,aF]
  have:i=400:=by omega
  subst this
  exact fin m A' τ (he _ _ hI) dL ⟨O,hO⟩ hK
end Go.Fl
namespace Go.Fl
open Go
variable{N:Nm}{A B:Ar}{σ:Mem}{K:Value→Mem→Prop}{C:Cf}{who:Int}
structure ud(C:Cf)(o u:Int→Int)(nx:Int)(w:Int→Int):Prop where
 bd:0≤nx∧nx≤C.C
 op:∀ c,0≤c→c≤3→w (2+c)=o c+1 ∧ -1≤o c∧o c<nx
 cls:∀ c,0≤c→c≤3→0≤o c→bL (w (C.chunk (o c)))=c
 old:∀ j,0≤j→j<nx→bF (w (C.chunk j))=1∧bD (w (C.chunk j))=u j∧0≤u j∧u j≤C.W
 new:∀ j,nx≤j→j<C.C→w (C.chunk j)=0∧u j=0
def bP(C:Cf)(o u:Int→Int)(c:Int):Prop:=0≤o c∧u (o c)+aA c≤C.W
theorem ud.take(hC:C.ok){o u w:Int→Int}{nx c:Int}(h:ud C o u nx w)(c0:0≤c)(c3:c≤3)(hn:nx<C.C) :
  ud C (aX o c nx) u (nx+1) (aX (aX w (C.chunk nx) (aR 1 c 0 1)) (2+c) (nx+1)):=by
 have hW:=hC.W
 obtain⟨p1,p2,p3,p4⟩:=lF (st:=1) (c:=c) (us:=0) (sp:=1) (by omega) (by omega) (by omega) (by omega)
 have wc:∀ j,0≤j→j≠nx→aX (aX w (C.chunk nx) (aR 1 c 0 1)) (2+c) (nx+1) (C.chunk j)=w (C.chunk j):=by
  intro j j0 hj
  rw[az _ _ (oy hC j0 c3),az _ _ (fun e=>hj (ml e))]
 have wn:aX (aX w (C.chunk nx) (aR 1 c 0 1)) (2+c) (nx+1) (C.chunk nx)=aR 1 c 0 1:=by
  rw[az _ _ (oy hC h.bd.1 c3),aE]
 have un:=(h.new nx (Int.le_refl _) hn).2
 refine⟨⟨by have:=h.bd;omega,by omega⟩,fun k k0 k3=>?_,fun k k0 k3 hk=>?_,fun j j0 j1=>?_,fun j j0 j1=>?_⟩
 ·by_cases e:k=c
  ·subst e;rw[aE,aE];have:=h.bd;omega
  ·rw[az _ _ (by omega),az _ _ (fun q=>oy hC h.bd.1 k3 q.symm),az _ _ e]
   have:=h.op k k0 k3;omega
 ·by_cases e:k=c
  ·subst e;rw[aE]at hk ⊢;rw[wn];exact p2
  ·rw[az _ _ e]at hk ⊢
   have:=h.op k k0 k3
   rw[wc _ hk (by omega)];exact h.cls k k0 k3 hk
 ·by_cases e:j=nx
  ·subst e;rw[wn,un];exact⟨p1,p3,by omega,by omega⟩
  ·rw[wc _ j0 e];exact h.old j j0 (by omega)
 ·have:=h.bd
  rw[wc _ (by omega) (by omega)];exact h.new j (by omega) j1
theorem ud.ov(hC:C.ok){o u w:Int→Int}{nx c:Int}(h:ud C o u nx w)(c0:0≤c)(c3:c≤3)(hg:bP C o u c) :
  ud C o (aX u (o c) (u (o c)+aA c)) nx (aX w (C.chunk (o c)) (aR (bF (w (C.chunk (o c)))) (bL (w (C.chunk (o c)))) (bD (w (C.chunk (o c)))+aA c) (eM (w (C.chunk (o c)))))):=by
 have hW:=hC.W
 have ho:=h.op c c0 c3
 have hold:=h.old (o c) hg.1 ho.2.2
 have hr:=bR c0 c3
 have XE:=hg.2
 have bE:=h.cls c c0 c3 hg.1
 obtain⟨p1,p2,p3,p4⟩:=lF (Fb (w (C.chunk (o c)))) (xV (w (C.chunk (o c)))) (us:=bD (w (C.chunk (o c)))+aA c) (by have:=hold.2.1;omega) (jT (w (C.chunk (o c))))
 refine⟨h.bd,fun k k0 k3=>?_,fun k k0 k3 hk=>?_,fun j j0 j1=>?_,fun j j0 j1=>?_⟩
 ·rw[az _ _ (fun q=>oy hC hg.1 k3 q.symm)];exact h.op k k0 k3
 ·have:=h.cls k k0 k3 hk
  by_cases e:o k=o c
  ·rw[e,aE,p2,bE,←this,e,bE]
  ·rw[az _ _ (fun q=>e (ml q))];exact this
 ·by_cases e:j=o c
  ·subst e;rw[aE,aE,p1,p3,hold.1,hold.2.1];omega
  ·rw[az _ _ (fun q=>e (ml q)),az _ _ e];exact h.old j j0 j1
 ·rw[az _ _ (fun q=>by have:=ml q;omega),az _ _ (by omega)];exact h.new j j0 j1
def Ph(C : Cf)(o u : Int → Int)(nx c k : Int)(p : Pl)(w : Int → Int) : Prop :=
  p.ok = false ∧ p.cls = c ∧ (
    (bP C o u c ∧ ud C o u nx w ∨ ¬ bP C o u c ∧ nx < C.C ∧ bP C (aX o c nx) u c ∧ ud C (aX o c nx) u (nx + 1) w) ∧
      (let j := w (2 + c)-1
       p.pc = 0 ∧ k ≤ C.C + 8 ∨ p.pc = 1 ∧ p.at' = j ∧ k ≤ C.C + 9 ∨ p.pc = 2 ∧ p.at' = j ∧ p.w = w (C.chunk j) ∧ k ≤ C.C + 10) ∨
    ¬ bP C o u c ∧ (ud C o u nx w ∧ (p.pc = 0 ∧ k ≤ 0 ∨ p.k_ = w (2 + c) ∧
        (p.pc = 1 ∧ p.at' = o c ∧ 0 ≤ o c ∧ k ≤ 1 ∨ p.pc = 3 ∧ p.at' ≤ nx ∧ k ≤ 2 + p.at' ∨ p.pc = 4 ∧ p.at' = nx ∧ p.w = 0 ∧ k ≤ C.C + 6)) ∨
      p.pc = 5 ∧ p.at' = nx ∧ nx < C.C ∧ p.w = 0 ∧ k ≤ C.C + 7 ∧ ∃ w0, ud C o u nx w0 ∧ p.k_ = w0 (2 + c) ∧ w = aX w0 (C.chunk nx) (aR 1 c 0 1)))
def Dn(C:Cf)(o u:Int→Int)(nx c:Int)(p:Pl)(w:Int→Int):Prop:=
 (bP C o u c∧p.ok=true∧p.sa=C.base (o c)+u (o c)∧p.sc=o c∧ud C o (aX u (o c) (u (o c)+aA c)) nx w) ∨
 (¬ bP C o u c∧nx<C.C∧p.ok=true∧p.sa=C.base nx+u nx∧p.sc=nx∧ud C (aX o c nx) (aX u nx (u nx+aA c)) (nx+1) w) ∨
 (¬ bP C o u c∧nx=C.C∧p.ok=false∧ud C o u nx w)
theorem Ph.step(hC:C.ok){o u:Int→Int}{nx c k b:Int}{p:Pl}(c0:0≤c)(c3:c≤3)(ok:A.ok b)(hb:b<4611686018427387904)(hf:p.fit C)(h:Ph C o u nx c k p A.w) :
  if(p.step C who A).1=true then Dn C o u nx c (p.step C who A).2.1 (p.step C who A).2.2.w else Ph C o u nx c (k+1) (p.step C who A).2.1 (p.step C who A).2.2.w:=by
 obtain⟨ho,bE,h⟩:=h
 have ma:=hC.C
 have hr:=bR c0 c3
 have hf3:=hf.at'
 subst bE
 rcases h with⟨hA,h⟩|⟨hg,h⟩
 ·
  obtain⟨o1,nx1,m_,MO,aaS⟩:∃ o1 nx1,ud C o1 u nx1 A.w∧bP C o1 u p.cls∧∀ q:Pl,q.ok=true→q.sa=C.base (o1 p.cls)+u (o1 p.cls)→q.sc=o1 p.cls→∀ w',ud C o1 (aX u (o1 p.cls) (u (o1 p.cls)+aA p.cls)) nx1 w'→Dn C o u nx p.cls q w':=by
   rcases hA with⟨g,a⟩|⟨g,n,g',a⟩
   ·exact⟨o,nx,a,g,fun q q1 q2 q3 w' h=>.inl ⟨g,q1,q2,q3,h⟩⟩
   ·refine⟨aX o p.cls nx,nx+1,a,g',fun q q1 q2 q3 w' h=>.inr (.inl ⟨g,n,q1,?_,?_,?_⟩)⟩
    ·rw[q2,aE]
    ·rw[q3,aE]
    ·rw[aE]at h;exact h
  have qd:=m_.op p.cls c0 c3
  have hold:=m_.old (o1 p.cls) MO.1 qd.2.2
  have hc:=m_.cls p.cls c0 c3 MO.1
  have F6:=m_.bd
  have XE:=MO.2
  have hj:A.w (2+p.cls)-1=o1 p.cls:=by omega
  have hj0:=MO.1
  dsimp only at h
  have GZ:IntKind.i64.wrap (A.w (2+p.cls))=A.w (2+p.cls):=IntWalk.i64_in _ (by omega)
  rcases h with⟨h1,hk⟩|⟨h1,h2,hk⟩|⟨h1,h2,h3,hk⟩
  ·rw[Pl.s0b h1 (by rw[GZ];omega),GZ]
   exact A7 ⟨ho,rfl,.inl ⟨hA,.inr (.inl ⟨rfl,rfl,by omega⟩)⟩⟩
  ·have Ll:=h2.trans hj
   rw[Pl.s1b h1 (by rw[Ll];omega)]
   refine A7 ⟨ho,rfl,.inl ⟨hA,.inr (.inr ⟨rfl,h2,?_,by omega⟩)⟩⟩
   show A.w (C.chunk p.at')=A.w (C.chunk (A.w (2+p.cls)-1));rw[h2]
  ·have Ll:=h2.trans hj
   have XL:A.w (C.chunk p.at')=p.w:=by rw[h3,h2]
   have a1:=dy (who:=who) (A:=A) (a:=C.chunk p.at') (o:=p.w) (v:=aR (bF p.w) (bL p.w) (bD p.w+aA p.cls) (eM p.w)) ok (by omega)
   rw[af XL]at a1
   rw[Pl.s2a h1 XL]
   refine TQ (aaS _ rfl ?_ Ll _ ?_)
   ·show C.base p.at'+bD p.w=_
    rw[←XL,Ll,hold.2.1]
   ·rw[a1.w,←XL,Ll];exact m_.ov hC c0 c3 MO
 rcases h with⟨hA,h⟩|⟨h1,h2,h3,h4,hk,w0,hA,h5,h6⟩
 ·have qd:=hA.op p.cls c0 c3
  have RG:=hA.bd
  have GZ:IntKind.i64.wrap (A.w (2+p.cls))=A.w (2+p.cls):=IntWalk.i64_in _ (by omega)
  rcases h with⟨h1,hk⟩|⟨K5,⟨h1,h2,h3,hk⟩|⟨h1,h2,hk⟩|⟨h1,h2,h3,hk⟩⟩
  ·by_cases e:A.w (2+p.cls)-1<0
   ·rw[Pl.s0a h1 (by rw[GZ];exact e)]
    exact A7 ⟨ho,rfl,.inr ⟨hg,.inl ⟨hA,.inr ⟨rfl,.inr (.inl ⟨rfl,RG.1,by show k+1≤2+0;omega⟩)⟩⟩⟩⟩
   ·rw[Pl.s0b h1 (by rw[GZ];exact e),GZ]
    exact A7 ⟨ho,rfl,.inr ⟨hg,.inl ⟨hA,.inr ⟨rfl,.inl ⟨rfl,by show A.w (2+p.cls)-1=_;omega,by omega,by omega⟩⟩⟩⟩⟩
  ·have hold:=hA.old (o p.cls) h3 qd.2.2
   have SY:¬(u (o p.cls)+aA p.cls≤C.W):=fun q=>hg ⟨h3,q⟩
   rw[Pl.s1a h1 (by rw[h2];omega)]
   exact A7 ⟨ho,rfl,.inr ⟨hg,.inl ⟨hA,.inr ⟨K5,.inr (.inl ⟨rfl,RG.1,by show k+1≤2+0;omega⟩)⟩⟩⟩⟩
  ·by_cases e:p.at'=nx
   ·have hz:=(hA.new nx (Int.le_refl _) (by omega)).1
    rw[Pl.s3b h1 (by rw[e,hz];decide)]
    exact A7 ⟨ho,rfl,.inr ⟨hg,.inl ⟨hA,.inr ⟨K5,.inr (.inr ⟨rfl,e,by show A.w (C.chunk p.at')=0;rw[e,hz],by omega⟩)⟩⟩⟩⟩
   ·have hold:=hA.old p.at' hf3.1 (by omega)
    rw[Pl.s3a h1 (by omega)]
    by_cases e2:C.C≤p.at'+1
    ·rw[decide_eq_true e2]
     exact TQ (.inr (.inr ⟨hg,by omega,ho,hA⟩))
    ·rw[decide_eq_false e2]
     exact A7 ⟨ho,rfl,.inr ⟨hg,.inl ⟨hA,.inr ⟨K5,.inr (.inl ⟨rfl,by show p.at'+1≤nx;omega,by show k+1≤2+(p.at'+1);omega⟩)⟩⟩⟩⟩
  ·have hz:=(hA.new nx (Int.le_refl _) (by omega)).1
   have SS:A.w (C.chunk p.at')=p.w:=by rw[h2,hz,h3]
   rw[Pl.s4a h1 SS]
   have a1:=dy (who:=who) (A:=A) (a:=C.chunk p.at') (o:=p.w) (v:=p.fresh) ok (by omega)
   rw[af SS]at a1
   refine A7 ⟨ho,rfl,.inr ⟨hg,.inr ⟨rfl,h2,by omega,h3,by omega,A.w,hA,K5,?_⟩⟩⟩
   rw[a1.w]
   have:p.fresh=aR 1 p.cls 0 1:=by unfold Pl.fresh;rw[h3];rfl
   rw[this,h2]
 ·have e:A.w (2+p.cls)=p.k_:=by rw[h6,az _ _ (fun q=>oy hC hA.bd.1 c3 q.symm),h5]
  rw[Pl.s5a h1 e]
  have a1:=dy (who:=who) (A:=A) (a:=2+p.cls) (o:=p.k_) (v:=p.at'+1) ok (by omega)
  rw[af e]at a1
  rw[a1.w,h6,h2]
  have hu:=(hA.new nx (Int.le_refl _) h3).2
  have hW:=hC.W
  exact A7 ⟨ho,rfl,.inl ⟨.inr ⟨hg,h3,⟨by rw[aE];exact hA.bd.1,by rw[aE,hu];omega⟩,hA.take hC c0 c3 h3⟩,.inl ⟨rfl,by omega⟩⟩⟩
end Go.Fl
namespace Go.Fl
open Go
variable{N:Nm}{A B:Ar}{σ:Mem}{K:Value→Mem→Prop}{C:Cf}{who:Int}
theorem Tk.y5{a b c:Int}{d:Bool}:(Tk.mk 0 a b c d).step C who A=(decide (dO (A.w 1)<0),⟨1,A.w 1,b,dO (A.w 1),d⟩,(A.by who).load 1):=nr rfl
theorem Tk.FN{a b c:Int}{d:Bool}:(Tk.mk 1 a b c d).step C who A=(d,⟨2,a,dO (A.w (C.slot c+1)),c,d⟩,(A.by who).load (C.slot c+1)):=nr rfl
theorem Tk.yZ{a b c:Int}{d:Bool}:(Tk.mk 2 a b c d).step C who A=(decide (A.w 1=a),⟨0,a,b,c,decide (A.w 1=a)⟩,(A.by who).dI 1 a (bV b (lx a+1))):=nr rfl
theorem KC(w:Int)(h:0≤w) : -1≤dO w:=by unfold dO;omega
def tN(C:Cf)(w:Int→Int):Int→Int:=aX w 1 (bV (dO (w (C.slot (dO (w 1))+1))) (lx (w 1)+1))
theorem Gv.y5{a b:Int}:(Gv.mk 0 a b).step C who A=(false,⟨1,a,A.w 1⟩,(A.by who).load 1):=nr rfl
theorem Gv.FN{a b:Int}:(Gv.mk 1 a b).step C who A=(false,⟨2,a,b⟩,(A.by who).store (C.slot a+1) (bV (dO b) 0)):=nr rfl
theorem Gv.yZ{a b:Int}:(Gv.mk 2 a b).step C who A=(decide (A.w 1=b),⟨0,a,b⟩,(A.by who).dI 1 b (bV a (lx b+1))):=nr rfl
def pE(C:Cf)(s:Int)(w:Int→Int):Int→Int:=aX (aX w (C.slot s+1) (bV (dO (w 1)) 0)) 1 (bV s (lx (w 1)+1))
def HF(C:Cf)(w:Int→Int):Int→List Int→Prop
 | f,[]=>f = -1
 | f,s::l=>f=s∧0≤s∧s<C.S∧HF C w (dO (w (C.slot s+1))) l
structure HQ(C:Cf)(w:Int→Int)(l:List Int):Prop where
 c:HF C w (dO (w 1)) l
 nd:l.Nodup
theorem lV{s c:Int}(h0 : -1≤s)(h1:s≤65535):dO (bV s c)=s:=by unfold dO bV cl;omega
theorem HF.mem{w:Int→Int}:∀{l:List Int} {f:Int},HF C w f l→∀ s∈l,0≤s∧s<C.S
 | [],_,_,s,h=>by cases h
 | x::l,f,hc,s,h=>by
  rcases List.mem_cons.1 h with rfl|h
  ·exact⟨hc.2.1,hc.2.2.1⟩
  ·exact HF.mem hc.2.2.2 s h
theorem HF.congr{w w':Int→Int}:∀{l:List Int} {f:Int},HF C w f l→(∀ s∈l,dO (w' (C.slot s+1))=dO (w (C.slot s+1)))→HF C w' f l
 | [],_,h,_=>h
 | x::l,f,hc,h=>⟨hc.1,hc.2.1,hc.2.2.1,by rw[h x (by simp)];exact HF.congr hc.2.2.2 fun s hs=>h s (by simp[hs])⟩
theorem HF.first{w:Int→Int}{l:List Int}{f:Int}(h:HF C w f l) : -1≤f∧f<C.S∨C.S<0:=by
 cases l with
 | nil=>unfold HF at h;omega
 | cons x l=>have:=h.1;have:=h.2.1;have:=h.2.2.1;omega
theorem Iv(C:Cf){s t:Int}(h:C.slot s+1=C.slot t+1):s=t:=by unfold Cf.slot at h;omega
theorem HQ.Q1(hC:C.ok){w:Int→Int}{s:Int}{l:List Int}(h:HQ C w (s::l)):HQ C (tN C w) l∧dO (w 1)=s:=by
 have hT:=hC.T
 have hS:=hC.S
 have h1:=h.c.1
 have h2:=h.c.2.2.2
 refine⟨⟨?_,(List.nodup_cons.1 h.nd).2⟩,h1⟩
 have hf:=h2.first
 have e:dO (tN C w 1)=dO (w (C.slot s+1)):=by
  unfold tN;rw[aE,h1,lV (by omega) (by omega)]
 rw[e]
 refine h2.congr fun t ht=>?_
 unfold tN
 rw[az]
 have:=h2.mem t ht
 unfold Cf.slot;omega
theorem HQ.Lm(hC:C.ok){w:Int→Int}{s:Int}{l:List Int}(h:HQ C w l)(hs:0≤s∧s<C.S)(hn:s∉l):HQ C (pE C s w) (s::l):=by
 have hT:=hC.T
 have hS:=hC.S
 have hf:=h.c.first
 have e0:pE C s w 1=bV s (lx (w 1)+1):=aE _ _ _
 have e1:pE C s w (C.slot s+1)=bV (dO (w 1)) 0:=by
  unfold pE;rw[az _ _ (by unfold Cf.slot;omega),aE]
 refine⟨⟨by rw[e0,lV (by omega) (by omega)],hs.1,hs.2,?_⟩,List.nodup_cons.2 ⟨hn,h.nd⟩⟩
 rw[e1,lV (by omega) (by omega)]
 refine h.c.congr fun t ht=>?_
 have:=h.c.mem t ht
 unfold pE
 rw[az _ _ (by unfold Cf.slot;omega),az]
 intro e
 have:=Iv C e
 subst this;exact hn ht
def B7(i:Int):Nat→List Int
 | 0=>[]
 | n+1=>i::B7 (i+1) n
theorem FH:∀{n:Nat} {i s:Int},s∈B7 i n ↔ i≤s∧s<i+n
 | 0,i,s=>by simp[B7]
 | n+1,i,s=>by
  simp only[B7,List.mem_cons,FH (n:=n)];omega
theorem yW:∀{n:Nat} {i:Int},(B7 i n).Nodup
 | 0,i=>by simp[B7]
 | n+1,i=>by
  refine List.nodup_cons.2 ⟨fun h=>?_,yW⟩
  have:=(FH (n:=n)).1 h
  omega
theorem KA(hC:C.ok){s:Int}(h0:0≤s)(h1:s<C.S):dO (C.w0 (C.slot s+1))=if s=C.S-1 then -1 else s+1:=by
 have hT:=hC.T
 have hS:=hC.S
 unfold Cf.w0
 rw[ae (by unfold Cf.slot;omega)]
 by_cases e:s=C.S-1
 ·rw[af (by rw[e]),af e,lV (by omega) (by omega)]
 ·rw[ae (by unfold Cf.slot;omega),ae e]
  unfold Cf.fr Cf.slot
  rw[af (by omega),ae (by omega),lV (by omega) (by omega)]
  omega
theorem aa1(hC:C.ok):HQ C C.w0 (B7 0 C.S.toNat):=by
 have hS:=hC.S
 refine⟨?_,yW⟩
 have e:dO (C.w0 1)=0:=by unfold Cf.w0;rw[af rfl,lV (by omega) (by omega)]
 rw[e]
 have key:∀(n:Nat) (i:Int),0≤i→i+n=C.S→HF C C.w0 (if i=C.S then -1 else i) (B7 i n):=by
  intro n
  induction n with
  | zero=>intro i _ h;rw[af (by omega)];rfl
  | succ n ih=>
   intro i h0 h
   rw[ae (by omega)]
   refine⟨rfl,h0,by omega,?_⟩
   rw[KA hC h0 (by omega)]
   have:=ih (i+1) (by omega) (by omega)
   by_cases q:i=C.S-1
   ·rw[af (by omega)]at this;rw[af q];exact this
   ·rw[ae (by omega)]at this;rw[ae q];exact this
 have:=key C.S.toNat 0 (by omega) (by omega)
 rwa [ae (by omega)]at this
end Go.Fl
namespace Go.Fl
open Go
variable{N:Nm}{A B:Ar}{σ:Mem}{K:Value→Mem→Prop}{C:Cf}{who:Int}
theorem ud.congr{o u w w':Int→Int}{nx:Int}(h:ud C o u nx w)(h1:∀ c,0≤c→c≤3→w' (2+c)=w (2+c))(h2:∀ j,0≤j→j<C.C→w' (C.chunk j)=w (C.chunk j)):ud C o u nx w':=by
 have hb:=h.bd
 refine⟨h.bd,fun c c0 c3=>by rw[h1 c c0 c3];exact h.op c c0 c3,fun c c0 c3 hc=>?_,fun j j0 j1=>by rw[h2 j j0 (by omega)];exact h.old j j0 j1,fun j j0 j1=>by rw[h2 j (by omega) j1];exact h.new j j0 j1⟩
 have:=h.op c c0 c3
 rw[h2 _ hc (by omega)];exact h.cls c c0 c3 hc
theorem HQ.congr{F:List Int}{w w':Int→Int}(h:HQ C w F)(h1:w' 1=w 1)(h2:∀ s,0≤s→s<C.S→w' (C.slot s+1)=w (C.slot s+1)):HQ C w' F:=
 ⟨by rw[h1];exact h.c.congr fun s hs=>by have:=h.c.mem s hs;rw[h2 s this.1 this.2],h.nd⟩
structure Aw(C:Cf)(F:List Int)(o u lv:Int→Int)(nx:Int)(w:Int→Int):Prop where
 yq:HQ C w F
 jJ:ud C o u nx w
 live:∀ j,0≤j→j<C.C→w (C.chunk j+1)=lv j
 nil:∀ j i,0≤j→j<C.C→u j≤i→i<C.W→w (C.base j+i)=0
theorem b6(hC:C.ok){j i:Int}(j0:0≤j)(j1:j<C.C)(i0:0≤i)(i1:i<C.W):qz C (C.base j+i)=j∧0≤C.base j+i∧C.base j+i<C.len:=by
 have hW:=hC.W
 have hT:=hC.T
 have hS:=hC.S
 have ma:=hC.C
 have hm:=EP hC j0 (by omega)
 have hm2:C.W*(j+1)≤C.W*C.C:=Int.mul_le_mul_of_nonneg_left (by omega) (by omega)
 rw[Int.mul_add,Int.mul_one]at hm2
 have e0:C.base 0=6+C.T+2*C.S+3*C.C:=by unfold Cf.base;omega
 have ej:C.base j=6+C.T+2*C.S+3*C.C+C.W*j:=rfl
 have el:C.len=6+C.T+2*C.S+3*C.C+C.W*C.C:=rfl
 refine⟨?_,by omega,by omega⟩
 unfold qz
 rw[af (by omega),show C.base j+i-C.base 0=i+C.W*j by omega,Int.add_mul_ediv_left _ _ (by omega),Int.ediv_eq_zero_of_lt i0 i1]
 omega
theorem bW(hC:C.ok){j i k l:Int}(j0:0≤j)(j1:j<C.C)(i0:0≤i)(i1:i<C.W)(k0:0≤k)(k1:k<C.C)(l0:0≤l)(l1:l<C.W)(h:C.base j+i=C.base k+l):j=k∧i=l:=by
 have a:=(b6 hC j0 j1 i0 i1).1
 have b:=(b6 hC k0 k1 l0 l1).1
 rw[h,b]at a
 subst a
 exact⟨rfl,by omega⟩
theorem a_(hC:C.ok){j i:Int}(j0:0≤j)(j1:j<C.C)(i0:0≤i):6+C.T+2*C.S+3*C.C≤C.base j+i:=by
 have:=EP hC j0 (by have:=hC.C;omega)
 unfold Cf.base;omega
section
variable{F:List Int}{o u lv w w':Int→Int}{nx:Int}
theorem Aw.aL(hC : C.ok)(h : Aw C F o u lv nx w)(h1 : ∀ a, a = 1 ∨ (2 ≤ a ∧ a < 6) ∨ (∃ s, 0 ≤ s ∧ s < C.S ∧ a = C.slot s + 1) ∨ (∃ j, 0 ≤ j ∧ j < C.C ∧ (a = C.chunk j ∨ a = C.chunk j + 1)) ∨ (∃ j i, 0 ≤ j ∧ j < C.C ∧ u j ≤ i ∧ i < C.W ∧ a = C.base j + i) → w' a = w a) : Aw C F o u lv nx w' :=
  ⟨h.yq.congr (h1 1 (.inl rfl)) fun s s0 s1 => h1 _ (.inr (.inr (.inl ⟨s, s0, s1, rfl⟩))),
   h.jJ.congr (fun c c0 c3 => h1 _ (.inr (.inl ⟨by omega, by omega⟩))) fun j j0 j1 => h1 _ (.inr (.inr (.inr (.inl ⟨j, j0, j1, .inl rfl⟩)))),
   fun j j0 j1 => by rw[h1 _ (.inr (.inr (.inr (.inl ⟨j, j0, j1, .inr rfl⟩))))];exact h.live j j0 j1,
   fun j i j0 j1 i0 i1 => by rw[h1 _ (.inr (.inr (.inr (.inr ⟨j, i, j0, j1, i0, i1, rfl⟩))))];exact h.nil j i j0 j1 i0 i1⟩
theorem Aw.u0(h:Aw C F o u lv nx w){j:Int}(j0:0≤j)(j1:j<C.C):0≤u j:=by
 by_cases e:j<nx
 ·exact(h.jJ.old j j0 e).2.2.1
 ·rw[(h.jJ.new j (by omega) j1).2];exact Int.le_refl 0
theorem Aw.Iu(hC:C.ok)(h:Aw C F o u lv nx w){s v:Int}(s0:0≤s)(s1:s<C.S):Aw C F o u lv nx (aX w (C.slot s) v):=by
 have hT:=hC.T
 refine h.aL hC fun a ha=>az _ _ ?_
 have e:C.slot s=6+C.T+2*s:=rfl
 rcases ha with ha|ha|⟨t,t0,t1,ha⟩|⟨j,j0,j1,ha⟩|⟨j,i,j0,j1,i0,i1,ha⟩
 ·omega
 ·omega
 ·have:C.slot t=6+C.T+2*t:=rfl
  omega
 ·have:C.chunk j=6+C.T+2*C.S+3*j:=rfl
  omega
 ·have:=a_ hC j0 j1 (i:=i) (by have:=h.u0 j0 j1;omega)
  have:=hC.C
  omega
theorem Aw.word(hC:C.ok)(h:Aw C F o u lv nx w){k l v:Int}(k0:0≤k)(k1:k<C.C)(l0:0≤l)(l1:l<u k)(l2:l<C.W):Aw C F o u lv nx (aX w (C.base k+l) v):=by
 have hT:=hC.T
 have hb:=a_ hC k0 k1 l0
 have iD:=hC.C
 have hS:=hC.S
 refine h.aL hC fun a ha=>az _ _ ?_
 rcases ha with ha|ha|⟨t,t0,t1,ha⟩|⟨j,j0,j1,ha⟩|⟨j,i,j0,j1,i0,i1,ha⟩
 ·omega
 ·omega
 ·have:C.slot t=6+C.T+2*t:=rfl
  omega
 ·have:C.chunk j=6+C.T+2*C.S+3*j:=rfl
  omega
 ·have hu:=h.u0 j0 j1
  rw[ha]
  intro q
  obtain⟨rfl,rfl⟩:=bW hC j0 j1 (by omega) i1 k0 k1 l0 l2 q
  omega
theorem Aw.dZ(hC:C.ok)(h:Aw C F o u lv nx w){k v:Int}(k0:0≤k)(k1:k<C.C):Aw C F o u (aX lv k v) nx (aX w (C.chunk k+1) v):=by
 have hT:=hC.T
 have hS:=hC.S
 have e:C.chunk k=6+C.T+2*C.S+3*k:=rfl
 have n1:∀ s,s<C.S→C.slot s+1≠C.chunk k+1:=fun s s1=>by
  have:C.slot s=6+C.T+2*s:=rfl
  omega
 have n2:∀ j,C.chunk j≠C.chunk k+1:=fun j=>by
  have:C.chunk j=6+C.T+2*C.S+3*j:=rfl
  omega
 refine⟨h.yq.congr (az _ _ (by omega)) fun s s0 s1=>az _ _ (n1 s s1),h.jJ.congr (fun c c0 c3=>az _ _ (by omega)) fun j j0 j1=>az _ _ (n2 j),fun j j0 j1=>?_,fun j i j0 j1 i0 i1=>?_⟩
 ·by_cases q:j=k
  ·subst q;rw[aE,aE]
  ·have n3:C.chunk j+1≠C.chunk k+1:=by
    have:C.chunk j=6+C.T+2*C.S+3*j:=rfl
    omega
   rw[az _ _ q,az _ _ n3]
   exact h.live j j0 j1
 ·have hb:=a_ hC j0 j1 (i:=i) (by have:=h.u0 j0 j1;omega)
  rw[az _ _ (by omega)];exact h.nil j i j0 j1 i0 i1
theorem Aw.Q1(hC:C.ok){s:Int}(h:Aw C (s::F) o u lv nx w):Aw C F o u lv nx (tN C w):=by
 have hT:=hC.T
 have hS:=hC.S
 have iD:=hC.C
 have ne:∀ a,a≠1→tN C w a=w a:=fun a ha=>by unfold tN;exact az _ _ ha
 refine⟨(h.yq.Q1 hC).1,h.jJ.congr (fun c c0 c3=>ne _ (by omega)) fun j j0 j1=>ne _ (by unfold Cf.chunk;omega),fun j j0 j1=>?_,fun j i j0 j1 i0 i1=>?_⟩
 ·rw[ne _ (by unfold Cf.chunk;omega)];exact h.live j j0 j1
 ·have hb:=a_ hC j0 j1 (i:=i) (by have:=h.u0 j0 j1;omega)
  rw[ne _ (by omega)];exact h.nil j i j0 j1 i0 i1
theorem Aw.Lm(hC:C.ok){s:Int}(h:Aw C F o u lv nx w)(hs:0≤s∧s<C.S)(hn:s∉F):Aw C (s::F) o u lv nx (pE C s w):=by
 have hT:=hC.T
 have hS:=hC.S
 have iD:=hC.C
 have es:C.slot s=6+C.T+2*s:=rfl
 have ne:∀ a,a≠1→a≠C.slot s+1→pE C s w a=w a:=fun a ha hb=>by unfold pE;rw[az _ _ ha,az _ _ hb]
 refine⟨h.yq.Lm hC hs hn,h.jJ.congr (fun c c0 c3=>ne _ (by omega) (by omega)) fun j j0 j1=>ne _ (by unfold Cf.chunk;omega) (by unfold Cf.chunk;omega),fun j j0 j1=>?_,fun j i j0 j1 i0 i1=>?_⟩
 ·rw[ne _ (by unfold Cf.chunk;omega) (by unfold Cf.chunk;omega)];exact h.live j j0 j1
 ·have hb:=a_ hC j0 j1 (i:=i) (by have:=h.u0 j0 j1;omega)
  rw[ne _ (by omega) (by omega)];exact h.nil j i j0 j1 i0 i1
structure Rs(C:Cf)(F:List Int)(u lv:Int→Int)(w:Int→Int):Prop where
 yq:HQ C w F
 live:∀ j,0≤j→j<C.C→w (C.chunk j+1)=lv j
 nil:∀ j i,0≤j→j<C.C→u j≤i→i<C.W→w (C.base j+i)=0
theorem Aw.rs(h:Aw C F o u lv nx w):Rs C F u lv w:=⟨h.yq,h.live,h.nil⟩
theorem Rs.aw{u':Int→Int}(h:Rs C F u lv w)(ha:ud C o u' nx w)(hu:∀ j,u j≤u' j):Aw C F o u' lv nx w:=
 ⟨h.yq,ha,h.live,fun j i j0 j1 i0 i1=>h.nil j i j0 j1 (by have:=hu j;omega) i1⟩
theorem Rs.go(hC:C.ok)(h:Rs C F u lv A.w)(hu:∀ j,0≤j→j<C.C→0≤u j){p:Pl}{r:Bool×Pl×Ar}{a:Int}(hf:p.fit C)(g:Go1 C A p r a):Rs C F u lv r.2.2.w:=by
 have hT:=hC.T
 have hS:=hC.S
 have iD:=hC.C
 have hc:=hf.cls
 have hj:=hf.at'
 have e:C.chunk p.at'=6+C.T+2*C.S+3*p.at':=rfl
 have ne:∀ i,i≠2+p.cls→i≠C.chunk p.at'→r.2.2.w i=A.w i:=fun i h1 h2=>g.w i (by rcases g.wh with q|q<;>rw[q]<;>assumption)
 refine⟨h.yq.congr (ne _ (by omega) (by omega)) fun s s0 s1=>ne _ ?_ ?_,fun j j0 j1=>?_,fun j i j0 j1 i0 i1=>?_⟩
 ·have:C.slot s=6+C.T+2*s:=rfl
  omega
 ·have:C.slot s=6+C.T+2*s:=rfl
  omega
 ·have q:C.chunk j=6+C.T+2*C.S+3*j:=rfl
  rw[ne _ (by omega) (by omega)];exact h.live j j0 j1
 ·have hb:=a_ hC j0 j1 (i:=i) (by have:=hu j j0 j1;omega)
  rw[ne _ (by omega) (by omega)];exact h.nil j i j0 j1 i0 i1
end
end Go.Fl
namespace Go.Fl
open Go
variable{N:Nm}{A B:Ar}{σ:Mem}{K:Value→Mem→Prop}{C:Cf}{who:Int}
structure Bg where
 F:List Int
 o:Int→Int
 u:Int→Int
 lv:Int→Int
 nx:Int
def L0(C:Cf)(b:Bg)(size:Int)(own:Bool)(k:Int)(m:Am)(w:Int→Int):Prop:=
 Aw C b.F b.o b.u b.lv b.nx w∧m.a.size=size∧m.a.own=own∧m.a.pc=0 ∧
  (m.a.tk=Tk.new∧k=0∨(∃ s F,b.F=s::F∧m.a.tk=⟨1,w 1,0,s,false⟩)∧k=1∨(∃ s F,b.F=s::F∧m.a.tk=⟨2,w 1,dO (w (C.slot s+1)),s,false⟩)∧k=2)
theorem L0.new{b:Bg}{w:Int→Int}(h:Aw C b.F b.o b.u b.lv b.nx w){size:Int}{own:Bool}:L0 C b size own 0 (Am.new size own) w:=
 ⟨h,rfl,rfl,rfl,.inl ⟨rfl,rfl⟩⟩
theorem L0.fit(hC:C.ok){b:Bg}{size k bb:Int}{own:Bool}{m:Am}(h:L0 C b size own k m A.w)(ok:A.ok bb):m.fit C A:=by
 obtain⟨hA,h1,h2,h3,h⟩:=h
 refine⟨by omega,fun _=>?_,fun e=>absurd h3 e,fun e=>absurd h3 e,fun e=>by omega,fun e _=>by omega,fun e=>by omega⟩
 have w1:=ok.w 1
 rcases h with⟨e,_⟩|⟨⟨s,F,hF,e⟩,_⟩|⟨⟨s,F,hF,e⟩,_⟩
 ·rw[e];exact⟨⟨Int.le_refl 0,(by decide:(0:Int)<18446744073709551616)⟩,fun q=>(by cases q),(by decide:(0:Int)≤0+1)⟩
 ·have hs:=hA.yq.c.mem s (by rw[hF];simp)
  rw[e];exact⟨w1,fun _=>hs,by show(0:Int)≤0+1;decide⟩
 ·have:=KC (A.w (C.slot s+1)) (ok.w _).1
  rw[e];exact⟨w1,fun q=>(by cases q),by show 0≤dO (A.w (C.slot s+1))+1;omega⟩
theorem L0.step(hC:C.ok){b:Bg}{size k bb:Int}{own:Bool}{m:Am}(h:L0 C b size own k m A.w)(ok:A.ok bb)(hb:bb<4611686018427387904)(bE:0≤ai size) :
  ((m.step C who A).1=false∧L0 C b size own (k+1) (m.step C who A).2.1 (m.step C who A).2.2.w) ∨
  ((m.step C who A).1=true∧b.F=[]∧(m.step C who A).2.1.a.oE=7∧(m.step C who A).2.1.a.oH=0∧(m.step C who A).2.1.a.oS=(m.step C who A).2.2.s∧Aw C b.F b.o b.u b.lv b.nx (m.step C who A).2.2.w) ∨
  ((m.step C who A).1=false∧∃ s F,b.F=s::F∧(m.step C who A).2.1.a.pc=1∧(m.step C who A).2.1.a.at'=s∧(m.step C who A).2.1.a.size=size∧(m.step C who A).2.1.a.own=own∧Aw C F b.o b.u b.lv b.nx (m.step C who A).2.2.w):=by
 obtain⟨hA,h1,h2,h3,h⟩:=h
 have aaV:¬ ai m.a.size<0:=by rw[h1];omega
 have e:m.step C who A=(let r:=m.a.tk.step C who A
  if r.1=false then(false,{ m with a:={ m.a with tk:=r.2.1 } },r.2.2)
  else if r.2.1.ok=true then(false,{ m with a:={ m.a with tk:=r.2.1,at':=r.2.1.slot,pc:=1 } },r.2.2)
  else(true,{ m with a:={ m.a with tk:=r.2.1,at':=0,pc:=1,oE:=7,oH:=0,oV:=0,oS:=r.2.2.s } },r.2.2)):=by
  unfold Am.step;rw[af h3,ae aaV]
 rw[e]
 rcases h with⟨q,hk⟩|⟨⟨s,F,hF,q⟩,hk⟩|⟨⟨s,F,hF,q⟩,hk⟩
 ·rw[q,Tk.new,Tk.y5]
  cases hF:b.F with
  | nil=>
   have ht:dO (A.w 1)<0:=by
    have:dO (A.w 1) = -1:=by have:=hA.yq.c;rw[hF]at this;exact this
    omega
   simp only[ht,decide_true,Bool.true_eq_false,Bool.false_eq_true,if_false]
   rw[←hF]
   exact .inr (.inl ⟨trivial,by first|trivial|exact hF,trivial,trivial,trivial,hA⟩)
  | cons s F=>
   have hc:=hA.yq.c
   rw[hF]at hc
   have ht:¬ dO (A.w 1)<0:=by have:=hc.1;have:=hc.2.1;omega
   simp only[ht,decide_false,if_true]
   exact .inl ⟨trivial,hA,h1,h2,h3,.inr (.inl ⟨⟨s,F,hF,by rw[hc.1];rfl⟩,by omega⟩)⟩
 ·rw[q,Tk.FN]
  simp only[if_true]
  exact .inl ⟨trivial,hA,h1,h2,h3,.inr (.inr ⟨⟨s,F,hF,rfl⟩,by omega⟩)⟩
 ·have hc:=hA.yq.c
  rw[hF]at hc
  rw[q,Tk.yZ]
  simp only[decide_true,Bool.true_eq_false,if_false,if_true]
  refine .inr (.inr ⟨trivial,s,F,hF,trivial,rfl,h1,h2,?_⟩)
  have a1:=dy (who:=who) (A:=A) (a:=1) (o:=A.w 1) (v:=bV (dO (A.w (C.slot s+1))) (lx (A.w 1)+1)) ok (by omega)
  rw[af rfl]at a1
  have dL:=hA
  rw[hF]at dL
  have:=dL.Q1 hC
  unfold tN at this
  rw[hc.1]at this
  rw[a1.w];exact this
structure Has(C:Cf)(size:Int)(own:Bool)(s:Int)(m:Am):Prop where
 size:m.a.size=size
 own:m.a.own=own
 at':m.a.at'=s
def Xg(C:Cf)(b:Bg)(F:List Int)(size:Int)(own:Bool)(s ge k:Int)(m:Am)(w:Int→Int):Prop:=
 Has C size own s m∧m.a.gen=ge∧m.a.pc=2∧m.t.fit C∧Ph C b.o b.u b.nx (ai size) k m.t w∧Rs C F b.u b.lv w
theorem Xg.step(hC : C.ok){b : Bg}{F : List Int}{size s ge k bb : Int}{own : Bool}{m : Am}(h : Xg C b F size own s ge k m A.w)(hP : Pa C A bb)(hb : bb < 4611686018427387904)(bE : 0 ≤ ai size)(cY : ai size ≤ 3)(hu : ∀ j, 0 ≤ j → j < C.C → 0 ≤ b.u j) :
    ((m.step C who A).1 = false ∧ Xg C b F size own s ge (k + 1) (m.step C who A).2.1 (m.step C who A).2.2.w) ∨
    ((m.step C who A).1 = false ∧ Rs C F b.u b.lv (m.step C who A).2.2.w ∧ Has C size own s (m.step C who A).2.1 ∧ (m.step C who A).2.1.a.gen = ge ∧ Dn C b.o b.u b.nx (ai size) (m.step C who A).2.1.t (m.step C who A).2.2.w ∧
      ((m.step C who A).2.1.t.ok = true ∧ (m.step C who A).2.1.a.pc = 3 ∧ (m.step C who A).2.1.a.sa = (m.step C who A).2.1.t.sa ∧ (m.step C who A).2.1.a.sc = (m.step C who A).2.1.t.sc ∨
       (m.step C who A).2.1.t.ok = false ∧ (m.step C who A).2.1.a.pc = 7 ∧ (m.step C who A).2.1.a.oE = 6 ∧ (m.step C who A).2.1.a.oH = 0 ∧ (m.step C who A).2.1.a.oS = (m.step C who A).2.2.s ∧ (m.step C who A).2.1.g = ⟨0, s, 0⟩)) := by
  obtain⟨hs, hg, h2, hf, hp, hr⟩ := h
  have e : m.step C who A = (let r := m.t.step C who A
    if r.1 = false then(false, { m with t := r.2.1 }, r.2.2)
    else if r.2.1.ok = true then(false, { m with a := { m.a with sa := r.2.1.sa, sc := r.2.1.sc, pc := 3 }, t := r.2.1 }, r.2.2)
    else(false, { m with a := { m.a with sa := 0, sc := 0, pc := 7, oE := 6, oH := 0, oV := 0, oS := r.2.2.s }, t := r.2.1, g := ⟨0, m.a.at', 0⟩ }, r.2.2)) := by
    unfold Am.step;rw[ae (by omega), ae (by omega), af h2]
  obtain⟨q1, q2, a, q3⟩ := Pl.go (who := who) hC hb hP hf
  have hr' := hr.go hC hu hf q3
  have kT := hp.step (who := who) hC bE cY hP.ok hb hf
  rw[e]
  generalize m.t.step C who A = r at *
  obtain⟨d, t', A'⟩ := r
  dsimp only at *
  cases d with
  | false =>
    simp only[Bool.false_eq_true, if_false, if_true]at kT ⊢
    exact .inl ⟨trivial, ⟨hs.size, hs.own, hs.at'⟩, hg, h2, q2 rfl, kT, hr'⟩
  | true =>
    simp only[if_true, Bool.true_eq_false, if_false]at kT ⊢
    cases o : t'.ok with
    | true =>
      simp only[if_true]
      exact .inr ⟨trivial, hr', ⟨hs.size, hs.own, hs.at'⟩, hg, kT, .inl (by simp[o])⟩
    | false =>
      simp only[Bool.false_eq_true, if_false]
      exact .inr ⟨trivial, hr', ⟨hs.size, hs.own, hs.at'⟩, hg, kT, .inr (by simp[o, hs.at'])⟩
theorem Ph.new{o u w:Int→Int}{nx c:Int}(h:ud C o u nx w):Ph C o u nx c 0 (Pl.new c) w:=by
 have F6:=h.bd
 refine⟨rfl,rfl,?_⟩
 by_cases gd:bP C o u c
 ·exact .inl ⟨.inl ⟨gd,h⟩,.inl ⟨rfl,by omega⟩⟩
 ·exact .inr ⟨gd,.inl ⟨h,.inl ⟨rfl,by omega⟩⟩⟩
theorem IC(hC:C.ok){b:Bg}{F:List Int}{size s:Int}{own:Bool}{m:Am}(hA:Aw C F b.o b.u b.lv b.nx A.w)(hs:Has C size own s m)(h1:m.a.pc=1)(bE:0≤ai size)(cY:ai size≤3) :
  (m.step C who A).1=false∧Xg C b F size own s (b9 (A.w (C.slot s))) 0 (m.step C who A).2.1 (m.step C who A).2.2.w:=by
 have e:m.step C who A=(false,{ m with a:={ m.a with gen:=b9 (A.w (C.slot m.a.at')),pc:=2 },t:=Pl.new (ai m.a.size) },(A.by who).load (C.slot m.a.at')):=by
  unfold Am.step;rw[ae (by omega),af h1]
 rw[e]
 refine⟨rfl,⟨hs.size,hs.own,hs.at'⟩,by show b9 (A.w (C.slot m.a.at'))=_;rw[hs.at'],rfl,?_,?_,hA.rs⟩
 ·show(Pl.new (ai m.a.size)).fit C
  rw[hs.size];exact Pl.Bv hC bE cY
 ·show Ph C b.o b.u b.nx (ai size) 0 (Pl.new (ai m.a.size)) A.w
  rw[hs.size];exact Ph.new hA.jJ
structure LZ(C:Cf)(size:Int)(own:Bool)(s ge j i:Int)(u:Int→Int)(m:Am):Prop where
 has:Has C size own s m
 gen:m.a.gen=ge
 sc:m.a.sc=j
 sa:m.a.sa=C.base j+i
 j0:0≤j∧j<C.C
 i0:0≤i∧i+aA (ai size)≤u j∧u j≤C.W
theorem E'(hC:C.ok){F:List Int}{o u lv:Int→Int}{nx size s ge j i bb:Int}{own:Bool}{m:Am}(hA:Aw C F o u lv nx A.w)(hs:LZ C size own s ge j i u m)(h3:m.a.pc=3)(ok:A.ok bb)(hb:bb<4611686018427387904)(hl:0≤lv j+aA (ai size)∧lv j+aA (ai size)<18446744073709551616) :
  (m.step C who A).1=false∧(m.step C who A).2.1.a.pc=4∧LZ C size own s ge j i u (m.step C who A).2.1∧Aw C F o u (aX lv j (lv j+aA (ai size))) nx (m.step C who A).2.2.w:=by
 have e:m.step C who A=(false,{ m with a:={ m.a with pc:=4 } },(A.by who).add (C.chunk m.a.sc+1) (aA (ai m.a.size))):=by
  unfold Am.step;rw[ae (by omega),ae (by omega),ae (by omega),af h3]
 rw[e]
 refine⟨rfl,rfl,⟨⟨hs.has.size,hs.has.own,hs.has.at'⟩,hs.gen,hs.sc,hs.sa,hs.j0,hs.i0⟩,?_⟩
 have hw:((A.by who).add (C.chunk m.a.sc+1) (aA (ai m.a.size))).w=aX A.w (C.chunk j+1) (lv j+aA (ai size)):=by
  show aX A.w (C.chunk m.a.sc+1) (IntKind.u64.wrap (A.w (C.chunk m.a.sc+1)+aA (ai m.a.size)))=_
  rw[hs.sc,hs.has.size,hA.live j hs.j0.1 hs.j0.2,IntWalk.u64_in _ (by omega)]
 show Aw C F o u _ nx ((A.by who).add (C.chunk m.a.sc+1) (aA (ai m.a.size))).w
 rw[hw]
 exact hA.dZ hC hs.j0.1 hs.j0.2
theorem G3(hC:C.ok){F:List Int}{o u lv:Int→Int}{nx size s ge j i:Int}{own:Bool}{m:Am}(hA:Aw C F o u lv nx A.w)(hs:LZ C size own s ge j i u m)(h4:m.a.pc=4)(bE:0≤ai size)(cY:ai size≤3) :
  (m.step C who A).1=false∧(m.step C who A).2.1.a.pc=5∧LZ C size own s ge j i u (m.step C who A).2.1∧Aw C F o u lv nx (m.step C who A).2.2.w∧(m.step C who A).2.2.w=aX A.w (C.base j+i) (aW 1 size s ge own):=by
 have e:m.step C who A=(false,{ m with a:={ m.a with pc:=5 } },(A.by who).store m.a.sa (aW 1 m.a.size m.a.at' m.a.gen m.a.own)):=by
  unfold Am.step;rw[ae (by omega),ae (by omega),ae (by omega),ae (by omega),af h4]
 have hr:=bR bE cY
 have hi:=hs.i0
 have hw:((A.by who).store m.a.sa (aW 1 m.a.size m.a.at' m.a.gen m.a.own)).w=aX A.w (C.base j+i) (aW 1 size s ge own):=by
  rw[fl,hs.sa,hs.has.size,hs.has.at',hs.gen,hs.has.own];rfl
 rw[e]
 refine⟨rfl,rfl,⟨⟨hs.has.size,hs.has.own,hs.has.at'⟩,hs.gen,hs.sc,hs.sa,hs.j0,hs.i0⟩,?_,hw⟩
 show Aw C F o u lv nx ((A.by who).store m.a.sa (aW 1 m.a.size m.a.at' m.a.gen m.a.own)).w
 rw[hw]
 exact hA.word hC hs.j0.1 hs.j0.2 hi.1 (by omega) (by omega)
theorem GI(hC:C.ok){F:List Int}{o u lv:Int→Int}{nx size s ge j i bb:Int}{own:Bool}{m:Am}(hA:Aw C F o u lv nx A.w)(hs:LZ C size own s ge j i u m)(h5:m.a.pc=5)(s0:0≤s∧s<C.S)(ok:A.ok bb)(hb:bb<4611686018427387904) :
  (m.step C who A).1=false∧(m.step C who A).2.1.a.pc=6∧LZ C size own s ge j i u (m.step C who A).2.1∧Aw C F o u lv nx (m.step C who A).2.2.w∧(m.step C who A).2.2.w=aX A.w (C.slot s) (aK 1 (C.base j+i) ge 0) ∧
   (m.step C who A).2.1.a.oE=0∧(m.step C who A).2.1.a.oH=bC s ge∧(m.step C who A).2.1.a.oS=A.s+1:=by
 have e:m.step C who A=(false,{ m with a:={ m.a with pc:=6,oE:=0,oH:=bC m.a.at' m.a.gen,oV:=0,oS:=((A.by who).store (C.slot m.a.at') (aK 1 m.a.sa m.a.gen 0)).s } },(A.by who).store (C.slot m.a.at') (aK 1 m.a.sa m.a.gen 0)):=by
  unfold Am.step;rw[ae (by omega),ae (by omega),ae (by omega),ae (by omega),ae (by omega),af h5]
 have a1:=dJ (who:=who) (A:=A) (a:=C.slot m.a.at') (v:=aK 1 m.a.sa m.a.gen 0) ok (by omega)
 have hw:((A.by who).store (C.slot m.a.at') (aK 1 m.a.sa m.a.gen 0)).w=aX A.w (C.slot s) (aK 1 (C.base j+i) ge 0):=by
  rw[a1.w,hs.sa,hs.has.at',hs.gen]
 rw[e]
 refine⟨rfl,rfl,⟨⟨hs.has.size,hs.has.own,hs.has.at'⟩,hs.gen,hs.sc,hs.sa,hs.j0,hs.i0⟩,?_,hw,rfl,by show bC m.a.at' m.a.gen=_;rw[hs.has.at',hs.gen],a1.s⟩
 show Aw C F o u lv nx ((A.by who).store (C.slot m.a.at') (aK 1 m.a.sa m.a.gen 0)).w
 rw[hw]
 exact hA.Iu hC s0.1 s0.2
theorem EF(hC:C.ok){F:List Int}{o u lv:Int→Int}{nx size s ge j i:Int}{own:Bool}{m:Am}(hA:Aw C F o u lv nx A.w)(hs:LZ C size own s ge j i u m)(h6:m.a.pc=6)(bE:0≤ai size)(cY:ai size≤3) :
  (m.step C who A).1=true∧(m.step C who A).2.1=m∧Aw C F o u lv nx (m.step C who A).2.2.w∧(m.step C who A).2.2.w=aX A.w (C.base j+i) (aW 2 size s ge own):=by
 have e:m.step C who A=(true,m,(A.by who).store m.a.sa (aW 2 m.a.size m.a.at' m.a.gen m.a.own)):=by
  unfold Am.step;rw[ae (by omega),ae (by omega),ae (by omega),ae (by omega),ae (by omega),ae (by omega),af h6]
 have hr:=bR bE cY
 have hi:=hs.i0
 have hw:((A.by who).store m.a.sa (aW 2 m.a.size m.a.at' m.a.gen m.a.own)).w=aX A.w (C.base j+i) (aW 2 size s ge own):=by
  rw[fl,hs.sa,hs.has.size,hs.has.at',hs.gen,hs.has.own];rfl
 rw[e]
 refine⟨rfl,rfl,?_,hw⟩
 show Aw C F o u lv nx ((A.by who).store m.a.sa (aW 2 m.a.size m.a.at' m.a.gen m.a.own)).w
 rw[hw]
 exact hA.word hC hs.j0.1 hs.j0.2 hi.1 (by omega) (by omega)
def XT(C:Cf)(F:List Int)(o u lv:Int→Int)(nx s:Int)(k:Int)(m:Am)(w:Int→Int):Prop:=
 m.a.pc=7∧(0≤s∧s<C.S)∧s∉F∧(m.g=⟨0,s,0⟩∧k=0∧Aw C F o u lv nx w∨m.g=⟨1,s,w 1⟩∧k=1∧Aw C F o u lv nx w ∨
  m.g=⟨2,s,w 1⟩∧k=2∧∃ w0,Aw C F o u lv nx w0∧w0 1=w 1∧w=aX w0 (C.slot s+1) (bV (dO (w0 1)) 0))
theorem XT.step(hC:C.ok){F:List Int}{o u lv:Int→Int}{nx s k bb:Int}{m:Am}(h:XT C F o u lv nx s k m A.w)(ok:A.ok bb)(hb:bb<4611686018427387904) :
  (m.step C who A).2.1.a=m.a∧(((m.step C who A).1=false∧XT C F o u lv nx s (k+1) (m.step C who A).2.1 (m.step C who A).2.2.w)∨((m.step C who A).1=true∧Aw C (s::F) o u lv nx (m.step C who A).2.2.w)):=by
 obtain⟨h7,s0,hn,h⟩:=h
 have hT:=hC.T
 have hS:=hC.S
 have e:m.step C who A=((m.g.step C who A).1,{ m with g:=(m.g.step C who A).2.1 },(m.g.step C who A).2.2):=by
  unfold Am.step;rw[ae (by omega),ae (by omega),ae (by omega),ae (by omega),ae (by omega),ae (by omega),ae (by omega)]
 rw[e]
 refine⟨rfl,?_⟩
 rcases h with⟨q,hk,hA⟩|⟨q,hk,hA⟩|⟨q,hk,w0,hA,e1,e2⟩
 ·rw[q,Gv.y5]
  exact .inl ⟨rfl,h7,s0,hn,.inr (.inl ⟨rfl,by omega,hA⟩)⟩
 ·rw[q,Gv.FN]
  have a1:=dJ (who:=who) (A:=A) (a:=C.slot s+1) (v:=bV (dO (A.w 1)) 0) ok (by omega)
  have n1:aX A.w (C.slot s+1) (bV (dO (A.w 1)) 0) 1=A.w 1:=az _ _ (by unfold Cf.slot;omega)
  refine .inl ⟨rfl,h7,s0,hn,.inr (.inr ⟨?_,by omega,A.w,hA,?_,a1.w⟩)⟩
  ·show Gv.mk 2 s (A.w 1)=⟨2,s,_⟩;rw[a1.w,n1]
  ·rw[a1.w,n1]
 ·rw[q,Gv.yZ]
  have a1:=dy (who:=who) (A:=A) (a:=1) (o:=A.w 1) (v:=bV s (lx (A.w 1)+1)) ok (by omega)
  rw[af rfl]at a1
  refine .inr ⟨decide_eq_true rfl,?_⟩
  show Aw C (s::F) o u lv nx ((A.by who).dI 1 (A.w 1) (bV s (lx (A.w 1)+1))).w
  have:=hA.Lm hC s0 hn
  unfold pE at this
  rw[a1.w,e2,az _ _ (by unfold Cf.slot;omega)]
  exact this
end Go.Fl
namespace Go.Fl
open Go
variable{N:Nm}{A B:Ar}{σ:Mem}{K:Value→Mem→Prop}{C:Cf}{who:Int}
structure Xe(C:Cf)(A:Ar)(m:Am)(r:Bool×Am×Ar)(a:Int):Prop where
 la:r.2.2.la=a
 s:r.2.2.s=A.s+1
 n:r.2.2.n=A.n
 w:∀ i,i≠a→r.2.2.w i=A.w i
 kind:(m.a.pc=0∨m.a.pc=7)∧(a=1∨∃ s,0≤s∧s<C.S∧a=C.slot s+1)∨m.a.pc=1∧a=C.slot m.a.at'∧r.2.2.w=A.w∨m.a.pc=2∧(a=2+m.t.cls∨a=C.chunk m.t.at')∨m.a.pc=3∧a=C.chunk m.a.sc+1 ∨
  (m.a.pc=4∨m.a.pc=6)∧a=m.a.sa∨m.a.pc=5∧a=C.slot m.a.at'
theorem Am.go(hC:C.ok){b:Int}(hb:b<4611686018427387904)(hP:Pa C A b){m:Am}(hf:m.fit C A)(hc:¬(m.a.pc=0∧ai m.a.size<0))(zn:m.a.pc=4∨m.a.pc=6→C.base 0≤m.a.sa) :
  Pa C (m.step C who A).2.2 (b+1)∧∃ a,Xe C A m (m.step C who A) a:=by
 obtain⟨ok,n,op⟩:=hP
 have hT:=hC.T
 have hS:=hC.S
 have iD:=hC.C
 have yR:C.base 0=6+C.T+2*C.S+3*C.C:=by unfold Cf.base;omega
 have L:∀ a,Pa C ((A.by who).load a) (b+1):=fun a=>⟨(cW ok (by omega)).ok (by decide) ok ok.w,n,op⟩
 have W:∀ a v,(∀ c,0≤c→c≤3→2+c≠a)→0≤v∧v<18446744073709551616→Pa C ((A.by who).store a v) (b+1):=by
  intro a v ha hv
  have a1:=dJ (who:=who) (A:=A) (a:=a) (v:=v) ok (by omega)
  refine⟨a1.ok (by decide) ok fun i=>dm (P:=fun x=>0≤x∧x<18446744073709551616) hv (ok.w i),n,fun c c0 c3=>?_⟩
  rw[a1.w,az _ _ (ha c c0 c3)];exact op c c0 c3
 have Z:∀ a o v,(∀ c,0≤c→c≤3→2+c≠a)→0≤v∧v<18446744073709551616→Pa C ((A.by who).dI a o v) (b+1):=by
  intro a o v ha hv
  have a1:=dy (who:=who) (A:=A) (a:=a) (o:=o) (v:=v) ok (by omega)
  refine⟨a1.ok (by decide) ok fun i=>?_,by rw[a1.n];exact n,fun c c0 c3=>?_⟩
  ·split
   ·exact dm (P:=fun x=>0≤x∧x<18446744073709551616) hv (ok.w i)
   ·exact ok.w i
  ·rw[a1.w,aw (ha c c0 c3)];exact op c c0 c3
 have sL:=fun a=>(cW (who:=who) (a:=a) ok (by omega)).s
 have sW:=fun a v=>(dJ (who:=who) (a:=a) (v:=v) ok (by omega)).s
 have aC:=fun a o v=>dy (who:=who) (A:=A) (a:=a) (o:=o) (v:=v) ok (by omega)
 have oT:=hf.pc
 by_cases c0:m.a.pc=0
 ·have bE:¬ ai m.a.size<0:=fun q=>hc ⟨c0,q⟩
  obtain⟨t1,t2,t3⟩:=hf.tk c0
  have e:(m.step C who A).2.2=(m.a.tk.step C who A).2.2:=by
   unfold Am.step;rw[af c0,ae bE];dsimp only
   split
   ·rfl
   ·split<;>rfl
  have key:∃ a,(a=1∨∃ s,0≤s∧s<C.S∧a=C.slot s+1)∧Pa C (m.a.tk.step C who A).2.2 (b+1)∧(m.a.tk.step C who A).2.2.la=a∧(m.a.tk.step C who A).2.2.s=A.s+1∧(m.a.tk.step C who A).2.2.n=A.n∧∀ i,i≠a→(m.a.tk.step C who A).2.2.w i=A.w i:=by
   unfold Tk.step
   by_cases q0:m.a.tk.pc=0
   ·rw[af q0];exact⟨1,.inl rfl,L 1,rfl,sL 1,rfl,fun _ _=>rfl⟩
   ·rw[ae q0]
    by_cases q1:m.a.tk.pc=1
    ·rw[af q1];have:=t2 q1;exact⟨_,.inr ⟨_,this.1,this.2,rfl⟩,L _,rfl,sL _,rfl,fun _ _=>rfl⟩
    ·rw[ae q1];exact⟨1,.inl rfl,Z _ _ _ (fun c c0 c3=>by omega) (gG _ _),lG,(aC _ _ _).s,(aC _ _ _).n,fun i hi=>by rw[(aC _ _ _).w,aw hi]⟩
  obtain⟨a,k1,k2,k3,k4,k5,k6⟩:=key
  exact⟨by rw[e];exact k2,a,⟨by rw[e];exact k3,by rw[e];exact k4,by rw[e];exact k5,by rw[e];exact k6,.inl ⟨.inl c0,k1⟩⟩⟩
 have iM:=hf.at' c0
 have bE:=hf.cl c0
 have kL:C.slot m.a.at'=6+C.T+2*m.a.at':=rfl
 by_cases c1:m.a.pc=1
 ·have e:(m.step C who A).2.2=(A.by who).load (C.slot m.a.at'):=by unfold Am.step;rw[ae c0,af c1]
  exact⟨by rw[e];exact L _,_,⟨by rw[e];exact KQ,by rw[e];exact sL _,by rw[e];rfl,fun i _=>by rw[e];rfl,.inr (.inl ⟨c1,rfl,by rw[e];rfl⟩)⟩⟩
 by_cases c2:m.a.pc=2
 ·obtain⟨f1,f2⟩:=hf.pl c2
  obtain⟨g1,_,a,g3⟩:=Pl.go (who:=who) hC hb ⟨ok,n,op⟩ f1
  have e:(m.step C who A).2.2=(m.t.step C who A).2.2:=by
   unfold Am.step;rw[ae c0,ae c1,af c2];dsimp only
   split
   ·rfl
   ·split<;>rfl
  exact⟨by rw[e];exact g1,a,⟨by rw[e];exact g3.la,by rw[e];exact g3.s,by rw[e];exact g3.n,by rw[e];exact g3.w,.inr (.inr (.inl ⟨c2,g3.wh⟩))⟩⟩
 by_cases c3:m.a.pc=3
 ·have e:(m.step C who A).2.2=(A.by who).add (C.chunk m.a.sc+1) (aA (ai m.a.size)):=by unfold Am.step;rw[ae c0,ae c1,ae c2,af c3]
  have UY:=(hf.spot (by omega) (by omega)).1
  have Lf:C.chunk m.a.sc=6+C.T+2*C.S+3*m.a.sc:=rfl
  have GZ:0≤IntKind.u64.wrap (A.w (C.chunk m.a.sc+1)+aA (ai m.a.size))∧IntKind.u64.wrap (A.w (C.chunk m.a.sc+1)+aA (ai m.a.size))<18446744073709551616:=by
   show 0≤(A.w (C.chunk m.a.sc+1)+aA (ai m.a.size)) % 18446744073709551616∧(A.w (C.chunk m.a.sc+1)+aA (ai m.a.size)) % 18446744073709551616<18446744073709551616
   omega
  have:=W (C.chunk m.a.sc+1) (IntKind.u64.wrap (A.w (C.chunk m.a.sc+1)+aA (ai m.a.size))) (fun c c0 c3=>by omega) GZ
  exact⟨by rw[e];exact this,_,⟨by rw[e];rfl,by rw[e];exact sW _ _,by rw[e];rfl,fun i hi=>by rw[e];exact az _ _ hi,.inr (.inr (.inr (.inl ⟨c3,rfl⟩)))⟩⟩
 by_cases c4:m.a.pc=4
 ·have e:(m.step C who A).2.2=(A.by who).store m.a.sa (aW 1 m.a.size m.a.at' m.a.gen m.a.own):=by unfold Am.step;rw[ae c0,ae c1,ae c2,ae c3,af c4]
  have hs:=zn (.inl c4)
  exact⟨by rw[e];exact W _ _ (fun c c0 c3=>by omega) (kA _ _ _ _ _),_,⟨by rw[e];rfl,by rw[e];exact sW _ _,by rw[e];rfl,fun i hi=>by rw[e];exact az _ _ hi,.inr (.inr (.inr (.inr (.inl ⟨.inl c4,rfl⟩))))⟩⟩
 by_cases c5:m.a.pc=5
 ·have e:(m.step C who A).2.2=(A.by who).store (C.slot m.a.at') (aK 1 m.a.sa m.a.gen 0):=by unfold Am.step;rw[ae c0,ae c1,ae c2,ae c3,ae c4,af c5]
  exact⟨by rw[e];exact W _ _ (fun c c0 c3=>by omega) (cV _ _ _ _),_,⟨by rw[e];rfl,by rw[e];exact sW _ _,by rw[e];rfl,fun i hi=>by rw[e];exact az _ _ hi,.inr (.inr (.inr (.inr (.inr ⟨c5,rfl⟩))))⟩⟩
 by_cases c6:m.a.pc=6
 ·have e:(m.step C who A).2.2=(A.by who).store m.a.sa (aW 2 m.a.size m.a.at' m.a.gen m.a.own):=by unfold Am.step;rw[ae c0,ae c1,ae c2,ae c3,ae c4,ae c5,af c6]
  have hs:=zn (.inr c6)
  exact⟨by rw[e];exact W _ _ (fun c c0 c3=>by omega) (kA _ _ _ _ _),_,⟨by rw[e];rfl,by rw[e];exact sW _ _,by rw[e];rfl,fun i hi=>by rw[e];exact az _ _ hi,.inr (.inr (.inr (.inr (.inl ⟨.inr c6,rfl⟩))))⟩⟩
 have c7:m.a.pc=7:=by omega
 obtain⟨g1,g2⟩:=hf.gv c7
 have e:(m.step C who A).2.2=(m.g.step C who A).2.2:=by unfold Am.step;rw[ae c0,ae c1,ae c2,ae c3,ae c4,ae c5,ae c6]
 have key:∃ a,(a=1∨∃ s,0≤s∧s<C.S∧a=C.slot s+1)∧Pa C (m.g.step C who A).2.2 (b+1)∧(m.g.step C who A).2.2.la=a∧(m.g.step C who A).2.2.s=A.s+1∧(m.g.step C who A).2.2.n=A.n∧∀ i,i≠a→(m.g.step C who A).2.2.w i=A.w i:=by
  have hsg:C.slot m.g.slot=6+C.T+2*m.g.slot:=rfl
  unfold Gv.step
  by_cases q0:m.g.pc=0
  ·rw[af q0];exact⟨1,.inl rfl,L 1,rfl,sL 1,rfl,fun _ _=>rfl⟩
  ·rw[ae q0]
   by_cases q1:m.g.pc=1
   ·rw[af q1];exact⟨_,.inr ⟨_,g2.1,g2.2,rfl⟩,W _ _ (fun c c0 c3=>by omega) (gG _ _),rfl,sW _ _,rfl,fun i hi=>az _ _ hi⟩
   ·rw[ae q1];exact⟨1,.inl rfl,Z _ _ _ (fun c c0 c3=>by omega) (gG _ _),lG,(aC _ _ _).s,(aC _ _ _).n,fun i hi=>by rw[(aC _ _ _).w,aw hi]⟩
 obtain⟨a,k1,k2,k3,k4,k5,k6⟩:=key
 exact⟨by rw[e];exact k2,a,⟨by rw[e];exact k3,by rw[e];exact k4,by rw[e];exact k5,by rw[e];exact k6,.inl ⟨.inr c7,k1⟩⟩⟩
end Go.Fl
namespace Go.Fl
open Go
variable{N:Nm}{A B:Ar}{σ:Mem}{K:Value→Mem→Prop}{C:Cf}{who:Int}
def B6(C:Cf)(b:Bg)(F:List Int)(c j:Int)(b':Bg):Prop:=
 bP C b.o b.u c∧j=b.o c∧b'=⟨F,b.o,aX b.u j (b.u j+aA c),b.lv,b.nx⟩ ∨
 ¬ bP C b.o b.u c∧b.nx<C.C∧j=b.nx∧b'=⟨F,aX b.o c b.nx,aX b.u j (b.u j+aA c),b.lv,b.nx+1⟩
def Bg.aw(b:Bg)(C:Cf)(w:Int→Int):Prop:=Aw C b.F b.o b.u b.lv b.nx w
def Bg.count(b:Bg)(j n:Int):Bg:={ b with lv:=aX b.lv j (b.lv j+n) }
structure Fw(C:Cf)(b:Bg)(ch:Prop)(w0 w:Int→Int):Prop where
 slot:∀ t,0≤t→t<C.S→(ch→∀ F,b.F≠t::F)→w (C.slot t)=w0 (C.slot t)
 word:∀ j i,0≤j→j<C.C→0≤i→i<b.u j→i<C.W→w (C.base j+i)=w0 (C.base j+i)
def XS(C : Cf)(b : Bg)(size : Int)(own : Bool)(s ge : Int)(F : List Int)(s0 k : Int)(m : Am)(A : Ar) : Prop :=
  ∃ j b', B6 C b F (ai size) j b' ∧ LZ C size own s ge j (b.u j) b'.u m ∧ (∀ x, 1 ≤ x → x < aA (ai size) → A.w (C.base j + (b.u j + x)) = 0) ∧
    (m.a.pc = 3 ∧ b'.aw C A.w ∧ A.w (C.base j + b.u j) = 0 ∧ k ≤ C.C + 16 ∨
     (b'.count j (aA (ai size))).aw C A.w ∧ (m.a.pc = 4 ∧ A.w (C.base j + b.u j) = 0 ∧ k ≤ C.C + 17 ∨ A.w (C.base j + b.u j) = aW 1 size s ge own ∧ (m.a.pc = 5 ∧ k ≤ C.C + 18 ∨
       m.a.pc = 6 ∧ A.w (C.slot s) = aK 1 (C.base j + b.u j) ge 0 ∧ m.a.oE = 0 ∧ m.a.oH = bC s ge ∧ (s0 < m.a.oS ∧ m.a.oS ≤ A.s) ∧ k ≤ C.C + 19)))
def HP(C:Cf)(b:Bg)(size:Int)(own:Bool)(w0:Int→Int)(s0 k:Int)(m:Am)(A:Ar):Prop:=
 L0 C b size own k m A.w∨∃ s F,b.F=s::F∧(
  (m.a.pc=1∧Has C size own s m∧Aw C F b.o b.u b.lv b.nx A.w∧k≤3) ∨
  (∃ kk,Xg C b F size own s (b9 (w0 (C.slot s))) kk m A.w∧0≤kk∧k≤4+kk) ∨
  XS C b size own s (b9 (w0 (C.slot s))) F s0 k m A ∨
  (m.a.oE=6∧m.a.oH=0∧(s0≤m.a.oS∧m.a.oS≤A.s)∧¬ bP C b.o b.u (ai size)∧b.nx=C.C∧Has C size own s m∧∃ kk,XT C F b.o b.u b.lv b.nx s kk m A.w∧0≤kk∧k≤C.C+16+kk))
def Fin(C:Cf)(b:Bg)(size:Int)(own:Bool)(w0:Int→Int)(s0:Int)(m:Am)(A:Ar):Prop:=
 m.a.oE=7∧m.a.oH=0∧b.F=[]∧b.aw C A.w∨∃ s F,b.F=s::F∧(
  m.a.oE=6∧m.a.oH=0∧¬ bP C b.o b.u (ai size)∧b.nx=C.C∧b.aw C A.w ∨
  m.a.oE=0∧s0<m.a.oS∧∃ j b',B6 C b F (ai size) j b'∧(0≤j∧j<C.C)∧(0≤b.u j∧b.u j+aA (ai size)≤b'.u j∧b'.u j≤C.W)∧m.a.oH=bC s (b9 (w0 (C.slot s)))∧(b'.count j (aA (ai size))).aw C A.w ∧
   A.w (C.slot s)=aK 1 (C.base j+b.u j) (b9 (w0 (C.slot s))) 0∧A.w (C.base j+b.u j)=aW 2 size s (b9 (w0 (C.slot s))) own∧∀ x,1≤x→x<aA (ai size)→A.w (C.base j+(b.u j+x))=0)
structure Xi(C:Cf)(b:Bg)(size:Int)(own:Bool)(w0:Int→Int)(s0:Int)(m:Am)(A:Ar):Prop where
 n:(s0≤m.a.oS∧m.a.oS≤A.s)∧A.s≤s0+100
 fw:Fw C b (m.a.oE=0) w0 A.w
 r:Fin C b size own w0 s0 m A
structure Bg.Bw(b:Bg)(C:Cf):Prop where
 lv:∀ j,0≤j→j<C.C→0≤b.lv j∧b.lv j≤1000000000
theorem Ph.C3{o u w:Int→Int}{nx c k:Int}{p:Pl}(h:Ph C o u nx c k p w)(hC:C.ok):k≤C.C+10:=by
 have iD:=hC.C
 rcases h.2.2 with⟨h1,h2⟩|⟨hg,⟨ha,h⟩|h⟩
 ·dsimp only at h2;omega
 ·have:=ha.bd;omega
 ·omega
theorem HP.fit(hC:C.ok){b:Bg}{size s0 k bb:Int}{own:Bool}{w0:Int→Int}{m:Am}(h:HP C b size own w0 s0 k m A)(hP:Pa C A bb)(bE:0≤ai size)(hF:∀ s∈b.F,0≤s∧s<C.S):m.fit C A:=by
 have w1:=hP.ok.w 1
 have hT:=hC.T
 have hS:=hC.S
 rcases h with h|⟨s,F,hb,h⟩
 ·exact h.fit hC hP.ok
 have hs:=hF s (by rw[hb];simp)
 rcases h with⟨h1,h2,h3,_⟩|⟨kk,⟨h1,h2,h3,h4,h5,h6⟩,_⟩|⟨j,b',hg,hp,hz,h⟩|⟨_,_,_,_,_,hh,kk,⟨h1,h2,h3,h4⟩,_⟩
 ·exact⟨by omega,fun e=>by omega,fun _=>by rw[h2.size];exact bE,fun _=>by rw[h2.at'];exact hs,fun e=>by omega,fun e _=>by omega,fun e=>by omega⟩
 ·exact⟨by omega,fun e=>by omega,fun _=>by rw[h1.size];exact bE,fun _=>by rw[h1.at'];exact hs,fun _=>⟨h4,hP.op _ h4.cls.1 h4.cls.2⟩,fun e _=>by omega,fun e=>by omega⟩
 ·have oT:3≤m.a.pc∧m.a.pc≤6:=by omega
  have j0:=hp.j0
  have i0:=hp.i0
  have hr:3≤aA (ai size):=by unfold aA;split<;>(try split)<;>(try split)<;>omega
  have hb:=(b6 hC j0.1 j0.2 i0.1 (by omega)).2
  have hn:=hP.n
  exact⟨by omega,fun e=>by omega,fun _=>by rw[hp.has.size];exact bE,fun _=>by rw[hp.has.at'];exact hs,fun e=>by omega,fun _ _=>⟨by rw[hp.sc];exact j0,by rw[hp.sa];omega⟩,fun e=>by omega⟩
 ·refine⟨by omega,fun e=>by omega,fun _=>by rw[hh.size];exact bE,fun _=>by rw[hh.at'];exact hs,fun e=>by omega,fun e _=>by omega,fun _=>?_⟩
  rcases h4 with⟨q,_⟩|⟨q,_⟩|⟨q,_⟩
  ·rw[q];exact⟨⟨Int.le_refl 0,(by decide:(0:Int)<18446744073709551616)⟩,h2⟩
  ·rw[q];exact⟨w1,h2⟩
  ·rw[q];exact⟨w1,h2⟩
theorem B6.has(hC:C.ok){b b':Bg}{F:List Int}{c j:Int}(h:B6 C b F c j b'):b'.F=F∧b'.lv=b.lv:=by
 rcases h with⟨_,_,e⟩|⟨_,_,_,e⟩<;>rw[e]<;>exact⟨rfl,rfl⟩
theorem B6.bd(hC:C.ok){b b':Bg}{F:List Int}{c j:Int}{w:Int→Int}(h:B6 C b F c j b')(hA:ud C b.o b.u b.nx w)(c0:0≤c)(c3:c≤3) :
  (0≤j∧j<C.C)∧(0≤b.u j∧b.u j+aA c≤b'.u j∧b'.u j≤C.W)∧(∀ i,b.u i≤b'.u i)∧b'.o c=j:=by
 have hr:=bR c0 c3
 have F6:=hA.bd
 have hW:=hC.W
 rcases h with⟨g,ej,e⟩|⟨g,hn,ej,e⟩
 ·have ho:=hA.op c c0 c3
  have hold:=hA.old _ g.1 ho.2.2
  have g2:=g.2
  subst ej
  rw[e]
  dsimp only
  refine⟨⟨g.1,by omega⟩,by rw[aE];omega,fun i=>?_,rfl⟩
  unfold aX;split
  ·rename_i q;rw[q];omega
  ·omega
 ·have rV:=hA.new _ (Int.le_refl _) hn
  subst ej
  rw[e]
  dsimp only
  refine⟨⟨F6.1,hn⟩,by rw[aE];omega,fun i=>?_,aE _ _ _⟩
  unfold aX;split
  ·rename_i q;rw[q];omega
  ·omega
theorem Dn.fX{b:Bg}{F:List Int}{c:Int}{p:Pl}{w:Int→Int}(h:Dn C b.o b.u b.nx c p w)(hr:Rs C F b.u b.lv w)(c0:0≤c)(c3:c≤3) :
  p.ok=true∧(∃ j b',B6 C b F c j b'∧p.sa=C.base j+b.u j∧p.sc=j∧b'.aw C w)∨p.ok=false∧¬ bP C b.o b.u c∧b.nx=C.C∧Aw C F b.o b.u b.lv b.nx w:=by
 have I6:=bR c0 c3
 have hu:∀ j i,b.u i≤aX b.u j (b.u j+aA c) i:=by
  intro j i
  unfold aX;split
  ·rename_i q;rw[q];omega
  ·omega
 rcases h with⟨g,h1,h2,h3,h4⟩|⟨g,hn,h1,h2,h3,h4⟩|⟨g,hn,h1,h4⟩
 ·exact .inl ⟨h1,_,_,.inl ⟨g,rfl,rfl⟩,h2,h3,hr.aw h4 (hu _)⟩
 ·exact .inl ⟨h1,_,_,.inr ⟨g,hn,rfl,rfl⟩,h2,h3,hr.aw h4 (hu _)⟩
 ·exact .inr ⟨h1,g,hn,hr.aw h4 fun _=>Int.le_refl _⟩
theorem B2(hC:C.ok){j i:Int}(j0:0≤j)(j1:j<C.C)(i0:0≤i):(∀ s,s<C.S→C.base j+i≠C.slot s)∧(∀ k,k<C.C→C.base j+i≠C.chunk k+1):=by
 have hb:=a_ hC j0 j1 i0
 have hT:=hC.T
 have iD:=hC.C
 have hS:=hC.S
 refine⟨fun s hs=>?_,fun k hk=>?_⟩
 ·unfold Cf.slot;omega
 ·unfold Cf.chunk;omega
theorem XS.step(hC:C.ok){b:Bg}{F:List Int}{size s ge s0 k bb:Int}{own:Bool}{m:Am}(h:XS C b size own s ge F s0 k m A)(ok:A.ok bb)(hb:bb<4611686018427387904)(bE:0≤ai size)(cY:ai size≤3)(hs:0≤s∧s<C.S)(su:b.Bw C)(qc:s0≤A.s) :
  ((m.step C who A).1=false∧XS C b size own s ge F s0 (k+1) (m.step C who A).2.1 (m.step C who A).2.2) ∨
  ((m.step C who A).1=true∧(m.step C who A).2.1.a.oE=0∧s0<(m.step C who A).2.1.a.oS∧(m.step C who A).2.1.a.oS≤A.s∧∃ j b',B6 C b F (ai size) j b'∧LZ C size own s ge j (b.u j) b'.u m∧(m.step C who A).2.1.a.oH=bC s ge∧(b'.count j (aA (ai size))).aw C (m.step C who A).2.2.w ∧
   (m.step C who A).2.2.w (C.slot s)=aK 1 (C.base j+b.u j) ge 0∧(m.step C who A).2.2.w (C.base j+b.u j)=aW 2 size s ge own∧∀ x,1≤x→x<aA (ai size)→(m.step C who A).2.2.w (C.base j+(b.u j+x))=0):=by
 have hr:=bR bE cY
 obtain⟨j,b',hg,hp,hz,h⟩:=h
 have j0:=hp.j0
 have i0:=hp.i0
 have n0:=B2 hC j0.1 j0.2 i0.1
 have nx:∀ x,1≤x→(∀ s,s<C.S→C.base j+(b.u j+x)≠C.slot s)∧(∀ k,k<C.C→C.base j+(b.u j+x)≠C.chunk k+1):=fun x hx=>B2 hC j0.1 j0.2 (by omega)
 obtain⟨eF,eL⟩:=hg.has hC
 have hl:=su.lv j j0.1 j0.2
 rcases h with⟨h3,hA,hz0,hk⟩|⟨hA,⟨h4,hz0,hk⟩|⟨hh,⟨h5,hk⟩|⟨h6,kL,e0,eH,hS,hk⟩⟩⟩
 ·obtain⟨q1,q2,q3,q4⟩:=E' (who:=who) hC hA hp h3 ok hb (by rw[eL];omega)
  have e:(m.step C who A).2.2=(A.by who).add (C.chunk m.a.sc+1) (aA (ai m.a.size)):=by unfold Am.step;rw[ae (by omega),ae (by omega),ae (by omega),af h3]
  refine .inl ⟨q1,j,b',hg,q3,fun x x1 x2=>?_,.inr ⟨q4,.inl ⟨q2,by rw[e,add_eq,fl,az _ _ (by rw[hp.sc];exact n0.2 j j0.2)];exact hz0,by omega⟩⟩⟩
  rw[e,add_eq,fl,az _ _ (by rw[hp.sc];exact(nx x x1).2 j j0.2)]
  exact hz x x1 x2
 ·obtain⟨q1,q2,q3,q4,q5⟩:=G3 (who:=who) hC hA hp h4 bE cY
  refine .inl ⟨q1,j,b',hg,q3,fun x x1 x2=>?_,.inr ⟨q4,.inr ⟨by rw[q5,aE],.inl ⟨q2,by omega⟩⟩⟩⟩
  rw[q5,az _ _ (by omega)];exact hz x x1 x2
 ·obtain⟨q1,q2,q3,q4,q5,q6,q7,q8⟩:=GI (who:=who) hC hA hp h5 hs ok hb
  have es:=(dJ (who:=who) (A:=A) (a:=C.slot m.a.at') (v:=aK 1 m.a.sa m.a.gen 0) ok (by omega)).s
  have e:(m.step C who A).2.2=(A.by who).store (C.slot m.a.at') (aK 1 m.a.sa m.a.gen 0):=by unfold Am.step;rw[ae (by omega),ae (by omega),ae (by omega),ae (by omega),ae (by omega),af h5]
  refine .inl ⟨q1,j,b',hg,q3,fun x x1 x2=>?_,.inr ⟨q4,.inr ⟨?_,.inr ⟨q2,by rw[q5,aE],q6,q7,?_,by omega⟩⟩⟩⟩
  ·rw[q5,az _ _ ((nx x x1).1 s hs.2)];exact hz x x1 x2
  ·rw[q5,az _ _ (n0.1 s hs.2)];exact hh
  ·rw[q8,e,es];omega
 ·obtain⟨q1,q2,q3,q4⟩:=EF (who:=who) hC hA hp h6 bE cY
  refine .inr ⟨q1,by rw[q2];exact e0,by rw[q2];exact hS.1,by rw[q2];exact hS.2,j,b',hg,hp,by rw[q2];exact eH,q3,?_,by rw[q4,aE],fun x x1 x2=>?_⟩
  ·rw[q4,az _ _ (fun q=>n0.1 s hs.2 q.symm)];exact kL
  ·rw[q4,az _ _ (by omega)];exact hz x x1 x2
theorem HP.step(hC:C.ok){b:Bg}{size s0 k bb:Int}{own:Bool}{w0:Int→Int}{m:Am}(h:HP C b size own w0 s0 k m A)(hP:Pa C A bb)(hb:bb<4611686018427387904)(bE:0≤ai size)(cY:ai size≤3)(hF:∀ s∈b.F,0≤s∧s<C.S)(hnd:b.F.Nodup)
  (su:b.Bw C) (hu:∀ j,0≤j→j<C.C→0≤b.u j) (hw:m.a.pc=1→∀ t,0≤t→t<C.S→A.w (C.slot t)=w0 (C.slot t)) (qc:s0≤A.s) (zo:(m.step C who A).2.2.s=A.s+1) (tW:∃ w,ud C b.o b.u b.nx w) :
  ((m.step C who A).1=false∧HP C b size own w0 s0 (k+1) (m.step C who A).2.1 (m.step C who A).2.2) ∨
  ((m.step C who A).1=true∧(s0≤(m.step C who A).2.1.a.oS∧(m.step C who A).2.1.a.oS≤(m.step C who A).2.2.s)∧Fin C b size own w0 s0 (m.step C who A).2.1 (m.step C who A).2.2):=by
 obtain⟨wA,tW⟩:=tW
 rcases h with h|⟨s,F,G5,h⟩
 ·have hk:k≤2:=by obtain⟨_,_,_,_,h⟩:=h;omega
  rcases h.step (who:=who) hC hP.ok hb bE with⟨q1,q2⟩|⟨q1,q2,q3,q4,q5,q6⟩|⟨q1,s,F,q2,q3,q4,q5,q6,q7⟩
  ·exact .inl ⟨q1,.inl q2⟩
  ·exact .inr ⟨q1,⟨by rw[q5,zo];omega,by rw[q5];exact Int.le_refl _⟩,.inl ⟨q3,q4,q2,q6⟩⟩
  ·exact .inl ⟨q1,.inr ⟨s,F,q2,.inl ⟨q3,⟨q5,q6,q4⟩,q7,by omega⟩⟩⟩
 have hs:=hF s (by rw[G5];simp)
 have UZ:s∉F:=by rw[G5]at hnd;exact(List.nodup_cons.1 hnd).1
 rcases h with⟨h1,h2,h3,hk⟩|⟨kk,h,hk0,hk⟩|h|⟨e6,eH,eS,SY,RG,hh,kk,h,hk0,hk⟩
 ·obtain⟨q1,q2⟩:=IC (who:=who) (b:=b) hC h3 h2 h1 bE cY
  rw[hw h1 s hs.1 hs.2]at q2
  exact .inl ⟨q1,.inr ⟨s,F,G5,.inr (.inl ⟨0,q2,Int.le_refl _,by omega⟩)⟩⟩
 ·have XA:kk≤C.C+10:=by obtain⟨_,_,_,_,q,_⟩:=h;exact q.C3 hC
  rcases h.step (who:=who) hC hP hb bE cY hu with⟨q1,q2⟩|⟨q1,q2,q3,q4,q5,q6⟩
  ·exact .inl ⟨q1,.inr ⟨s,F,G5,.inr (.inl ⟨kk+1,q2,by omega,by omega⟩)⟩⟩
  ·refine .inl ⟨q1,.inr ⟨s,F,G5,.inr (.inr ?_)⟩⟩
   rcases q5.fX q2 bE cY with⟨o1,j,b',hg,g1,g2,g3⟩|⟨o1,o2,o3,o4⟩
   ·rcases q6 with⟨r1,r2,r3,r4⟩|⟨r1,_⟩
    ·obtain⟨d1,d2,d3,d4⟩:=hg.bd hC tW bE cY
     refine .inl ⟨j,b',hg,⟨q3,q4,r4.trans g2,r3.trans g1,d1,by omega⟩,fun x x1 x2=>q2.nil j _ d1.1 d1.2 (by omega) (by omega),.inl ⟨r2,g3,q2.nil j _ d1.1 d1.2 (Int.le_refl _) (by have:=bR bE cY;omega),by omega⟩⟩
    ·rw[o1]at r1;cases r1
   ·rcases q6 with⟨r1,_⟩|⟨r1,r2,r3,r4,r5,r6⟩
    ·rw[o1]at r1;cases r1
    ·exact .inr ⟨r3,r4,⟨by rw[r5,zo];omega,by rw[r5];exact Int.le_refl _⟩,o2,o3,q3,0,⟨r2,hs,UZ,.inl ⟨r6,rfl,o4⟩⟩,Int.le_refl _,by omega⟩
 ·rcases h.step (who:=who) hC hP.ok hb bE cY hs su qc with⟨q1,q2⟩|⟨q1,q2,q3,q3b,j,b',q4,q5,q6,q7,q8,q9,q10⟩
  ·exact .inl ⟨q1,.inr ⟨s,F,G5,.inr (.inr (.inl q2))⟩⟩
  ·obtain⟨d1,d2,d3,d4⟩:=q4.bd hC tW bE cY
   exact .inr ⟨q1,⟨by omega,by omega⟩,.inr ⟨s,F,G5,.inr ⟨q2,q3,j,b',q4,d1,d2,q6,q7,q8,q9,q10⟩⟩⟩
 ·obtain⟨e1,q⟩:=h.step (who:=who) hC hP.ok hb
  rcases q with⟨q1,q2⟩|⟨q1,q2⟩
  ·refine .inl ⟨q1,.inr ⟨s,F,G5,.inr (.inr (.inr ⟨by rw[e1];exact e6,by rw[e1];exact eH,?_,SY,RG,?_,kk+1,q2,by omega,by omega⟩))⟩⟩
   ·rw[e1,zo];omega
   ·exact⟨by rw[e1];exact hh.size,by rw[e1];exact hh.own,by rw[e1];exact hh.at'⟩
  ·refine .inr ⟨q1,?_,.inr ⟨s,F,G5,.inl ⟨by rw[e1];exact e6,by rw[e1];exact eH,SY,RG,?_⟩⟩⟩
   ·rw[e1,zo];omega
   ·unfold Bg.aw;rw[G5];exact q2
end Go.Fl
namespace Go.Fl
open Go
variable{N:Nm}{A B:Ar}{σ:Mem}{K:Value→Mem→Prop}{C:Cf}{who:Int}
theorem HP.C3(hC:C.ok){b:Bg}{size s0 k:Int}{own:Bool}{w0:Int→Int}{m:Am}(h:HP C b size own w0 s0 k m A):k≤C.C+19:=by
 have iD:=hC.C
 rcases h with⟨_,_,_,_,h⟩|⟨s,F,hb,⟨_,_,_,h⟩|⟨kk,⟨_,_,_,_,h1,h2⟩,h⟩|⟨j,b',_,_,_,h⟩|⟨_,_,_,_,_,_,kk,⟨_,_,_,h1⟩,h⟩⟩
 ·omega
 ·omega
 ·have:=h1.C3 hC;omega
 ·omega
 ·omega
theorem HP.spot(hC:C.ok){b:Bg}{size s0 k:Int}{own:Bool}{w0 w:Int→Int}{m:Am}(h:HP C b size own w0 s0 k m A)(tW:ud C b.o b.u b.nx w)(bE:0≤ai size)(cY:ai size≤3)(h3:3≤m.a.pc)(h6:m.a.pc≤6) :
  ∃ s F j,b.F=s::F∧m.a.at'=s∧m.a.sa=C.base j+b.u j∧(0≤j∧j<C.C)∧0≤b.u j∧b.u j+aA (ai size)≤C.W:=by
 rcases h with⟨_,_,_,h,_⟩|⟨s,F,hb,⟨h,_⟩|⟨kk,⟨_,_,h,_⟩,_⟩|⟨j,b',hg,hp,_⟩|⟨_,_,_,_,_,_,kk,⟨h,_⟩,_⟩⟩
 ·omega
 ·omega
 ·omega
 ·obtain⟨d1,d2,d3,d4⟩:=hg.bd hC tW bE cY
  exact⟨s,F,j,hb,hp.has.at',hp.sa,d1,by omega,by omega⟩
 ·omega
theorem Fw.mono{b:Bg}{c c':Prop}{w0 w:Int→Int}(h:Fw C b c w0 w)(hc:c→c'):Fw C b c' w0 w:=⟨fun t t0 t1 ht=>h.slot t t0 t1 fun q=>ht (hc q),h.word⟩
theorem HP.fw(hC:C.ok){b:Bg}{size s0 k a:Int}{own:Bool}{w0 w:Int→Int}{m:Am}{r:Bool×Am×Ar}(hM:HP C b size own w0 s0 k m A)(kF:m.fit C A)(tW:ud C b.o b.u b.nx w)(bE:0≤ai size)(cY:ai size≤3)
  (ht:Xe C A m r a) (hf:Fw C b (m.a.pc=6) w0 A.w) {ch:Prop} (kW:m.a.pc=5∨m.a.pc=6→ch):Fw C b ch w0 r.2.2.w:=by
 have hT:=hC.T
 have hS:=hC.S
 have iD:=hC.C
 have hr:=bR bE cY
 have low:a<C.base 0∨(m.a.pc=4∨m.a.pc=6)∧a=m.a.sa:=by
  have yR:C.base 0=6+C.T+2*C.S+3*C.C:=by unfold Cf.base;omega
  rcases ht.kind with⟨_,h|⟨s,s0,s1,h⟩⟩|⟨h1,h,_⟩|⟨h1,h⟩|⟨h1,h⟩|⟨h1,h⟩|⟨h1,h⟩
  ·left;omega
  ·left;unfold Cf.slot at h;omega
  ·have:=kF.at' (by omega);left;unfold Cf.slot at h;omega
  ·have:=(kF.pl h1).1.at';have:=(kF.pl h1).1.cls;left;unfold Cf.chunk at h;omega
  ·have:=(kF.spot (by omega) (by omega)).1;left;unfold Cf.chunk at h;omega
  ·exact .inr ⟨h1,h⟩
  ·have:=kF.at' (by omega);left;unfold Cf.slot at h;omega
 refine⟨fun t t0 t1 hx=>?_,fun j i j0 j1 i0 i1 i2=>?_⟩
 ·have hold:A.w (C.slot t)=w0 (C.slot t):=hf.slot t t0 t1 fun q=>hx (kW (.inr q))
  by_cases e:C.slot t=a
  ·rcases ht.kind with⟨_,h|⟨s,s0,s1,h⟩⟩|⟨h1,h,h2⟩|⟨h1,h⟩|⟨h1,h⟩|⟨h1,h⟩|⟨h1,h⟩
   ·unfold Cf.slot at e;omega
   ·unfold Cf.slot at e h;omega
   ·rw[h2];exact hold
   ·have:=(kF.pl h1).1.at';have:=(kF.pl h1).1.cls;unfold Cf.chunk at h;unfold Cf.slot at e;omega
   ·have:=(kF.spot (by omega) (by omega)).1;unfold Cf.chunk at h;unfold Cf.slot at e;omega
   ·obtain⟨s,F,j,q1,q2,q3,q4,q5,q6⟩:=hM.spot hC tW bE cY (by omega) (by omega)
    exact absurd (by rw[e,h,q3]) ((B2 hC q4.1 q4.2 q5).1 t t1).symm
   ·obtain⟨s,F,j,q1,q2,q3,q4,q5,q6⟩:=hM.spot hC tW bE cY (by omega) (by omega)
    have:t=s:=by rw[h,q2]at e;unfold Cf.slot at e;omega
    subst this
    exact absurd q1 (hx (kW (.inl h1)) F)
  ·rw[ht.w _ e];exact hold
 ·have BE:C.base 0≤C.base j+i:=by have:=EP hC j0 (by omega);unfold Cf.base;omega
  rw[ht.w _ ?_]
  ·exact hf.word j i j0 j1 i0 i1 i2
  ·rcases low with q|⟨q,e⟩
   ·omega
   ·obtain⟨s,F,jj,q1,q2,q3,q4,q5,q6⟩:=hM.spot hC tW bE cY (by omega) (by omega)
    rw[e,q3]
    intro q7
    obtain⟨rfl,q8⟩:=bW hC j0 j1 i0 i2 q4.1 q4.2 q5 (by omega) q7
    omega
theorem bH(n:Int) : -1≤ai n∧ai n≤3:=by unfold ai;(repeat' split)<;>omega
theorem Xe.bd(hC:C.ok){m:Am}{r:Bool×Am×Ar}{a:Int}(h:Xe C A m r a)(hf:m.fit C A)(hs:m.a.pc=4∨m.a.pc=6→C.base 0≤m.a.sa∧m.a.sa<C.len) :
  (0≤a∧a<C.len)∧(C.base 0≤a→(m.a.pc=4∨m.a.pc=6)∧a=m.a.sa):=by
 have hl:=br hC
 have hT:=hC.T
 have hS:=hC.S
 have iD:=hC.C
 have yR:C.base 0=6+C.T+2*C.S+3*C.C:=by unfold Cf.base;omega
 have kW:C.chunk C.C=6+C.T+2*C.S+3*C.C:=rfl
 rcases h.kind with⟨_,h|⟨s,s0,s1,h⟩⟩|⟨h1,h,_⟩|⟨h1,h⟩|⟨h1,h⟩|⟨h1,h⟩|⟨h1,h⟩
 ·omega
 ·unfold Cf.slot at h;omega
 ·have:=hf.at' (by omega);unfold Cf.slot at h;omega
 ·have:=(hf.pl h1).1.at';have:=(hf.pl h1).1.cls;unfold Cf.chunk at *;omega
 ·have:=(hf.spot (by omega) (by omega)).1;unfold Cf.chunk at *;omega
 ·have:=hs h1
  exact⟨by omega,fun _=>⟨h1,h⟩⟩
 ·have:=hf.at' (by omega);unfold Cf.slot at h;omega
structure Fz(C:Cf)(b:Bg)(size:Int)(own:Bool)(A0:Ar)(bb k:Int)(m:Am)(A:Ar):Prop where
 ph:HP C b size own A0.w A0.s k m A
 pa:Pa C A (bb+k)
 fw:Fw C b (m.a.pc=6) A0.w A.w
 s:A.s=A0.s+k
 n:A.n=A0.n
 la:A0.la<C.len→A.la<C.len
theorem Fz.new{b:Bg}{size bb:Int}{own:Bool}(hP:Pa C A bb)(kM:b.aw C A.w):Fz C b size own A bb 0 (Am.new size own) A:=
 ⟨.inl (L0.new kM),by simpa using hP,⟨fun _ _ _ _=>rfl,fun _ _ _ _ _ _ _=>rfl⟩,by omega,rfl,id⟩
theorem Fz.fit(hC:C.ok){b:Bg}{size bb k:Int}{own:Bool}{A0:Ar}{m:Am}(h:Fz C b size own A0 bb k m A)(kM:b.aw C A0.w)(bE:0≤ai size):m.fit C A:=
 h.ph.fit hC h.pa bE fun s hs=>kM.yq.c.mem s hs
theorem Fz.step(hC:C.ok){b:Bg}{size bb k:Int}{own:Bool}{A0:Ar}{m:Am}(h:Fz C b size own A0 bb k m A)(hb:bb<2305843009213693952)(kM:b.aw C A0.w)(su:b.Bw C)(bE:0≤ai size)(k0:0≤k) :
  ((∃ a,Xe C A m (m.step C who A) a)∧(m.step C who A).2.2.la<C.len)∧(((m.step C who A).1=false∧Fz C b size own A0 bb (k+1) (m.step C who A).2.1 (m.step C who A).2.2) ∨
   ((m.step C who A).1=true∧Xi C b size own A0.w A0.s (m.step C who A).2.1 (m.step C who A).2.2∧Pa C (m.step C who A).2.2 (bb+k+1))):=by
 obtain⟨h,BF,hf,hs,pC,hla⟩:=h
 have cY:=(bH size).2
 have iD:=hC.C
 have hF:∀ s∈b.F,0≤s∧s<C.S:=fun s hs=>kM.yq.c.mem s hs
 have hnd:=kM.yq.nd
 have hu:∀ j,0≤j→j<C.C→0≤b.u j:=fun j j0 j1=>Aw.u0 kM j0 j1
 have kF:=h.fit hC BF bE hF
 have G2:=h.C3 hC
 have Lc:¬(m.a.pc=0∧ai m.a.size<0):=by
  rintro⟨q0,q⟩
  rcases h with⟨_,e,_⟩|⟨s,F,hb,⟨h,_⟩|⟨kk,⟨_,_,h,_⟩,_⟩|⟨j,b',hg,hp,_,h⟩|⟨_,_,_,_,_,_,kk,⟨h,_⟩,_⟩⟩
  ·rw[e]at q;omega
  all_goals omega
 obtain⟨g1,a,g2⟩:=Am.go (who:=who) hC (by omega) BF kF Lc (fun q=>by
  obtain⟨s,F,j,q1,q2,q3,q4,q5,q6⟩:=h.spot hC kM.jJ bE cY (by omega) (by omega)
  have:=EP hC q4.1 (by have:=hC.C;omega)
  rw[q3];unfold Cf.base;omega)
 have kT:=h.step (who:=who) hC BF (by omega) bE cY hF hnd su hu (fun q t t0 t1=>hf.slot t t0 t1 fun e=>by omega) (by omega) g2.s ⟨_,kM.jJ⟩
 have oT:m.a.pc=5∨m.a.pc=6→(m.step C who A).2.1.a.pc=6∧((m.step C who A).1=true→(m.step C who A).2.1.a.oE=0):=by
  intro q
  rcases q with q|q
  ·have e:m.step C who A=(false,{ m with a:={ m.a with pc:=6,oE:=0,oH:=bC m.a.at' m.a.gen,oV:=0,oS:=((A.by who).store (C.slot m.a.at') (aK 1 m.a.sa m.a.gen 0)).s } },(A.by who).store (C.slot m.a.at') (aK 1 m.a.sa m.a.gen 0)):=by
    unfold Am.step;rw[ae (by omega),ae (by omega),ae (by omega),ae (by omega),ae (by omega),af q]
   rw[e];exact⟨rfl,fun x=>by cases x⟩
  ·have e:m.step C who A=(true,m,(A.by who).store m.a.sa (aW 2 m.a.size m.a.at' m.a.gen m.a.own)):=by
    unfold Am.step;rw[ae (by omega),ae (by omega),ae (by omega),ae (by omega),ae (by omega),ae (by omega),af q]
   rw[e]
   refine⟨q,fun _=>?_⟩
   rcases h with⟨_,_,_,h,_⟩|⟨s,F,hb,⟨h,_⟩|⟨kk,⟨_,_,h,_⟩,_⟩|⟨j,b',hg,hp,_,h⟩|⟨_,_,_,_,_,_,kk,⟨h,_⟩,_⟩⟩
   ·omega
   ·omega
   ·omega
   ·rcases h with⟨h,_⟩|⟨_,⟨h,_⟩|⟨_,⟨h,_⟩|⟨_,_,h,_⟩⟩⟩
    ·omega
    ·omega
    ·omega
    ·exact h
   ·omega
 have Vf:(m.step C who A).2.2.la<C.len:=by
  rw[g2.la]
  refine(g2.bd hC kF fun q=>?_).1.2
  obtain⟨s,F,j,u1,u2,u3,u4,u5,u6⟩:=h.spot hC kM.jJ bE cY (by omega) (by omega)
  have hr:=bR bE cY
  have h1:=b6 hC u4.1 u4.2 u5 (by omega)
  have h2:=a_ hC u4.1 u4.2 u5
  have yR:C.base 0=6+C.T+2*C.S+3*C.C:=by unfold Cf.base;omega
  rw[u3];exact⟨by omega,h1.2.2⟩
 have ab5:=g2.s
 refine⟨⟨⟨a,g2⟩,Vf⟩,?_⟩
 rcases kT with⟨d,kT⟩|⟨d,hS,kT⟩
 ·exact .inl ⟨d,kT,by rw[show bb+(k+1)=bb+k+1 by omega];exact g1,h.fw hC kF kM.jJ bE cY g2 hf fun q=>(oT q).1,by omega,g2.n.trans pC,fun _=>Vf⟩
 ·exact .inr ⟨d,⟨⟨hS,by omega⟩,h.fw hC kF kM.jJ bE cY g2 hf fun q=>(oT q).2 d,kT⟩,g1⟩
end Go.Fl
namespace Go.Fl
open Go
variable{N:Nm}{A B:Ar}{σ:Mem}{K:Value→Mem→Prop}{C:Cf}{who:Int}
def Bg.fr(C:Cf):Bg:=⟨B7 0 C.S.toNat,fun _ => -1,fun _=>0,fun _=>0,0⟩
theorem Ao(hC:C.ok){a:Int}(h:C.chunk 0≤a):C.w0 a=0:=by
 have:=hC.T;have:=hC.S
 unfold Cf.chunk at h
 unfold Cf.w0 Cf.fr Cf.slot
 rw[ae (by omega),ae (by omega),ae (by omega)]
theorem Vv(hC:C.ok):(Bg.fr C).aw C C.w0:=by
 have hT:=hC.T
 have hS:=hC.S
 have iD:=hC.C
 have hW:=hC.W
 have yR:C.base 0=6+C.T+2*C.S+3*C.C:=by unfold Cf.base;omega
 have Li:C.chunk 0=6+C.T+2*C.S:=by unfold Cf.chunk;omega
 refine⟨aa1 hC,⟨⟨(by decide:(0:Int)≤0),by show(0:Int)≤C.C;omega⟩,fun c c0 c3=>⟨FG hC c0 c3,(by decide:(-1:Int) ≤ -1),(by decide:(-1:Int)<0)⟩,fun c _ _ h=>absurd h (by decide:¬(0:Int) ≤ -1),fun j j0 j1=>?_,fun j j0 j1=>⟨H7 hC j0,rfl⟩⟩,fun j j0 j1=>?_,fun j i j0 j1 i0 i1=>?_⟩
 ·have:j<0:=j1
  omega
 ·exact Ao hC (by unfold Cf.chunk at *;omega)
 ·have:(0:Int)≤i:=i0
  have:=EP hC j0 (by omega)
  exact Ao hC (by rw[Li];unfold Cf.base;omega)
theorem DK.pa(hC:C.ok)(h:DK N C A):Pa C A (2*C.S+2):=by
 have hl:=br hC
 have iD:=hC.C
 refine⟨h.ok,?_,fun c c0 c3=>?_⟩
 ·rw[h.n];omega
 ·rw[h.w,FG hC c0 c3];omega
theorem DK.aw(hC:C.ok)(h:DK N C A):(Bg.fr C).aw C A.w:=by rw[h.w];exact Vv hC
structure Bg.Kg(b:Bg)(C:Cf)(M:Int):Prop where
 lv:∀ j,0≤j→j<C.C→0≤b.lv j∧b.lv j≤M
theorem Bg.Kg.ok{b:Bg}{M:Int}(h:b.Kg C M)(hM:M≤1000000000):b.Bw C:=⟨fun j j0 j1=>by have:=h.lv j j0 j1;omega⟩
theorem Bg.Kg.mono{b:Bg}{M M':Int}(h:b.Kg C M)(hM:M≤M'):b.Kg C M':=⟨fun j j0 j1=>by have:=h.lv j j0 j1;omega⟩
theorem Vu:(Bg.fr C).Kg C 0:=⟨fun _ _ _=>⟨Int.le_refl 0,Int.le_refl 0⟩⟩
theorem Bg.Kg.count{b b':Bg}{F:List Int}{M c j:Int}(hC:C.ok)(h:b.Kg C M)(hg:B6 C b F c j b')(c0:0≤c)(c3:c≤3):(b'.count j (aA c)).Kg C (M+17):=by
 have hr:=bR c0 c3
 refine⟨fun i i0 i1=>?_⟩
 have e:(b'.count j (aA c)).lv=aX b.lv j (b.lv j+aA c):=by
  show aX b'.lv j (b'.lv j+aA c)=_
  rw[(hg.has hC).2]
 have:=h.lv i i0 i1
 rw[e]
 unfold aX
 split
 ·rename_i q;subst q;omega
 ·omega
theorem Fin.ok{b:Bg}{size s0 s:Int}{own:Bool}{w0:Int→Int}{m:Am}{F:List Int}(h:Fin C b size own w0 s0 m A)(hF:b.F=s::F)(hr:bP C b.o b.u (ai size)∨b.nx≠C.C) :
  m.a.oE=0∧s0<m.a.oS∧∃ j b',B6 C b F (ai size) j b'∧(0≤j∧j<C.C)∧(0≤b.u j∧b.u j+aA (ai size)≤b'.u j∧b'.u j≤C.W)∧m.a.oH=bC s (b9 (w0 (C.slot s)))∧(b'.count j (aA (ai size))).aw C A.w ∧
   A.w (C.slot s)=aK 1 (C.base j+b.u j) (b9 (w0 (C.slot s))) 0∧A.w (C.base j+b.u j)=aW 2 size s (b9 (w0 (C.slot s))) own∧∀ x,1≤x→x<aA (ai size)→A.w (C.base j+(b.u j+x))=0:=by
 rcases h with⟨_,_,h,_⟩|⟨s',F',h,⟨_,_,h1,h2,_⟩|h'⟩
 ·rw[hF]at h;cases h
 ·rcases hr with q|q
  ·exact absurd q h1
  ·exact absurd h2 q
 ·rw[hF]at h
  cases h
  exact h'
theorem Ob.ext{p:Nat}{O:List Nat}{m:Am}{τ:Mem}(h:Ob N p O m σ)(x:Ext σ τ):Ob N p O m τ:=by
 obtain⟨⟨a,b,h1,h2,h3⟩,h4,h5⟩:=h
 refine⟨⟨a,b,x _ _ h1,fun e=>?_,fun e=>?_⟩,h4,h5⟩
 ·obtain⟨q,q1,q2,q3,q4⟩:=h2 e;exact⟨q,q1,q2,q3,x _ _ q4⟩
 ·obtain⟨q,q1,q2,q3,q4⟩:=h3 e;exact⟨q,q1,q2,q3,x _ _ q4⟩
end Go.Fl
namespace Go.Fl
open Go
variable{N:Nm}{A B:Ar}{σ:Mem}{K:Value→Mem→Prop}{C:Cf}{who:Int}
def XU(C:Cf)(F:List Int)(o u lv:Int→Int)(nx s:Int)(k:Int)(g:Gv)(w:Int→Int):Prop:=
 (0≤s∧s<C.S)∧s∉F∧(g=⟨0,s,0⟩∧k=0∧Aw C F o u lv nx w∨g=⟨1,s,w 1⟩∧k=1∧Aw C F o u lv nx w ∨
  g=⟨2,s,w 1⟩∧k=2∧∃ w0,Aw C F o u lv nx w0∧w0 1=w 1∧w=aX w0 (C.slot s+1) (bV (dO (w0 1)) 0))
theorem XU.step(hC:C.ok){F:List Int}{o u lv:Int→Int}{nx s k bb:Int}{g:Gv}(h:XU C F o u lv nx s k g A.w)(ok:A.ok bb)(hb:bb<4611686018427387904) :
  ((∀ a,a≠1→a≠C.slot s+1→(g.step C who A).2.2.w a=A.w a)∧(g.step C who A).2.2.s=A.s+1∧(g.step C who A).2.2.n=A.n∧(g.step C who A).2.2.ok (bb+1)∧((g.step C who A).2.2.la=1∨(g.step C who A).2.2.la=C.slot s+1)) ∧
  (((g.step C who A).1=false∧XU C F o u lv nx s (k+1) (g.step C who A).2.1 (g.step C who A).2.2.w)∨((g.step C who A).1=true∧Aw C (s::F) o u lv nx (g.step C who A).2.2.w)):=by
 obtain⟨s0,hn,h⟩:=h
 have hT:=hC.T
 have hS:=hC.S
 rcases h with⟨q,hk,hA⟩|⟨q,hk,hA⟩|⟨q,hk,w0,hA,e1,e2⟩
 ·rw[q,Gv.y5]
  have a1:=cW (who:=who) (A:=A) (a:=1) ok (by omega)
  exact⟨⟨fun a _ _=>rfl,a1.s,rfl,a1.ok (by decide) ok ok.w,.inl rfl⟩,.inl ⟨rfl,s0,hn,.inr (.inl ⟨rfl,by omega,hA⟩)⟩⟩
 ·rw[q,Gv.FN]
  have a1:=dJ (who:=who) (A:=A) (a:=C.slot s+1) (v:=bV (dO (A.w 1)) 0) ok (by omega)
  have n1:aX A.w (C.slot s+1) (bV (dO (A.w 1)) 0) 1=A.w 1:=az _ _ (by unfold Cf.slot;omega)
  refine⟨⟨fun a _ h2=>by rw[a1.w];exact az _ _ h2,a1.s,a1.n,a1.ok (by decide) ok (fun i=>dm (P:=fun x=>0≤x∧x<18446744073709551616) (gG _ _) (ok.w i)),.inr rfl⟩,.inl ⟨rfl,s0,hn,.inr (.inr ⟨?_,by omega,A.w,hA,?_,a1.w⟩)⟩⟩
  ·show Gv.mk 2 s (A.w 1)=⟨2,s,_⟩;rw[a1.w,n1]
  ·rw[a1.w,n1]
 ·rw[q,Gv.yZ]
  have a1:=dy (who:=who) (A:=A) (a:=1) (o:=A.w 1) (v:=bV s (lx (A.w 1)+1)) ok (by omega)
  rw[af rfl]at a1
  refine⟨⟨fun a h1 _=>by rw[a1.w];exact az _ _ h1,a1.s,a1.n,a1.ok (by decide) ok (fun i=>dm (P:=fun x=>0≤x∧x<18446744073709551616) (gG _ _) (ok.w i)),.inl lG⟩,.inr ⟨decide_eq_true rfl,?_⟩⟩
  show Aw C (s::F) o u lv nx ((A.by who).dI 1 (A.w 1) (bV s (lx (A.w 1)+1))).w
  have:=hA.Lm hC s0 hn
  unfold pE at this
  rw[a1.w,e2,az _ _ (by unfold Cf.slot;omega)]
  exact this
structure Do where
 n:Int
 ws:Int
 z:Int
 own:Bool
 j:Int
 i:Int
def Do.s(d:Do):Int:=aJ d.n
def Do.ge(d:Do):Int:=b_ d.n
def Do.a(d:Do)(C:Cf):Int:=C.base d.j+d.i
def Do.v(d:Do)(C:Cf):Int:=aK 4 (d.a C) d.ge (cO d.ws+1)
def Do.nx(d:Do)(C:Cf):Int:=if C.G≤d.ge then aK 3 0 d.ge 0 else aK 0 0 (d.ge+1) 0
structure Do.ok(d:Do)(C:Cf)(b:Bg)(w:Int→Int):Prop where
 n:0≤d.n∧d.n<18446744073709551616
 lI:jB d.n=true
 s:0≤d.s∧d.s<C.S
 sF:d.s∉b.F
 ge:0≤d.ge∧d.ge≤65535
 ws:w (C.slot d.s)=d.ws
 st:cF d.ws=1∨cF d.ws=2
 sa:a8 d.ws=d.a C
 sg:b9 d.ws=d.ge
 hd:gH (w (d.a C))=d.z∧sy (w (d.a C))=d.own
 cl:0≤ai d.z
 j:0≤d.j∧d.j<C.C
 i:0≤d.i∧d.i+aA (ai d.z)≤b.u d.j
 z:d.z+1≤aA (ai d.z)
 lv:aA (ai d.z)≤b.lv d.j
def Do.fr(d:Do)(C:Cf)(w0 w:Int→Int):Prop:=∀ a,a≠C.slot d.s→a≠1→a≠C.slot d.s+1→a≠C.chunk d.j+1→¬(d.a C<a∧a≤d.a C+d.z)→w a=w0 a
def Bg.less(b:Bg)(j n:Int):Bg:={ b with lv:=aX b.lv j (b.lv j-n) }
def O5(C:Cf)(b:Bg)(d:Do)(w0:Int→Int)(s0 k:Int)(m:Dm)(A:Ar):Prop:=
 m.d.n=d.n∧m.d.own=d.own∧(
  (m.d.pc=0∧k≤0∧A.w=w0∧m.d.hs=0∧m.d.w=0) ∨
  (m.d.hs=d.s∧m.d.hg=d.ge∧m.d.w=d.ws∧(
   (m.d.pc=1∧k≤1∧A.w=w0) ∨
   (m.d.size=d.z∧(
    (m.d.pc=2∧k≤2∧A.w=w0) ∨
    (d.fr C w0 A.w∧(
     (m.d.pc=3∧b.aw C A.w∧A.w (C.slot d.s)=d.v C∧(m.h.slot=d.s∧m.h.w=d.v C∧m.h.size=d.z)∧(0≤m.h.i∧m.h.i≤d.z)∧(0≤m.h.cell∧m.h.cell<18446744073709551616) ∧
      (m.h.read=false∧k≤3+2*m.h.i∨m.h.read=true∧m.h.i<d.z∧A.w m.h.a=m.h.cell∧k≤4+2*m.h.i)) ∨
     (A.w (C.slot d.s)=d.nx C∧m.d.oE=0∧(s0<m.d.oS∧m.d.oS≤A.s)∧(
      (m.d.pc=5∧b.aw C A.w∧k≤4+2*d.z) ∨
      (m.d.pc=6∧¬ C.G≤d.ge∧∃ kk,XU C b.F b.o b.u (aX b.lv d.j (b.lv d.j-aA (ai d.z))) b.nx d.s kk m.g A.w∧0≤kk∧k≤5+2*d.z+kk))))))))))
structure DnD(C:Cf)(b:Bg)(d:Do)(w0:Int→Int)(s0:Int)(m:Dm)(A:Ar):Prop where
 e:m.d.oE=0
 st:s0<m.d.oS∧m.d.oS≤A.s
 fr:d.fr C w0 A.w
 sl:A.w (C.slot d.s)=d.nx C
 aw:Bg.aw { b.less d.j (aA (ai d.z))with F:=if C.G≤d.ge then b.F else d.s::b.F } C A.w
theorem Do.av(d:Do)(hC:C.ok){b:Bg}{w:Int→Int}(h:d.ok C b w)(hA:∃ w,b.aw C w):(0≤d.a C∧d.a C+d.z<C.len∧d.a C≤1048575∧C.base 0≤d.a C)∧1≤d.z∧d.z≤16∧d.i+d.z<C.W∧d.i+d.z<b.u d.j:=by
 obtain⟨w',hA⟩:=hA
 have hr:=bR h.cl (bH d.z).2
 have hz:1≤d.z∧d.z≤16:=by have:=h.cl;unfold ai at this;(repeat' split at this)<;>omega
 have hj:=h.j
 have hi:=h.i
 have hzz:=h.z
 have hu:b.u d.j≤C.W:=by
  have hW:=hC.W
  by_cases e:d.j<b.nx
  ·exact(hA.jJ.old _ hj.1 e).2.2.2
  ·have:=(hA.jJ.new _ (by omega) hj.2).2;omega
 have h1:=b6 hC hj.1 hj.2 hi.1 (by omega)
 have h2:=b6 hC hj.1 hj.2 (i:=d.i+d.z) (by omega) (by omega)
 have h3:=a_ hC hj.1 hj.2 hi.1
 have hl:=br hC
 have yR:C.base 0=6+C.T+2*C.S+3*C.C:=by unfold Cf.base;omega
 have ea:d.a C=C.base d.j+d.i:=rfl
 refine⟨⟨by omega,by omega,by omega,by omega⟩,hz.1,hz.2,by omega,by omega⟩
theorem O5.C3{b:Bg}{d:Do}{w0:Int→Int}{s0 k:Int}{m:Dm}(h:O5 C b d w0 s0 k m A)(hz:d.z≤16):k≤40:=by
 obtain⟨_,_,⟨_,h,_⟩|⟨_,_,_,⟨_,h,_⟩|⟨_,⟨_,h,_⟩|⟨_,⟨_,_,_,_,h1,_,h⟩|⟨_,_,_,⟨_,_,h⟩|⟨_,_,kk,⟨_,_,h1⟩,h2,h⟩⟩⟩⟩⟩⟩:=h
 ·omega
 ·omega
 ·omega
 ·omega
 ·omega
 ·omega
theorem dT{st ad ge ve:Int}(h1:0≤st∧st≤7)(h2:0≤ad∧ad≤1048575)(h3:0≤ge∧ge≤65535) :
  cF (aK st ad ge ve)=st∧a8 (aK st ad ge ve)=ad∧b9 (aK st ad ge ve)=ge:=by
 have e:aK st ad ge ve=aK st ad ge (cl ve 4194303):=by
  unfold aK;rw[fP (n:=cl ve 4194303) (gI (by decide)) gJ]
 have:=fc (ve:=cl ve 4194303) h1 h2 h3 ⟨gI (by decide),gJ⟩
 rw[e];exact⟨this.1,this.2.1,this.2.2.1⟩
theorem Do.vp(d:Do)(hC:C.ok){b:Bg}{w:Int→Int}(h:d.ok C b w)(hA:∃ w,b.aw C w):cF (d.v C)=4∧a8 (d.v C)=d.a C∧b9 (d.v C)=d.ge:=by
 have:=d.av hC h hA
 exact dT (by decide) ⟨this.1.1,this.1.2.2.1⟩ h.ge
theorem Do.nxp(d:Do)(BE:0≤d.ge∧d.ge≤65535)(hG:C.G≤65535):cF (d.nx C)=3∨cF (d.nx C)=0:=by
 unfold Do.nx;split
 ·exact .inl (dT (by decide) (by decide) BE).1
 ·exact .inr (dT (by decide) (by decide) (by omega)).1
theorem V_{b a o v:Int}(h:A.ok b)(hb:b<9223372036854775807)(e:A.w a=o)(hv:o≠v):((A.by who).dI a o v).t a=A.s+1:=by
 rw[cx (by exact e),A3,JW,h.s1 hb,W6,af (by rw[e];exact hv),aE]
theorem O5.fit(hC:C.ok){b:Bg}{d:Do}{w0:Int→Int}{s0 k:Int}{m:Dm}(h:O5 C b d w0 s0 k m A)(hd:d.ok C b w0)(hA:b.aw C w0)(hw:∀ i,0≤A.w i∧A.w i<18446744073709551616)(hw0:∀ i,0≤w0 i∧w0 i<18446744073709551616)(hn:C.len≤A.n):m.fit C A:=by
 have hS:=hC.S
 have hs:=hd.s
 obtain⟨av1,av2⟩:=d.av hC hd ⟨_,hA⟩
 obtain⟨v1,v2,v3⟩:=d.vp hC hd ⟨_,hA⟩
 have UP:0≤d.ws∧d.ws<18446744073709551616:=by rw[←hd.ws];exact hw0 _
 have RF:qz C (d.a C)=d.j:=(b6 hC hd.j.1 hd.j.2 hd.i.1 (by omega)).1
 obtain⟨e1,e2,⟨h,_,_,h1,h2⟩|⟨h1,_,h2,⟨h,_⟩|⟨hz,⟨h,_⟩|⟨_,⟨h,_,_,h3,h4,h5,_⟩|⟨_,_,_,⟨h,_⟩|⟨h,_,kk,⟨h3,h4,h5⟩,_⟩⟩⟩⟩⟩⟩:=h
 ·exact⟨by omega,by rw[e1];exact hd.n,by rw[h1];omega,by rw[h2];decide,fun q=>by omega,fun q=>by omega,fun q=>by omega,fun q=>by omega⟩
 ·exact⟨by omega,by rw[e1];exact hd.n,by rw[h1];exact hs,by rw[h2];exact UP,fun q=>by rw[h2,hd.sa];omega,fun q=>by omega,fun q=>by omega,fun q=>by omega⟩
 ·exact⟨by omega,by rw[e1];exact hd.n,by rw[h1];exact hs,by rw[h2];exact UP,fun q=>by omega,fun q=>by omega,fun q=>by omega,fun q=>by omega⟩
 ·refine⟨by omega,by rw[e1];exact hd.n,by rw[h1];exact hs,by rw[h2];exact UP,fun q=>by omega,fun _=>?_,fun q=>by omega,fun q=>by omega⟩
  exact⟨by rw[h3.1];exact hs,by rw[h3.2.1];exact cV _ _ _ _,h5,by omega,by omega,fun q=>by rw[h3.2.1,v2];omega⟩
 ·exact⟨by omega,by rw[e1];exact hd.n,by rw[h1];exact hs,by rw[h2];exact UP,fun q=>by omega,fun q=>by omega,fun _=>⟨by rw[hz];exact hd.cl,by rw[h2,hd.sa,RF];exact hd.j⟩,fun q=>by omega⟩
 ·refine⟨by omega,by rw[e1];exact hd.n,by rw[h1];exact hs,by rw[h2];exact UP,fun q=>by omega,fun q=>by omega,fun q=>by omega,fun _=>?_⟩
  have w1:=hw 1
  rcases h5 with⟨q,_⟩|⟨q,_⟩|⟨q,_⟩
  ·rw[q];exact⟨⟨Int.le_refl 0,(by decide:(0:Int)<18446744073709551616)⟩,h3⟩
  ·rw[q];exact⟨w1,h3⟩
  ·rw[q];exact⟨w1,h3⟩
structure Td(C:Cf)(A A':Ar)(d:Do):Prop where
 s:A'.s=A.s+1
 n:A'.n=A.n
 ok:∀ bb,A.ok bb→A'.ok (bb+1)
 la:A'.la=C.slot d.s∨A'.la=d.a C∨A'.la=1∨A'.la=C.slot d.s+1∨A'.la=C.chunk d.j+1∨d.a C<A'.la∧A'.la≤d.a C+d.z
 hd:A'.la=d.a C→A'.lc=false
theorem O5.step(hC:C.ok){b:Bg}{d:Do}{w0:Int→Int}{s0 k bb:Int}{m:Dm}(h:O5 C b d w0 s0 k m A)(hd:d.ok C b w0)(hA:b.aw C w0)(ok:A.ok bb)(hb:bb<4611686018427387904)(qc:s0≤A.s)(su:b.lv d.j<18446744073709551616) :
  Td C A (m.step C who A).2.2 d ∧
  (((m.step C who A).1=false∧O5 C b d w0 s0 (k+1) (m.step C who A).2.1 (m.step C who A).2.2)∨((m.step C who A).1=true∧DnD C b d w0 s0 (m.step C who A).2.1 (m.step C who A).2.2)):=by
 have hT:=hC.T
 have hS:=hC.S
 have iD:=hC.C
 have hs:=hd.s
 have hj:=hd.j
 have hG:=hC.G
 have hr:=bR hd.cl (bH d.z).2
 obtain⟨av1,av2⟩:=d.av hC hd ⟨_,hA⟩
 obtain⟨v1,v2,v3⟩:=d.vp hC hd ⟨_,hA⟩
 have RF:qz C (d.a C)=d.j:=(b6 hC hd.j.1 hd.j.2 hd.i.1 (by omega)).1
 have yR:C.base 0=6+C.T+2*C.S+3*C.C:=by unfold Cf.base;omega
 have esl:C.slot d.s=6+C.T+2*d.s:=rfl
 have ech:C.chunk d.j=6+C.T+2*C.S+3*d.j:=rfl
 have fr0:d.fr C w0 w0:=fun _ _ _ _ _ _=>rfl
 have ld:∀ a,a=C.slot d.s∨a=d.a C∨d.a C<a∧a≤d.a C+d.z→Td C A ((A.by who).load a) d:=fun a ha=>
  ⟨(cW ok (by omega)).s,rfl,fun b2 o2=>by
   have:=ok.s;have:=o2.s
   have a1:=cW (who:=who) (A:=A) (a:=a) ok (by omega)
   exact a1.ok (by decide) o2 o2.w,by rcases ha with h|h|h;exact .inl h;exact .inr (.inl h);exact .inr (.inr (.inr (.inr (.inr h)))),fun _=>rfl⟩
 have cs:∀ a o v,0≤v∧v<18446744073709551616→(a=C.slot d.s∨d.a C<a∧a≤d.a C+d.z)→Td C A ((A.by who).dI a o v) d:=fun a o v hv ha=>by
  have a1:=dy (who:=who) (A:=A) (a:=a) (o:=o) (v:=v) ok (by omega)
  refine⟨a1.s,a1.n,fun b2 o2=>a1.ok (by decide) o2 fun i=>?_,?_,fun q=>?_⟩
  ·split
   ·exact dm (P:=fun x=>0≤x∧x<18446744073709551616) hv (ok.w i)
   ·exact ok.w i
  ·rw[lG];rcases ha with h|h;exact .inl h;exact .inr (.inr (.inr (.inr (.inr h))))
  ·rw[lG]at q;omega
 obtain⟨e1,e2,⟨h,hk,ew,h1,h2⟩|⟨h1,BE,h2,⟨h,hk,ew⟩|⟨hz,⟨h,hk,ew⟩|⟨fr,⟨h,jC,kL,⟨S5,HM,h3c⟩,h4,h5,h6⟩|⟨kL,oE,oS,⟨h,jC,hk⟩|⟨h,SY,kk,hg,hk0,hk⟩⟩⟩⟩⟩⟩:=h
 ·have hl:dZ (A.w (C.slot (aJ m.d.n))) (b_ m.d.n):=by
   rw[e1,ew]
   have:=hd.ws;have h3:=hd.st
   exact⟨by rw[show C.slot (aJ d.n)=C.slot d.s from rfl,this];omega,by rw[show C.slot (aJ d.n)=C.slot d.s from rfl,this];exact hd.sg⟩
  have e:m.step C who A=(false,{ m with d:={ m.d with hs:=aJ m.d.n,hg:=b_ m.d.n,w:=A.w (C.slot (aJ m.d.n)),pc:=1 } },(A.by who).load (C.slot (aJ m.d.n))):=by
   unfold Dm.step;rw[af h,ae ?_,af hl]
   rintro(q|q)
   ·rw[e1,hd.lI]at q;cases q
   ·rw[e1]at q;exact absurd hs.2 (by show ¬ aJ d.n<C.S;omega)
  rw[e]
  exact⟨ld _ (.inl (by rw[e1];rfl)),.inl ⟨rfl,e1,e2,.inr ⟨by show aJ m.d.n=_;rw[e1];rfl,by show b_ m.d.n=_;rw[e1];rfl,by show A.w (C.slot (aJ m.d.n))=_;rw[e1,ew];exact hd.ws,.inl ⟨rfl,by omega,ew⟩⟩⟩⟩
 ·have e:m.step C who A=(false,{ m with d:={ m.d with size:=gH (A.w (a8 m.d.w)),pc:=2 } },(A.by who).load (a8 m.d.w)):=by
   have:=hd.st
   unfold Dm.step;rw[ae (by omega),af h,ae (by rw[h2,hd.sa,ew,hd.hd.2,e2];simp),ae (by rw[h2];omega)]
  rw[e]
  exact⟨ld _ (.inr (.inl (by rw[h2];exact hd.sa))),.inl ⟨rfl,e1,e2,.inr ⟨h1,BE,h2,.inr ⟨by show gH (A.w (a8 m.d.w))=_;rw[h2,hd.sa,ew];exact hd.hd.1,.inl ⟨rfl,by omega,ew⟩⟩⟩⟩⟩
 ·have ev:aK 4 (a8 m.d.w) (b9 m.d.w) (cO m.d.w+1)=d.v C:=by rw[h2,hd.sa,hd.sg];rfl
  have eq:A.w (C.slot m.d.hs)=m.d.w:=by rw[h1,h2,ew];exact hd.ws
  have e:m.step C who A=(false,{ m with d:={ m.d with pc:=3 },h:=Hl.new m.d.hs (d.v C) m.d.size },(A.by who).dI (C.slot m.d.hs) m.d.w (d.v C)):=by
   unfold Dm.step;rw[ae (by omega),ae (by omega),af h,af eq,ev]
  have a1:=dy (who:=who) (A:=A) (a:=C.slot m.d.hs) (o:=m.d.w) (v:=d.v C) ok (by omega)
  rw[af eq,h1,ew]at a1
  rw[e,h1]
  refine⟨cs _ _ _ (cV _ _ _ _) (.inl rfl),.inl ⟨rfl,e1,e2,.inr ⟨h1,BE,h2,.inr ⟨hz,.inr ⟨fun a n1 _ _ _ _=>by rw[a1.w];exact az _ _ n1,.inl ⟨rfl,?_,by rw[a1.w,aE],⟨rfl,rfl,hz⟩,⟨Int.le_refl 0,by show(0:Int)≤d.z;omega⟩,(by decide:(0:Int)≤0∧(0:Int)<18446744073709551616),.inl ⟨rfl,by show k+1≤3+2*0;omega⟩⟩⟩⟩⟩⟩⟩
  rw[a1.w];exact hA.Iu hC hs.1 hs.2
 ·have hha:m.h.a=d.a C+1+m.h.i:=by unfold Hl.a;rw[HM,v2]
  have e:m.step C who A=(if(m.h.step C who A).1=true then(false,{ m with d:={ m.d with oE:=0,oH:=0,oV:=0,oS:=(m.h.step C who A).2.2.t (C.slot m.d.hs),pc:=5 } },(m.h.step C who A).2.2)else(false,{ m with h:=(m.h.step C who A).2.1 },(m.h.step C who A).2.2)):=by
   unfold Dm.step;rw[ae (by omega),ae (by omega),ae (by omega),af h]
  rw[e]
  by_cases ci:m.h.size≤m.h.i
  ·have enx:m.h.next C=d.nx C:=by unfold Hl.next Do.nx;rw[HM,v3]
   have eq:A.w (C.slot m.h.slot)=m.h.w:=by rw[S5,HM];exact kL
   have eh:m.h.step C who A=(true,{ m.h with Xk:=decide (A.w (C.slot m.h.slot)=m.h.w) },(A.by who).dI (C.slot m.h.slot) m.h.w (m.h.next C)):=by unfold Hl.step;rw[af ci]
   have a1:=dy (who:=who) (A:=A) (a:=C.slot m.h.slot) (o:=m.h.w) (v:=m.h.next C) ok (by omega)
   rw[af eq,S5,HM,enx]at a1
   have jd:m.h.w≠d.nx C:=by
    intro q
    have:=d.nxp hd.ge hG.2
    rw[←q,HM,v1]at this;omega
   have ht:=V_ (who:=who) (v:=m.h.next C) ok (by omega) eq (by rw[enx];exact jd)
   rw[eh,af rfl]
   dsimp only
   rw[enx]at ht ⊢
   rw[S5]at ht ⊢
   rw[h1,ht]
   refine⟨cs _ _ _ (by unfold Do.nx;split<;>exact cV _ _ _ _) (.inl rfl),.inl ⟨rfl,e1,e2,.inr ⟨by first|exact h1|rfl,BE,h2,.inr ⟨hz,.inr ⟨fun a n1 n2 n3 n4 n5=>?_,.inr ⟨?_,rfl,?_,.inl ⟨rfl,?_,?_⟩⟩⟩⟩⟩⟩⟩
   ·rw[HM,a1.w,az _ _ n1];exact fr a n1 n2 n3 n4 n5
   ·rw[HM,a1.w,aE]
   ·have:=a1.s;rw[HM,this];dsimp only;omega
   ·unfold Bg.aw;rw[HM,a1.w];exact Aw.Iu hC jC hs.1 hs.2
   ·omega
  ·have hiz:m.h.i<d.z:=by omega
   have F5:d.a C<m.h.a∧m.h.a≤d.a C+d.z:=by omega
   rcases h6 with⟨Xx,hk⟩|⟨MM,_,hc,hk⟩
   ·by_cases q:lL (A.w m.h.a)=true∧kX (A.w m.h.a)=cO m.h.w
    ·have eh:m.h.step C who A=(false,{ m.h with cell:=A.w m.h.a,read:=false,i:=m.h.i+1 },(A.by who).load m.h.a):=by unfold Hl.step;rw[ae ci,af Xx,af q]
     rw[eh,ae (show ¬(false=true)from Bool.false_ne_true)]
     exact⟨ld _ (.inr (.inr F5)),.inl ⟨rfl,e1,e2,.inr ⟨h1,BE,h2,.inr ⟨hz,.inr ⟨fr,.inl ⟨h,jC,kL,⟨S5,HM,h3c⟩,⟨by dsimp only;omega,by dsimp only;omega⟩,ok.w _,.inl ⟨rfl,by dsimp only;omega⟩⟩⟩⟩⟩⟩⟩
    ·have eh:m.h.step C who A=(false,{ m.h with cell:=A.w m.h.a,read:=true },(A.by who).load m.h.a):=by unfold Hl.step;rw[ae ci,af Xx,ae q]
     rw[eh,ae (show ¬(false=true)from Bool.false_ne_true)]
     exact⟨ld _ (.inr (.inr F5)),.inl ⟨rfl,e1,e2,.inr ⟨h1,BE,h2,.inr ⟨hz,.inr ⟨fr,.inl ⟨h,jC,kL,⟨S5,HM,h3c⟩,h4,ok.w _,.inr ⟨rfl,hiz,rfl,by dsimp only;omega⟩⟩⟩⟩⟩⟩⟩
   ·have eh:m.h.step C who A=(false,{ m.h with read:=false,i:=m.h.i+1 },(A.by who).dI m.h.a m.h.cell (aT (kN m.h.cell) true (cO m.h.w))):=by unfold Hl.step;rw[ae ci,ae (by rw[MM];decide),af hc]
    have a1:=dy (who:=who) (A:=A) (a:=m.h.a) (o:=m.h.cell) (v:=aT (kN m.h.cell) true (cO m.h.w)) ok (by omega)
    rw[af hc]at a1
    rw[eh,ae (show ¬(false=true)from Bool.false_ne_true)]
    refine⟨cs _ _ _ (dC _ _ _) (.inr F5),.inl ⟨rfl,e1,e2,.inr ⟨h1,BE,h2,.inr ⟨hz,.inr ⟨fun a n1 n2 n3 n4 n5=>?_,.inl ⟨h,?_,?_,⟨S5,HM,h3c⟩,⟨by dsimp only;omega,by dsimp only;omega⟩,h5,.inl ⟨rfl,by dsimp only;omega⟩⟩⟩⟩⟩⟩⟩
    ·rw[a1.w,az _ _ (by rintro rfl;exact n5 F5)];exact fr a n1 n2 n3 n4 n5
    ·have e3:m.h.a=C.base d.j+(d.i+1+m.h.i):=by rw[hha];unfold Do.a;omega
     have hi:=hd.i
     rw[a1.w,e3]
     exact Aw.word hC jC hj.1 hj.2 (by omega) (by omega) (by omega)
    ·rw[a1.w,az _ _ (by omega)];exact kL
 ·have e:m.step C who A=(decide (C.G≤m.d.hg),{ m with d:={ m.d with pc:=6 },g:=⟨0,m.d.hs,0⟩ },(A.by who).add (C.chunk d.j+1) (IntKind.u64.wrap (-aA (ai d.z)))):=by
   unfold Dm.step;rw[ae (by omega),ae (by omega),ae (by omega),ae (by omega),ae (by omega),af h,h2,hd.sa,RF,hz]
  have hl:=jC.live d.j hj.1 hj.2
  have hlr:=hd.lv
  have ew:IntKind.u64.wrap (A.w (C.chunk d.j+1)+IntKind.u64.wrap (-aA (ai d.z)))=b.lv d.j-aA (ai d.z):=by
   rw[hl,IntKind.wrap_u64,IntKind.wrap_u64];omega
  have a1:=dJ (who:=who) (A:=A) (a:=C.chunk d.j+1) (v:=b.lv d.j-aA (ai d.z)) ok (by omega)
  have ea:(A.by who).add (C.chunk d.j+1) (IntKind.u64.wrap (-aA (ai d.z)))=(A.by who).store (C.chunk d.j+1) (b.lv d.j-aA (ai d.z)):=by rw[add_eq,W6,ew]
  have aw':(b.less d.j (aA (ai d.z))).aw C ((A.by who).store (C.chunk d.j+1) (b.lv d.j-aA (ai d.z))).w:=by
   unfold Bg.aw;rw[a1.w];exact Aw.dZ hC jC hj.1 hj.2
  have RO:d.fr C w0 ((A.by who).store (C.chunk d.j+1) (b.lv d.j-aA (ai d.z))).w:=fun a n1 n2 n3 n4 n5=>by rw[a1.w,az _ _ n4];exact fr a n1 n2 n3 n4 n5
  have yy:((A.by who).store (C.chunk d.j+1) (b.lv d.j-aA (ai d.z))).w (C.slot d.s)=d.nx C:=by rw[a1.w,az _ _ (by omega)];exact kL
  have td:Td C A ((A.by who).store (C.chunk d.j+1) (b.lv d.j-aA (ai d.z))) d:=
   ⟨a1.s,a1.n,fun b2 o2=>a1.ok (by decide) o2 fun i=>dm (P:=fun x=>0≤x∧x<18446744073709551616) (by omega) (ok.w i),.inr (.inr (.inr (.inr (.inl rfl)))),fun q=>by
    have q':C.chunk d.j+1=d.a C:=q
    omega⟩
  have SH:s0<m.d.oS∧m.d.oS≤((A.by who).store (C.chunk d.j+1) (b.lv d.j-aA (ai d.z))).s:=by rw[a1.s];omega
  rw[e,ea]
  refine⟨td,?_⟩
  by_cases g:C.G≤d.ge
  ·refine .inr ⟨decide_eq_true (by rw[BE];exact g),oE,SH,RO,yy,?_⟩
   rw[af g];exact aw'
  ·refine .inl ⟨decide_eq_false (by rw[BE];exact g),e1,e2,.inr ⟨h1,BE,h2,.inr ⟨hz,.inr ⟨RO,.inr ⟨yy,oE,SH,.inr ⟨rfl,g,0,⟨hs,hd.sF,.inl ⟨by rw[h1],rfl,aw'⟩⟩,Int.le_refl 0,by omega⟩⟩⟩⟩⟩⟩
 ·have e:m.step C who A=((m.g.step C who A).1,{ m with g:=(m.g.step C who A).2.1 },(m.g.step C who A).2.2):=by
   unfold Dm.step;rw[ae (by omega),ae (by omega),ae (by omega),ae (by omega),ae (by omega),ae (by omega)]
  obtain⟨⟨q1,q2,q3,q4,q5⟩,q⟩:=hg.step (who:=who) hC ok hb
  rw[e]
  have td:Td C A (m.g.step C who A).2.2 d:=⟨q2,q3,fun b2 o2=>?_,by rcases q5 with q|q;exact .inr (.inr (.inl q));exact .inr (.inr (.inr (.inl q))),fun q=>by
   rcases q5 with q5|q5<;>(rw[q5]at q;omega)⟩
  rotate_left
  ·have:=o2.s;have:=q4.s;have h5:=q4.t
   exact⟨q4.w,⟨by omega,by omega⟩,h5⟩
  have RO:d.fr C w0 (m.g.step C who A).2.2.w:=fun a n1 n2 n3 n4 n5=>by rw[q1 a n2 n3];exact fr a n1 n2 n3 n4 n5
  have yy:(m.g.step C who A).2.2.w (C.slot d.s)=d.nx C:=by rw[q1 _ (by omega) (by omega)];exact kL
  have SH:s0<m.d.oS∧m.d.oS≤(m.g.step C who A).2.2.s:=by rw[q2];omega
  refine⟨td,?_⟩
  rcases q with⟨q,h'⟩|⟨q,h'⟩
  ·exact .inl ⟨q,e1,e2,.inr ⟨h1,BE,h2,.inr ⟨hz,.inr ⟨RO,.inr ⟨yy,oE,SH,.inr ⟨h,SY,kk+1,h',by omega,by omega⟩⟩⟩⟩⟩⟩
  ·refine .inr ⟨q,oE,SH,RO,yy,?_⟩
   rw[ae SY];exact h'
end Go.Fl
namespace Go.Fl
open Go
variable{N:Nm}{A B:Ar}{σ:Mem}{K:Value→Mem→Prop}{C:Cf}{who:Int}
theorem Bg.aw.pa{b:Bg}{bb:Int}(hC:C.ok)(h:b.aw C A.w)(ok:A.ok bb)(hn:C.len≤A.n):Pa C A bb:=by
 refine⟨ok,hn,fun c c0 c3=>?_⟩
 have:=h.jJ.op c c0 c3
 have:=h.jJ.bd
 omega
theorem lh{bb b':Int}(h:A.ok bb)(hb:bb≤b'):A.ok b':=⟨h.w,⟨h.s.1,by have:=h.s.2;omega⟩,h.t⟩
end Go.Fl
namespace Go.Fl
open Go
variable{N:Nm}{A B:Ar}{σ:Mem}{K:Value→Mem→Prop}{C:Cf}{who:Int}
theorem tv{s g:Int}(s0:0≤s∧s≤65535)(g0:1≤g∧g≤65535):(0≤bC s g∧bC s g<18446744073709551616)∧jB (bC s g)=true∧aJ (bC s g)=s∧b_ (bC s g)=g∧bC s g=s+g*65536:=by
 have e:bC s g=s+g*65536:=by unfold bC;rw[fP s0.1 s0.2,fP (by omega) g0.2]
 have ho:jB (bC s g)=true:=decide_eq_true (by rw[e];omega)
 refine⟨by rw[e];omega,ho,?_,?_,e⟩
 ·unfold aJ;rw[ho,e];simp only[if_true];omega
 ·unfold b_;rw[ho,e];simp only[if_true];omega
theorem bT{n:Int}(h:0≤ai n):(1≤n∧n≤16)∧n+1≤aA (ai n):=by
 unfold ai at *
 split at h
 ·omega
 ·rename_i h1;rw[ae h1]
  split at h
  ·rename_i h2;rw[af h2];refine⟨by omega,?_⟩;show n+1≤3;omega
  ·rename_i h2;rw[ae h2]
   split at h
   ·rename_i h3;rw[af h3];refine⟨by omega,?_⟩;show n+1≤5;omega
   ·rename_i h3;rw[ae h3]
    split at h
    ·rename_i h4;rw[af h4];refine⟨by omega,?_⟩;show n+1≤9;omega
    ·rename_i h4;rw[ae h4]
     split at h
     ·rename_i h5;rw[af h5];refine⟨by omega,?_⟩;show n+1≤17;omega
     ·omega
def Do.mk'(C:Cf)(b:Bg)(s ge z:Int)(own:Bool)(j:Int):Do:=⟨bC s ge,aK 1 (C.base j+b.u j) ge 0,z,own,j,b.u j⟩
theorem B6.jV(hC:C.ok){b b':Bg}{F:List Int}{c j n:Int}(hg:B6 C b F c j b'):(b'.count j n).F=F∧(b'.count j n).lv=aX b.lv j (b.lv j+n)∧(b'.count j n).u=aX b.u j (b.u j+aA c):=by
 obtain⟨h1,h2⟩:=hg.has hC
 refine⟨h1,?_,?_⟩
 ·show aX b'.lv j (b'.lv j+n)=_;rw[h2]
 ·show b'.u=_
  rcases hg with⟨_,_,q⟩|⟨_,_,_,q⟩<;>rw[q]
theorem B6.do(hC:C.ok){b b':Bg}{F:List Int}{z s j ge:Int}{own:Bool}{w:Int→Int}(hc:0≤ai z)(s0:0≤s∧s<C.S)(sF:s∉F)(g0:1≤ge∧ge≤65535)(hg:B6 C b F (ai z) j b')(tW:∃ w,ud C b.o b.u b.nx w)(su:0≤b.lv j)
  (h1:w (C.slot s)=aK 1 (C.base j+b.u j) ge 0) (h2:w (C.base j+b.u j)=aW 2 z s ge own):(Do.mk' C b s ge z own j).ok C (b'.count j (aA (ai z))) w:=by
 have hS:=hC.S
 have G4:=(bH z).2
 obtain⟨wA,tW⟩:=tW
 obtain⟨d1,d2,d3,d4⟩:=hg.bd hC tW hc G4
 obtain⟨sz,szr⟩:=bT hc
 obtain⟨c1,c2,c3⟩:=hg.jV hC (n:=aA (ai z))
 obtain⟨u0,u1,u2,u3,u4⟩:=tv (s:=s) (g:=ge) (by omega) g0
 have Jg:=b6 hC d1.1 d1.2 d2.1 (by omega)
 have hb2:=a_ hC d1.1 d1.2 d2.1
 have hl:=br hC
 obtain⟨p1,p2,p3,p4⟩:=fc (st:=1) (ad:=C.base j+b.u j) (ge:=ge) (ve:=0) (by decide) (by omega) (by omega) (by decide)
 obtain⟨q1,q2,q3,q4,q5⟩:=je (k:=2) (s:=z) (t:=s) (g:=ge) (o:=own) (by decide) (by omega) (by omega) (by omega)
 have es:(Do.mk' C b s ge z own j).s=s:=u2
 have eg:(Do.mk' C b s ge z own j).ge=ge:=u3
 exact⟨u0,u1,by rw[es];exact s0,by rw[es,c1];exact sF,by rw[eg];omega,by rw[es];exact h1,.inl p1,p2,by rw[eg];exact p3,⟨by show gH (w (C.base j+b.u j))=z;rw[h2];exact q2,by show sy (w (C.base j+b.u j))=own;rw[h2];exact q5⟩,hc,d1,
  ⟨d2.1,by show b.u j+aA (ai z)≤(b'.count j (aA (ai z))).u j;rw[c3,aE];exact Int.le_refl _⟩,szr,by show aA (ai z)≤(b'.count j (aA (ai z))).lv j;rw[c2,aE];omega⟩
theorem Do.ok.aL{d:Do}{b b':Bg}{w w':Int→Int}(h:d.ok C b w)(sF:d.s∉b'.F)(h1:w' (C.slot d.s)=w (C.slot d.s))(h2:w' (d.a C)=w (d.a C))(hu:b.u d.j≤b'.u d.j)(su:aA (ai d.z)≤b'.lv d.j):d.ok C b' w':=
 ⟨h.n,h.lI,h.s,sF,h.ge,by rw[h1];exact h.ws,h.st,h.sa,h.sg,by rw[h2];exact h.hd,h.cl,h.j,⟨h.i.1,by have:=h.i.2;omega⟩,h.z,su⟩
end Go.Fl
namespace Go.Fl
open Go
variable{N:Nm}{A B:Ar}{σ:Mem}{K:Value→Mem→Prop}{C:Cf}{who:Int}
theorem xW{k:IntKind}{n:Nat}{f g:Int→Int}(h:∀ i:Int,0≤i→i<n→g i=f i):cells k n f++[.int k (g n)]=cells k (n+1) g:=by
 unfold cells
 rw[List.range_succ,List.map_append]
 congr 1
 apply List.map_congr_left
 intro i hi
 rw[h i (by omega) (by have:=List.mem_range.1 hi;omega)]
def fa(f:Int→Bool)(a:Int)(v:Bool):Int→Bool:=fun i=>if i=a then v else f i
def mL(f:Int→Int):Nat→Int
 | 0=>0
 | n+1=>mL f n+f n
theorem pS{f g:Int→Int}:∀{n:Nat},(∀ i:Int,0≤i→i<n→f i=g i)→mL f n=mL g n
 | 0,_=>rfl
 | n+1,h=>by
  show mL f n+f n=mL g n+g n
  rw[pS (n:=n) fun i i0 i1=>h i i0 (by omega),h n (by omega) (by omega)]
theorem FJ{f:Int→Int}:∀{n:Nat},(∀ i,0≤f i)→0≤mL f n
 | 0,_=>Int.le_refl 0
 | n+1,h=>by have:=FJ (n:=n) h;have:=h n;show 0≤mL f n+f n;omega
theorem AZ{f:Int→Int}{k:Int}:∀{n:Nat},(∀ i,0≤f i)→0≤k→k<n→f k≤mL f n
 | 0,_,h0,h1=>by omega
 | n+1,h,h0,h1=>by
  show f k≤mL f n+f n
  by_cases e:k=n
  ·subst e;have:=FJ (n:=n) h;omega
  ·have:=AZ (n:=n) h h0 (by omega);have:=h n;omega
theorem Cy{f:Int→Int}{k v:Int}:∀{n:Nat},0≤k→k<n→mL (aX f k v) n=mL f n-f k+v
 | 0,h0,h1=>by omega
 | n+1,h0,h1=>by
  show mL (aX f k v) n+aX f k v n=mL f n+f n-f k+v
  by_cases e:k=n
  ·subst e
   rw[aE,pS (f:=aX f (n:Int) v) (g:=f) fun i i0 i1=>az _ _ (by omega)];omega
  ·rw[az _ _ (by omega),Cy (n:=n) h0 (by omega)];omega
def Do.rm(d:Do):Int:=aA (ai d.z)
def part(dd:Int→Do)(li:Int→Bool)(j:Int):Int→Int:=fun k=>if li k=true∧(dd k).j=j then(dd k).rm else 0
theorem Do.Ra{d:Do}:0<d.rm∧d.rm≤17:=by
 unfold Do.rm aA;(repeat' split)<;>decide
def m5(dd:Int→Do)(n:Int)(d:Do):Int→Do:=fun k=>if k=n then d else dd k
end Go.Fl
namespace Go.Fl
open Go
variable{N:Nm}{A B:Ar}{σ:Mem}{K:Value→Mem→Prop}{C:Cf}{who:Int}
theorem Ph.ck(hC:C.ok){o u:Int→Int}{nx c k:Int}{p:Pl}(c0:0≤c)(c3:c≤3)(h:Ph C o u nx c k p A.w){j:Int}(j0:0≤j)(j1:j<nx):bL ((p.step C who A).2.2.w (C.chunk j))=bL (A.w (C.chunk j)):=by
 have hT:=hC.T;have hS:=hC.S
 have ld:∀ a,((A.by who).load a).w=A.w:=fun _=>rfl
 obtain⟨_,bE,h⟩:=h
 by_cases p0:p.pc=0
 ·have e:(p.step C who A).2.2=(A.by who).load (2+p.cls):=by unfold Pl.step;rw[af p0]
  rw[e,ld]
 by_cases p1:p.pc=1
 ·have e:(p.step C who A).2.2=(A.by who).load (C.chunk p.at'):=by unfold Pl.step;rw[ae p0,af p1]
  rw[e,ld]
 by_cases p3:p.pc=3
 ·have e:(p.step C who A).2.2=(A.by who).load (C.chunk p.at'):=by unfold Pl.step;rw[ae p0,ae p1,ae (by omega),af p3];dsimp only;split<;>rfl
  rw[e,ld]
 by_cases p2:p.pc=2
 ·have e:(p.step C who A).2.2=(A.by who).dI (C.chunk p.at') p.w (aR (bF p.w) (bL p.w) (bD p.w+aA p.cls) (eM p.w)):=by unfold Pl.step;rw[ae p0,ae p1,af p2]
  rw[e]
  by_cases q:A.w (C.chunk p.at')=p.w
  ·rw[cx (by exact q)]
   show bL (aX A.w (C.chunk p.at') _ (C.chunk j))=_
   by_cases e:C.chunk j=C.chunk p.at'
   ·rw[e,aE,q]
    unfold aR bL cl
    have:=Fb p.w
    unfold bF at *
    omega
   ·rw[az _ _ e]
  ·rw[gB (by exact q)];rfl
 by_cases p4:p.pc=4
 ·have e:(p.step C who A).2.2=(A.by who).dI (C.chunk p.at') p.w p.fresh:=by unfold Pl.step;rw[ae p0,ae p1,ae p2,ae p3,af p4];split<;>rfl
  have iM:p.at'=nx:=by
   rcases h with⟨_,h⟩|⟨_,⟨_,h⟩|h⟩<;>omega
  rw[e]
  by_cases q:A.w (C.chunk p.at')=p.w
  ·rw[cx (by exact q)]
   show bL (aX A.w (C.chunk p.at') _ (C.chunk j))=_
   rw[az _ _ fun e=>by have:=ml e;omega]
  ·rw[gB (by exact q)];rfl
 have p5:p.pc=5:=by
  rcases h with⟨_,h⟩|⟨_,⟨_,h⟩|h⟩<;>omega
 have e:(p.step C who A).2.2=(A.by who).dI (2+p.cls) p.k_ (p.at'+1):=by unfold Pl.step;rw[ae p0,ae p1,ae p2,ae p3,ae p4,af p5]
 rw[e]
 by_cases q:A.w (2+p.cls)=p.k_
 ·rw[cx (by exact q)]
  show bL (aX A.w (2+p.cls) _ (C.chunk j))=_
  rw[az _ _ (by unfold Cf.chunk;omega)]
 ·rw[gB (by exact q)];rfl
theorem Fz.ck(hC:C.ok){b:Bg}{size bb k:Int}{own:Bool}{A0:Ar}{m:Am}(h:Fz C b size own A0 bb k m A)(hb:bb<2305843009213693952)(kM:b.aw C A0.w)(su:b.Bw C)(bE:0≤ai size)(k0:0≤k){j:Int}(j0:0≤j)(j1:j<b.nx) :
  bL ((m.step C who A).2.2.w (C.chunk j))=bL (A.w (C.chunk j)):=by
 have hT:=hC.T;have hS:=hC.S;have iD:=hC.C
 have cY:=(bH size).2
 obtain⟨⟨⟨a,ht⟩,_⟩,_⟩:=h.step (who:=who) hC hb kM su bE k0
 have RG:=kM.jJ.bd
 by_cases c2:m.a.pc=2
 ·have hp:∃ kk,Ph C b.o b.u b.nx (ai size) kk m.t A.w:=by
   rcases h.ph with q|⟨s,F,hF,q|⟨kk,q,_⟩|⟨jj,b',_,hs,_,q⟩|⟨_,_,_,_,_,_,kk,q,_⟩⟩
   ·have:=q.2.2.2.1;omega
   ·omega
   ·exact⟨kk,q.2.2.2.2.1⟩
   ·rcases q with q|q
    ·omega
    ·rcases q.2 with q|⟨_,q|q⟩<;>omega
   ·have:=q.1;omega
  obtain⟨kk,hp⟩:=hp
  have e:(m.step C who A).2.2=(m.t.step C who A).2.2:=by
   unfold Am.step
   rw[ae (by omega),ae (by omega),af c2]
   dsimp only
   (repeat' split)<;>rfl
  rw[e]
  exact hp.ck hC bE cY j0 j1
 by_cases c1:m.a.pc=1
 ·rcases ht.kind with⟨q,_⟩|⟨_,_,q⟩|⟨q,_⟩|⟨q,_⟩|⟨q,_⟩|⟨q,_⟩
  ·rcases q with q|q<;>(rw[c1]at q;exact absurd q (by decide))
  ·rw[q]
  all_goals omega
 have jd:C.chunk j≠a:=by
  have yp:=C.chunk j
  rcases ht.kind with⟨_,q|⟨s,s0,s1,q⟩⟩|⟨q,_⟩|⟨q,_⟩|⟨q,q'⟩|⟨q,q'⟩|⟨q,q'⟩
  ·unfold Cf.chunk;omega
  ·unfold Cf.slot at q;unfold Cf.chunk;omega
  ·omega
  ·omega
  ·unfold Cf.chunk at *;omega
  ·obtain⟨s,F,jj,_,_,q1,q2,q3,q4⟩:=h.ph.spot hC kM.jJ bE cY (by omega) (by omega)
   have:=a_ hC q2.1 q2.2 q3
   unfold Cf.chunk;omega
  ·obtain⟨s,F,jj,hF,q0,q1,q2,q3,q4⟩:=h.ph.spot hC kM.jJ bE cY (by omega) (by omega)
   have hm:=kM.yq.c.mem s (by rw[hF];simp)
   unfold Cf.slot at q';unfold Cf.chunk;omega
 rw[ht.w _ jd]
def lD(C:Cf)(i:Int):Prop:=i=0∨6≤i∧i<6+C.T
theorem Fz.lo(hC:C.ok){b:Bg}{size bb k:Int}{own:Bool}{A0:Ar}{m:Am}(h:Fz C b size own A0 bb k m A)(hb:bb<2305843009213693952)(kM:b.aw C A0.w)(su:b.Bw C)(bE:0≤ai size)(k0:0≤k){i:Int}(hi:lD C i):(m.step C who A).2.2.w i=A.w i:=by
 have hT:=hC.T;have hS:=hC.S;have iD:=hC.C
 have cY:=(bH size).2
 obtain⟨⟨⟨a,ht⟩,_⟩,_⟩:=h.step (who:=who) hC hb kM su bE k0
 have XF:=h.fit hC kM bE
 have xI:i=0∨6≤i∧i<6+C.T:=hi
 have sp:3≤m.a.pc→m.a.pc≤6→(0≤m.a.at'∧m.a.at'<C.S)∧6+C.T+2*C.S+3*C.C≤m.a.sa:=fun q1 q2=>by
  obtain⟨s,F,jj,hF,q0,q1,q2,q3,q4⟩:=h.ph.spot hC kM.jJ bE cY q1 q2
  have hm:=kM.yq.c.mem s (by rw[hF];simp)
  have:=a_ hC q2.1 q2.2 q3
  omega
 by_cases c1:m.a.pc=1
 ·rcases ht.kind with⟨q,_⟩|⟨_,_,q⟩|⟨q,_⟩|⟨q,_⟩|⟨q,_⟩|⟨q,_⟩
  ·rcases q with q|q<;>(rw[c1]at q;exact absurd q (by decide))
  ·rw[q]
  all_goals omega
 refine ht.w _ ?_
 rcases ht.kind with⟨_,q|⟨s,s0,s1,q⟩⟩|⟨q,_⟩|⟨q,q'⟩|⟨q,q'⟩|⟨q,q'⟩|⟨q,q'⟩
 ·omega
 ·unfold Cf.slot at q;omega
 ·omega
 ·have hf2:=(XF.pl q).1
  rcases q' with q'|q'
  ·have:=hf2.cls;omega
  ·have:=hf2.at';unfold Cf.chunk at q';omega
 ·have UY:=(XF.spot (by omega) (by omega)).1
  unfold Cf.chunk at q';omega
 ·have:=(sp (by omega) (by omega)).2;omega
 ·have:=(sp (by omega) (by omega)).1;unfold Cf.slot at q';omega
theorem LH(hN:N.ok)(hC:C.ok)(hA:aZ N A σ){b:Bg}{size bb:Int}{own:Bool}(hP:Pa C A bb)(hb:bb<2305843009213693952)(kM:b.aw C A.w)(su:b.Bw C)(bE:0≤ai size)
  (hk:∀ m A' τ,Xi C b size own A.w A.s m A'→Pa C A' (bb+100)→A'.n=A.n→(∀ j,0≤j→j<b.nx→bL (A'.w (C.chunk j))=bL (A.w (C.chunk j)))→(∀ i,lD C i→A'.w i=A.w i)→aZ N A' τ→aQ N.l σ τ→K (.agg #[.int .i64 m.a.oE,.int .u64 m.a.oH,.int .i64 m.a.oV,.int .i64 m.a.oS]) τ) :
  tj [N.env C who,.int .i64 size,.bool own] K σ:=by
 have iD:=hC.C
 refine JR hN hC hA (fun k m A'=>Fz C b size own A bb k m A'∧(∀ j,0≤j→j<b.nx→bL (A'.w (C.chunk j))=bL (A.w (C.chunk j)))∧∀ i,lD C i→A'.w i=A.w i) (fun m A'=>Xi C b size own A.w A.s m A'∧Pa C A' (bb+100)∧A'.n=A.n∧(∀ j,0≤j→j<b.nx→bL (A'.w (C.chunk j))=bL (A.w (C.chunk j)))∧∀ i,lD C i→A'.w i=A.w i) ⟨.new hP kM,fun _ _ _=>rfl,fun _ _=>rfl⟩ ?_ (fun m A' h=>by have:=h.1.ph.C3 hC;omega) fun m A' τ h=>hk m A' τ h.1 h.2.1 h.2.2.1 h.2.2.2.1 h.2.2.2.2
 rintro k m A' k0 k1 ⟨h,yp,pD⟩
 refine⟨h.fit hC kM bE,h.pa.ok.w,h.pa.n,?_⟩
 have G2:=h.ph.C3 hC
 have Jf:∀ j,0≤j→j<b.nx→bL ((m.step C who A').2.2.w (C.chunk j))=bL (A.w (C.chunk j)):=fun j j0 j1=>(h.ck hC hb kM su bE k0 j0 j1).trans (yp j j0 j1)
 have Jb:∀ i,lD C i→(m.step C who A').2.2.w i=A.w i:=fun i hi=>(h.lo hC hb kM su bE k0 hi).trans (pD i hi)
 obtain⟨⟨⟨a,ht⟩,hla⟩,h2⟩:=h.step (who:=who) hC hb kM su bE k0
 rcases h2 with⟨d,h'⟩|⟨d,h',BF⟩
 ·rw[ae (by rw[d];decide)];exact⟨h',Jf,Jb⟩
 ·rw[af d];exact⟨h',BF.mono (by omega),ht.n.trans h.n,Jf,Jb⟩
end Go.Fl
namespace Go.Fl
open Go
variable{N:Nm}{A B:Ar}{σ:Mem}{K:Value→Mem→Prop}{C:Cf}{who:Int}
structure Dw(C:Cf)(i:Int)(n:Nat)(dd:Int→Do)(li:Int→Bool)(w:Int→Int)(b:Bg):Prop where
 aw:b.aw C w
 lv:b.Kg C (17*i)
 gen:∀ s,0≤s→s<C.S→1≤b9 (w (C.slot s))∧b9 (w (C.slot s))≤1+i
 hd:∀ k:Int,0≤k→k<n→((0≤(dd k).n∧(dd k).n<18446744073709551616)∧jB (dd k).n=true∧0≤(dd k).s∧(dd k).s<C.S)∧0≤ai (dd k).z∧(1≤(dd k).ge∧(dd k).ge≤1+i)
 ok:∀ k:Int,0≤k→k<n→li k=true→(dd k).ok C b w
 dead:∀ k:Int,0≤k→k<n→li k=false→(dd k).ge<b9 (w (C.slot (dd k).s))
 Rg:∀ k l:Int,0≤k→k<n→0≤l→l<n→li k=true→li l=true→k≠l→(dd k).s≠(dd l).s
 ns:∀ k l:Int,0≤k→k<n→0≤l→l<n→k≠l→(dd k).j≠(dd l).j∨(dd k).i+(dd k).rm≤(dd l).i∨(dd l).i+(dd l).rm≤(dd k).i
 sm:∀ j,0≤j→j<C.C→mL (part dd li j) n=b.lv j
 Uw:(n:Int)≤i
 pl:∀ k:Int,0≤k→k<n→((0≤(dd k).j∧(dd k).j<b.nx)∧0≤(dd k).i∧(dd k).i+(dd k).rm≤b.u (dd k).j)∧bL (w (C.chunk (dd k).j))=ai (dd k).z∧w ((dd k).a C)=aW 2 (dd k).z (dd k).s (dd k).ge (dd k).own
 OS:∀ j x,0≤j→j<b.nx→0≤x→x<b.u j→x % aA (bL (w (C.chunk j)))=0→∃ k:Int,(0≤k∧k<n)∧(dd k).j=j∧(dd k).i=x
 um:∀ j,0≤j→j<b.nx→b.u j % aA (bL (w (C.chunk j)))=0∧bL (w (C.chunk j))≤3∧0<b.u j
theorem Dw.new(hC:C.ok)(h:DK N C A):Dw C 0 0 (fun _=>⟨0,0,0,false,0,0⟩) (fun _=>false) A.w (Bg.fr C):=by
 have jC:=h.aw hC
 refine⟨jC,Vu,fun s s0 s1=>?_,fun k k0 k1=>by omega,fun k k0 k1=>by omega,fun k k0 k1=>by omega,fun k l k0 k1=>by omega,fun k l k0 k1=>by omega,fun j _ _=>rfl,Int.le_refl 0,fun k k0 k1=>by omega,fun j x j0 j1=>?_,fun j j0 j1=>?_⟩
 ·rw[h.w]
  have hT:=hC.T
  unfold Cf.w0 Cf.fr
  rw[ae (by unfold Cf.slot;omega),ae (by unfold Cf.slot;omega),af (by unfold Cf.slot;omega),af (by unfold Cf.slot;omega)]
  exact⟨by decide,by decide⟩
 ·have:j<0:=j1;omega
 ·have:j<0:=j1;omega
theorem Dw.mono{i i':Int}{n:Nat}{dd:Int→Do}{li:Int→Bool}{w:Int→Int}{b:Bg}(h:Dw C i n dd li w b)(hi:i≤i'):Dw C i' n dd li w b:=
 ⟨h.aw,h.lv.mono (by omega),fun s s0 s1=>by have:=h.gen s s0 s1;omega,fun k k0 k1=>by have:=h.hd k k0 k1;exact⟨this.1,this.2.1,by omega⟩,h.ok,h.dead,h.Rg,h.ns,h.sm,by have:=h.Uw;omega,h.pl,h.OS,h.um⟩
theorem My{dd:Int→Do}{li:Int→Bool}{j k:Int}:0≤part dd li j k:=by
 unfold part Do.rm aA;split
 ·(repeat' split)<;>decide
 ·decide
theorem m3(hC:C.ok){b:Bg}{w:Int→Int}(h:b.aw C w){j:Int}(j0:0≤j)(j1:j<C.C):0≤b.u j∧b.u j≤C.W:=by
 have hW:=hC.W
 by_cases q:j<b.nx
 ·have:=h.jJ.old j j0 q;omega
 ·have:=(h.jJ.new j (by omega) j1).2;omega
theorem Dw.make(hC:C.ok){i:Int}{n:Nat}{dd:Int→Do}{li:Int→Bool}{z s j:Int}{own:Bool}{w w':Int→Int}{b b':Bg}{F:List Int}(h:Dw C i n dd li w b)(hi:i≤1000)(hF:b.F=s::F)(hc:0≤ai z)
  (hg:B6 C b F (ai z) j b') (jC:(b'.count j (aA (ai z))).aw C w') (h1:w' (C.slot s)=aK 1 (C.base j+b.u j) (b9 (w (C.slot s))) 0) (h2:w' (C.base j+b.u j)=aW 2 z s (b9 (w (C.slot s))) own)
  (fw:Fw C b True w w') (yp:∀ j,0≤j→j<b.nx→bL (w' (C.chunk j))=bL (w (C.chunk j))):Dw C (i+1) (n+1) (m5 dd n (Do.mk' C b s (b9 (w (C.slot s))) z own j)) (fa li n true) w' (b'.count j (aA (ai z))):=by
 have hm:=h.aw.yq.c.mem s (by rw[hF];simp)
 have hnd:=h.aw.yq.nd
 rw[hF]at hnd
 have UZ:=(List.nodup_cons.1 hnd).1
 have BE:=h.gen s hm.1 hm.2
 obtain⟨c1,c2,c3⟩:=hg.jV hC (n:=aA (ai z))
 obtain⟨d1,d2,d3,d4⟩:=hg.bd hC h.aw.jJ hc (bH z).2
 have aaO:=h.lv.lv j d1.1 d1.2
 have hS:=hC.S
 have hr:=bR hc (bH z).2
 have rV:=hg.do (own:=own) hC hc hm UZ (by omega:1≤b9 (w (C.slot s))∧b9 (w (C.slot s))≤65535) ⟨_,h.aw.jJ⟩ aaO.1 h1 h2
 obtain⟨u0,u1,u2,u3,u4⟩:=tv (s:=s) (g:=b9 (w (C.slot s))) (by omega) (by omega)
 have xB:(bP C b.o b.u (ai z)∧j=b.o (ai z)∧j<b.nx∧(b'.count j (aA (ai z))).nx=b.nx)∨(j=b.nx∧b.u j=0∧(b'.count j (aA (ai z))).nx=b.nx+1):=by
  rcases hg with⟨g,e,rfl⟩|⟨g,nx,e,rfl⟩
  ·have:=h.aw.jJ.op _ hc (bH z).2
   exact .inl ⟨g,e,by omega,rfl⟩
  ·exact .inr ⟨e,(h.aw.jJ.new j (by omega) d1.2).2,rfl⟩
 have Lf:bL (w' (C.chunk j))=ai z:=by
  have:=jC.jJ.cls _ hc (bH z).2 (by show 0≤b'.o (ai z);omega)
  rw[show(b'.count j (aA (ai z))).o (ai z)=j from d4]at this
  exact this
 have RN:j<b.nx→bL (w (C.chunk j))=ai z:=fun q=>by rw[←yp j d1.1 q];exact Lf
 generalize hd:Do.mk' C b s (b9 (w (C.slot s))) z own j=d at *
 have ds:d.s=s:=by subst hd;exact u2
 have dj:d.j=j:=by subst hd;rfl
 have di:d.i=b.u j:=by subst hd;rfl
 have dz:d.z=z:=by subst hd;rfl
 have dg:d.ge=b9 (w (C.slot s)):=by subst hd;exact u3
 have dow:d.own=own:=by subst hd;rfl
 have dr:d.rm=aA (ai z):=by subst hd;rfl
 have da:d.a C=C.base j+b.u j:=by subst hd;rfl
 have wS:∀ t,0≤t→t<C.S→t≠s→w' (C.slot t)=w (C.slot t):=fun t t0 t1 ht=>fw.slot t t0 t1 fun _ F' e=>by rw[hF]at e;cases e;exact ht rfl
 have wG:∀ t,0≤t→t<C.S→b9 (w' (C.slot t))=b9 (w (C.slot t)):=fun t t0 t1=>by
  have Jg:=b6 hC d1.1 d1.2 d2.1 (by omega)
  have hl:=br hC
  by_cases e:t=s
  ·subst e;rw[h1];exact(fc (by decide) (by omega) (by omega) (by decide)).2.2.1
  ·rw[wS t t0 t1 e]
 have aN:m5 dd n d n=d:=af rfl
 have aO:∀ k:Int,k<n→m5 dd n d k=dd k:=fun k hk=>ae (by omega)
 have lN:fa li n true n=true:=af rfl
 have lO:∀ k:Int,k<n→fa li n true k=li k:=fun k hk=>ae (by omega)
 have SD:∀ k:Int,0≤k→k<n→li k=true→(dd k).s≠s∧(dd k).s∉F:=fun k k0 k1 hk=>by
  have:=(h.ok k k0 k1 hk).sF;rw[hF]at this;simp only[List.mem_cons,not_or]at this;exact this
 have cs:∀ k:Int,k<((n+1:Nat):Int)→k<n∨k=n:=fun k hk=>by omega
 have nxb:=h.aw.jJ.bd
 refine⟨jC,?_,fun t t0 t1=>by rw[wG t t0 t1];have:=h.gen t t0 t1;omega,fun k k0 k1=>?_,fun k k0 k1 hk=>?_,fun k k0 k1 hk=>?_,fun k l k0 k1 l0 l1 hk qA G2=>?_,fun k l k0 k1 l0 l1 G2=>?_,fun l l0 l1=>?_,by have:=h.Uw;omega,fun k k0 k1=>?_,fun l x l0 l1 x0 x1 xm=>?_,fun l l0 l1=>?_⟩
 ·have:=h.lv.count hC hg hc (bH z).2
  exact this.mono (by omega)
 ·rcases cs k k1 with e|rfl
  ·rw[aO k e];have:=h.hd k k0 e;exact⟨this.1,this.2.1,by omega⟩
  ·rw[aN];exact⟨⟨rV.n,rV.lI,rV.s⟩,rV.cl,by omega⟩
 ·rcases cs k k1 with e|rfl
  ·rw[aO k e];rw[lO k e]at hk
   have o:=h.ok k k0 e hk
   have oi:=o.i
   have oj:=o.j
   have ou:=(m3 hC h.aw oj.1 oj.2).2
   have rm:=(dd k).Ra
   unfold Do.rm at rm
   refine o.aL ?_ (wS _ o.s.1 o.s.2 (SD k k0 e hk).1) (fw.word _ _ oj.1 oj.2 oi.1 (by omega) (by omega)) ?_ ?_
   ·rw[c1];exact(SD k k0 e hk).2
   ·rw[c3];unfold aX;split
    ·rename_i q;rw[q];omega
    ·exact Int.le_refl _
   ·have olv:=o.lv
    rw[c2];unfold aX;split
    ·rename_i q;rw[q]at olv;omega
    ·exact olv
  ·rw[aN];exact rV
 ·rcases cs k k1 with e|rfl
  ·rw[aO k e];rw[lO k e]at hk
   have:=(h.hd k k0 e).1.2.2
   rw[wG _ this.1 this.2];exact h.dead k k0 e hk
  ·rw[lN]at hk;cases hk
 ·rcases cs k k1 with e|rfl
  ·rw[aO k e];rw[lO k e]at hk
   rcases cs l l1 with e'|rfl
   ·rw[aO l e'];rw[lO l e']at qA
    exact h.Rg k l k0 e l0 e' hk qA G2
   ·rw[aN,ds];exact(SD k k0 e hk).1
  ·rcases cs l l1 with e'|rfl
   ·rw[aO l e',aN,ds];rw[lO l e']at qA
    exact fun q=>(SD l l0 e' qA).1 q.symm
   ·exact absurd rfl G2
 ·rcases cs k k1 with e|rfl
  ·rw[aO k e]
   rcases cs l l1 with e'|rfl
   ·rw[aO l e'];exact h.ns k l k0 e l0 e' G2
   ·rw[aN,dj,di]
    by_cases q:(dd k).j=j
    ·have:=(h.pl k k0 e).1.2.2;rw[q]at this;exact .inr (.inl this)
    ·exact .inl q
  ·rcases cs l l1 with e'|rfl
   ·rw[aO l e',aN,dj,di]
    by_cases q:(dd l).j=j
    ·have:=(h.pl l l0 e').1.2.2;rw[q]at this;exact .inr (.inr this)
    ·exact .inl fun q'=>q q'.symm
   ·exact absurd rfl G2
 ·show mL (part (m5 dd n d) (fa li n true) l) n+part (m5 dd n d) (fa li n true) l n=_
  rw[pS (g:=part dd li l) fun k k0 k1=>by unfold part;rw[aO k k1,lO k k1]]
  have:=h.sm l l0 l1
  unfold part at this ⊢
  rw[aN,lN,c2,dj,dr]
  by_cases q:j=l
  ·subst q;rw[aE,af ⟨rfl,rfl⟩];omega
  ·rw[az _ _ (fun e=>q e.symm),ae fun e=>q e.2];omega
 ·rcases cs k k1 with e|rfl
  ·rw[aO k e]
   obtain⟨⟨p1,p2,p3⟩,p4,p5⟩:=h.pl k k0 e
   have pu:=(m3 hC h.aw p1.1 (by omega)).2
   have rm:=(dd k).Ra
   refine⟨⟨⟨p1.1,?_⟩,p2,?_⟩,by rw[yp _ p1.1 p1.2];exact p4,?_⟩
   ·rcases xB with q|q<;>omega
   ·rw[c3];unfold aX;split
    ·rename_i q;rw[q]at p3;omega
    ·exact p3
   ·rw[show(dd k).a C=C.base (dd k).j+(dd k).i from rfl,fw.word _ _ p1.1 (by omega) p2 (by omega) (by omega)];exact p5
  ·rw[aN,dj,di,dr,dz,da,ds,dg,dow]
   refine⟨⟨⟨d1.1,?_⟩,d2.1,?_⟩,Lf,h2⟩
   ·rcases xB with q|q<;>omega
   ·rw[c3,aE];omega
 ·
  by_cases e:l=j
  ·subst e
   rw[Lf]at xm
   rw[c3,aE]at x1
   by_cases z1:x<b.u l
   ·have MD:l<b.nx:=by
     rcases xB with q|q
     ·exact q.2.2.1
     ·omega
    obtain⟨k,kb,k2,k3⟩:=h.OS l x l0 MD x0 z1 (by rw[RN MD];exact xm)
    exact⟨k,⟨kb.1,by omega⟩,by rw[aO k kb.2];exact k2,by rw[aO k kb.2];exact k3⟩
   ·have xu:x=b.u l:=by
     have um:b.u l % aA (ai z)=0:=by
      rcases xB with q|q
      ·have:=(h.um l l0 q.2.2.1).1;rwa [RN q.2.2.1]at this
      ·rw[q.2.1,Int.zero_emod]
     have e1:(x-b.u l) % aA (ai z)=0:=by rw[Int.sub_emod,xm,um];rfl
     rw[Int.emod_eq_of_lt (by omega) (by omega)]at e1
     omega
    exact⟨n,⟨by omega,by omega⟩,by rw[aN];exact dj,by rw[aN,di];exact xu.symm⟩
  ·have MD:l<b.nx:=by
    rcases xB with q|q<;>omega
   rw[c3,az _ _ e]at x1
   rw[yp l l0 MD]at xm
   obtain⟨k,kb,k2,k3⟩:=h.OS l x l0 MD x0 x1 xm
   exact⟨k,⟨kb.1,by omega⟩,by rw[aO k kb.2];exact k2,by rw[aO k kb.2];exact k3⟩
 ·by_cases e:l=j
  ·subst e
   rw[c3,aE,Lf]
   refine⟨?_,(bH z).2,by omega⟩
   rw[Int.add_emod_right]
   rcases xB with q|q
   ·have:=(h.um l l0 q.2.2.1).1;rwa [RN q.2.2.1]at this
   ·rw[q.2.1,Int.zero_emod]
  ·have MD:l<b.nx:=by
    rcases xB with q|q<;>omega
   rw[c3,az _ _ e,yp l l0 MD];exact h.um l l0 MD
theorem Do.fr.word(hC:C.ok){d:Do}{w w':Int→Int}(h:d.fr C w w')(d0:0≤d.j)(d1:d.j<C.C)(d2:0≤d.i)(d3:d.i+d.z<C.W)(hs:0≤d.s∧d.s<C.S){j x:Int}(j0:0≤j)(j1:j<C.C)(x0:0≤x)(x1:x<C.W)(hn:¬(j=d.j∧d.i<x∧x≤d.i+d.z)):w' (C.base j+x)=w (C.base j+x):=by
 have hT:=hC.T;have hS:=hC.S
 have hb:=a_ hC j0 j1 x0
 refine h _ (by unfold Cf.slot;omega) (by omega) (by unfold Cf.slot;omega) (by unfold Cf.chunk;omega) fun⟨q1,q2⟩=>?_
 have ea:d.a C=C.base d.j+d.i:=rfl
 have e:C.base j+x=C.base d.j+(d.i+(C.base j+x-C.base d.j-d.i)):=by omega
 obtain⟨e1,e2⟩:=bW hC j0 j1 x0 x1 d0 d1 (by omega) (by omega) e
 exact hn ⟨e1,by omega,by omega⟩
theorem Do.fr.chunk(hC:C.ok){d:Do}{w w':Int→Int}(h:d.fr C w w')(d0:0≤d.j)(d1:d.j<C.C)(d2:0≤d.i)(hs:0≤d.s∧d.s<C.S){j:Int}(j0:0≤j)(j1:j<C.C):w' (C.chunk j)=w (C.chunk j):=by
 have hT:=hC.T;have hS:=hC.S
 have hb:=a_ hC d0 d1 d2
 have ea:d.a C=C.base d.j+d.i:=rfl
 exact h _ (by unfold Cf.slot Cf.chunk;omega) (by unfold Cf.chunk;omega) (by unfold Cf.slot Cf.chunk;omega) (by unfold Cf.chunk;omega) (by unfold Cf.chunk;omega)
theorem Do.fr.slot(hC:C.ok){d:Do}{w w':Int→Int}(h:d.fr C w w')(d0:0≤d.j)(d1:d.j<C.C)(d2:0≤d.i){t:Int}(t0:0≤t)(t1:t<C.S)(ht:t≠d.s):w' (C.slot t)=w (C.slot t):=by
 have hT:=hC.T;have hS:=hC.S
 have hb:=a_ hC d0 d1 d2
 have ea:d.a C=C.base d.j+d.i:=rfl
 exact h _ (by unfold Cf.slot;omega) (by unfold Cf.slot;omega) (by unfold Cf.slot;omega) (by unfold Cf.slot Cf.chunk;omega) (by unfold Cf.slot;omega)
theorem Dw.drop(hC:C.ok)(hG:C.G=100){i:Int}{n:Nat}{dd:Int→Do}{li:Int→Bool}{k:Int}{w w':Int→Int}{b:Bg}(h:Dw C i n dd li w b)(hi:i≤90)(k0:0≤k)(k1:k<n)(hk:li k=true)
  (fr:(dd k).fr C w w') (sl:w' (C.slot (dd k).s)=(dd k).nx C) (aw:Bg.aw { b.less (dd k).j (aA (ai (dd k).z))with F:=if C.G≤(dd k).ge then b.F else(dd k).s::b.F } C w') :
  Dw C (i+1) n dd (fa li k false) w' { b.less (dd k).j (aA (ai (dd k).z))with F:=(dd k).s::b.F }:=by
 have o:=h.ok k k0 k1 hk
 have hgk:=h.gen _ o.s.1 o.s.2
 have BE:b9 (w (C.slot (dd k).s))=(dd k).ge:=by rw[o.ws,o.sg]
 rw[ae (by omega)]at aw
 have X_:w' (C.slot (dd k).s)=aK 0 0 ((dd k).ge+1) 0:=by rw[sl];unfold Do.nx;rw[ae (by omega)]
 have oj:=o.j
 have oi:=o.i
 have oz:=o.z
 have rmk:=(dd k).Ra
 have hub:=(m3 hC h.aw oj.1 oj.2).2
 have nxb:=h.aw.jJ.bd
 have hz1:1≤(dd k).z:=(bT o.cl).1.1
 have wS:∀ t,0≤t→t<C.S→t≠(dd k).s→w' (C.slot t)=w (C.slot t):=fun t t0 t1 ht=>fr.slot hC oj.1 oj.2 oi.1 t0 t1 ht
 have wC:∀ j,0≤j→j<C.C→w' (C.chunk j)=w (C.chunk j):=fun j j0 j1=>fr.chunk hC oj.1 oj.2 oi.1 o.s j0 j1
 have wG:b9 (w' (C.slot (dd k).s))=(dd k).ge+1:=by rw[X_];exact(dT (by decide) (by decide) (by omega)).2.2
 have wH:∀ l:Int,0≤l→l<n→w' ((dd l).a C)=w ((dd l).a C):=fun l l0 l1=>by
  obtain⟨⟨p1,p2,p3⟩,p4,p5⟩:=h.pl l l0 l1
  have pu:=(m3 hC h.aw p1.1 (by omega)).2
  have rml:=(dd l).Ra
  refine fr.word hC oj.1 oj.2 oi.1 (by omega) o.s p1.1 (by omega) p2 (by omega) fun⟨q1,q2,q3⟩=>?_
  by_cases e:l=k
  ·subst e;omega
  ·rcases h.ns l k l0 l1 k0 k1 e with q|q|q
   ·exact q q1
   ·omega
   ·unfold Do.rm at q;omega
 have lK:fa li k false k=false:=af rfl
 have lO:∀ l,l≠k→fa li k false l=li l:=fun l hl=>ae hl
 have lT:∀ l,fa li k false l=true→l≠k∧li l=true:=fun l hl=>by
  by_cases e:l=k
  ·subst e;rw[lK]at hl;cases hl
  ·rw[lO l e]at hl;exact⟨e,hl⟩
 have sml:∀ j,mL (part dd (fa li k false) j) n=mL (part dd li j) n-(if(dd k).j=j then(dd k).rm else 0):=fun j=>by
  have e:part dd (fa li k false) j=aX (part dd li j) k 0:=by
   funext l
   unfold part aX
   by_cases e:l=k
   ·subst e;rw[lK];simp
   ·rw[lO l e,ae e]
  rw[e,Cy k0 k1]
  have:part dd li j k=if(dd k).j=j then(dd k).rm else 0:=by unfold part;rw[hk];simp
  rw[this];omega
 have smk:=AZ (f:=part dd li (dd k).j) (n:=n) (fun _=>My) k0 k1
 have smj:=h.sm _ oj.1 oj.2
 have pk:part dd li (dd k).j k=(dd k).rm:=by unfold part;rw[hk];simp
 rw[pk]at smk
 refine⟨aw,⟨fun j j0 j1=>?_⟩,fun t t0 t1=>?_,fun l l0 l1=>by have:=h.hd l l0 l1;exact⟨this.1,this.2.1,by omega⟩,fun l l0 l1 hl=>?_,fun l l0 l1 hl=>?_,fun l m l0 l1 m0 m1 hl hm hlm=>h.Rg l m l0 l1 m0 m1 (lT l hl).2 (lT m hm).2 hlm,h.ns,fun j j0 j1=>?_,by have:=h.Uw;omega,fun l l0 l1=>?_,fun j x j0 j1 x0 x1 xm=>?_,fun j j0 j1=>?_⟩
 ·have:=h.lv.lv j j0 j1
  show 0≤aX b.lv (dd k).j (b.lv (dd k).j-(dd k).rm) j∧aX b.lv (dd k).j (b.lv (dd k).j-(dd k).rm) j≤_
  unfold aX;split
  ·rename_i q;rw[←q]at smk smj ⊢;omega
  ·omega
 ·by_cases e:t=(dd k).s
  ·rw[e,wG];omega
  ·rw[wS t t0 t1 e];have:=h.gen t t0 t1;omega
 ·obtain⟨lk,qA⟩:=lT l hl
  have ol:=h.ok l l0 l1 qA
  have n1:=h.Rg l k l0 l1 k0 k1 qA hk lk
  refine ol.aL ?_ (wS _ ol.s.1 ol.s.2 n1) (wH l l0 l1) (Int.le_refl _) ?_
  ·simp only[List.mem_cons,not_or];exact⟨n1,ol.sF⟩
  ·show _≤aX b.lv (dd k).j (b.lv (dd k).j-(dd k).rm) (dd l).j
   unfold aX;split
   ·rename_i q
    have s1:=AZ (f:=part dd (fa li k false) (dd k).j) (n:=n) (fun _=>My) l0 l1
    rw[sml,af rfl]at s1
    have:part dd (fa li k false) (dd k).j l=(dd l).rm:=by unfold part;rw[hl,q];simp
    rw[this]at s1
    unfold Do.rm at *
    omega
   ·exact ol.lv
 ·by_cases e:l=k
  ·subst e;rw[wG];omega
  ·rw[lO l e]at hl
   have q:=h.dead l l0 l1 hl
   have hs:=(h.hd l l0 l1).1.2.2
   by_cases e':(dd l).s=(dd k).s
   ·rw[e',wG];rw[e']at q;omega
   ·rw[wS _ hs.1 hs.2 e'];exact q
 ·show _=aX b.lv (dd k).j (b.lv (dd k).j-(dd k).rm) j
  rw[sml]
  have:=h.sm j j0 j1
  by_cases q:(dd k).j=j
  ·subst q;rw[aE,af rfl];omega
  ·rw[az _ _ fun e=>q e.symm,ae q];omega
 ·obtain⟨⟨p1,p2,p3⟩,p4,p5⟩:=h.pl l l0 l1
  exact⟨⟨p1,p2,p3⟩,by rw[wC _ p1.1 (by omega)];exact p4,by rw[wH l l0 l1];exact p5⟩
 ·have j1':j<b.nx:=j1
  rw[wC j j0 (by omega)]at xm
  exact h.OS j x j0 j1 x0 x1 xm
 ·have j1':j<b.nx:=j1
  rw[wC j j0 (by omega)]
  exact h.um j j0 j1
end Go.Fl
namespace Go.Fl
open Go
variable{N:Nm}{A B:Ar}{σ:Mem}{K:Value→Mem→Prop}{C:Cf}{who:Int}
structure Mo where
 addr:Int
 hk:Int
 hz:Int
 hs:Int
 hg:Int
 ho:Bool
 pc:Int
 w:Int
 p:Option Nat
 sa:Int
 sc:Int
 fX:Bool
 i:Int
 cell:Int
 nn:Int
 out:Int
def Mo.l(a:Mo):List Value:=[.int .i64 a.addr,.int .i64 a.hk,.int .i64 a.hz,.int .i64 a.hs,.int .i64 a.hg,.bool a.ho,.int .i64 a.pc,.int .u64 a.w,Bu a.p,.int .i64 a.sa,.int .i64 a.sc,.bool a.fX,.int .i64 a.i,.int .u64 a.cell,.int .i64 a.nn,.int .i64 a.out]
def Mo.new(addr k z s g:Int)(o:Bool):Mo:=⟨addr,k,z,s,g,o,0,0,none,0,0,false,0,0,0,0⟩
def Mo.mh(a:Mo)(e:Int):Mo:={ a with out:=e,pc:=if a.fX=true then 11 else a.pc }
def Mo.as(a:Mo)(st ad more:Int):Int:=aK st ad (b9 a.w) (cO a.w+more)
def Mo.hd(a:Mo)(k:Int):Int:=aW k a.hz a.hs a.hg a.ho
theorem mR{p k sz:Nat}{ag:Bool}{a:Mo}{v:Value}(hd:p∉N.l)(h:sub a.l k sz ag=some v):aj sz ag [.pointer (some ⟨p,k,none⟩)] K (aD N A (σ.set p ⟨a.l,true⟩))=K v (aD N A (σ.set p ⟨a.l,true⟩)):=by
 rw[cf ((dv hd).trans (Mem.bf _ _ _)),h,Ce]
theorem w_{p k:Nat}{a:Mo}(a':Mo){x:Value}(hd:p∉N.l)(hx:cellsOf x 1=some [x])(ho:dV x=true)(hk:k+1≤16)(e:lay a.l k [x]=a'.l) :
  ax 1 [.pointer (some ⟨p,k,none⟩),x] K (aD N A (σ.set p ⟨a.l,true⟩))=K undef (aD N A (σ.set p ⟨a'.l,true⟩)):=by
 have:=Mt (K:=K) (N:=N) (A:=A) (σ:=σ) (p:=p) (pre:=[]) (L:=a.l) (post:=[]) (k:=k) (sz:=1) (x:=x) (c:=[x]) hd hx rfl hk (by simp[ho])
 rw[e]at this
 simpa only[List.nil_append,List.append_nil,List.length_nil,Nat.zero_add]using this
theorem TR{p k sz:Nat}{a:Mo}(a':Mo){c:List Value}(hd:p∉N.l)(hl:c.length=sz)(ho:c.all dV=true)(hk:k+sz≤16)(e:lay a.l k c=a'.l) :
  ax sz [.pointer (some ⟨p,k,none⟩),.agg c.toArray] K (aD N A (σ.set p ⟨a.l,true⟩))=K undef (aD N A (σ.set p ⟨a'.l,true⟩)):=by
 have:=CC (K:=K) (N:=N) (A:=A) (σ:=σ) (p:=p) (pre:=[]) (L:=a.l) (post:=[]) (k:=k) (sz:=sz) (c:=c) hd hl hk ho
 rw[e]at this
 simpa only[List.nil_append,List.append_nil,List.length_nil,Nat.zero_add]using this
theorem Ho{ad k z s g:Int}{o:Bool}(hk:∀ id τ,σ.get id=none→τ.get id=some ⟨(Mo.new ad k z s g o).l,true⟩→Ext σ τ→K (.pointer (some ⟨id,0,none⟩)) τ) :
  CH [.int .i64 ad,.agg #[.int .i64 k,.int .i64 z,.int .i64 s,.int .i64 g,.bool o]] K σ:=by
 have b:∀ K:Value→Prop,xF (aM [(0,1),(1,5),(6,1),(7,1),(8,1),(9,2),(11,1),(12,1),(13,1),(14,1),(15,1)] [.int .i64 0,.int .i64 0,.int .i64 0,.int .i64 0,.int .i64 0,.bool false,.int .i64 0,.int .u64 0,.pointer none,.int .i64 0,.int .i64 0,.bool false,.int .i64 0,.int .u64 0,.int .i64 0,.int .i64 0] [0,1]) [.int .i64 ad,.agg #[.int .i64 k,.int .i64 z,.int .i64 s,.int .i64 g,.bool o]] K =
   K (.agg (Mo.new ad k z s g o).l.toArray):=fun K=>nr rfl
 have g5:bO 5 [.agg #[.int .i64 k,.int .i64 z,.int .i64 s,.int .i64 g,.bool o]] []=some [.int .i64 k,.int .i64 z,.int .i64 s,.int .i64 g,.bool o]:=rfl
 have s5:∀ x y z u w:Value,ah 5 true [.pointer (some ⟨3,0,some 0⟩)] [x,y,z,u,w]=some (.agg #[x,y,z,u,w]):=fun _ _ _ _ _=>rfl
 simp only[CH,Pt,g5,s5,au,b,H0,Ce,aF]
 exact gA (cs:=(Mo.new ad k z s g o).l) rfl hk
theorem Hn{p:Nat}{a:Mo}(hp:σ.get p=some ⟨a.l,true⟩)(hk:K (.int .i64 a.out) σ):Ec [.pointer (some ⟨p,0,none⟩)] K σ:=by
 simp only[Ec,Pz,aF]
 rw[UC hp (show sub a.l 15 1 false=some (.int .i64 a.out)from rfl)]
 exact hk
theorem BW(hC:C.ok){p:Nat}{a:Mo}(hd:p∉N.l)(h2:0≤a.hs∧a.hs<C.S):xg [.pointer (some ⟨p,0,none⟩),N.env C who] K (aD N A (σ.set p ⟨a.l,true⟩))=K (.int .i64 (C.slot a.hs)) (aD N A (σ.set p ⟨a.l,true⟩)):=by
 have hS:=hC.S
 simp only[xg,Pu,aF,bc,bN,Nat.reduceAdd]
 rw[mR hd (show sub _ 3 1 false=some (.int .i64 a.hs)from rfl),dD hC h2.1 (by omega)]
theorem JQ{p:Nat}{a:Mo}{st ad more:Int}(hd:p∉N.l)(h3:0≤a.w∧a.w<18446744073709551616)(hm:0≤more∧more≤1):yC [.pointer (some ⟨p,0,none⟩),.int .i64 st,.int .i64 ad,.int .i64 more] K (aD N A (σ.set p ⟨a.l,true⟩)) =
  K (.int .u64 (a.as st ad more)) (aD N A (σ.set p ⟨a.l,true⟩)):=by
 have g4:∀{k:Nat} {x y z w:Int},aH 4 [.pointer (some ⟨k,0,some 0⟩),.agg #[.int .i64 x,.int .i64 y,.int .i64 z,.int .i64 w]] [.int .i64 0,.int .i64 0,.int .i64 0,.int .i64 0]=some [.int .i64 x,.int .i64 y,.int .i64 z,.int .i64 w]:=fun{_ _ _ _ _}=>rfl
 have b4:∀(x y z w:Int) (K:Value→Prop),xF (aM [(0,1),(1,1),(2,1),(3,1)] [.int .i64 0,.int .i64 0,.int .i64 0,.int .i64 0] [0,1,2,3]) [.int .i64 x,.int .i64 y,.int .i64 z,.int .i64 w] K=K (.agg #[.int .i64 x,.int .i64 y,.int .i64 z,.int .i64 w]):=fun _ _ _ _ K=>nr rfl
 have hV:=A9 a.w
 simp only[yC,Py,aF,bc]
 rw[mR hd (show sub _ 7 1 false=some (.int .u64 a.w)from rfl),cX h3.1 h3.2]
 simp only[g4,aF,bc]
 rw[IntWalk.i64_in (cO a.w+more) (by omega),b4,jf]
 rfl
theorem tG{p:Nat}{a:Mo}{k:Int}(hd:p∉N.l):yB [.pointer (some ⟨p,0,none⟩),.int .i64 k] K (aD N A (σ.set p ⟨a.l,true⟩))=K (.int .u64 (a.hd k)) (aD N A (σ.set p ⟨a.l,true⟩)):=by
 have g5:∀{k:Nat} {x y z w:Int} {u:Bool},aH 5 [.pointer (some ⟨k,0,some 0⟩),.agg #[.int .i64 x,.int .i64 y,.int .i64 z,.int .i64 w,.bool u]] [.int .i64 0,.int .i64 0,.int .i64 0,.int .i64 0,.bool false]=some [.int .i64 x,.int .i64 y,.int .i64 z,.int .i64 w,.bool u]:=fun{_ _ _ _ _ _}=>rfl
 have p0:∀{k:Nat} {x a b c d:Int} {e:Bool},aH 1 [.pointer (some ⟨k,0,some 0⟩),.int .i64 x] [.int .i64 a,.int .i64 b,.int .i64 c,.int .i64 d,.bool e]=some [.int .i64 x,.int .i64 b,.int .i64 c,.int .i64 d,.bool e]:=fun{_ _ _ _ _ _ _}=>rfl
 have s5:∀ x y z u w:Value,sub [x,y,z,u,w] 0 5 true=some (.agg #[x,y,z,u,w]):=fun _ _ _ _ _=>rfl
 simp only[yB,Px,aF,bc]
 rw[mR hd (show sub a.l 1 5 true=some (.agg #[.int .i64 a.hk,.int .i64 a.hz,.int .i64 a.hs,.int .i64 a.hg,.bool a.ho])from rfl)]
 simp only[g5,p0,s5,aF]
 rw[zB]
 rfl
theorem Fg{p:Nat}{a:Mo}{e:Int}(hd:p∉N.l):pT [.pointer (some ⟨p,0,none⟩),.int .i64 e] K (aD N A (σ.set p ⟨a.l,true⟩))=K (.bool (!a.fX)) (aD N A (σ.set p ⟨(a.mh e).l,true⟩)):=by
 obtain⟨addr,hk,hz,hs,hg,ho,pc,w,p',sa,sc,fX,i,cell,nn,out⟩:=a
 cases fX with
 | true=>
  simp only[pT,Kz,uK,qM,aF]
  rw[w_ ⟨addr,hk,hz,hs,hg,ho,pc,w,p',sa,sc,true,i,cell,nn,e⟩ hd rfl rfl (by decide) rfl,mR hd (show sub _ 11 1 false=some (.bool true)from rfl)]
  simp only[aF]
  rw[w_ ⟨addr,hk,hz,hs,hg,ho,11,w,p',sa,sc,true,i,cell,nn,e⟩ hd rfl rfl (by decide) rfl,mR hd (show sub _ 11 1 false=some (.bool true)from rfl)]
  simp only[aF]
  rfl
 | false=>
  simp only[pT,Kz,uK,qM,aF]
  rw[w_ ⟨addr,hk,hz,hs,hg,ho,pc,w,p',sa,sc,false,i,cell,nn,e⟩ hd rfl rfl (by decide) rfl,mR hd (show sub _ 11 1 false=some (.bool false)from rfl)]
  simp only[aF]
  rw[mR hd (show sub _ 11 1 false=some (.bool false)from rfl)]
  simp only[aF]
  rfl
structure Mv where
 a:Mo
 t:Pl
def Mv.new(addr k z s g:Int)(o:Bool):Mv:=⟨Mo.new addr k z s g o,Pl.new 0⟩
def Mv.step(C:Cf)(who:Int)(A:Ar)(m:Mv):Bool×Mv×Ar:=
 if m.a.pc=0 then
  if cF (A.w (C.slot m.a.hs))=4∧b9 (A.w (C.slot m.a.hs))=m.a.hg∧a8 (A.w (C.slot m.a.hs))=m.a.addr then(!m.a.fX,{ m with a:=({ m.a with w:=A.w (C.slot m.a.hs) }:Mo).mh 3 },(A.by who).load (C.slot m.a.hs))
  else if cF (A.w (C.slot m.a.hs))≠1∨b9 (A.w (C.slot m.a.hs))≠m.a.hg∨a8 (A.w (C.slot m.a.hs))≠m.a.addr then(!m.a.fX,{ m with a:=({ m.a with w:=A.w (C.slot m.a.hs) }:Mo).mh 2 },(A.by who).load (C.slot m.a.hs))
  else if 4194302≤cO (A.w (C.slot m.a.hs))then(!m.a.fX,{ m with a:=({ m.a with w:=A.w (C.slot m.a.hs) }:Mo).mh 3 },(A.by who).load (C.slot m.a.hs))
  else if m.a.fX=true then(false,{ m with a:={ m.a with w:=A.w (C.slot m.a.hs),pc:=3 } },(A.by who).load (C.slot m.a.hs))
  else(false,⟨{ m.a with w:=A.w (C.slot m.a.hs),pc:=1 },Pl.new (ai m.a.hz)⟩,(A.by who).load (C.slot m.a.hs))
 else if m.a.pc=1 then
  if(m.t.step C who A).1=false then(false,{ m with t:=(m.t.step C who A).2.1 },(m.t.step C who A).2.2)
  else if(m.t.step C who A).2.1.ok=true then(false,⟨{ m.a with sa:=(m.t.step C who A).2.1.sa,sc:=(m.t.step C who A).2.1.sc,fX:=true,pc:=2 },(m.t.step C who A).2.1⟩,(m.t.step C who A).2.2)
  else(true,⟨({ m.a with sa:=0,sc:=0,fX:=false,pc:=2 }:Mo).mh 4,(m.t.step C who A).2.1⟩,(m.t.step C who A).2.2)
 else if m.a.pc=2 then(false,{ m with a:={ m.a with pc:=3 } },(A.by who).store m.a.sa (m.a.hd 1))
 else if m.a.pc=3 then(false,{ m with a:={ m.a with i:=0,pc:=if A.w (C.slot m.a.hs)=m.a.w then 4 else 0 } },(A.by who).dI (C.slot m.a.hs) m.a.w (m.a.as 2 m.a.addr 0))
 else if m.a.pc=4 then(false,{ m with a:={ m.a with cell:=A.w (m.a.addr+1+m.a.i),pc:=if lL (A.w (m.a.addr+1+m.a.i))=true∧kX (A.w (m.a.addr+1+m.a.i))=cO m.a.w then 6 else 5 } },(A.by who).load (m.a.addr+1+m.a.i))
 else if m.a.pc=5 then(false,{ m with a:={ m.a with pc:=if A.w (m.a.addr+1+m.a.i)=m.a.cell then 6 else 4 } },(A.by who).dI (m.a.addr+1+m.a.i) m.a.cell (aT (kN m.a.cell) true (cO m.a.w)))
 else if m.a.pc=6 then(false,{ m with a:={ m.a with i:=m.a.i+1,pc:=if m.a.hz≤m.a.i+1 then 7 else 4 } },(A.by who).store (m.a.sa+1+m.a.i) (aT (kN m.a.cell) false 0))
 else if m.a.pc=7 then
  if A.w (C.slot m.a.hs)=m.a.as 2 m.a.addr 0 then(false,{ m with a:={ m.a with pc:=8 } },(A.by who).dI (C.slot m.a.hs) (m.a.as 2 m.a.addr 0) (m.a.as 1 m.a.sa 1))
  else if C.R≤m.a.nn+1 then(!m.a.fX,{ m with a:=({ m.a with pc:=0,nn:=m.a.nn+1 }:Mo).mh 3 },(A.by who).dI (C.slot m.a.hs) (m.a.as 2 m.a.addr 0) (m.a.as 1 m.a.sa 1))
  else(false,{ m with a:={ m.a with pc:=0,nn:=m.a.nn+1 } },(A.by who).dI (C.slot m.a.hs) (m.a.as 2 m.a.addr 0) (m.a.as 1 m.a.sa 1))
 else if m.a.pc=8 then(false,{ m with a:={ m.a with pc:=9 } },(A.by who).store m.a.sa (m.a.hd 2))
 else if m.a.pc=9 then(false,{ m with a:={ m.a with pc:=10 } },(A.by who).add (C.chunk m.a.sc+1) (IntKind.u64.wrap (aA (ai m.a.hz))))
 else if m.a.pc=10 then(true,{ m with a:={ m.a with out:=1 } },(A.by who).add (C.chunk (qz C m.a.addr)+1) (IntKind.u64.wrap (-aA (ai m.a.hz))))
 else(true,m,(A.by who).store m.a.sa (m.a.hd 3))
structure Mv.fit(C:Cf)(A:Ar)(m:Mv):Prop where
 pc:0≤m.a.pc∧m.a.pc≤11
 hs:0≤m.a.hs∧m.a.hs<C.S
 w:0≤m.a.w∧m.a.w<18446744073709551616
 cell:0≤m.a.cell∧m.a.cell<18446744073709551616
 cl:0≤ai m.a.hz
 i:0≤m.a.i∧m.a.i≤65536
 nn:0≤m.a.nn∧m.a.nn≤65536
 n2:(A.n:Int)≤200000000
 pl:m.a.pc=1→m.t.fit C∧A.w (2+m.t.cls)≤C.C
 sa:m.a.pc=2∨m.a.pc=8∨m.a.pc=11→0≤m.a.sa∧m.a.sa<A.n
 at':m.a.pc=4∨m.a.pc=5→0≤m.a.addr∧m.a.addr+1+m.a.i<A.n
 c6:m.a.pc=6→0≤m.a.sa∧m.a.sa+1+m.a.i<A.n
 c9:m.a.pc=9→0≤m.a.sc∧m.a.sc<C.C
 zE:m.a.pc=10→m.a.addr<9223372036854775808∧0≤qz C m.a.addr∧qz C m.a.addr<C.C
end Go.Fl
namespace Go.Fl
open Go
variable{N:Nm}{A B:Ar}{σ:Mem}{K:Value→Mem→Prop}{C:Cf}{who:Int}
section
variable{p:Nat}{a:Mo}
theorem KY(hd:p∉N.l):aj 1 false [.pointer (some ⟨p,0,none⟩)] K (aD N A (σ.set p ⟨a.l,true⟩))=K (.int .i64 a.addr) (aD N A (σ.set p ⟨a.l,true⟩)):=mR hd rfl
theorem SN(hd:p∉N.l):aj 1 false [.pointer (some ⟨p,2,none⟩)] K (aD N A (σ.set p ⟨a.l,true⟩))=K (.int .i64 a.hz) (aD N A (σ.set p ⟨a.l,true⟩)):=mR hd rfl
theorem SM(hd:p∉N.l):aj 1 false [.pointer (some ⟨p,4,none⟩)] K (aD N A (σ.set p ⟨a.l,true⟩))=K (.int .i64 a.hg) (aD N A (σ.set p ⟨a.l,true⟩)):=mR hd rfl
theorem DR(hd:p∉N.l):aj 1 false [.pointer (some ⟨p,6,none⟩)] K (aD N A (σ.set p ⟨a.l,true⟩))=K (.int .i64 a.pc) (aD N A (σ.set p ⟨a.l,true⟩)):=mR hd rfl
theorem Xq(hd:p∉N.l):aj 1 false [.pointer (some ⟨p,7,none⟩)] K (aD N A (σ.set p ⟨a.l,true⟩))=K (.int .u64 a.w) (aD N A (σ.set p ⟨a.l,true⟩)):=mR hd rfl
theorem lM8(hd:p∉N.l):aj 1 false [.pointer (some ⟨p,8,none⟩)] K (aD N A (σ.set p ⟨a.l,true⟩))=K (Bu a.p) (aD N A (σ.set p ⟨a.l,true⟩)):=mR hd rfl
theorem UD(hd:p∉N.l):aj 1 false [.pointer (some ⟨p,9,none⟩)] K (aD N A (σ.set p ⟨a.l,true⟩))=K (.int .i64 a.sa) (aD N A (σ.set p ⟨a.l,true⟩)):=mR hd rfl
theorem aax(hd:p∉N.l):aj 1 false [.pointer (some ⟨p,10,none⟩)] K (aD N A (σ.set p ⟨a.l,true⟩))=K (.int .i64 a.sc) (aD N A (σ.set p ⟨a.l,true⟩)):=mR hd rfl
theorem KX(hd:p∉N.l):aj 1 false [.pointer (some ⟨p,11,none⟩)] K (aD N A (σ.set p ⟨a.l,true⟩))=K (.bool a.fX) (aD N A (σ.set p ⟨a.l,true⟩)):=mR hd rfl
theorem KW(hd:p∉N.l):aj 1 false [.pointer (some ⟨p,12,none⟩)] K (aD N A (σ.set p ⟨a.l,true⟩))=K (.int .i64 a.i) (aD N A (σ.set p ⟨a.l,true⟩)):=mR hd rfl
theorem KV(hd:p∉N.l):aj 1 false [.pointer (some ⟨p,13,none⟩)] K (aD N A (σ.set p ⟨a.l,true⟩))=K (.int .u64 a.cell) (aD N A (σ.set p ⟨a.l,true⟩)):=mR hd rfl
theorem aaw(hd:p∉N.l):aj 1 false [.pointer (some ⟨p,14,none⟩)] K (aD N A (σ.set p ⟨a.l,true⟩))=K (.int .i64 a.nn) (aD N A (σ.set p ⟨a.l,true⟩)):=mR hd rfl
theorem B8(hd:p∉N.l){v:Int}:ax 1 [.pointer (some ⟨p,6,none⟩),.int .i64 v] K (aD N A (σ.set p ⟨a.l,true⟩))=K undef (aD N A (σ.set p ⟨({ a with pc:=v }:Mo).l,true⟩)):=w_ _ hd rfl rfl (by decide) rfl
theorem sM7(hd:p∉N.l){v:Int}:ax 1 [.pointer (some ⟨p,7,none⟩),.int .u64 v] K (aD N A (σ.set p ⟨a.l,true⟩))=K undef (aD N A (σ.set p ⟨({ a with w:=v }:Mo).l,true⟩)):=w_ _ hd rfl rfl (by decide) rfl
theorem sM8(hd:p∉N.l){v:Nat}:ax 1 [.pointer (some ⟨p,8,none⟩),.pointer (some ⟨v,0,none⟩)] K (aD N A (σ.set p ⟨a.l,true⟩))=K undef (aD N A (σ.set p ⟨({ a with p:=some v }:Mo).l,true⟩)):=w_ _ hd rfl rfl (by decide) rfl
theorem sM9(hd:p∉N.l){x y:Int}:ax 2 [.pointer (some ⟨p,9,none⟩),.agg #[.int .i64 x,.int .i64 y]] K (aD N A (σ.set p ⟨a.l,true⟩))=K undef (aD N A (σ.set p ⟨({ a with sa:=x,sc:=y }:Mo).l,true⟩)):=TR (c:=[.int .i64 x,.int .i64 y]) _ hd rfl rfl (by decide) rfl
theorem Ui(hd:p∉N.l){v:Bool}:ax 1 [.pointer (some ⟨p,11,none⟩),.bool v] K (aD N A (σ.set p ⟨a.l,true⟩))=K undef (aD N A (σ.set p ⟨({ a with fX:=v }:Mo).l,true⟩)):=w_ _ hd rfl rfl (by decide) rfl
theorem Uh(hd:p∉N.l){v:Int}:ax 1 [.pointer (some ⟨p,12,none⟩),.int .i64 v] K (aD N A (σ.set p ⟨a.l,true⟩))=K undef (aD N A (σ.set p ⟨({ a with i:=v }:Mo).l,true⟩)):=w_ _ hd rfl rfl (by decide) rfl
theorem Yj(hd:p∉N.l){v:Int}:ax 1 [.pointer (some ⟨p,13,none⟩),.int .u64 v] K (aD N A (σ.set p ⟨a.l,true⟩))=K undef (aD N A (σ.set p ⟨({ a with cell:=v }:Mo).l,true⟩)):=w_ _ hd rfl rfl (by decide) rfl
theorem Yi(hd:p∉N.l){v:Int}:ax 1 [.pointer (some ⟨p,14,none⟩),.int .i64 v] K (aD N A (σ.set p ⟨a.l,true⟩))=K undef (aD N A (σ.set p ⟨({ a with nn:=v }:Mo).l,true⟩)):=w_ _ hd rfl rfl (by decide) rfl
theorem Yh(hd:p∉N.l){v:Int}:ax 1 [.pointer (some ⟨p,15,none⟩),.int .i64 v] K (aD N A (σ.set p ⟨a.l,true⟩))=K undef (aD N A (σ.set p ⟨({ a with out:=v }:Mo).l,true⟩)):=w_ _ hd rfl rfl (by decide) rfl
end
theorem Wq(hN:N.ok)(hA:aZ N A σ){p:Nat}{a:Mo}(hp:σ.get p=some ⟨a.l,true⟩)(hd:p∉N.l)(h:a.pc=2)(h1:0≤a.sa∧a.sa<A.n)
  (hk:∀ τ,aZ N ((A.by who).store a.sa (a.hd 1)) τ→τ.get p=some ⟨({ a with pc:=3 }:Mo).l,true⟩→aQ (p::N.l) σ τ→K (.bool false) τ):gN [.pointer (some ⟨p,0,none⟩),N.env C who] K σ:=by
 rw[hA.obj hp]
 simp only[gN,qR,DR hd,h,UD hd,tG hd,dG hN h1.1 h1.2,B8 hd,eJ,dt,aF,bc,bN,Nat.reduceAdd,Int.reduceEq]
 exact behind hN hd hk
theorem Wo(hN:N.ok)(hC:C.ok)(hA:aZ N A σ){p:Nat}{a:Mo}(hp:σ.get p=some ⟨a.l,true⟩)(hd:p∉N.l)(h:a.pc=3)(hn:C.len≤A.n)(h2:0≤a.hs∧a.hs<C.S)(h3:0≤a.w∧a.w<18446744073709551616)
  (hk:∀ τ,aZ N ((A.by who).dI (C.slot a.hs) a.w (a.as 2 a.addr 0)) τ→τ.get p=some ⟨({ a with i:=0,pc:=if A.w (C.slot a.hs)=a.w then 4 else 0 }:Mo).l,true⟩→aQ (p::N.l) σ τ→K (.bool false) τ):gN [.pointer (some ⟨p,0,none⟩),N.env C who] K σ:=by
 have hT:=hC.T;have hS:=hC.S;have ma:=hC.C;have hl:=br hC
 have kW:C.chunk C.C=6+C.T+2*C.S+3*C.C:=rfl
 have pB:0≤C.slot a.hs∧C.slot a.hs<A.n:=by unfold Cf.slot;omega
 rw[hA.obj hp]
 simp only[gN,qR,DR hd,h,Uh hd,B8 hd,aF,bc,bN,Nat.reduceAdd,Int.reduceEq]
 rw[BW (a:={ a with i:=0,pc:=0 }) hC hd h2]
 simp only[Xq hd,KY hd]
 rw[JQ (a:={ a with i:=0,pc:=0 }) hd h3 (by decide),jE hN pB.1 pB.2]
 have e:({ a with i:=0,pc:=0 }:Mo).as 2 a.addr 0=a.as 2 a.addr 0:=rfl
 rw[e]
 by_cases c:A.w (C.slot a.hs)=a.w
 ·rw[af c]at hk
  simp only[c,B8 hd,eJ,dt,aF]
  exact behind hN hd hk
 ·rw[ae c]at hk
  simp only[c,eJ,dt,aF]
  exact behind hN hd hk
theorem Wn(hN:N.ok)(hA:aZ N A σ){p:Nat}{a:Mo}(hp:σ.get p=some ⟨a.l,true⟩)(hd:p∉N.l)(h:a.pc=4)(hw:∀ i,0≤A.w i∧A.w i<18446744073709551616)(h2:(A.n:Int)≤200000000)(h3:0≤a.w∧a.w<18446744073709551616)
  (hi:0≤a.i) (h1:0≤a.addr∧a.addr+1+a.i<A.n)
  (hk:∀ τ,aZ N ((A.by who).load (a.addr+1+a.i)) τ→τ.get p=some ⟨({ a with cell:=A.w (a.addr+1+a.i),pc:=if lL (A.w (a.addr+1+a.i))=true∧kX (A.w (a.addr+1+a.i))=cO a.w then 6 else 5 }:Mo).l,true⟩→aQ (p::N.l) σ τ→K (.bool false) τ):gN [.pointer (some ⟨p,0,none⟩),N.env C who] K σ:=by
 have g3:∀{k:Nat} {x y:Int} {b:Bool},aH 3 [.pointer (some ⟨k,0,some 0⟩),.agg #[.int .i64 x,.bool b,.int .i64 y]] [.int .i64 0,.bool false,.int .i64 0]=some [.int .i64 x,.bool b,.int .i64 y]:=fun{_ _ _ _}=>rfl
 have f3:∀(x y z w:Value) (K:Value→Prop),xF (b7 3 1 false) [.agg #[x,y,z,w]] K=K w:=fun _ _ _ _ K=>nr rfl
 have yn:=hw (a.addr+1+a.i)
 rw[hA.obj hp]
 simp only[gN,qR,DR hd,h,KY hd,KW hd,aF,bc,bN,Nat.reduceAdd,Int.reduceEq]
 rw[IntWalk.i64_in (a.addr+1) (by omega),IntWalk.i64_in (a.addr+1+a.i) (by omega),cg hN (by omega) h1.2]
 simp only[Yj hd,B8 hd,KV hd]
 rw[ln yn.1 yn.2]
 simp only[g3,aF,bc]
 by_cases c1:lL (A.w (a.addr+1+a.i))=true
 ·simp only[c1,Xq hd,aF]
  rw[cX h3.1 h3.2]
  by_cases c2:kX (A.w (a.addr+1+a.i))=cO a.w
  ·rw[af ⟨c1,c2⟩]at hk
   simp only[f3,c2,qQ,nK,B8 hd,eJ,dt,aF]
   exact behind hN hd hk
  ·rw[ae (fun q=>c2 q.2)]at hk
   simp only[f3,c2,qQ,nK,B8 hd,eJ,dt,aF]
   exact behind hN hd hk
 ·rw[ae (fun q=>c1 q.1)]at hk
  have c1':lL (A.w (a.addr+1+a.i))=false:=by simpa using c1
  simp only[c1',qQ,nK,B8 hd,eJ,dt,aF]
  exact behind hN hd hk
theorem Wm(hN:N.ok)(hA:aZ N A σ){p:Nat}{a:Mo}(hp:σ.get p=some ⟨a.l,true⟩)(hd:p∉N.l)(h:a.pc=5)(h2:(A.n:Int)≤200000000)(h3:0≤a.w∧a.w<18446744073709551616)(h4:0≤a.cell∧a.cell<18446744073709551616)
  (hi:0≤a.i) (h1:0≤a.addr∧a.addr+1+a.i<A.n)
  (hk:∀ τ,aZ N ((A.by who).dI (a.addr+1+a.i) a.cell (aT (kN a.cell) true (cO a.w))) τ→τ.get p=some ⟨({ a with pc:=if A.w (a.addr+1+a.i)=a.cell then 6 else 4 }:Mo).l,true⟩→aQ (p::N.l) σ τ→K (.bool false) τ):gN [.pointer (some ⟨p,0,none⟩),N.env C who] K σ:=by
 have g3:∀{k:Nat} {x y:Int} {b:Bool},aH 3 [.pointer (some ⟨k,0,some 0⟩),.agg #[.int .i64 x,.bool b,.int .i64 y]] [.int .i64 0,.bool false,.int .i64 0]=some [.int .i64 x,.bool b,.int .i64 y]:=fun{_ _ _ _}=>rfl
 have f3:∀(x y z w:Value) (K:Value→Prop),xF (b7 3 1 false) [.agg #[x,y,z,w]] K=K w:=fun _ _ _ _ K=>nr rfl
 have f0:∀(x y z:Value) (K:Value→Prop),xF (b7 0 1 false) [.agg #[x,y,z]] K=K x:=fun _ _ _ K=>nr rfl
 have s3:∀ x y z:Value,sub [x,y,z] 0 3 true=some (.agg #[x,y,z]):=fun _ _ _=>rfl
 have b3:∀(x y:Int) (b:Bool) (K:Value→Prop),xF (aM [(0,1),(1,1),(2,1)] [.int .i64 0,.bool false,.int .i64 0] [0,1,2]) [.int .i64 x,.bool b,.int .i64 y] K=K (.agg #[.int .i64 x,.bool b,.int .i64 y]):=fun _ _ _ K=>nr rfl
 rw[hA.obj hp]
 simp only[gN,qR,DR hd,h,B8 hd,KV hd,aF,bc,bN,Nat.reduceAdd,Int.reduceEq]
 rw[ln h4.1 h4.2]
 simp only[f0,Xq hd]
 rw[cX h3.1 h3.2]
 simp only[f3,b3,g3,KY hd,KW hd,KV hd,s3,o8,aF]
 rw[IntWalk.i64_in (a.addr+1) (by omega),IntWalk.i64_in (a.addr+1+a.i) (by omega),jE hN (by omega) h1.2]
 by_cases c:A.w (a.addr+1+a.i)=a.cell
 ·rw[af c]at hk
  simp only[c,B8 hd,eJ,dt,aF]
  exact behind hN hd hk
 ·rw[ae c]at hk
  simp only[c,eJ,dt,aF]
  exact behind hN hd hk
theorem Wl(hN:N.ok)(hA:aZ N A σ){p:Nat}{a:Mo}(hp:σ.get p=some ⟨a.l,true⟩)(hd:p∉N.l)(h:a.pc=6)(h2:(A.n:Int)≤200000000)(h4:0≤a.cell∧a.cell<18446744073709551616)
  (hi:0≤a.i∧a.i≤65536) (h1:0≤a.sa∧a.sa+1+a.i<A.n)
  (hk:∀ τ,aZ N ((A.by who).store (a.sa+1+a.i) (aT (kN a.cell) false 0)) τ→τ.get p=some ⟨({ a with i:=a.i+1,pc:=if a.hz≤a.i+1 then 7 else 4 }:Mo).l,true⟩→aQ (p::N.l) σ τ→K (.bool false) τ):gN [.pointer (some ⟨p,0,none⟩),N.env C who] K σ:=by
 have f0:∀(x y z:Value) (K:Value→Prop),xF (b7 0 1 false) [.agg #[x,y,z]] K=K x:=fun _ _ _ K=>nr rfl
 have b1:∀(x:Int) (K:Value→Prop),xF (aM [(0,1),(1,1),(2,1)] [.int .i64 0,.bool false,.int .i64 0] [0]) [.int .i64 x] K=K (.agg #[.int .i64 x,.bool false,.int .i64 0]):=fun _ K=>nr rfl
 rw[hA.obj hp]
 simp only[gN,qR,DR hd,h,UD hd,KW hd,KV hd,aF,bc,bN,Nat.reduceAdd,Int.reduceEq]
 rw[ln h4.1 h4.2]
 simp only[f0,b1,o8]
 rw[IntWalk.i64_in (a.sa+1) (by omega),IntWalk.i64_in (a.sa+1+a.i) (by omega),dG hN (by omega) h1.2]
 simp only[KW hd,Uh hd,B8 hd,SN hd,aF]
 rw[IntWalk.i64_in (a.i+1) (by omega)]
 by_cases c:a.hz≤a.i+1
 ·rw[af c]at hk
  simp only[c,eJ,dt,aF]
  exact behind hN hd hk
 ·rw[ae c]at hk
  simp only[c,eJ,dt,aF]
  exact behind hN hd hk
end Go.Fl
namespace Go.Fl
open Go
variable{N:Nm}{A B:Ar}{σ:Mem}{K:Value→Mem→Prop}{C:Cf}{who:Int}
theorem Wt(hN:N.ok)(hC:C.ok)(hA:aZ N A σ){p:Nat}{a:Mo}(hp:σ.get p=some ⟨a.l,true⟩)(hd:p∉N.l)(h:a.pc=0)(hn:C.len≤A.n)(hw:∀ i,0≤A.w i∧A.w i<18446744073709551616)(h2:0≤a.hs∧a.hs<C.S)(bE:0≤ai a.hz)
  (k1:∀ e,(cF (A.w (C.slot a.hs))=4∧b9 (A.w (C.slot a.hs))=a.hg∧a8 (A.w (C.slot a.hs))=a.addr)∧e=3∨¬(cF (A.w (C.slot a.hs))=4∧b9 (A.w (C.slot a.hs))=a.hg∧a8 (A.w (C.slot a.hs))=a.addr)∧((cF (A.w (C.slot a.hs))≠1∨b9 (A.w (C.slot a.hs))≠a.hg∨a8 (A.w (C.slot a.hs))≠a.addr)∧e=2 ∨
    ¬(cF (A.w (C.slot a.hs))≠1∨b9 (A.w (C.slot a.hs))≠a.hg∨a8 (A.w (C.slot a.hs))≠a.addr)∧4194302≤cO (A.w (C.slot a.hs))∧e=3)→∀ τ,aZ N ((A.by who).load (C.slot a.hs)) τ→τ.get p=some ⟨(({ a with w:=A.w (C.slot a.hs) }:Mo).mh e).l,true⟩→aQ (p::N.l) σ τ→K (.bool (!a.fX)) τ)
  (k2:¬(cF (A.w (C.slot a.hs))≠1∨b9 (A.w (C.slot a.hs))≠a.hg∨a8 (A.w (C.slot a.hs))≠a.addr)→¬ 4194302≤cO (A.w (C.slot a.hs))→a.fX=true→∀ τ,aZ N ((A.by who).load (C.slot a.hs)) τ→τ.get p=some ⟨({ a with w:=A.w (C.slot a.hs),pc:=3 }:Mo).l,true⟩→aQ (p::N.l) σ τ→K (.bool false) τ)
  (k3:¬(cF (A.w (C.slot a.hs))≠1∨b9 (A.w (C.slot a.hs))≠a.hg∨a8 (A.w (C.slot a.hs))≠a.addr)→¬ 4194302≤cO (A.w (C.slot a.hs))→a.fX=false→∀ q τ,σ.get q=none→q≠p→aZ N ((A.by who).load (C.slot a.hs)) τ→τ.get p=some ⟨({ a with w:=A.w (C.slot a.hs),pc:=1,p:=some q }:Mo).l,true⟩→τ.get q=some ⟨(Pl.new (ai a.hz)).l,true⟩→aQ (p::N.l) σ τ→K (.bool false) τ) :
  gN [.pointer (some ⟨p,0,none⟩),N.env C who] K σ:=by
 have hT:=hC.T;have hS:=hC.S;have ma:=hC.C;have hl:=br hC
 have kW:C.chunk C.C=6+C.T+2*C.S+3*C.C:=rfl
 have pB:0≤C.slot a.hs∧C.slot a.hs<A.n:=by unfold Cf.slot;omega
 have g4:∀{k:Nat} {x y z w:Int},aH 4 [.pointer (some ⟨k,0,some 0⟩),.agg #[.int .i64 x,.int .i64 y,.int .i64 z,.int .i64 w]] [.int .i64 0,.int .i64 0,.int .i64 0,.int .i64 0]=some [.int .i64 x,.int .i64 y,.int .i64 z,.int .i64 w]:=fun{_ _ _ _ _}=>rfl
 have hW:=hw (C.slot a.hs)
 rw[hA.obj hp]
 simp only[gN,qR,DR hd,h,GL,Pw,aF,bc,bN,Nat.reduceAdd,Int.reduceEq]
 rw[BW hC hd h2,cg hN pB.1 pB.2]
 generalize hWe:A.w (C.slot a.hs)=W at *
 simp only[sM7 hd,Xq hd]
 rw[cX hW.1 hW.2]
 have fin:∀ e (K':Value→Mem→Prop),(∀ v τ,K' v τ=K v τ)→((cF W=4∧b9 W=a.hg∧a8 W=a.addr)∧e=3∨¬(cF W=4∧b9 W=a.hg∧a8 W=a.addr)∧((cF W≠1∨b9 W≠a.hg∨a8 W≠a.addr)∧e=2∨¬(cF W≠1∨b9 W≠a.hg∨a8 W≠a.addr)∧4194302≤cO W∧e=3)) →
   pT [.pointer (some ⟨p,0,none⟩),.int .i64 e] K' (aD N ((A.by who).load (C.slot a.hs)) (σ.set p ⟨({ a with w:=W }:Mo).l,true⟩)):=by
  intro e K' hK hc
  rw[Fg (a:={ a with w:=W }) hd,hK]
  exact behind hN hd (k1 e hc)
 have j3:¬(cF W=4∧b9 W=a.hg∧a8 W=a.addr)→∀ b:Bool,(b=true ↔(cF W≠1∨b9 W≠a.hg∨a8 W≠a.addr))→uJ K (oI K) [.pointer (some ⟨p,0,none⟩),.bool b] [[.int .i64 (cF W),.int .i64 (a8 W),.int .i64 (b9 W),.int .i64 (cO W)]] (aD N ((A.by who).load (C.slot a.hs)) (σ.set p ⟨({ a with w:=W }:Mo).l,true⟩)):=by
  intro n1 b hb
  simp only[uJ,vC,aF,bc,Nat.reduceAdd]
  cases b with
  | true=>
   simp only[aF]
   exact fin 2 _ (fun _ _=>rfl) (.inr ⟨n1,.inl ⟨hb.1 rfl,rfl⟩⟩)
  | false=>
   have n2:¬(cF W≠1∨b9 W≠a.hg∨a8 W≠a.addr):=fun q=>by have:=hb.2 q;cases this
   by_cases c3:4194302≤cO W
   ·simp only[c3,aF]
    exact fin 3 _ (fun _ _=>rfl) (.inr ⟨n1,.inr ⟨n2,c3,rfl⟩⟩)
   ·cases e:a.fX with
    | true=>
     simp only[c3,KX hd,B8 hd,oI,qL,aF]
     have:=k2 n2 c3 e
     obtain⟨addr,hk,hz,hs,hg,ho,pc,w,p',sa,sc,fX,i,cell,nn,out⟩:=a
     dsimp only at *
     subst e
     exact behind hN hd this
    | false=>
     have k3':=k3 n2 c3 e
     obtain⟨addr,hk,hz,hs,hg,ho,pc,w,p',sa,sc,fX,i,cell,nn,out⟩:=a
     dsimp only at *
     subst e
     simp only[c3,KX hd,SN hd,aF]
     refine kc ?_
     refine behind (K:=fun _ σ=>yz [.int .i64 (ai hz)] _ σ) (v:=undef) hN hd fun υ u1 u2 u3=>?_
     refine x9 fun id ω dQ gid x=>?_
     have E2:=u1.ext x
     have I0:=x _ _ u2
     have ip:id≠p:=by rintro rfl;rw[u2]at dQ;cases dQ
     have B9:=u1.new dQ
     have ids:σ.get id=none:=by
      cases e:σ.get id with
      | none=>rfl
      | some b=>rw[u3 id b e (by simp only[List.mem_cons,not_or];exact⟨ip,B9⟩)]at dQ;cases dQ
     rw[E2.obj I0]
     simp only[sM8 hd,B8 hd,oI,qL,aF]
     refine behind hN hd fun ρ r1 r2 r3=>k3' id ρ ids ip r1 r2 ?_ ((u3.trans x.aL).trans r3)
     exact r3 id _ gid (by simp only[List.mem_cons,not_or];exact⟨ip,B9⟩)
 have j2f:¬(cF W=4∧b9 W=a.hg∧a8 W=a.addr)→qK K (oI K) [.pointer (some ⟨p,0,none⟩),.bool false] [[.int .i64 (cF W),.int .i64 (a8 W),.int .i64 (b9 W),.int .i64 (cO W)]] (aD N ((A.by who).load (C.slot a.hs)) (σ.set p ⟨({ a with w:=W }:Mo).l,true⟩)):=by
  intro n1
  simp only[qK,qJ,aF,bc,Nat.reduceAdd]
  by_cases s1:cF W=1
  ·by_cases s2:b9 W=a.hg
   ·by_cases s3:a8 W=a.addr
    ·simp only[s1,s2,s3,SM hd,KY hd,ne_eq,not_true_eq_false,aF]
     have:=j3 n1 false ⟨fun q=>(by cases q),fun q=>by rcases q with q|q|q<;>exact absurd (by assumption) q⟩
     simpa only[s1,s2,s3]using this
    ·simp only[s1,s2,s3,SM hd,KY hd,ne_eq,not_true_eq_false,not_false_eq_true,aF]
     have:=j3 n1 true ⟨fun _=>.inr (.inr s3),fun _=>rfl⟩
     simpa only[s1,s2,s3]using this
   ·simp only[s1,s2,SM hd,ne_eq,not_false_eq_true,aF]
    have:=j3 n1 true ⟨fun _=>.inr (.inl s2),fun _=>rfl⟩
    simpa only[s1,s2]using this
  ·simp only[s1,aF]
   exact j3 n1 true ⟨fun _=>.inl s1,fun _=>rfl⟩
 by_cases s1:cF W=4
 ·by_cases s2:b9 W=a.hg
  ·by_cases s3:a8 W=a.addr
   ·simp only[g4,s1,s2,s3,SM hd,KY hd,qK,qJ,aF,bc,Nat.reduceAdd,Int.reduceEq]
    exact fin 3 _ (fun _ _=>rfl) (.inl ⟨⟨s1,s2,s3⟩,rfl⟩)
   ·simp only[g4,s1,s2,s3,SM hd,KY hd,aF,bc]
    have:=j2f (fun q=>s3 q.2.2)
    simpa only[s1,s2,s3]using this
  ·simp only[g4,s1,s2,SM hd,aF,bc]
   have:=j2f (fun q=>s2 q.2.1)
   simpa only[s1,s2]using this
 ·simp only[g4,s1,aF,bc]
  exact j2f (fun q=>s1 q.1)
theorem Wk(hN:N.ok)(hC:C.ok)(hA:aZ N A σ){p:Nat}{a:Mo}(hp:σ.get p=some ⟨a.l,true⟩)(hd:p∉N.l)(h:a.pc=7)(hn:C.len≤A.n)(h2:0≤a.hs∧a.hs<C.S)(h3:0≤a.w∧a.w<18446744073709551616)(pC:0≤a.nn∧a.nn≤65536)
  (k1:A.w (C.slot a.hs)=a.as 2 a.addr 0→∀ τ,aZ N ((A.by who).dI (C.slot a.hs) (a.as 2 a.addr 0) (a.as 1 a.sa 1)) τ→τ.get p=some ⟨({ a with pc:=8 }:Mo).l,true⟩→aQ (p::N.l) σ τ→K (.bool false) τ)
  (k2:A.w (C.slot a.hs)≠a.as 2 a.addr 0→C.R≤a.nn+1→∀ τ,aZ N ((A.by who).dI (C.slot a.hs) (a.as 2 a.addr 0) (a.as 1 a.sa 1)) τ→τ.get p=some ⟨(({ a with pc:=0,nn:=a.nn+1 }:Mo).mh 3).l,true⟩→aQ (p::N.l) σ τ→K (.bool (!a.fX)) τ)
  (k3:A.w (C.slot a.hs)≠a.as 2 a.addr 0→¬ C.R≤a.nn+1→∀ τ,aZ N ((A.by who).dI (C.slot a.hs) (a.as 2 a.addr 0) (a.as 1 a.sa 1)) τ→τ.get p=some ⟨({ a with pc:=0,nn:=a.nn+1 }:Mo).l,true⟩→aQ (p::N.l) σ τ→K (.bool false) τ) :
  gN [.pointer (some ⟨p,0,none⟩),N.env C who] K σ:=by
 have hT:=hC.T;have hS:=hC.S;have ma:=hC.C;have hl:=br hC
 have kW:C.chunk C.C=6+C.T+2*C.S+3*C.C:=rfl
 have pB:0≤C.slot a.hs∧C.slot a.hs<A.n:=by unfold Cf.slot;omega
 rw[hA.obj hp]
 simp only[gN,qR,DR hd,h,GK,Pv,aF,bc,bN,Nat.reduceAdd,Int.reduceEq]
 rw[BW hC hd h2]
 simp only[KY hd]
 rw[JQ hd h3 (by decide)]
 simp only[UD hd]
 rw[JQ hd h3 (by decide),jE hN pB.1 pB.2]
 by_cases c:A.w (C.slot a.hs)=a.as 2 a.addr 0
 ·simp only[c,B8 hd,aF]
  exact behind hN hd (k1 c)
 ·simp only[c,B8 hd,aaw hd,Yi hd,aF]
  rw[IntWalk.i64_in (a.nn+1) (by omega)]
  by_cases c2:C.R≤a.nn+1
  ·simp only[c2,aF]
   rw[Fg (a:={ a with pc:=0,nn:=a.nn+1 }) hd]
   exact behind hN hd (k2 c c2)
  ·simp only[c2,aF]
   exact behind hN hd (k3 c c2)
theorem Wj(hN:N.ok)(hC:C.ok)(hA:aZ N A σ){p:Nat}{a:Mo}(hp:σ.get p=some ⟨a.l,true⟩)(hd:p∉N.l)(h:a.pc=8)(h1:0≤a.sa∧a.sa<A.n)(bE:0≤ai a.hz)
  (hk:∀ τ,aZ N ((A.by who).store a.sa (a.hd 2)) τ→τ.get p=some ⟨({ a with pc:=9 }:Mo).l,true⟩→aQ (p::N.l) σ τ→K (.bool false) τ):gN [.pointer (some ⟨p,0,none⟩),N.env C who] K σ:=by
 have G4:=(bH a.hz).2
 rw[hA.obj hp]
 simp only[gN,qR,DR hd,h,Be,Gt,SN hd,aF,bc,bN,Nat.reduceAdd,Int.reduceEq]
 refine kc ?_
 rw[mX bE G4]
 simp only[DR hd,h,UD hd,tG hd,dG hN h1.1 h1.2,B8 hd,uL,qP,aF,Int.reduceEq]
 exact behind hN hd hk
theorem Sd(hN:N.ok)(hC:C.ok)(hA:aZ N A σ){p:Nat}{a:Mo}(hp:σ.get p=some ⟨a.l,true⟩)(hd:p∉N.l)(h:a.pc=11)(h1:0≤a.sa∧a.sa<A.n)(bE:0≤ai a.hz)
  (hk:∀ τ,aZ N ((A.by who).store a.sa (a.hd 3)) τ→τ.get p=some ⟨a.l,true⟩→aQ (p::N.l) σ τ→K (.bool true) τ):gN [.pointer (some ⟨p,0,none⟩),N.env C who] K σ:=by
 have G4:=(bH a.hz).2
 rw[hA.obj hp]
 simp only[gN,qR,DR hd,h,Be,Gt,SN hd,aF,bc,bN,Nat.reduceAdd,Int.reduceEq]
 refine kc ?_
 rw[mX bE G4]
 simp only[DR hd,h,UD hd,tG hd,dG hN h1.1 h1.2,aF,Int.reduceEq]
 exact behind hN hd hk
theorem Wi(hN:N.ok)(hC:C.ok)(hA:aZ N A σ){p:Nat}{a:Mo}(hp:σ.get p=some ⟨a.l,true⟩)(hd:p∉N.l)(h:a.pc=9)(hn:C.len≤A.n)(h1:0≤a.sc∧a.sc<C.C)(bE:0≤ai a.hz)
  (hk:∀ τ,aZ N ((A.by who).add (C.chunk a.sc+1) (IntKind.u64.wrap (aA (ai a.hz)))) τ→τ.get p=some ⟨({ a with pc:=10 }:Mo).l,true⟩→aQ (p::N.l) σ τ→K (.bool false) τ):gN [.pointer (some ⟨p,0,none⟩),N.env C who] K σ:=by
 have G4:=(bH a.hz).2
 have hT:=hC.T;have hS:=hC.S;have ma:=hC.C;have hl:=br hC
 have kW:C.chunk C.C=6+C.T+2*C.S+3*C.C:=rfl
 have Lf:C.chunk a.sc=6+C.T+2*C.S+3*a.sc:=rfl
 rw[hA.obj hp]
 simp only[gN,qR,DR hd,h,Be,Gt,SN hd,aF,bc,bN,Nat.reduceAdd,Int.reduceEq]
 refine kc ?_
 rw[mX bE G4]
 simp only[DR hd,h,aax hd,aF,Int.reduceEq]
 rw[cB hC h1.1 (by omega)]
 simp only[aF]
 rw[IntWalk.i64_in (C.chunk a.sc+1) (by omega),Gj hN (by omega) (by omega)]
 simp only[B8 hd,uL,qP,aF]
 exact behind hN hd hk
theorem Se(hN:N.ok)(hC:C.ok)(hA:aZ N A σ){p:Nat}{a:Mo}(hp:σ.get p=some ⟨a.l,true⟩)(hd:p∉N.l)(h:a.pc=10)(hn:C.len≤A.n)(h1:a.addr<9223372036854775808∧0≤qz C a.addr∧qz C a.addr<C.C)(bE:0≤ai a.hz)
  (hk:∀ τ,aZ N ((A.by who).add (C.chunk (qz C a.addr)+1) (IntKind.u64.wrap (-aA (ai a.hz)))) τ→τ.get p=some ⟨({ a with out:=1 }:Mo).l,true⟩→aQ (p::N.l) σ τ→K (.bool true) τ):gN [.pointer (some ⟨p,0,none⟩),N.env C who] K σ:=by
 have G4:=(bH a.hz).2
 have hr:=bR bE G4
 have hT:=hC.T;have hS:=hC.S;have ma:=hC.C;have hl:=br hC
 have kW:C.chunk C.C=6+C.T+2*C.S+3*C.C:=rfl
 have Lf:C.chunk (qz C a.addr)=6+C.T+2*C.S+3*qz C a.addr:=rfl
 rw[hA.obj hp]
 simp only[gN,qR,DR hd,h,Be,Gt,SN hd,aF,bc,bN,Nat.reduceAdd,Int.reduceEq]
 refine kc ?_
 rw[mX bE G4]
 simp only[DR hd,h,KY hd,aF,Int.reduceEq]
 rw[Wg hC h1.1]
 simp only[cB hC h1.2.1 (show qz C a.addr≤65536 by omega)]
 simp only[aF]
 rw[IntWalk.i64_in (C.chunk (qz C a.addr)+1) (by omega),Tm]
 rw[IntWalk.i64_in (-aA (ai a.hz)) (by omega),Gj hN (by omega) (by omega)]
 simp only[Yh hd]
 exact behind hN hd hk
theorem Ws(hN:N.ok)(hC:C.ok)(hA:aZ N A σ){p q:Nat}{a:Mo}{t:Pl}(hp:σ.get p=some ⟨a.l,true⟩)(hd:p∉N.l)(hq:σ.get q=some ⟨[]++t.l++[],true⟩)(lE:q∉N.l)(l9:q≠p)
  (hw:∀ i,0≤A.w i∧A.w i<18446744073709551616) (hn:C.len≤A.n) (h:a.pc=1) (ha:a.p=some q) (hf:t.fit C) (ho:A.w (2+t.cls)≤C.C)
  (k0:(t.step C who A).1=false→∀ τ,aZ N (t.step C who A).2.2 τ→τ.get p=some ⟨a.l,true⟩→τ.get q=some ⟨[]++(t.step C who A).2.1.l++[],true⟩→aQ (q::p::N.l) σ τ→K (.bool false) τ)
  (k1:(t.step C who A).1=true→(t.step C who A).2.1.ok=true→∀ τ,aZ N (t.step C who A).2.2 τ→τ.get p=some ⟨({ a with sa:=(t.step C who A).2.1.sa,sc:=(t.step C who A).2.1.sc,fX:=true,pc:=2 }:Mo).l,true⟩→aQ (q::p::N.l) σ τ→K (.bool false) τ)
  (k2:(t.step C who A).1=true→(t.step C who A).2.1.ok=false→∀ τ,aZ N (t.step C who A).2.2 τ→τ.get p=some ⟨(({ a with sa:=0,sc:=0,fX:=false,pc:=2 }:Mo).mh 4).l,true⟩→aQ (q::p::N.l) σ τ→K (.bool true) τ) :
  gN [.pointer (some ⟨p,0,none⟩),N.env C who] K σ:=by
 rw[hA.obj hp]
 simp only[gN,qR,DR hd,h,lM8 hd,ha,rP,aF,bc,bN,Nat.reduceAdd,Int.reduceEq]
 rw[←hA.obj hp]
 refine si hN hC hA (t:=t) (pre:=[]) (post:=[]) hq lE hw hn hf ho fun τ dL yo hK=>?_
 generalize t.step C who A=r at *
 obtain⟨d,t',A'⟩:=r
 dsimp only at *
 have bG:τ.get p=some ⟨a.l,true⟩:=hK.get hp (by simp only[List.mem_cons,not_or];exact⟨fun e=>l9 e.symm,hd⟩)
 have m9:aQ (q::p::N.l) σ τ:=hK.mono (by intro i hi;rcases List.mem_cons.1 hi with rfl|hi<;>simp[*])
 have I9:∀ i∈p::N.l,i∈q::p::N.l:=fun i hi=>List.mem_cons_of_mem _ hi
 cases d with
 | false=>
  simp only[eJ,dt,aF];exact k0 rfl τ dL bG yo m9
 | true=>
  simp only[aF]
  rw[dL.obj bG]
  simp only[lM8 hd,ha,rP]
  rw[←dL.obj bG]
  refine sj dL (pre:=[]) (post:=[]) yo lE ?_
  rw[dL.obj bG]
  cases o:t'.ok with
  | true=>
   simp only[sM9 hd,Ui hd,B8 hd,KX hd,eJ,dt,aF]
   exact behind hN hd fun υ u1 u2 u3=>k1 rfl o υ u1 u2 (m9.trans (u3.mono I9))
  | false=>
   simp only[sM9 hd,Ui hd,B8 hd,KX hd,aF]
   rw[Fg (a:={ a with sa:=0,sc:=0,fX:=false,pc:=2 }) hd]
   exact behind hN hd fun υ u1 u2 u3=>k2 rfl o υ u1 u2 (m9.trans (u3.mono I9))
end Go.Fl
namespace Go.Fl
open Go
variable{N:Nm}{A B:Ar}{σ:Mem}{K:Value→Mem→Prop}{C:Cf}{who:Int}
def Mo.wp(a:Mo)(x:Option Nat):Mo:={ a with p:=x }
structure B5(N:Nm)(p:Nat)(O:List Nat)(m:Mv)(τ:Mem):Prop where
 obj:∃ x,τ.get p=some ⟨(m.a.wp x).l,true⟩∧(m.a.pc=1→∃ q,x=some q∧q∈O∧q≠p∧τ.get q=some ⟨[]++m.t.l++[],true⟩)
 own:∀ i∈O,i∉N.l
 p:p∈O
theorem B5.ext{p:Nat}{O:List Nat}{m:Mv}{τ:Mem}(h:B5 N p O m σ)(x:Ext σ τ):B5 N p O m τ:=by
 obtain⟨⟨a,h1,h2⟩,h4,h5⟩:=h
 refine⟨⟨a,x _ _ h1,fun e=>?_⟩,h4,h5⟩
 obtain⟨q,q1,q2,q3,q4⟩:=h2 e;exact⟨q,q1,q2,q3,x _ _ q4⟩
theorem B5.aL{p:Nat}{O L:List Nat}{m:Mv}{τ:Mem}(h:B5 N p O m σ)(x:aQ L σ τ)(hL:∀ i∈O,i∉L):B5 N p O m τ:=by
 obtain⟨⟨a,h1,h2⟩,h4,h5⟩:=h
 refine⟨⟨a,x.get h1 (hL p h5),fun e=>?_⟩,h4,h5⟩
 obtain⟨q,q1,q2,q3,q4⟩:=h2 e;exact⟨q,q1,q2,q3,x.get q4 (hL q q2)⟩
theorem B5.out{p:Nat}{O:List Nat}{m:Mv}(h:B5 N p O m σ):∃ a:Mo,σ.get p=some ⟨a.l,true⟩∧a.out=m.a.out∧a.fX=m.a.fX∧a.sa=m.a.sa∧a.sc=m.a.sc:=by
 obtain⟨⟨x,h1,_⟩,_⟩:=h;exact⟨_,h1,rfl,rfl,rfl,rfl⟩
theorem BL{a:Mo}{e:Int}(h:a.pc≠1):(a.mh e).pc≠1:=by unfold Mo.mh;dsimp only;split<;>omega
theorem Hm(hN:N.ok)(hC:C.ok)(hA:aZ N A σ){p:Nat}{O:List Nat}{m:Mv}(hO:B5 N p O m σ)(hw:∀ i,0≤A.w i∧A.w i<18446744073709551616)(hn:C.len≤A.n)(hf:m.fit C A)
  (hk:∀ O' τ,(∀ i∈O',i∈O∨σ.get i=none)→aZ N (m.step C who A).2.2 τ→B5 N p O' (m.step C who A).2.1 τ→aQ (O++N.l) σ τ→K (.bool (m.step C who A).1) τ):gN [.pointer (some ⟨p,0,none⟩),N.env C who] K σ:=by
 obtain⟨⟨x,hp,h3⟩,own,pO⟩:=hO
 have hd:=own p pO
 have k1:∀{τ:Mem},aQ (p::N.l) σ τ→aQ (O++N.l) σ τ:=fun k=>k.mono fun i hi=>by
  rcases List.mem_cons.1 hi with rfl|hi
  ·exact List.mem_append_left _ pO
  ·exact List.mem_append_right _ hi
 have same:∀ i∈O,i∈O∨σ.get i=none:=fun i hi=>.inl hi
 have cons:∀{q:Nat},σ.get q=none→∀ i∈q::O,i∈O∨σ.get i=none:=fun h i hi=>by rcases List.mem_cons.1 hi with rfl|hi;exact .inr h;exact .inl hi
 have tp:∀{q:Nat},q∉N.l→∀ i∈q::O,i∉N.l:=fun h i hi=>by rcases List.mem_cons.1 hi with rfl|hi;exact h;exact own i hi
 have oT:=hf.pc
 unfold Mv.step at hk
 by_cases c0:m.a.pc=0
 ·simp only[af c0]at hk
  refine Wt hN hC hA (a:=m.a.wp x) hp hd c0 hn hw hf.hs hf.cl (fun e he τ u1 u2 u3=>?_) (fun n1 n2 g τ u1 u2 u3=>?_) (fun n1 n2 g q τ q1 q2 u1 u2 u3 u4=>?_)
  ·have np:(({ m.a with w:=A.w (C.slot m.a.hs) }:Mo).mh e).pc≠1:=BL (by show m.a.pc≠1;omega)
   rcases he with⟨c,rfl⟩|⟨n,⟨c,rfl⟩|⟨n2,c,rfl⟩⟩
   ·rw[af (show cF (A.w (C.slot m.a.hs))=4∧b9 (A.w (C.slot m.a.hs))=m.a.hg∧a8 (A.w (C.slot m.a.hs))=m.a.addr from c)]at hk
    exact hk O τ same u1 ⟨⟨x,u2,fun q=>absurd q np⟩,own,pO⟩ (k1 u3)
   ·rw[ae (show ¬(cF (A.w (C.slot m.a.hs))=4∧b9 (A.w (C.slot m.a.hs))=m.a.hg∧a8 (A.w (C.slot m.a.hs))=m.a.addr)from n),af (show cF (A.w (C.slot m.a.hs))≠1∨b9 (A.w (C.slot m.a.hs))≠m.a.hg∨a8 (A.w (C.slot m.a.hs))≠m.a.addr from c)]at hk
    exact hk O τ same u1 ⟨⟨x,u2,fun q=>absurd q np⟩,own,pO⟩ (k1 u3)
   ·rw[ae (show ¬(cF (A.w (C.slot m.a.hs))=4∧b9 (A.w (C.slot m.a.hs))=m.a.hg∧a8 (A.w (C.slot m.a.hs))=m.a.addr)from n),ae (show ¬(cF (A.w (C.slot m.a.hs))≠1∨b9 (A.w (C.slot m.a.hs))≠m.a.hg∨a8 (A.w (C.slot m.a.hs))≠m.a.addr)from n2),
     af (show 4194302≤cO (A.w (C.slot m.a.hs))from c)]at hk
    exact hk O τ same u1 ⟨⟨x,u2,fun q=>absurd q np⟩,own,pO⟩ (k1 u3)
  ·have n3:¬(cF (A.w (C.slot m.a.hs))=4∧b9 (A.w (C.slot m.a.hs))=m.a.hg∧a8 (A.w (C.slot m.a.hs))=m.a.addr):=fun q=>n1 (.inl (by show cF (A.w (C.slot m.a.hs))≠1;omega))
   rw[ae n3,ae (show ¬(cF (A.w (C.slot m.a.hs))≠1∨b9 (A.w (C.slot m.a.hs))≠m.a.hg∨a8 (A.w (C.slot m.a.hs))≠m.a.addr)from n1),ae (show ¬ 4194302≤cO (A.w (C.slot m.a.hs))from n2),af (show m.a.fX=true from g)]at hk
   exact hk O τ same u1 ⟨⟨x,u2,fun q=>by cases q⟩,own,pO⟩ (k1 u3)
  ·have n3:¬(cF (A.w (C.slot m.a.hs))=4∧b9 (A.w (C.slot m.a.hs))=m.a.hg∧a8 (A.w (C.slot m.a.hs))=m.a.addr):=fun q=>n1 (.inl (by show cF (A.w (C.slot m.a.hs))≠1;omega))
   rw[ae n3,ae (show ¬(cF (A.w (C.slot m.a.hs))≠1∨b9 (A.w (C.slot m.a.hs))≠m.a.hg∨a8 (A.w (C.slot m.a.hs))≠m.a.addr)from n1),ae (show ¬ 4194302≤cO (A.w (C.slot m.a.hs))from n2),ae (show ¬ m.a.fX=true by rw[show m.a.fX=false from g];decide)]at hk
   exact hk (q::O) τ (cons q1) u1 ⟨⟨some q,u2,fun _=>⟨q,rfl,List.mem_cons_self ..,q2,by rw[List.nil_append,List.append_nil];exact u3⟩⟩,tp (hA.new q1),List.mem_cons_of_mem _ pO⟩ (k1 u4)
 by_cases c1:m.a.pc=1
 ·simp only[ae c0,af c1]at hk
  obtain⟨q,rfl,qO,qp,gq⟩:=h3 c1
  obtain⟨f1,f2⟩:=hf.pl c1
  have k2:∀{τ:Mem},aQ (q::p::N.l) σ τ→aQ (O++N.l) σ τ:=fun k=>k.mono fun i hi=>by
   rcases List.mem_cons.1 hi with rfl|hi
   ·exact List.mem_append_left _ qO
   ·rcases List.mem_cons.1 hi with rfl|hi
    ·exact List.mem_append_left _ pO
    ·exact List.mem_append_right _ hi
  refine Ws hN hC hA (a:=m.a.wp (some q)) (t:=m.t) hp hd gq (own q qO) qp hw hn c1 rfl f1 f2 (fun d τ u1 u2 u3 u4=>?_) (fun d o τ u1 u2 u3=>?_) (fun d o τ u1 u2 u3=>?_)
  ·rw[af d]at hk
   exact hk O τ same u1 ⟨⟨some q,u2,fun _=>⟨q,rfl,qO,qp,u3⟩⟩,own,pO⟩ (k2 u4)
  ·rw[ae (by rw[d];decide),af o]at hk
   exact hk O τ same u1 ⟨⟨some q,u2,fun e=>by cases e⟩,own,pO⟩ (k2 u3)
  ·rw[ae (by rw[d];decide),ae (by rw[o];decide)]at hk
   exact hk O τ same u1 ⟨⟨some q,u2,fun e=>absurd e (BL (by decide:(2:Int)≠1))⟩,own,pO⟩ (k2 u3)
 by_cases c2:m.a.pc=2
 ·simp only[ae c0,ae c1,af c2]at hk
  exact Wq hN hA (a:=m.a.wp x) hp hd c2 (hf.sa (.inl c2)) fun τ u1 u2 u3=>hk O τ same u1 ⟨⟨x,u2,fun e=>by cases e⟩,own,pO⟩ (k1 u3)
 by_cases c3:m.a.pc=3
 ·simp only[ae c0,ae c1,ae c2,af c3]at hk
  exact Wo hN hC hA (a:=m.a.wp x) hp hd c3 hn hf.hs hf.w fun τ u1 u2 u3=>hk O τ same u1 ⟨⟨x,u2,fun e=>by dsimp only at e;split at e<;>cases e⟩,own,pO⟩ (k1 u3)
 by_cases c4:m.a.pc=4
 ·simp only[ae c0,ae c1,ae c2,ae c3,af c4]at hk
  exact Wn hN hA (a:=m.a.wp x) hp hd c4 hw hf.n2 hf.w hf.i.1 (hf.at' (.inl c4)) fun τ u1 u2 u3=>hk O τ same u1 ⟨⟨x,u2,fun e=>by dsimp only at e;split at e<;>cases e⟩,own,pO⟩ (k1 u3)
 by_cases c5:m.a.pc=5
 ·simp only[ae c0,ae c1,ae c2,ae c3,ae c4,af c5]at hk
  exact Wm hN hA (a:=m.a.wp x) hp hd c5 hf.n2 hf.w hf.cell hf.i.1 (hf.at' (.inr c5)) fun τ u1 u2 u3=>hk O τ same u1 ⟨⟨x,u2,fun e=>by dsimp only at e;split at e<;>cases e⟩,own,pO⟩ (k1 u3)
 by_cases c6:m.a.pc=6
 ·simp only[ae c0,ae c1,ae c2,ae c3,ae c4,ae c5,af c6]at hk
  exact Wl hN hA (a:=m.a.wp x) hp hd c6 hf.n2 hf.cell hf.i (hf.c6 c6) fun τ u1 u2 u3=>hk O τ same u1 ⟨⟨x,u2,fun e=>by dsimp only at e;split at e<;>cases e⟩,own,pO⟩ (k1 u3)
 by_cases c7:m.a.pc=7
 ·simp only[ae c0,ae c1,ae c2,ae c3,ae c4,ae c5,ae c6,af c7]at hk
  refine Wk hN hC hA (a:=m.a.wp x) hp hd c7 hn hf.hs hf.w hf.nn (fun c τ u1 u2 u3=>?_) (fun c d τ u1 u2 u3=>?_) (fun c d τ u1 u2 u3=>?_)
  ·rw[af (show A.w (C.slot m.a.hs)=m.a.as 2 m.a.addr 0 from c)]at hk
   exact hk O τ same u1 ⟨⟨x,u2,fun e=>by cases e⟩,own,pO⟩ (k1 u3)
  ·rw[ae (show ¬ A.w (C.slot m.a.hs)=m.a.as 2 m.a.addr 0 from c),af (show C.R≤m.a.nn+1 from d)]at hk
   exact hk O τ same u1 ⟨⟨x,u2,fun e=>absurd e (BL (by decide:(0:Int)≠1))⟩,own,pO⟩ (k1 u3)
  ·rw[ae (show ¬ A.w (C.slot m.a.hs)=m.a.as 2 m.a.addr 0 from c),ae (show ¬ C.R≤m.a.nn+1 from d)]at hk
   exact hk O τ same u1 ⟨⟨x,u2,fun e=>by cases e⟩,own,pO⟩ (k1 u3)
 by_cases c8:m.a.pc=8
 ·simp only[ae c0,ae c1,ae c2,ae c3,ae c4,ae c5,ae c6,ae c7,af c8]at hk
  exact Wj hN hC hA (a:=m.a.wp x) hp hd c8 (hf.sa (.inr (.inl c8))) hf.cl fun τ u1 u2 u3=>hk O τ same u1 ⟨⟨x,u2,fun e=>by cases e⟩,own,pO⟩ (k1 u3)
 by_cases c9:m.a.pc=9
 ·simp only[ae c0,ae c1,ae c2,ae c3,ae c4,ae c5,ae c6,ae c7,ae c8,af c9]at hk
  exact Wi hN hC hA (a:=m.a.wp x) hp hd c9 hn (hf.c9 c9) hf.cl fun τ u1 u2 u3=>hk O τ same u1 ⟨⟨x,u2,fun e=>by cases e⟩,own,pO⟩ (k1 u3)
 by_cases zE:m.a.pc=10
 ·simp only[ae c0,ae c1,ae c2,ae c3,ae c4,ae c5,ae c6,ae c7,ae c8,ae c9,af zE]at hk
  exact Se hN hC hA (a:=m.a.wp x) hp hd zE hn (hf.zE zE) hf.cl fun τ u1 u2 u3=>hk O τ same u1 ⟨⟨x,u2,fun e=>absurd (show m.a.pc=1 from e) c1⟩,own,pO⟩ (k1 u3)
 have W5:m.a.pc=11:=by omega
 simp only[ae c0,ae c1,ae c2,ae c3,ae c4,ae c5,ae c6,ae c7,ae c8,ae c9,ae zE]at hk
 exact Sd hN hC hA (a:=m.a.wp x) hp hd W5 (hf.sa (.inr (.inr W5))) hf.cl fun τ u1 u2 u3=>hk O τ same u1 ⟨⟨x,u2,fun e=>absurd e c1⟩,own,pO⟩ (k1 u3)
theorem KO{ad k z s g:Int}{o:Bool}(hA:aZ N A σ)(hk:∀ p τ,σ.get p=none→B5 N p [p] (Mv.new ad k z s g o) τ→Ext σ τ→K (.pointer (some ⟨p,0,none⟩)) τ):CH [.int .i64 ad,.agg #[.int .i64 k,.int .i64 z,.int .i64 s,.int .i64 g,.bool o]] K σ:=by
 refine Ho fun p τ hp gp x=>hk p τ hp ⟨⟨none,gp,(fun e=>by cases e)⟩,fun i hi=>?_,List.mem_singleton.2 rfl⟩ x
 rw[List.mem_singleton.1 hi];exact hA.new hp
end Go.Fl
