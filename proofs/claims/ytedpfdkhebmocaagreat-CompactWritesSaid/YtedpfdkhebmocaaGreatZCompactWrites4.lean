/- What the claim leans on, part 4: own readings of the program's functions, what they come to, laws of them. No condition. -/
import Derived.Test.YtedpfdkhebmocaaGreatZCompactWrites3
set_option linter.unusedVariables false
set_option linter.unusedSimpArgs false
namespace Go.Fl
open Go
variable{N:Nm}{A B:Ar}{σ:Mem}{K:Value→Mem→Prop}{C:Cf}{who:Int}
structure Sn where
 st:Int
 cl:Int
 us:Int
 sp:Int
 live:Int
 op:Bool
def Sn.l(x:Sn):List Value:=[.int .i64 x.st,.int .i64 x.cl,.int .i64 x.us,.int .i64 x.sp,.int .i64 x.live,.bool x.op]
def kK:List Sn→List Value
 | []=>[]
 | x::l=>x.l++kK l
theorem rI:∀{l:List Sn},(kK l).length=l.length*6
 | []=>rfl
 | x::l=>by show(x.l++kK l).length=_;rw[List.length_append,rI (l:=l)];show 6+l.length*6=(l.length+1)*6;omega
theorem A8:∀{l m:List Sn},kK (l++m)=kK l++kK m
 | [],m=>rfl
 | x::l,m=>by show x.l++kK (l++m)=(x.l++kK l)++kK m;rw[A8,List.append_assoc]
theorem sZ{l:List Sn}{i:Nat}{x:Sn}(h:l[i]?=some x):kK l=kK (l.take i)++x.l++kK (l.drop (i+1))∧(kK (l.take i)).length=i*6:=by
 have hi:i<l.length:=(List.getElem?_eq_some_iff.1 h).1
 have e:l=l.take i++x::l.drop (i+1):=by
  have hx:l[i]=x:=(List.getElem?_eq_some_iff.1 h).2
  rw[←hx,List.getElem_cons_drop];exact(List.take_append_drop i l).symm
 refine⟨?_,by rw[rI,List.length_take];congr 1;omega⟩
 conv=>lhs;rw[e]
 rw[A8]
 show kK (l.take i)++(x.l++kK (l.drop (i+1)))=_
 rw[List.append_assoc]
theorem Q6{l:List Sn}{i k sz:Nat}{ag:Bool}{x:Sn}{v:Value}(h:l[i]?=some x)(hz:0<sz)(hk:k+sz≤6)(hv:sub x.l k sz ag=some v):sub (kK l) (i*6+k) sz ag=some v:=by
 obtain⟨e,hl⟩:=sZ h
 rw[e,←hl,FK hz hk,hv]
theorem Is{l:List Sn}{i k:Nat}{x y:Sn}{vs:List Value}(h:l[i]?=some x)(hk:k+vs.length≤6)(hv:lay x.l k vs=y.l):lay (kK l) (i*6+k) vs=kK (l.set i y):=by
 obtain⟨e,hl⟩:=sZ h
 have hi:i<l.length:=(List.getElem?_eq_some_iff.1 h).1
 have h2:(l.set i y)[i]?=some y:=by rw[List.getElem?_set];simp[hi]
 obtain⟨e2,_⟩:=sZ h2
 rw[e,←hl,FV hk,hv,e2,List.take_set_of_le (Nat.le_refl i),List.drop_set_of_lt (Nat.lt_succ_self i)]
def Sn.may(C:Cf)(x:Sn):Prop:=x.st=1∧x.op=false∧0<x.us∧(x.live≤0∨IntKind.i64.wrap (1000*x.live)<IntKind.i64.wrap (C.P*x.us))
instance {x:Sn}:Decidable (x.may C):=inferInstanceAs (Decidable (_∧_))
def FA(C:Cf)(l:List Sn)(r:Int):Prop:=r = -1∧(∀ x∈l,¬ x.may C)∨0≤r∧∃ x,l[r.toNat]?=some x∧x.may C
def Gn(C:Cf)(l:List Sn)(r:Int):Prop:=0≤r→∀ x,l[r.toNat]?=some x→∀ k:Int,0≤k→∀ y,l[k.toNat]?=some y→y.may C→x.live≤y.live
theorem EU{b:Nat}{rw:Bool}{l:List Sn}{i k sz:Nat}{ag:Bool}{x:Sn}{v:Value}(hb:σ.get b=some ⟨kK l,rw⟩)(h:l[i]?=some x)(hz:0<sz)(hk:k+sz≤6)(hv:sub x.l k sz ag=some v):aj sz ag [.pointer (some ⟨b,i*6+k,none⟩)] K σ=K v σ:=by
 rw[cf hb,Q6 h hz hk hv,Ce]
theorem abT{x:Sn}:bO 6 [.agg x.l.toArray] []=some x.l:=nr rfl
theorem OU{x:Sn}:Bb [C.v,.agg x.l.toArray] K σ=K (.bool (decide (x.may C))) σ:=by
 have e0:sub x.l 0 1 false=some (.int .i64 x.st):=rfl
 have e2:sub x.l 2 1 false=some (.int .i64 x.us):=rfl
 have e4:sub x.l 4 1 false=some (.int .i64 x.live):=rfl
 have e5:sub x.l 5 1 false=some (.bool x.op):=rfl
 have e6:sub C.l 5 1 false=some (.int .i64 C.P):=rfl
 have key:decide (x.may C)=(decide (x.st=1)&&(!x.op)&&decide (0<x.us)&&(decide (x.live≤0)||decide (IntKind.i64.wrap (1000*x.live)<IntKind.i64.wrap (C.P*x.us)))):=by
  have e:decide (x.may C)=true ↔ x.st=1∧x.op=false∧0<x.us∧(x.live≤0∨IntKind.i64.wrap (1000*x.live)<IntKind.i64.wrap (C.P*x.us)):=decide_eq_true_iff
  rw[Bool.eq_iff_iff,e]
  simp only[Bool.and_eq_true,Bool.or_eq_true,decide_eq_true_eq,Bool.not_eq_true']
  constructor
  ·rintro⟨a,b,c,d⟩;exact⟨⟨⟨a,b⟩,c⟩,d⟩
  ·rintro⟨⟨⟨a,b⟩,c⟩,d⟩;exact⟨a,b,c,d⟩
 rw[key]
 simp only[Bb,Pj,Dg,abT,e0,e2,e4,e5,e6,aF,bc]
 cases x.op<;>by_cases c1:x.st=1<;>by_cases c2:0<x.us<;>by_cases c3:x.live≤0<;>simp only[c1,c2,c3,Bool.not_true,Bool.not_false,decide_true,decide_false,Bool.and_true,Bool.true_and,Bool.false_and,Bool.and_false,Bool.true_or,Bool.false_or,aF]
theorem JN{b:Nat}{rw:Bool}{l:List Sn}{x y:Int}(hb:σ.get b=some ⟨kK l,rw⟩)(hx:x = -1∨0≤x∧x<l.length)(hy:0≤y∧y<l.length)(hk:∀ r,(r=x∧0≤x∧(∀ a d,l[x.toNat]?=some a→l[y.toNat]?=some d→a.live≤d.live)∨r=y)→K (.int .i64 r) σ) :
  Ea [.slice (some ⟨b,0,none⟩) l.length 6,.int .i64 x,.int .i64 y] K σ:=by
 have fin:∀ c:Bool,(c=true→0≤x∧(∀ a d,l[x.toNat]?=some a→l[y.toNat]?=some d→a.live≤d.live))→qH K [.int .i64 x,.int .i64 y,.bool c] [] σ:=fun c hc=>by
  cases c with
  | true=>simp only[qH,qG,aF];exact hk x (.inl ⟨rfl,(hc rfl).1,(hc rfl).2⟩)
  | false=>simp only[qH,qG,aF];exact hk y (.inr rfl)
 simp only[Ea,Pg,aF]
 rcases hx with rfl|hx
 ·simp only[aF,Int.reduceLE,Int.reduceNeg];exact fin false fun q=>by cases q
 ·have c0:0≤x:=hx.1
  obtain⟨a,ha⟩:∃ a,l[x.toNat]?=some a:=⟨_,List.getElem?_eq_getElem (by omega)⟩
  obtain⟨d,hd⟩:∃ d,l[y.toNat]?=some d:=⟨_,List.getElem?_eq_getElem (by omega)⟩
  simp only[c0,fx hx.1 hx.2,fx hy.1 hy.2,Nat.zero_add,aF]
  rw[EU hb ha (by decide) (by decide) (show sub a.l 4 1 false=some (.int .i64 a.live)from rfl),EU hb hd (by decide) (by decide) (show sub d.l 4 1 false=some (.int .i64 d.live)from rfl)]
  simp only[aF]
  exact fin _ fun q=>⟨hx.1,fun a' d' ea ed=>by rw[ha]at ea;rw[hd]at ed;cases ea;cases ed;exact of_decide_eq_true q⟩
theorem JS{b:Nat}{rw:Bool}{l:List Sn}(hl:l.length≤1000)(hb:σ.get b=some ⟨kK l,rw⟩)(hk:∀ r,FA C l r→Gn C l r→K (.int .i64 r) σ):CE [C.v,.slice (some ⟨b,0,none⟩) l.length 6] K σ:=by
 simp only[CE,Pk,Dg,DW,aF,Int.reduceNeg]
 refine jY (fun m ts ls τ=>∃ i tH:Int,m=(l.length-i).toNat∧ts=[.slice (some ⟨b,0,none⟩) l.length 6,.int .i64 tH,.slice (some ⟨b,0,none⟩) l.length 6,.int .i64 l.length,.int .i64 i]∧ls=[C.l]∧τ=σ∧0≤i∧i≤l.length ∧
   (tH = -1∧(∀ k:Int,0≤k→k<i→∀ x,l[k.toNat]?=some x→¬ x.may C)∨(0≤tH∧tH<i)∧∃ x,l[tH.toNat]?=some x∧x.may C∧∀ k:Int,0≤k→k<i→∀ y,l[k.toNat]?=some y→y.may C→x.live≤y.live)) ?_ (n:=l.length)
  ⟨0,-1,by omega,rfl,rfl,rfl,by omega,by omega,.inl ⟨rfl,fun k k0 k1=>by omega⟩⟩
 rintro m ts ls τ ⟨i,tH,rfl,rfl,rfl,rfl,i0,i1,hI⟩ R hR
 simp only[f_,fA,aF,bc,bN]
 by_cases ci:i<l.length
 rotate_left
 ·simp only[ci,jZ,vy,aF]
  rcases hI with⟨e,h⟩|⟨h1,x,h2,h3,h4⟩
  ·refine hk tH (.inl ⟨e,fun x hx=>?_⟩) fun b0=>by omega
   obtain⟨k,kV,e2⟩:=List.getElem_of_mem hx
   exact h k (by omega) (by omega) x (by rw[Int.toNat_natCast];exact List.getElem?_eq_some_iff.2 ⟨kV,e2⟩)
  ·refine hk tH (.inr ⟨h1.1,x,h2,h3⟩) fun _ x' zm k k0 y hy hm=>?_
   rw[h2]at zm;cases zm
   have G2:=(List.getElem?_eq_some_iff.1 hy).1
   exact h4 k k0 (by omega) y hy hm
 obtain⟨x,hx⟩:∃ x,l[i.toNat]?=some x:=⟨_,List.getElem?_eq_getElem (by omega)⟩
 have g6:∀{q:Nat},aH 6 [.pointer (some ⟨q,0,some 0⟩),.agg x.l.toArray] [.int .i64 0,.int .i64 0,.int .i64 0,.int .i64 0,.int .i64 0,.bool false]=some x.l:=fun{q}=>rfl
 have s6:∀ x:Sn,sub x.l 0 6 true=some (.agg x.l.toArray):=fun x=>rfl
 have DP:∀ ye,(ye = -1∧(∀ k:Int,0≤k→k<i+1→∀ x,l[k.toNat]?=some x→¬ x.may C)∨(0≤ye∧ye<i+1)∧∃ x,l[ye.toNat]?=some x∧x.may C∧∀ k:Int,0≤k→k<i+1→∀ y,l[k.toNat]?=some y→y.may C→x.live≤y.live) →
   mF K (jZ K) R [.slice (some ⟨b,0,none⟩) l.length 6,.int .i64 ye,.slice (some ⟨b,0,none⟩) l.length 6,.int .i64 l.length,.int .i64 i] [C.l] τ:=by
  intro ye h
  simp only[mF,vx,aF]
  rw[IntWalk.i64_in (i+1) (by omega)]
  exact hR (l.length-(i+1)).toNat _ _ _ (by omega) ⟨i+1,ye,rfl,rfl,rfl,rfl,by omega,by omega,h⟩
 simp only[ci,fx i0 ci,Nat.zero_add,aF]
 have h0:=EU (K:=fun v σ=>xC (aH 6 [.pointer (some ⟨7,0,some 0⟩),v] [.int .i64 0,.int .i64 0,.int .i64 0,.int .i64 0,.int .i64 0,.bool false]) fun c7=>xO (sub C.l 0 7 true) fun bo=>xO (sub c7 0 6 true) fun bB=>Bb [bo,bB] (fun bM σ=>xF (mV .not) [bM] fun bJ=>aV bJ (mF K (jZ K) R [.slice (some ⟨b,0,none⟩) l.length 6,.int .i64 tH,.slice (some ⟨b,0,none⟩) l.length 6,.int .i64 l.length,.int .i64 i] [C.l] σ) True) σ) hb hx (k:=0) (by decide) (by decide) (s6 x)
 clear h0
 rw[show i.toNat*6=i.toNat*6+0 from rfl,EU hb hx (by decide) (by decide) (s6 x)]
 simp only[g6,s6,OU,aF]
 by_cases cm:x.may C
 rotate_left
 ·simp only[cm,decide_false,Bool.not_false,aF]
  refine DP tH ?_
  rcases hI with⟨e,h⟩|⟨h1,h2⟩
  ·refine .inl ⟨e,fun k k0 k1 y hy=>?_⟩
   by_cases q:k=i
   ·subst q;rw[hx]at hy;cases hy;exact cm
   ·exact h k k0 (by omega) y hy
  ·obtain⟨x',h3,h4,h5⟩:=h2
   refine .inr ⟨by omega,x',h3,h4,fun k k0 k1 y hy Xy=>?_⟩
   by_cases q:k=i
   ·subst q;rw[hx]at hy;cases hy;exact absurd Xy cm
   ·exact h5 k k0 (by omega) y hy Xy
 simp only[cm,decide_true,Bool.not_true,aF]
 refine jY (fun m ts ls τ'=>∃ k:Int,m=(i-k).toNat∧ts=[.slice (some ⟨b,0,none⟩) l.length 6,.int .i64 tH,.int .i64 i,.slice (some ⟨b,0,none⟩) l.length 6,.int .i64 l.length,.int .i64 i,.int .i64 i,.int .i64 k]∧ls=[C.l,x.l]∧τ'=τ∧0≤k∧k≤i∧∀ m:Int,0≤m→m<k→∀ y,l[m.toNat]?=some y→y.may C→x.live<y.live) ?_ (n:=i.toNat)
  ⟨0,by omega,rfl,rfl,rfl,by omega,by omega,fun m m0 m1=>by omega⟩
 rintro m ts ls τ' ⟨k,rfl,rfl,rfl,rfl,k0,k1,iL⟩ R4 hR4
 simp only[fZ,fy,aF,bc,bN]
 by_cases ck:k<i
 rotate_left
 ·simp only[ck,uI,vw,aF]
  refine JN hb (by rcases hI with⟨e,_⟩|⟨h1,_⟩<;>omega) ⟨i0,ci⟩ fun r hr=>?_
  refine DP r (.inr ?_)
  rcases hr with⟨rfl,hr,hle⟩|rfl
  ·rcases hI with⟨e,_⟩|⟨h1,x',h2,h3,_⟩
   ·omega
   ·have h5:=hle x' x h2 hx
    have h6:=iL r h1.1 (by omega) x' h2 h3
    omega
  ·refine⟨by omega,x,hx,cm,fun k' k0' C4 y hy Xy=>?_⟩
   by_cases q:k'=r
   ·subst q;rw[hx]at hy;cases hy;exact Int.le_refl _
   ·have:=iL k' k0' (by omega) y hy Xy;omega
 obtain⟨y,hy⟩:∃ y,l[k.toNat]?=some y:=⟨_,List.getElem?_eq_getElem (by omega)⟩
 have kl:k<(l.length:Int):=by omega
 have on:(y.may C→x.live<y.live)→uH K (jZ K) R (mF K (jZ K) R) (uI K (jZ K) R (mF K (jZ K) R)) R4
   [.slice (some ⟨b,0,none⟩) l.length 6,.int .i64 tH,.int .i64 i,.slice (some ⟨b,0,none⟩) l.length 6,.int .i64 l.length,.int .i64 i,.int .i64 i,.int .i64 k] [C.l,x.l] τ':=by
  intro hy1
  simp only[uH,vu,aF]
  rw[IntWalk.i64_in (k+1) (by omega)]
  refine hR4 (i-(k+1)).toNat _ _ _ (by omega) ⟨k+1,rfl,rfl,rfl,rfl,by omega,by omega,fun m m0 m1 y' yN Ja=>?_⟩
  by_cases q:m=k
  ·subst q;rw[hy]at yN;cases yN;exact hy1 Ja
  ·exact iL m m0 (by omega) y' yN Ja
 have e4:sub x.l 4 1 false=some (.int .i64 x.live):=rfl
 simp only[ck,fx k0 kl,Nat.zero_add,aF]
 rw[show k.toNat*6=k.toNat*6+0 from rfl,EU hb hy (by decide) (by decide) (s6 y)]
 simp only[OU,aF]
 by_cases cy:y.may C
 rotate_left
 ·simp only[cy,aF];exact on fun q=>absurd q cy
 simp only[cy,aF]
 rw[EU hb hy (by decide) (by decide) (show sub y.l 4 1 false=some (.int .i64 y.live)from rfl)]
 by_cases cl:y.live≤x.live
 ·simp only[e4,cl,aF]
  refine DP tH ?_
  rcases hI with⟨e,h⟩|⟨h1,x',h2,h3,h4⟩
  ·exact absurd cy (h k k0 ck y hy)
  ·refine .inr ⟨by omega,x',h2,h3,fun k' k0' C4 y' yN Ja=>?_⟩
   by_cases q:k'=i
   ·subst q;rw[hx]at yN;cases yN
    have:=h4 k k0 ck y hy cy
    omega
   ·exact h4 k' k0' (by omega) y' yN Ja
 ·simp only[e4,cl,aF];exact on fun _=>by omega
end Go.Fl
namespace Go.Fl
open Go
variable{N:Nm}{A B:Ar}{σ:Mem}{K:Value→Mem→Prop}{C:Cf}{who:Int}
theorem rS{L:List Value}{p k sz:Nat}{ag:Bool}{v:Value}(hd:p∉N.l)(h:sub L k sz ag=some v):aj sz ag [.pointer (some ⟨p,k,none⟩)] K (aD N A (σ.set p ⟨L,true⟩))=K v (aD N A (σ.set p ⟨L,true⟩)):=by
 rw[cf ((dv hd).trans (Mem.bf _ _ _)),h,Ce]
theorem rH{L:List Value}{p k:Nat}(L':List Value){x:Value}(hd:p∉N.l)(hx:cellsOf x 1=some [x])(ho:dV x=true)(hk:k+1≤L.length)(e:lay L k [x]=L') :
  ax 1 [.pointer (some ⟨p,k,none⟩),x] K (aD N A (σ.set p ⟨L,true⟩))=K undef (aD N A (σ.set p ⟨L',true⟩)):=by
 have:=Mt (K:=K) (N:=N) (A:=A) (σ:=σ) (p:=p) (pre:=[]) (L:=L) (post:=[]) (k:=k) (sz:=1) (x:=x) (c:=[x]) hd hx rfl hk (by simp[ho])
 rw[e]at this
 simpa only[List.nil_append,List.append_nil,List.length_nil,Nat.zero_add]using this
theorem X'{L:List Value}{p k sz:Nat}(L':List Value){c:List Value}(hd:p∉N.l)(hl:c.length=sz)(ho:c.all dV=true)(hk:k+sz≤L.length)(e:lay L k c=L') :
  ax sz [.pointer (some ⟨p,k,none⟩),.agg c.toArray] K (aD N A (σ.set p ⟨L,true⟩))=K undef (aD N A (σ.set p ⟨L',true⟩)):=by
 have:=CC (K:=K) (N:=N) (A:=A) (σ:=σ) (p:=p) (pre:=[]) (L:=L) (post:=[]) (k:=k) (sz:=sz) (c:=c) hd hl hk ho
 rw[e]at this
 simpa only[List.nil_append,List.append_nil,List.length_nil,Nat.zero_add]using this
structure fQ where
 pc:Int
 now:Int
 at':Int
 H3:Bool
def fQ.l(a:fQ):List Value:=[.int .i64 a.pc,.int .u64 a.now,.int .i64 a.at',.bool a.H3]
def fQ.new:fQ:=⟨0,0,0,false⟩
def fQ.step(C:Cf)(who:Int)(A:Ar)(a:fQ):Bool×fQ×Ar:=
 if a.pc=0 then(false,{ a with now:=A.w 0,pc:=1 },(A.by who).load 0)
 else if a.pc=1 then
  if A.w (6+a.at')≠0∧A.w (6+a.at')≠IntKind.u64.wrap (a.now+1)then(true,a,(A.by who).load (6+a.at'))
  else(false,{ a with at':=a.at'+1,pc:=if C.T≤a.at'+1 then 2 else a.pc },(A.by who).load (6+a.at'))
 else(true,{ a with H3:=decide (A.w 0=a.now) },(A.by who).dI 0 a.now (IntKind.u64.wrap (a.now+1)))
structure fQ.fit(C:Cf)(a:fQ):Prop where
 pc:0≤a.pc∧a.pc≤2
 at':0≤a.at'∧(a.pc≤1→a.at'<C.T)
theorem fQ.Bv(hC:C.ok):fQ.new.fit C:=⟨⟨Int.le_refl 0,by decide⟩,Int.le_refl 0,fun _=>by have:=hC.T;show 0<C.T;omega⟩
section
variable{p:Nat}{a:fQ}
theorem lA0(hd:p∉N.l):aj 1 false [.pointer (some ⟨p,0,none⟩)] K (aD N A (σ.set p ⟨a.l,true⟩))=K (.int .i64 a.pc) (aD N A (σ.set p ⟨a.l,true⟩)):=rS hd rfl
theorem lA1(hd:p∉N.l):aj 1 false [.pointer (some ⟨p,1,none⟩)] K (aD N A (σ.set p ⟨a.l,true⟩))=K (.int .u64 a.now) (aD N A (σ.set p ⟨a.l,true⟩)):=rS hd rfl
theorem lA2(hd:p∉N.l):aj 1 false [.pointer (some ⟨p,2,none⟩)] K (aD N A (σ.set p ⟨a.l,true⟩))=K (.int .i64 a.at') (aD N A (σ.set p ⟨a.l,true⟩)):=rS hd rfl
theorem sA0(hd:p∉N.l){v:Int}:ax 1 [.pointer (some ⟨p,0,none⟩),.int .i64 v] K (aD N A (σ.set p ⟨a.l,true⟩))=K undef (aD N A (σ.set p ⟨({ a with pc:=v }:fQ).l,true⟩)):=rH _ hd rfl rfl (by show _≤4;decide) rfl
theorem sA1(hd:p∉N.l){v:Int}:ax 1 [.pointer (some ⟨p,1,none⟩),.int .u64 v] K (aD N A (σ.set p ⟨a.l,true⟩))=K undef (aD N A (σ.set p ⟨({ a with now:=v }:fQ).l,true⟩)):=rH _ hd rfl rfl (by show _≤4;decide) rfl
theorem sA2(hd:p∉N.l){v:Int}:ax 1 [.pointer (some ⟨p,2,none⟩),.int .i64 v] K (aD N A (σ.set p ⟨a.l,true⟩))=K undef (aD N A (σ.set p ⟨({ a with at':=v }:fQ).l,true⟩)):=rH _ hd rfl rfl (by show _≤4;decide) rfl
theorem sA3(hd:p∉N.l){v:Bool}:ax 1 [.pointer (some ⟨p,3,none⟩),.bool v] K (aD N A (σ.set p ⟨a.l,true⟩))=K undef (aD N A (σ.set p ⟨({ a with H3:=v }:fQ).l,true⟩)):=rH _ hd rfl rfl (by show _≤4;decide) rfl
end
theorem WW(hN:N.ok)(hC:C.ok)(hA:aZ N A σ){p:Nat}{a:fQ}(hp:σ.get p=some ⟨a.l,true⟩)(hd:p∉N.l)(hn:C.len≤A.n)(hf:a.fit C)
  (hk:∀ τ,aZ N (a.step C who A).2.2 τ→τ.get p=some ⟨(a.step C who A).2.1.l,true⟩→aQ (p::N.l) σ τ→K (.bool (a.step C who A).1) τ):Bo [.pointer (some ⟨p,0,none⟩),N.env C who] K σ:=by
 have hT:=hC.T;have hS:=hC.S;have ma:=hC.C;have hl:=br hC
 have kW:C.chunk C.C=6+C.T+2*C.S+3*C.C:=rfl
 have b0:(0:Int)<A.n:=by omega
 obtain⟨⟨p0,p1⟩,a0,a1⟩:=hf
 rw[hA.obj hp]
 unfold fQ.step at hk
 by_cases c0:a.pc=0
 ·simp only[af c0]at hk
  simp only[Bo,H6,lA0 hd,c0,mY,cg hN (Int.le_refl 0) b0,sA1 hd,sA0 hd,oL,nU,aF,bc,bN,Int.reduceEq]
  exact behind hN hd hk
 by_cases c1:a.pc=1
 ·simp only[ae c0,af c1]at hk
  have q:=a1 (by omega)
  simp only[Bo,H6,lA0 hd,c1,lA2 hd,aF,bc,bN,Int.reduceEq]
  rw[JO a0 (by omega)]
  simp only[cg hN (show 0≤6+a.at' by omega) (show 6+a.at'<A.n by omega),aF]
  have on:¬(A.w (6+a.at')≠0∧A.w (6+a.at')≠IntKind.u64.wrap (a.now+1))→rA K (oL K) [.pointer (some ⟨p,0,none⟩),.bool false] [Nm.el N C who] (aD N ((A.by who).load (6+a.at')) (σ.set p ⟨a.l,true⟩)):=fun c=>by
   rw[ae c]at hk
   simp only[rA,rz,lA2 hd,sA2 hd,aF,bc,bN]
   rw[IntWalk.i64_in (a.at'+1) (by omega)]
   by_cases c2:C.T≤a.at'+1
   ·simp only[af c2]at hk
    simp only[c2,sA0 hd,oL,nU,aF]
    exact behind hN hd hk
   ·simp only[ae c2]at hk
    simp only[c2,oL,nU,aF]
    exact behind hN hd hk
  by_cases c2:A.w (6+a.at')=0
  ·simp only[c2,aF];exact on fun q=>q.1 c2
  ·by_cases c3:A.w (6+a.at')=IntKind.u64.wrap (a.now+1)
   ·simp only[c2,lA1 hd,←c3,aF];exact on fun q=>q.2 c3
   ·rw[af ⟨c2,c3⟩]at hk
    simp only[c2,lA1 hd,c3,rA,rz,aF,bc,bN]
    exact behind hN hd hk
 ·simp only[ae c0,ae c1]at hk
  simp only[Bo,H6,lA0 hd,c0,c1,mY,lA1 hd,jE hN (Int.le_refl 0) b0,sA3 hd,aF,bc,bN]
  exact behind hN hd hk
structure dR where
 ch:Int
 pc:Int
 w:Int
 since:Int
 at':Int
 iw:Bool
def dR.l(a:dR):List Value:=[.int .i64 a.ch,.int .i64 a.pc,.int .u64 a.w,.int .u64 a.since,.int .i64 a.at',.bool a.iw]
def dR.new(ch:Int):dR:=⟨ch,0,0,0,0,false⟩
def dR.step(C:Cf)(who:Int)(A:Ar)(a:dR):Bool×dR×Ar:=
 if a.pc=0 then(!decide (bF (A.w (C.chunk a.ch))=3),{ a with w:=A.w (C.chunk a.ch),pc:=1 },(A.by who).load (C.chunk a.ch))
 else if a.pc=1 then(false,{ a with since:=A.w (C.chunk a.ch+2),pc:=2 },(A.by who).load (C.chunk a.ch+2))
 else if a.pc=2 then(decide (A.w 0<IntKind.u64.wrap (a.since+2)),{ a with pc:=3 },(A.by who).load 0)
 else if a.pc=3 then(false,{ a with at':=a.at'+1,pc:=if bD a.w≤a.at'+1 then 4 else a.pc },(A.by who).store (C.base a.ch+a.at') 0)
 else if a.pc=4 then(false,{ a with pc:=5 },(A.by who).store (C.chunk a.ch+1) 0)
 else(true,{ a with iw:=true },(A.by who).store (C.chunk a.ch) (aR 0 0 0 (eM a.w+1)))
structure dR.fit(C:Cf)(A:Ar)(a:dR):Prop where
 pc:0≤a.pc∧a.pc≤5
 ch:0≤a.ch∧a.ch<C.C
 w:0≤a.w∧a.w<18446744073709551616
 at':a.pc=3→0≤a.at'∧C.base a.ch+a.at'<A.n
section
variable{p:Nat}{a:dR}
theorem SL(hd:p∉N.l):aj 1 false [.pointer (some ⟨p,0,none⟩)] K (aD N A (σ.set p ⟨a.l,true⟩))=K (.int .i64 a.ch) (aD N A (σ.set p ⟨a.l,true⟩)):=rS hd rfl
theorem SK(hd:p∉N.l):aj 1 false [.pointer (some ⟨p,1,none⟩)] K (aD N A (σ.set p ⟨a.l,true⟩))=K (.int .i64 a.pc) (aD N A (σ.set p ⟨a.l,true⟩)):=rS hd rfl
theorem SJ(hd:p∉N.l):aj 1 false [.pointer (some ⟨p,2,none⟩)] K (aD N A (σ.set p ⟨a.l,true⟩))=K (.int .u64 a.w) (aD N A (σ.set p ⟨a.l,true⟩)):=rS hd rfl
theorem lS3(hd:p∉N.l):aj 1 false [.pointer (some ⟨p,3,none⟩)] K (aD N A (σ.set p ⟨a.l,true⟩))=K (.int .u64 a.since) (aD N A (σ.set p ⟨a.l,true⟩)):=rS hd rfl
theorem lS4(hd:p∉N.l):aj 1 false [.pointer (some ⟨p,4,none⟩)] K (aD N A (σ.set p ⟨a.l,true⟩))=K (.int .i64 a.at') (aD N A (σ.set p ⟨a.l,true⟩)):=rS hd rfl
theorem Ug(hd:p∉N.l){v:Int}:ax 1 [.pointer (some ⟨p,1,none⟩),.int .i64 v] K (aD N A (σ.set p ⟨a.l,true⟩))=K undef (aD N A (σ.set p ⟨({ a with pc:=v }:dR).l,true⟩)):=rH _ hd rfl rfl (by show _≤6;decide) rfl
theorem sS2(hd:p∉N.l){v:Int}:ax 1 [.pointer (some ⟨p,2,none⟩),.int .u64 v] K (aD N A (σ.set p ⟨a.l,true⟩))=K undef (aD N A (σ.set p ⟨({ a with w:=v }:dR).l,true⟩)):=rH _ hd rfl rfl (by show _≤6;decide) rfl
theorem sS3(hd:p∉N.l){v:Int}:ax 1 [.pointer (some ⟨p,3,none⟩),.int .u64 v] K (aD N A (σ.set p ⟨a.l,true⟩))=K undef (aD N A (σ.set p ⟨({ a with since:=v }:dR).l,true⟩)):=rH _ hd rfl rfl (by show _≤6;decide) rfl
theorem sS4(hd:p∉N.l){v:Int}:ax 1 [.pointer (some ⟨p,4,none⟩),.int .i64 v] K (aD N A (σ.set p ⟨a.l,true⟩))=K undef (aD N A (σ.set p ⟨({ a with at':=v }:dR).l,true⟩)):=rH _ hd rfl rfl (by show _≤6;decide) rfl
theorem sS5(hd:p∉N.l){v:Bool}:ax 1 [.pointer (some ⟨p,5,none⟩),.bool v] K (aD N A (σ.set p ⟨a.l,true⟩))=K undef (aD N A (σ.set p ⟨({ a with iw:=v }:dR).l,true⟩)):=rH _ hd rfl rfl (by show _≤6;decide) rfl
end
theorem Wf(hN:N.ok)(hC:C.ok)(hA:aZ N A σ){p:Nat}{a:dR}(hp:σ.get p=some ⟨a.l,true⟩)(hd:p∉N.l)(hn:C.len≤A.n)(pC:(A.n:Int)≤200000000)(hw:∀ i,0≤A.w i∧A.w i<18446744073709551616)(hf:a.fit C A)
  (hk:∀ τ,aZ N (a.step C who A).2.2 τ→τ.get p=some ⟨(a.step C who A).2.1.l,true⟩→aQ (p::N.l) σ τ→K (.bool (a.step C who A).1) τ):ux [.pointer (some ⟨p,0,none⟩),N.env C who] K σ:=by
 have hT:=hC.T;have hS:=hC.S;have ma:=hC.C;have hl:=br hC
 have kW:C.chunk C.C=6+C.T+2*C.S+3*C.C:=rfl
 have b0:(0:Int)<A.n:=by omega
 obtain⟨⟨p0,p1⟩,⟨h0,h1⟩,⟨w0,w1⟩,a1⟩:=hf
 have cb:0≤C.chunk a.ch∧C.chunk a.ch+2<A.n:=by unfold Cf.chunk at *;omega
 have g4:∀{k:Nat} {x y z w:Int},aH 4 [.pointer (some ⟨k,0,some 0⟩),.agg #[.int .i64 x,.int .i64 y,.int .i64 z,.int .i64 w]] [.int .i64 0,.int .i64 0,.int .i64 0,.int .i64 0]=some [.int .i64 x,.int .i64 y,.int .i64 z,.int .i64 w]:=fun{_ _ _ _ _}=>rfl
 have f0:∀(x y z w:Value) (K:Value→Prop),xF (b7 0 1 false) [.agg #[x,y,z,w]] K=K x:=fun _ _ _ _ K=>nr rfl
 have s7:sub (N.el C who) 0 7 true=some C.v:=rfl
 rw[hA.obj hp]
 unfold dR.step at hk
 by_cases c0:a.pc=0
 ·simp only[af c0]at hk
  simp only[ux,Cl,SL hd,SJ hd,SK hd,cB hC h0 (show a.ch≤65536 by omega),cz w0 w1,g4,c0,cg hN cb.1 (show C.chunk a.ch<A.n by omega),sS2 hd,Ug hd,cz (hw (C.chunk a.ch)).1 (hw (C.chunk a.ch)).2,f0,aF,bc,bN,Int.reduceEq]
  exact behind hN hd hk
 by_cases c1:a.pc=1
 ·simp only[ae c0,af c1]at hk
  simp only[ux,Cl,SL hd,SJ hd,SK hd,cB hC h0 (show a.ch≤65536 by omega),cz w0 w1,g4,c1,aF,bc,bN,Int.reduceEq]
  rw[IntWalk.i64_in (C.chunk a.ch+2) (by omega)]
  simp only[cg hN (show 0≤C.chunk a.ch+2 by omega) cb.2,sS3 hd,Ug hd,oK,lQ,aF]
  exact behind hN hd hk
 by_cases c2:a.pc=2
 ·simp only[ae c0,ae c1,af c2]at hk
  simp only[ux,Cl,SL hd,SJ hd,SK hd,cB hC h0 (show a.ch≤65536 by omega),cz w0 w1,g4,c2,Ug hd,mY,cg hN (Int.le_refl 0) b0,lS3 hd,and_self,aF,bc,bN,Int.reduceEq]
  exact behind hN hd hk
 by_cases c3:a.pc=3
 ·simp only[ae c0,ae c1,ae c2,af c3]at hk
  obtain⟨q0,q1⟩:=a1 c3
  have bb:0≤C.base a.ch:=by have:=hC.W;have:=a_ hC h0 h1 (Int.le_refl 0);omega
  simp only[ux,Cl,SL hd,SJ hd,SK hd,cB hC h0 (show a.ch≤65536 by omega),cz w0 w1,g4,c3,ya hC h0 (show a.ch≤65536 by omega),lS4 hd,aF,bc,bN,Int.reduceEq]
  rw[IntWalk.i64_in (C.base a.ch+a.at') (by omega)]
  simp only[dG hN (show 0≤C.base a.ch+a.at' by omega) q1,lS4 hd,sS4 hd,aF]
  rw[IntWalk.i64_in (a.at'+1) (by omega)]
  by_cases c:bD a.w≤a.at'+1
  ·simp only[af c]at hk
   simp only[c,Ug hd,oK,lQ,aF]
   exact behind hN hd hk
  ·simp only[ae c]at hk
   simp only[c,oK,lQ,aF]
   exact behind hN hd hk
 by_cases c4:a.pc=4
 ·simp only[ae c0,ae c1,ae c2,ae c3,af c4]at hk
  simp only[ux,Cl,SL hd,SJ hd,SK hd,cB hC h0 (show a.ch≤65536 by omega),cz w0 w1,g4,c4,aF,bc,bN,Int.reduceEq]
  rw[IntWalk.i64_in (C.chunk a.ch+1) (by omega)]
  simp only[dG hN (show 0≤C.chunk a.ch+1 by omega) (show C.chunk a.ch+1<A.n by omega),Ug hd,oK,lQ,aF]
  exact behind hN hd hk
 have c5:a.pc=5:=by omega
 have b4:∀(x:Int) (K:Value→Prop),xF (aM [(0,1),(1,1),(2,1),(3,1)] [.int .i64 0,.int .i64 0,.int .i64 0,.int .i64 0] [3]) [.int .i64 x] K=K (.agg #[.int .i64 0,.int .i64 0,.int .i64 0,.int .i64 x]):=fun _ K=>nr rfl
 have Vo:0≤eM a.w∧eM a.w≤68719476735:=by unfold eM;omega
 simp only[ae c0,ae c1,ae c2,ae c3,ae c4]at hk
 simp only[ux,Cl,SL hd,SJ hd,SK hd,cB hC h0 (show a.ch≤65536 by omega),cz w0 w1,g4,c5,aF,bc,bN,Int.reduceEq]
 rw[IntWalk.i64_in (eM a.w+1) (by omega)]
 simp only[b4,jg,dG hN cb.1 (show C.chunk a.ch<A.n by omega),sS5 hd]
 exact behind hN hd hk
theorem JP{ch:Int}(hk:∀ id τ,σ.get id=none→τ.get id=some ⟨(dR.new ch).l,true⟩→Ext σ τ→K (.pointer (some ⟨id,0,none⟩)) τ):Er [.int .i64 ch] K σ:=by
 have b:∀ K:Value→Prop,xF (aM [(0,1),(1,1),(2,1),(3,1),(4,1),(5,1)] [.int .i64 0,.int .i64 0,.int .u64 0,.int .u64 0,.int .i64 0,.bool false] [0]) [.int .i64 ch] K=K (.agg (dR.new ch).l.toArray):=fun K=>nr rfl
 simp only[Er,QG,b,aF]
 exact gA (cs:=(dR.new ch).l) rfl hk
theorem LJ{p:Nat}{a:dR}(hp:σ.get p=some ⟨a.l,true⟩)(hk:K (.bool a.iw) σ):Ep [.pointer (some ⟨p,0,none⟩)] K σ:=by
 simp only[Ep,QF,aF]
 rw[UC hp (show sub a.l 5 1 false=some (.bool a.iw)from rfl)]
 exact hk
end Go.Fl
namespace Go.Fl
open Go
variable{N:Nm}{A B:Ar}{σ:Mem}{K:Value→Mem→Prop}{C:Cf}{who:Int}
structure Cr where
 pc:Int
 x1:Value
 at':Int
 pos:Int
 w:Int
 now:Int
 x6:Value
 x7:Value
 x8:Value
 ev:Int
 lf:Int
 fd:Int
 mo:Int
 rd:Int
 fJ:Int
 mz:Int
 iE:Int
 iK:Int
 my:Int
 idle:Int
def Cr.l(c:Cr):List Value:=[.int .i64 c.pc,c.x1,.int .i64 c.at',.int .i64 c.pos,.int .u64 c.w,.int .u64 c.now,c.x6,c.x7,c.x8,.int .i64 c.ev,.int .i64 c.lf,.int .i64 c.fd,.int .i64 c.mo,.int .i64 c.rd,.int .i64 c.fJ,.int .i64 c.mz,.int .i64 c.iE,.int .i64 c.iK,.int .i64 c.my,.int .i64 c.idle]
section
variable{p:Nat}{c:Cr}
theorem EW(hd:p∉N.l):aj 1 false [.pointer (some ⟨p,0,none⟩)] K (aD N A (σ.set p ⟨c.l,true⟩))=K (.int .i64 c.pc) (aD N A (σ.set p ⟨c.l,true⟩)):=rS hd rfl
theorem SO(hd:p∉N.l):aj 1 false [.pointer (some ⟨p,1,none⟩)] K (aD N A (σ.set p ⟨c.l,true⟩))=K c.x1 (aD N A (σ.set p ⟨c.l,true⟩)):=rS hd rfl
theorem EV(hd:p∉N.l):aj 1 false [.pointer (some ⟨p,2,none⟩)] K (aD N A (σ.set p ⟨c.l,true⟩))=K (.int .i64 c.at') (aD N A (σ.set p ⟨c.l,true⟩)):=rS hd rfl
theorem lC3(hd:p∉N.l):aj 1 false [.pointer (some ⟨p,3,none⟩)] K (aD N A (σ.set p ⟨c.l,true⟩))=K (.int .i64 c.pos) (aD N A (σ.set p ⟨c.l,true⟩)):=rS hd rfl
theorem UE(hd:p∉N.l):aj 1 false [.pointer (some ⟨p,4,none⟩)] K (aD N A (σ.set p ⟨c.l,true⟩))=K (.int .u64 c.w) (aD N A (σ.set p ⟨c.l,true⟩)):=rS hd rfl
theorem lC5(hd:p∉N.l):aj 1 false [.pointer (some ⟨p,5,none⟩)] K (aD N A (σ.set p ⟨c.l,true⟩))=K (.int .u64 c.now) (aD N A (σ.set p ⟨c.l,true⟩)):=rS hd rfl
theorem lC6(hd:p∉N.l):aj 1 false [.pointer (some ⟨p,6,none⟩)] K (aD N A (σ.set p ⟨c.l,true⟩))=K c.x6 (aD N A (σ.set p ⟨c.l,true⟩)):=rS hd rfl
theorem lC7(hd:p∉N.l):aj 1 false [.pointer (some ⟨p,7,none⟩)] K (aD N A (σ.set p ⟨c.l,true⟩))=K c.x7 (aD N A (σ.set p ⟨c.l,true⟩)):=rS hd rfl
theorem Xr(hd:p∉N.l):aj 1 false [.pointer (some ⟨p,8,none⟩)] K (aD N A (σ.set p ⟨c.l,true⟩))=K c.x8 (aD N A (σ.set p ⟨c.l,true⟩)):=rS hd rfl
theorem lC9(hd:p∉N.l):aj 1 false [.pointer (some ⟨p,9,none⟩)] K (aD N A (σ.set p ⟨c.l,true⟩))=K (.int .i64 c.ev) (aD N A (σ.set p ⟨c.l,true⟩)):=rS hd rfl
theorem aaD(hd:p∉N.l):aj 1 false [.pointer (some ⟨p,10,none⟩)] K (aD N A (σ.set p ⟨c.l,true⟩))=K (.int .i64 c.lf) (aD N A (σ.set p ⟨c.l,true⟩)):=rS hd rfl
theorem UG(hd:p∉N.l):aj 1 false [.pointer (some ⟨p,11,none⟩)] K (aD N A (σ.set p ⟨c.l,true⟩))=K (.int .i64 c.fd) (aD N A (σ.set p ⟨c.l,true⟩)):=rS hd rfl
theorem Rx(hd:p∉N.l):aj 1 false [.pointer (some ⟨p,12,none⟩)] K (aD N A (σ.set p ⟨c.l,true⟩))=K (.int .i64 c.mo) (aD N A (σ.set p ⟨c.l,true⟩)):=rS hd rfl
theorem aaC(hd:p∉N.l):aj 1 false [.pointer (some ⟨p,13,none⟩)] K (aD N A (σ.set p ⟨c.l,true⟩))=K (.int .i64 c.rd) (aD N A (σ.set p ⟨c.l,true⟩)):=rS hd rfl
theorem aaB(hd:p∉N.l):aj 1 false [.pointer (some ⟨p,14,none⟩)] K (aD N A (σ.set p ⟨c.l,true⟩))=K (.int .i64 c.fJ) (aD N A (σ.set p ⟨c.l,true⟩)):=rS hd rfl
theorem aaA(hd:p∉N.l):aj 1 false [.pointer (some ⟨p,16,none⟩)] K (aD N A (σ.set p ⟨c.l,true⟩))=K (.int .i64 c.iE) (aD N A (σ.set p ⟨c.l,true⟩)):=rS hd rfl
theorem UF(hd:p∉N.l):aj 1 false [.pointer (some ⟨p,17,none⟩)] K (aD N A (σ.set p ⟨c.l,true⟩))=K (.int .i64 c.iK) (aD N A (σ.set p ⟨c.l,true⟩)):=rS hd rfl
theorem aaz(hd:p∉N.l):aj 1 false [.pointer (some ⟨p,19,none⟩)] K (aD N A (σ.set p ⟨c.l,true⟩))=K (.int .i64 c.idle) (aD N A (σ.set p ⟨c.l,true⟩)):=rS hd rfl
theorem DO(hd:p∉N.l){v:Int}:ax 1 [.pointer (some ⟨p,0,none⟩),.int .i64 v] K (aD N A (σ.set p ⟨c.l,true⟩))=K undef (aD N A (σ.set p ⟨({ c with pc:=v }:Cr).l,true⟩)):=rH _ hd rfl rfl (by show _≤20;decide) rfl
theorem Yp(hd:p∉N.l):ax 1 [.pointer (some ⟨p,1,none⟩),.slice none 0 0] K (aD N A (σ.set p ⟨c.l,true⟩))=K undef (aD N A (σ.set p ⟨({ c with x1:=.slice none 0 0 }:Cr).l,true⟩)):=rH _ hd rfl rfl (by show _≤20;decide) rfl
theorem Uk(hd:p∉N.l){q n:Nat}:ax 1 [.pointer (some ⟨p,1,none⟩),.slice (some ⟨q,0,none⟩) n 6] K (aD N A (σ.set p ⟨c.l,true⟩))=K undef (aD N A (σ.set p ⟨({ c with x1:=.slice (some ⟨q,0,none⟩) n 6 }:Cr).l,true⟩)):=rH _ hd rfl rfl (by show _≤20;decide) rfl
theorem Uj(hd:p∉N.l){v:Int}:ax 1 [.pointer (some ⟨p,2,none⟩),.int .i64 v] K (aD N A (σ.set p ⟨c.l,true⟩))=K undef (aD N A (σ.set p ⟨({ c with at':=v }:Cr).l,true⟩)):=rH _ hd rfl rfl (by show _≤20;decide) rfl
theorem sC3(hd:p∉N.l){v:Int}:ax 1 [.pointer (some ⟨p,3,none⟩),.int .i64 v] K (aD N A (σ.set p ⟨c.l,true⟩))=K undef (aD N A (σ.set p ⟨({ c with pos:=v }:Cr).l,true⟩)):=rH _ hd rfl rfl (by show _≤20;decide) rfl
theorem sC4(hd:p∉N.l){v:Int}:ax 1 [.pointer (some ⟨p,4,none⟩),.int .u64 v] K (aD N A (σ.set p ⟨c.l,true⟩))=K undef (aD N A (σ.set p ⟨({ c with w:=v }:Cr).l,true⟩)):=rH _ hd rfl rfl (by show _≤20;decide) rfl
theorem sC5(hd:p∉N.l){v:Int}:ax 1 [.pointer (some ⟨p,5,none⟩),.int .u64 v] K (aD N A (σ.set p ⟨c.l,true⟩))=K undef (aD N A (σ.set p ⟨({ c with now:=v }:Cr).l,true⟩)):=rH _ hd rfl rfl (by show _≤20;decide) rfl
theorem Yo(hd:p∉N.l){q:Nat}:ax 1 [.pointer (some ⟨p,6,none⟩),.pointer (some ⟨q,0,none⟩)] K (aD N A (σ.set p ⟨c.l,true⟩))=K undef (aD N A (σ.set p ⟨({ c with x6:=.pointer (some ⟨q,0,none⟩) }:Cr).l,true⟩)):=rH _ hd rfl rfl (by show _≤20;decide) rfl
theorem Yn(hd:p∉N.l):ax 1 [.pointer (some ⟨p,7,none⟩),.pointer none] K (aD N A (σ.set p ⟨c.l,true⟩))=K undef (aD N A (σ.set p ⟨({ c with x7:=.pointer none }:Cr).l,true⟩)):=rH _ hd rfl rfl (by show _≤20;decide) rfl
theorem Ym(hd:p∉N.l){q:Nat}:ax 1 [.pointer (some ⟨p,7,none⟩),.pointer (some ⟨q,0,none⟩)] K (aD N A (σ.set p ⟨c.l,true⟩))=K undef (aD N A (σ.set p ⟨({ c with x7:=.pointer (some ⟨q,0,none⟩) }:Cr).l,true⟩)):=rH _ hd rfl rfl (by show _≤20;decide) rfl
theorem Yl(hd:p∉N.l):ax 1 [.pointer (some ⟨p,8,none⟩),.pointer none] K (aD N A (σ.set p ⟨c.l,true⟩))=K undef (aD N A (σ.set p ⟨({ c with x8:=.pointer none }:Cr).l,true⟩)):=rH _ hd rfl rfl (by show _≤20;decide) rfl
theorem Yk(hd:p∉N.l){q:Nat}:ax 1 [.pointer (some ⟨p,8,none⟩),.pointer (some ⟨q,0,none⟩)] K (aD N A (σ.set p ⟨c.l,true⟩))=K undef (aD N A (σ.set p ⟨({ c with x8:=.pointer (some ⟨q,0,none⟩) }:Cr).l,true⟩)):=rH _ hd rfl rfl (by show _≤20;decide) rfl
theorem sC9(hd:p∉N.l){v:Int}:ax 1 [.pointer (some ⟨p,9,none⟩),.int .i64 v] K (aD N A (σ.set p ⟨c.l,true⟩))=K undef (aD N A (σ.set p ⟨({ c with ev:=v }:Cr).l,true⟩)):=rH _ hd rfl rfl (by show _≤20;decide) rfl
theorem Yt(hd:p∉N.l){v:Int}:ax 1 [.pointer (some ⟨p,10,none⟩),.int .i64 v] K (aD N A (σ.set p ⟨c.l,true⟩))=K undef (aD N A (σ.set p ⟨({ c with lf:=v }:Cr).l,true⟩)):=rH _ hd rfl rfl (by show _≤20;decide) rfl
theorem Ys(hd:p∉N.l){v:Int}:ax 1 [.pointer (some ⟨p,11,none⟩),.int .i64 v] K (aD N A (σ.set p ⟨c.l,true⟩))=K undef (aD N A (σ.set p ⟨({ c with fd:=v }:Cr).l,true⟩)):=rH _ hd rfl rfl (by show _≤20;decide) rfl
theorem Yr(hd:p∉N.l){v:Int}:ax 1 [.pointer (some ⟨p,12,none⟩),.int .i64 v] K (aD N A (σ.set p ⟨c.l,true⟩))=K undef (aD N A (σ.set p ⟨({ c with mo:=v }:Cr).l,true⟩)):=rH _ hd rfl rfl (by show _≤20;decide) rfl
theorem Yq(hd:p∉N.l){v:Int}:ax 1 [.pointer (some ⟨p,13,none⟩),.int .i64 v] K (aD N A (σ.set p ⟨c.l,true⟩))=K undef (aD N A (σ.set p ⟨({ c with rd:=v }:Cr).l,true⟩)):=rH _ hd rfl rfl (by show _≤20;decide) rfl
theorem Ul(hd:p∉N.l){v:Int}:ax 1 [.pointer (some ⟨p,19,none⟩),.int .i64 v] K (aD N A (σ.set p ⟨c.l,true⟩))=K undef (aD N A (σ.set p ⟨({ c with idle:=v }:Cr).l,true⟩)):=rH _ hd rfl rfl (by show _≤20;decide) rfl
end
theorem aay{p:Nat}{c:Cr}(hd:p∉N.l):aj 5 true [.pointer (some ⟨p,9,none⟩)] K (aD N A (σ.set p ⟨c.l,true⟩))=K (.agg #[.int .i64 c.ev,.int .i64 c.lf,.int .i64 c.fd,.int .i64 c.mo,.int .i64 c.rd]) (aD N A (σ.set p ⟨c.l,true⟩)):=rS hd rfl
theorem Um{p:Nat}{c:Cr}(hd:p∉N.l){a b d e f:Int}:ax 5 [.pointer (some ⟨p,14,none⟩),.agg #[.int .i64 a,.int .i64 b,.int .i64 d,.int .i64 e,.int .i64 f]] K (aD N A (σ.set p ⟨c.l,true⟩))=K undef (aD N A (σ.set p ⟨({ c with fJ:=a,mz:=b,iE:=d,iK:=e,my:=f }:Cr).l,true⟩)):=
 X' (c:=[.int .i64 a,.int .i64 b,.int .i64 d,.int .i64 e,.int .i64 f]) _ hd rfl rfl (by show _≤20;decide) rfl
def jX(w st:Int):Int:=aR st (bL w) (bD w) (eM w+1)
theorem s4s{x y z w:Value}:sub [x,y,z,w] 0 4 true=some (.agg #[x,y,z,w]):=rfl
theorem o9{p:Nat}{c:Cr}{st:Int}(hd:p∉N.l)(hw:0≤c.w∧c.w<18446744073709551616):yG [.pointer (some ⟨p,0,none⟩),.int .i64 st] K (aD N A (σ.set p ⟨c.l,true⟩))=K (.int .u64 (jX c.w st)) (aD N A (σ.set p ⟨c.l,true⟩)):=by
 have Vo:=jT c.w
 have p3:∀{k:Nat} {x a b d e:Int},aH 1 [.pointer (some ⟨k,3,some 0⟩),.int .i64 x] [.int .i64 a,.int .i64 b,.int .i64 d,.int .i64 e]=some [.int .i64 a,.int .i64 b,.int .i64 d,.int .i64 x]:=fun{_ _ _ _ _ _}=>rfl
 have p0:∀{k:Nat} {x a b d e:Int},aH 1 [.pointer (some ⟨k,0,some 0⟩),.int .i64 x] [.int .i64 a,.int .i64 b,.int .i64 d,.int .i64 e]=some [.int .i64 x,.int .i64 b,.int .i64 d,.int .i64 e]:=fun{_ _ _ _ _ _}=>rfl
 have l4:∀{k:Nat} {x y z w:Value},ah 4 true [.pointer (some ⟨k,0,some 0⟩)] [x,y,z,w]=some (.agg #[x,y,z,w]):=fun{_ _ _ _ _}=>rfl
 simp only[yG,Qr,UE hd,cz hw.1 hw.2,aF,bc,Nat.reduceAdd,Nat.reduceLeDiff]
 rw[IntWalk.i64_in (eM c.w+1) (by omega)]
 simp only[s4s,jg,aF]
 rfl
def Cr.next(c:Cr)(k u:Int):Cr:={ c with pos:=c.pos+aA k,pc:=if u≤c.pos+aA k then 6 else 4 }
theorem x_{p:Nat}{c:Cr}{st k u n:Int}(hd:p∉N.l)(hk:0≤k∧k≤3)(hp:0≤c.pos∧c.pos≤200000000):yF [.pointer (some ⟨p,0,none⟩),.agg #[.int .i64 st,.int .i64 k,.int .i64 u,.int .i64 n]] K (aD N A (σ.set p ⟨c.l,true⟩)) =
  K (.tuple #[]) (aD N A (σ.set p ⟨(c.next k u).l,true⟩)):=by
 have g4:bO 4 [.agg #[.int .i64 st,.int .i64 k,.int .i64 u,.int .i64 n]] []=some [.int .i64 st,.int .i64 k,.int .i64 u,.int .i64 n]:=rfl
 have hr:=bR hk.1 hk.2
 simp only[yF,Qp,g4,lC3 hd,mX hk.1 hk.2,aF,bc]
 rw[IntWalk.i64_in (c.pos+aA k) (by omega)]
 simp only[sC3 hd,DO hd,lC3 hd,aF]
 unfold Cr.next
 by_cases c1:u≤c.pos+aA k
 ·simp only[c1,aF]
 ·simp only[c1,aF]
theorem WH(hN:N.ok)(hC:C.ok)(hA:aZ N A σ){p:Nat}{c:Cr}(hp:σ.get p=some ⟨c.l,true⟩)(hd:p∉N.l)(h:c.pc=3)(hn:C.len≤A.n)(h0:0≤c.at'∧c.at'<C.C)(hw:0≤c.w∧c.w<18446744073709551616)
  (hk:∀ τ,aZ N ((A.by who).dI (C.chunk c.at') c.w (jX c.w 2)) τ→τ.get p=some ⟨({ c with pos:=0,pc:=if A.w (C.chunk c.at')=c.w then 4 else 10,w:=if A.w (C.chunk c.at')=c.w then jX c.w 2 else c.w }:Cr).l,true⟩→aQ (p::N.l) σ τ→K (.tuple #[]) τ):dU [.pointer (some ⟨p,0,none⟩),N.env C who] K σ:=by
 have hT:=hC.T;have hS:=hC.S;have ma:=hC.C;have hl:=br hC
 have kW:C.chunk C.C=6+C.T+2*C.S+3*C.C:=rfl
 have cb:0≤C.chunk c.at'∧C.chunk c.at'<A.n:=by unfold Cf.chunk at *;omega
 rw[hA.obj hp]
 simp only[dU,nQ,du,cI,EW hd,h,sC3 hd,DO hd,EV hd,cB hC h0.1 (show c.at'≤65536 by omega),UE hd,aF,bc,bN,Nat.reduceAdd,Int.reduceEq]
 rw[o9 (c:={ c with pos:=0,pc:=10 }) hd hw,jE hN cb.1 cb.2]
 by_cases e:A.w (C.chunk c.at')=c.w
 ·simp only[af e]at hk
  simp only[e,decide_true,aF]
  rw[o9 (c:={ c with pos:=0,pc:=10 }) hd hw]
  simp only[sC4 hd,DO hd]
  exact behind hN hd hk
 ·simp only[ae e]at hk
  simp only[e,decide_false,aF]
  exact behind hN hd hk
theorem WD(hN:N.ok)(hC:C.ok)(hA:aZ N A σ){p:Nat}{c:Cr}(hp:σ.get p=some ⟨c.l,true⟩)(hd:p∉N.l)(h:c.pc=6)(hn:C.len≤A.n)
  (hk:∀ τ,aZ N ((A.by who).load 0) τ→τ.get p=some ⟨({ c with now:=A.w 0,pc:=7 }:Cr).l,true⟩→aQ (p::N.l) σ τ→K (.tuple #[]) τ):dU [.pointer (some ⟨p,0,none⟩),N.env C who] K σ:=by
 have hT:=hC.T;have hS:=hC.S;have ma:=hC.C;have hl:=br hC
 have kW:C.chunk C.C=6+C.T+2*C.S+3*C.C:=rfl
 have b0:(0:Int)<A.n:=by omega
 rw[hA.obj hp]
 simp only[dU,nQ,du,cI,EW hd,h,mY,cg hN (Int.le_refl 0) b0,sC5 hd,DO hd,aF,bc,bN,Nat.reduceAdd,Int.reduceEq]
 exact behind hN hd hk
theorem WB(hN:N.ok)(hC:C.ok)(hA:aZ N A σ){p:Nat}{c:Cr}(hp:σ.get p=some ⟨c.l,true⟩)(hd:p∉N.l)(h:c.pc=7)(hn:C.len≤A.n)(pC:(A.n:Int)≤200000000)(h0:0≤c.at'∧c.at'<C.C)
  (hk:∀ τ,aZ N ((A.by who).store (C.chunk c.at'+2) c.now) τ→τ.get p=some ⟨({ c with pc:=8 }:Cr).l,true⟩→aQ (p::N.l) σ τ→K (.tuple #[]) τ):dU [.pointer (some ⟨p,0,none⟩),N.env C who] K σ:=by
 have hT:=hC.T;have hS:=hC.S;have ma:=hC.C;have hl:=br hC
 have kW:C.chunk C.C=6+C.T+2*C.S+3*C.C:=rfl
 have cb:0≤C.chunk c.at'∧C.chunk c.at'+2<A.n:=by unfold Cf.chunk at *;omega
 rw[hA.obj hp]
 simp only[dU,nQ,du,cI,EW hd,h,EV hd,cB hC h0.1 (show c.at'≤65536 by omega),aF,bc,bN,Nat.reduceAdd,Int.reduceEq]
 rw[IntWalk.i64_in (C.chunk c.at'+2) (by omega)]
 simp only[lC5 hd,dG hN (show 0≤C.chunk c.at'+2 by omega) cb.2,DO hd]
 exact behind hN hd hk
theorem WA(hN:N.ok)(hC:C.ok)(hA:aZ N A σ){p:Nat}{c:Cr}(hp:σ.get p=some ⟨c.l,true⟩)(hd:p∉N.l)(h:c.pc=8)(hn:C.len≤A.n)(h0:0≤c.at'∧c.at'<C.C)(hw:0≤c.w∧c.w<18446744073709551616)(he:0≤c.ev∧c.ev≤1000000000)
  (hk:∀ τ,aZ N ((A.by who).store (C.chunk c.at') (jX c.w 3)) τ→τ.get p=some ⟨({ c with ev:=c.ev+1,pc:=10 }:Cr).l,true⟩→aQ (p::N.l) σ τ→K (.tuple #[]) τ):dU [.pointer (some ⟨p,0,none⟩),N.env C who] K σ:=by
 have hT:=hC.T;have hS:=hC.S;have ma:=hC.C;have hl:=br hC
 have kW:C.chunk C.C=6+C.T+2*C.S+3*C.C:=rfl
 have cb:0≤C.chunk c.at'∧C.chunk c.at'<A.n:=by unfold Cf.chunk at *;omega
 rw[hA.obj hp]
 simp only[dU,nQ,du,cI,EW hd,h,EV hd,cB hC h0.1 (show c.at'≤65536 by omega),o9 hd hw,dG hN cb.1 cb.2,lC9 hd,aF,bc,bN,Nat.reduceAdd,Int.reduceEq]
 rw[IntWalk.i64_in (c.ev+1) (by omega)]
 simp only[sC9 hd,DO hd]
 exact behind hN hd hk
theorem Wz(hN:N.ok)(hC:C.ok)(hA:aZ N A σ){p:Nat}{c:Cr}(hp:σ.get p=some ⟨c.l,true⟩)(hd:p∉N.l)(h:c.pc=9)(hn:C.len≤A.n)(h0:0≤c.at'∧c.at'<C.C)(hw:0≤c.w∧c.w<18446744073709551616)(he:0≤c.lf∧c.lf≤1000000000)
  (hk:∀ τ,aZ N ((A.by who).store (C.chunk c.at') (jX c.w 1)) τ→τ.get p=some ⟨({ c with lf:=c.lf+1,pc:=10 }:Cr).l,true⟩→aQ (p::N.l) σ τ→K (.tuple #[]) τ):dU [.pointer (some ⟨p,0,none⟩),N.env C who] K σ:=by
 have hT:=hC.T;have hS:=hC.S;have ma:=hC.C;have hl:=br hC
 have kW:C.chunk C.C=6+C.T+2*C.S+3*C.C:=rfl
 have cb:0≤C.chunk c.at'∧C.chunk c.at'<A.n:=by unfold Cf.chunk at *;omega
 rw[hA.obj hp]
 simp only[dU,nQ,du,cI,EW hd,h,EV hd,cB hC h0.1 (show c.at'≤65536 by omega),o9 hd hw,dG hN cb.1 cb.2,aaD hd,aF,bc,bN,Nat.reduceAdd,Int.reduceEq]
 rw[IntWalk.i64_in (c.lf+1) (by omega)]
 simp only[Yt hd,DO hd]
 exact behind hN hd hk
theorem WG(hN:N.ok)(hC:C.ok)(hA:aZ N A σ){p:Nat}{c:Cr}(hp:σ.get p=some ⟨c.l,true⟩)(hd:p∉N.l)(h:c.pc=4)(hn:C.len≤A.n)(pC:(A.n:Int)≤200000000)(h0:0≤c.at'∧c.at'<C.C)(hw:0≤c.w∧c.w<18446744073709551616)(bE:bL c.w≤3)(U5:0≤c.pos∧C.base c.at'+c.pos<A.n)
  (xG:∀ i,0≤A.w i∧A.w i<18446744073709551616)
  (k3:nF (A.w (C.base c.at'+c.pos))=3→∀ τ,aZ N ((A.by who).load (C.base c.at'+c.pos)) τ→τ.get p=some ⟨(c.next (bL c.w) (bD c.w)).l,true⟩→aQ (p::N.l) σ τ→K (.tuple #[]) τ)
  (k2:nF (A.w (C.base c.at'+c.pos))=2→∀ q τ,σ.get q=none→aZ N ((A.by who).load (C.base c.at'+c.pos)) τ→τ.get p=some ⟨({ c with x6:=.pointer (some ⟨q,0,none⟩),pc:=5 }:Cr).l,true⟩ →
   B5 N q [q] (Mv.new (C.base c.at'+c.pos) (nF (A.w (C.base c.at'+c.pos))) (gH (A.w (C.base c.at'+c.pos))) (tx (A.w (C.base c.at'+c.pos))) (E3 (A.w (C.base c.at'+c.pos))) (sy (A.w (C.base c.at'+c.pos)))) τ→aQ (p::N.l) σ τ→K (.tuple #[]) τ)
  (k1:nF (A.w (C.base c.at'+c.pos))≠3→nF (A.w (C.base c.at'+c.pos))≠2→∀ τ,aZ N ((A.by who).load (C.base c.at'+c.pos)) τ→τ.get p=some ⟨({ c with pc:=9 }:Cr).l,true⟩→aQ (p::N.l) σ τ→K (.tuple #[]) τ) :
  dU [.pointer (some ⟨p,0,none⟩),N.env C who] K σ:=by
 have hT:=hC.T;have hS:=hC.S;have ma:=hC.C;have hl:=br hC
 have kW:C.chunk C.C=6+C.T+2*C.S+3*C.C:=rfl
 have bb:0≤C.base c.at':=by have:=a_ hC h0.1 h0.2 (Int.le_refl 0);omega
 have g5:∀{k:Nat} {x y z w:Int} {u:Bool},aH 5 [.pointer (some ⟨k,0,some 0⟩),.agg #[.int .i64 x,.int .i64 y,.int .i64 z,.int .i64 w,.bool u]] [.int .i64 0,.int .i64 0,.int .i64 0,.int .i64 0,.bool false]=some [.int .i64 x,.int .i64 y,.int .i64 z,.int .i64 w,.bool u]:=fun{_ _ _ _ _ _}=>rfl
 have l5:∀{k:Nat} {x y z u w:Value},ah 5 true [.pointer (some ⟨k,0,some 0⟩)] [x,y,z,u,w]=some (.agg #[x,y,z,u,w]):=fun{_ _ _ _ _ _}=>rfl
 have s5:∀{x y z u w:Value},sub [x,y,z,u,w] 0 5 true=some (.agg #[x,y,z,u,w]):=fun{_ _ _ _ _}=>rfl
 have l4:∀{k:Nat} {x y z w:Value},ah 4 true [.pointer (some ⟨k,0,some 0⟩)] [x,y,z,w]=some (.agg #[x,y,z,w]):=fun{_ _ _ _ _}=>rfl
 have tz:=xV c.w
 rw[hA.obj hp]
 simp only[dU,nQ,du,cI,GO,Qo,EW hd,h,UE hd,cz hw.1 hw.2,EV hd,ya hC h0.1 (show c.at'≤65536 by omega),lC3 hd,aF,bc,bN,Nat.reduceAdd,Int.reduceEq]
 rw[IntWalk.i64_in (C.base c.at'+c.pos) (by omega)]
 simp only[cg hN (show 0≤C.base c.at'+c.pos by omega) U5.2,BU (xG (C.base c.at'+c.pos)).1 (xG (C.base c.at'+c.pos)).2,g5,aF,bc]
 have hp2:0≤c.pos∧c.pos≤200000000:=by omega
 generalize C.base c.at'+c.pos=ad at *
 by_cases e3:nF (A.w ad)=3
 ·simp only[e3,s4s,x_ hd ⟨tz.1,bE⟩ hp2,aF,Int.reduceEq]
  exact behind hN hd (k3 e3)
 by_cases e2:nF (A.w ad)=2
 ·simp only[e2,s5,aF,Int.reduceEq]
  have m_:aZ N ((A.by who).load ad) (aD N ((A.by who).load ad) (σ.set p ⟨c.l,true⟩)):=mS hN
  have k0:aQ (p::N.l) σ (aD N ((A.by who).load ad) (σ.set p ⟨c.l,true⟩)):=behind (K:=fun _ τ=>aQ (p::N.l) σ τ) (v:=undef) hN hd fun τ _ _ k=>k
  have gp:(aD N ((A.by who).load ad) (σ.set p ⟨c.l,true⟩)).get p=some ⟨c.l,true⟩:=(dv hd).trans (Mem.bf _ _ _)
  refine KO m_ fun q τ1 hq I_ x1=>?_
  have l9:q≠p:=by rintro rfl;rw[gp]at hq;cases hq
  rw[(m_.ext x1).obj (x1 _ _ gp)]
  simp only[Yo hd,DO hd]
  refine behind hN hd fun τ2 u1 u2 u3=>?_
  have Kl:=I_.own q (List.mem_singleton.2 rfl)
  have SX:∀ i∈[q],i∉p::N.l:=fun i hi=>by
   rw[List.mem_singleton]at hi;subst hi
   exact fun hm=>by rcases List.mem_cons.1 hm with r|r;exact l9 r;exact Kl r
  refine k2 e2 q τ2 ?_ u1 u2 (by rw[e2];exact I_.aL u3 SX) (aQ.trans k0 (aQ.trans (L:=p::N.l) (Ext.aL (L:=p::N.l) x1) u3))
  ·cases e:σ.get q with
   | none=>rfl
   | some b=>
    have:=k0 _ _ e (fun hm=>by rcases List.mem_cons.1 hm with r|r;exact l9 r;exact Kl r)
    rw[this]at hq;cases hq
 ·simp only[e3,e2,DO hd,aF]
  exact behind hN hd (k1 e3 e2)
end Go.Fl
namespace Go.Fl
open Go
variable{N:Nm}{A B:Ar}{σ:Mem}{K:Value→Mem→Prop}{C:Cf}{who:Int}
theorem W_{q l:Nat}{L:List Sn}{x:Sn}(h:σ.get q=some ⟨kK L,true⟩)(hl:L.length<1073741823)(hk:∀ id τ,σ.get id=none→τ.get id=some ⟨kK (L++[x]),true⟩→aQ [q] σ τ→K (.slice (some ⟨id,0,none⟩) (L.length+1) 6) τ) :
  cv 6 48 x.l [.slice (some ⟨q,0,none⟩) L.length 6,rR l 1 6] K σ:=by
 simp only[cv,rR,app,h]
 rw[af ⟨by decide,rfl,rfl⟩,af ⟨trivial,trivial,by decide,by rw[rI];omega,by omega⟩,List.drop_zero]
 intro id dQ
 have jd:id≠q:=by rintro rfl;rw[h]at dQ;cases dQ
 refine hk id _ dQ (by rw[A8];simp[Mem.del,Mem.set,jd,kK]) fun i c hi hn=>?_
 simp only[List.mem_cons,List.not_mem_nil,or_false]at hn
 have:i≠id:=by rintro rfl;rw[dQ]at hi;cases hi
 simp[Mem.del,Mem.set,hn,this,hi]
theorem Ss{l:Nat}{x:Sn}(hk:∀ id τ,σ.get id=none→τ.get id=some ⟨kK [x],true⟩→Ext σ τ→K (.slice (some ⟨id,0,none⟩) 1 6) τ) :
  cv 6 48 x.l [.slice none 0 0,rR l 1 6] K σ:=by
 simp only[cv,rR,app]
 rw[af ⟨by decide,rfl,rfl⟩,ae (by decide),af (by decide)]
 intro id dQ
 refine hk id _ dQ (by simp[Mem.set,kK]) fun i c hi=>?_
 have:i≠id:=by rintro rfl;rw[dQ]at hi;cases hi
 simp[Mem.set,this,hi]
theorem mid(hN:N.ok){p:Nat}(hd:p∉N.l){b:uc}:aZ N A (aD N A (σ.set p b))∧(aD N A (σ.set p b)).get p=some b∧aQ (p::N.l) σ (aD N A (σ.set p b))∧∀ id,(aD N A (σ.set p b)).get id=none→σ.get id=none∧id≠p∧id∉N.l:=by
 have h1:aZ N A (aD N A (σ.set p b)):=mS hN
 have h2:(aD N A (σ.set p b)).get p=some b:=(dv hd).trans (Mem.bf _ _ _)
 have h3:aQ (p::N.l) σ (aD N A (σ.set p b)):=behind (K:=fun _ τ=>aQ (p::N.l) σ τ) (v:=undef) hN hd fun τ _ _ k=>k
 refine⟨h1,h2,h3,fun id h=>?_⟩
 have n1:id∉N.l:=h1.new h
 have n2:id≠p:=by rintro rfl;rw[h2]at h;cases h
 refine⟨?_,n2,n1⟩
 cases e:σ.get id with
 | none=>rfl
 | some x=>rw[h3 _ _ e (by simp[n1,n2])]at h;cases h
def CD(w:Int):Sn:=⟨bF w,bL w,bD w,eM w,0,false⟩
theorem bX{p:Nat}{L:List Nat}{i:Nat}(h1:i≠p)(h2:i∉L):i∉p::L:=fun h=>by rcases List.mem_cons.1 h with r|r;exact h1 r;exact h2 r
theorem bSn{w:Int}{K:Value→Prop}:xF (aM [(0,4),(4,1),(5,1)] [.int .i64 0,.int .i64 0,.int .i64 0,.int .i64 0,.int .i64 0,.bool false] [0]) [.agg #[.int .i64 (bF w),.int .i64 (bL w),.int .i64 (bD w),.int .i64 (eM w)]] K=K (.agg (CD w).l.toArray):=nr rfl
theorem gSn{x:Sn}:iu 6 1 [.int .i64 0,.int .i64 0,.int .i64 0,.int .i64 0,.int .i64 0,.bool false] [0] [.agg x.l.toArray] []=some x.l:=nr rfl
def m8(L:List Sn)(n:Int):List Sn:=if 0<n then(match L[(n-1).toNat]? with
 | none=>L
 | some x=>L.set (n-1).toNat { x with op:=true })else L
theorem vf{L:List Sn}{n:Int}:(m8 L n).length=L.length:=by
 unfold m8;split
 ·split
  ·rfl
  ·exact List.length_set
 ·rfl
theorem Hq{b n:Nat}{rw:Bool}{l:List Sn}(e:l.length=n)(hl:l.length≤1000)(hb:σ.get b=some ⟨kK l,rw⟩)(hk:∀ r,FA C l r→Gn C l r→K (.int .i64 r) σ):CE [C.v,.slice (some ⟨b,0,none⟩) n 6] K σ:=by
 subst e;exact JS hl hb hk
theorem Si(hN:N.ok)(hC:C.ok)(hA:aZ N A σ){p:Nat}{c:Cr}(hp:σ.get p=some ⟨c.l,true⟩)(hd:p∉N.l)(h:c.pc=0)(hn:C.len≤A.n)(h0:c.at'=0)
  (xG:∀ i,0≤A.w i∧A.w i<18446744073709551616)
  (hk:∀ id τ,σ.get id=none→id≠p→id∉N.l→aZ N ((A.by who).load (C.chunk c.at')) τ→τ.get p=some ⟨({ c with x1:=.slice (some ⟨id,0,none⟩) 1 6,pc:=1 }:Cr).l,true⟩ →
   τ.get id=some ⟨kK [CD (A.w (C.chunk c.at'))],true⟩→aQ (p::N.l) σ τ→K (.tuple #[]) τ):dU [.pointer (some ⟨p,0,none⟩),N.env C who] K σ:=by
 rcases c with⟨pc,x1,at',pos,w,now,x6,x7,x8,ev,lf,fd,mo,rd,fJ,mz,iE,iK,my,idle⟩
 dsimp only at *
 subst h;subst h0
 have hT:=hC.T;have hS:=hC.S;have ma:=hC.C;have hl:=br hC
 have kW:C.chunk C.C=6+C.T+2*C.S+3*C.C:=rfl
 have cb:0≤C.chunk 0∧C.chunk 0<A.n:=by unfold Cf.chunk at *;omega
 rw[hA.obj hp]
 simp only[dU,nQ,du,cI,Bl,Gw,EW hd,EV hd,Yp hd,uY,rk,SO hd,
  cB hC (Int.le_refl 0) (show(0:Int)≤65536 by decide),cg hN cb.1 cb.2,cz (xG (C.chunk 0)).1 (xG (C.chunk 0)).2,bSn,gSn,and_self,aF,bc,bN,Nat.reduceAdd,Int.reduceEq]
 obtain⟨m_,MU,k1,n1⟩:=mid (σ:=σ) (A:=(A.by who).load (C.chunk 0)) hN hd (b:=⟨(⟨0,.slice none 0 0,0,pos,w,now,x6,x7,x8,ev,lf,fd,mo,rd,fJ,mz,iE,iK,my,idle⟩:Cr).l,true⟩)
 refine Ss fun id τ1 dQ gid x1=>?_
 obtain⟨q1,q2,q3⟩:=n1 id dQ
 rw[(m_.ext x1).obj (x1 _ _ MU)]
 simp only[uX,rj,Uk hd,DO hd,aF]
 refine behind hN hd fun τ2 u1 u2 u3=>?_
 exact hk id τ2 q1 q2 q3 u1 u2 (u3.get gid (bX q2 q3)) (aQ.trans k1 (aQ.trans (L:=p::N.l) (Ext.aL (L:=p::N.l) x1) u3))
theorem Sh(hN:N.ok)(hC:C.ok)(hA:aZ N A σ){p q:Nat}{c:Cr}{L:List Sn}(hp:σ.get p=some ⟨({ c with x1:=.slice (some ⟨q,0,none⟩) L.length 6 }:Cr).l,true⟩)(hd:p∉N.l)(h:c.pc=0)(hn:C.len≤A.n)(h0:0<c.at'∧c.at'<C.C)
  (xG:∀ i,0≤A.w i∧A.w i<18446744073709551616) (hq:σ.get q=some ⟨kK L,true⟩) (lE:q∉N.l) (l9:q≠p) (hL:L.length<1073741823)
  (hk:∀ id τ,σ.get id=none→id≠p→id∉N.l→aZ N ((A.by who).load (C.chunk c.at')) τ→τ.get p=some ⟨({ c with x1:=.slice (some ⟨id,0,none⟩) (L.length+1) 6,pc:=1 }:Cr).l,true⟩ →
   τ.get id=some ⟨kK (L++[CD (A.w (C.chunk c.at'))]),true⟩→aQ (q::p::N.l) σ τ→K (.tuple #[]) τ):dU [.pointer (some ⟨p,0,none⟩),N.env C who] K σ:=by
 rcases c with⟨pc,x1,at',pos,w,now,x6,x7,x8,ev,lf,fd,mo,rd,fJ,mz,iE,iK,my,idle⟩
 dsimp only at *
 subst h
 have hT:=hC.T;have hS:=hC.S;have ma:=hC.C;have hl:=br hC
 have kW:C.chunk C.C=6+C.T+2*C.S+3*C.C:=rfl
 have cb:0≤C.chunk at'∧C.chunk at'<A.n:=by unfold Cf.chunk at *;omega
 have CX:¬ at'=0:=by omega
 rw[hA.obj hp]
 simp only[dU,nQ,du,cI,Bl,Gw,EW hd,EV hd,CX,uY,rk,SO hd,
  cB hC (show 0≤at' by omega) (show at'≤65536 by omega),cg hN cb.1 cb.2,cz (xG (C.chunk at')).1 (xG (C.chunk at')).2,bSn,gSn,and_self,aF,bc,bN,Nat.reduceAdd,Int.reduceEq]
 obtain⟨m_,MU,k1,n1⟩:=mid (σ:=σ) (A:=(A.by who).load (C.chunk at')) hN hd (b:=⟨(⟨0,.slice (some ⟨q,0,none⟩) L.length 6,at',pos,w,now,x6,x7,x8,ev,lf,fd,mo,rd,fJ,mz,iE,iK,my,idle⟩:Cr).l,true⟩)
 refine W_ (k1.get hq (bX l9 lE)) hL fun id τ1 dQ gid x1=>?_
 obtain⟨q1,q2,q3⟩:=n1 id dQ
 have nG:aZ N ((A.by who).load (C.chunk at')) τ1:=m_.aL x1 (by simp only[Nm.l,List.mem_cons,List.not_mem_nil,or_false,not_or]at lE ⊢;exact⟨Ne.symm lE.1,Ne.symm lE.2.1,Ne.symm lE.2.2⟩)
 rw[nG.obj (x1.get MU (by simp;exact fun e=>l9 e.symm))]
 simp only[uX,rj,Uk hd,DO hd,aF]
 refine behind hN hd fun τ2 u1 u2 u3=>?_
 refine hk id τ2 q1 q2 q3 u1 u2 (u3.get gid (bX q2 q3)) (aQ.trans (k1.mono fun i hi=>List.mem_cons_of_mem _ hi) (aQ.trans (x1.mono fun i hi=>?_) (u3.mono fun i hi=>List.mem_cons_of_mem _ hi)))
 rw[List.mem_singleton]at hi;subst hi;exact List.mem_cons_self ..
theorem WK(hN:N.ok)(hC:C.ok)(hA:aZ N A σ){p q:Nat}{c:Cr}{L:List Sn}{x:Sn}(hp:σ.get p=some ⟨({ c with x1:=.slice (some ⟨q,0,none⟩) L.length 6 }:Cr).l,true⟩)(hd:p∉N.l)(h:c.pc=1)(hn:C.len≤A.n)(h0:0≤c.at'∧c.at'<C.C)
  (hq:σ.get q=some ⟨kK L,true⟩) (lE:q∉N.l) (l9:q≠p) (hx:L[c.at'.toNat]?=some x)
  (hk:∀ τ,aZ N ((A.by who).load (C.chunk c.at'+1)) τ→τ.get p=some ⟨({ c with x1:=.slice (some ⟨q,0,none⟩) L.length 6,at':=if C.C≤c.at'+1 then 0 else c.at'+1,pc:=if C.C≤c.at'+1 then 2 else 0 }:Cr).l,true⟩ →
   τ.get q=some ⟨kK (L.set c.at'.toNat { x with live:=IntKind.i64.wrap (A.w (C.chunk c.at'+1)) }),true⟩→aQ (q::p::N.l) σ τ→K (.tuple #[]) τ):dU [.pointer (some ⟨p,0,none⟩),N.env C who] K σ:=by
 rcases c with⟨pc,x1,at',pos,w,now,x6,x7,x8,ev,lf,fd,mo,rd,fJ,mz,iE,iK,my,idle⟩
 dsimp only at *
 subst h
 have hT:=hC.T;have hS:=hC.S;have ma:=hC.C;have hl:=br hC
 have kW:C.chunk C.C=6+C.T+2*C.S+3*C.C:=rfl
 have cb:0≤C.chunk at'+1∧C.chunk at'+1<A.n:=by unfold Cf.chunk at *;omega
 have cb2:C.chunk at'+1≤300000:=by unfold Cf.chunk at *;omega
 have hlen:at'<(L.length:Int):=by have:=(List.getElem?_eq_some_iff.1 hx).1;omega
 rw[hA.obj hp]
 simp only[dU,nQ,du,cI,Bl,Gw,EW hd,EV hd,SO hd,
  cB hC h0.1 (show at'≤65536 by omega),IntWalk.i64_in (C.chunk at'+1) (by omega),cg hN cb.1 cb.2,fx h0.1 hlen,Nat.zero_add,and_self,aF,bc,bN,Nat.reduceAdd,Int.reduceEq]
 obtain⟨m_,MU,k1,n1⟩:=mid (σ:=σ) (A:=(A.by who).load (C.chunk at'+1)) hN hd (b:=⟨(⟨1,.slice (some ⟨q,0,none⟩) L.length 6,at',pos,w,now,x6,x7,x8,ev,lf,fd,mo,rd,fJ,mz,iE,iK,my,idle⟩:Cr).l,true⟩)
 have XN:=k1.get hq (bX l9 lE)
 have Jc:lay (kK L) (at'.toNat*6+4) [.int .i64 (IntKind.i64.wrap (A.w (C.chunk at'+1)))]=kK (L.set at'.toNat { x with live:=IntKind.i64.wrap (A.w (C.chunk at'+1)) }):=Is hx (by simp) rfl
 rw[d_ XN (show cellsOf (.int .i64 (IntKind.i64.wrap (A.w (C.chunk at'+1)))) 1=some [.int .i64 (IntKind.i64.wrap (A.w (C.chunk at'+1)))]from rfl) (by rw[rI];omega) rfl,Jc]
 generalize hM:(aD N ((A.by who).load (C.chunk at'+1)) (σ.set p ⟨(⟨1,.slice (some ⟨q,0,none⟩) L.length 6,at',pos,w,now,x6,x7,x8,ev,lf,fd,mo,rd,fJ,mz,iE,iK,my,idle⟩:Cr).l,true⟩))=M at *
 have kq:aQ [q] M (M.set q ⟨kK (L.set at'.toNat { x with live:=IntKind.i64.wrap (A.w (C.chunk at'+1)) }),true⟩):=fun i b hi hn=>by rw[Mem.bZ _ _ (by simpa using hn)];exact hi
 have gq2:(M.set q ⟨kK (L.set at'.toNat { x with live:=IntKind.i64.wrap (A.w (C.chunk at'+1)) }),true⟩).get q=some ⟨kK (L.set at'.toNat { x with live:=IntKind.i64.wrap (A.w (C.chunk at'+1)) }),true⟩:=Mem.bf _ _ _
 generalize (M.set q ⟨kK (L.set at'.toNat { x with live:=IntKind.i64.wrap (A.w (C.chunk at'+1)) }),true⟩)=M2 at *
 have nG:aZ N ((A.by who).load (C.chunk at'+1)) M2:=m_.aL kq (by simp only[Nm.l,List.mem_cons,List.not_mem_nil,or_false,not_or]at lE ⊢;exact⟨Ne.symm lE.1,Ne.symm lE.2.1,Ne.symm lE.2.2⟩)
 rw[nG.obj (kq.get MU (by simp;exact fun e=>l9 e.symm))]
 simp only[Aj,wI,EV hd,Uj hd,DO hd,IntWalk.i64_in (at'+1) (by omega),aF,bc,bN]
 have fin:∀{b:uc} {v:Value},(∀ τ,aZ N ((A.by who).load (C.chunk at'+1)) τ→τ.get p=some b→τ.get q=some ⟨kK (L.set at'.toNat { x with live:=IntKind.i64.wrap (A.w (C.chunk at'+1)) }),true⟩→aQ (q::p::N.l) σ τ→K v τ) →
   K v (aD N ((A.by who).load (C.chunk at'+1)) (M2.set p b)):=fun hh=>by
  refine behind hN hd fun τ u1 u2 u3=>hh τ u1 u2 (u3.get gq2 (bX l9 lE)) (aQ.trans (k1.mono fun i hi=>List.mem_cons_of_mem _ hi) (aQ.trans (kq.mono fun i hi=>?_) (u3.mono fun i hi=>List.mem_cons_of_mem _ hi)))
  rw[List.mem_singleton]at hi;subst hi;exact List.mem_cons_self ..
 by_cases e:C.C≤at'+1
 ·simp only[af e]at hk
  simp only[e,aF]
  exact fin hk
 ·simp only[ae e]at hk
  simp only[e,aF]
  exact fin hk
theorem WJ(hN:N.ok)(hC:C.ok)(hA:aZ N A σ){p q:Nat}{c:Cr}{L:List Sn}(hp:σ.get p=some ⟨({ c with x1:=.slice (some ⟨q,0,none⟩) L.length 6 }:Cr).l,true⟩)(hd:p∉N.l)(h:c.pc=2)(hn:C.len≤A.n)(h0:0≤c.at'∧c.at'<4)
  (hq:σ.get q=some ⟨kK L,true⟩) (lE:q∉N.l) (l9:q≠p) (hL:(L.length:Int)=C.C) (qd:0≤A.w (2+c.at')∧A.w (2+c.at')≤C.C)
  (k1:c.at'+1<4→∀ τ,aZ N ((A.by who).load (2+c.at')) τ→τ.get p=some ⟨({ c with x1:=.slice (some ⟨q,0,none⟩) L.length 6,at':=c.at'+1 }:Cr).l,true⟩→τ.get q=some ⟨kK (m8 L (A.w (2+c.at'))),true⟩→aQ (q::p::N.l) σ τ→K (.tuple #[]) τ)
  (k2:¬ c.at'+1<4→(∀ x∈m8 L (A.w (2+c.at')),¬ x.may C)→∀ τ,aZ N ((A.by who).load (2+c.at')) τ→τ.get p=some ⟨({ c with x1:=.slice (some ⟨q,0,none⟩) L.length 6,at' := -1,pc:=10 }:Cr).l,true⟩→aQ (q::p::N.l) σ τ→K (.tuple #[]) τ)
  (k3:¬ c.at'+1<4→∀ r x,0≤r→r<C.C→(m8 L (A.w (2+c.at')))[r.toNat]?=some x→x.may C→Gn C (m8 L (A.w (2+c.at'))) r→∀ τ,aZ N ((A.by who).load (2+c.at')) τ→τ.get p=some ⟨({ c with x1:=.slice (some ⟨q,0,none⟩) L.length 6,at':=r,pc:=3,w:=aR x.st x.cl x.us x.sp }:Cr).l,true⟩→aQ (q::p::N.l) σ τ→K (.tuple #[]) τ) :
  dU [.pointer (some ⟨p,0,none⟩),N.env C who] K σ:=by
 rcases c with⟨pc,x1,at',pos,w,now,x6,x7,x8,ev,lf,fd,mo,rd,fJ,mz,iE,iK,my,idle⟩
 dsimp only at *
 subst h
 have hT:=hC.T;have hS:=hC.S;have ma:=hC.C;have hl:=br hC
 have kW:C.chunk C.C=6+C.T+2*C.S+3*C.C:=rfl
 have cb:0≤2+at'∧2+at'<A.n:=by omega
 have hlen:(m8 L (A.w (2+at'))).length=L.length:=vf
 have s7:sub (N.el C who) 0 7 true=some C.v:=rfl
 have fin:∀ M:Mem,aZ N ((A.by who).load (2+at')) M→M.get p=some ⟨(⟨2,.slice (some ⟨q,0,none⟩) L.length 6,at',pos,w,now,x6,x7,x8,ev,lf,fd,mo,rd,fJ,mz,iE,iK,my,idle⟩:Cr).l,true⟩ →
   M.get q=some ⟨kK (m8 L (A.w (2+at'))),true⟩→aQ (q::p::N.l) σ M→uV (fun bB σ=>K (.tuple #[]) σ) [.pointer (some ⟨p,0,none⟩)] [N.el C who] M:=by
  intro M m_ gp gq kp
  have out:∀{b:uc} {v:Value},(∀ τ,aZ N ((A.by who).load (2+at')) τ→τ.get p=some b→τ.get q=some ⟨kK (m8 L (A.w (2+at'))),true⟩→aQ (q::p::N.l) σ τ→K v τ) →
    K v (aD N ((A.by who).load (2+at')) (M.set p b)):=fun hh=>
   behind hN hd fun τ u1 u2 u3=>hh τ u1 u2 (u3.get gq (bX l9 lE)) (aQ.trans kp (u3.mono fun i hi=>List.mem_cons_of_mem _ hi))
  rw[m_.obj gp]
  simp only[uV,wF,EV hd,Uj hd,IntWalk.i64_in (at'+1) (by omega),aF,bc,bN]
  by_cases c4:at'+1<4
  ·simp only[c4,aF]
   exact out (k1 c4)
  ·simp only[c4,SO hd,aF]
   obtain⟨nG,S7,KZ,_⟩:=mid (σ:=M) (A:=(A.by who).load (2+at')) hN hd (b:=⟨(⟨2,.slice (some ⟨q,0,none⟩) L.length 6,at'+1,pos,w,now,x6,x7,x8,ev,lf,fd,mo,rd,fJ,mz,iE,iK,my,idle⟩:Cr).l,true⟩)
   have gq2:=KZ.get gq (bX l9 lE)
   refine Hq hlen (by omega) gq2 fun r hr hle=>?_
   simp only[Uj hd,DO hd,EV hd,aF]
   rcases hr with⟨rfl,hr⟩|⟨r0,x,hx,hm⟩
   ·simp only[aF,Int.reduceLT,Int.reduceNeg]
    exact out fun τ a b _ d=>k2 c4 hr τ a b d
   ·have rl:r<(L.length:Int):=by have:=(List.getElem?_eq_some_iff.1 hx).1;omega
    have nr0:¬ r<0:=by omega
    simp only[nr0,SO hd,EV hd,fx r0 rl,Nat.zero_add,aF]
    obtain⟨Kq,gp3,kp3,_⟩:=mid (σ:=M) (A:=(A.by who).load (2+at')) hN hd (b:=⟨(⟨3,.slice (some ⟨q,0,none⟩) L.length 6,r,pos,w,now,x6,x7,x8,ev,lf,fd,mo,rd,fJ,mz,iE,iK,my,idle⟩:Cr).l,true⟩)
    have gq3:=kp3.get gq (bX l9 lE)
    rw[show r.toNat*6=r.toNat*6+0 from rfl,EU gq3 hx (by decide) (by decide) (show sub x.l 0 4 true=some (.agg #[.int .i64 x.st,.int .i64 x.cl,.int .i64 x.us,.int .i64 x.sp])from rfl)]
    simp only[jg,sC4 hd]
    exact out fun τ a b _ d=>k3 c4 r x r0 (by omega) hx hm hle τ a b d
 rw[hA.obj hp]
 simp only[dU,nQ,du,cI,Bl,Gw,EW hd,EV hd,Ff h0.1 (show at'≤65536 by omega),cg hN cb.1 cb.2,IntWalk.i64_in (A.w (2+at')) (by omega),aF,bc,bN,Nat.reduceAdd,Int.reduceEq]
 obtain⟨m_,MU,kp1,n1⟩:=mid (σ:=σ) (A:=(A.by who).load (2+at')) hN hd (b:=⟨(⟨2,.slice (some ⟨q,0,none⟩) L.length 6,at',pos,w,now,x6,x7,x8,ev,lf,fd,mo,rd,fJ,mz,iE,iK,my,idle⟩:Cr).l,true⟩)
 have XN:=kp1.get hq (bX l9 lE)
 by_cases cn:0<A.w (2+at')
 ·obtain⟨x,hx⟩:∃ x,L[(A.w (2+at')-1).toNat]?=some x:=⟨_,List.getElem?_eq_getElem (by omega)⟩
  have e:m8 L (A.w (2+at'))=L.set (A.w (2+at')-1).toNat { x with op:=true }:=by unfold m8;rw[af cn,hx]
  have HJ:0≤A.w (2+at')-1:=by omega
  have Km:A.w (2+at')-1<(L.length:Int):=by omega
  simp only[cn,SO hd,IntWalk.i64_in (A.w (2+at')-1) (by omega),fx HJ Km,Nat.zero_add,aF]
  have Jc:lay (kK L) ((A.w (2+at')-1).toNat*6+5) [.bool true]=kK (m8 L (A.w (2+at'))):=by rw[e];exact Is hx (by simp) rfl
  rw[d_ XN (show cellsOf (.bool true) 1=some [.bool true]from rfl) (by rw[rI];omega) rfl,Jc]
  refine fin _ ?_ ?_ (Mem.bf _ _ _) ?_
  ·refine m_.aL (L:=[q]) (fun i b hi hn=>by rw[Mem.bZ _ _ (by simpa using hn)];exact hi) ?_
   simp only[Nm.l,List.mem_cons,List.not_mem_nil,or_false,not_or]at lE ⊢;exact⟨Ne.symm lE.1,Ne.symm lE.2.1,Ne.symm lE.2.2⟩
  ·rw[Mem.bZ _ _ (Ne.symm l9)];exact MU
  ·intro i b hi hn
   simp only[List.mem_cons,not_or]at hn
   rw[Mem.bZ _ _ hn.1]
   exact kp1 i b hi (bX hn.2.1 hn.2.2)
 ·have e:m8 L (A.w (2+at'))=L:=by unfold m8;rw[ae cn]
  simp only[cn,aF]
  exact fin _ m_ MU (by rw[e];exact XN) (kp1.mono fun i hi=>List.mem_cons_of_mem _ hi)
end Go.Fl
namespace Go.Fl
open Go
variable{N:Nm}{A B:Ar}{σ:Mem}{K:Value→Mem→Prop}{C:Cf}{who:Int}
def Cr.l6(c:Cr)(done:Bool)(out:Int):Cr:=
 if done=false then c else if out=1 then({ c with mo:=c.mo+1 }:Cr).next (bL c.w) (bD c.w)else if out=2 then c.next (bL c.w) (bD c.w)else{ c with pc:=9 }
theorem WE(hN:N.ok)(hC:C.ok)(hA:aZ N A σ){p q:Nat}{Q:List Nat}{c:Cr}{m:Mv}(hp:σ.get p=some ⟨({ c with x6:=.pointer (some ⟨q,0,none⟩) }:Cr).l,true⟩)(hd:p∉N.l)(h:c.pc=5)(hn:C.len≤A.n)
  (xG:∀ i,0≤A.w i∧A.w i<18446744073709551616) (I_:B5 N q Q m σ) (hpQ:p∉Q) (hf:m.fit C A) (hw:0≤c.w∧c.w<18446744073709551616) (bE:bL c.w≤3) (U5:0≤c.pos∧c.pos≤200000000) (hmo:0≤c.mo∧c.mo≤1000000000)
  (hk:∀ O' τ,(∀ i∈O',i∈Q∨σ.get i=none)→p∉O'→aZ N (m.step C who A).2.2 τ→B5 N q O' (m.step C who A).2.1 τ→τ.get p=some ⟨(({ c with x6:=.pointer (some ⟨q,0,none⟩) }:Cr).l6 (m.step C who A).1 (m.step C who A).2.1.a.out).l,true⟩ →
   aQ (p::(Q++N.l)) σ τ→K (.tuple #[]) τ):dU [.pointer (some ⟨p,0,none⟩),N.env C who] K σ:=by
 rcases c with⟨pc,x1,at',pos,w,now,x6,x7,x8,ev,lf,fd,mo,rd,fJ,mz,iE,iK,my,idle⟩
 dsimp only at *
 subst h
 have tz:=xV w
 rw[hA.obj hp]
 simp only[dU,nQ,du,cI,EW hd,lC6 hd,aF,bc,bN,Nat.reduceAdd,Int.reduceEq]
 rw[←hA.obj hp]
 refine Hm hN hC hA I_ xG hn hf fun O' τ hO dL K6 kp=>?_
 have U7:p∉O':=fun hm=>by
  rcases hO p hm with r|r
  ·exact hpQ r
  ·rw[hp]at r;cases r
 have gp:=kp.get hp (fun hm=>by rcases List.mem_append.1 hm with r|r;exact hpQ r;exact hd r)
 have kp':aQ (p::(Q++N.l)) σ τ:=kp.mono fun i hi=>List.mem_cons_of_mem _ hi
 have out:∀{b:uc} {v:Value},(∀ τ',aZ N (m.step C who A).2.2 τ'→τ'.get p=some b→B5 N q O' (m.step C who A).2.1 τ'→aQ (p::(Q++N.l)) σ τ'→K v τ')→K v (aD N (m.step C who A).2.2 (τ.set p b)):=fun hh=>
  behind hN hd fun τ' u1 u2 u3=>hh τ' u1 u2 (K6.aL u3 fun i hi hm=>by
   rcases List.mem_cons.1 hm with r|r
   ·subst r;exact U7 hi
   ·exact K6.own i hi r) (aQ.trans kp' (u3.mono fun i hi=>by
    rcases List.mem_cons.1 hi with r|r
    ·subst r;exact List.mem_cons_self ..
    ·exact List.mem_cons_of_mem _ (List.mem_append_right _ r)))
 unfold Cr.l6 at hk
 by_cases d:(m.step C who A).1=false
 ·rw[af d]at hk
  simp only[d,aF]
  exact hk O' τ hO U7 dL K6 gp kp'
 ·rw[ae d]at hk
  have d':(m.step C who A).1=true:=by simpa using d
  obtain⟨a,ga,ho,_⟩:=K6.out
  simp only[d',GP,Qq,aF,Nat.reduceAdd]
  rw[dL.obj gp]
  simp only[lC6 hd]
  rw[←dL.obj gp]
  refine Hn ga ?_
  rw[dL.obj gp,ho]
  by_cases o1:(m.step C who A).2.1.a.out=1
  ·rw[af o1]at hk
   simp only[o1,Rx hd,aF,Int.reduceEq]
   rw[IntWalk.i64_in (mo+1) (by omega)]
   simp only[Yr hd,UE hd,cz hw.1 hw.2]
   rw[x_ hd ⟨tz.1,bE⟩ U5]
   exact out fun τ' u1 u2 u3 u4=>hk O' τ' hO U7 u1 u3 u2 u4
  ·rw[ae o1]at hk
   by_cases o2:(m.step C who A).2.1.a.out=2
   ·rw[af o2]at hk
    simp only[o2,UE hd,cz hw.1 hw.2,aF,Int.reduceEq]
    rw[x_ hd ⟨tz.1,bE⟩ U5]
    exact out fun τ' u1 u2 u3 u4=>hk O' τ' hO U7 u1 u3 u2 u4
   ·rw[ae o2]at hk
    simp only[o1,o2,DO hd,aF]
    exact out fun τ' u1 u2 u3 u4=>hk O' τ' hO U7 u1 u3 u2 u4
theorem Gh(hN:N.ok)(hC:C.ok)(hA:aZ N A σ){p q:Nat}{c:Cr}{a:fQ}(hp:σ.get p=some ⟨({ c with x7:=.pointer (some ⟨q,0,none⟩) }:Cr).l,true⟩)(hd:p∉N.l)(hn:C.len≤A.n)
  (hq:σ.get q=some ⟨a.l,true⟩) (lE:q∉N.l) (l9:q≠p) (hf:a.fit C)
  (k1:(a.step C who A).1=false→∀ τ,aZ N (a.step C who A).2.2 τ→τ.get p=some ⟨({ c with x7:=.pointer (some ⟨q,0,none⟩) }:Cr).l,true⟩→τ.get q=some ⟨(a.step C who A).2.1.l,true⟩→aQ (q::p::N.l) σ τ→K (.tuple #[]) τ)
  (k2:(a.step C who A).1=true→∀ τ,aZ N (a.step C who A).2.2 τ→τ.get p=some ⟨({ c with x7:=.pointer none,at':=0,pc:=11 }:Cr).l,true⟩→aQ (q::p::N.l) σ τ→K (.tuple #[]) τ) :
  uU (fun v σ=>K (.tuple #[]) σ) [.pointer (some ⟨p,0,none⟩)] [N.el C who] σ:=by
 rcases c with⟨pc,x1,at',pos,w,now,x6,x7,x8,ev,lf,fd,mo,rd,fJ,mz,iE,iK,my,idle⟩
 dsimp only at *
 rw[hA.obj hp]
 simp only[uU,wE,lC7 hd,aF,bc,bN]
 rw[←hA.obj hp]
 refine WW hN hC hA hq lE hn hf fun τ dL gq kq=>?_
 have gp:=kq.get hp (bX (Ne.symm l9) hd)
 have SP:aQ (q::p::N.l) σ τ:=kq.mono fun i hi=>by
  rcases List.mem_cons.1 hi with r|r
  ·subst r;exact List.mem_cons_self ..
  ·exact List.mem_cons_of_mem _ (List.mem_cons_of_mem _ r)
 cases d:(a.step C who A).1 with
 | false=>
  simp only[aF]
  exact k1 d τ dL gp gq SP
 | true=>
  simp only[aF]
  rw[dL.obj gp]
  simp only[Yn hd,Uj hd,DO hd]
  exact behind hN hd fun τ' u1 u2 u3=>k2 d τ' u1 u2 (aQ.trans SP (u3.mono fun i hi=>List.mem_cons_of_mem _ hi))
theorem LP(hN:N.ok)(hC:C.ok)(hA:aZ N A σ){p q:Nat}{c:Cr}{a:fQ}(hp:σ.get p=some ⟨({ c with x7:=.pointer (some ⟨q,0,none⟩) }:Cr).l,true⟩)(hd:p∉N.l)(h:c.pc=10)(hn:C.len≤A.n)
  (hq:σ.get q=some ⟨a.l,true⟩) (lE:q∉N.l) (l9:q≠p) (hf:a.fit C)
  (k1:(a.step C who A).1=false→∀ τ,aZ N (a.step C who A).2.2 τ→τ.get p=some ⟨({ c with x7:=.pointer (some ⟨q,0,none⟩) }:Cr).l,true⟩→τ.get q=some ⟨(a.step C who A).2.1.l,true⟩→aQ (q::p::N.l) σ τ→K (.tuple #[]) τ)
  (k2:(a.step C who A).1=true→∀ τ,aZ N (a.step C who A).2.2 τ→τ.get p=some ⟨({ c with x7:=.pointer none,at':=0,pc:=11 }:Cr).l,true⟩→aQ (q::p::N.l) σ τ→K (.tuple #[]) τ) :
  dU [.pointer (some ⟨p,0,none⟩),N.env C who] K σ:=by
 rcases c with⟨pc,x1,at',pos,w,now,x6,x7,x8,ev,lf,fd,mo,rd,fJ,mz,iE,iK,my,idle⟩
 dsimp only at *
 subst h
 rw[hA.obj hp]
 simp only[dU,nQ,du,cI,Bk,Gu,EW hd,lC7 hd,aF,bc,bN,Nat.reduceAdd,Int.reduceEq]
 rw[←hA.obj hp]
 exact Gh (c:=⟨10,x1,at',pos,w,now,x6,x7,x8,ev,lf,fd,mo,rd,fJ,mz,iE,iK,my,idle⟩) hN hC hA hp hd hn hq lE l9 hf k1 k2
theorem LO(hN:N.ok)(hC:C.ok)(hA:aZ N A σ){p:Nat}{c:Cr}(hp:σ.get p=some ⟨({ c with x7:=.pointer none }:Cr).l,true⟩)(hd:p∉N.l)(h:c.pc=10)(hn:C.len≤A.n)
  (k1:(fQ.new.step C who A).1=false→∀ q τ,σ.get q=none→q≠p→q∉N.l→aZ N (fQ.new.step C who A).2.2 τ→τ.get p=some ⟨({ c with x7:=.pointer (some ⟨q,0,none⟩) }:Cr).l,true⟩→τ.get q=some ⟨(fQ.new.step C who A).2.1.l,true⟩→aQ (p::N.l) σ τ→K (.tuple #[]) τ) :
  dU [.pointer (some ⟨p,0,none⟩),N.env C who] K σ:=by
 rcases c with⟨pc,x1,at',pos,w,now,x6,x7,x8,ev,lf,fd,mo,rd,fJ,mz,iE,iK,my,idle⟩
 dsimp only at *
 subst h
 have b:∀ K:Value→Prop,xF (aM [(0,1),(1,1),(2,1),(3,1)] [.int .i64 0,.int .u64 0,.int .i64 0,.bool false] []) [] K=K (.agg fQ.new.l.toArray):=fun K=>nr rfl
 rw[hA.obj hp]
 simp only[dU,nQ,du,cI,Bk,Gu,EW hd,lC7 hd,b,aF,bc,bN,Nat.reduceAdd,Int.reduceEq]
 rw[←hA.obj hp]
 refine gA (cs:=fQ.new.l) rfl fun q τ hq gq x=>?_
 have m_:=hA.ext x
 have Kl:=hA.new hq
 have l9:q≠p:=by rintro rfl;rw[hp]at hq;cases hq
 rw[m_.obj (x _ _ hp)]
 simp only[Ym hd]
 obtain⟨nG,S7,KZ,_⟩:=mid (σ:=τ) (A:=A) hN hd (b:=⟨(⟨10,x1,at',pos,w,now,x6,.pointer (some ⟨q,0,none⟩),x8,ev,lf,fd,mo,rd,fJ,mz,iE,iK,my,idle⟩:Cr).l,true⟩)
 have kk:∀{τ':Mem},aQ (q::p::N.l) (aD N A (τ.set p ⟨(⟨10,x1,at',pos,w,now,x6,.pointer (some ⟨q,0,none⟩),x8,ev,lf,fd,mo,rd,fJ,mz,iE,iK,my,idle⟩:Cr).l,true⟩)) τ'→aQ (p::N.l) σ τ':=fun k i b hi hn=>by
  have:i≠q:=by rintro rfl;rw[hq]at hi;cases hi
  exact k i b (KZ i b (x i b hi) hn) (bX this hn)
 refine Gh (c:=⟨10,x1,at',pos,w,now,x6,x7,x8,ev,lf,fd,mo,rd,fJ,mz,iE,iK,my,idle⟩) hN hC nG S7 hd hn (KZ.get gq (bX l9 Kl)) Kl l9 (fQ.Bv hC) (fun d τ' u1 u2 u3 u4=>k1 d q τ' hq l9 Kl u1 u2 u3 (kk u4)) fun d=>?_
 exact absurd d (by unfold fQ.step;rw[af (show fQ.new.pc=0 from rfl)];exact Bool.false_ne_true)
def Cr.settled(C:Cf)(c:Cr)(f:Bool):Cr:=
 let E8:=(if f=true then c.fd+1 else c.fd)
 if C.C≤c.at'+1 then⟨0,c.x1,0,c.pos,c.w,c.now,c.x6,c.x7,.pointer none,c.ev,c.lf,E8,c.mo,c.rd+1,c.ev,c.lf,E8,c.mo,c.rd+1,(if c.ev≠c.fJ∨c.mo≠c.iK∨E8≠c.iE then 0 else c.idle+1)⟩
 else⟨c.pc,c.x1,c.at'+1,c.pos,c.w,c.now,c.x6,c.x7,.pointer none,c.ev,c.lf,E8,c.mo,c.rd,c.fJ,c.mz,c.iE,c.iK,c.my,c.idle⟩
structure Cr.jV(c:Cr):Prop where
 fd:0≤c.fd∧c.fd≤1000000000
 rd:0≤c.rd∧c.rd≤1000000000
 idle:0≤c.idle∧c.idle≤1000000000
theorem Gf(hN:N.ok)(hA:aZ N A σ){p:Nat}{c:Cr}(f:Bool)(hp:σ.get p=some ⟨({ c with fd:=if f=true then c.fd+1 else c.fd }:Cr).l,true⟩)(hd:p∉N.l)(h:c.pc=11)(h0:0≤c.at'∧c.at'<C.C)(hc:c.jV)(ma:C.C≤64)
  (hk:∀ τ,aZ N A τ→τ.get p=some ⟨(c.settled C f).l,true⟩→aQ (p::N.l) σ τ→K (.tuple #[]) τ) :
  uS (fun v σ=>K (.tuple #[]) σ) [.pointer (some ⟨p,0,none⟩)] [N.el C who] σ:=by
 rcases c with⟨pc,x1,at',pos,w,now,x6,x7,x8,ev,lf,fd,mo,rd,fJ,mz,iE,iK,my,idle⟩
 obtain⟨h1,h2,h3⟩:=hc
 unfold Cr.settled at hk
 dsimp only at *
 subst h
 generalize DS:(if f=true then fd+1 else fd)=E8 at *
 rw[hA.obj hp]
 simp only[uS,wB,Yl hd,EV hd,Uj hd,aF,bc,bN,Nat.reduceAdd]
 rw[IntWalk.i64_in (at'+1) (by omega)]
 by_cases e:C.C≤at'+1
 rotate_left
 ·rw[ae e]at hk
  simp only[e,aF]
  exact behind hN hd hk
 rw[af e]at hk
 simp only[e,DO hd,aaC hd,aF]
 rw[IntWalk.i64_in (rd+1) (by omega)]
 simp only[Yq hd,aaz hd,aF]
 rw[IntWalk.i64_in (idle+1) (by omega)]
 simp only[Ul hd,lC9 hd,aaB hd,aF]
 have j4:∀ MG,MG=(if ev≠fJ∨mo≠iK∨E8≠iE then 0 else idle+1)→rf (fun v σ=>K (.tuple #[]) σ) [.pointer (some ⟨p,0,none⟩)] [] (aD N A (σ.set p ⟨(⟨0,x1,0,pos,w,now,x6,x7,.pointer none,ev,lf,E8,mo,rd+1,fJ,mz,iE,iK,my,MG⟩:Cr).l,true⟩)):=by
  rintro _ rfl
  simp only[rf,wy,aay hd,Um hd,aF]
  exact behind hN hd hk
 have j5:∀ b:Bool,(b=true ↔ ev≠fJ∨mo≠iK∨E8≠iE)→ra (fun v σ=>K (.tuple #[]) σ) (rf fun v σ=>K (.tuple #[]) σ) [.pointer (some ⟨p,0,none⟩),.bool b] [] (aD N A (σ.set p ⟨(⟨0,x1,0,pos,w,now,x6,x7,.pointer none,ev,lf,E8,mo,rd+1,fJ,mz,iE,iK,my,idle+1⟩:Cr).l,true⟩)):=by
  intro b hb
  cases b with
  | true=>
   simp only[ra,q_,Ul hd,aF]
   exact j4 0 (by rw[af (hb.1 rfl)])
  | false=>
   simp only[ra,q_,aF]
   exact j4 (idle+1) (by rw[ae fun q=>by cases hb.2 q])
 by_cases e1:ev=fJ
 rotate_left
 ·simp only[e1,aF];exact j5 true ⟨fun _=>.inl e1,fun _=>rfl⟩
 subst e1
 by_cases e2:mo=iK
 rotate_left
 ·simp only[Rx hd,UF hd,e2,aF];exact j5 true ⟨fun _=>.inr (.inl e2),fun _=>rfl⟩
 subst e2
 simp only[Rx hd,UF hd,UG hd,aaA hd,aF]
 by_cases e3:E8=iE
 ·subst e3;simp only[aF];exact j5 false ⟨fun q=>(by cases q),fun q=>by rcases q with q|q|q<;>exact absurd rfl q⟩
 ·simp only[e3,aF];exact j5 true ⟨fun _=>.inr (.inr e3),fun _=>rfl⟩
theorem Gg(hN:N.ok)(hC:C.ok)(hA:aZ N A σ){p q:Nat}{c:Cr}{a:dR}(hp:σ.get p=some ⟨({ c with x8:=.pointer (some ⟨q,0,none⟩) }:Cr).l,true⟩)(hd:p∉N.l)(h:c.pc=11)(hn:C.len≤A.n)(pC:(A.n:Int)≤200000000)(xG:∀ i,0≤A.w i∧A.w i<18446744073709551616)
  (hq:σ.get q=some ⟨a.l,true⟩) (lE:q∉N.l) (l9:q≠p) (hf:a.fit C A) (h0:0≤c.at'∧c.at'<C.C) (hc:c.jV)
  (k1:(a.step C who A).1=false→∀ τ,aZ N (a.step C who A).2.2 τ→τ.get p=some ⟨({ c with x8:=.pointer (some ⟨q,0,none⟩) }:Cr).l,true⟩→τ.get q=some ⟨(a.step C who A).2.1.l,true⟩→aQ (q::p::N.l) σ τ→K (.tuple #[]) τ)
  (k2:(a.step C who A).1=true→∀ τ,aZ N (a.step C who A).2.2 τ→τ.get p=some ⟨(c.settled C (a.step C who A).2.1.iw).l,true⟩→aQ (q::p::N.l) σ τ→K (.tuple #[]) τ) :
  uT (fun v σ=>K (.tuple #[]) σ) [.pointer (some ⟨p,0,none⟩)] [N.el C who] σ:=by
 rcases c with⟨pc,x1,at',pos,w,now,x6,x7,x8,ev,lf,fd,mo,rd,fJ,mz,iE,iK,my,idle⟩
 dsimp only at *
 subst h
 have tz:=hC.C
 have DS:=hc.fd
 dsimp only at DS
 rw[hA.obj hp]
 simp only[uT,wD,Xr hd,aF,bc,bN,Nat.reduceAdd]
 rw[←hA.obj hp]
 refine Wf hN hC hA hq lE hn pC xG hf fun τ dL gq kq=>?_
 have gp:=kq.get hp (bX (Ne.symm l9) hd)
 have SP:aQ (q::p::N.l) σ τ:=kq.mono fun i hi=>by
  rcases List.mem_cons.1 hi with r|r
  ·subst r;exact List.mem_cons_self ..
  ·exact List.mem_cons_of_mem _ (List.mem_cons_of_mem _ r)
 cases d:(a.step C who A).1 with
 | false=>
  simp only[aF]
  exact k1 d τ dL gp gq SP
 | true=>
  have SQ:=k2 d
  simp only[Bool.not_true,aF]
  rw[dL.obj gp]
  simp only[Xr hd]
  rw[←dL.obj gp]
  refine LJ gq ?_
  have C7:Cr.jV ⟨11,x1,at',pos,w,now,x6,x7,.pointer (some ⟨q,0,none⟩),ev,lf,fd,mo,rd,fJ,mz,iE,iK,my,idle⟩:=⟨hc.fd,hc.rd,hc.idle⟩
  cases vk:(a.step C who A).2.1.iw with
  | true=>
   rw[vk]at SQ
   rw[dL.obj gp]
   simp only[UG hd,aF]
   rw[IntWalk.i64_in (fd+1) (by omega)]
   simp only[Ys hd]
   obtain⟨nG,S7,KZ,_⟩:=mid (σ:=τ) (A:=(a.step C who A).2.2) hN hd (b:=⟨(⟨11,x1,at',pos,w,now,x6,x7,.pointer (some ⟨q,0,none⟩),ev,lf,fd+1,mo,rd,fJ,mz,iE,iK,my,idle⟩:Cr).l,true⟩)
   exact Gf (c:=⟨11,x1,at',pos,w,now,x6,x7,.pointer (some ⟨q,0,none⟩),ev,lf,fd,mo,rd,fJ,mz,iE,iK,my,idle⟩) hN nG true S7 hd rfl h0 C7 tz.2 fun τ' u1 u2 u3=>SQ τ' u1 u2 (aQ.trans SP (aQ.trans (KZ.mono fun i hi=>List.mem_cons_of_mem _ hi) (u3.mono fun i hi=>List.mem_cons_of_mem _ hi)))
  | false=>
   rw[vk]at SQ
   simp only[aF]
   exact Gf (c:=⟨11,x1,at',pos,w,now,x6,x7,.pointer (some ⟨q,0,none⟩),ev,lf,fd,mo,rd,fJ,mz,iE,iK,my,idle⟩) hN dL false gp hd rfl h0 C7 tz.2 fun τ' u1 u2 u3=>SQ τ' u1 u2 (aQ.trans SP (u3.mono fun i hi=>List.mem_cons_of_mem _ hi))
theorem LN(hN:N.ok)(hC:C.ok)(hA:aZ N A σ){p q:Nat}{c:Cr}{a:dR}(hp:σ.get p=some ⟨({ c with x8:=.pointer (some ⟨q,0,none⟩) }:Cr).l,true⟩)(hd:p∉N.l)(h:c.pc=11)(hn:C.len≤A.n)(pC:(A.n:Int)≤200000000)(xG:∀ i,0≤A.w i∧A.w i<18446744073709551616)
  (hq:σ.get q=some ⟨a.l,true⟩) (lE:q∉N.l) (l9:q≠p) (hf:a.fit C A) (h0:0≤c.at'∧c.at'<C.C) (hc:c.jV)
  (k1:(a.step C who A).1=false→∀ τ,aZ N (a.step C who A).2.2 τ→τ.get p=some ⟨({ c with x8:=.pointer (some ⟨q,0,none⟩) }:Cr).l,true⟩→τ.get q=some ⟨(a.step C who A).2.1.l,true⟩→aQ (q::p::N.l) σ τ→K (.tuple #[]) τ)
  (k2:(a.step C who A).1=true→∀ τ,aZ N (a.step C who A).2.2 τ→τ.get p=some ⟨(c.settled C (a.step C who A).2.1.iw).l,true⟩→aQ (q::p::N.l) σ τ→K (.tuple #[]) τ) :
  dU [.pointer (some ⟨p,0,none⟩),N.env C who] K σ:=by
 rcases c with⟨pc,x1,at',pos,w,now,x6,x7,x8,ev,lf,fd,mo,rd,fJ,mz,iE,iK,my,idle⟩
 dsimp only at *
 subst h
 rw[hA.obj hp]
 simp only[dU,nQ,du,cI,Bk,Gu,EW hd,Xr hd,aF,bc,bN,Nat.reduceAdd,Int.reduceEq]
 rw[←hA.obj hp]
 exact Gg (c:=⟨11,x1,at',pos,w,now,x6,x7,x8,ev,lf,fd,mo,rd,fJ,mz,iE,iK,my,idle⟩) hN hC hA hp hd rfl hn pC xG hq lE l9 hf h0 hc k1 k2
theorem LM(hN:N.ok)(hC:C.ok)(hA:aZ N A σ){p:Nat}{c:Cr}(hp:σ.get p=some ⟨({ c with x8:=.pointer none }:Cr).l,true⟩)(hd:p∉N.l)(h:c.pc=11)(hn:C.len≤A.n)(pC:(A.n:Int)≤200000000)(xG:∀ i,0≤A.w i∧A.w i<18446744073709551616)
  (h0:0≤c.at'∧c.at'<C.C) (hc:c.jV)
  (k1:((dR.new c.at').step C who A).1=false→∀ q τ,σ.get q=none→q≠p→q∉N.l→aZ N ((dR.new c.at').step C who A).2.2 τ→τ.get p=some ⟨({ c with x8:=.pointer (some ⟨q,0,none⟩) }:Cr).l,true⟩→τ.get q=some ⟨((dR.new c.at').step C who A).2.1.l,true⟩→aQ (p::N.l) σ τ→K (.tuple #[]) τ)
  (k2:((dR.new c.at').step C who A).1=true→∀ τ,aZ N ((dR.new c.at').step C who A).2.2 τ→τ.get p=some ⟨(c.settled C ((dR.new c.at').step C who A).2.1.iw).l,true⟩→aQ (p::N.l) σ τ→K (.tuple #[]) τ) :
  dU [.pointer (some ⟨p,0,none⟩),N.env C who] K σ:=by
 rcases c with⟨pc,x1,at',pos,w,now,x6,x7,x8,ev,lf,fd,mo,rd,fJ,mz,iE,iK,my,idle⟩
 dsimp only at *
 subst h
 rw[hA.obj hp]
 simp only[dU,nQ,du,cI,Bk,Gu,EW hd,Xr hd,EV hd,aF,bc,bN,Nat.reduceAdd,Int.reduceEq]
 rw[←hA.obj hp]
 refine JP fun q τ hq gq x=>?_
 have m_:=hA.ext x
 have Kl:=hA.new hq
 have l9:q≠p:=by rintro rfl;rw[hp]at hq;cases hq
 rw[m_.obj (x _ _ hp)]
 simp only[Yk hd]
 obtain⟨nG,S7,KZ,_⟩:=mid (σ:=τ) (A:=A) hN hd (b:=⟨(⟨11,x1,at',pos,w,now,x6,x7,.pointer (some ⟨q,0,none⟩),ev,lf,fd,mo,rd,fJ,mz,iE,iK,my,idle⟩:Cr).l,true⟩)
 have kk:∀{τ':Mem},aQ (q::p::N.l) (aD N A (τ.set p ⟨(⟨11,x1,at',pos,w,now,x6,x7,.pointer (some ⟨q,0,none⟩),ev,lf,fd,mo,rd,fJ,mz,iE,iK,my,idle⟩:Cr).l,true⟩)) τ'→aQ (p::N.l) σ τ':=fun k i b hi hn=>by
  have:i≠q:=by rintro rfl;rw[hq]at hi;cases hi
  exact k i b (KZ i b (x i b hi) hn) (bX this hn)
 have XF:(dR.new at').fit C A:=⟨by show(0:Int)≤0∧(0:Int)≤5;decide,h0,by show(0:Int)≤0∧(0:Int)<18446744073709551616;decide,fun e=>by cases e⟩
 exact Gg (c:=⟨11,x1,at',pos,w,now,x6,x7,x8,ev,lf,fd,mo,rd,fJ,mz,iE,iK,my,idle⟩) hN hC nG S7 hd rfl hn pC xG (KZ.get gq (bX l9 Kl)) Kl l9 XF h0 hc (fun d τ' u1 u2 u3 u4=>k1 d q τ' hq l9 Kl u1 u2 u3 (kk u4)) fun d τ' u1 u2 u3=>k2 d τ' u1 u2 (kk u3)
end Go.Fl
namespace Go.Fl
open Go
variable{N:Nm}{A B:Ar}{σ:Mem}{K:Value→Mem→Prop}{C:Cf}{who:Int}
structure Co where
 r:Cr
 seen:List Sn
 a:Option fQ
 s:Option dR
 m:Mv
def Cr.px(c:Cr)(x1 x6 x7 x8:Value):Cr:={ c with x1:=x1,x6:=x6,x7:=x7,x8:=x8 }
theorem xt{c:Cr}{x1 x6 x7 x8:Value}{f:Bool}:(c.px x1 x6 x7 x8).settled C f=(c.settled C f).px x1 x6 x7 (.pointer none):=by
 unfold Cr.settled Cr.px;dsimp only;split<;>rfl
theorem IH{c:Cr}{x1 x6 x7 x8:Value}{d:Bool}{o:Int}:(c.px x1 x6 x7 x8).l6 d o=(c.l6 d o).px x1 x6 x7 x8:=by
 unfold Cr.l6;(repeat' split)<;>rfl
def Cr.new:Cr:=⟨0,.pointer none,0,0,0,0,.pointer none,.pointer none,.pointer none,0,0,0,0,0,0,0,0,0,0,0⟩
def Co.new:Co:=⟨Cr.new,[],none,none,Mv.new 0 0 0 0 0 false⟩
def oq(L:List Sn)(i:Nat)(v:Int):List Sn:=match L[i]? with
 | none=>L
 | some x=>L.set i { x with live:=v }
theorem oR{L:List Sn}{i:Nat}{v:Int}:(oq L i v).length=L.length:=by unfold oq;split<;>simp
def vq(L:List Sn)(i:Nat):Int:=match L[i]? with
 | none=>0
 | some x=>aR x.st x.cl x.us x.sp
def Co.step(C:Cf)(who:Int)(A:Ar)(r:Int)(c:Co):Co×Ar:=
 if c.r.pc=0 then({ c with seen:=(if c.r.at'=0 then []else c.seen)++[CD (A.w (C.chunk c.r.at'))],r:={ c.r with pc:=1 } },(A.by who).load (C.chunk c.r.at'))
 else if c.r.pc=1 then({ c with seen:=oq c.seen c.r.at'.toNat (IntKind.i64.wrap (A.w (C.chunk c.r.at'+1))),r:={ c.r with at':=if C.C≤c.r.at'+1 then 0 else c.r.at'+1,pc:=if C.C≤c.r.at'+1 then 2 else 0 } },(A.by who).load (C.chunk c.r.at'+1))
 else if c.r.pc=2 then
  if c.r.at'+1<4 then({ c with seen:=m8 c.seen (A.w (2+c.r.at')),r:={ c.r with at':=c.r.at'+1 } },(A.by who).load (2+c.r.at'))
  else if r<0 then({ c with seen:=m8 c.seen (A.w (2+c.r.at')),r:={ c.r with at' := -1,pc:=10 } },(A.by who).load (2+c.r.at'))
  else({ c with seen:=m8 c.seen (A.w (2+c.r.at')),r:={ c.r with at':=r,pc:=3,w:=vq (m8 c.seen (A.w (2+c.r.at'))) r.toNat } },(A.by who).load (2+c.r.at'))
 else if c.r.pc=3 then({ c with r:={ c.r with pos:=0,pc:=if A.w (C.chunk c.r.at')=c.r.w then 4 else 10,w:=if A.w (C.chunk c.r.at')=c.r.w then jX c.r.w 2 else c.r.w } },(A.by who).dI (C.chunk c.r.at') c.r.w (jX c.r.w 2))
 else if c.r.pc=4 then
  if nF (A.w (C.base c.r.at'+c.r.pos))=3 then({ c with r:=c.r.next (bL c.r.w) (bD c.r.w) },(A.by who).load (C.base c.r.at'+c.r.pos))
  else if nF (A.w (C.base c.r.at'+c.r.pos))=2 then({ c with r:={ c.r with pc:=5 },m:=Mv.new (C.base c.r.at'+c.r.pos) (nF (A.w (C.base c.r.at'+c.r.pos))) (gH (A.w (C.base c.r.at'+c.r.pos))) (tx (A.w (C.base c.r.at'+c.r.pos))) (E3 (A.w (C.base c.r.at'+c.r.pos))) (sy (A.w (C.base c.r.at'+c.r.pos))) },(A.by who).load (C.base c.r.at'+c.r.pos))
  else({ c with r:={ c.r with pc:=9 } },(A.by who).load (C.base c.r.at'+c.r.pos))
 else if c.r.pc=5 then({ c with r:=c.r.l6 (c.m.step C who A).1 (c.m.step C who A).2.1.a.out,m:=(c.m.step C who A).2.1 },(c.m.step C who A).2.2)
 else if c.r.pc=6 then({ c with r:={ c.r with now:=A.w 0,pc:=7 } },(A.by who).load 0)
 else if c.r.pc=7 then({ c with r:={ c.r with pc:=8 } },(A.by who).store (C.chunk c.r.at'+2) c.r.now)
 else if c.r.pc=8 then({ c with r:={ c.r with ev:=c.r.ev+1,pc:=10 } },(A.by who).store (C.chunk c.r.at') (jX c.r.w 3))
 else if c.r.pc=9 then({ c with r:={ c.r with lf:=c.r.lf+1,pc:=10 } },(A.by who).store (C.chunk c.r.at') (jX c.r.w 1))
 else if c.r.pc=10 then
  if((c.a.getD fQ.new).step C who A).1=true then({ c with a:=none,r:={ c.r with at':=0,pc:=11 } },((c.a.getD fQ.new).step C who A).2.2)
  else({ c with a:=some ((c.a.getD fQ.new).step C who A).2.1 },((c.a.getD fQ.new).step C who A).2.2)
 else
  if((c.s.getD (dR.new c.r.at')).step C who A).1=true then({ c with s:=none,r:=c.r.settled C ((c.s.getD (dR.new c.r.at')).step C who A).2.1.iw },((c.s.getD (dR.new c.r.at')).step C who A).2.2)
  else({ c with s:=some ((c.s.getD (dR.new c.r.at')).step C who A).2.1 },((c.s.getD (dR.new c.r.at')).step C who A).2.2)
def Co.may(C:Cf)(A:Ar)(c:Co)(r:Int):Prop:=(c.r.pc=2→¬ c.r.at'+1<4→FA C (m8 c.seen (A.w (2+c.r.at'))) r ∧ -1≤r∧r<C.C)∧(c.r.pc=2→¬ c.r.at'+1<4→Gn C (m8 c.seen (A.w (2+c.r.at'))) r)
structure Co.fit(C:Cf)(A:Ar)(c:Co):Prop where
 pc:0≤c.r.pc∧c.r.pc≤11
 at':c.r.pc≠10→0≤c.r.at'∧(c.r.pc=2→c.r.at'<4)∧(c.r.pc≠2→c.r.at'<C.C)
 sn:c.r.pc≤2→¬(c.r.pc=0∧c.r.at'=0)→(c.seen.length:Int)=if c.r.pc=0 then c.r.at' else if c.r.pc=1 then c.r.at'+1 else C.C
 op:c.r.pc=2→0≤A.w (2+c.r.at')∧A.w (2+c.r.at')≤C.C
 w:3≤c.r.pc→c.r.pc≤9→0≤c.r.w∧c.r.w<18446744073709551616
 cl:4≤c.r.pc→c.r.pc≤5→bL c.r.w≤3
 po:4≤c.r.pc→c.r.pc≤5→0≤c.r.pos∧C.base c.r.at'+c.r.pos<A.n
 m:c.r.pc=5→c.m.fit C A
 a:∀ a,c.a=some a→c.r.pc=10∧a.fit C
 s:∀ s,c.s=some s→c.r.pc=11∧s.fit C A
 jV:c.r.jV
 cev:0≤c.r.ev∧c.r.ev≤1000000000
 clf:0≤c.r.lf∧c.r.lf≤1000000000
 cmo:0≤c.r.mo∧c.r.mo≤1000000000
structure COa(N:Nm)(p:Nat)(O:List Nat)(c:Co)(τ:Mem)(x1 x6 x7 x8:Value):Prop where
 sn:c.r.pc≤2→¬(c.r.pc=0∧c.r.at'=0)→∃ q,x1=.slice (some ⟨q,0,none⟩) c.seen.length 6∧q∈O∧q≠p∧τ.get q=some ⟨kK c.seen,true⟩
 m:c.r.pc=5→∃ q Q,x6=.pointer (some ⟨q,0,none⟩)∧B5 N q Q c.m τ∧p∉Q∧∀ i∈Q,i∈O
 a0:c.a=none→x7=.pointer none
 a1:∀ a,c.a=some a→∃ q,x7=.pointer (some ⟨q,0,none⟩)∧q∈O∧q≠p∧τ.get q=some ⟨a.l,true⟩
 s0:c.s=none→x8=.pointer none
 s1:∀ s,c.s=some s→∃ q,x8=.pointer (some ⟨q,0,none⟩)∧q∈O∧q≠p∧τ.get q=some ⟨s.l,true⟩
structure lM(N:Nm)(p:Nat)(O:List Nat)(c:Co)(τ:Mem):Prop where
 obj:∃ x1 x6 x7 x8,τ.get p=some ⟨(c.r.px x1 x6 x7 x8).l,true⟩∧COa N p O c τ x1 x6 x7 x8
 own:∀ i∈O,i∉N.l
 p:p∈O
theorem lM.aL{p:Nat}{O L:List Nat}{c:Co}{τ:Mem}(h:lM N p O c σ)(x:aQ L σ τ)(hL:∀ i∈O,i∉L):lM N p O c τ:=by
 obtain⟨⟨x1,x6,x7,x8,h1,h2,h3,h4,h5,h6,h7⟩,own,pO⟩:=h
 refine⟨⟨x1,x6,x7,x8,x.get h1 (hL p pO),fun a b=>?_,fun e=>?_,h4,fun a e=>?_,h6,fun a e=>?_⟩,own,pO⟩
 ·obtain⟨q,q1,q2,q3,q4⟩:=h2 a b;exact⟨q,q1,q2,q3,x.get q4 (hL q q2)⟩
 ·obtain⟨q,Q,q1,q2,q3,q4⟩:=h3 e;exact⟨q,Q,q1,q2.aL x fun i hi=>hL i (q4 i hi),q3,q4⟩
 ·obtain⟨q,q1,q2,q3,q4⟩:=h5 a e;exact⟨q,q1,q2,q3,x.get q4 (hL q q2)⟩
 ·obtain⟨q,q1,q2,q3,q4⟩:=h7 a e;exact⟨q,q1,q2,q3,x.get q4 (hL q q2)⟩
theorem lM.ext{p:Nat}{O:List Nat}{c:Co}{τ:Mem}(h:lM N p O c σ)(x:Ext σ τ):lM N p O c τ:=h.aL (L:=[]) x.aL fun _ _=>by simp
theorem lM.bare{p:Nat}{O:List Nat}{c:Co}{τ:Mem}{x1 x6:Value}(h1:τ.get p=some ⟨(c.r.px x1 x6 (.pointer none) (.pointer none)).l,true⟩)(oT:(3≤c.r.pc∧c.r.pc≠5)∨c.r.pc=0∧c.r.at'=0)(ha:c.a=none)(hs:c.s=none)(own:∀ i∈O,i∉N.l)(pO:p∈O):lM N p O c τ:=
 ⟨⟨x1,x6,_,_,h1,fun a b=>by omega,fun e=>by omega,fun _=>rfl,fun a e=>(by rw[ha]at e;cases e),fun _=>rfl,fun a e=>(by rw[hs]at e;cases e)⟩,own,pO⟩
theorem zD(hN:N.ok)(hC:C.ok)(hA:aZ N A σ){p:Nat}{O:List Nat}{c:Co}(hO:lM N p O c σ)(hn:C.len≤A.n)(pC:(A.n:Int)≤200000000)(xG:∀ i,0≤A.w i∧A.w i<18446744073709551616)(hf:c.fit C A)
  (hk:∀ r O' τ,c.may C A r→(∀ i∈O',i∈O∨σ.get i=none)→aZ N (c.step C who A r).2 τ→lM N p O' (c.step C who A r).1 τ→aQ (O++N.l) σ τ→K (.tuple #[]) τ):dU [.pointer (some ⟨p,0,none⟩),N.env C who] K σ:=by
 obtain⟨⟨x1,x6,x7,x8,hp,hX⟩,own,pO⟩:=hO
 have hd:=own p pO
 have ma:=hC.C
 have k1:∀{τ:Mem},aQ (p::N.l) σ τ→aQ (O++N.l) σ τ:=fun k=>k.mono fun i hi=>by
  rcases List.mem_cons.1 hi with rfl|hi
  ·exact List.mem_append_left _ pO
  ·exact List.mem_append_right _ hi
 have k2:∀{τ:Mem} {q:Nat},q∈O→aQ (q::p::N.l) σ τ→aQ (O++N.l) σ τ:=fun hq k=>k.mono fun i hi=>by
  rcases List.mem_cons.1 hi with rfl|hi
  ·exact List.mem_append_left _ hq
  ·rcases List.mem_cons.1 hi with rfl|hi
   ·exact List.mem_append_left _ pO
   ·exact List.mem_append_right _ hi
 have same:∀ i∈O,i∈O∨σ.get i=none:=fun i hi=>.inl hi
 have cons:∀{q:Nat},σ.get q=none→∀ i∈q::O,i∈O∨σ.get i=none:=fun h i hi=>by rcases List.mem_cons.1 hi with rfl|hi;exact .inr h;exact .inl hi
 have tp:∀{q:Nat},q∉N.l→∀ i∈q::O,i∉N.l:=fun h i hi=>by rcases List.mem_cons.1 hi with rfl|hi;exact h;exact own i hi
 have oT:=hf.pc
 have an:c.r.pc≠10→c.a=none:=fun h=>by cases e:c.a with|none=>rfl|some a=>exact absurd (hf.a a e).1 h
 have sn:c.r.pc≠11→c.s=none:=fun h=>by cases e:c.s with|none=>rfl|some a=>exact absurd (hf.s a e).1 h
 have mQ:c.r.pc≠2→c.may C A 0:=fun h=>⟨fun e=>absurd e h,fun e=>absurd e h⟩
 unfold Co.step at hk
 by_cases c0:c.r.pc=0
 ·simp only[af c0]at hk
  have ea:=an (by omega);have es:=sn (by omega)
  have e7:=hX.a0 ea;have e8:=hX.s0 es;subst e7;subst e8
  have ha:=hf.at' (by omega)
  by_cases z:c.r.at'=0
  ·refine Si hN hC hA (c:=c.r.px x1 x6 (.pointer none) (.pointer none)) hp hd c0 hn z xG fun q τ hq qp qN u1 u2 u3 u4=>?_
   simp only[af z]at hk
   exact hk 0 (q::O) τ (mQ (by omega)) (cons hq) u1 ⟨⟨.slice (some ⟨q,0,none⟩) 1 6,x6,_,_,u2,fun _ _=>⟨q,rfl,List.mem_cons_self ..,qp,u3⟩,fun e=>(by cases e),fun _=>rfl,fun a e=>(by rw[show c.a=some a from e]at ea;cases ea),fun _=>rfl,fun a e=>(by rw[show c.s=some a from e]at es;cases es)⟩,tp qN,List.mem_cons_of_mem _ pO⟩ (k1 u4)
  ·obtain⟨q,rfl,qO,qp,gq⟩:=hX.sn (by omega) (by omega)
   have hl:=hf.sn (by omega) (by omega)
   rw[af c0]at hl
   refine Sh hN hC hA (c:=c.r.px (.slice (some ⟨q,0,none⟩) c.seen.length 6) x6 (.pointer none) (.pointer none)) (L:=c.seen) hp hd c0 hn (by show 0<c.r.at'∧c.r.at'<C.C;omega) xG gq (own q qO) qp (by omega) fun q' τ yo qp' qN' u1 u2 u3 u4=>?_
   simp only[ae z]at hk
   exact hk 0 (q'::O) τ (mQ (by omega)) (cons yo) u1 ⟨⟨.slice (some ⟨q',0,none⟩) (c.seen.length+1) 6,x6,_,_,u2,fun _ _=>⟨q',by rw[List.length_append];rfl,List.mem_cons_self ..,qp',u3⟩,fun e=>(by cases e),fun _=>rfl,fun a e=>(by rw[show c.a=some a from e]at ea;cases ea),fun _=>rfl,fun a e=>(by rw[show c.s=some a from e]at es;cases es)⟩,tp qN',List.mem_cons_of_mem _ pO⟩ (k2 qO u4)
 by_cases c1:c.r.pc=1
 ·simp only[ae c0,af c1]at hk
  have ea:=an (by omega);have es:=sn (by omega)
  have e7:=hX.a0 ea;have e8:=hX.s0 es;subst e7;subst e8
  have ha:=hf.at' (by omega)
  obtain⟨q,rfl,qO,qp,gq⟩:=hX.sn (by omega) (by omega)
  have hl:=hf.sn (by omega) (by omega)
  rw[ae c0,af c1]at hl
  obtain⟨x,hx⟩:∃ x,c.seen[c.r.at'.toNat]?=some x:=⟨_,List.getElem?_eq_getElem (by omega)⟩
  have el:oq c.seen c.r.at'.toNat (IntKind.i64.wrap (A.w (C.chunk c.r.at'+1)))=c.seen.set c.r.at'.toNat { x with live:=IntKind.i64.wrap (A.w (C.chunk c.r.at'+1)) }:=by unfold oq;rw[hx]
  refine WK hN hC hA (c:=c.r.px (.slice (some ⟨q,0,none⟩) c.seen.length 6) x6 (.pointer none) (.pointer none)) (L:=c.seen) (x:=x) hp hd c1 hn (by show 0≤c.r.at'∧c.r.at'<C.C;omega) gq (own q qO) qp hx fun τ u1 u2 u3 u4=>?_
  exact hk 0 O τ (mQ (by omega)) same u1 ⟨⟨.slice (some ⟨q,0,none⟩) c.seen.length 6,x6,_,_,u2,fun _ _=>⟨q,by rw[oR],qO,qp,by rw[el];exact u3⟩,fun e=>(by dsimp only at e;split at e<;>cases e),fun _=>rfl,fun a e=>(by rw[show c.a=some a from e]at ea;cases ea),fun _=>rfl,fun a e=>(by rw[show c.s=some a from e]at es;cases es)⟩,own,pO⟩ (k2 qO u4)
 by_cases c2:c.r.pc=2
 ·simp only[ae c0,ae c1,af c2]at hk
  have ea:=an (by omega);have es:=sn (by omega)
  have e7:=hX.a0 ea;have e8:=hX.s0 es;subst e7;subst e8
  have ha:=hf.at' (by omega)
  obtain⟨q,rfl,qO,qp,gq⟩:=hX.sn (by omega) (by omega)
  have hl:=hf.sn (by omega) (by omega)
  rw[ae c0,ae c1]at hl
  refine WJ hN hC hA (c:=c.r.px (.slice (some ⟨q,0,none⟩) c.seen.length 6) x6 (.pointer none) (.pointer none)) (L:=c.seen) hp hd c2 hn (by show 0≤c.r.at'∧c.r.at'<4;omega) gq (own q qO) qp hl (hf.op c2) (fun d τ u1 u2 u3 u4=>?_) (fun d hr τ u1 u2 u3=>?_) (fun d r x r0 r1 hx hm hle τ u1 u2 u3=>?_)
  ·have d':c.r.at'+1<4:=d
   simp only[af d']at hk
   exact hk 0 O τ ⟨fun _ q=>absurd d' q,fun _ q=>absurd d' q⟩ same u1 ⟨⟨.slice (some ⟨q,0,none⟩) c.seen.length 6,x6,_,_,u2,fun _ _=>⟨q,by rw[vf],qO,qp,u3⟩,fun e=>(by have:c.r.pc=5:=e;omega),fun _=>rfl,fun a e=>(by rw[show c.a=some a from e]at ea;cases ea),fun _=>rfl,fun a e=>(by rw[show c.s=some a from e]at es;cases es)⟩,own,pO⟩ (k2 qO u4)
  ·have d':¬ c.r.at'+1<4:=d
   simp only[ae d']at hk
   have:=hk (-1) O τ ⟨fun _ _=>⟨.inl ⟨rfl,hr⟩,by omega,by omega⟩,fun _ _ e=>absurd e (by decide)⟩ same
   rw[af (show(-1:Int)<0 by decide)]at this
   exact this u1 (lM.bare (x1:=.slice (some ⟨q,0,none⟩) c.seen.length 6) (x6:=x6) u2 (.inl ⟨by show(3:Int)≤10;decide,by show(10:Int)≠5;decide⟩) ea es own pO) (k2 qO u3)
  ·have d':¬ c.r.at'+1<4:=d
   simp only[ae d']at hk
   have:=hk r O τ ⟨fun _ _=>⟨.inr ⟨r0,x,hx,hm⟩,by omega,r1⟩,fun _ _=>hle⟩ same
   rw[ae (show ¬ r<0 by omega)]at this
   have ew:vq (m8 c.seen (A.w (2+c.r.at'))) r.toNat=aR x.st x.cl x.us x.sp:=by unfold vq;rw[show(m8 c.seen (A.w (2+c.r.at')))[r.toNat]?=some x from hx]
   rw[ew]at this
   exact this u1 (lM.bare (x1:=.slice (some ⟨q,0,none⟩) c.seen.length 6) (x6:=x6) u2 (.inl ⟨by show(3:Int)≤3;decide,by show(3:Int)≠5;decide⟩) ea es own pO) (k2 qO u3)
 by_cases c3:c.r.pc=3
 ·simp only[ae c0,ae c1,ae c2,af c3]at hk
  have ea:=an (by omega);have es:=sn (by omega)
  have e7:=hX.a0 ea;have e8:=hX.s0 es;subst e7;subst e8
  have ha:=hf.at' (by omega)
  refine WH hN hC hA (c:=c.r.px x1 x6 (.pointer none) (.pointer none)) hp hd c3 hn (by show 0≤c.r.at'∧c.r.at'<C.C;omega) (hf.w (by omega) (by omega)) fun τ u1 u2 u3=>?_
  refine hk 0 O τ (mQ (by omega)) same u1 (lM.bare (x1:=x1) (x6:=x6) u2 (.inl ?_) ea es own pO) (k1 u3)
  show 3≤(if A.w (C.chunk c.r.at')=c.r.w then(4:Int)else 10)∧(if A.w (C.chunk c.r.at')=c.r.w then(4:Int)else 10)≠5
  split<;>decide
 by_cases c4:c.r.pc=4
 ·simp only[ae c0,ae c1,ae c2,ae c3,af c4]at hk
  have ea:=an (by omega);have es:=sn (by omega)
  have e7:=hX.a0 ea;have e8:=hX.s0 es;subst e7;subst e8
  have ha:=hf.at' (by omega)
  refine WG hN hC hA (c:=c.r.px x1 x6 (.pointer none) (.pointer none)) hp hd c4 hn pC (by show 0≤c.r.at'∧c.r.at'<C.C;omega) (hf.w (by omega) (by omega)) (hf.cl (by omega) (by omega)) (hf.po (by omega) (by omega)) xG (fun d τ u1 u2 u3=>?_) (fun d q τ hq u1 u2 u3 u4=>?_) (fun d d2 τ u1 u2 u3=>?_)
  ·rw[af (show nF (A.w (C.base c.r.at'+c.r.pos))=3 from d)]at hk
   refine hk 0 O τ (mQ (by omega)) same u1 (lM.bare (x1:=x1) (x6:=x6) u2 (.inl ?_) ea es own pO) (k1 u3)
   show 3≤(if bD c.r.w≤c.r.pos+aA (bL c.r.w)then(6:Int)else 4)∧(if bD c.r.w≤c.r.pos+aA (bL c.r.w)then(6:Int)else 4)≠5
   split<;>decide
  ·have d':nF (A.w (C.base c.r.at'+c.r.pos))=2:=d
   rw[ae (show ¬ nF (A.w (C.base c.r.at'+c.r.pos))=3 by omega),af d']at hk
   have qp:q≠p:=by rintro rfl;rw[hp]at hq;cases hq
   exact hk 0 (q::O) τ (mQ (by omega)) (cons hq) u1 ⟨⟨x1,.pointer (some ⟨q,0,none⟩),_,_,u2,fun a b=>absurd (show(5:Int)≤2 from a) (by decide),fun _=>⟨q,[q],rfl,u3,by simp;exact fun e=>qp e.symm,fun i hi=>by rw[List.mem_singleton]at hi;subst hi;exact List.mem_cons_self ..⟩,fun _=>rfl,fun a e=>(by rw[show c.a=some a from e]at ea;cases ea),fun _=>rfl,fun a e=>(by rw[show c.s=some a from e]at es;cases es)⟩,tp (u3.own q (List.mem_singleton.2 rfl)),List.mem_cons_of_mem _ pO⟩ (k1 u4)
  ·rw[ae (show ¬ nF (A.w (C.base c.r.at'+c.r.pos))=3 from d),ae (show ¬ nF (A.w (C.base c.r.at'+c.r.pos))=2 from d2)]at hk
   exact hk 0 O τ (mQ (by omega)) same u1 (lM.bare (x1:=x1) (x6:=x6) u2 (.inl ⟨by show(3:Int)≤9;decide,by show(9:Int)≠5;decide⟩) ea es own pO) (k1 u3)
 by_cases c5:c.r.pc=5
 ·simp only[ae c0,ae c1,ae c2,ae c3,ae c4,af c5]at hk
  have ea:=an (by omega);have es:=sn (by omega)
  have e7:=hX.a0 ea;have e8:=hX.s0 es;subst e7;subst e8
  have ha:=hf.at' (by omega)
  obtain⟨q,Q,rfl,q2,q3,q4⟩:=hX.m c5
  have U5:=hf.po (by omega) (by omega)
  have hbb:=a_ hC ha.1 (ha.2.2 (by omega)) (Int.le_refl 0)
  refine WE hN hC hA (c:=c.r.px x1 (.pointer none) (.pointer none) (.pointer none)) (q:=q) (Q:=Q) (m:=c.m) hp hd c5 hn xG q2 q3 (hf.m c5) (hf.w (by omega) (by omega)) (hf.cl (by omega) (by omega)) (by show 0≤c.r.pos∧c.r.pos≤200000000;have:=hC.T;have:=hC.S;omega) hf.cmo fun O' τ v1 v2 u1 u2 u3 u4=>?_
  have u3':τ.get p=some ⟨((c.r.l6 (c.m.step C who A).1 (c.m.step C who A).2.1.a.out).px x1 (.pointer (some ⟨q,0,none⟩)) (.pointer none) (.pointer none)).l,true⟩:=by rw[←IH];exact u3
  refine hk 0 (p::O') τ (mQ (by omega)) (fun i hi=>?_) u1 ⟨⟨x1,_,_,_,u3',fun a b=>?_,fun _=>⟨q,O',rfl,u2,v2,fun i hi=>List.mem_cons_of_mem _ hi⟩,fun _=>rfl,fun a e=>(by rw[show c.a=some a from e]at ea;cases ea),fun _=>rfl,fun a e=>(by rw[show c.s=some a from e]at es;cases es)⟩,fun i hi=>?_,List.mem_cons_self ..⟩ (u4.mono fun i hi=>?_)
  ·rcases List.mem_cons.1 hi with rfl|hi
   ·exact .inl pO
   ·rcases v1 i hi with r|r
    ·exact .inl (q4 i r)
    ·exact .inr r
  ·exfalso
   have nx:∀(c:Cr) k u,4≤(c.next k u).pc:=fun c k u=>by show 4≤(if u≤c.pos+aA k then(6:Int)else 4);split<;>decide
   have:4≤(c.r.l6 (c.m.step C who A).1 (c.m.step C who A).2.1.a.out).pc:=by
    unfold Cr.l6
    split
    ·omega
    ·split
     ·exact nx _ _ _
     ·split
      ·exact nx _ _ _
      ·show(4:Int)≤9;decide
   have a':(c.r.l6 (c.m.step C who A).1 (c.m.step C who A).2.1.a.out).pc≤2:=a
   omega
  ·rcases List.mem_cons.1 hi with rfl|hi
   ·exact hd
   ·exact u2.own i hi
  ·rcases List.mem_cons.1 hi with rfl|hi
   ·exact List.mem_append_left _ pO
   ·rcases List.mem_append.1 hi with r|r
    ·exact List.mem_append_left _ (q4 i r)
    ·exact List.mem_append_right _ r
 by_cases c6:c.r.pc=6
 ·simp only[ae c0,ae c1,ae c2,ae c3,ae c4,ae c5,af c6]at hk
  have ea:=an (by omega);have es:=sn (by omega)
  have e7:=hX.a0 ea;have e8:=hX.s0 es;subst e7;subst e8
  refine WD hN hC hA (c:=c.r.px x1 x6 (.pointer none) (.pointer none)) hp hd c6 hn fun τ u1 u2 u3=>?_
  exact hk 0 O τ (mQ (by omega)) same u1 (lM.bare (x1:=x1) (x6:=x6) u2 (.inl ⟨by show(3:Int)≤7;decide,by show(7:Int)≠5;decide⟩) ea es own pO) (k1 u3)
 by_cases c7:c.r.pc=7
 ·simp only[ae c0,ae c1,ae c2,ae c3,ae c4,ae c5,ae c6,af c7]at hk
  have ea:=an (by omega);have es:=sn (by omega)
  have e7:=hX.a0 ea;have e8:=hX.s0 es;subst e7;subst e8
  have ha:=hf.at' (by omega)
  refine WB hN hC hA (c:=c.r.px x1 x6 (.pointer none) (.pointer none)) hp hd c7 hn pC (by show 0≤c.r.at'∧c.r.at'<C.C;omega) fun τ u1 u2 u3=>?_
  exact hk 0 O τ (mQ (by omega)) same u1 (lM.bare (x1:=x1) (x6:=x6) u2 (.inl ⟨by show(3:Int)≤8;decide,by show(8:Int)≠5;decide⟩) ea es own pO) (k1 u3)
 by_cases c8:c.r.pc=8
 ·simp only[ae c0,ae c1,ae c2,ae c3,ae c4,ae c5,ae c6,ae c7,af c8]at hk
  have ea:=an (by omega);have es:=sn (by omega)
  have e7:=hX.a0 ea;have e8:=hX.s0 es;subst e7;subst e8
  have ha:=hf.at' (by omega)
  refine WA hN hC hA (c:=c.r.px x1 x6 (.pointer none) (.pointer none)) hp hd c8 hn (by show 0≤c.r.at'∧c.r.at'<C.C;omega) (hf.w (by omega) (by omega)) hf.cev fun τ u1 u2 u3=>?_
  exact hk 0 O τ (mQ (by omega)) same u1 (lM.bare (x1:=x1) (x6:=x6) u2 (.inl ⟨by show(3:Int)≤10;decide,by show(10:Int)≠5;decide⟩) ea es own pO) (k1 u3)
 by_cases c9:c.r.pc=9
 ·simp only[ae c0,ae c1,ae c2,ae c3,ae c4,ae c5,ae c6,ae c7,ae c8,af c9]at hk
  have ea:=an (by omega);have es:=sn (by omega)
  have e7:=hX.a0 ea;have e8:=hX.s0 es;subst e7;subst e8
  have ha:=hf.at' (by omega)
  refine Wz hN hC hA (c:=c.r.px x1 x6 (.pointer none) (.pointer none)) hp hd c9 hn (by show 0≤c.r.at'∧c.r.at'<C.C;omega) (hf.w (by omega) (by omega)) hf.clf fun τ u1 u2 u3=>?_
  exact hk 0 O τ (mQ (by omega)) same u1 (lM.bare (x1:=x1) (x6:=x6) u2 (.inl ⟨by show(3:Int)≤10;decide,by show(10:Int)≠5;decide⟩) ea es own pO) (k1 u3)
 by_cases zE:c.r.pc=10
 ·simp only[ae c0,ae c1,ae c2,ae c3,ae c4,ae c5,ae c6,ae c7,ae c8,ae c9,af zE]at hk
  have es:=sn (by omega)
  have e8:=hX.s0 es;subst e8
  cases ea:c.a with
  | none=>
   have e7:=hX.a0 ea;subst e7
   rw[ea]at hk
   simp only[Option.getD_none]at hk
   refine LO hN hC hA (c:=c.r.px x1 x6 (.pointer none) (.pointer none)) hp hd zE hn fun d q τ hq qp qN u1 u2 u3 u4=>?_
   rw[ae (by rw[d];decide)]at hk
   exact hk 0 (q::O) τ (mQ (by omega)) (cons hq) u1 ⟨⟨x1,x6,.pointer (some ⟨q,0,none⟩),_,u2,fun a b=>absurd (show c.r.pc≤2 from a) (by omega),fun e=>absurd (show c.r.pc=5 from e) (by omega),(fun e=>by cases e),fun a e=>by cases e;exact⟨q,rfl,List.mem_cons_self ..,qp,u3⟩,fun _=>rfl,fun a e=>(by rw[show c.s=some a from e]at es;cases es)⟩,tp qN,List.mem_cons_of_mem _ pO⟩ (k1 u4)
  | some a=>
   obtain⟨q,rfl,qO,qp,gq⟩:=hX.a1 a ea
   rw[ea]at hk
   simp only[Option.getD_some]at hk
   refine LP hN hC hA (c:=c.r.px x1 x6 (.pointer none) (.pointer none)) (q:=q) (a:=a) hp hd zE hn gq (own q qO) qp (hf.a a ea).2 (fun d τ u1 u2 u3 u4=>?_) (fun d τ u1 u2 u3=>?_)
   ·rw[ae (by rw[d];decide)]at hk
    exact hk 0 O τ (mQ (by omega)) same u1 ⟨⟨x1,x6,.pointer (some ⟨q,0,none⟩),_,u2,fun a b=>absurd (show c.r.pc≤2 from a) (by omega),fun e=>absurd (show c.r.pc=5 from e) (by omega),(fun e=>by cases e),fun a e=>by cases e;exact⟨q,rfl,qO,qp,u3⟩,fun _=>rfl,fun a e=>(by rw[show c.s=some a from e]at es;cases es)⟩,own,pO⟩ (k2 qO u4)
   ·rw[af d]at hk
    exact hk 0 O τ (mQ (by omega)) same u1 (lM.bare (x1:=x1) (x6:=x6) u2 (.inl ⟨by show(3:Int)≤11;decide,by show(11:Int)≠5;decide⟩) rfl es own pO) (k2 qO u3)
 have W5:c.r.pc=11:=by omega
 simp only[ae c0,ae c1,ae c2,ae c3,ae c4,ae c5,ae c6,ae c7,ae c8,ae c9,ae zE]at hk
 have ea:=an (by omega)
 have e7:=hX.a0 ea;subst e7
 have ha:=hf.at' (by omega)
 have ha':0≤c.r.at'∧c.r.at'<C.C:=by omega
 have qw:∀ f,(3≤(c.r.settled C f).pc∧(c.r.settled C f).pc≠5)∨(c.r.settled C f).pc=0∧(c.r.settled C f).at'=0:=fun f=>by
  unfold Cr.settled;dsimp only;split
  ·exact .inr ⟨rfl,rfl⟩
  ·exact .inl ⟨by show 3≤c.r.pc;omega,by show c.r.pc≠5;omega⟩
 cases es:c.s with
 | none=>
  have e8:=hX.s0 es;subst e8
  rw[es]at hk
  simp only[Option.getD_none]at hk
  refine LM hN hC hA (c:=c.r.px x1 x6 (.pointer none) (.pointer none)) hp hd W5 hn pC xG ha' ⟨hf.jV.1,hf.jV.2,hf.jV.3⟩ (fun d q τ hq qp qN u1 u2 u3 u4=>?_) (fun d τ u1 u2 u3=>?_)
  ·have d':((dR.new c.r.at').step C who A).1=false:=d
   rw[ae (by rw[d'];decide)]at hk
   exact hk 0 (q::O) τ (mQ (by omega)) (cons hq) u1 ⟨⟨x1,x6,_,.pointer (some ⟨q,0,none⟩),u2,fun a b=>absurd (show c.r.pc≤2 from a) (by omega),fun e=>absurd (show c.r.pc=5 from e) (by omega),fun _=>rfl,fun a e=>(by rw[show c.a=some a from e]at ea;cases ea),(fun e=>by cases e),fun a e=>by cases e;exact⟨q,rfl,List.mem_cons_self ..,qp,u3⟩⟩,tp qN,List.mem_cons_of_mem _ pO⟩ (k1 u4)
  ·have d':((dR.new c.r.at').step C who A).1=true:=d
   simp only[af d']at hk
   rw[xt]at u2
   exact hk 0 O τ (mQ (by omega)) same u1 (lM.bare (x1:=x1) (x6:=x6) u2 (qw _) ea rfl own pO) (k1 u3)
 | some a=>
  obtain⟨q,rfl,qO,qp,gq⟩:=hX.s1 a es
  rw[es]at hk
  simp only[Option.getD_some]at hk
  refine LN hN hC hA (c:=c.r.px x1 x6 (.pointer none) (.pointer none)) (q:=q) (a:=a) hp hd W5 hn pC xG gq (own q qO) qp (hf.s a es).2 ha' ⟨hf.jV.1,hf.jV.2,hf.jV.3⟩ (fun d τ u1 u2 u3 u4=>?_) (fun d τ u1 u2 u3=>?_)
  ·rw[ae (by rw[d];decide)]at hk
   exact hk 0 O τ (mQ (by omega)) same u1 ⟨⟨x1,x6,_,.pointer (some ⟨q,0,none⟩),u2,fun a b=>absurd (show c.r.pc≤2 from a) (by omega),fun e=>absurd (show c.r.pc=5 from e) (by omega),fun _=>rfl,fun a e=>(by rw[show c.a=some a from e]at ea;cases ea),(fun e=>by cases e),fun a e=>by cases e;exact⟨q,rfl,qO,qp,u3⟩⟩,own,pO⟩ (k2 qO u4)
  ·rw[af d]at hk
   rw[xt]at u2
   exact hk 0 O τ (mQ (by omega)) same u1 (lM.bare (x1:=x1) (x6:=x6) u2 (qw _) ea rfl own pO) (k2 qO u3)
end Go.Fl
namespace Go.Fl
open Go
variable{N:Nm}{A B:Ar}{σ:Mem}{K:Value→Mem→Prop}{C:Cf}{who:Int}
def jV(f:Int→Bool):Nat→Nat
 | 0=>0
 | n+1=>jV f n+(if f n=true then 1 else 0)
theorem kh{f g:Int→Bool}:∀{n:Nat},(∀ j:Int,0≤j→j<n→f j=g j)→jV f n=jV g n
 | 0,_=>rfl
 | n+1,h=>by unfold jV;rw[kh (n:=n) fun j j0 j1=>h j j0 (by omega),h n (by omega) (by omega)]
theorem E_{f:Int→Bool}:∀{n:Nat},jV f n≤n
 | 0=>Nat.le_refl 0
 | n+1=>by unfold jV;have:=E_ (f:=f) (n:=n);split<;>omega
theorem BT{f g:Int→Bool}{i:Int}(hf:f i=true)(hg:g i=false):∀{n:Nat},0≤i→i<n→(∀ j:Int,0≤j→j<n→j≠i→f j=g j)→jV f n=jV g n+1
 | 0,h0,h1,_=>by omega
 | n+1,h0,h1,h=>by
  unfold jV
  by_cases e:i=n
  ·subst e
   rw[kh (g:=g) fun j j0 j1=>h j j0 (by omega) (by omega),hf,hg];simp
  ·rw[BT hf hg (n:=n) h0 (by omega) fun j j0 j1 hj=>h j j0 (by omega) hj,h n (by omega) (by omega) (fun q=>e q.symm)];omega
theorem Dl{f:Int→Bool}:∀{n:Nat},jV f n=0→∀ j:Int,0≤j→j<n→f j=false
 | 0,_,j,j0,j1=>by omega
 | n+1,h,j,j0,j1=>by
  unfold jV at h
  by_cases e:j=n
  ·subst e
   cases q:f n with
   | false=>rfl
   | true=>rw[q]at h;simp at h
  ·exact Dl (n:=n) (by omega) j j0 (by omega)
theorem JD{f:Int→Bool}{n:Nat}(h:∀ j:Int,0≤j→j<n→f j=false):jV f n=0:=by
 rw[kh (g:=fun _=>false) h]
 have:∀ n,jV (fun _=>false) n=0:=fun n=>by
  induction n with
  | zero=>rfl
  | succ n ih=>unfold jV;rw[ih];rfl
 exact this n
theorem Fc(hN:N.ok)(hC:C.ok)(hA:aZ N A σ)(hn:C.len≤A.n)(hw:∀ i,0≤A.w i∧A.w i<18446744073709551616){st:Int}(hk:K (.int .i64 (jV (fun j=>decide (bF (A.w (C.chunk j))=st)) C.C.toNat)) σ):tc [N.env C who,.int .i64 st] K σ:=by
 have hT:=hC.T;have hS:=hC.S;have ma:=hC.C;have hl:=br hC
 have kW:C.chunk C.C=6+C.T+2*C.S+3*C.C:=rfl
 have f0:∀(x y z w:Value) (K:Value→Prop),xF (b7 0 1 false) [.agg #[x,y,z,w]] K=K x:=fun _ _ _ _ K=>nr rfl
 simp only[tc,P5,aF,bN]
 refine uC (fun i=>[.int .i64 st,.int .i64 (jV (fun j=>decide (bF (A.w (C.chunk j))=st)) i.toNat),.int .i64 i]) [N.el C who] C.C (fun i τ=>(0≤i∧i≤C.C)∧τ=σ) ?_ ⟨⟨Int.le_refl 0,by omega⟩,rfl⟩
 rintro i τ ⟨⟨i0,i1⟩,rfl⟩ R hR
 simp only[jK,iP,aF,bc,bN]
 by_cases c:i<C.C
 ·have cb:0≤C.chunk i∧C.chunk i<A.n:=by unfold Cf.chunk at *;omega
  have bE:=E_ (f:=fun j=>decide (bF (A.w (C.chunk j))=st)) (n:=i.toNat)
  have hs:jV (fun j=>decide (bF (A.w (C.chunk j))=st)) (i+1).toNat=jV (fun j=>decide (bF (A.w (C.chunk j))=st)) i.toNat+(if bF (A.w (C.chunk i))=st then 1 else 0):=by
   rw[show(i+1).toNat=i.toNat+1 by omega]
   show jV _ i.toNat+(if decide (bF (A.w (C.chunk (i.toNat:Int)))=st)=true then 1 else 0)=_
   rw[show((i.toNat:Nat):Int)=i by omega]
   simp
  have nx:=hR τ c ⟨⟨by omega,by omega⟩,rfl⟩
  rw[hs]at nx
  have hP:N.el C who=[.int .i64 C.T,.int .i64 C.S,.int .i64 C.C,.int .i64 C.W,.int .i64 C.G,.int .i64 C.P,.int .i64 C.R,N.p,.int .i64 who]:=rfl
  have p7:sub (N.el C who) 7 1 false=some N.p:=rfl
  simp only[c,cB hC i0 (show i≤65536 by omega),LC hN hA cb.1 cb.2,cz (hw (C.chunk i)).1 (hw (C.chunk i)).2,f0,aF]
  by_cases e:bF (A.w (C.chunk i))=st
  ·rw[af e]at nx
   simp only[e,uN,qX,aF]
   rw[IntWalk.i64_in ((jV (fun j=>decide (bF (A.w (C.chunk j))=st)) i.toNat:Int)+1) (by omega),IntWalk.i64_in (i+1) (by omega)]
   exact nx
  ·rw[ae e]at nx
   simp only[e,uN,qX,aF]
   rw[IntWalk.i64_in (i+1) (by omega)]
   exact nx
 ·have:i=C.C:=by omega
  subst this
  simp only[c,z7,vN,aF]
  exact hk
theorem Ge(hA:aZ N A σ)(hk:∀ p τ,σ.get p=none→lM N p [p] Co.new τ→Ext σ τ→K (.pointer (some ⟨p,0,none⟩)) τ):Bj [] K σ:=by
 have b:∀ K:Value→Prop,xF (aM [(0,1),(1,1),(2,1),(3,1),(4,1),(5,1),(6,1),(7,1),(8,1),(9,5),(14,5),(19,1)] [.int .i64 0,.slice none 0 0,.int .i64 0,.int .i64 0,.int .u64 0,.int .u64 0,.pointer none,.pointer none,.pointer none,.int .i64 0,.int .i64 0,.int .i64 0,.int .i64 0,.int .i64 0,.int .i64 0,.int .i64 0,.int .i64 0,.int .i64 0,.int .i64 0,.int .i64 0] []) [] K =
  K (.agg (Cr.new.px (.slice none 0 0) (.pointer none) (.pointer none) (.pointer none)).l.toArray):=fun K=>nr rfl
 simp only[Bj,Qn,b,aF]
 refine gA (cs:=(Cr.new.px (.slice none 0 0) (.pointer none) (.pointer none) (.pointer none)).l) rfl fun p τ hp gp x=>?_
 refine hk p τ hp (lM.bare (x1:=.slice none 0 0) (x6:=.pointer none) gp (.inr ⟨rfl,rfl⟩) rfl rfl (fun i hi=>?_) (List.mem_singleton.2 rfl)) x
 rw[List.mem_singleton]at hi;subst hi;exact hA.new hp
theorem lM.get{p:Nat}{O:List Nat}{c:Co}(h:lM N p O c σ):∃ x1 x6 x7 x8,σ.get p=some ⟨(c.r.px x1 x6 x7 x8).l,true⟩:=by obtain⟨⟨x1,x6,x7,x8,h,_⟩,_⟩:=h;exact⟨x1,x6,x7,x8,h⟩
theorem sk{p:Nat}{O:List Nat}{c:Co}(h:lM N p O c σ):nD [.pointer (some ⟨p,0,none⟩)] K σ=K (.agg #[.int .i64 c.r.ev,.int .i64 c.r.lf,.int .i64 c.r.fd,.int .i64 c.r.mo,.int .i64 c.r.rd]) σ:=by
 obtain⟨x1,x6,x7,x8,g⟩:=h.get
 have g5:∀ x y z u w:Int,aH 5 [.pointer (some ⟨2,0,some 0⟩),.agg #[.int .i64 x,.int .i64 y,.int .i64 z,.int .i64 u,.int .i64 w]] [.int .i64 0,.int .i64 0,.int .i64 0,.int .i64 0,.int .i64 0]=some [.int .i64 x,.int .i64 y,.int .i64 z,.int .i64 u,.int .i64 w]:=fun _ _ _ _ _=>rfl
 have s5:∀{x y z u w:Value},sub [x,y,z,u,w] 0 5 true=some (.agg #[x,y,z,u,w]):=fun{_ _ _ _ _}=>rfl
 simp only[nD,Qs,aF,bc]
 rw[UC g (show sub (c.r.px x1 x6 x7 x8).l 9 5 true=some (.agg #[.int .i64 c.r.ev,.int .i64 c.r.lf,.int .i64 c.r.fd,.int .i64 c.r.mo,.int .i64 c.r.rd])from rfl)]
 simp only[g5,s5,aF]
theorem K1{O O':List Nat}{τ υ:Mem}{A':Ar}(hA:aZ N A' τ)(h1:aQ (O++N.l) σ τ)(h2:∀ i∈O',i∈O∨σ.get i=none)(h3:aQ (O'++N.l) τ υ):aQ (O++N.l) σ υ:=fun i b hi hn=>by
 refine h3 i b (h1 i b hi hn) fun hm=>?_
 rcases List.mem_append.1 hm with r|r
 ·rcases h2 i r with q|q
  ·exact hn (List.mem_append_left _ q)
  ·rw[q]at hi;cases hi
 ·exact hn (List.mem_append_right _ r)
theorem Dp(hN:N.ok)(hC:C.ok)(hA:aZ N A σ){p:Nat}{O:List Nat}{c:Co}{n:Int}(hn:0≤n∧n≤1000)(hO:lM N p O c σ)(I:Co→Ar→Prop)(left:Co→Ar→Int)(h0:I c A)(Kk:0≤c.r.rd∧c.r.rd≤1000000)
  (hF:∀ c1 A,I c1 A→c.r.rd≤c1.r.rd→c1.r.rd≤c.r.rd+n→c1.fit C A∧C.len≤A.n∧(A.n:Int)≤200000000∧(∀ i,0≤A.w i∧A.w i<18446744073709551616)∧1≤left c1 A∧left c1 A≤3000)
  (hS:∀ c1 A r,I c1 A→c.r.rd≤c1.r.rd→c1.r.rd<c.r.rd+n→c1.may C A r→I (c1.step C (-1) A r).1 (c1.step C (-1) A r).2∧((c1.step C (-1) A r).1.r.rd=c1.r.rd∧left (c1.step C (-1) A r).1 (c1.step C (-1) A r).2<left c1 A∨(c1.step C (-1) A r).1.r.rd=c1.r.rd+1∧(c1.step C (-1) A r).1.r.pc=0∧(c1.step C (-1) A r).1.r.at'=0))
  (hk:∀ c' A' O' τ,I c' A'→c'.r.rd=c.r.rd+n→(n=0∨c'.r.pc=0∧c'.r.at'=0)→aZ N A' τ→lM N p O' c' τ→(∀ i∈O',i∈O∨σ.get i=none)→aQ (O++N.l) σ τ→K (.bool true) τ) :
  xj [N.env C who,.pointer (some ⟨p,0,none⟩),.int .i64 n] K σ:=by
 have f4:∀(x y z u w:Value) (K:Value→Prop),xF (b7 4 1 false) [.agg #[x,y,z,u,w]] K=K w:=fun _ _ _ _ _ K=>nr rfl
 have g9:aH 1 [.pointer (some ⟨3,8,some 0⟩),.int .i64 (-1)] (N.el C who)=some (N.el C (-1)):=rfl
 simp only[xj,P4,g9,sk hO,f4,aF,bc,bN,Int.reduceNeg]
 rw[IntWalk.i64_in (c.r.rd+n) (by omega)]
 refine jY (fun x ts ls τ=>∃(i:Int) (c':Co) (A':Ar) (O':List Nat),x=(3000*n+1-i).toNat∧ts=[.pointer (some ⟨p,0,none⟩),.int .i64 n,.int .i64 (c.r.rd+n),.int .i64 i]∧ls=[N.el C (-1)]∧(0≤i∧i≤3000*n)∧I c' A'∧(c.r.rd≤c'.r.rd∧c'.r.rd≤c.r.rd+n) ∧
   i+left c' A'≤3000*(c'.r.rd-c.r.rd+1)∧(c'.r.rd=c.r.rd+n→n=0∨c'.r.pc=0∧c'.r.at'=0)∧aZ N A' τ∧lM N p O' c' τ∧(∀ i∈O',i∈O∨σ.get i=none)∧aQ (O++N.l) σ τ) ?_ (n:=(3000*n+1).toNat)
  ⟨0,c,A,O,by simp,rfl,rfl,⟨Int.le_refl 0,by omega⟩,h0,⟨Int.le_refl _,by omega⟩,by have:=(hF c A h0 (Int.le_refl _) (by omega)).2.2.2.2.2;omega,fun e=>.inl (by omega),hA,hO,fun i hi=>.inl hi,aQ.refl⟩
 rintro x ts ls τ ⟨i,c',A',O',rfl,rfl,rfl,⟨i0,i1⟩,hI,⟨r0,r1⟩,hb,hz,dL,DT,C5,hK⟩ R hR
 obtain⟨kF,hlen,pC,hw,l1,l2⟩:=hF c' A' hI r0 r1
 have fin:c'.r.rd=c.r.rd+n→uM K [.pointer (some ⟨p,0,none⟩),.int .i64 (c.r.rd+n)] [] τ:=fun e=>by
  simp only[uM,vM,sk DT,f4,aF]
  have:c.r.rd+n≤c'.r.rd:=by omega
  simp only[this,decide_true]
  exact hk c' A' O' τ hI e (hz e) dL DT C5 hK
 simp only[gQ,gh,aF,Int.reduceNeg]
 rw[IntWalk.i64_in (3000*n) (by omega)]
 by_cases c1:i<3000*n
 ·simp only[c1,sk DT,f4,aF,Int.reduceNeg]
  by_cases c2:c'.r.rd<c.r.rd+n
  ·simp only[c2,z6,vL,aF,bc,bN,Int.reduceNeg]
   refine zD hN hC dL DT hlen pC hw kF fun r O2 τ2 hm ho2 nG Jj m9=>?_
   rw[IntWalk.i64_in (i+1) (by omega)]
   obtain⟨XJ,hd⟩:=hS c' A' r hI r0 c2 hm
   obtain⟨_,_,_,_,m1,m2⟩:=hF _ _ XJ (by rcases hd with⟨e,_⟩|⟨e,_⟩<;>omega) (by rcases hd with⟨e,_⟩|⟨e,_⟩<;>omega)
   refine hR (3000*n+1-(i+1)).toNat _ _ _ (by omega) ⟨i+1,_,_,O2,rfl,rfl,rfl,⟨by omega,by omega⟩,XJ,by rcases hd with⟨e,_⟩|⟨e,_⟩<;>omega,by rcases hd with⟨e,_⟩|⟨e,_⟩<;>(rw[e];omega),fun e=>?_,nG,Jj,?_,K1 dL hK C5 m9⟩
   ·rcases hd with⟨e',_⟩|⟨_,e',e''⟩
    ·omega
    ·exact .inr ⟨e',e''⟩
   ·intro j hj
    rcases ho2 j hj with q|q
    ·exact C5 j q
    ·cases e:σ.get j with
     | none=>exact .inr rfl
     | some b=>
      by_cases r:j∈O
      ·exact .inl r
      ·rw[hK j b e (fun hm=>by rcases List.mem_append.1 hm with u|u;exact r u;exact Jj.own j hj u)]at q;cases q
  ·simp only[c2,aF,Int.reduceNeg]
   exact fin (by omega)
 ·simp only[c1,aF,Int.reduceNeg]
  exact fin (by omega)
end Go.Fl
namespace Go.Fl
open Go
variable{N:Nm}{A B:Ar}{σ:Mem}{K:Value→Mem→Prop}{C:Cf}{who:Int}
theorem yL{w:Int}(h0:0≤w)(h1:w<18446744073709551616):aR (bF w) (bL w) (bD w) (eM w)=w:=by
 unfold aR bF bL bD eM
 rw[fP (by omega) (by omega),fP (by omega) (by omega),fP (by omega) (by omega),fP (by omega) (by omega)]
 omega
theorem se{w st:Int}(h1:0≤st∧st≤3):bF (jX w st)=st∧bL (jX w st)=bL w∧bD (jX w st)=bD w∧(0≤jX w st∧jX w st<18446744073709551616):=by
 refine⟨?_,?_,?_,bS _ _ _ _⟩<;>(unfold jX aR;(try unfold bF);unfold bL bD eM cl;omega)
def qy(w:Int→Int)(k j:Int):Bool:=decide ((0<k∧w 2=j+1)∨(1<k∧w 3=j+1)∨(2<k∧w 4=j+1)∨(3<k∧w 5=j+1))
theorem Us{w:Int→Int}{j:Int}:qy w 0 j=false:=by unfold qy;exact decide_eq_false (by omega)
theorem IN{w:Int→Int}{k j:Int}(h0:0≤k)(h1:k<4):qy w (k+1) j=(qy w k j||decide (w (2+k)=j+1)):=by
 have:qy w (k+1) j=true ↔(qy w k j||decide (w (2+k)=j+1))=true:=by
  unfold qy
  simp only[Bool.or_eq_true,decide_eq_true_eq]
  rcases(show k=0∨k=1∨k=2∨k=3 by omega)with rfl|rfl|rfl|rfl
  ·rw[show(2:Int)+0=2 by decide];omega
  ·rw[show(2:Int)+1=3 by decide];omega
  ·rw[show(2:Int)+2=4 by decide];omega
  ·rw[show(2:Int)+3=5 by decide];omega
 cases e1:qy w (k+1) j<;>cases e2:(qy w k j||decide (w (2+k)=j+1))<;>simp_all
def gF(C:Cf)(w:Int→Int)(k j:Int):Sn:=⟨bF (w (C.chunk j)),bL (w (C.chunk j)),bD (w (C.chunk j)),eM (w (C.chunk j)),IntKind.i64.wrap (w (C.chunk j+1)),qy w k j⟩
theorem KL{L:List Sn}{n:Int}{i:Nat}{x:Sn}(h:L[i]?=some x):(m8 L n)[i]?=some { x with op:=x.op||decide (n=(i:Int)+1) }:=by
 unfold m8
 by_cases c:0<n
 ·rw[af c]
  by_cases e:n=(i:Int)+1
  ·have ei:(n-1).toNat=i:=by omega
   rw[ei,h]
   show(L.set i _)[i]?=_
   have hi:=(List.getElem?_eq_some_iff.1 h).1
   rw[List.getElem?_set];simp[hi,e]
  ·have ei:¬(n-1).toNat=i:=by omega
   have e2:{ x with op:=x.op||decide (n=(i:Int)+1) }=x:=by simp[e]
   rw[e2]
   split
   ·exact h
   ·rw[List.getElem?_set,ae ei];exact h
 ·rw[ae c]
  have e2:{ x with op:=x.op||decide (n=(i:Int)+1) }=x:=by
   have:¬ n=(i:Int)+1:=by omega
   simp[this]
  rw[e2];exact h
theorem ID{C:Cf}{w:Int→Int}{k:Int}{L:List Sn}{i:Nat}(h0:0≤k)(h1:k<4)(h:L[i]?=some (gF C w k i)):(m8 L (w (2+k)))[i]?=some (gF C w (k+1) i):=by
 rw[KL h]
 unfold gF
 rw[IN h0 h1]
theorem zi{L:List Sn}{i j:Nat}{v:Int}{x:Sn}(h:L[i]?=some x):(oq L j v)[i]?=some (if i=j then{ x with live:=v }else x):=by
 unfold oq
 by_cases e:i=j
 ·subst e
  rw[h,af rfl]
  show(L.set i _)[i]?=_
  have hi:=(List.getElem?_eq_some_iff.1 h).1
  rw[List.getElem?_set];simp[hi]
 ·rw[ae e]
  split
  ·exact h
  ·rw[List.getElem?_set];simp[Ne.symm e,h]
def C_(C:Cf)(w:Int→Int)(a:Int):Prop:=nF (w a)=3∨nF (w a)=2∧(0≤tx (w a)∧tx (w a)<C.S)∧0≤ai (gH (w a))∧(b9 (w (C.slot (tx (w a))))≠E3 (w a)∨a8 (w (C.slot (tx (w a))))≠a∨cF (w (C.slot (tx (w a))))≠1∧cF (w (C.slot (tx (w a))))≠4)
structure TP where
 K0:Int
 Ks:Int
 r0:Int
 e0:Int
 pn:Bool
 w0:Int→Int
 D:Int→Bool
structure TS(C:Cf)(P:TP):Prop where
 cc:C.C≤8∧C.W≤40
 op:∀ k,0≤k→k≤3→0≤P.w0 (2+k)∧P.w0 (2+k)≤C.C
 dd:∀ j,0≤j→j<C.C→P.D j=true→bL (P.w0 (C.chunk j))≤3∧(0<bD (P.w0 (C.chunk j))∧bD (P.w0 (C.chunk j))≤C.W)∧qy P.w0 4 j=false∧IntKind.i64.wrap (P.w0 (C.chunk j+1))≤0∧bF (P.w0 (C.chunk j))=1 ∧
  ∀ x,0≤x→x<bD (P.w0 (C.chunk j))→x % aA (bL (P.w0 (C.chunk j)))=0→C_ C P.w0 (C.base j+x)
 nd:∀ j,0≤j→j<C.C→P.D j=false→¬(gF C P.w0 4 j).may C∧(bF (P.w0 (C.chunk j))=0∨bF (P.w0 (C.chunk j))=1)
 ni:∀ j x,0≤j→j<C.C→bD (P.w0 (C.chunk j))≤x→x<C.W→P.w0 (C.base j+x)=0
 pi:P.pn=false→∀ i,0≤i→i<C.T→P.w0 (6+i)=0
 pj:P.pn=true→C.T=2∧P.w0 6=0∧P.w0 7=P.e0+1
 e0:0≤P.e0∧P.e0≤1000000
 k0:P.K0≤64
structure TW(C:Cf)(P:TP)(w:Int→Int):Prop where
 ot:∀ i,1≤i→(∀ j,0≤j→j<C.C→P.D j=true→i≠C.chunk j∧i≠C.chunk j+1∧i≠C.chunk j+2∧∀ x,0≤x→x<C.W→i≠C.base j+x)→w i=P.w0 i
 one:∀ j,0≤j→j<C.C→P.D j=true→bF (w (C.chunk j))=1→w (C.chunk j)=P.w0 (C.chunk j)∧w (C.chunk j+1)=P.w0 (C.chunk j+1)
 wd:∀ j x,0≤j→j<C.C→P.D j=true→bF (w (C.chunk j))=1∨bF (w (C.chunk j))=2→0≤x→x<C.W→w (C.base j+x)=P.w0 (C.base j+x)
 qu:∀ j,0≤j→j<C.C→P.D j=true→bF (w (C.chunk j))=2∨bF (w (C.chunk j))=3→bD (w (C.chunk j))=bD (P.w0 (C.chunk j))∧bL (w (C.chunk j))=bL (P.w0 (C.chunk j))
 qn:∀ j x,0≤j→j<C.C→P.D j=true→bF (w (C.chunk j))=3→bD (P.w0 (C.chunk j))≤x→x<C.W→w (C.base j+x)=0
 fr:∀ j x,0≤j→j<C.C→P.D j=true→bF (w (C.chunk j))=0→0≤x→x<C.W→w (C.base j+x)=0
section
variable{P:TP}{w:Int→Int}
theorem cP(hC:C.ok){j:Int}(j0:0≤j)(j1:j<C.C):8≤C.chunk j∧C.chunk j+2<6+C.T+2*C.S+3*C.C:=by have:=hC.T;have:=hC.S;unfold Cf.chunk;omega
theorem gK{j k:Int}(h:j≠k):C.chunk j≠C.chunk k∧C.chunk j≠C.chunk k+1∧C.chunk j≠C.chunk k+2∧C.chunk j+1≠C.chunk k∧C.chunk j+1≠C.chunk k+1∧C.chunk j+1≠C.chunk k+2∧C.chunk j+2≠C.chunk k∧C.chunk j+2≠C.chunk k+1∧C.chunk j+2≠C.chunk k+2:=by unfold Cf.chunk;omega
theorem TW.low(h:TW C P w)(hC:C.ok){i:Int}(h1:1≤i)(h2:i<C.chunk 0):w i=P.w0 i:=h.ot i h1 fun j j0 j1 _=>by
 have:=a_ hC j0 j1 (Int.le_refl 0)
 have ma:=hC.C
 unfold Cf.chunk at *
 refine⟨by omega,by omega,by omega,fun x x0 x1=>by omega⟩
theorem Bx(hC:C.ok):9≤C.chunk 0∧C.chunk 0=6+C.T+2*C.S:=by have:=hC.T;have:=hC.S;unfold Cf.chunk;omega
theorem TW.un(h:TW C P w)(hC:C.ok){j:Int}(j0:0≤j)(j1:j<C.C)(hD:P.D j=false):w (C.chunk j)=P.w0 (C.chunk j)∧w (C.chunk j+1)=P.w0 (C.chunk j+1)∧∀ x,0≤x→x<C.W→w (C.base j+x)=P.w0 (C.base j+x):=by
 have b:=cP hC j0 j1
 have ne:∀ k,P.D k=true→j≠k:=fun k q e=>by rw[e,q]at hD;cases hD
 refine⟨h.ot _ (by omega) fun k k0 k1 q=>?_,h.ot _ (by omega) fun k k0 k1 q=>?_,fun x x0 x1=>h.ot _ (by have:=a_ hC j0 j1 x0;have:=hC.T;have:=hC.S;omega) fun k k0 k1 q=>?_⟩
 ·have:=gK (C:=C) (ne k q)
  exact⟨this.1,this.2.1,this.2.2.1,fun x x0 _=>by have:=a_ hC k0 k1 x0;omega⟩
 ·have:=gK (C:=C) (ne k q)
  exact⟨this.2.2.2.1,this.2.2.2.2.1,this.2.2.2.2.2.1,fun x x0 _=>by have:=a_ hC k0 k1 x0;omega⟩
 ·have b1:=cP hC k0 k1
  have b2:=a_ hC j0 j1 x0
  exact⟨by omega,by omega,by omega,fun y y0 y1 e=>ne k q (bW hC j0 j1 x0 x1 k0 k1 y0 y1 e).1⟩
theorem TW.gF(h:TW C P w)(hC:C.ok){k j:Int}(j0:0≤j)(j1:j<C.C)(hs:P.D j=true→bF (w (C.chunk j))=1):gF C w k j=gF C P.w0 k j:=by
 have l:=Bx hC
 have e2:=h.low hC (i:=2) (by decide) (by omega)
 have e3:=h.low hC (i:=3) (by decide) (by omega)
 have e4:=h.low hC (i:=4) (by decide) (by omega)
 have e5:=h.low hC (i:=5) (by decide) (by omega)
 have:w (C.chunk j)=P.w0 (C.chunk j)∧w (C.chunk j+1)=P.w0 (C.chunk j+1):=by
  cases q:P.D j with
  | true=>exact h.one j j0 j1 q (hs q)
  | false=>have:=h.un hC j0 j1 q;exact⟨this.1,this.2.1⟩
 unfold Fl.gF qy
 rw[this.1,this.2,e2,e3,e4,e5]
theorem TW.may(h:TW C P w)(hS:TS C P)(hC:C.ok){j:Int}(j0:0≤j)(j1:j<C.C):(Fl.gF C w 4 j).may C ↔ P.D j=true∧bF (w (C.chunk j))=1:=by
 constructor
 ·intro hm
  have h1:bF (w (C.chunk j))=1:=hm.1
  cases q:P.D j with
  | true=>exact⟨rfl,h1⟩
  | false=>
   rw[h.gF hC j0 j1 (fun e=>by rw[q]at e;cases e)]at hm
   exact absurd hm (hS.nd j j0 j1 q).1
 ·rintro⟨q,h1⟩
  rw[h.gF hC j0 j1 fun _=>h1]
  obtain⟨d1,d2,d3,d4,d5,_⟩:=hS.dd j j0 j1 q
  exact⟨d5,d3,d2.1,.inl d4⟩
theorem TW.e0(h:TW C P w)(hC:C.ok)(v:Int):TW C P (aX w 0 v):=by
 have ck:∀ j,0≤j→j<C.C→aX w 0 v (C.chunk j)=w (C.chunk j):=fun j j0 j1=>az _ _ (by have:=cP hC j0 j1;omega)
 have V8:∀ j,0≤j→j<C.C→aX w 0 v (C.chunk j+1)=w (C.chunk j+1):=fun j j0 j1=>az _ _ (by have:=cP hC j0 j1;omega)
 have cb:∀ j x,0≤j→j<C.C→0≤x→aX w 0 v (C.base j+x)=w (C.base j+x):=fun j x j0 j1 x0=>az _ _ (by have:=a_ hC j0 j1 x0;have:=hC.T;have:=hC.S;omega)
 refine⟨fun i i1 hi=>by rw[az _ _ (by omega)];exact h.ot i i1 hi,fun j j0 j1 hD hs=>?_,fun j x j0 j1 hD hs x0 x1=>?_,fun j j0 j1 hD hs=>?_,fun j x j0 j1 hD hs x0 x1=>?_,fun j x j0 j1 hD hs x0 x1=>?_⟩
 ·rw[ck j j0 j1]at hs ⊢;rw[V8 j j0 j1];exact h.one j j0 j1 hD hs
 ·rw[ck j j0 j1]at hs;rw[cb j x j0 j1 x0];exact h.wd j x j0 j1 hD hs x0 x1
 ·rw[ck j j0 j1]at hs ⊢;exact h.qu j j0 j1 hD hs
 ·rw[ck j j0 j1]at hs
  have u:=mW (P.w0 (C.chunk j))
  rw[cb j x j0 j1 (by omega)];exact h.qn j x j0 j1 hD hs x0 x1
 ·rw[ck j j0 j1]at hs;rw[cb j x j0 j1 x0];exact h.fr j x j0 j1 hD hs x0 x1
theorem TW.ck(h:TW C P w)(hC:C.ok){i v:Int}(i0:0≤i)(i1:i<C.C)(hD:P.D i=true)(h1:bF v≠1)(h2:bF v=2→∀ x,0≤x→x<C.W→w (C.base i+x)=P.w0 (C.base i+x))
  (h3:bF v=2∨bF v=3→bD v=bD (P.w0 (C.chunk i))∧bL v=bL (P.w0 (C.chunk i))) (h4:bF v=3→∀ x,bD (P.w0 (C.chunk i))≤x→x<C.W→w (C.base i+x)=0)
  (h5:bF v=0→∀ x,0≤x→x<C.W→w (C.base i+x)=0):TW C P (aX w (C.chunk i) v):=by
 have bi:=cP hC i0 i1
 have ck:∀ j,j≠i→aX w (C.chunk i) v (C.chunk j)=w (C.chunk j):=fun j e=>az _ _ (gK e).1
 have V8:∀ j,aX w (C.chunk i) v (C.chunk j+1)=w (C.chunk j+1):=fun j=>az _ _ (by unfold Cf.chunk;omega)
 have cb:∀ j x,0≤j→j<C.C→0≤x→aX w (C.chunk i) v (C.base j+x)=w (C.base j+x):=fun j x j0 j1 x0=>az _ _ (by have:=a_ hC j0 j1 x0;omega)
 have u:=mW (P.w0 (C.chunk i))
 refine⟨fun k k1 hk=>by rw[az _ _ (hk i i0 i1 hD).1];exact h.ot k k1 hk,fun j j0 j1 rY hs=>?_,fun j x j0 j1 rY hs x0 x1=>?_,fun j j0 j1 rY hs=>?_,fun j x j0 j1 rY hs x0 x1=>?_,fun j x j0 j1 rY hs x0 x1=>?_⟩
 ·by_cases e:j=i
  ·subst e;rw[aE]at hs;exact absurd hs h1
  ·rw[ck j e]at hs ⊢;rw[V8 j];exact h.one j j0 j1 rY hs
 ·rw[cb j x j0 j1 x0]
  by_cases e:j=i
  ·subst e;rw[aE]at hs
   rcases hs with q|q
   ·exact absurd q h1
   ·exact h2 q x x0 x1
  ·rw[ck j e]at hs;exact h.wd j x j0 j1 rY hs x0 x1
 ·by_cases e:j=i
  ·subst e;rw[aE]at hs ⊢;exact h3 hs
  ·rw[ck j e]at hs ⊢;exact h.qu j j0 j1 rY hs
 ·have uj:=mW (P.w0 (C.chunk j))
  rw[cb j x j0 j1 (by omega)]
  by_cases e:j=i
  ·subst e;rw[aE]at hs;exact h4 hs x x0 x1
  ·rw[ck j e]at hs;exact h.qn j x j0 j1 rY hs x0 x1
 ·rw[cb j x j0 j1 x0]
  by_cases e:j=i
  ·subst e;rw[aE]at hs;exact h5 hs x x0 x1
  ·rw[ck j e]at hs;exact h.fr j x j0 j1 rY hs x0 x1
theorem TW.V7(h:TW C P w)(hC:C.ok){i v a:Int}(i0:0≤i)(i1:i<C.C)(hD:P.D i=true)(hs:bF (w (C.chunk i))≠1)(ha:a=C.chunk i+1∨a=C.chunk i+2):TW C P (aX w a v):=by
 have bi:=cP hC i0 i1
 have ck:∀ j,aX w a v (C.chunk j)=w (C.chunk j):=fun j=>az _ _ (by unfold Cf.chunk at *;omega)
 have cb:∀ j x,0≤j→j<C.C→0≤x→aX w a v (C.base j+x)=w (C.base j+x):=fun j x j0 j1 x0=>az _ _ (by have:=a_ hC j0 j1 x0;omega)
 refine⟨fun k k1 hk=>?_,fun j j0 j1 rY q=>?_,fun j x j0 j1 rY q x0 x1=>?_,fun j j0 j1 rY q=>?_,fun j x j0 j1 rY q x0 x1=>?_,fun j x j0 j1 rY q x0 x1=>?_⟩
 ·have:=hk i i0 i1 hD
  rw[az _ _ (by omega)];exact h.ot k k1 hk
 ·rw[ck j]at q ⊢
  have e:j≠i:=fun e=>hs (e ▸ q)
  rw[az _ _ (by have:=gK (C:=C) e;omega)];exact h.one j j0 j1 rY q
 ·rw[ck j]at q;rw[cb j x j0 j1 x0];exact h.wd j x j0 j1 rY q x0 x1
 ·rw[ck j]at q ⊢;exact h.qu j j0 j1 rY q
 ·have uj:=mW (P.w0 (C.chunk j))
  rw[ck j]at q;rw[cb j x j0 j1 (by omega)];exact h.qn j x j0 j1 rY q x0 x1
 ·rw[ck j]at q;rw[cb j x j0 j1 x0];exact h.fr j x j0 j1 rY q x0 x1
theorem TW.nul(h:TW C P w)(hC:C.ok){i y:Int}(i0:0≤i)(i1:i<C.C)(hD:P.D i=true)(hs:bF (w (C.chunk i))=3)(y0:0≤y)(y1:y<C.W):TW C P (aX w (C.base i+y) 0):=by
 have bi:=a_ hC i0 i1 y0
 have ck:∀ j,0≤j→j<C.C→aX w (C.base i+y) 0 (C.chunk j)=w (C.chunk j):=fun j j0 j1=>az _ _ (by have:=cP hC j0 j1;omega)
 have V8:∀ j,0≤j→j<C.C→aX w (C.base i+y) 0 (C.chunk j+1)=w (C.chunk j+1):=fun j j0 j1=>az _ _ (by have:=cP hC j0 j1;omega)
 refine⟨fun k k1 hk=>?_,fun j j0 j1 rY q=>?_,fun j x j0 j1 rY q x0 x1=>?_,fun j j0 j1 rY q=>?_,fun j x j0 j1 rY q x0 x1=>?_,fun j x j0 j1 rY q x0 x1=>?_⟩
 ·rw[az _ _ ((hk i i0 i1 hD).2.2.2 y y0 y1)];exact h.ot k k1 hk
 ·rw[ck j j0 j1]at q ⊢;rw[V8 j j0 j1];exact h.one j j0 j1 rY q
 ·rw[ck j j0 j1]at q
  rw[az _ _ fun e=>?_]
  ·exact h.wd j x j0 j1 rY q x0 x1
  ·have:=(bW hC j0 j1 x0 x1 i0 i1 y0 y1 e).1
   subst this;omega
 ·rw[ck j j0 j1]at q ⊢;exact h.qu j j0 j1 rY q
 ·rw[ck j j0 j1]at q
  unfold aX;split
  ·rfl
  ·exact h.qn j x j0 j1 rY q x0 x1
 ·rw[ck j j0 j1]at q
  unfold aX;split
  ·rfl
  ·exact h.fr j x j0 j1 rY q x0 x1
end
end Go.Fl
namespace Go.Fl
open Go
variable{N:Nm}{A B:Ar}{σ:Mem}{K:Value→Mem→Prop}{C:Cf}{who:Int}{P:TP}{w:Int→Int}
theorem D3{x:Int}(h0:0≤x)(h1:x<18446744073709551616):IntKind.u64.wrap x=x:=IntWalk.u64_in x ⟨h0,by omega⟩
def kS(C:Cf)(P:TP)(w:Int→Int)(s:Int):Int:=jV (fun j=>P.D j&&decide (bF (w (C.chunk j))=s)) C.C.toNat
theorem zk{s:Int}:0≤kS C P w s:=by unfold kS;omega
theorem UJ{s:Int}(h:0≤C.C):kS C P w s≤C.C:=by
 have:=E_ (f:=fun j=>P.D j&&decide (bF (w (C.chunk j))=s)) (n:=C.C.toNat)
 unfold kS;omega
theorem jz{w':Int→Int}{s:Int}(h:∀ j,0≤j→j<C.C→w' (C.chunk j)=w (C.chunk j)):kS C P w' s=kS C P w s:=by
 unfold kS;rw[kh fun j j0 j1=>by rw[h j j0 (by omega)]]
theorem IV{i v s:Int}(i0:0≤i)(i1:i<C.C)(hD:P.D i=true)(h1:bF (w (C.chunk i))=s)(h2:bF v≠s):kS C P w s=kS C P (aX w (C.chunk i) v) s+1:=by
 unfold kS
 rw[BT (i:=i) (g:=fun j=>P.D j&&decide (bF (aX w (C.chunk i) v (C.chunk j))=s)) (by simp[hD,h1]) (by simp[aE,h2]) i0 (by omega) fun j j0 j1 e=>by rw[az _ _ (gK e).1]]
 omega
theorem UI{i v s:Int}(i0:0≤i)(i1:i<C.C)(hD:P.D i=true)(h1:bF (w (C.chunk i))≠s)(h2:bF v=s):kS C P (aX w (C.chunk i) v) s=kS C P w s+1:=by
 unfold kS
 rw[BT (i:=i) (f:=fun j=>P.D j&&decide (bF (aX w (C.chunk i) v (C.chunk j))=s)) (g:=fun j=>P.D j&&decide (bF (w (C.chunk j))=s)) (by simp[hD,h2,aE]) (by simp[h1]) i0 (by omega) fun j j0 j1 e=>by rw[az _ _ (gK e).1]]
 omega
theorem BA{i v s:Int}(h1:bF (w (C.chunk i))≠s)(h2:bF v≠s):kS C P (aX w (C.chunk i) v) s=kS C P w s:=by
 unfold kS
 rw[kh fun j j0 j1=>?_]
 by_cases e:j=i
 ·subst e;rw[aE];simp[h1,h2]
 ·rw[az _ _ (gK e).1]
theorem FW{s j:Int}(h:kS C P w s=0)(j0:0≤j)(j1:j<C.C)(hD:P.D j=true):bF (w (C.chunk j))≠s:=by
 have:=Dl (f:=fun j=>P.D j&&decide (bF (w (C.chunk j))=s)) (n:=C.C.toNat) (by unfold kS at h;omega) j j0 (by omega)
 simpa[hD]using this
theorem BB{s:Int}(h:∀ j,0≤j→j<C.C→P.D j=true→bF (w (C.chunk j))≠s):kS C P w s=0:=by
 unfold kS
 rw[JD fun j j0 j1=>?_]
 ·rfl
 ·cases q:P.D j with
  | false=>rfl
  | true=>simpa using h j j0 (by omega) q
structure Ctl(C:Cf)(P:TP)(w:Int→Int)(pc at' pos cw:Int)(seen:List Sn)(a:Option fQ)(s:Option dR)(m:Mv):Prop where
 pb:0≤pc∧pc≤11∧pc≠9
 p5:pc=5→nF (w (C.base at'+pos))=2∧m=Mv.new (C.base at'+pos) (nF (w (C.base at'+pos))) (gH (w (C.base at'+pos))) (tx (w (C.base at'+pos))) (E3 (w (C.base at'+pos))) (sy (w (C.base at'+pos)))
 p0:pc=0→(0≤at'∧at'<C.C)∧(at'≠0→(seen.length:Int)=at'∧∀ i:Nat,(i:Int)<at'→seen[i]?=some (gF C w 0 i))
 p1:pc=1→(0≤at'∧at'<C.C)∧(seen.length:Int)=at'+1∧(∀ i:Nat,(i:Int)<at'→seen[i]?=some (gF C w 0 i))∧seen[at'.toNat]?=some (CD (w (C.chunk at')))
 p2:pc=2→(0≤at'∧at'<4)∧(seen.length:Int)=C.C∧∀ i:Nat,(i:Int)<C.C→seen[i]?=some (gF C w at' i)
 p3:pc=3→(0≤at'∧at'<C.C)∧P.D at'=true∧bF (w (C.chunk at'))=1∧cw=w (C.chunk at')
 p4:pc=4∨pc=5→0≤pos∧pos<bD (P.w0 (C.chunk at'))∧pos % aA (bL (P.w0 (C.chunk at')))=0
 p8:4≤pc→pc≤8→(0≤at'∧at'<C.C)∧P.D at'=true∧bF cw=2∧cw=w (C.chunk at')
 m7:pc=10→∀ v,a=some v→v.now=w 0∧(v.pc=1∧0≤v.at'∧v.at'<C.T∨v.pc=2∧0≤v.at'∧(P.pn=true→w 0=P.e0))
 an:pc≠10→a=none
 oo:pc=11→(0≤at'∧at'<C.C)∧∀ v,s=some v→v.ch=at'∧P.D at'=true∧bF (w (C.chunk at'))=3∧v.w=w (C.chunk at')∧v.iw=false∧(v.pc=1∧v.at'=0∨v.pc=2∧v.at'=0∧v.since=w (C.chunk at'+2) ∨
   P.pn=false∧(v.pc=3∧(0≤v.at'∧v.at'<bD (P.w0 (C.chunk at')))∧(∀ x,0≤x→x<v.at'→w (C.base at'+x)=0)∨(v.pc=4∨v.pc=5)∧∀ x,0≤x→x<bD (P.w0 (C.chunk at'))→w (C.base at'+x)=0))
 sn:pc≠11→s=none
 sY:∀ j,0≤j→j<C.C→P.D j=true→bF (w (C.chunk j))=2→4≤pc∧pc≤8∧j=at'
structure Te(C:Cf)(P:TP)(w:Int→Int)(pc ev fd lf mo iK rd idle:Int):Prop where
 ck:ev+(if 4≤pc∧pc≤8 then 1 else 0)+kS C P w 1=P.K0
 cq:kS C P w 3+fd=ev
 z:lf=0∧mo=0∧iK=0
 nn:0≤fd∧0≤idle∧idle≤rd∧P.r0≤rd∧0≤P.r0
structure Sx(C:Cf)(P:TP)(w:Int→Int)(pc at' now ev fJ fd iE rd idle:Int):Prop where
 e:0≤w 0∧w 0≤P.e0+(rd-P.r0)+(if pc=11 then 1 else 0)
 kt:kS C P w 1+(rd-P.r0)+(if 4≤pc then 1 else 0)≤P.Ks∨kS C P w 1=0
 eb:fJ≤ev∧(ev≠fJ→rd-P.r0+1≤P.Ks)∧(pc≤8→ev=fJ)∧(4≤pc→pc≤8→rd-P.r0+1≤P.Ks)
 n7:pc=7→0≤now∧now≤w 0∧(P.pn=true→P.e0≤now)
 n8:pc=8→0≤w (C.chunk at'+2)∧w (C.chunk at'+2)≤w 0∧(P.pn=true→P.e0≤w (C.chunk at'+2))
 uq:P.pn=false→pc≤10→∀ j,0≤j→j<C.C→P.D j=true→bF (w (C.chunk j))=3→w (C.chunk j+2)+1≤w 0∨w (C.chunk j+2)≤w 0∧(rd=P.r0∨pc=10∧ev≠fJ)
 us:P.pn=false→pc=11→∀ j,0≤j→j<C.C→P.D j=true→bF (w (C.chunk j))=3→w (C.chunk j+2)+1≤w 0∧(w (C.chunk j+2)+2≤w 0∧at'≤j∨ev≠fJ∨rd=P.r0)
 fq:P.pn=false→P.Ks+2≤rd-P.r0→kS C P w 3=0∧fd=iE
 fi:P.pn=false→P.Ks+3≤rd-P.r0→1≤idle
 pq:P.pn=true→P.e0≤w 0∧w 0≤P.e0+1∧fd=0∧∀ j,0≤j→j<C.C→P.D j=true→bF (w (C.chunk j))=3→P.e0≤w (C.chunk j+2)∧w (C.chunk j+2)≤w 0
 ks:0≤P.Ks
structure TI(C:Cf)(P:TP)(c:Co)(A:Ar):Prop where
 st:TS C P
 nn:C.len≤A.n∧(A.n:Int)≤200000000
 jF:∀ i,0≤A.w i∧A.w i<18446744073709551616
 tw:TW C P A.w
 cl:Ctl C P A.w c.r.pc c.r.at' c.r.pos c.r.w c.seen c.a c.s c.m
 nm:Te C P A.w c.r.pc c.r.ev c.r.fd c.r.lf c.r.mo c.r.iK c.r.rd c.r.idle
 tm:Sx C P A.w c.r.pc c.r.at' c.r.now c.r.ev c.r.fJ c.r.fd c.r.iE c.r.rd c.r.idle
theorem TI.of{pc at' pos cw now ev lf fd mo rd fJ mz iE iK my idle:Int}{x1 x6 x7 x8:Value}{seen:List Sn}{a:Option fQ}{s:Option dR}{m:Mv}{A:Ar}(w:Int→Int)(e:A.w=w)(hS:TS C P)(nn:C.len≤A.n∧(A.n:Int)≤200000000)(jF:∀ i,0≤w i∧w i<18446744073709551616)
  (tw:TW C P w) (cl:Ctl C P w pc at' pos cw seen a s m) (nm:Te C P w pc ev fd lf mo iK rd idle) (tm:Sx C P w pc at' now ev fJ fd iE rd idle) :
  TI C P ⟨⟨pc,x1,at',pos,cw,now,x6,x7,x8,ev,lf,fd,mo,rd,fJ,mz,iE,iK,my,idle⟩,seen,a,s,m⟩ A:=by subst e;exact⟨hS,nn,jF,tw,cl,nm,tm⟩
def DC:Option fQ→Int
 | none=>0
 | some a=>if a.pc=1 then 1+a.at' else 10
def yx:Option dR→Int
 | none=>0
 | some s=>if s.pc≤2 then s.pc else if s.pc=3 then 3+s.at' else 40+s.pc
def bs(C:Cf)(c:Co):Int:=
 if c.r.pc=0 then 2*(C.C-c.r.at')+620 else if c.r.pc=1 then 2*(C.C-c.r.at')+619 else if c.r.pc=2 then 620-c.r.at' else if c.r.pc=3 then 615
 else if c.r.pc=4 then 530+2*(bD c.r.w-c.r.pos)else if c.r.pc=5 then 529+2*(bD c.r.w-c.r.pos)else if c.r.pc=6 then 529 else if c.r.pc=7 then 528 else if c.r.pc=8 then 527 else if c.r.pc=10 then 520-DC c.a else 50*(C.C-c.r.at')-yx c.s
theorem Te.aL{w':Int→Int}{pc Mz ev fd lf mo iK rd idle:Int}(h:Te C P w pc ev fd lf mo iK rd idle)(hw:∀ j,0≤j→j<C.C→w' (C.chunk j)=w (C.chunk j))(hp:(4≤pc∧pc≤8) ↔(4≤Mz∧Mz≤8)):Te C P w' Mz ev fd lf mo iK rd idle:=by
 refine⟨?_,by rw[jz hw];exact h.cq,h.z,h.nn⟩
 have:=h.ck
 rw[jz hw]
 by_cases q:4≤pc∧pc≤8
 ·rw[af q]at this;rw[af (hp.1 q)];exact this
 ·rw[ae q]at this;rw[ae fun r=>q (hp.2 r)];exact this
section
variable{c:Co}
theorem TI.s0(hC:C.ok)(h:TI C P c A)(hp:c.r.pc=0)(r:Int):TI C P (c.step C (-1) A r).1 (c.step C (-1) A r).2∧(c.step C (-1) A r).1.r.rd=c.r.rd∧bs C (c.step C (-1) A r).1<bs C c:=by
 have st:c.step C (-1) A r=({ c with seen:=(if c.r.at'=0 then []else c.seen)++[CD (A.w (C.chunk c.r.at'))],r:={ c.r with pc:=1 } },(A.by (-1)).load (C.chunk c.r.at')):=by unfold Co.step;rw[af hp]
 rw[st]
 obtain⟨hS,nn,jF,tw,cl,nm,tm⟩:=h
 rw[hp]at cl nm tm
 obtain⟨⟨a0,a1⟩,hs⟩:=cl.p0 rfl
 refine⟨TI.of (pc:=1) A.w rfl hS nn jF tw ?_ (nm.aL (fun _ _ _=>rfl) (by constructor<;>omega)) ⟨tm.e,?_,⟨tm.eb.1,tm.eb.2.1,fun _=>tm.eb.2.2.1 (by decide),fun q=>absurd q (by decide)⟩,fun q=>absurd q (by decide),fun q=>absurd q (by decide),fun a b j j0 j1 d q=>?_,fun _ q=>absurd q (by decide),tm.fq,tm.fi,tm.pq,tm.ks⟩,rfl,?_⟩
 ·have hl:((if c.r.at'=0 then []else c.seen).length:Int)=c.r.at':=by
   by_cases z:c.r.at'=0
   ·rw[af z,z];rfl
   ·rw[ae z];exact(hs z).1
  refine⟨by decide,fun q=>absurd q (by decide),fun q=>absurd q (by decide),fun _=>⟨⟨a0,a1⟩,by rw[List.length_append];show((_+1:Nat):Int)=_;omega,fun i hi=>?_,?_⟩,fun q=>absurd q (by decide),fun q=>absurd q (by decide),fun q=>absurd q (by decide),fun q=>absurd q (by decide),fun q=>absurd q (by decide),fun _=>cl.an (by decide),fun q=>absurd q (by decide),fun _=>cl.sn (by decide),fun j j0 j1 d q=>absurd (cl.sY j j0 j1 d q).1 (by decide)⟩
  ·rw[List.getElem?_append_left (by omega)]
   have z:c.r.at'≠0:=by omega
   rw[ae z];exact(hs z).2 i hi
  ·rw[List.getElem?_append_right (by omega),show c.r.at'.toNat-(if c.r.at'=0 then []else c.seen).length=0 by omega];rfl
 ·have:=tm.kt;rw[ae (by decide)]at this ⊢;exact this
 ·rcases tm.uq a (by decide) j j0 j1 d q with q|⟨q,q'|q'⟩
  ·exact .inl q
  ·exact .inr ⟨q,.inl q'⟩
  ·exact absurd q'.1 (by decide)
 ·unfold bs;dsimp only;rw[ae (by decide),af rfl,af hp];omega
theorem TI.s1(hC:C.ok)(h:TI C P c A)(hp:c.r.pc=1)(r:Int):TI C P (c.step C (-1) A r).1 (c.step C (-1) A r).2∧(c.step C (-1) A r).1.r.rd=c.r.rd∧bs C (c.step C (-1) A r).1<bs C c:=by
 have st:c.step C (-1) A r=({ c with seen:=oq c.seen c.r.at'.toNat (IntKind.i64.wrap (A.w (C.chunk c.r.at'+1))),r:={ c.r with at':=if C.C≤c.r.at'+1 then 0 else c.r.at'+1,pc:=if C.C≤c.r.at'+1 then 2 else 0 } },(A.by (-1)).load (C.chunk c.r.at'+1)):=by unfold Co.step;rw[ae (by omega),af hp]
 rw[st]
 obtain⟨hS,nn,jF,tw,cl,nm,tm⟩:=h
 rw[hp]at cl nm tm
 obtain⟨⟨a0,a1⟩,hl,hs,hx⟩:=cl.p1 rfl
 have el:∀ i:Nat,(i:Int)≤c.r.at'→(oq c.seen c.r.at'.toNat (IntKind.i64.wrap (A.w (C.chunk c.r.at'+1))))[i]?=some (gF C A.w 0 i):=fun i hi=>by
  by_cases e:(i:Int)=c.r.at'
  ·have ei:i=c.r.at'.toNat:=by omega
   subst ei
   rw[zi hx,af rfl,e]
   unfold gF CD;rw[Us]
  ·rw[zi (hs i (by omega)),ae (by omega)]
 have e1:(if C.C≤c.r.at'+1 then(2:Int)else 0)≤2∧0≤(if C.C≤c.r.at'+1 then(2:Int)else 0):=by split<;>decide
 have tmk:Sx C P A.w (if C.C≤c.r.at'+1 then 2 else 0) (if C.C≤c.r.at'+1 then 0 else c.r.at'+1) c.r.now c.r.ev c.r.fJ c.r.fd c.r.iE c.r.rd c.r.idle:=by
  refine⟨?_,?_,⟨tm.eb.1,tm.eb.2.1,fun _=>tm.eb.2.2.1 (by decide),fun q=>by omega⟩,fun q=>by omega,fun q=>by omega,fun a b j j0 j1 d q=>?_,fun _ q=>by omega,tm.fq,tm.fi,tm.pq,tm.ks⟩
  ·have:=tm.e;rw[ae (by decide)]at this;rw[ae (by omega)];exact this
  ·have:=tm.kt;rw[ae (by decide)]at this;rw[ae (by omega)];exact this
  ·rcases tm.uq a (by decide) j j0 j1 d q with q|⟨q,q'|q'⟩
   ·exact .inl q
   ·exact .inr ⟨q,.inl q'⟩
   ·exact absurd q'.1 (by decide)
 refine⟨TI.of (pc:=if C.C≤c.r.at'+1 then 2 else 0) (at':=if C.C≤c.r.at'+1 then 0 else c.r.at'+1) A.w rfl hS nn jF tw ?_ (nm.aL (fun _ _ _=>rfl) (by omega)) tmk,rfl,?_⟩
 ·by_cases z:C.C≤c.r.at'+1
  ·simp only[af z]
   refine⟨by decide,fun q=>absurd q (by decide),fun q=>absurd q (by decide),fun q=>absurd q (by decide),fun _=>⟨by decide,by rw[oR];omega,fun i hi=>el i (by omega)⟩,fun q=>absurd q (by decide),fun q=>absurd q (by decide),fun q=>absurd q (by decide),fun q=>absurd q (by decide),fun _=>cl.an (by decide),fun q=>absurd q (by decide),fun _=>cl.sn (by decide),fun j j0 j1 d q=>absurd (cl.sY j j0 j1 d q).1 (by decide)⟩
  ·simp only[ae z]
   refine⟨by decide,fun q=>absurd q (by decide),fun _=>⟨⟨by omega,by omega⟩,fun _=>⟨by rw[oR];omega,fun i hi=>el i (by omega)⟩⟩,fun q=>absurd q (by decide),fun q=>absurd q (by decide),fun q=>absurd q (by decide),fun q=>absurd q (by decide),fun q=>absurd q (by decide),fun q=>absurd q (by decide),fun _=>cl.an (by decide),fun q=>absurd q (by decide),fun _=>cl.sn (by decide),fun j j0 j1 d q=>absurd (cl.sY j j0 j1 d q).1 (by decide)⟩
 ·unfold bs;dsimp only
  by_cases z:C.C≤c.r.at'+1
  ·simp only[af z];rw[ae (by decide),ae (by decide),af (by decide),ae (by omega),af hp];omega
  ·simp only[ae z];rw[af (by decide),ae (by omega),af hp];omega
theorem TI.s2(hC:C.ok)(h:TI C P c A)(hp:c.r.pc=2)(r:Int)(hr:c.may C A r):TI C P (c.step C (-1) A r).1 (c.step C (-1) A r).2∧(c.step C (-1) A r).1.r.rd=c.r.rd∧bs C (c.step C (-1) A r).1<bs C c:=by
 obtain⟨hS,nn,jF,tw,cl,nm,tm⟩:=h
 have cl':=cl;have bU:=nm;have tm':=tm
 rw[hp]at cl nm tm
 obtain⟨⟨a0,a1⟩,hl,hs⟩:=cl.p2 rfl
 have el:∀ i:Nat,(i:Int)<C.C→(m8 c.seen (A.w (2+c.r.at')))[i]?=some (gF C A.w (c.r.at'+1) i):=fun i hi=>ID a0 a1 (hs i hi)
 have uq':∀ Mz,P.pn=false→∀ j,0≤j→j<C.C→P.D j=true→bF (A.w (C.chunk j))=3→A.w (C.chunk j+2)+1≤A.w 0∨A.w (C.chunk j+2)≤A.w 0∧(c.r.rd=P.r0∨Mz=(10:Int)∧c.r.ev≠c.r.fJ):=fun Mz a j j0 j1 d q=>by
  rcases tm.uq a (by decide) j j0 j1 d q with q|⟨q,q'|q'⟩
  ·exact .inl q
  ·exact .inr ⟨q,.inl q'⟩
  ·exact absurd q'.1 (by decide)
 by_cases c4:c.r.at'+1<4
 ·have st:c.step C (-1) A r=({ c with seen:=m8 c.seen (A.w (2+c.r.at')),r:={ c.r with at':=c.r.at'+1 } },(A.by (-1)).load (2+c.r.at')):=by unfold Co.step;rw[ae (by omega),ae (by omega),af hp,af c4]
  rw[st]
  refine⟨TI.of (pc:=c.r.pc) (at':=c.r.at'+1) A.w rfl hS nn jF tw ?_ bU ?_,rfl,?_⟩
  ·rw[hp]
   refine⟨by decide,fun q=>absurd q (by decide),fun q=>absurd q (by decide),fun q=>absurd q (by decide),fun _=>⟨⟨by omega,c4⟩,by rw[vf];exact hl,el⟩,fun q=>absurd q (by decide),fun q=>absurd q (by decide),fun q=>absurd q (by decide),fun q=>absurd q (by decide),fun _=>cl.an (by decide),fun q=>absurd q (by decide),fun _=>cl.sn (by decide),fun j j0 j1 d q=>absurd (cl.sY j j0 j1 d q).1 (by decide)⟩
  ·rw[hp]
   exact⟨tm.e,tm.kt,tm.eb,fun q=>absurd q (by decide),fun q=>absurd q (by decide),tm.uq,fun _ q=>absurd q (by decide),tm.fq,tm.fi,tm.pq,tm.ks⟩
  ·unfold bs;dsimp only;rw[ae (by omega),ae (by omega),af hp,ae (by omega),ae (by omega),af hp];omega
 have e3:c.r.at'=3:=by omega
 obtain⟨kW,r0,r1⟩:=hr.1 hp c4
 rw[e3]at el
 by_cases rn:r<0
 ·have U':∀ x∈m8 c.seen (A.w (2+c.r.at')),¬ x.may C:=by
   rcases kW with⟨_,q⟩|⟨q,_⟩
   ·exact q
   ·omega
  have kz:kS C P A.w 1=0:=BB fun j j0 j1 d q=>by
   have hm:=(tw.may hS hC j0 j1).2 ⟨d,q⟩
   have:=el j.toNat (by omega)
   rw[show((j.toNat:Nat):Int)=j by omega,←e3]at this
   exact U' _ (List.mem_iff_getElem?.2 ⟨_,this⟩) (by rw[e3];exact hm)
  have st:c.step C (-1) A r=({ c with seen:=m8 c.seen (A.w (2+c.r.at')),r:={ c.r with at' := -1,pc:=10 } },(A.by (-1)).load (2+c.r.at')):=by unfold Co.step;rw[ae (by omega),ae (by omega),af hp,ae c4,af rn]
  rw[st]
  refine⟨TI.of (pc:=10) (at' := -1) A.w rfl hS nn jF tw ?_ (nm.aL (fun _ _ _=>rfl) (by constructor<;>omega)) ?_,rfl,?_⟩
  ·refine⟨by decide,fun q=>absurd q (by decide),fun q=>absurd q (by decide),fun q=>absurd q (by decide),fun q=>absurd q (by decide),fun q=>absurd q (by decide),fun q=>absurd q (by decide),fun _ q=>absurd q (by decide),fun _ v e=>?_,fun q=>absurd rfl q,fun q=>absurd q (by decide),fun _=>cl.sn (by decide),fun j j0 j1 d q=>absurd (cl.sY j j0 j1 d q).1 (by decide)⟩
   rw[show c.a=none from cl.an (by decide)]at e;cases e
  ·refine⟨?_,.inr kz,⟨tm.eb.1,tm.eb.2.1,fun q=>absurd q (by decide),fun _ q=>absurd q (by decide)⟩,fun q=>absurd q (by decide),fun q=>absurd q (by decide),fun a _=>uq' 10 a,fun _ q=>absurd q (by decide),tm.fq,tm.fi,tm.pq,tm.ks⟩
   have:=tm.e;rw[ae (by decide)]at this ⊢;exact this
  ·unfold bs;dsimp only;rw[ae (by decide),ae (by decide),ae (by decide),ae (by decide),ae (by decide),ae (by decide),ae (by decide),ae (by decide),af rfl,ae (by omega),ae (by omega),af hp,cl.an (by decide)];show 520-(0:Int)<_;omega
 ·obtain⟨x,hx,hm⟩:∃ x,(m8 c.seen (A.w (2+c.r.at')))[r.toNat]?=some x∧x.may C:=by
   rcases kW with⟨q,_⟩|⟨_,q⟩
   ·omega
   ·exact q
  have zm:=el r.toNat (by omega)
  rw[show((r.toNat:Nat):Int)=r by omega,←e3,hx]at zm
  obtain rfl:x=gF C A.w (c.r.at'+1) r:=by injection zm
  obtain⟨hD,zo⟩:=(tw.may hS hC (by omega) r1).1 (by rw[show(4:Int)=c.r.at'+1 by omega];exact hm)
  have ew:vq (m8 c.seen (A.w (2+c.r.at'))) r.toNat=A.w (C.chunk r):=by
   unfold vq;rw[hx]
   exact yL (jF _).1 (jF _).2
  have st:c.step C (-1) A r=({ c with seen:=m8 c.seen (A.w (2+c.r.at')),r:={ c.r with at':=r,pc:=3,w:=A.w (C.chunk r) } },(A.by (-1)).load (2+c.r.at')):=by unfold Co.step;rw[ae (by omega),ae (by omega),af hp,ae c4,ae rn,ew]
  rw[st]
  refine⟨TI.of (pc:=3) (at':=r) A.w rfl hS nn jF tw ?_ (nm.aL (fun _ _ _=>rfl) (by constructor<;>omega)) ?_,rfl,?_⟩
  ·exact⟨by decide,fun q=>absurd q (by decide),fun q=>absurd q (by decide),fun q=>absurd q (by decide),fun q=>absurd q (by decide),fun _=>⟨⟨by show 0≤r;omega,r1⟩,hD,zo,rfl⟩,fun q=>absurd q (by decide),fun q=>absurd q (by decide),fun q=>absurd q (by decide),fun _=>cl.an (by decide),fun q=>absurd q (by decide),fun _=>cl.sn (by decide),fun j j0 j1 d q=>absurd (cl.sY j j0 j1 d q).1 (by decide)⟩
  ·refine⟨?_,?_,⟨tm.eb.1,tm.eb.2.1,fun _=>tm.eb.2.2.1 (by decide),fun q=>absurd q (by decide)⟩,fun q=>absurd q (by decide),fun q=>absurd q (by decide),fun a _=>uq' 3 a,fun _ q=>absurd q (by decide),tm.fq,tm.fi,tm.pq,tm.ks⟩
   ·have:=tm.e;rw[ae (by decide)]at this ⊢;exact this
   ·have:=tm.kt;rw[ae (by decide)]at this ⊢;exact this
  ·unfold bs;dsimp only;rw[ae (by decide),ae (by decide),ae (by decide),af rfl,ae (by omega),ae (by omega),af hp];omega
end
end Go.Fl
namespace Go.Fl
open Go
variable{N:Nm}{A B:Ar}{σ:Mem}{K:Value→Mem→Prop}{C:Cf}{who:Int}{P:TP}{w:Int→Int}
theorem pF{a v:Int}(h:∀ i,0≤w i∧w i<18446744073709551616)(hv:0≤v∧v<18446744073709551616):∀ i,0≤aX w a v i∧aX w a v i<18446744073709551616:=fun i=>by unfold aX;split;exact hv;exact h i
section
variable{c:Co}
theorem TI.s3(hC:C.ok)(h:TI C P c A)(hp:c.r.pc=3)(r:Int):TI C P (c.step C (-1) A r).1 (c.step C (-1) A r).2∧(c.step C (-1) A r).1.r.rd=c.r.rd∧bs C (c.step C (-1) A r).1<bs C c:=by
 obtain⟨hS,nn,jF,tw,cl,nm,tm⟩:=h
 rw[hp]at cl nm tm
 obtain⟨⟨a0,a1⟩,hD,zo,hw⟩:=cl.p3 rfl
 have st:c.step C (-1) A r=({ c with r:={ c.r with pos:=0,pc:=4,w:=jX c.r.w 2 } },(A.by (-1)).store (C.chunk c.r.at') (jX c.r.w 2)):=by
  unfold Co.step;rw[ae (by omega),ae (by omega),ae (by omega),af hp,af hw.symm,af hw.symm,cx (by exact hw.symm)]
 rw[st]
 obtain⟨v1,v2,v3,v4⟩:=se (w:=c.r.w) (st:=2) (by decide)
 have rU:=tw.one _ a0 a1 hD zo
 have S2:=hS.dd _ a0 a1 hD
 have b:=cP hC a0 a1
 have CX:aX A.w (C.chunk c.r.at') (jX c.r.w 2) 0=A.w 0:=az _ _ (by omega)
 have w2:∀ j,aX A.w (C.chunk c.r.at') (jX c.r.w 2) (C.chunk j+2)=A.w (C.chunk j+2):=fun j=>az _ _ (by unfold Cf.chunk;omega)
 have q3:∀ j,bF (aX A.w (C.chunk c.r.at') (jX c.r.w 2) (C.chunk j))=3→bF (A.w (C.chunk j))=3:=fun j q=>by
  by_cases e:j=c.r.at'
  ·subst e;rw[aE,v1]at q;exact absurd q (by decide)
  ·rwa [az _ _ (gK e).1]at q
 have k1:=IV (P:=P) (w:=A.w) (v:=jX c.r.w 2) a0 a1 hD zo (by rw[v1];decide)
 have k3:=BA (P:=P) (w:=A.w) (i:=c.r.at') (v:=jX c.r.w 2) (s:=3) (by rw[zo];decide) (by rw[v1];decide)
 have kn:=zk (C:=C) (P:=P) (w:=aX A.w (C.chunk c.r.at') (jX c.r.w 2)) (s:=1)
 have hkt:=tm.kt
 rw[ae (by decide)]at hkt
 refine⟨TI.of (pc:=4) (pos:=0) (cw:=jX c.r.w 2) (aX A.w (C.chunk c.r.at') (jX c.r.w 2)) rfl hS nn (pF jF v4) ?_ ?_ ?_ ?_,rfl,?_⟩
 ·exact tw.ck hC a0 a1 hD (by rw[v1];decide) (fun _ x x0 x1=>tw.wd _ x a0 a1 hD (.inl zo) x0 x1) (fun _=>⟨by rw[v3,hw,rU.1],by rw[v2,hw,rU.1]⟩) (fun q=>by rw[v1]at q;exact absurd q (by decide)) (fun q=>by rw[v1]at q;exact absurd q (by decide))
 ·refine⟨by decide,fun q=>absurd q (by decide),fun q=>absurd q (by decide),fun q=>absurd q (by decide),fun q=>absurd q (by decide),fun q=>absurd q (by decide),fun _=>⟨Int.le_refl 0,S2.2.1.1,by rw[Int.zero_emod]⟩,fun _ _=>⟨⟨a0,a1⟩,hD,v1,(aE _ _ _).symm⟩,fun q=>absurd q (by decide),fun _=>cl.an (by decide),fun q=>absurd q (by decide),fun _=>cl.sn (by decide),fun j j0 j1 d q=>?_⟩
  by_cases e:j=c.r.at'
  ·exact⟨by decide,by decide,e⟩
  ·rw[az _ _ (gK e).1]at q;exact absurd (cl.sY j j0 j1 d q).1 (by decide)
 ·have:=nm.ck;rw[ae (by decide)]at this
  exact⟨by rw[af (by decide)];omega,by rw[k3];exact nm.cq,nm.z,nm.nn⟩
 ·refine⟨by rw[CX];have:=tm.e;rw[ae (by decide)]at this ⊢;exact this,by rw[af (by decide)];omega,⟨tm.eb.1,tm.eb.2.1,fun _=>tm.eb.2.2.1 (by decide),fun _ _=>by omega⟩,fun q=>absurd q (by decide),fun q=>absurd q (by decide),fun a _ j j0 j1 d q=>?_,fun _ q=>absurd q (by decide),fun a b=>by rw[k3];exact tm.fq a b,tm.fi,fun a=>?_,tm.ks⟩
  ·rw[w2,CX]
   rcases tm.uq a (by decide) j j0 j1 d (q3 j q)with q|⟨q,q'|q'⟩
   ·exact .inl q
   ·exact .inr ⟨q,.inl q'⟩
   ·exact absurd q'.1 (by decide)
  ·rw[CX]
   have:=tm.pq a
   exact⟨this.1,this.2.1,this.2.2.1,fun j j0 j1 d q=>by rw[w2];exact this.2.2.2 j j0 j1 d (q3 j q)⟩
 ·have hW:=hS.cc
  unfold bs;dsimp only;rw[ae (by decide),ae (by decide),ae (by decide),ae (by decide),af rfl,ae (by omega),ae (by omega),ae (by omega),af hp,v3,hw,rU.1];omega
theorem TI.head(hC:C.ok)(h:TI C P c A)(hp:c.r.pc=4∨c.r.pc=5):((0≤c.r.at'∧c.r.at'<C.C)∧P.D c.r.at'=true)∧(0≤c.r.pos∧c.r.pos<bD c.r.w)∧c.r.pos % aA (bL c.r.w)=0∧(0≤bL c.r.w∧bL c.r.w≤3)∧(bL c.r.w=bL (P.w0 (C.chunk c.r.at'))∧bD c.r.w=bD (P.w0 (C.chunk c.r.at')))∧bD c.r.w≤C.W∧C_ C A.w (C.base c.r.at'+c.r.pos):=by
 obtain⟨hS,nn,jF,tw,cl,nm,tm⟩:=h
 obtain⟨⟨a0,a1⟩,hD,SW,hw⟩:=cl.p8 (by omega) (by omega)
 obtain⟨p0,p1,pm⟩:=cl.p4 hp
 have S2:=hS.dd _ a0 a1 hD
 have yO:bF (A.w (C.chunk c.r.at'))=2:=by rw[←hw];exact SW
 have RA:=tw.qu _ a0 a1 hD (.inl yO)
 have eC:bL c.r.w=bL (P.w0 (C.chunk c.r.at')):=by rw[hw];exact RA.2
 have eU:bD c.r.w=bD (P.w0 (C.chunk c.r.at')):=by rw[hw];exact RA.1
 have cb:=xV (P.w0 (C.chunk c.r.at'))
 have ea:A.w (C.base c.r.at'+c.r.pos)=P.w0 (C.base c.r.at'+c.r.pos):=tw.wd _ _ a0 a1 hD (.inr yO) p0 (by omega)
 refine⟨⟨⟨a0,a1⟩,hD⟩,⟨p0,by omega⟩,by rw[eC];exact pm,by omega,⟨eC,eU⟩,by omega,?_⟩
 have hh:=S2.2.2.2.2.2 _ p0 p1 pm
 unfold C_ at *
 rw[ea]
 rcases hh with q|⟨q1,q2,q3,q4⟩
 ·exact .inl q
 ·have low:=Bx hC
  have es:=tw.low hC (i:=C.slot (tx (P.w0 (C.base c.r.at'+c.r.pos)))) (by have:=hC.T;unfold Cf.slot;omega) (by have:=hC.T;unfold Cf.slot;omega)
  exact .inr ⟨q1,q2,q3,by rw[es];exact q4⟩
theorem TI.on(hC:C.ok)(h:TI C P c A)(hp:c.r.pc=4∨c.r.pc=5){A':Ar}(F0:A'.w=A.w)(yP:A'.n=A.n)(m':Mv):TI C P { c with r:=c.r.next (bL c.r.w) (bD c.r.w),m:=m' } A'∧({ c with r:=c.r.next (bL c.r.w) (bD c.r.w),m:=m' }:Co).r.rd=c.r.rd∧bs C { c with r:=c.r.next (bL c.r.w) (bD c.r.w),m:=m' }<bs C c:=by
 obtain⟨⟨⟨a0,a1⟩,hD⟩,⟨p0,p1⟩,pm,cb,⟨eC,eU⟩,uW,hh⟩:=h.head hC hp
 obtain⟨hS,nn,jF,tw,cl,nm,tm⟩:=h
 have rb:=bR cb.1 cb.2
 have e46:(if bD c.r.w≤c.r.pos+aA (bL c.r.w)then(6:Int)else 4)=6∧bD c.r.w≤c.r.pos+aA (bL c.r.w)∨(if bD c.r.w≤c.r.pos+aA (bL c.r.w)then(6:Int)else 4)=4∧c.r.pos+aA (bL c.r.w)<bD c.r.w:=by split<;>omega
 refine⟨TI.of (pc:=if bD c.r.w≤c.r.pos+aA (bL c.r.w)then(6:Int)else 4) (pos:=c.r.pos+aA (bL c.r.w)) (m:=m') A.w F0 hS (by rw[yP];exact nn) jF tw ?_ (nm.aL (fun _ _ _=>rfl) (by omega)) ?_,rfl,?_⟩
 ·have hp8:=cl.p8 (by omega) (by omega)
  generalize (if bD c.r.w≤c.r.pos+aA (bL c.r.w)then(6:Int)else 4)=Mz at *
  refine⟨by omega,fun q=>by omega,fun q=>by omega,fun q=>by omega,fun q=>by omega,fun q=>by omega,fun q=>⟨by omega,by omega,by rw[←eC,Int.add_emod_right];exact pm⟩,fun _ _=>hp8,fun q=>by omega,fun _=>cl.an (by omega),fun q=>by omega,fun _=>cl.sn (by omega),fun j j0 j1 d q=>⟨by omega,by omega,(cl.sY j j0 j1 d q).2.2⟩⟩
 ·generalize (if bD c.r.w≤c.r.pos+aA (bL c.r.w)then(6:Int)else 4)=Mz at *
  refine⟨?_,?_,⟨tm.eb.1,tm.eb.2.1,fun _=>tm.eb.2.2.1 (by omega),fun _ _=>tm.eb.2.2.2 (by omega) (by omega)⟩,fun q=>by omega,fun q=>by omega,fun a _ j j0 j1 d q=>?_,fun _ q=>by omega,tm.fq,tm.fi,tm.pq,tm.ks⟩
  ·have:=tm.e;rw[ae (by omega)]at this;rw[ae (by omega)];exact this
  ·have:=tm.kt;rw[af (by omega)]at this;rw[af (by omega)];exact this
  ·rcases tm.uq a (by omega) j j0 j1 d q with q|⟨q,q'|q'⟩
   ·exact .inl q
   ·exact .inr ⟨q,.inl q'⟩
   ·have:=q'.1;omega
 ·have hl:529+2*(bD c.r.w-c.r.pos)≤bs C c:=by
   unfold bs
   rw[ae (show ¬ c.r.pc=0 by omega),ae (show ¬ c.r.pc=1 by omega),ae (show ¬ c.r.pc=2 by omega),ae (show ¬ c.r.pc=3 by omega)]
   rcases hp with q|q
   ·rw[af q];omega
   ·rw[ae (show ¬ c.r.pc=4 by omega),af q];omega
  refine Int.lt_of_lt_of_le ?_ hl
  unfold bs Cr.next;dsimp only
  rcases e46 with⟨e,le⟩|⟨e,le⟩
  ·rw[e];rw[ae (by decide),ae (by decide),ae (by decide),ae (by decide),ae (by decide),ae (by decide),af rfl];omega
  ·rw[e];rw[ae (by decide),ae (by decide),ae (by decide),ae (by decide),af rfl];omega
theorem TI.s4(hC:C.ok)(h:TI C P c A)(hp:c.r.pc=4)(r:Int):TI C P (c.step C (-1) A r).1 (c.step C (-1) A r).2∧(c.step C (-1) A r).1.r.rd=c.r.rd∧bs C (c.step C (-1) A r).1<bs C c:=by
 have hd:=h.head hC (.inl hp)
 have hg:=hd.2.2.2.2.2.2
 by_cases hh:nF (A.w (C.base c.r.at'+c.r.pos))=3
 ·have st:c.step C (-1) A r=({ c with r:=c.r.next (bL c.r.w) (bD c.r.w) },(A.by (-1)).load (C.base c.r.at'+c.r.pos)):=by
   unfold Co.step;rw[ae (by omega),ae (by omega),ae (by omega),ae (by omega),af hp,af hh]
  rw[st]
  exact h.on (A':=(A.by (-1)).load (C.base c.r.at'+c.r.pos)) hC (.inl hp) rfl rfl c.m
 have h2:nF (A.w (C.base c.r.at'+c.r.pos))=2:=by
  rcases hg with q|q
  ·exact absurd q hh
  ·exact q.1
 have st:c.step C (-1) A r=({ c with r:={ c.r with pc:=5 },m:=Mv.new (C.base c.r.at'+c.r.pos) (nF (A.w (C.base c.r.at'+c.r.pos))) (gH (A.w (C.base c.r.at'+c.r.pos))) (tx (A.w (C.base c.r.at'+c.r.pos))) (E3 (A.w (C.base c.r.at'+c.r.pos))) (sy (A.w (C.base c.r.at'+c.r.pos))) },(A.by (-1)).load (C.base c.r.at'+c.r.pos)):=by
  unfold Co.step;rw[ae (by omega),ae (by omega),ae (by omega),ae (by omega),af hp,ae hh,af h2]
 rw[st]
 obtain⟨hS,nn,jF,tw,cl,nm,tm⟩:=h
 rw[hp]at cl nm tm
 refine⟨TI.of (pc:=5) (m:=Mv.new (C.base c.r.at'+c.r.pos) (nF (A.w (C.base c.r.at'+c.r.pos))) (gH (A.w (C.base c.r.at'+c.r.pos))) (tx (A.w (C.base c.r.at'+c.r.pos))) (E3 (A.w (C.base c.r.at'+c.r.pos))) (sy (A.w (C.base c.r.at'+c.r.pos)))) A.w rfl hS nn jF tw ?_ (nm.aL (fun _ _ _=>rfl) (by constructor<;>(intro;decide))) ?_,rfl,?_⟩
 ·exact⟨by decide,fun _=>⟨h2,rfl⟩,fun q=>absurd q (by decide),fun q=>absurd q (by decide),fun q=>absurd q (by decide),fun q=>absurd q (by decide),fun _=>cl.p4 (.inl rfl),fun _ _=>cl.p8 (by decide) (by decide),fun q=>absurd q (by decide),fun _=>cl.an (by decide),fun q=>absurd q (by decide),fun _=>cl.sn (by decide),fun j j0 j1 d q=>⟨by decide,by decide,(cl.sY j j0 j1 d q).2.2⟩⟩
 ·refine⟨?_,?_,⟨tm.eb.1,tm.eb.2.1,fun _=>tm.eb.2.2.1 (by decide),fun _ _=>tm.eb.2.2.2 (by decide) (by decide)⟩,fun q=>absurd q (by decide),fun q=>absurd q (by decide),fun a _ j j0 j1 d q=>?_,fun _ q=>absurd q (by decide),tm.fq,tm.fi,tm.pq,tm.ks⟩
  ·have:=tm.e;rw[ae (by decide)]at this ⊢;exact this
  ·have:=tm.kt;rw[af (by decide)]at this ⊢;exact this
  ·rcases tm.uq a (by decide) j j0 j1 d q with q|⟨q,q'|q'⟩
   ·exact .inl q
   ·exact .inr ⟨q,.inl q'⟩
   ·exact absurd q'.1 (by decide)
 ·unfold bs;dsimp only
  rw[ae (show ¬(5:Int)=0 by decide),ae (show ¬(5:Int)=1 by decide),ae (show ¬(5:Int)=2 by decide),ae (show ¬(5:Int)=3 by decide),ae (show ¬(5:Int)=4 by decide),af rfl,
   ae (show ¬ c.r.pc=0 by omega),ae (show ¬ c.r.pc=1 by omega),ae (show ¬ c.r.pc=2 by omega),ae (show ¬ c.r.pc=3 by omega),af hp];omega
theorem TI.s5(hC:C.ok)(h:TI C P c A)(hp:c.r.pc=5)(r:Int):TI C P (c.step C (-1) A r).1 (c.step C (-1) A r).2∧(c.step C (-1) A r).1.r.rd=c.r.rd∧bs C (c.step C (-1) A r).1<bs C c:=by
 have hd:=h.head hC (.inr hp)
 obtain⟨h2,hm⟩:=h.cl.p5 hp
 have hg:b9 (A.w (C.slot c.m.a.hs))≠c.m.a.hg∨a8 (A.w (C.slot c.m.a.hs))≠c.m.a.addr∨cF (A.w (C.slot c.m.a.hs))≠1∧cF (A.w (C.slot c.m.a.hs))≠4:=by
  rw[hm]
  rcases hd.2.2.2.2.2.2 with q|q
  ·rw[q]at h2;exact absurd h2 (by decide)
  ·exact q.2.2.2
 have oT:c.m.a.pc=0∧c.m.a.fX=false:=by rw[hm];exact⟨rfl,rfl⟩
 have e:c.m.step C (-1) A=(true,{ c.m with a:=({ c.m.a with w:=A.w (C.slot c.m.a.hs) }:Mo).mh 2 },(A.by (-1)).load (C.slot c.m.a.hs)):=by
  unfold Mv.step
  rw[af oT.1,ae (by omega),af (by omega),oT.2];rfl
 have st:c.step C (-1) A r=({ c with r:=c.r.next (bL c.r.w) (bD c.r.w),m:={ c.m with a:=({ c.m.a with w:=A.w (C.slot c.m.a.hs) }:Mo).mh 2 } },(A.by (-1)).load (C.slot c.m.a.hs)):=by
  unfold Co.step;rw[ae (by omega),ae (by omega),ae (by omega),ae (by omega),ae (by omega),af hp,e]
  unfold Cr.l6 Mo.mh
  rw[ae (show ¬(true,({ c.m with a:={ ({ c.m.a with w:=A.w (C.slot c.m.a.hs) }:Mo)with out:=2,pc:=if({ c.m.a with w:=A.w (C.slot c.m.a.hs) }:Mo).fX=true then 11 else({ c.m.a with w:=A.w (C.slot c.m.a.hs) }:Mo).pc } }:Mv),(A.by (-1)).load (C.slot c.m.a.hs)).1=false from fun q=>by cases q),ae (show ¬(2:Int)=1 by decide),af (show(2:Int)=2 from rfl)]
 rw[st]
 exact h.on (A':=(A.by (-1)).load (C.slot c.m.a.hs)) hC (.inr hp) rfl rfl { c.m with a:=({ c.m.a with w:=A.w (C.slot c.m.a.hs) }:Mo).mh 2 }
theorem TI.s6(hC:C.ok)(h:TI C P c A)(hp:c.r.pc=6)(r:Int):TI C P (c.step C (-1) A r).1 (c.step C (-1) A r).2∧(c.step C (-1) A r).1.r.rd=c.r.rd∧bs C (c.step C (-1) A r).1<bs C c:=by
 obtain⟨hS,nn,jF,tw,cl,nm,tm⟩:=h
 rw[hp]at cl nm tm
 have st:c.step C (-1) A r=({ c with r:={ c.r with now:=A.w 0,pc:=7 } },(A.by (-1)).load 0):=by
  unfold Co.step;rw[ae (by omega),ae (by omega),ae (by omega),ae (by omega),ae (by omega),ae (by omega),af hp]
 rw[st]
 refine⟨TI.of (pc:=7) (now:=A.w 0) A.w rfl hS nn jF tw ?_ (nm.aL (fun _ _ _=>rfl) (by constructor<;>(intro;decide))) ?_,rfl,?_⟩
 ·exact⟨by decide,fun q=>absurd q (by decide),fun q=>absurd q (by decide),fun q=>absurd q (by decide),fun q=>absurd q (by decide),fun q=>absurd q (by decide),fun q=>absurd q (by decide),fun _ _=>cl.p8 (by decide) (by decide),fun q=>absurd q (by decide),fun _=>cl.an (by decide),fun q=>absurd q (by decide),fun _=>cl.sn (by decide),fun j j0 j1 d q=>⟨by decide,by decide,(cl.sY j j0 j1 d q).2.2⟩⟩
 ·refine⟨?_,?_,⟨tm.eb.1,tm.eb.2.1,fun _=>tm.eb.2.2.1 (by decide),fun _ _=>tm.eb.2.2.2 (by decide) (by decide)⟩,fun _=>⟨tm.e.1,Int.le_refl _,fun a=>(tm.pq a).1⟩,fun q=>absurd q (by decide),fun a _ j j0 j1 d q=>?_,fun _ q=>absurd q (by decide),tm.fq,tm.fi,tm.pq,tm.ks⟩
  ·have:=tm.e;rw[ae (by decide)]at this ⊢;exact this
  ·have:=tm.kt;rw[af (by decide)]at this ⊢;exact this
  ·rcases tm.uq a (by decide) j j0 j1 d q with q|⟨q,q'|q'⟩
   ·exact .inl q
   ·exact .inr ⟨q,.inl q'⟩
   ·exact absurd q'.1 (by decide)
 ·unfold bs;dsimp only
  rw[ae (show ¬(7:Int)=0 by decide),ae (show ¬(7:Int)=1 by decide),ae (show ¬(7:Int)=2 by decide),ae (show ¬(7:Int)=3 by decide),ae (show ¬(7:Int)=4 by decide),ae (show ¬(7:Int)=5 by decide),ae (show ¬(7:Int)=6 by decide),af rfl,
   ae (show ¬ c.r.pc=0 by omega),ae (show ¬ c.r.pc=1 by omega),ae (show ¬ c.r.pc=2 by omega),ae (show ¬ c.r.pc=3 by omega),ae (show ¬ c.r.pc=4 by omega),ae (show ¬ c.r.pc=5 by omega),af hp];decide
theorem TI.s7(hC:C.ok)(h:TI C P c A)(hp:c.r.pc=7)(r:Int):TI C P (c.step C (-1) A r).1 (c.step C (-1) A r).2∧(c.step C (-1) A r).1.r.rd=c.r.rd∧bs C (c.step C (-1) A r).1<bs C c:=by
 obtain⟨hS,nn,jF,tw,cl,nm,tm⟩:=h
 rw[hp]at cl nm tm
 obtain⟨⟨a0,a1⟩,hD,SW,hw⟩:=cl.p8 (by decide) (by decide)
 have yO:bF (A.w (C.chunk c.r.at'))=2:=by rw[←hw];exact SW
 have st:c.step C (-1) A r=({ c with r:={ c.r with pc:=8 } },(A.by (-1)).store (C.chunk c.r.at'+2) c.r.now):=by
  unfold Co.step;rw[ae (by omega),ae (by omega),ae (by omega),ae (by omega),ae (by omega),ae (by omega),ae (by omega),af hp]
 rw[st]
 have n7:=tm.n7 rfl
 have b:=cP hC a0 a1
 have CX:aX A.w (C.chunk c.r.at'+2) c.r.now 0=A.w 0:=az _ _ (by omega)
 have wc:∀ j,aX A.w (C.chunk c.r.at'+2) c.r.now (C.chunk j)=A.w (C.chunk j):=fun j=>az _ _ (by unfold Cf.chunk;omega)
 have w2:∀ j,j≠c.r.at'→aX A.w (C.chunk c.r.at'+2) c.r.now (C.chunk j+2)=A.w (C.chunk j+2):=fun j e=>az _ _ (by have:=gK (C:=C) e;omega)
 have nq:∀ j,bF (A.w (C.chunk j))=3→j≠c.r.at':=fun j q e=>by rw[e,yO]at q;exact absurd q (by decide)
 have k1:=jz (C:=C) (P:=P) (w:=A.w) (w':=aX A.w (C.chunk c.r.at'+2) c.r.now) (s:=1) fun j _ _=>wc j
 have k3:=jz (C:=C) (P:=P) (w:=A.w) (w':=aX A.w (C.chunk c.r.at'+2) c.r.now) (s:=3) fun j _ _=>wc j
 have e0:=hS.e0
 have te:=tm.e
 refine⟨TI.of (pc:=8) (aX A.w (C.chunk c.r.at'+2) c.r.now) rfl hS nn (pF jF ⟨n7.1,by have:=(jF 0).2;omega⟩) (tw.V7 hC a0 a1 hD (by rw[yO];decide) (.inr rfl)) ?_ (nm.aL (fun j _ _=>wc j) (by constructor<;>(intro;decide))) ?_,rfl,?_⟩
 ·exact⟨by decide,fun q=>absurd q (by decide),fun q=>absurd q (by decide),fun q=>absurd q (by decide),fun q=>absurd q (by decide),fun q=>absurd q (by decide),fun q=>absurd q (by decide),fun _ _=>⟨⟨a0,a1⟩,hD,SW,by rw[wc];exact hw⟩,fun q=>absurd q (by decide),fun _=>cl.an (by decide),fun q=>absurd q (by decide),fun _=>cl.sn (by decide),fun j j0 j1 d q=>⟨by decide,by decide,(cl.sY j j0 j1 d (by rwa [wc]at q)).2.2⟩⟩
 ·refine⟨?_,?_,⟨tm.eb.1,tm.eb.2.1,fun _=>tm.eb.2.2.1 (by decide),fun _ _=>tm.eb.2.2.2 (by decide) (by decide)⟩,fun q=>absurd q (by decide),fun _=>by rw[aE,CX];exact n7,fun a _ j j0 j1 d q=>?_,fun _ q=>absurd q (by decide),fun a b=>by rw[k3];exact tm.fq a b,tm.fi,fun a=>?_,tm.ks⟩
  ·rw[CX];rw[ae (by decide)]at te ⊢;exact te
  ·have:=tm.kt;rw[k1];rw[af (by decide)]at this ⊢;exact this
  ·rw[wc]at q
   rw[w2 j (nq j q),CX]
   rcases tm.uq a (by decide) j j0 j1 d q with q|⟨q,q'|q'⟩
   ·exact .inl q
   ·exact .inr ⟨q,.inl q'⟩
   ·exact absurd q'.1 (by decide)
  ·rw[CX]
   have:=tm.pq a
   exact⟨this.1,this.2.1,this.2.2.1,fun j j0 j1 d q=>by rw[wc]at q;rw[w2 j (nq j q)];exact this.2.2.2 j j0 j1 d q⟩
 ·unfold bs;dsimp only
  rw[ae (show ¬(8:Int)=0 by decide),ae (show ¬(8:Int)=1 by decide),ae (show ¬(8:Int)=2 by decide),ae (show ¬(8:Int)=3 by decide),ae (show ¬(8:Int)=4 by decide),ae (show ¬(8:Int)=5 by decide),ae (show ¬(8:Int)=6 by decide),ae (show ¬(8:Int)=7 by decide),af rfl,
   ae (show ¬ c.r.pc=0 by omega),ae (show ¬ c.r.pc=1 by omega),ae (show ¬ c.r.pc=2 by omega),ae (show ¬ c.r.pc=3 by omega),ae (show ¬ c.r.pc=4 by omega),ae (show ¬ c.r.pc=5 by omega),ae (show ¬ c.r.pc=6 by omega),af hp];decide
theorem TI.s8(hC:C.ok)(h:TI C P c A)(hp:c.r.pc=8)(r:Int):TI C P (c.step C (-1) A r).1 (c.step C (-1) A r).2∧(c.step C (-1) A r).1.r.rd=c.r.rd∧bs C (c.step C (-1) A r).1<bs C c:=by
 obtain⟨hS,nn,jF,tw,cl,nm,tm⟩:=h
 rw[hp]at cl nm tm
 obtain⟨⟨a0,a1⟩,hD,SW,hw⟩:=cl.p8 (by decide) (by decide)
 have yO:bF (A.w (C.chunk c.r.at'))=2:=by rw[←hw];exact SW
 have st:c.step C (-1) A r=({ c with r:={ c.r with ev:=c.r.ev+1,pc:=10 } },(A.by (-1)).store (C.chunk c.r.at') (jX c.r.w 3)):=by
  unfold Co.step;rw[ae (by omega),ae (by omega),ae (by omega),ae (by omega),ae (by omega),ae (by omega),ae (by omega),ae (by omega),af hp]
 rw[st]
 obtain⟨v1,v2,v3,v4⟩:=se (w:=c.r.w) (st:=3) (by decide)
 have RA:=tw.qu _ a0 a1 hD (.inl yO)
 have n8:=tm.n8 rfl
 have b:=cP hC a0 a1
 have CX:aX A.w (C.chunk c.r.at') (jX c.r.w 3) 0=A.w 0:=az _ _ (by omega)
 have w2:∀ j,aX A.w (C.chunk c.r.at') (jX c.r.w 3) (C.chunk j+2)=A.w (C.chunk j+2):=fun j=>az _ _ (by unfold Cf.chunk;omega)
 have q3:∀ j,bF (aX A.w (C.chunk c.r.at') (jX c.r.w 3) (C.chunk j))=3→j=c.r.at'∨bF (A.w (C.chunk j))=3:=fun j q=>by
  by_cases e:j=c.r.at'
  ·exact .inl e
  ·rw[az _ _ (gK e).1]at q;exact .inr q
 have k1:=BA (P:=P) (w:=A.w) (i:=c.r.at') (v:=jX c.r.w 3) (s:=1) (by rw[yO];decide) (by rw[v1];decide)
 have k3:=UI (P:=P) (w:=A.w) (v:=jX c.r.w 3) (s:=3) a0 a1 hD (by rw[yO];decide) v1
 have e48:=tm.eb.2.2.2 (by decide) (by decide)
 have e2:=tm.eb.2.2.1 (by decide)
 refine⟨TI.of (pc:=10) (ev:=c.r.ev+1) (aX A.w (C.chunk c.r.at') (jX c.r.w 3)) rfl hS nn (pF jF v4) ?_ ?_ ?_ ?_,rfl,?_⟩
 ·exact tw.ck hC a0 a1 hD (by rw[v1];decide) (fun q=>by rw[v1]at q;exact absurd q (by decide)) (fun _=>⟨by rw[v3,hw,RA.1],by rw[v2,hw,RA.2]⟩) (fun _ x x0 x1=>by
   have u:=mW (P.w0 (C.chunk c.r.at'))
   rw[tw.wd _ x a0 a1 hD (.inr yO) (by omega) x1];exact hS.ni _ x a0 a1 x0 x1) (fun q=>by rw[v1]at q;exact absurd q (by decide))
 ·refine⟨by decide,fun q=>absurd q (by decide),fun q=>absurd q (by decide),fun q=>absurd q (by decide),fun q=>absurd q (by decide),fun q=>absurd q (by decide),fun q=>absurd q (by decide),fun _ q=>absurd q (by decide),fun _ v e=>?_,fun q=>absurd rfl q,fun q=>absurd q (by decide),fun _=>cl.sn (by decide),fun j j0 j1 d q=>?_⟩
  ·rw[show c.a=none from cl.an (by decide)]at e;cases e
  ·exfalso
   by_cases e:j=c.r.at'
   ·subst e;rw[aE,v1]at q;exact absurd q (by decide)
   ·rw[az _ _ (gK e).1]at q;exact e (cl.sY j j0 j1 d q).2.2
 ·have:=nm.ck;rw[af (by decide)]at this
  have:=nm.cq
  exact⟨by rw[ae (by decide),k1];omega,by rw[k3];omega,nm.z,nm.nn⟩
 ·refine⟨by rw[CX];have:=tm.e;rw[ae (by decide)]at this ⊢;exact this,by rw[k1];have:=tm.kt;rw[af (by decide)]at this ⊢;exact this,⟨by omega,fun _=>e48,fun q=>absurd q (by decide),fun _ q=>absurd q (by decide)⟩,fun q=>absurd q (by decide),fun q=>absurd q (by decide),fun a _ j j0 j1 d q=>?_,fun _ q=>absurd q (by decide),fun a b=>by omega,tm.fi,fun a=>?_,tm.ks⟩
  ·rw[w2,CX]
   rcases q3 j q with rfl|q
   ·exact .inr ⟨n8.2.1,.inr ⟨rfl,by omega⟩⟩
   ·rcases tm.uq a (by decide) j j0 j1 d q with q|⟨q,q'|q'⟩
    ·exact .inl q
    ·exact .inr ⟨q,.inl q'⟩
    ·exact absurd q'.1 (by decide)
  ·rw[CX]
   have:=tm.pq a
   refine⟨this.1,this.2.1,this.2.2.1,fun j j0 j1 d q=>?_⟩
   rw[w2]
   rcases q3 j q with rfl|q
   ·exact⟨n8.2.2 a,n8.2.1⟩
   ·exact this.2.2.2 j j0 j1 d q
 ·unfold bs;dsimp only
  rw[ae (show ¬(10:Int)=0 by decide),ae (show ¬(10:Int)=1 by decide),ae (show ¬(10:Int)=2 by decide),ae (show ¬(10:Int)=3 by decide),ae (show ¬(10:Int)=4 by decide),ae (show ¬(10:Int)=5 by decide),ae (show ¬(10:Int)=6 by decide),ae (show ¬(10:Int)=7 by decide),ae (show ¬(10:Int)=8 by decide),af rfl,
   ae (show ¬ c.r.pc=0 by omega),ae (show ¬ c.r.pc=1 by omega),ae (show ¬ c.r.pc=2 by omega),ae (show ¬ c.r.pc=3 by omega),ae (show ¬ c.r.pc=4 by omega),ae (show ¬ c.r.pc=5 by omega),ae (show ¬ c.r.pc=6 by omega),ae (show ¬ c.r.pc=7 by omega),af hp,cl.an (by decide)];decide
end
end Go.Fl
namespace Go.Fl
open Go
variable{N:Nm}{A B:Ar}{σ:Mem}{K:Value→Mem→Prop}{C:Cf}{who:Int}{P:TP}{w:Int→Int}
section
variable{c:Co}
theorem Q4(hp:c.r.pc=10)(r:Int):c.step C (-1) A r=if((c.a.getD fQ.new).step C (-1) A).1=true then({ c with a:=none,r:={ c.r with at':=0,pc:=11 } },((c.a.getD fQ.new).step C (-1) A).2.2)
  else({ c with a:=some ((c.a.getD fQ.new).step C (-1) A).2.1 },((c.a.getD fQ.new).step C (-1) A).2.2):=by
 unfold Co.step;rw[ae (by omega),ae (by omega),ae (by omega),ae (by omega),ae (by omega),ae (by omega),ae (by omega),ae (by omega),ae (by omega),ae (by omega),af hp]
theorem D9(hp:c.r.pc=11)(r:Int):c.step C (-1) A r=if((c.s.getD (dR.new c.r.at')).step C (-1) A).1=true then({ c with s:=none,r:=c.r.settled C ((c.s.getD (dR.new c.r.at')).step C (-1) A).2.1.iw },((c.s.getD (dR.new c.r.at')).step C (-1) A).2.2)
  else({ c with s:=some ((c.s.getD (dR.new c.r.at')).step C (-1) A).2.1 },((c.s.getD (dR.new c.r.at')).step C (-1) A).2.2):=by
 unfold Co.step;rw[ae (by omega),ae (by omega),ae (by omega),ae (by omega),ae (by omega),ae (by omega),ae (by omega),ae (by omega),ae (by omega),ae (by omega),ae (by omega)]
theorem By(h:c.r.pc=10):bs C c=520-DC c.a:=by unfold bs;rw[ae (by omega),ae (by omega),ae (by omega),ae (by omega),ae (by omega),ae (by omega),ae (by omega),ae (by omega),ae (by omega),af h]
theorem tu(h:c.r.pc=11):bs C c=50*(C.C-c.r.at')-yx c.s:=by unfold bs;rw[ae (by omega),ae (by omega),ae (by omega),ae (by omega),ae (by omega),ae (by omega),ae (by omega),ae (by omega),ae (by omega),ae (by omega)]
theorem TI.Xn(hC:C.ok)(h:TI C P c A)(hp:c.r.pc=10)(Kk:c.r.rd≤1000000)(r:Int):TI C P (c.step C (-1) A r).1 (c.step C (-1) A r).2∧(c.step C (-1) A r).1.r.rd=c.r.rd∧bs C (c.step C (-1) A r).1<bs C c:=by
 obtain⟨hS,nn,jF,tw,cl,nm,tm⟩:=h
 have cl0:=cl;have nm0:=nm;have X5:=tm
 rw[hp]at cl nm tm
 have hT:=hC.T
 have zp:=hS.cc
 have low:=Bx hC
 have e0:=hS.e0
 have te:=tm.e
 rw[ae (by decide)]at te
 have Xx:=nm.nn
 have go:∀ v:fQ,v.now=A.w 0→(v.pc=1∧0≤v.at'∧v.at'<C.T∨v.pc=2∧0≤v.at'∧(P.pn=true→A.w 0=P.e0))→∀ A':Ar,A'.w=A.w→A'.n=A.n→DC c.a<DC (some v) →
   TI C P { c with a:=some v } A'∧({ c with a:=some v }:Co).r.rd=c.r.rd∧bs C { c with a:=some v }<bs C c:=by
  intro v SU hv2 A' hw hn hl
  refine⟨TI.of (pc:=c.r.pc) (a:=some v) A.w hw hS (by rw[hn];exact nn) jF tw ?_ nm0 X5,rfl,?_⟩
  ·rw[hp]
   exact⟨by decide,fun q=>absurd q (by decide),fun q=>absurd q (by decide),fun q=>absurd q (by decide),fun q=>absurd q (by decide),fun q=>absurd q (by decide),fun q=>absurd q (by decide),fun _ q=>absurd q (by decide),fun _ u e=>by cases e;exact⟨SU,hv2⟩,fun q=>absurd rfl q,fun q=>absurd q (by decide),fun _=>cl.sn (by decide),fun j j0 j1 d q=>absurd (cl.sY j j0 j1 d q).2.1 (by decide)⟩
  ·rw[By hp,By (c:={ c with a:=some v }) hp];show 520-DC (some v)<_;omega
 have fin:∀(w':Int→Int) (A':Ar),A'.w=w'→A'.n=A.n→(w'=A.w∧P.pn=true∨w'=aX A.w 0 (A.w 0+1)∧(P.pn=true→A.w 0=P.e0)) →
   TI C P { c with a:=none,r:={ c.r with at':=0,pc:=11 } } A'∧({ c with a:=none,r:={ c.r with at':=0,pc:=11 } }:Co).r.rd=c.r.rd∧bs C { c with a:=none,r:={ c.r with at':=0,pc:=11 } }<bs C c:=by
  intro w' A' hw hn hc
  have wi:∀ i,i≠0→w' i=A.w i:=fun i hi=>by rcases hc with⟨rfl,_⟩|⟨rfl,_⟩;rfl;exact az _ _ hi
  have wz:w' 0=A.w 0∧P.pn=true∨w' 0=A.w 0+1∧(P.pn=true→A.w 0=P.e0):=by rcases hc with⟨rfl,q⟩|⟨rfl,q⟩;exact .inl ⟨rfl,q⟩;exact .inr ⟨aE _ _ _,q⟩
  have OT:∀ j,0≤j→j<C.C→C.chunk j≠0∧C.chunk j+2≠0:=fun j j0 j1=>by have:=cP hC j0 j1;omega
  have k1:=jz (C:=C) (P:=P) (w:=A.w) (w':=w') (s:=1) fun j j0 j1=>wi _ (OT j j0 j1).1
  have k3:=jz (C:=C) (P:=P) (w:=A.w) (w':=w') (s:=3) fun j j0 j1=>wi _ (OT j j0 j1).1
  refine⟨TI.of (pc:=11) (at':=0) w' hw hS (by rw[hn];exact nn) ?_ ?_ ?_ (nm.aL (fun j j0 j1=>wi _ (OT j j0 j1).1) (by constructor<;>omega)) ?_,rfl,?_⟩
  ·rcases hc with⟨rfl,_⟩|⟨rfl,_⟩
   ·exact jF
   ·exact pF jF ⟨by omega,by omega⟩
  ·rcases hc with⟨rfl,_⟩|⟨rfl,_⟩
   ·exact tw
   ·exact tw.e0 hC _
  ·refine⟨by decide,fun q=>absurd q (by decide),fun q=>absurd q (by decide),fun q=>absurd q (by decide),fun q=>absurd q (by decide),fun q=>absurd q (by decide),fun q=>absurd q (by decide),fun _ q=>absurd q (by decide),fun q=>absurd q (by decide),fun _=>rfl,fun _=>⟨⟨Int.le_refl 0,by have:=hC.C;omega⟩,fun v e=>?_⟩,fun q=>absurd rfl q,fun j j0 j1 d q=>?_⟩
   ·rw[show c.s=none from cl.sn (by decide)]at e;cases e
   ·rw[wi _ (OT j j0 j1).1]at q;exact absurd (cl.sY j j0 j1 d q).2.1 (by decide)
  ·refine⟨by rw[af rfl];omega,?_,⟨tm.eb.1,tm.eb.2.1,fun q=>absurd q (by decide),fun _ q=>absurd q (by decide)⟩,fun q=>absurd q (by decide),fun q=>absurd q (by decide),fun _ q=>absurd q (by decide),fun a _ j j0 j1 d q=>?_,fun a b=>by rw[k3];exact tm.fq a b,tm.fi,fun a=>?_,tm.ks⟩
   ·rw[k1];have:=tm.kt;rw[af (by decide)]at this ⊢;exact this
   ·rw[wi _ (OT j j0 j1).1]at q
    rw[wi _ (OT j j0 j1).2]
    have hz:w' 0=A.w 0+1:=by
     rcases wz with⟨_,q⟩|⟨q,_⟩
     ·rw[a]at q;cases q
     ·exact q
    rcases tm.uq a (by decide) j j0 j1 d q with u|⟨u,u'|u'⟩
    ·exact⟨by omega,.inl ⟨by omega,j0⟩⟩
    ·exact⟨by omega,.inr (.inr u')⟩
    ·exact⟨by omega,.inr (.inl u'.2)⟩
   ·have:=tm.pq a
    refine⟨by omega,?_,this.2.2.1,fun j j0 j1 d q=>?_⟩
    ·rcases wz with⟨q,_⟩|⟨q,q2⟩
     ·omega
     ·have:=q2 a;omega
    ·rw[wi _ (OT j j0 j1).1]at q
     rw[wi _ (OT j j0 j1).2]
     have:=this.2.2.2 j j0 j1 d q
     omega
  ·rw[By hp,tu (c:={ c with a:=none,r:={ c.r with at':=0,pc:=11 } }) rfl,show({ c with a:=none,r:={ c.r with at':=0,pc:=11 } }:Co).s=none from cl.sn (by decide)]
   have:DC c.a≤10:=by
    unfold DC
    split
    ·decide
    ·rename_i u e
     have:=(cl.m7 rfl u e).2
     split<;>omega
   show 50*(C.C-0)-0<520-DC c.a
   omega
 rw[Q4 hp]
 cases ea:c.a with
 | none=>
  have e1:fQ.new.step C (-1) A=(false,{ fQ.new with now:=A.w 0,pc:=1 },(A.by (-1)).load 0):=by unfold fQ.step;rw[af (show fQ.new.pc=0 from rfl)]
  simp only[Option.getD_none,e1,Bool.false_eq_true,if_false]
  obtain⟨x1,_,x3⟩:=go ⟨1,A.w 0,0,false⟩ rfl (.inl ⟨rfl,Int.le_refl 0,by show(0:Int)<C.T;omega⟩) ((A.by (-1)).load 0) rfl rfl (by rw[ea];show(0:Int)<(if(1:Int)=1 then 1+0 else 10);decide)
  exact⟨x1,trivial,x3⟩
 | some v=>
  obtain⟨SU,hv2⟩:=cl.m7 rfl v ea
  simp only[Option.getD_some]
  rcases hv2 with⟨q1,q2,q3⟩|⟨q1,q2,q3⟩
  ·have rX:=hC.S
   have pl:=tw.low hC (i:=6+v.at') (by omega) (by omega)
   have wr:IntKind.u64.wrap (v.now+1)=A.w 0+1:=by rw[SU];exact D3 (by omega) (by omega)
   by_cases Kr:A.w (6+v.at')≠0∧A.w (6+v.at')≠IntKind.u64.wrap (v.now+1)
   ·have e1:v.step C (-1) A=(true,v,(A.by (-1)).load (6+v.at')):=by unfold fQ.step;rw[ae (by omega),af q1,af Kr]
    simp only[e1,if_true]
    have pnt:P.pn=true:=by
     cases pn:P.pn with
     | true=>rfl
     | false=>rw[pl,hS.pi pn _ q2 q3]at Kr;exact absurd rfl Kr.1
    obtain⟨x1,_,x3⟩:=fin A.w ((A.by (-1)).load (6+v.at')) rfl rfl (.inl ⟨rfl,pnt⟩)
    exact⟨x1,trivial,x3⟩
   ·have e1:v.step C (-1) A=(false,{ v with at':=v.at'+1,pc:=if C.T≤v.at'+1 then 2 else v.pc },(A.by (-1)).load (6+v.at')):=by unfold fQ.step;rw[ae (by omega),af q1,ae Kr]
    simp only[e1,Bool.false_eq_true,if_false]
    suffices K9:_∧_ from by
     obtain⟨x1,_,x3⟩:=go { v with at':=v.at'+1,pc:=if C.T≤v.at'+1 then 2 else v.pc } SU K9.1 ((A.by (-1)).load (6+v.at')) rfl rfl K9.2
     exact⟨x1,trivial,x3⟩
    refine⟨?_,?_⟩
    ·by_cases z:C.T≤v.at'+1
     ·refine .inr ⟨by show(if C.T≤v.at'+1 then(2:Int)else v.pc)=2;rw[af z],by show 0≤v.at'+1;omega,fun a=>?_⟩
      obtain⟨j1,j2,j3⟩:=hS.pj a
      have ez:v.at'=1:=by omega
      rw[ez,show(6:Int)+1=7 by decide]at pl Kr
      rw[wr]at Kr
      have:=(tm.pq a).1
      omega
     ·exact .inl ⟨by show(if C.T≤v.at'+1 then(2:Int)else v.pc)=1;rw[ae z,q1],by show 0≤v.at'+1;omega,by show v.at'+1<C.T;omega⟩
    ·rw[ea]
     show(if v.pc=1 then 1+v.at' else 10)<(if(if C.T≤v.at'+1 then(2:Int)else v.pc)=1 then 1+(v.at'+1)else 10)
     rw[af q1]
     by_cases z:C.T≤v.at'+1
     ·rw[af z,ae (by decide)];omega
     ·rw[ae z,af q1];omega
  ·have wr:IntKind.u64.wrap (v.now+1)=A.w 0+1:=by rw[SU];exact D3 (by omega) (by omega)
   have e1:v.step C (-1) A=(true,{ v with H3:=decide (A.w 0=v.now) },(A.by (-1)).store 0 (A.w 0+1)):=by unfold fQ.step;rw[ae (by omega),ae (by omega),cx (by exact SU.symm),wr]
   simp only[e1,if_true]
   obtain⟨x1,_,x3⟩:=fin (aX A.w 0 (A.w 0+1)) ((A.by (-1)).store 0 (A.w 0+1)) rfl rfl (.inr ⟨rfl,q3⟩)
   exact⟨x1,trivial,x3⟩
theorem TI.fin{w':Int→Int}{A':Ar}(hC:C.ok)(f:Bool)(hp:c.r.pc=11)(hw:A'.w=w')(hS:TS C P)(nn:C.len≤A'.n∧(A'.n:Int)≤200000000)(jF:∀ i,0≤w' i∧w' i<18446744073709551616)(tw:TW C P w')(a0:0≤c.r.at'∧c.r.at'<C.C)(an:c.a=none)
  (sY:∀ j,0≤j→j<C.C→P.D j=true→bF (w' (C.chunk j))≠2) (UU:yx c.s≤45) (nm:Te C P w' 11 c.r.ev (if f=true then c.r.fd+1 else c.r.fd) c.r.lf c.r.mo c.r.iK c.r.rd c.r.idle)
  (tm:Sx C P w' 11 (c.r.at'+1) c.r.now c.r.ev c.r.fJ (if f=true then c.r.fd+1 else c.r.fd) c.r.iE c.r.rd c.r.idle) (hff:f=true→¬(P.Ks+2≤c.r.rd-P.r0∧P.pn=false)) :
  TI C P { c with s:=none,r:=c.r.settled C f } A'∧(({ c with s:=none,r:=c.r.settled C f }:Co).r.rd=c.r.rd∧bs C { c with s:=none,r:=c.r.settled C f }<bs C c ∨
   ({ c with s:=none,r:=c.r.settled C f }:Co).r.rd=c.r.rd+1∧({ c with s:=none,r:=c.r.settled C f }:Co).r.pc=0∧({ c with s:=none,r:=c.r.settled C f }:Co).r.at'=0):=by
 generalize DS:(if f=true then c.r.fd+1 else c.r.fd)=E8 at nm tm
 by_cases z:C.C≤c.r.at'+1
 ·have e:c.r.settled C f=⟨0,c.r.x1,0,c.r.pos,c.r.w,c.r.now,c.r.x6,c.r.x7,.pointer none,c.r.ev,c.r.lf,E8,c.r.mo,c.r.rd+1,c.r.ev,c.r.lf,E8,c.r.mo,c.r.rd+1,(if c.r.ev≠c.r.fJ∨c.r.mo≠c.r.iK∨E8≠c.r.iE then 0 else c.r.idle+1)⟩:=by
   unfold Cr.settled;dsimp only;rw[af z,DS]
  rw[e]
  refine⟨TI.of (pc:=0) (at':=0) w' hw hS nn jF tw ?_ ?_ ?_,.inr ⟨rfl,rfl,rfl⟩⟩
  ·exact⟨by decide,fun q=>absurd q (by decide),fun _=>⟨⟨Int.le_refl 0,by have:=hC.C;omega⟩,fun q=>absurd rfl q⟩,fun q=>absurd q (by decide),fun q=>absurd q (by decide),fun q=>absurd q (by decide),fun q=>absurd q (by decide),fun q=>absurd q (by decide),fun q=>absurd q (by decide),fun _=>an,fun q=>absurd q (by decide),fun _=>rfl,fun j j0 j1 d q=>absurd q (sY j j0 j1 d)⟩
  ·have h1:=nm.ck;rw[ae (by decide)]at h1
   have h4:=nm.nn
   refine⟨by rw[ae (by decide)];exact h1,nm.cq,⟨nm.z.1,nm.z.2.1,nm.z.2.1⟩,?_⟩
   split<;>omega
  ·have te:=tm.e;rw[af rfl]at te
   have tk:=tm.kt;rw[af (by decide)]at tk
   have eb:=tm.eb
   have ks:=tm.ks
   refine⟨by rw[ae (by decide)];omega,by rw[ae (by decide)];omega,⟨Int.le_refl _,fun q=>absurd rfl q,fun _=>rfl,fun q=>absurd q (by decide)⟩,fun q=>absurd q (by decide),fun q=>absurd q (by decide),fun a _ j j0 j1 d q=>.inl (tm.us a rfl j j0 j1 d q).1,fun _ q=>absurd q (by decide),fun a b=>⟨BB fun j j0 j1 d q=>?_,rfl⟩,fun a b=>?_,tm.pq,ks⟩
   ·rcases(tm.us a rfl j j0 j1 d q).2 with u|u|u
    ·omega
    ·have:=eb.2.1 u;omega
    ·omega
   ·have h1:¬ c.r.ev≠c.r.fJ:=fun u=>by have:=eb.2.1 u;omega
    have h2:=nm.z
    have h3:=(tm.fq a (by omega)).2
    rw[ae (by omega)]
    have:=nm.nn;omega
 ·have e:c.r.settled C f=⟨c.r.pc,c.r.x1,c.r.at'+1,c.r.pos,c.r.w,c.r.now,c.r.x6,c.r.x7,.pointer none,c.r.ev,c.r.lf,E8,c.r.mo,c.r.rd,c.r.fJ,c.r.mz,c.r.iE,c.r.iK,c.r.my,c.r.idle⟩:=by
   unfold Cr.settled;dsimp only;rw[ae z,DS]
  rw[e,hp]
  refine⟨TI.of (pc:=11) (at':=c.r.at'+1) w' hw hS nn jF tw ?_ nm tm,.inl ⟨rfl,?_⟩⟩
  ·exact⟨by decide,fun q=>absurd q (by decide),fun q=>absurd q (by decide),fun q=>absurd q (by decide),fun q=>absurd q (by decide),fun q=>absurd q (by decide),fun q=>absurd q (by decide),fun _ q=>absurd q (by decide),fun q=>absurd q (by decide),fun _=>an,fun _=>⟨⟨by omega,by omega⟩,fun v e=>by cases e⟩,fun q=>absurd rfl q,fun j j0 j1 d q=>absurd q (sY j j0 j1 d)⟩
  ·rw[tu hp,tu rfl]
   show 50*(C.C-(c.r.at'+1))-0<_
   omega
end
end Go.Fl
namespace Go.Fl
open Go
variable{N:Nm}{A B:Ar}{σ:Mem}{K:Value→Mem→Prop}{C:Cf}{who:Int}{P:TP}{w:Int→Int}
theorem abS{n:Int}:bF (aR 0 0 0 n)=0:=by unfold aR bF cl;omega
theorem SC{v:dR}:yx (some v)=if v.pc≤2 then v.pc else if v.pc=3 then 3+v.at' else 40+v.pc:=rfl
theorem Mw{v:dR}(h:v.pc≤2):yx (some v)=v.pc:=by rw[SC,af h]
theorem SB{v:dR}(h:v.pc=3):yx (some v)=3+v.at':=by rw[SC,ae (by omega),af h]
theorem SA{v:dR}(h:4≤v.pc):yx (some v)=40+v.pc:=by rw[SC,ae (by omega),ae (by omega)]
theorem Sx.eqv{w':Int→Int}{pc at' now ev fJ fd iE rd idle:Int}(h:Sx C P w pc at' now ev fJ fd iE rd idle)(h8:pc≠8)(h0:w' 0=w 0)(hc:∀ j,0≤j→j<C.C→w' (C.chunk j)=w (C.chunk j))(h2:∀ j,0≤j→j<C.C→w' (C.chunk j+2)=w (C.chunk j+2)):Sx C P w' pc at' now ev fJ fd iE rd idle:=by
 have k1:=jz (C:=C) (P:=P) (w:=w) (w':=w') (s:=1) hc
 have k3:=jz (C:=C) (P:=P) (w:=w) (w':=w') (s:=3) hc
 refine⟨by rw[h0];exact h.e,by rw[k1];exact h.kt,h.eb,by rw[h0];exact h.n7,fun e=>absurd e h8,fun a b j j0 j1 d q=>?_,fun a b j j0 j1 d q=>?_,fun a b=>by rw[k3];exact h.fq a b,h.fi,fun a=>?_,h.ks⟩
 ·rw[hc j j0 j1]at q;rw[h2 j j0 j1,h0];exact h.uq a b j j0 j1 d q
 ·rw[hc j j0 j1]at q;rw[h2 j j0 j1,h0];exact h.us a b j j0 j1 d q
 ·rw[h0]
  have:=h.pq a
  exact⟨this.1,this.2.1,this.2.2.1,fun j j0 j1 d q=>by rw[hc j j0 j1]at q;rw[h2 j j0 j1];exact this.2.2.2 j j0 j1 d q⟩
section
variable{c:Co}
theorem TI.Yu(hC:C.ok)(h:TI C P c A)(hp:c.r.pc=11)(Kk:c.r.rd≤1000000)(r:Int):TI C P (c.step C (-1) A r).1 (c.step C (-1) A r).2∧((c.step C (-1) A r).1.r.rd=c.r.rd∧bs C (c.step C (-1) A r).1<bs C c ∨
  (c.step C (-1) A r).1.r.rd=c.r.rd+1∧(c.step C (-1) A r).1.r.pc=0∧(c.step C (-1) A r).1.r.at'=0):=by
 obtain⟨hS,nn,jF,tw,cl,nm,tm⟩:=h
 have cl0:=cl;have nm0:=nm;have X5:=tm
 rw[hp]at cl nm tm
 obtain⟨⟨a0,a1⟩,hv⟩:=cl.oo rfl
 have zp:=hS.cc
 have e0:=hS.e0
 have te:=tm.e
 rw[af rfl]at te
 have Xx:=nm.nn
 have b:=cP hC a0 a1
 have an:c.a=none:=cl.an (by decide)
 have sY:∀ j,0≤j→j<C.C→P.D j=true→bF (A.w (C.chunk j))≠2:=fun j j0 j1 d q=>absurd (cl.sY j j0 j1 d q).2.1 (by decide)
 have UU:yx c.s≤45:=by
  unfold yx
  split
  ·decide
  ·rename_i u e
   obtain⟨_,Vt,_,_,_,q⟩:=hv u e
   have hU:=(hS.dd _ a0 a1 Vt).2.1
   split
   ·omega
   ·split
    ·rcases q with q|q|⟨_,q|q⟩<;>omega
    ·rcases q with q|q|⟨_,q|q⟩<;>omega
 have go:∀(v:dR) (w':Int→Int) (A':Ar),A'.w=w'→A'.n=A.n→(∀ i,0≤w' i∧w' i<18446744073709551616)→TW C P w'→(∀ j,0≤j→j<C.C→w' (C.chunk j)=A.w (C.chunk j))→(∀ j,0≤j→j<C.C→w' (C.chunk j+2)=A.w (C.chunk j+2))→w' 0=A.w 0 →
   (v.ch=c.r.at'∧P.D c.r.at'=true∧bF (w' (C.chunk c.r.at'))=3∧v.w=w' (C.chunk c.r.at')∧v.iw=false∧(v.pc=1∧v.at'=0∨v.pc=2∧v.at'=0∧v.since=w' (C.chunk c.r.at'+2) ∨
    P.pn=false∧(v.pc=3∧(0≤v.at'∧v.at'<bD (P.w0 (C.chunk c.r.at')))∧(∀ x,0≤x→x<v.at'→w' (C.base c.r.at'+x)=0)∨(v.pc=4∨v.pc=5)∧∀ x,0≤x→x<bD (P.w0 (C.chunk c.r.at'))→w' (C.base c.r.at'+x)=0))) →
   yx c.s<yx (some v)→TI C P { c with s:=some v } A'∧(({ c with s:=some v }:Co).r.rd=c.r.rd∧bs C { c with s:=some v }<bs C c∨({ c with s:=some v }:Co).r.rd=c.r.rd+1∧({ c with s:=some v }:Co).r.pc=0∧({ c with s:=some v }:Co).r.at'=0):=by
  intro v w' A' hw hn h64 htw hc h2 h0 hvv hl
  refine⟨TI.of (pc:=c.r.pc) (s:=some v) w' hw hS (by rw[hn];exact nn) h64 htw ?_ (nm0.aL hc Iff.rfl) (X5.eqv (by omega) h0 hc h2),.inl ⟨rfl,?_⟩⟩
  ·rw[hp]
   refine⟨by decide,fun q=>absurd q (by decide),fun q=>absurd q (by decide),fun q=>absurd q (by decide),fun q=>absurd q (by decide),fun q=>absurd q (by decide),fun q=>absurd q (by decide),fun _ q=>absurd q (by decide),fun q=>absurd q (by decide),fun _=>an,fun _=>⟨⟨a0,a1⟩,fun u e=>by cases e;exact hvv⟩,fun q=>absurd rfl q,fun j j0 j1 d q=>?_⟩
   rw[hc j j0 j1]at q;exact absurd q (sY j j0 j1 d)
  ·rw[tu hp,tu (c:={ c with s:=some v }) hp];show 50*(C.C-c.r.at')-yx (some v)<_;omega
 have Vy:(bF (A.w (C.chunk c.r.at'))=3→P.D c.r.at'=true→A.w 0<A.w (C.chunk c.r.at'+2)+2)→∀ A':Ar,A'.w=A.w→A'.n=A.n→TI C P { c with s:=none,r:=c.r.settled C false } A'∧(({ c with s:=none,r:=c.r.settled C false }:Co).r.rd=c.r.rd∧bs C { c with s:=none,r:=c.r.settled C false }<bs C c ∨
   ({ c with s:=none,r:=c.r.settled C false }:Co).r.rd=c.r.rd+1∧({ c with s:=none,r:=c.r.settled C false }:Co).r.pc=0∧({ c with s:=none,r:=c.r.settled C false }:Co).r.at'=0):=by
  intro hq A' hw hn
  refine TI.fin hC false hp hw hS (by rw[hn];exact nn) jF tw ⟨a0,a1⟩ an sY UU nm ?_ fun e=>by cases e
  refine⟨tm.e,tm.kt,tm.eb,tm.n7,fun q=>absurd q (by decide),tm.uq,fun a _ j j0 j1 d q=>?_,tm.fq,tm.fi,tm.pq,tm.ks⟩
  have:=tm.us a rfl j j0 j1 d q
  refine⟨this.1,?_⟩
  rcases this.2 with⟨u1,u2⟩|u|u
  ·by_cases e:j=c.r.at'
   ·subst e;have:=hq q d;omega
   ·exact .inl ⟨u1,by omega⟩
  ·exact .inr (.inl u)
  ·exact .inr (.inr u)
 rw[D9 hp]
 cases es:c.s with
 | none=>
  have e1:(dR.new c.r.at').step C (-1) A=(!decide (bF (A.w (C.chunk c.r.at'))=3),{ dR.new c.r.at' with w:=A.w (C.chunk c.r.at'),pc:=1 },(A.by (-1)).load (C.chunk c.r.at')):=by unfold dR.step;rw[af (show(dR.new c.r.at').pc=0 from rfl)];rfl
  rw[Option.getD_none,e1]
  by_cases c3:bF (A.w (C.chunk c.r.at'))=3
  ·rw[ae (by simp[c3])]
   have hD:P.D c.r.at'=true:=by
    cases d:P.D c.r.at' with
    | true=>rfl
    | false=>
     rw[(tw.un hC a0 a1 d).1]at c3
     have:=(hS.nd _ a0 a1 d).2
     omega
   exact go ⟨c.r.at',1,A.w (C.chunk c.r.at'),0,0,false⟩ A.w ((A.by (-1)).load (C.chunk c.r.at')) rfl rfl jF tw (fun _ _ _=>rfl) (fun _ _ _=>rfl) rfl ⟨rfl,hD,c3,rfl,rfl,.inl ⟨rfl,rfl⟩⟩ (by rw[es,Mw (by show(1:Int)≤2;decide)];show(0:Int)<1;decide)
  ·rw[af (by simp[c3])]
   exact Vy (fun q=>absurd q c3) ((A.by (-1)).load (C.chunk c.r.at')) rfl rfl
 | some v=>
  obtain⟨v1,hD,v3,v4,v5,v6⟩:=hv v es
  have S2:=hS.dd _ a0 a1 hD
  have RA:=tw.qu _ a0 a1 hD (.inr v3)
  rw[Option.getD_some]
  rcases v6 with⟨q1,q2⟩|⟨q1,q2,q3⟩|⟨qp,⟨q1,q2,q3⟩|⟨q1,q2⟩⟩
  ·have e1:v.step C (-1) A=(false,{ v with since:=A.w (C.chunk v.ch+2),pc:=2 },(A.by (-1)).load (C.chunk v.ch+2)):=by unfold dR.step;rw[ae (by omega),af q1]
   rw[e1,ae (by simp)]
   exact go { v with since:=A.w (C.chunk v.ch+2),pc:=2 } A.w ((A.by (-1)).load (C.chunk v.ch+2)) rfl rfl jF tw (fun _ _ _=>rfl) (fun _ _ _=>rfl) rfl ⟨v1,hD,v3,v4,v5,.inr (.inl ⟨rfl,q2,by rw[v1]⟩)⟩ (by
    rw[es,Mw (by omega),Mw (by show(2:Int)≤2;decide)];show v.pc<2;omega)
  ·have UW:0≤v.since∧v.since≤A.w 0:=by
    rw[q3]
    refine⟨(jF _).1,?_⟩
    cases pn:P.pn with
    | true=>exact((tm.pq pn).2.2.2 _ a0 a1 hD v3).2
    | false=>have:=(tm.us pn rfl _ a0 a1 hD v3).1;omega
   have wr:IntKind.u64.wrap (v.since+2)=v.since+2:=D3 (by omega) (by omega)
   have e1:v.step C (-1) A=(decide (A.w 0<v.since+2),{ v with pc:=3 },(A.by (-1)).load 0):=by unfold dR.step;rw[ae (by omega),ae (by omega),af q1,wr]
   rw[e1]
   by_cases cw:A.w 0<v.since+2
   ·rw[af (by simp[cw])]
    show TI C P { c with s:=none,r:=c.r.settled C v.iw } _∧_
    rw[v5]
    exact Vy (fun _ _=>by rw[←q3];exact cw) ((A.by (-1)).load 0) rfl rfl
   ·rw[ae (by simp[cw])]
    have pf:P.pn=false:=by
     cases pn:P.pn with
     | false=>rfl
     | true=>
      have h1:=(tm.pq pn).2.1
      have h2:=((tm.pq pn).2.2.2 _ a0 a1 hD v3).1
      rw[←q3]at h2
      omega
    exact go { v with pc:=3 } A.w ((A.by (-1)).load 0) rfl rfl jF tw (fun _ _ _=>rfl) (fun _ _ _=>rfl) rfl ⟨v1,hD,v3,v4,v5,.inr (.inr ⟨pf,.inl ⟨rfl,⟨by show 0≤v.at';omega,by show v.at'<_;have:=S2.2.1;omega⟩,fun x x0 x1=>by have:x<v.at':=x1;omega⟩⟩)⟩ (by
     rw[es,Mw (by omega),SB rfl];show v.pc<3+v.at';omega)
  ·have e1:v.step C (-1) A=(false,{ v with at':=v.at'+1,pc:=if bD v.w≤v.at'+1 then 4 else v.pc },(A.by (-1)).store (C.base c.r.at'+v.at') 0):=by unfold dR.step;rw[ae (by omega),ae (by omega),ae (by omega),af q1,v1]
   rw[e1,ae (by simp)]
   have hW:=S2.2.1
   have bb:=a_ hC a0 a1 q2.1
   have O7:∀ j,0≤j→j<C.C→aX A.w (C.base c.r.at'+v.at') 0 (C.chunk j)=A.w (C.chunk j):=fun j j0 j1=>az _ _ (by have:=cP hC j0 j1;omega)
   have zz:∀ x,0≤x→x<v.at'+1→aX A.w (C.base c.r.at'+v.at') 0 (C.base c.r.at'+x)=0:=fun x x0 x1=>by
    unfold aX;split
    ·rfl
    ·exact q3 x x0 (by omega)
   refine go { v with at':=v.at'+1,pc:=if bD v.w≤v.at'+1 then 4 else v.pc } (aX A.w (C.base c.r.at'+v.at') 0) ((A.by (-1)).store (C.base c.r.at'+v.at') 0) rfl rfl (pF jF (by decide)) (tw.nul hC a0 a1 hD v3 q2.1 (by omega)) O7 (fun j j0 j1=>az _ _ (by have:=cP hC j0 j1;omega)) (az _ _ (by omega)) ⟨v1,hD,by rw[O7 _ a0 a1];exact v3,by rw[O7 _ a0 a1];exact v4,v5,.inr (.inr ⟨qp,?_⟩)⟩ ?_
   ·have eu:bD v.w=bD (P.w0 (C.chunk c.r.at')):=by rw[v4];exact RA.1
    by_cases z:bD v.w≤v.at'+1
    ·exact .inr ⟨.inl (by show(if bD v.w≤v.at'+1 then(4:Int)else v.pc)=4;rw[af z]),fun x x0 x1=>zz x x0 (by omega)⟩
    ·exact .inl ⟨by show(if bD v.w≤v.at'+1 then(4:Int)else v.pc)=3;rw[ae z];exact q1,⟨by show 0≤v.at'+1;omega,by show v.at'+1<_;omega⟩,zz⟩
   ·rw[es,SB q1]
    by_cases z:bD v.w≤v.at'+1
    ·have e:(if bD v.w≤v.at'+1 then(4:Int)else v.pc)=4:=af z
     rw[SA (by show 4≤(if bD v.w≤v.at'+1 then(4:Int)else v.pc);omega)]
     show 3+v.at'<40+(if bD v.w≤v.at'+1 then(4:Int)else v.pc);omega
    ·have e:(if bD v.w≤v.at'+1 then(4:Int)else v.pc)=v.pc:=ae z
     rw[SB (by show(if bD v.w≤v.at'+1 then(4:Int)else v.pc)=3;omega)]
     show 3+v.at'<3+(v.at'+1);omega
  ·rcases q1 with q1|q1
   ·have e1:v.step C (-1) A=(false,{ v with pc:=5 },(A.by (-1)).store (C.chunk c.r.at'+1) 0):=by unfold dR.step;rw[ae (by omega),ae (by omega),ae (by omega),ae (by omega),af q1,v1]
    rw[e1,ae (by simp)]
    have O7:∀ j,0≤j→j<C.C→aX A.w (C.chunk c.r.at'+1) 0 (C.chunk j)=A.w (C.chunk j):=fun j j0 j1=>az _ _ (by unfold Cf.chunk;omega)
    refine go { v with pc:=5 } (aX A.w (C.chunk c.r.at'+1) 0) ((A.by (-1)).store (C.chunk c.r.at'+1) 0) rfl rfl (pF jF (by decide)) (tw.V7 hC a0 a1 hD (by rw[v3];decide) (.inl rfl)) O7 (fun j j0 j1=>az _ _ (by unfold Cf.chunk;omega)) (az _ _ (by omega)) ⟨v1,hD,by rw[O7 _ a0 a1];exact v3,by rw[O7 _ a0 a1];exact v4,v5,.inr (.inr ⟨qp,.inr ⟨.inr rfl,fun x x0 x1=>?_⟩⟩)⟩ ?_
    ·rw[az _ _ (by have:=a_ hC a0 a1 x0;omega)];exact q2 x x0 x1
    ·rw[es,SA (by omega),SA (by show(4:Int)≤5;decide)];show 40+v.pc<40+5;omega
   ·have e1:v.step C (-1) A=(true,{ v with iw:=true },(A.by (-1)).store (C.chunk v.ch) (aR 0 0 0 (eM v.w+1))):=by unfold dR.step;rw[ae (by omega),ae (by omega),ae (by omega),ae (by omega),ae (by omega)]
    rw[e1,af rfl,v1]
    have qc:bF (aR 0 0 0 (eM v.w+1))=0:=abS
    have abY:∀ x,0≤x→x<C.W→A.w (C.base c.r.at'+x)=0:=fun x x0 x1=>by
     by_cases z:x<bD (P.w0 (C.chunk c.r.at'))
     ·exact q2 x x0 z
     ·exact tw.qn _ x a0 a1 hD v3 (by omega) x1
    have htw:=tw.ck (v:=aR 0 0 0 (eM v.w+1)) hC a0 a1 hD (by rw[qc];decide) (fun q=>by rw[qc]at q;exact absurd q (by decide)) (fun q=>by rw[qc]at q;rcases q with q|q<;>exact absurd q (by decide)) (fun q=>by rw[qc]at q;exact absurd q (by decide)) (fun _=>abY)
    have k1:=BA (P:=P) (w:=A.w) (i:=c.r.at') (v:=aR 0 0 0 (eM v.w+1)) (s:=1) (by rw[v3];decide) (by rw[qc];decide)
    have k3:=IV (P:=P) (w:=A.w) (v:=aR 0 0 0 (eM v.w+1)) (s:=3) a0 a1 hD v3 (by rw[qc];decide)
    have q3:∀ j,bF (aX A.w (C.chunk c.r.at') (aR 0 0 0 (eM v.w+1)) (C.chunk j))=3→j≠c.r.at'∧bF (A.w (C.chunk j))=3:=fun j q=>by
     by_cases e:j=c.r.at'
     ·subst e;rw[aE,qc]at q;exact absurd q (by decide)
     ·rw[az _ _ (gK e).1]at q;exact⟨e,q⟩
    have w2:∀ j,aX A.w (C.chunk c.r.at') (aR 0 0 0 (eM v.w+1)) (C.chunk j+2)=A.w (C.chunk j+2):=fun j=>az _ _ (by unfold Cf.chunk;omega)
    have CX:aX A.w (C.chunk c.r.at') (aR 0 0 0 (eM v.w+1)) 0=A.w 0:=az _ _ (by omega)
    have kn:=zk (C:=C) (P:=P) (w:=aX A.w (C.chunk c.r.at') (aR 0 0 0 (eM v.w+1))) (s:=3)
    refine TI.fin (w':=aX A.w (C.chunk c.r.at') (aR 0 0 0 (eM v.w+1))) (A':=(A.by (-1)).store (C.chunk c.r.at') (aR 0 0 0 (eM v.w+1))) hC true hp rfl hS nn (pF jF (bS _ _ _ _)) htw ⟨a0,a1⟩ an (fun j j0 j1 d q=>?_) UU ?_ ?_ fun _ q=>?_
    ·by_cases e:j=c.r.at'
     ·subst e;rw[aE,qc]at q;exact absurd q (by decide)
     ·rw[az _ _ (gK e).1]at q;exact sY j j0 j1 d q
    ·rw[af rfl]
     have:=nm.ck
     have:=nm.cq
     exact⟨by rw[k1];exact nm.ck,by omega,nm.z,by omega⟩
    ·rw[af rfl]
     refine⟨by rw[CX];exact tm.e,by rw[k1];exact tm.kt,tm.eb,fun q=>absurd q (by decide),fun q=>absurd q (by decide),fun _ q=>absurd q (by decide),fun a _ j j0 j1 d q=>?_,fun a u=>?_,tm.fi,fun a=>(by rw[qp]at a;cases a),tm.ks⟩
     ·obtain⟨e,q'⟩:=q3 j q
      rw[w2,CX]
      have:=tm.us a rfl j j0 j1 d q'
      refine⟨this.1,?_⟩
      rcases this.2 with⟨u1,u2⟩|u|u
      ·exact .inl ⟨u1,by omega⟩
      ·exact .inr (.inl u)
      ·exact .inr (.inr u)
     ·have:=(tm.fq a u).1;omega
    ·have:=(tm.fq q.2 q.1).1;omega
theorem TI.step(hC:C.ok)(h:TI C P c A)(Kk:c.r.rd≤1000000)(r:Int)(hr:c.may C A r):TI C P (c.step C (-1) A r).1 (c.step C (-1) A r).2∧((c.step C (-1) A r).1.r.rd=c.r.rd∧bs C (c.step C (-1) A r).1<bs C c ∨
  (c.step C (-1) A r).1.r.rd=c.r.rd+1∧(c.step C (-1) A r).1.r.pc=0∧(c.step C (-1) A r).1.r.at'=0):=by
 have hb:=h.cl.pb
 rcases(show c.r.pc=0∨c.r.pc=1∨c.r.pc=2∨c.r.pc=3∨c.r.pc=4∨c.r.pc=5∨c.r.pc=6∨c.r.pc=7∨c.r.pc=8∨c.r.pc=10∨c.r.pc=11 by omega)with q|q|q|q|q|q|q|q|q|q|q
 ·exact⟨(h.s0 hC q r).1,.inl (h.s0 hC q r).2⟩
 ·exact⟨(h.s1 hC q r).1,.inl (h.s1 hC q r).2⟩
 ·exact⟨(h.s2 hC q r hr).1,.inl (h.s2 hC q r hr).2⟩
 ·exact⟨(h.s3 hC q r).1,.inl (h.s3 hC q r).2⟩
 ·exact⟨(h.s4 hC q r).1,.inl (h.s4 hC q r).2⟩
 ·exact⟨(h.s5 hC q r).1,.inl (h.s5 hC q r).2⟩
 ·exact⟨(h.s6 hC q r).1,.inl (h.s6 hC q r).2⟩
 ·exact⟨(h.s7 hC q r).1,.inl (h.s7 hC q r).2⟩
 ·exact⟨(h.s8 hC q r).1,.inl (h.s8 hC q r).2⟩
 ·exact⟨(h.Xn hC q Kk r).1,.inl (h.Xn hC q Kk r).2⟩
 ·exact h.Yu hC q Kk r
theorem TI.fit(hC:C.ok)(h:TI C P c A)(Kk:c.r.rd≤1000000):c.fit C A∧1≤bs C c∧bs C c≤3000:=by
 have hhd:=fun q=>h.head hC q
 obtain⟨hS,nn,jF,tw,cl,nm,tm⟩:=h
 have hb:=cl.pb
 have zp:=hS.cc
 have ma:=hC.C
 have hT:=hC.T
 have low:=Bx hC
 have k1:=zk (C:=C) (P:=P) (w:=A.w) (s:=1)
 have k3:=zk (C:=C) (P:=P) (w:=A.w) (s:=3)
 have k3l:=UJ (C:=C) (P:=P) (w:=A.w) (s:=3) (by omega)
 have hev:0≤c.r.ev∧c.r.ev≤64:=by
  have h1:=nm.cq;have h2:=nm.ck;have h3:=nm.nn;have h4:=hS.k0
  split at h2<;>omega
 have DS:=nm.cq
 have hr:=nm.nn
 have ap:0≤DC c.a∧DC c.a≤10:=by
  cases e:c.a with
  | none=>decide
  | some v=>
   by_cases q:c.r.pc=10
   ·rw[q]at cl
    have:=(cl.m7 rfl v e).2
    show 0≤(if v.pc=1 then 1+v.at' else 10)∧(if v.pc=1 then 1+v.at' else 10)≤10
    split<;>omega
   ·rw[cl.an q]at e;cases e
 have sp:0≤yx c.s∧yx c.s≤45:=by
  cases e:c.s with
  | none=>decide
  | some v=>
   by_cases q:c.r.pc=11
   ·rw[q]at cl
    obtain⟨⟨a0,a1⟩,hv⟩:=cl.oo rfl
    obtain⟨_,Vt,_,_,_,q⟩:=hv v e
    have hU:=(hS.dd _ a0 a1 Vt).2.1
    rw[SC]
    rcases q with q|q|⟨_,q|q⟩
    ·rw[af (by omega)];omega
    ·rw[af (by omega)];omega
    ·rw[ae (by omega),af q.1];omega
    ·rw[ae (by omega),ae (by omega)];omega
   ·rw[cl.sn q]at e;cases e
 have Cb:c.r.pc≠10→0≤c.r.at'∧(c.r.pc=2→c.r.at'<4)∧(c.r.pc≠2→c.r.at'<C.C):=fun q=>by
  rcases(show c.r.pc=0∨c.r.pc=1∨c.r.pc=2∨c.r.pc=3∨(4≤c.r.pc∧c.r.pc≤8)∨c.r.pc=11 by omega)with e|e|e|e|e|e
  ·have:=(cl.p0 e).1;omega
  ·have:=(cl.p1 e).1;omega
  ·have:=(cl.p2 e).1;omega
  ·have:=(cl.p3 e).1;omega
  ·have:=(cl.p8 e.1 e.2).1;omega
  ·have:=(cl.oo e).1;omega
 have XK:4≤c.r.pc→c.r.pc≤5→bL c.r.w≤3∧(0≤c.r.pos∧C.base c.r.at'+c.r.pos<A.n)∧(bD c.r.w-c.r.pos≤40∧1≤bD c.r.w-c.r.pos):=fun q1 q2=>by
  obtain⟨⟨⟨a0,a1⟩,hD⟩,⟨p0,p1⟩,pm,cb,⟨eC,eU⟩,uW,hh⟩:=hhd (by omega)
  have hb:=(b6 hC a0 a1 p0 (by omega)).2.2
  omega
 have hm5:c.r.pc=5→c.m.fit C A:=fun q=>by
  obtain⟨⟨⟨a0,a1⟩,hD⟩,⟨p0,p1⟩,pm,cb,⟨eC,eU⟩,uW,hh⟩:=hhd (by omega)
  obtain⟨h2,hm⟩:=cl.p5 q
  rcases hh with u|⟨_,u2,u3,_⟩
  ·rw[u]at h2;exact absurd h2 (by decide)
  ·rw[hm]
   exact⟨by show(0:Int)≤0∧(0:Int)≤11;decide,u2,by show(0:Int)≤0∧(0:Int)<18446744073709551616;decide,by show(0:Int)≤0∧(0:Int)<18446744073709551616;decide,u3,by show(0:Int)≤0∧(0:Int)≤65536;decide,by show(0:Int)≤0∧(0:Int)≤65536;decide,nn.2,
    fun e=>absurd (show(0:Int)=1 from e) (by decide),fun e=>absurd (show(0:Int)=2∨(0:Int)=8∨(0:Int)=11 from e) (by decide),fun e=>absurd (show(0:Int)=4∨(0:Int)=5 from e) (by decide),fun e=>absurd (show(0:Int)=6 from e) (by decide),fun e=>absurd (show(0:Int)=9 from e) (by decide),fun e=>absurd (show(0:Int)=10 from e) (by decide)⟩
 refine⟨⟨⟨hb.1,hb.2.1⟩,Cb,fun q z=>?_,fun q=>?_,fun a b=>?_,fun a b=>(XK a b).1,fun a b=>(XK a b).2.1,hm5,fun v e=>?_,fun v e=>?_,⟨⟨hr.1,by omega⟩,⟨by omega,by omega⟩,⟨hr.2.1,by omega⟩⟩,by omega,by rw[nm.z.1];decide,by rw[nm.z.2.1];decide⟩,?_⟩
 ·rcases(show c.r.pc=0∨c.r.pc=1∨c.r.pc=2 by omega)with e|e|e
  ·rw[af e];exact((cl.p0 e).2 fun q=>z ⟨e,q⟩).1
  ·rw[ae (by omega),af e];exact(cl.p1 e).2.1
  ·rw[ae (by omega),ae (by omega)];exact(cl.p2 e).2.1
 ·have:=(cl.p2 q).1
  have rX:=hC.S
  rw[tw.low hC (by omega) (by omega)]
  exact hS.op _ (by omega) (by omega)
 ·rcases(show c.r.pc=3∨(4≤c.r.pc∧c.r.pc≤8) by omega)with e|e
  ·rw[(cl.p3 e).2.2.2];exact jF _
  ·rw[(cl.p8 e.1 e.2).2.2.2];exact jF _
 ·by_cases q:c.r.pc=10
  ·have:=(cl.m7 q v e).2
   exact⟨q,⟨by omega,by omega⟩,by omega,fun _=>by omega⟩
  ·rw[cl.an q]at e;cases e
 ·by_cases q:c.r.pc=11
  ·obtain⟨⟨a0,a1⟩,hv⟩:=cl.oo q
   obtain⟨u1,Vt,u3,u4,_,u6⟩:=hv v e
   have hU:=(hS.dd _ a0 a1 Vt).2.1
   refine⟨q,⟨by omega,by omega⟩,by rw[u1];exact⟨a0,a1⟩,by rw[u4];exact jF _,fun e3=>?_⟩
   rcases u6 with q|q|⟨_,q|q⟩
   ·omega
   ·omega
   ·have:=(b6 hC a0 a1 q.2.1.1 (by omega)).2.2
    rw[u1];omega
   ·omega
  ·rw[cl.sn q]at e;cases e
 ·rcases(show c.r.pc=0∨c.r.pc=1∨c.r.pc=2∨c.r.pc=3∨c.r.pc=4∨c.r.pc=5∨c.r.pc=6∨c.r.pc=7∨c.r.pc=8∨c.r.pc=10∨c.r.pc=11 by omega)with e|e|e|e|e|e|e|e|e|e|e
  ·have:=Cb (by omega);unfold bs;rw[af e];omega
  ·have:=Cb (by omega);unfold bs;rw[ae (by omega),af e];omega
  ·have:=Cb (by omega);unfold bs;rw[ae (by omega),ae (by omega),af e];omega
  ·unfold bs;rw[ae (by omega),ae (by omega),ae (by omega),af e];omega
  ·have:=XK (by omega) (by omega);unfold bs;rw[ae (by omega),ae (by omega),ae (by omega),ae (by omega),af e];omega
  ·have:=XK (by omega) (by omega);unfold bs;rw[ae (by omega),ae (by omega),ae (by omega),ae (by omega),ae (by omega),af e];omega
  ·unfold bs;rw[ae (by omega),ae (by omega),ae (by omega),ae (by omega),ae (by omega),ae (by omega),af e];omega
  ·unfold bs;rw[ae (by omega),ae (by omega),ae (by omega),ae (by omega),ae (by omega),ae (by omega),ae (by omega),af e];omega
  ·unfold bs;rw[ae (by omega),ae (by omega),ae (by omega),ae (by omega),ae (by omega),ae (by omega),ae (by omega),ae (by omega),af e];omega
  ·rw[By e];omega
  ·have:=Cb (by omega);rw[tu e];omega
end
theorem Hj(hN:N.ok)(hC:C.ok)(hA:aZ N A σ){p:Nat}{O:List Nat}{c:Co}{n:Int}(hn:0≤n∧n≤1000)(hO:lM N p O c σ)(h0:TI C P c A)(Kk:c.r.rd≤10000)
  (hk:∀ c' A' O' τ,TI C P c' A'→c'.r.rd=c.r.rd+n→(n=0∨c'.r.pc=0∧c'.r.at'=0)→aZ N A' τ→lM N p O' c' τ→(∀ i∈O',i∈O∨σ.get i=none)→aQ (O++N.l) σ τ→K (.bool true) τ) :
  xj [N.env C who,.pointer (some ⟨p,0,none⟩),.int .i64 n] K σ:=by
 have hr:=h0.nm.nn
 refine Dp hN hC hA hn hO (fun c A=>TI C P c A) (fun c _=>bs C c) h0 ⟨by omega,by omega⟩ (fun c1 A1 h1 a b=>?_) (fun c1 A1 r h1 a b hm=>?_) hk
 ·obtain⟨f1,f2,f3⟩:=h1.fit hC (by omega)
  exact⟨f1,h1.nn.1,h1.nn.2,h1.jF,f2,f3⟩
 ·exact h1.step hC (by omega) r hm
end Go.Fl
namespace Go.Fl
open Go
variable{N:Nm}{A B:Ar}{σ:Mem}{K:Value→Mem→Prop}{C:Cf}{who:Int}
theorem yX{f:Int→Int}:∀{n:Nat},(∀ i:Int,0≤i→i<n→f i=0)→mL f n=0
 | 0,_=>rfl
 | n+1,h=>by show mL f n+f n=0;rw[yX (n:=n) fun i i0 i1=>h i i0 (by omega),h n (by omega) (by omega)];rfl
section
variable{i:Int}{n:Nat}{dd:Int→Do}{li:Int→Bool}{w:Int→Int}{b:Bg}
theorem Dw.op(h:Dw C i n dd li w b){k:Int}(k0:0≤k)(k3:k≤3):0≤w (2+k)∧w (2+k)≤C.C:=by
 have:=h.aw.jJ.op k k0 k3
 have:=h.aw.jJ.bd
 omega
theorem Dw.V9(h:Dw C i n dd li w b){j:Int}(j0:0≤j)(j1:j<C.C):(bF (w (C.chunk j))=0∨bF (w (C.chunk j))=1)∧bD (w (C.chunk j))=b.u j∧(bF (w (C.chunk j))=1→j<b.nx):=by
 by_cases q:j<b.nx
 ·have:=h.aw.jJ.old j j0 q
  exact⟨.inr this.1,this.2.1,fun _=>q⟩
 ·have:=h.aw.jJ.new j (by omega) j1
  rw[this.1,this.2]
  exact⟨.inl (by decide),by decide,fun e=>absurd e (by decide)⟩
theorem Dw.ni(h:Dw C i n dd li w b){j x:Int}(j0:0≤j)(j1:j<C.C)(x0:bD (w (C.chunk j))≤x)(x1:x<C.W):w (C.base j+x)=0:=
 h.aw.nil j x j0 j1 (by rw[←(h.V9 j0 j1).2.1];exact x0) x1
theorem Dw.gone(hC:C.ok)(h:Dw C i n dd li w b)(hi:i≤1000){k:Int}(k0:0≤k)(k1:k<n)(hk:li k=false):C_ C w ((dd k).a C):=by
 obtain⟨⟨p1,p2,p3⟩,p4,p5⟩:=h.pl k k0 k1
 have hd:=h.hd k k0 k1
 have hS:=hC.S
 have hz:=bT hd.2.1
 have:=je (k:=2) (s:=(dd k).z) (t:=(dd k).s) (g:=(dd k).ge) (o:=(dd k).own) (by decide) (by omega) (by omega) (by omega)
 have abZ:=h.dead k k0 k1 hk
 refine .inr ?_
 rw[p5,this.1,this.2.1,this.2.2.1,this.2.2.2.1]
 exact⟨rfl,hd.1.2.2,hd.2.1,.inl (by omega)⟩
theorem Dw.ts(hC:C.ok)(h:Dw C i n dd li w b)(hi:i≤1000)(cc:C.C≤8∧C.W≤40)(hg:∀ k:Int,0≤k→k<n→qy w 4 (dd k).j=false→li k=false){K0 Ks r0:Int}{pn:Bool}(k0:K0≤64)(e0:0≤w 0∧w 0≤1000000)
  (RB:pn=false→∀ i,0≤i→i<C.T→w (6+i)=0) (hpj:pn=true→C.T=2∧w 6=0∧w 7=w 0+1):TS C ⟨K0,Ks,r0,w 0,pn,w,fun j=>decide (0≤j∧j<b.nx) && !qy w 4 j⟩:=by
 have F6:=h.aw.jJ.bd
 refine⟨cc,fun k k0 k3=>h.op k0 k3,fun j j0 j1 hD=>?_,fun j j0 j1 hD=>?_,fun j x j0 j1 x0 x1=>h.ni j0 j1 x0 x1,RB,hpj,e0,k0⟩
 ·simp only[Bool.and_eq_true,decide_eq_true_eq,Bool.not_eq_true']at hD
  obtain⟨⟨_,jn⟩,ho⟩:=hD
  have hold:=h.aw.jJ.old j j0 jn
  have hum:=h.um j j0 jn
  have hz:b.lv j=0:=by
   rw[←h.sm j j0 j1]
   refine yX fun k k0 k1=>?_
   unfold part
   rw[ae]
   rintro⟨q1,q2⟩
   rw[hg k k0 k1 (by rw[q2];exact ho)]at q1;cases q1
  show bL (w (C.chunk j))≤3∧(0<bD (w (C.chunk j))∧bD (w (C.chunk j))≤C.W)∧qy w 4 j=false∧IntKind.i64.wrap (w (C.chunk j+1))≤0∧bF (w (C.chunk j))=1∧∀ x,0≤x→x<bD (w (C.chunk j))→x % aA (bL (w (C.chunk j)))=0→C_ C w (C.base j+x)
  refine⟨hum.2.1,by rw[hold.2.1];exact⟨hum.2.2,hold.2.2.2⟩,ho,by rw[h.aw.live j j0 j1,hz];decide,hold.1,fun x x0 x1 xm=>?_⟩
  rw[hold.2.1]at x1
  obtain⟨k,⟨k0,k1⟩,e1,e2⟩:=h.OS j x j0 jn x0 x1 xm
  have:=h.gone hC hi k0 k1 (hg k k0 k1 (by rw[e1];exact ho))
  rw[show(dd k).a C=C.base (dd k).j+(dd k).i from rfl,e1,e2]at this
  exact this
 ·have hc:=h.V9 j0 j1
  refine⟨fun hm=>?_,hc.1⟩
  have h1:bF (w (C.chunk j))=1:=hm.1
  have h2:qy w 4 j=false:=hm.2.1
  have hjn:=hc.2.2 h1
  have hD':(decide (0≤j∧j<b.nx) && !qy w 4 j)=false:=hD
  rw[h2]at hD'
  simp[j0,hjn]at hD'
end
theorem TI.init(hC:C.ok){K0 Ks:Int}{pn:Bool}{D:Int→Bool}(hS:TS C ⟨K0,Ks,0,A.w 0,pn,A.w,D⟩)(nn:C.len≤A.n∧(A.n:Int)≤200000000)(jF:∀ i,0≤A.w i∧A.w i<18446744073709551616)
  (hK:kS C ⟨K0,Ks,0,A.w 0,pn,A.w,D⟩ A.w 1=K0) (hKs:Ks=K0):TI C ⟨K0,Ks,0,A.w 0,pn,A.w,D⟩ Co.new A:=by
 have zo:∀ j,0≤j→j<C.C→D j=true→bF (A.w (C.chunk j))=1:=fun j j0 j1 d=>(hS.dd j j0 j1 d).2.2.2.2.1
 have k3:kS C ⟨K0,Ks,0,A.w 0,pn,A.w,D⟩ A.w 3=0:=BB fun j j0 j1 d q=>by rw[zo j j0 j1 d]at q;exact absurd q (by decide)
 have kn:=zk (C:=C) (P:=⟨K0,Ks,0,A.w 0,pn,A.w,D⟩) (w:=A.w) (s:=1)
 have iD:=hC.C
 refine TI.of (pc:=0) (at':=0) A.w rfl hS nn jF ⟨fun _ _ _=>rfl,fun _ _ _ _ _=>⟨rfl,rfl⟩,fun _ _ _ _ _ _ _ _=>rfl,fun j j0 j1 d q=>?_,fun j x j0 j1 d q=>?_,fun j x j0 j1 d q=>?_⟩ ?_ ?_ ?_
 ·rw[zo j j0 j1 d]at q;rcases q with q|q<;>exact absurd q (by decide)
 ·rw[zo j j0 j1 d]at q;exact absurd q (by decide)
 ·rw[zo j j0 j1 d]at q;exact absurd q (by decide)
 ·exact⟨by decide,fun q=>absurd q (by decide),fun _=>⟨⟨Int.le_refl 0,by omega⟩,fun q=>absurd rfl q⟩,fun q=>absurd q (by decide),fun q=>absurd q (by decide),fun q=>absurd q (by decide),fun q=>absurd q (by decide),fun q=>absurd q (by decide),fun q=>absurd q (by decide),fun _=>rfl,fun q=>absurd q (by decide),fun _=>rfl,fun j j0 j1 d q=>by rw[zo j j0 j1 d]at q;exact absurd q (by decide)⟩
 ·exact⟨by rw[ae (by decide),hK];show(0:Int)+0+K0=K0;omega,by rw[k3];rfl,⟨rfl,rfl,rfl⟩,⟨by decide,by decide,by decide,Int.le_refl 0,Int.le_refl 0⟩⟩
 ·refine⟨⟨(jF 0).1,by show A.w 0≤A.w 0+(0-0)+_;rw[ae (by decide)];omega⟩,.inl ?_,⟨Int.le_refl 0,fun q=>absurd rfl q,fun _=>rfl,fun q=>absurd q (by decide)⟩,fun q=>absurd q (by decide),fun q=>absurd q (by decide),fun _ _ j j0 j1 d q=>by rw[zo j j0 j1 d]at q;exact absurd q (by decide),fun _ q=>absurd q (by decide),fun _ q=>?_,fun _ q=>?_,fun _=>⟨Int.le_refl _,by show A.w 0≤A.w 0+1;omega,rfl,fun j j0 j1 d q=>by rw[zo j j0 j1 d]at q;exact absurd q (by decide)⟩,?_⟩
  ·rw[ae (by decide),hK];show K0+(0-0)+0≤Ks;omega
  ·have:Ks+2≤(0:Int)-0:=q;omega
  ·have:Ks+3≤(0:Int)-0:=q;omega
  ·show 0≤Ks;omega
end Go.Fl
namespace Go.Fl
open Go
variable{N:Nm}{A B:Ar}{σ:Mem}{K:Value→Mem→Prop}{C:Cf}{who:Int}
section
variable{i:Int}{n:Nat}{dd:Int→Do}{li:Int→Bool}{w w':Int→Int}{b:Bg}
theorem Dw.same(hC:C.ok)(h:Dw C i n dd li w b)(aw:b.aw C w')(hs:∀ t,0≤t→t<C.S→w' (C.slot t)=w (C.slot t))(hw:∀ j x,0≤j→j<C.C→0≤x→x<b.u j→x<C.W→w' (C.base j+x)=w (C.base j+x))(hc:∀ j,0≤j→j<b.nx→bL (w' (C.chunk j))=bL (w (C.chunk j))):Dw C i n dd li w' b:=by
 have F6:=h.aw.jJ.bd
 have wh:∀ k:Int,0≤k→k<n→w' ((dd k).a C)=w ((dd k).a C):=fun k k0 k1=>by
  obtain⟨⟨p1,p2,p3⟩,_⟩:=h.pl k k0 k1
  have pu:=(m3 hC h.aw p1.1 (by omega)).2
  have rm:=(dd k).Ra
  exact hw _ _ p1.1 (by omega) p2 (by omega) (by omega)
 refine⟨aw,h.lv,fun s s0 s1=>by rw[hs s s0 s1];exact h.gen s s0 s1,h.hd,fun k k0 k1 hk=>?_,fun k k0 k1 hk=>?_,h.Rg,h.ns,h.sm,h.Uw,fun k k0 k1=>?_,fun j x j0 j1 x0 x1 xm=>?_,fun j j0 j1=>?_⟩
 ·have o:=h.ok k k0 k1 hk
  exact o.aL o.sF (hs _ o.s.1 o.s.2) (wh k k0 k1) (Int.le_refl _) o.lv
 ·have:=(h.hd k k0 k1).1.2.2
  rw[hs _ this.1 this.2];exact h.dead k k0 k1 hk
 ·obtain⟨p1,p2,p3⟩:=h.pl k k0 k1
  exact⟨p1,by rw[hc _ p1.1.1 p1.1.2];exact p2,by rw[wh k k0 k1];exact p3⟩
 ·rw[hc j j0 j1]at xm;exact h.OS j x j0 j1 x0 x1 xm
 ·rw[hc j j0 j1];exact h.um j j0 j1
end
theorem LD(hN:N.ok)(hC:C.ok)(hA:aZ N A σ){i:Int}{n:Nat}{dd:Int→Do}{li:Int→Bool}{b:Bg}{z bb:Int}{own:Bool}(hP:Pa C A bb)(hb:bb<2305843009213693952)(h:Dw C i n dd li A.w b)(hi:i≤1000)(bE:0≤ai z)
  (k0:∀ oE oV oS A' τ,(oE=7∧b.F=[]∨oE=6∧¬ bP C b.o b.u (ai z)∧b.nx=C.C)→Dw C i n dd li A'.w b→Pa C A' (bb+100)→A'.n=A.n→(∀ i,lD C i→A'.w i=A.w i)→aZ N A' τ→aQ N.l σ τ→K (.agg #[.int .i64 oE,.int .u64 0,.int .i64 oV,.int .i64 oS]) τ)
  (k1:∀ oV oS A' τ s F j b' d,b.F=s::F→B6 C b F (ai z) j b'→(d.own=own∧d.j=j∧d.z=z∧d.i=b.u j)→Dw C (i+1) (n+1) (m5 dd n d) (fa li n true) A'.w (b'.count j (aA (ai z)))→Pa C A' (bb+100)→A'.n=A.n→(∀ i,lD C i→A'.w i=A.w i)→aZ N A' τ→aQ N.l σ τ →
   K (.agg #[.int .i64 0,.int .u64 d.n,.int .i64 oV,.int .i64 oS]) τ):tj [N.env C who,.int .i64 z,.bool own] K σ:=by
 refine LH hN hC hA hP hb h.aw (h.lv.ok (by omega)) bE fun m A' τ hD BF hn yp pD dL hK=>?_
 have Je:=hD.fw
 rcases hD.r with⟨e,eH,eF,jC⟩|⟨s,F,hF,⟨e,eH,ng,nx,jC⟩|⟨e,_,j,b',hg,jb,ub,eH,jC,w1,w2,w3⟩⟩
 ·rw[eH]
  exact k0 _ _ _ A' τ (.inl ⟨e,eF⟩) (h.same hC jC (fun t t0 t1=>Je.slot t t0 t1 fun q=>by rw[e]at q;exact absurd q (by decide)) (fun j x j0 j1 x0 x1 x2=>Je.word j x j0 j1 x0 x1 x2) yp) BF hn pD dL hK
 ·rw[eH]
  exact k0 _ _ _ A' τ (.inr ⟨e,ng,nx⟩) (h.same hC jC (fun t t0 t1=>Je.slot t t0 t1 fun q=>by rw[e]at q;exact absurd q (by decide)) (fun j x j0 j1 x0 x1 x2=>Je.word j x j0 j1 x0 x1 x2) yp) BF hn pD dL hK
 ·rw[e,eH]
  exact k1 _ _ A' τ s F j b' (Do.mk' C b s (b9 (A.w (C.slot s))) z own j) hF hg ⟨rfl,rfl,rfl,rfl⟩ (h.make hC hi hF bE hg jC w1 w2 (Je.mono fun _=>trivial) yp) BF hn pD dL hK
theorem Dx(hN:N.ok)(hC:C.ok)(hA:aZ N A σ){b:Bg}{d:Do}{bb:Int}(hP:Pa C A bb)(hb:bb<2305843009213693952)(kM:b.aw C A.w)(hd:d.ok C b A.w)(su:b.lv d.j<18446744073709551616)
  (hk:∀ m A' τ,DnD C b d A.w A.s m A'→Pa C A' (bb+60)→A'.n=A.n→aZ N A' τ→aQ N.l σ τ→K (.agg #[.int .i64 0,.int .u64 m.d.oH,.int .i64 m.d.oV,.int .i64 m.d.oS]) τ) :
  tf [N.env C who,.int .u64 d.n,.bool d.own] K σ:=by
 have av:=d.av hC hd ⟨_,kM⟩
 refine Sf hN hC hA (fun k m A'=>O5 C b d A.w A.s k m A'∧A'.ok (bb+k)∧A'.n=A.n∧A'.s=A.s+k) (fun m A'=>DnD C b d A.w A.s m A'∧A'.ok (bb+60)∧A'.n=A.n∧A'.s≤A.s+60)
  ⟨⟨rfl,rfl,.inl ⟨rfl,Int.le_refl 0,rfl,rfl,rfl⟩⟩,by simpa using hP.ok,rfl,by omega⟩ ?_ (fun m A' h=>by have:=h.1.C3 av.2.2.1;omega) ?_
 ·rintro k m A' k0 k1 ⟨h,ok,en,es⟩
  have G2:=h.C3 av.2.2.1
  have pC:=hP.n
  refine⟨h.fit hC hd kM ok.w hP.ok.w (by omega),ok.w,by omega,?_⟩
  obtain⟨td,h'⟩:=h.step (who:=who) hC hd kM ok (by omega) (by omega) su
  have t1:=td.s
  have t2:=td.n
  have t3:=td.ok _ ok
  rcases h' with⟨e,h'⟩|⟨e,h'⟩
  ·rw[ae (by rw[e];decide)]
   exact⟨h',by rw[show bb+(k+1)=bb+k+1 by omega];exact t3,by omega,by omega⟩
  ·rw[af e]
   exact⟨h',lh t3 (by omega),by omega,by omega⟩
 ·rintro m A' τ ⟨hD,ok,en,es⟩ dL hK
  rw[hD.e]
  have:=hP.n
  exact hk m A' τ hD (Bg.aw.pa hC hD.aw ok (by omega)) en dL hK
theorem LK(hN:N.ok)(hC:C.ok)(hG:C.G=100)(hA:aZ N A σ){i k:Int}{n:Nat}{dd:Int→Do}{li:Int→Bool}{b:Bg}{bb:Int}(hP:Pa C A bb)(hb:bb<2305843009213693952)(h:Dw C i n dd li A.w b)(hi:i≤90)(k0:0≤k)(k1:k<n)(hk:li k=true)
  (kk:∀ oH oV oS A' τ,Dw C (i+1) n dd (fa li k false) A'.w { b.less (dd k).j (aA (ai (dd k).z))with F:=(dd k).s::b.F }→Pa C A' (bb+60)→A'.n=A.n→(∀ i,lD C i→A'.w i=A.w i)→aZ N A' τ→aQ N.l σ τ→K (.agg #[.int .i64 0,.int .u64 oH,.int .i64 oV,.int .i64 oS]) τ) :
  tf [N.env C who,.int .u64 (dd k).n,.bool (dd k).own] K σ:=by
 have o:=h.ok k k0 k1 hk
 have su:=h.lv.lv _ o.j.1 o.j.2
 refine Dx hN hC hA hP hb h.aw o (by omega) fun m A' τ hD BF yP dL hK=>?_
 refine kk _ _ _ A' τ (h.drop hC hG hi k0 k1 hk hD.fr hD.sl hD.aw) BF yP (fun x hx=>?_) dL hK
 have zm:x=0∨6≤x∧x<6+C.T:=hx
 have F6:=a_ hC o.j.1 o.j.2 o.i.1
 have ea:(dd k).a C=C.base (dd k).j+(dd k).i:=rfl
 have os:=o.s
 have oj:=o.j
 have hT:=hC.T
 exact hD.fr x (by unfold Cf.slot;omega) (by omega) (by unfold Cf.slot;omega) (by unfold Cf.chunk;omega) (by omega)
end Go.Fl
namespace Go.Fl
open Go
variable{C:Cf}{w:Int→Int}
structure MP where
 w0:Int→Int
 lv:Int→Bool
 g:Int→Int
 z:Int→Int
 o:Int→Bool
 L:Int→Int→Int
 hs:Int
 ha:Int
 hu:Int
 hp:Int
variable{P:MP}
structure MS(C:Cf)(P:MP):Prop where
 cc:C.C≤8∧C.W≤36∧C.R≤3
 lv:∀ s,0≤s→s<C.S→P.lv s=true→0≤ai (P.z s)∧(0≤P.g s∧P.g s≤65535)∧∀ k,0≤k→k<P.z s→0≤P.L s k∧P.L s k≤1099511627775
 dd:∀ s,0≤s→s<C.S→P.lv s=false→cF (P.w0 (C.slot s))≠1∧cF (P.w0 (C.slot s))≠4
def MP.rm(P:MP)(s:Int):Int:=aA (ai (P.z s))
def MP.hw(P:MP)(s a:Int):Int:=aW 2 (P.z s) s (P.g s) (P.o s)
structure qq(C:Cf)(P:MP)(w:Int→Int)(s a j x:Int):Prop where
 ea:a=C.base j+x
 jb:0≤j∧j<C.C
 xb:0≤x∧x+P.rm s≤bD (w (C.chunk j))
 m:x % P.rm s=0
 c:bL (w (C.chunk j))=ai (P.z s)
 st:bF (w (C.chunk j))=1∨bF (w (C.chunk j))=2
structure uB(v x c:Int):Prop where
 e:kN c=x
 f:lL c=true→kX c<v
def Xh(n c:Int):Prop:=lL c=true∧n≤kX c
structure Ka(C:Cf)(P:MP)(w:Int→Int)(j x:Int):Prop where
 ea:P.ha=C.base j+x
 jb:0≤j∧j<C.C
 xb:0≤x∧x+P.rm P.hs≤bD (w (C.chunk j))
 m:x % P.rm P.hs=0
 c:bL (w (C.chunk j))=ai (P.z P.hs)
 st:bF (w (C.chunk j))≠0
 q:bF (w (C.chunk j))=3→P.hp≤w (C.chunk j+2)
def MP.hh(P:MP)(v:Int):Prop:=∃ k,(k=1∨k=2)∧v=aW k (P.z P.hs) P.hs (P.g P.hs) (P.o P.hs)
structure O4(C:Cf)(P:MP)(w:Int→Int):Prop where
 sb:(0≤P.hs∧P.hs<C.S)∧P.lv P.hs=true
 hp:0≤P.hp
 pl:∃ j x,Ka C P w j x
 hd:P.hh (w P.ha)
 v1:a8 (w (C.slot P.hs))=P.ha→P.hu≤cO (w (C.slot P.hs))
 v2:a8 (w (C.slot P.hs))≠P.ha→∀ k,0≤k→k<P.z P.hs→Xh P.hu (w (P.ha+1+k))
structure mC(C:Cf)(P:MP)(t:Int)(w:Int→Int)(s a v:Int):Prop where
 sw:w (C.slot s)=aK 1 a (P.g s) v
 vb:0≤v∧v≤t
 pl:∃ j x,qq C P w s a j x
 hd:w a=P.hw s a
 ce:∀ k,0≤k→k<P.z s→uB v (P.L s k) (w (a+1+k))
def HD(C:Cf)(P:MP)(v a:Int):Prop:=nF v=3∨(nF v=2∧(0≤tx v∧tx v<C.S)∧0≤ai (gH v))
structure HE(C:Cf)(t v:Int):Prop where
 c:bL v≤3
 u:bD v≤C.W
 m:bD v % aA (bL v)=0
 n:eM v≤t
 p:2≤bF v→0<bD v
structure MW(C:Cf)(P:MP)(t ms cp:Int)(w:Int→Int):Prop where
 bd:∀ i,0≤w i∧w i<18446744073709551616
 ck:∀ j,0≤j→j<C.C→HE C t (w (C.chunk j))
 hd:∀ j x,0≤j→j<C.C→(bF (w (C.chunk j))=1∨bF (w (C.chunk j))=2)→0≤x→x<bD (w (C.chunk j))→x % aA (bL (w (C.chunk j)))=0→C.base j+x≠cp→HD C P (w (C.base j+x)) (C.base j+x)
 dd:∀ s,0≤s→s<C.S→P.lv s=false→w (C.slot s)=P.w0 (C.slot s)
 lv:∀ s,0≤s→s<C.S→P.lv s=true→s≠ms→∃ a v,mC C P t w s a v
 op:∀ k,0≤k→k≤3→0≤w (2+k)∧w (2+k)≤C.C
 ep:w 0≤t
 sn:∀ j,0≤j→j<C.C→bF (w (C.chunk j))=3→w (C.chunk j+2)≤t
 ins:0≤P.hp→w 6=P.hp+1∧(w 0=P.hp∨w 0=P.hp+1)
 ho:0≤P.hs→O4 C P w
theorem MS.rm(hS:MS C P){s:Int}(s0:0≤s)(s1:s<C.S)(l:P.lv s=true):(3≤P.rm s∧P.rm s≤17)∧(1≤P.z s∧P.z s≤16)∧P.z s+1≤P.rm s:=by
 have h:=(hS.lv s s0 s1 l).1
 exact⟨bR h (bH _).2,bT h⟩
theorem qq.bd(hC:C.ok)(hS:MS C P){s a j x:Int}(h:qq C P w s a j x)(hu:bD (w (C.chunk j))≤C.W)(s0:0≤s)(s1:s<C.S)(l:P.lv s=true):(C.base 0≤a∧a+P.z s<C.len)∧x+P.z s<C.W:=by
 have r:=hS.rm s0 s1 l
 have hx:=h.xb
 have b0:=a_ hC h.jb.1 h.jb.2 hx.1
 have b1:=(b6 hC (i:=x+P.z s) h.jb.1 h.jb.2 (by omega) (by omega)).2.2
 rw[h.ea]
 have e0:C.base 0=6+C.T+2*C.S+3*C.C:=by unfold Cf.base;omega
 exact⟨⟨by omega,by omega⟩,by omega⟩
theorem Ka.sA(hC:C.ok)(hS:MS C P){j x:Int}(h:Ka C P w j x)(hu:bD (w (C.chunk j))≤C.W)(sb:(0≤P.hs∧P.hs<C.S)∧P.lv P.hs=true):(C.base 0≤P.ha∧P.ha+P.z P.hs<C.len)∧x+P.z P.hs<C.W∧C.base 0=6+C.T+2*C.S+3*C.C∧(∀ i,0≤i→i<C.C→C.chunk i+3≤C.base 0)∧1≤P.z P.hs:=by
 have r:=hS.rm sb.1.1 sb.1.2 sb.2
 have hx:=h.xb
 have b0:=a_ hC h.jb.1 h.jb.2 hx.1
 have b1:=(b6 hC (i:=x+P.z P.hs) h.jb.1 h.jb.2 (by omega) (by omega)).2.2
 rw[h.ea]
 have e0:C.base 0=6+C.T+2*C.S+3*C.C:=by unfold Cf.base;omega
 exact⟨⟨by omega,by omega⟩,by omega,e0,fun i i0 i1=>by rw[e0];unfold Cf.chunk;omega,by omega⟩
theorem qq.apart{s a j x r y d k:Int}(h:qq C P w s a j x)(hz:P.z s+1≤P.rm s)(h3:3≤P.rm s)(hr:r=P.rm s)(hy:y % r=0)(hd:0≤d∧d<r)(hk:0≤k∧k≤P.z s)(e:x+k=y+d):x=y:=by
 have hm:=h.m
 rw[hr]at hy hd
 have e1:(x-y) % P.rm s=0:=by rw[Int.sub_emod,hm,hy];rfl
 have e2:x-y=d-k:=by omega
 obtain⟨c,hc⟩:=Int.dvd_of_emod_eq_zero e1
 have:c=0:=by
  by_cases p:0<c
  ·have:P.rm s*1≤P.rm s*c:=Int.mul_le_mul_of_nonneg_left (by omega) (by omega)
   omega
  ·by_cases n:c<0
   ·have:P.rm s*c≤P.rm s*(-1):=Int.mul_le_mul_of_nonneg_left (by omega) (by omega)
    omega
   ·omega
 subst this
 omega
section
variable{t ms cp:Int}
theorem mC.sl(hC:C.ok)(hS:MS C P){s a v:Int}(h:mC C P t w s a v)(ht:t≤4194303)(hu:∀ j,0≤j→j<C.C→HE C t (w (C.chunk j)))(s0:0≤s)(s1:s<C.S)(l:P.lv s=true) :
  cF (w (C.slot s))=1∧a8 (w (C.slot s))=a∧b9 (w (C.slot s))=P.g s∧cO (w (C.slot s))=v:=by
 obtain⟨j,x,p⟩:=h.pl
 have b:=(p.bd hC hS (hu j p.jb.1 p.jb.2).u s0 s1 l).1
 have r:=hS.rm s0 s1 l
 have hl:=br hC
 have hb:0≤C.base 0:=by have:=a_ hC p.jb.1 p.jb.2 p.xb.1;have:=hC.T;have:=hC.S;have:=hC.C;unfold Cf.base;omega
 have hv:=h.vb
 rw[h.sw]
 exact fc (by decide) (by omega) (hS.lv s s0 s1 l).2.1 (by omega)
theorem FY(hC:C.ok)(hS:MS C P){s a:Int}(s0:0≤s)(s1:s<C.S)(l:P.lv s=true):nF (P.hw s a)=2∧gH (P.hw s a)=P.z s∧tx (P.hw s a)=s∧E3 (P.hw s a)=P.g s∧sy (P.hw s a)=P.o s:=by
 have r:=hS.rm s0 s1 l
 have rX:=hC.S
 exact je (by decide) (by omega) (by omega) (hS.lv s s0 s1 l).2.1
theorem MW.at'(hC:C.ok)(hS:MS C P)(h:MW C P t ms cp w)(ht:t≤4194303){s a:Int}(s0:0≤s)(s1:s<C.S)(l:P.lv s=true)(hm:s≠ms)(e:a8 (w (C.slot s))=a) :
  (nF (w a)=2∧gH (w a)=P.z s∧tx (w a)=s∧E3 (w a)=P.g s∧sy (w a)=P.o s)∧∃ v,mC C P t w s a v:=by
 obtain⟨a',v,o⟩:=h.lv s s0 s1 l hm
 have:=(o.sl hC hS ht h.ck s0 s1 l).2.1
 have ea:a'=a:=by omega
 subst ea
 rw[o.hd]
 exact⟨FY hC hS s0 s1 l,v,o⟩
theorem mC.aL{t' s a v:Int}{w':Int→Int}(h:mC C P t w s a v)(ht:t≤t')(hs:w' (C.slot s)=w (C.slot s))(hc:∀ j x,qq C P w s a j x→qq C P w' s a j x)(hz:0≤P.z s)(hw:∀ i,0≤i→i≤P.z s→w' (a+i)=w (a+i)):mC C P t' w' s a v:=by
 obtain⟨j,x,p⟩:=h.pl
 refine⟨by rw[hs];exact h.sw,by have:=h.vb;omega,⟨j,x,hc j x p⟩,?_,fun k k0 k1=>?_⟩
 ·have:=hw 0 (Int.le_refl 0) hz
  rw[Int.add_zero]at this
  rw[this];exact h.hd
 ·have:=hw (1+k) (by omega) (by omega)
  rw[←Int.add_assoc]at this
  rw[this];exact h.ce k k0 k1
theorem HE.mono{t' v:Int}(h:HE C t v)(ht:t≤t'):HE C t' v:=⟨h.c,h.u,h.m,by have:=h.n;omega,h.p⟩
theorem MW.mono{t':Int}(h:MW C P t ms cp w)(ht:t≤t'):MW C P t' ms cp w:=
 ⟨h.bd,fun j j0 j1=>(h.ck j j0 j1).mono ht,h.hd,h.dd,fun s s0 s1 l hm=>by
  obtain⟨a,v,o⟩:=h.lv s s0 s1 l hm
  exact⟨a,v,o.sw,by have:=o.vb;omega,o.pl,o.hd,o.ce⟩,h.op,by have:=h.ep;omega,fun j j0 j1 q=>by have:=h.sn j j0 j1 q;omega,h.ins,h.ho⟩
theorem MW.chunk(hC:C.ok)(hS:MS C P){t' i v cp':Int}(h:MW C P t ms cp w)(ht:t≤t')(i0:0≤i)(i1:i<C.C)(hv:0≤v∧v<18446744073709551616)(yp:HE C t' v)(Vm:cp=cp'∨cp = -1)
  (hh:bF v=1∨bF v=2→∀ x,0≤x→x<bD v→x % aA (bL v)=0→C.base i+x≠cp'→HD C P (w (C.base i+x)) (C.base i+x))
  (ho:∀ s a x,0≤s→s<C.S→P.lv s=true→s≠ms→a8 (w (C.slot s))=a→qq C P w s a i x→(bF v=1∨bF v=2)∧bL v=bL (w (C.chunk i))∧bD (w (C.chunk i))≤bD v) (h4:t≤4194303)
  (hq:0≤P.hs→∀ x,Ka C P w i x→Ka C P (aX w (C.chunk i) v) i x) (UW:bF v=3→w (C.chunk i+2)≤t'):MW C P t' ms cp' (aX w (C.chunk i) v):=by
 have bi:=cP hC i0 i1
 have ck:∀ j,j≠i→aX w (C.chunk i) v (C.chunk j)=w (C.chunk j):=fun j e=>az _ _ (gK e).1
 have cb:∀ j x,0≤j→j<C.C→0≤x→aX w (C.chunk i) v (C.base j+x)=w (C.base j+x):=fun j x j0 j1 x0=>az _ _ (by have:=a_ hC j0 j1 x0;omega)
 have cs:∀ s,s<C.S→aX w (C.chunk i) v (C.slot s)=w (C.slot s):=fun s s1=>az _ _ (by unfold Cf.chunk Cf.slot;omega)
 have hT:=hC.T;have rX:=hC.S
 refine⟨pF h.bd hv,fun j j0 j1=>?_,fun j x j0 j1 hs x0 x1 xm jd=>?_,fun s s0 s1 l=>by rw[cs s s1];exact h.dd s s0 s1 l,fun s s0 s1 l hm=>?_,fun k k0 k1=>by rw[az _ _ (by unfold Cf.chunk;omega)];exact h.op k k0 k1,by rw[az _ _ (by omega)];have:=h.ep;omega,fun j j0 j1 q=>?_,fun p=>?_,fun p=>?_⟩
 ·by_cases e:j=i
  ·subst e;rw[aE];exact yp
  ·rw[ck j e];exact(h.ck j j0 j1).mono ht
 ·rw[cb j x j0 j1 x0]
  by_cases e:j=i
  ·subst e;rw[aE]at hs x1 xm;exact hh hs x x0 x1 xm jd
  ·rw[ck j e]at hs x1 xm
   refine h.hd j x j0 j1 hs x0 x1 xm ?_
   rcases Vm with q|q
   ·rw[q];exact jd
   ·have:=a_ hC j0 j1 x0;have:=hC.T;have:=hC.C;omega
 ·obtain⟨a,u,o⟩:=h.lv s s0 s1 l hm
  have CT:=(o.sl hC hS h4 h.ck s0 s1 l).2.1
  obtain⟨j,x,p⟩:=o.pl
  have b:=(p.bd hC hS (h.ck j p.jb.1 p.jb.2).u s0 s1 l).1
  have e0:C.base 0=6+C.T+2*C.S+3*C.C:=by unfold Cf.base;omega
  refine⟨a,u,o.aL ht (cs s s1) (fun k y q=>?_) (by have:=hS.rm s0 s1 l;omega) fun d d0 d1=>az _ _ (by omega)⟩
  by_cases e:k=i
  ·subst e
   obtain⟨u1,u2,u3⟩:=ho s a y s0 s1 l hm CT q
   have qx:=q.xb
   exact⟨q.ea,q.jb,by rw[aE];omega,q.m,by rw[aE,u2];exact q.c,by rw[aE];exact u1⟩
  ·exact⟨q.ea,q.jb,by rw[ck k e];exact q.xb,q.m,by rw[ck k e];exact q.c,by rw[ck k e];exact q.st⟩
 ·rw[az _ _ (by unfold Cf.chunk;omega)]
  by_cases e:j=i
  ·subst e;rw[aE]at q;exact UW q
  ·rw[ck j e]at q;have:=h.sn j j0 j1 q;omega
 ·rw[az _ _ (by unfold Cf.chunk;omega),az _ _ (by unfold Cf.chunk;omega)];exact h.ins p
 ·obtain⟨sb,hp,⟨j,x,pl⟩,hd,v1,v2⟩:=h.ho p
  have g:=pl.sA hC hS (h.ck j pl.jb.1 pl.jb.2).u sb
  refine⟨sb,hp,?_,?_,?_,?_⟩
  ·by_cases e:j=i
   ·subst e;exact⟨j,x,hq p x pl⟩
   ·exact⟨j,x,pl.ea,pl.jb,by rw[ck j e];exact pl.xb,pl.m,by rw[ck j e];exact pl.c,by rw[ck j e];exact pl.st,by rw[ck j e,az _ _ (by unfold Cf.chunk;omega)];exact pl.q⟩
  ·rw[az _ _ (by omega)];exact hd
  ·rw[cs _ sb.1.2];exact v1
  ·rw[cs _ sb.1.2];exact fun ne k k0 k1=>by rw[az _ _ (by omega)];exact v2 ne k k0 k1
theorem MW.low(hC:C.ok)(hS:MS C P){t' a v:Int}(h:MW C P t ms cp w)(ht:t≤t')(hv:0≤v∧v<18446744073709551616)(ha:a=0∧v≤t'∧(0≤P.hp→v=P.hp∨v=P.hp+1)∨(∃ j,0≤j∧j<C.C∧(a=C.chunk j+1∨a=C.chunk j+2∧bF (w (C.chunk j))≠3))∨∃ k,0≤k∧k≤3∧a=2+k∧v≤C.C):MW C P t' ms cp (aX w a v):=by
 have hT:=hC.T;have rX:=hC.S;have iD:=hC.C
 have e0:C.base 0=6+C.T+2*C.S+3*C.C:=by unfold Cf.base;omega
 have al:0≤a∧a<C.base 0:=by
  rcases ha with⟨rfl,_⟩|⟨j,j0,j1,q⟩|⟨k,k0,k1,rfl,_⟩
  ·omega
  ·have q':a=C.chunk j+1∨a=C.chunk j+2:=q.imp id And.left
   unfold Cf.chunk at q';omega
  ·omega
 have nc:∀ j,0≤j→C.chunk j≠a:=fun j j0=>by
  rcases ha with⟨rfl,_⟩|⟨k,k0,k1,q⟩|⟨k,k0,k1,rfl,_⟩
  ·unfold Cf.chunk;omega
  ·have q':a=C.chunk k+1∨a=C.chunk k+2:=q.imp id And.left
   unfold Cf.chunk at *;omega
  ·unfold Cf.chunk;omega
 have ns:∀ s,0≤s→s<C.S→C.slot s≠a:=fun s s0 s1=>by
  rcases ha with⟨rfl,_⟩|⟨k,k0,k1,q⟩|⟨k,k0,k1,rfl,_⟩
  ·unfold Cf.slot;omega
  ·have q':a=C.chunk k+1∨a=C.chunk k+2:=q.imp id And.left
   unfold Cf.slot;unfold Cf.chunk at q';omega
  ·unfold Cf.slot;omega
 have n6:(6:Int)≠a:=by
  rcases ha with⟨rfl,_⟩|⟨k,k0,k1,q⟩|⟨k,k0,k1,rfl,_⟩
  ·decide
  ·have q':a=C.chunk k+1∨a=C.chunk k+2:=q.imp id And.left
   unfold Cf.chunk at q';omega
  ·omega
 have c2:∀ j,0≤j→j<C.C→bF (w (C.chunk j))=3→aX w a v (C.chunk j+2)=w (C.chunk j+2):=fun j j0 j1 q3=>az _ _ (by
  rcases ha with⟨rfl,_⟩|⟨k,k0,k1,q|⟨q,q'⟩⟩|⟨k,k0,k1,rfl,_⟩
  ·unfold Cf.chunk;omega
  ·rw[q];unfold Cf.chunk;omega
  ·intro e
   have:j=k:=by rw[q]at e;unfold Cf.chunk at e;omega
   subst this;exact q' q3
  ·unfold Cf.chunk;omega)
 have ck:∀ j,0≤j→aX w a v (C.chunk j)=w (C.chunk j):=fun j j0=>az _ _ (nc j j0)
 have cb:∀ j x,0≤j→j<C.C→0≤x→aX w a v (C.base j+x)=w (C.base j+x):=fun j x j0 j1 x0=>az _ _ (by have:=a_ hC j0 j1 x0;omega)
 refine⟨pF h.bd hv,fun j j0 j1=>by rw[ck j j0];exact(h.ck j j0 j1).mono ht,fun j x j0 j1 hs x0 x1 xm jd=>?_,fun s s0 s1 l=>by rw[az _ _ (ns s s0 s1)];exact h.dd s s0 s1 l,fun s s0 s1 l hm=>?_,fun k k0 k1=>?_,?_,fun j j0 j1 q=>?_,fun p=>?_,fun p=>?_⟩
 ·rw[ck j j0]at hs x1 xm;rw[cb j x j0 j1 x0];exact h.hd j x j0 j1 hs x0 x1 xm jd
 ·obtain⟨b,u,o⟩:=h.lv s s0 s1 l hm
  obtain⟨j,x,p⟩:=o.pl
  have bb:=(p.bd hC hS (h.ck j p.jb.1 p.jb.2).u s0 s1 l).1
  exact⟨b,u,o.aL ht (az _ _ (ns s s0 s1)) (fun k y q=>⟨q.ea,q.jb,by rw[ck k q.jb.1];exact q.xb,q.m,by rw[ck k q.jb.1];exact q.c,by rw[ck k q.jb.1];exact q.st⟩) (by have:=hS.rm s0 s1 l;omega) fun d d0 d1=>az _ _ (by omega)⟩
 ·unfold aX;split
  ·rcases ha with⟨rfl,_⟩|⟨j,j0,j1,q⟩|⟨_,_,_,_,q⟩
   ·omega
   ·have q':2+k=C.chunk j+1∨2+k=C.chunk j+2:=by rename_i e;rw[e];exact q.imp id And.left
    unfold Cf.chunk at q';omega
   ·exact⟨hv.1,q⟩
  ·exact h.op k k0 k1
 ·unfold aX;split
  ·rcases ha with⟨_,q,_⟩|⟨j,j0,j1,q⟩|⟨_,_,_,q,_⟩
   ·exact q
   ·have q':(0:Int)=C.chunk j+1∨(0:Int)=C.chunk j+2:=by rename_i e;rw[e];exact q.imp id And.left
    unfold Cf.chunk at q';omega
   ·omega
  ·have:=h.ep;omega
 ·rw[ck j j0]at q;rw[c2 j j0 j1 q];have:=h.sn j j0 j1 q;omega
 ·rw[az _ _ n6]
  refine⟨(h.ins p).1,?_⟩
  unfold aX;split
  ·rcases ha with⟨_,_,q⟩|⟨j,j0,j1,q⟩|⟨_,_,_,q,_⟩
   ·exact q p
   ·have q':(0:Int)=C.chunk j+1∨(0:Int)=C.chunk j+2:=by rename_i e;rw[e];exact q.imp id And.left
    unfold Cf.chunk at q';omega
   ·omega
  ·exact(h.ins p).2
 ·obtain⟨sb,hp,⟨j,x,pl⟩,hd,v1,v2⟩:=h.ho p
  have g:=pl.sA hC hS (h.ck j pl.jb.1 pl.jb.2).u sb
  have cj:=ck j pl.jb.1
  refine⟨sb,hp,⟨j,x,pl.ea,pl.jb,by rw[cj];exact pl.xb,pl.m,by rw[cj];exact pl.c,by rw[cj];exact pl.st,fun q=>?_⟩,?_,?_,?_⟩
  ·rw[cj]at q;rw[c2 j pl.jb.1 pl.jb.2 q];exact pl.q q
  ·rw[az _ _ (by omega)];exact hd
  ·rw[az _ _ (ns _ sb.1.1 sb.1.2)];exact v1
  ·rw[az _ _ (ns _ sb.1.1 sb.1.2)];exact fun ne k k0 k1=>by rw[az _ _ (by omega)];exact v2 ne k k0 k1
def MP.wL(P:MP)(L':Int→Int→Int):MP:={ P with L:=L' }
theorem O4.wL{L':Int→Int→Int}(h:O4 C P w):O4 C (P.wL L') w:=by
 obtain⟨sb,hp,⟨j,x,p⟩,hd,v1,v2⟩:=h
 exact⟨sb,hp,⟨j,x,p.ea,p.jb,p.xb,p.m,p.c,p.st,p.q⟩,hd,v1,v2⟩
theorem MS.wL{L':Int→Int→Int}(h:MS C P)(hL:∀ s,0≤s→s<C.S→P.lv s=true→∀ k,0≤k→k<P.z s→0≤L' s k∧L' s k≤1099511627775):MS C (P.wL L'):=
 ⟨h.cc,fun s s0 s1 l=>⟨(h.lv s s0 s1 l).1,(h.lv s s0 s1 l).2.1,hL s s0 s1 l⟩,h.dd⟩
theorem MW.FF(hC:C.ok)(hS:MS C P){t' i y v:Int}{L':Int→Int→Int}(h:MW C P t ms cp w)(ht:t≤t')(i0:0≤i)(i1:i<C.C)(y0:0≤y)(y1:y<C.W)(hv:0≤v∧v<18446744073709551616)
  (hh:bF (w (C.chunk i))=1∨bF (w (C.chunk i))=2→y<bD (w (C.chunk i))→y % aA (bL (w (C.chunk i)))=0→C.base i+y≠cp→HD C P v (C.base i+y))
  (I_:∀ s,0≤s→s<C.S→P.lv s=true→s≠ms→∃ a u,mC C (P.wL L') t' (aX w (C.base i+y) v) s a u)
  (hq:0≤P.hs→∀ x,Ka C P w i x→x≤y→y≤x+P.z P.hs→x<y∧(a8 (w (C.slot P.hs))=P.ha∨Xh P.hu v)∨x=y∧P.hh v):MW C (P.wL L') t' ms cp (aX w (C.base i+y) v):=by
 have hT:=hC.T;have rX:=hC.S;have iD:=hC.C
 have bb:=a_ hC i0 i1 y0
 have ck:∀ j,0≤j→j<C.C→aX w (C.base i+y) v (C.chunk j)=w (C.chunk j):=fun j j0 j1=>az _ _ (by have:=cP hC j0 j1;omega)
 have cs:∀ s,s<C.S→aX w (C.base i+y) v (C.slot s)=w (C.slot s):=fun s s1=>az _ _ (by unfold Cf.slot;omega)
 have I':0≤P.hs→O4 C P (aX w (C.base i+y) v):=fun p=>by
  obtain⟨sb,hp,⟨j,x,pl⟩,hd,v1,v2⟩:=h.ho p
  have hu:=(h.ck j pl.jb.1 pl.jb.2).u
  have g:=pl.sA hC hS hu sb
  have px:=pl.xb
  have cj:=ck j pl.jb.1 pl.jb.2
  have key:∀ d,0≤d→d≤P.z P.hs→P.ha+d=C.base i+y→j=i∧x+d=y:=fun d d0 d1 e=>bW hC pl.jb.1 pl.jb.2 (by omega) (by omega) i0 i1 y0 y1 (by rw[←e,pl.ea];omega)
  refine⟨sb,hp,⟨j,x,pl.ea,pl.jb,by rw[cj];exact pl.xb,pl.m,by rw[cj];exact pl.c,by rw[cj];exact pl.st,by rw[cj,az _ _ (by have:=cP hC pl.jb.1 pl.jb.2;omega)];exact pl.q⟩,?_,?_,?_⟩
  ·by_cases e:P.ha=C.base i+y
   ·obtain⟨rfl,e2⟩:=key 0 (by omega) (by omega) (by omega)
    rw[e,aE]
    rcases hq p x pl (by omega) (by omega)with q|q
    ·omega
    ·exact q.2
   ·rw[az _ _ e];exact hd
  ·rw[cs _ sb.1.2];exact v1
  ·rw[cs _ sb.1.2]
   intro ne k k0 k1
   by_cases e:P.ha+1+k=C.base i+y
   ·obtain⟨rfl,e2⟩:=key (1+k) (by omega) (by omega) (by omega)
    rw[e,aE]
    rcases hq p x pl (by omega) (by omega)with⟨_,q|q⟩|q
    ·exact absurd q ne
    ·exact q
    ·omega
   ·rw[az _ _ e];exact v2 ne k k0 k1
 refine⟨pF h.bd hv,fun j j0 j1=>by rw[ck j j0 j1];exact(h.ck j j0 j1).mono ht,fun j x j0 j1 hs x0 x1 xm jd=>?_,fun s s0 s1 l=>by rw[cs s s1];exact h.dd s s0 s1 l,I_,fun k k0 k1=>by rw[az _ _ (by omega)];exact h.op k k0 k1,by rw[az _ _ (by omega)];have:=h.ep;omega,fun j j0 j1 q=>?_,fun p=>?_,fun p=>(I' p).wL⟩
 ·rw[ck j j0 j1]at hs x1 xm
  by_cases e:C.base j+x=C.base i+y
  ·have hu:=(h.ck j j0 j1).u
   obtain⟨rfl,rfl⟩:=bW hC j0 j1 x0 (by omega) i0 i1 y0 y1 e
   rw[aE];exact hh hs x1 xm jd
  ·rw[az _ _ e];exact h.hd j x j0 j1 hs x0 x1 xm jd
 ·rw[ck j j0 j1]at q;rw[az _ _ (by have:=cP hC j0 j1;omega)];have:=h.sn j j0 j1 q;omega
 ·rw[az _ _ (by omega),az _ _ (by omega)];exact h.ins p
theorem MW.word(hC:C.ok)(hS:MS C P){t' i y v:Int}(h:MW C P t ms cp w)(ht:t≤t')(i0:0≤i)(i1:i<C.C)(y0:0≤y)(y1:y<C.W)(hv:0≤v∧v<18446744073709551616)
  (hh:bF (w (C.chunk i))=1∨bF (w (C.chunk i))=2→y<bD (w (C.chunk i))→y % aA (bL (w (C.chunk i)))=0→C.base i+y≠cp→HD C P v (C.base i+y))
  (ho:∀ s a,0≤s→s<C.S→P.lv s=true→s≠ms→a8 (w (C.slot s))=a→∀ x,qq C P w s a i x→¬(x≤y∧y≤x+P.z s)) (h4:t≤4194303)
  (hq:0≤P.hs→∀ x,Ka C P w i x→x≤y→y≤x+P.z P.hs→x<y∧(a8 (w (C.slot P.hs))=P.ha∨Xh P.hu v)∨x=y∧P.hh v):MW C P t' ms cp (aX w (C.base i+y) v):=by
 have hT:=hC.T;have rX:=hC.S;have iD:=hC.C
 have bb:=a_ hC i0 i1 y0
 have ck:∀ j,0≤j→j<C.C→aX w (C.base i+y) v (C.chunk j)=w (C.chunk j):=fun j j0 j1=>az _ _ (by have:=cP hC j0 j1;omega)
 have cs:∀ s,s<C.S→aX w (C.base i+y) v (C.slot s)=w (C.slot s):=fun s s1=>az _ _ (by unfold Cf.slot;omega)
 refine h.FF (L':=P.L) hC hS ht i0 i1 y0 y1 hv hh (fun s s0 s1 l hm=>?_) hq
 obtain⟨a,u,o⟩:=h.lv s s0 s1 l hm
 have CT:=(o.sl hC hS h4 h.ck s0 s1 l).2.1
 obtain⟨j,x,p⟩:=o.pl
 have hb:=p.bd hC hS (h.ck j p.jb.1 p.jb.2).u s0 s1 l
 have px:=p.xb
 show ∃ a u,mC C P t' _ s a u
 refine⟨a,u,o.aL ht (cs s s1) (fun k x' q=>⟨q.ea,q.jb,by rw[ck k q.jb.1 q.jb.2];exact q.xb,q.m,by rw[ck k q.jb.1 q.jb.2];exact q.c,by rw[ck k q.jb.1 q.jb.2];exact q.st⟩) (by have:=hS.rm s0 s1 l;omega) fun d d0 d1=>az _ _ fun e=>?_⟩
 have e':C.base j+(x+d)=C.base i+y:=by rw[←e,p.ea];omega
 obtain⟨rfl,rfl⟩:=bW hC p.jb.1 p.jb.2 (by omega) (by omega) i0 i1 y0 y1 e'
 exact ho s a s0 s1 l hm CT x p ⟨by omega,by omega⟩
theorem Ka.off(hC:C.ok)(hS:MS C P){s j x y:Int}(sb:(0≤P.hs∧P.hs<C.S)∧P.lv P.hs=true)(p:Ka C P w j x)(hc:bL (w (C.chunk j))=ai (P.z s))(hm:y % P.rm s=0)(jd:P.ha≠C.base j+y){d:Int}(hd:0≤d∧d<P.rm s):¬(x≤y+d∧y+d≤x+P.z P.hs):=fun⟨h1,h2⟩=>by
 have rr:=hS.rm sb.1.1 sb.1.2 sb.2
 have e:P.rm s=P.rm P.hs:=by unfold MP.rm;rw[←hc,p.c]
 have Ja:=p.m
 have e1:(x-y) % P.rm P.hs=0:=by rw[Int.sub_emod,Ja,←e,hm];rfl
 obtain⟨c,zp⟩:=Int.dvd_of_emod_eq_zero e1
 have:c=0:=by
  by_cases p:0<c
  ·have:P.rm P.hs*1≤P.rm P.hs*c:=Int.mul_le_mul_of_nonneg_left (by omega) (by omega)
   omega
  ·by_cases n:c<0
   ·have:P.rm P.hs*c≤P.rm P.hs*(-1):=Int.mul_le_mul_of_nonneg_left (by omega) (by omega)
    omega
   ·omega
 subst this
 exact jd (by rw[p.ea];omega)
theorem Jd(hC:C.ok)(hS:MS C P){v:Int}(sb:(0≤P.hs∧P.hs<C.S)∧P.lv P.hs=true)(h:P.hh v):(nF v=1∨nF v=2)∧gH v=P.z P.hs∧tx v=P.hs∧E3 v=P.g P.hs∧sy v=P.o P.hs:=by
 have r:=hS.rm sb.1.1 sb.1.2 sb.2
 have rX:=hC.S
 obtain⟨k,hk,rfl⟩:=h
 have:=je (k:=k) (s:=P.z P.hs) (t:=P.hs) (g:=P.g P.hs) (o:=P.o P.hs) (by omega) (by omega) (by omega) (hS.lv _ sb.1.1 sb.1.2 sb.2).2.1
 exact⟨by omega,this.2⟩
theorem O4.cell(hC:C.ok)(hS:MS C P)(h:O4 C P w){s a j y:Int}(sb:0≤s∧s<C.S)(l:P.lv s=true)(p:qq C P w s a j y)(hk:∃ k,(k=1∨k=2)∧w a=aW k (P.z s) s (P.g s) (P.o s))(hu:bD (w (C.chunk j))≤C.W){d x:Int}(hd:0<d∧d≤P.z s)(q:Ka C P w j x)(h1:x≤y+d)(h2:y+d≤x+P.z P.hs):P.hs=s∧P.ha=a∧x=y:=by
 have r:=hS.rm sb.1 sb.2 l
 have e:P.ha=C.base j+y:=Decidable.byContradiction fun ne=>q.off hC hS h.sb p.c p.m ne (d:=d) (by omega) ⟨h1,h2⟩
 have ea:P.ha=a:=by rw[p.ea];exact e
 have t1:=(Jd hC hS h.sb h.hd).2.2.1
 obtain⟨k,kV,e2⟩:=hk
 have t2:=(je (k:=k) (s:=P.z s) (t:=s) (g:=P.g s) (o:=P.o s) (by omega) (by omega) (by have:=hC.S;omega) (hS.lv s sb.1 sb.2 l).2.1).2.2.1
 rw[ea,e2,t2]at t1
 have qe:=q.ea
 exact⟨t1.symm,ea,by omega⟩
theorem MW.lay(hC:C.ok)(hS:MS C P){t' s a v k c x:Int}{L':Int→Int→Int}(h:MW C P t ms cp w)(ht:t≤t')(h4:t'≤4194303)(s0:0≤s)(s1:s<C.S)(l:P.lv s=true)(hm:s≠ms)(o:mC C P t w s a v)(k0:0≤k)(k1:k<P.z s)
  (hc:uB v x c) (tz:0≤c∧c<18446744073709551616) (hL:∀ r d,L' r d=if r=s∧d=k then x else P.L r d) :
  MW C (P.wL L') t' ms cp (aX w (a+1+k) c)∧mC C (P.wL L') t' (aX w (a+1+k) c) s a v:=by
 have hT:=hC.T;have rX:=hC.S;have iD:=hC.C
 obtain⟨j,y,p⟩:=o.pl
 have r:=hS.rm s0 s1 l
 have ku:=(h.ck j p.jb.1 p.jb.2).u
 have g:=p.bd hC hS ku s0 s1 l
 have px:=p.xb
 have CT:=(o.sl hC hS (by omega) h.ck s0 s1 l).2.1
 have eb:a+1+k=C.base j+(y+(1+k)):=by rw[p.ea];omega
 have bb:=a_ hC p.jb.1 p.jb.2 (show 0≤y+(1+k) by omega)
 rw[eb]
 have ck:∀ i,0≤i→i<C.C→aX w (C.base j+(y+(1+k))) c (C.chunk i)=w (C.chunk i):=fun i i0 i1=>az _ _ (by have:=cP hC i0 i1;omega)
 have cs:∀ r,r<C.S→aX w (C.base j+(y+(1+k))) c (C.slot r)=w (C.slot r):=fun r r1=>az _ _ (by unfold Cf.slot;omega)
 have ob:mC C (P.wL L') t' (aX w (C.base j+(y+(1+k))) c) s a v:=by
  refine⟨by rw[cs s s1];exact o.sw,by have:=o.vb;omega,⟨j,y,p.ea,p.jb,by rw[ck j p.jb.1 p.jb.2];exact p.xb,p.m,by rw[ck j p.jb.1 p.jb.2];exact p.c,by rw[ck j p.jb.1 p.jb.2];exact p.st⟩,by rw[az _ _ (by rw[p.ea];omega)];exact o.hd,fun d d0 d1=>?_⟩
  show uB v (L' s d) _
  rw[hL]
  by_cases e:d=k
  ·subst e
   rw[af ⟨rfl,rfl⟩,show a+1+d=C.base j+(y+(1+d)) by rw[p.ea];omega,aE];exact hc
  ·rw[ae (fun q=>e q.2),az _ _ (by rw[p.ea];omega)];exact o.ce d d0 d1
 refine⟨h.FF hC hS ht p.jb.1 p.jb.2 (by omega) (by omega) tz (fun _ _ e=>?_) (fun i i0 i1 li mi=>?_) (fun p' x hx h1 h2=>?_),ob⟩
 ·exfalso
  rw[p.c]at e
  have Ja:=p.m
  unfold MP.rm at Ja r
  rw[Int.add_emod,Ja,Int.zero_add,Int.emod_emod,Int.emod_eq_of_lt (by omega) (by omega)]at e
  omega
 ·by_cases e:i=s
  ·subst e;exact⟨a,v,ob⟩
  ·obtain⟨b,u,oi⟩:=h.lv i i0 i1 li mi
   have ab1:=(oi.sl hC hS (by omega) h.ck i0 i1 li).2.1
   obtain⟨ji,yi,pi⟩:=oi.pl
   have ri:=hS.rm i0 i1 li
   have kui:=(h.ck ji pi.jb.1 pi.jb.2).u
   have pxi:=pi.xb
   have ne:b≠a:=fun e'=>by
    have h1:=oi.hd
    rw[e',o.hd]at h1
    have t1:=(FY (a:=a) hC hS s0 s1 l).2.2.1
    rw[h1,(FY (a:=a) hC hS i0 i1 li).2.2.1]at t1
    exact e t1
   have jd:∀ d,0≤d→d≤P.z i→b+d≠C.base j+(y+(1+k)):=fun d d0 d1 e'=>by
    obtain⟨e1,e2⟩:=bW hC pi.jb.1 pi.jb.2 (show 0≤yi+d by omega) (by omega) p.jb.1 p.jb.2 (show 0≤y+(1+k) by omega) (by omega) (by rw[←e',pi.ea];omega)
    subst e1
    have er:P.rm s=P.rm i:=by unfold MP.rm;rw[←p.c,pi.c]
    have e3:=pi.apart (y:=y) (d:=1+k) (k:=d) (r:=P.rm i) ri.2.2 ri.1.1 rfl (by rw[←er];exact p.m) (by omega) ⟨d0,d1⟩ (by omega)
    exact ne (by rw[pi.ea,p.ea];omega)
   refine⟨b,u,by rw[cs i i1];exact oi.sw,by have:=oi.vb;omega,⟨ji,yi,pi.ea,pi.jb,by rw[ck ji pi.jb.1 pi.jb.2];exact pi.xb,pi.m,by rw[ck ji pi.jb.1 pi.jb.2];exact pi.c,by rw[ck ji pi.jb.1 pi.jb.2];exact pi.st⟩,by rw[az _ _ (by have:=jd 0 (by omega) (by omega);omega)];exact oi.hd,fun d d0 d1=>?_⟩
   show uB u (L' i d) _
   rw[hL,ae (fun q=>e q.1),az _ _ (by have:=jd (1+d) (by omega) (by show 1+d≤P.z i;have:d<P.z i:=d1;omega);omega)]
   exact oi.ce d d0 d1
 ·obtain⟨e1,e2,e3⟩:=(h.ho p').cell hC hS ⟨s0,s1⟩ l p ⟨2,.inr rfl,o.hd⟩ ku (d:=1+k) (by omega) hx h1 h2
  refine .inl ⟨by omega,.inl ?_⟩
  rw[e1,e2];exact CT
theorem MW.slot(hC:C.ok)(hS:MS C P){t' s v Xo:Int}(h:MW C P t ms cp w)(ht:t≤t')(s0:0≤s)(s1:s<C.S)(l:P.lv s=true)(hv:0≤v∧v<18446744073709551616)
  (hms:∀ r,0≤r→r≠Xo→r≠s→r≠ms) (hq:0≤P.hs→P.hs=s→(a8 v=P.ha→P.hu≤cO v)∧(a8 v≠P.ha→∀ k,0≤k→k<P.z P.hs→Xh P.hu (w (P.ha+1+k)))) (ho:s≠Xo→∃ a u,mC C P t' (aX w (C.slot s) v) s a u):MW C P t' Xo cp (aX w (C.slot s) v):=by
 have hT:=hC.T;have rX:=hC.S;have iD:=hC.C
 have kL:C.slot s<6+C.T+2*C.S∧6+C.T≤C.slot s:=by unfold Cf.slot;omega
 have ck:∀ j,0≤j→j<C.C→aX w (C.slot s) v (C.chunk j)=w (C.chunk j):=fun j j0 j1=>az _ _ (by unfold Cf.chunk;omega)
 have cb:∀ j x,0≤j→j<C.C→0≤x→aX w (C.slot s) v (C.base j+x)=w (C.base j+x):=fun j x j0 j1 x0=>az _ _ (by have:=a_ hC j0 j1 x0;omega)
 have cs:∀ r,r≠s→aX w (C.slot s) v (C.slot r)=w (C.slot r):=fun r e=>az _ _ (by unfold Cf.slot;omega)
 have e0:C.base 0=6+C.T+2*C.S+3*C.C:=by unfold Cf.base;omega
 refine⟨pF h.bd hv,fun j j0 j1=>by rw[ck j j0 j1];exact(h.ck j j0 j1).mono ht,fun j x j0 j1 hs x0 x1 xm jd=>?_,fun r r0 r1 lr=>?_,fun r r0 r1 lr hm=>?_,fun k k0 k1=>by rw[az _ _ (by omega)];exact h.op k k0 k1,by rw[az _ _ (by omega)];have:=h.ep;omega,fun j j0 j1 q=>?_,fun p=>?_,fun p=>?_⟩
 ·rw[ck j j0 j1]at hs x1 xm;rw[cb j x j0 j1 x0];exact h.hd j x j0 j1 hs x0 x1 xm jd
 ·rw[cs r fun e=>by rw[e,l]at lr;cases lr];exact h.dd r r0 r1 lr
 ·by_cases e:r=s
  ·subst e;exact ho hm
  ·obtain⟨a,u,o⟩:=h.lv r r0 r1 lr (hms r r0 hm e)
   obtain⟨j,x,p⟩:=o.pl
   have bb:=(p.bd hC hS (h.ck j p.jb.1 p.jb.2).u r0 r1 lr).1
   exact⟨a,u,o.aL ht (cs r e) (fun k y q=>⟨q.ea,q.jb,by rw[ck k q.jb.1 q.jb.2];exact q.xb,q.m,by rw[ck k q.jb.1 q.jb.2];exact q.c,by rw[ck k q.jb.1 q.jb.2];exact q.st⟩) (by have:=hS.rm r0 r1 lr;omega) fun d d0 d1=>az _ _ (by omega)⟩
 ·rw[ck j j0 j1]at q;rw[az _ _ (by unfold Cf.chunk;omega)];have:=h.sn j j0 j1 q;omega
 ·rw[az _ _ (by omega),az _ _ (by omega)];exact h.ins p
 ·obtain⟨sb,hp,⟨j,x,pl⟩,hd,v1,v2⟩:=h.ho p
  have g:=pl.sA hC hS (h.ck j pl.jb.1 pl.jb.2).u sb
  have cj:=ck j pl.jb.1 pl.jb.2
  have pj:=pl.jb
  have hc:∀ d,0≤d→aX w (C.slot s) v (P.ha+d)=w (P.ha+d):=fun d d0=>az _ _ (by omega)
  have h0:=hc 0 (Int.le_refl 0)
  rw[Int.add_zero]at h0
  refine⟨sb,hp,⟨j,x,pl.ea,pl.jb,by rw[cj];exact pl.xb,pl.m,by rw[cj];exact pl.c,by rw[cj];exact pl.st,by rw[cj,az _ _ (by unfold Cf.chunk;omega)];exact pl.q⟩,by rw[h0];exact hd,?_,?_⟩
  ·by_cases e:P.hs=s
   ·rw[e,aE];exact(hq p e).1
   ·rw[cs _ e];exact v1
  ·intro ne k k0 k1
   rw[Int.add_assoc,hc _ (by omega),←Int.add_assoc]
   by_cases e:P.hs=s
   ·rw[e,aE]at ne;exact(hq p e).2 ne k k0 k1
   ·rw[cs _ e]at ne;exact v2 ne k k0 k1
theorem MW.fin(hC:C.ok)(h:MW C P t ms cp w)(ho:∃ a u,mC C P t w ms a u)(hh:HD C P (w cp) cp):MW C P t (-1) (-1) w:=by
 refine⟨h.bd,h.ck,fun j x j0 j1 hs x0 x1 xm jd=>?_,h.dd,fun s s0 s1 l hm=>?_,h.op,h.ep,h.sn,h.ins,h.ho⟩
 ·by_cases e:C.base j+x=cp
  ·rw[e];exact hh
  ·exact h.hd j x j0 j1 hs x0 x1 xm e
 ·by_cases e:s=ms
  ·subst e;exact ho
  ·exact h.lv s s0 s1 l e
end
end Go.Fl
namespace Go.Fl
open Go
variable{N:Nm}{A B:Ar}{σ:Mem}{K:Value→Mem→Prop}{C:Cf}{who:Int}
structure Cw(C:Cf)(c:Int)(w w0:Int→Int):Prop where
 o:w (2+c)=w0 (2+c)
 k:∀ j,0≤j→j<C.C→w (C.chunk j)=w0 (C.chunk j)
theorem Cw.refl{c:Int}{w:Int→Int}:Cw C c w w:=⟨rfl,fun _ _ _=>rfl⟩
theorem Cw.trans{c:Int}{w w1 w2:Int→Int}(h:Cw C c w w1)(k:Cw C c w1 w2):Cw C c w w2:=⟨h.o.trans k.o,fun j j0 j1=>(h.k j j0 j1).trans (k.k j j0 j1)⟩
theorem Cw.aX{c a v:Int}{w w0:Int→Int}(h:Cw C c w w0)(ho:a≠2+c)(hk:∀ j,0≤j→j<C.C→a≠C.chunk j):Cw C c (aX w a v) w0:=
 ⟨by rw[az _ _ (Ne.symm ho)];exact h.o,fun j j0 j1=>by rw[az _ _ (Ne.symm (hk j j0 j1))];exact h.k j j0 j1⟩
theorem Cw.both{c a v:Int}{w w0:Int→Int}(h:Cw C c w w0):Cw C c (Go.Fl.aX w a v) (Go.Fl.aX w0 a v):=by
 refine⟨?_,fun j j0 j1=>?_⟩
 ·unfold Go.Fl.aX;split
  ·rfl
  ·exact h.o
 ·unfold Go.Fl.aX;split
  ·rfl
  ·exact h.k j j0 j1
structure Tb(C:Cf)(c:Int)(w0:Int→Int):Prop where
 cb:0≤c∧c≤3
 o:0≤w0 (2+c)∧w0 (2+c)≤C.C
 w:∀ j,0≤j→j<C.C→0≤w0 (C.chunk j)∧w0 (C.chunk j)<18446744073709551616
 n:∀ j,0≤j→j<C.C→bF (w0 (C.chunk j))=0→eM (w0 (C.chunk j))<68719476735
def HN(C:Cf)(c:Int)(w0:Int→Int):Prop:=1≤w0 (2+c)∧bF (w0 (C.chunk (w0 (2+c)-1)))=1∧bL (w0 (C.chunk (w0 (2+c)-1)))=c∧bD (w0 (C.chunk (w0 (2+c)-1)))+aA c≤C.W
def S9(C:Cf)(w0:Int→Int)(f:Int):Prop:=(0≤f∧f<C.C)∧bF (w0 (C.chunk f))=0∧eM (w0 (C.chunk f))<68719476735∧∀ j,0≤j→j<f→bF (w0 (C.chunk j))≠0
def Ca(c n:Int):Int:=aR 1 c 0 (n+1)
def t1(C:Cf)(c f:Int)(w0:Int→Int):Int→Int:=aX w0 (C.chunk f) (Ca c (eM (w0 (C.chunk f))))
def t2(C:Cf)(c f:Int)(w0:Int→Int):Int→Int:=aX (t1 C c f w0) (2+c) (f+1)
def Cd(C:Cf)(c:Int)(w0:Int→Int)(k:Int)(t:Pl)(w:Int→Int):Prop:=
 (t.cls=c∧t.ok=false)∧(
  Cw C c w w0∧(
   t.pc=0∧t=Pl.new c∧k=0 ∨
   t.pc=1∧1≤w0 (2+c)∧t.k_=w0 (2+c)∧t.at'=w0 (2+c)-1∧(0≤t.w∧t.w<18446744073709551616)∧k=1 ∨
   t.pc=2∧HN C c w0∧(0≤t.k_∧t.k_<18446744073709551616)∧t.at'=w0 (2+c)-1∧t.w=w0 (C.chunk t.at')∧k=2 ∨
   ¬ HN C c w0∧t.k_=w0 (2+c)∧(0≤t.at'∧t.at'<C.C)∧(∀ j,0≤j→j<t.at'→bF (w0 (C.chunk j))≠0)∧k≤3+t.at'∧(t.pc=3∧(0≤t.w∧t.w<18446744073709551616)∨t.pc=4∧S9 C w0 t.at'∧t.w=w0 (C.chunk t.at'))∧(t.pc=3→k≤2+t.at')) ∨
  ¬ HN C c w0∧∃ f,S9 C w0 f∧(
   t.pc=5∧Cw C c w (t1 C c f w0)∧t.k_=w0 (2+c)∧t.at'=f∧(0≤t.w∧t.w<18446744073709551616)∧k≤5+f ∨
   Cw C c w (t2 C c f w0)∧(t.pc=0∧(0≤t.k_∧t.k_<18446744073709551616)∧(0≤t.at'∧t.at'<C.C)∧(0≤t.w∧t.w<18446744073709551616)∧k≤6+f ∨
    t.pc=1∧(0≤t.k_∧t.k_<18446744073709551616)∧t.at'=f∧(0≤t.w∧t.w<18446744073709551616)∧k≤7+f ∨
    t.pc=2∧(0≤t.k_∧t.k_<18446744073709551616)∧t.at'=f∧t.w=Ca c (eM (w0 (C.chunk f)))∧k≤8+f)))
def XQ(C:Cf)(c:Int)(w0:Int→Int)(t:Pl)(w:Int→Int):Prop:=
 t.cls=c∧(
  HN C c w0∧t.ok=true∧t.sc=w0 (2+c)-1∧t.sa=C.base t.sc+bD (w0 (C.chunk t.sc))∧Cw C c w (aX w0 (C.chunk t.sc) (aR 1 c (bD (w0 (C.chunk t.sc))+aA c) (eM (w0 (C.chunk t.sc))))) ∨
  ¬ HN C c w0∧(∃ f,S9 C w0 f∧t.ok=true∧t.sc=f∧t.sa=C.base f∧Cw C c w (aX (t2 C c f w0) (C.chunk f) (aR 1 c (aA c) (eM (w0 (C.chunk f))+1)))) ∨
  ¬ HN C c w0∧t.ok=false∧Cw C c w w0∧∀ j,0≤j→j<C.C→bF (w0 (C.chunk j))≠0)
theorem Cd.new{c:Int}{w:Int→Int}:Cd C c w 0 (Pl.new c) w:=⟨⟨rfl,rfl⟩,.inl ⟨Cw.refl,.inl ⟨rfl,rfl,rfl⟩⟩⟩
theorem Cd.aL{c k:Int}{w0 w w':Int→Int}{t:Pl}(h:Cd C c w0 k t w)(x:Cw C c w' w):Cd C c w0 k t w':=by
 obtain⟨h1,⟨h2,h3⟩|⟨h2,f,h3,⟨h4,h5,h6⟩|⟨h4,h5⟩⟩⟩:=h
 ·exact⟨h1,.inl ⟨x.trans h2,h3⟩⟩
 ·exact⟨h1,.inr ⟨h2,f,h3,.inl ⟨h4,x.trans h5,h6⟩⟩⟩
 ·exact⟨h1,.inr ⟨h2,f,h3,.inr ⟨x.trans h4,h5⟩⟩⟩
theorem XQ.aL{c:Int}{w0 w w':Int→Int}{t:Pl}(h:XQ C c w0 t w)(x:Cw C c w' w):XQ C c w0 t w':=by
 obtain⟨h0,⟨h1,h2,h3,h4,h5⟩|⟨h1,f,h2,h3,h4,h5,h6⟩|⟨h1,h2,h3,h4⟩⟩:=h
 ·exact⟨h0,.inl ⟨h1,h2,h3,h4,x.trans h5⟩⟩
 ·exact⟨h0,.inr (.inl ⟨h1,f,h2,h3,h4,h5,x.trans h6⟩)⟩
 ·exact⟨h0,.inr (.inr ⟨h1,h2,x.trans h3,h4⟩)⟩
theorem Cd.C3(hC:C.ok){c k:Int}{w0 w:Int→Int}{t:Pl}(h:Cd C c w0 k t w):k≤8+C.C:=by
 have:=hC.C
 obtain⟨h1,⟨h2,⟨_,_,h⟩|⟨_,_,_,_,_,h⟩|⟨_,_,_,_,_,h⟩|⟨_,_,h3,_,h,_⟩⟩|⟨h2,f,h3,⟨h4,_,_,_,_,h⟩|⟨h4,⟨_,_,_,_,h⟩|⟨_,_,_,_,h⟩|⟨_,_,_,_,h⟩⟩⟩⟩:=h
 ·omega
 ·omega
 ·omega
 ·omega
 all_goals (have:=h3.1;omega)
theorem Cd.fit(hC:C.ok){c k:Int}{w0 w:Int→Int}{t:Pl}(h:Cd C c w0 k t w)(hT:Tb C c w0):t.fit C∧w (2+t.cls)≤C.C:=by
 have iD:=hC.C
 have h0:=hT.cb
 have ho:=hT.o
 obtain⟨⟨hc,_⟩,h⟩:=h
 refine⟨⟨by rw[hc];exact h0,?_,?_,?_⟩,?_⟩
 ·rcases h with⟨h2,⟨_,e,h⟩|⟨_,_,e,_,_,h⟩|⟨_,_,e,_,_,h⟩|⟨_,e,h3,_,h,_⟩⟩|⟨h2,f,h3,⟨h4,_,e,_,_,h⟩|⟨h4,⟨_,e,_,_,h⟩|⟨_,e,_,_,h⟩|⟨_,e,_,_,h⟩⟩⟩
  ·rw[e];exact⟨Int.le_refl 0,(by decide:(0:Int)<18446744073709551616)⟩
  ·omega
  ·exact e
  ·omega
  ·omega
  ·exact e
  ·exact e
  ·exact e
 ·rcases h with⟨h2,⟨_,e,h⟩|⟨_,_,_,e,_,h⟩|⟨_,g,_,e,_,h⟩|⟨_,_,e,_,h,_⟩⟩|⟨h2,f,h3,⟨h4,_,_,e,_,h⟩|⟨h4,⟨_,_,e,_,h⟩|⟨_,_,e,_,h⟩|⟨_,_,e,_,h⟩⟩⟩
  ·rw[e];exact⟨Int.le_refl 0,by show(0:Int)<C.C;omega⟩
  ·omega
  ·have:=g.1;omega
  ·exact e
  ·rw[e];exact h3.1
  ·exact e
  ·rw[e];exact h3.1
  ·rw[e];exact h3.1
 ·rcases h with⟨h2,⟨_,e,h⟩|⟨_,_,_,_,e,h⟩|⟨_,g,_,e1,e,h⟩|⟨_,_,e1,_,_,⟨_,e⟩|⟨_,_,e⟩,_⟩⟩|⟨h2,f,h3,⟨h4,_,_,_,e,h⟩|⟨h4,⟨_,_,_,e,h⟩|⟨_,_,_,e,h⟩|⟨_,_,_,e,h⟩⟩⟩
  ·rw[e];exact⟨Int.le_refl 0,(by decide:(0:Int)<18446744073709551616)⟩
  ·exact e
  ·rw[e];exact hT.w _ (by have:=g.1;omega) (by omega)
  ·exact e
  ·rw[e];exact hT.w _ e1.1 e1.2
  ·exact e
  ·exact e
  ·exact e
  ·rw[e];exact bS _ _ _ _
 ·rw[hc]
  rcases h with⟨h2,_⟩|⟨h2,f,h3,⟨_,h4,_⟩|⟨h4,_⟩⟩
  ·rw[h2.o];exact ho.2
  ·rw[h4.o];unfold t1;rw[az _ _ (by have:=hC.T;have:=hC.S;have:=h3.1;unfold Cf.chunk;omega)];exact ho.2
  ·rw[h4.o];unfold t2;rw[aE];have:=h3.1;omega
def XR(C:Cf)(c a:Int):Prop:=a=2+c∨∃ j,0≤j∧j<C.C∧a=C.chunk j
structure PlT(C:Cf)(who c:Int)(A A':Ar):Prop where
 ex:∃ a,XR C c a∧(A'=(A.by who).load a∨∃ v,(0≤v∧v<18446744073709551616)∧A'=(A.by who).store a v)
theorem Cd.step(hC:C.ok){c k:Int}{w0:Int→Int}{t:Pl}(h:Cd C c w0 k t A.w)(hT:Tb C c w0) :
  PlT C who c A (t.step C who A).2.2∧((t.step C who A).1=false∧Cd C c w0 (k+1) (t.step C who A).2.1 (t.step C who A).2.2.w∨(t.step C who A).1=true∧XQ C c w0 (t.step C who A).2.1 (t.step C who A).2.2.w):=by
 have iD:=hC.C
 have h0:=hT.cb
 have ho:=hT.o
 have hW:=hC.W
 have zq:=hC.T
 have rX:=hC.S
 have hr:=bR h0.1 h0.2
 have Ux:∀ j,0≤j→C.chunk j≠2+c:=fun j j0=>by unfold Cf.chunk;omega
 have inj:∀ i j,C.chunk i=C.chunk j→i=j:=fun i j e=>by unfold Cf.chunk at e;omega
 have ld:∀ a,XR C c a→PlT C who c A ((A.by who).load a):=fun a ha=>⟨a,ha,.inl rfl⟩
 have pk:∀ j,0≤j→j<C.C→XR C c (C.chunk j):=fun j j0 j1=>.inr ⟨j,j0,j1,rfl⟩
 have po:XR C c (2+c):=.inl rfl
 have lw:∀ a,((A.by who).load a).w=A.w:=fun _=>rfl
 obtain⟨⟨hc,lI⟩,h⟩:=h
 rcases h with⟨h2,⟨p,e,hk⟩|⟨p,e1,e2,e3,e4,hk⟩|⟨p,g,e1,e2,e3,hk⟩|⟨g,e1,e2,e3,hk,hp,hk4⟩⟩|⟨g,f,hf,⟨p,h2,e1,e2,e3,hk⟩|⟨h2,⟨p,e1,e2,e3,hk⟩|⟨p,e1,e2,e3,hk⟩|⟨p,e1,e2,e3,hk⟩⟩⟩
 ·
  have FZ:IntKind.i64.wrap (A.w (2+t.cls))=A.w (2+t.cls):=IntWalk.i64_in _ (by rw[hc,h2.o];omega)
  have es:t.step C who A=(false,(if A.w (2+t.cls)-1<0 then{ t with k_:=A.w (2+t.cls),at':=0,pc:=3 }else{ t with k_:=A.w (2+t.cls),at':=A.w (2+t.cls)-1,pc:=1 }),(A.by who).load (2+t.cls)):=by
   unfold Pl.step;rw[af p];dsimp only;rw[FZ]
  have tw:0≤t.w∧t.w<18446744073709551616:=by rw[e];exact⟨Int.le_refl 0,(by decide:(0:Int)<18446744073709551616)⟩
  rw[es,hc]
  refine⟨ld _ po,.inl ⟨rfl,?_⟩⟩
  rw[h2.o]
  by_cases q:w0 (2+c)-1<0
  ·rw[af q]
   exact⟨⟨by first|exact hc|rfl,lI⟩,.inl ⟨h2,.inr (.inr (.inr ⟨fun x=>by have:=x.1;omega,rfl,⟨Int.le_refl 0,by show(0:Int)<C.C;omega⟩,fun j j0 j1=>(by have:j<0:=j1;omega),by show k+1≤3+0;omega,.inl ⟨rfl,tw⟩,fun _=>by show k+1≤2+0;omega⟩))⟩⟩
  ·rw[ae q]
   exact⟨⟨by first|exact hc|rfl,lI⟩,.inl ⟨h2,.inr (.inl ⟨rfl,by omega,rfl,rfl,tw,by omega⟩)⟩⟩
 ·
  have iM:0≤t.at'∧t.at'<C.C:=by omega
  have ew:A.w (C.chunk t.at')=w0 (C.chunk t.at'):=h2.k _ iM.1 iM.2
  have es:t.step C who A=(false,(if bF (A.w (C.chunk t.at'))≠1∨bL (A.w (C.chunk t.at'))≠t.cls∨C.W<bD (A.w (C.chunk t.at'))+aA t.cls then{ t with w:=A.w (C.chunk t.at'),at':=0,pc:=3 }else{ t with w:=A.w (C.chunk t.at'),pc:=2 }),(A.by who).load (C.chunk t.at')):=by
   unfold Pl.step;rw[ae (by omega),af p]
  have tw:=hT.w _ iM.1 iM.2
  rw[es]
  refine⟨ld _ (pk _ iM.1 iM.2),.inl ⟨rfl,?_⟩⟩
  rw[ew,hc]
  by_cases q:bF (w0 (C.chunk t.at'))≠1∨bL (w0 (C.chunk t.at'))≠c∨C.W<bD (w0 (C.chunk t.at'))+aA c
  ·rw[af q]
   exact⟨⟨by first|exact hc|rfl,lI⟩,.inl ⟨h2,.inr (.inr (.inr ⟨fun x=>by obtain⟨_,x1,x2,x3⟩:=x;rw[←e3]at x1 x2 x3;omega,e2,⟨Int.le_refl 0,by show(0:Int)<C.C;omega⟩,fun j j0 j1=>(by have:j<0:=j1;omega),by show k+1≤3+0;omega,.inl ⟨rfl,tw⟩,fun _=>by show k+1≤2+0;omega⟩))⟩⟩
  ·rw[ae q]
   exact⟨⟨by first|exact hc|rfl,lI⟩,.inl ⟨h2,.inr (.inr (.inl ⟨rfl,⟨by omega,by rw[←e3];omega,by rw[←e3];omega,by rw[←e3];omega⟩,by show 0≤t.k_∧t.k_<_;omega,e3,rfl,by omega⟩))⟩⟩
 ·
  have iM:0≤t.at'∧t.at'<C.C:=by have:=g.1;omega
  have ew:A.w (C.chunk t.at')=t.w:=by rw[h2.k _ iM.1 iM.2,e3]
  have es:t.step C who A=(true,{ t with pc:=0,sa:=C.base t.at'+bD t.w,sc:=t.at',ok:=true },(A.by who).store (C.chunk t.at') (aR (bF t.w) (bL t.w) (bD t.w+aA t.cls) (eM t.w))):=by
   unfold Pl.step;rw[ae (by omega),ae (by omega),af p]
   dsimp only
   rw[af ew,cx (show(A.by who).w _=_ from ew),decide_eq_true ew]
  rw[es]
  refine⟨⟨_,pk _ iM.1 iM.2,.inr ⟨_,bS _ _ _ _,rfl⟩⟩,.inr ⟨rfl,hc,.inl ⟨g,rfl,e2,by dsimp only;rw[e3],?_⟩⟩⟩
  obtain⟨g1,g2,g3,g4⟩:=g
  rw[←e2,←e3]at g2 g3
  dsimp only
  rw[fl,g2,g3,hc,e3]
  exact h2.both
 ·rcases hp with⟨p,tw⟩|⟨p,hf,e4⟩
  ·
   have ew:A.w (C.chunk t.at')=w0 (C.chunk t.at'):=h2.k _ e2.1 e2.2
   have tw2:=hT.w _ e2.1 e2.2
   by_cases q:bF (A.w (C.chunk t.at'))≠0
   ·have es:t.step C who A=(decide (C.C≤t.at'+1),{ t with w:=A.w (C.chunk t.at'),at':=t.at'+1,pc:=3 },(A.by who).load (C.chunk t.at')):=by
     unfold Pl.step;rw[ae (by omega),ae (by omega),ae (by omega),af p]
     dsimp only
     rw[af q];rfl
    have all:∀ j,0≤j→j<t.at'+1→bF (w0 (C.chunk j))≠0:=fun j j0 j1=>by
     by_cases ej:j=t.at'
     ·rw[ej,←ew];exact q
     ·exact e3 j j0 (by omega)
    rw[es]
    refine⟨ld _ (pk _ e2.1 e2.2),?_⟩
    by_cases q2:C.C≤t.at'+1
    ·exact .inr ⟨decide_eq_true q2,hc,.inr (.inr ⟨g,lI,h2,fun j j0 j1=>all j j0 (by omega)⟩)⟩
    ·exact .inl ⟨decide_eq_false q2,⟨by first|exact hc|rfl,lI⟩,.inl ⟨h2,.inr (.inr (.inr ⟨g,e1,⟨by dsimp only;omega,by dsimp only;omega⟩,all,by dsimp only;omega,.inl ⟨by first|rfl|exact p,by dsimp only;rw[ew];exact tw2⟩,fun _=>by have:=hk4 p;dsimp only;omega⟩))⟩⟩
   ·have es:t.step C who A=(false,{ t with w:=A.w (C.chunk t.at'),pc:=4 },(A.by who).load (C.chunk t.at')):=by
     unfold Pl.step;rw[ae (by omega),ae (by omega),ae (by omega),af p]
     dsimp only
     rw[ae q]
    rw[es]
    have q':bF (w0 (C.chunk t.at'))=0:=by rw[←ew];omega
    exact⟨ld _ (pk _ e2.1 e2.2),.inl ⟨rfl,⟨by first|exact hc|rfl,lI⟩,.inl ⟨h2,.inr (.inr (.inr ⟨g,e1,e2,e3,by have:=hk4 p;dsimp only;omega,.inr ⟨rfl,⟨e2,q',hT.n _ e2.1 e2.2 q',e3⟩,ew⟩,fun x=>by have x':(4:Int)=3:=x;omega⟩))⟩⟩⟩
  ·
   have ew:A.w (C.chunk t.at')=t.w:=by rw[h2.k _ e2.1 e2.2,e4]
   have es:t.step C who A=(false,{ t with pc:=5 },(A.by who).store (C.chunk t.at') t.fresh):=by
    unfold Pl.step;rw[ae (by omega),ae (by omega),ae (by omega),ae (by omega),af p,af ew,cx (show(A.by who).w _=_ from ew)]
   have efr:t.fresh=Ca c (eM (w0 (C.chunk t.at'))):=by unfold Pl.fresh Ca;rw[hc,e4]
   have tw:=hT.w _ e2.1 e2.2
   rw[es]
   refine⟨⟨_,pk _ e2.1 e2.2,.inr ⟨_,bS _ _ _ _,rfl⟩⟩,.inl ⟨rfl,⟨by first|exact hc|rfl,lI⟩,.inr ⟨g,t.at',hf,.inl ⟨rfl,?_,e1,rfl,by show 0≤t.w∧t.w<_;rw[e4];exact tw,by omega⟩⟩⟩⟩
   dsimp only
   rw[fl,efr]
   exact h2.both
 ·
  have ew:A.w (2+t.cls)=t.k_:=by
   rw[hc,h2.o,e1];unfold t1;rw[az _ _ (Ne.symm (Ux _ hf.1.1))]
  have es:t.step C who A=(false,{ t with pc:=0 },(A.by who).store (2+t.cls) (t.at'+1)):=by
   unfold Pl.step;rw[ae (by omega),ae (by omega),ae (by omega),ae (by omega),ae (by omega),af p,af ew,cx (show(A.by who).w _=_ from ew)]
  have hf1:=hf.1
  rw[es,hc,e2]
  refine⟨⟨_,po,.inr ⟨_,by omega,rfl⟩⟩,.inl ⟨rfl,⟨by first|exact hc|rfl,lI⟩,.inr ⟨g,f,hf,.inr ⟨?_,.inl ⟨rfl,by show 0≤t.k_∧t.k_<_;omega,by dsimp only;omega,e3,by omega⟩⟩⟩⟩⟩
  dsimp only
  rw[fl]
  exact h2.both
 ·
  have hf1:=hf.1
  have ew:A.w (2+t.cls)=f+1:=by rw[hc,h2.o];unfold t2;rw[aE]
  have FZ:IntKind.i64.wrap (f+1)=f+1:=IntWalk.i64_in _ (by omega)
  have es:t.step C who A=(false,{ t with k_:=f+1,at':=f,pc:=1 },(A.by who).load (2+t.cls)):=by
   unfold Pl.step;rw[af p];dsimp only;rw[ew,FZ,ae (by omega),show f+1-1=f by omega]
  rw[es,hc]
  exact⟨ld _ po,.inl ⟨rfl,⟨by first|exact hc|rfl,lI⟩,.inr ⟨g,f,hf,.inr ⟨h2,.inr (.inl ⟨rfl,by dsimp only;omega,rfl,e3,by omega⟩)⟩⟩⟩⟩
 ·
  have hf1:=hf.1
  have ew:A.w (C.chunk t.at')=Ca c (eM (w0 (C.chunk f))):=by
   rw[e2,h2.k _ hf1.1 hf1.2];unfold t2;rw[az _ _ (Ux _ hf1.1)];unfold t1;rw[aE]
  have hN:=jT (w0 (C.chunk f))
  have hf2:=hf.2.2.1
  obtain⟨z1,z2,z3,z4⟩:=lF (st:=1) (c:=c) (us:=0) (sp:=eM (w0 (C.chunk f))+1) (by decide) (by omega) (by decide) (by omega)
  have es:t.step C who A=(false,{ t with w:=Ca c (eM (w0 (C.chunk f))),pc:=2 },(A.by who).load (C.chunk t.at')):=by
   unfold Pl.step;rw[ae (by omega),af p]
   dsimp only
   rw[ew,ae]
   unfold Ca;rw[z1,z2,z3,hc];omega
  rw[es,e2]
  exact⟨ld _ (pk _ hf1.1 hf1.2),.inl ⟨rfl,⟨by first|exact hc|rfl,lI⟩,.inr ⟨g,f,hf,.inr ⟨h2,.inr (.inr ⟨rfl,e1,by first|exact e2|rfl,rfl,by omega⟩)⟩⟩⟩⟩
 ·
  have hf1:=hf.1
  have ew:A.w (C.chunk t.at')=t.w:=by
   rw[e2,e3,h2.k _ hf1.1 hf1.2];unfold t2;rw[az _ _ (Ux _ hf1.1)];unfold t1;rw[aE]
  have hN:=jT (w0 (C.chunk f))
  have hf2:=hf.2.2.1
  obtain⟨z1,z2,z3,z4⟩:=lF (st:=1) (c:=c) (us:=0) (sp:=eM (w0 (C.chunk f))+1) (by decide) (by omega) (by decide) (by omega)
  have es:t.step C who A=(true,{ t with pc:=0,sa:=C.base t.at'+bD t.w,sc:=t.at',ok:=true },(A.by who).store (C.chunk t.at') (aR (bF t.w) (bL t.w) (bD t.w+aA t.cls) (eM t.w))):=by
   unfold Pl.step;rw[ae (by omega),ae (by omega),af p]
   dsimp only
   rw[af ew,cx (show(A.by who).w _=_ from ew),decide_eq_true ew]
  rw[es,e3,e2]
  unfold Ca
  rw[z1,z2,z3,z4,hc]
  refine⟨⟨_,pk _ hf1.1 hf1.2,.inr ⟨_,bS _ _ _ _,rfl⟩⟩,.inr ⟨rfl,by first|exact hc|rfl,.inr (.inl ⟨g,f,hf,rfl,rfl,by dsimp only;omega,?_⟩)⟩⟩
  dsimp only
  rw[fl,show 0+aA c=aA c by omega]
  exact h2.both
end Go.Fl
