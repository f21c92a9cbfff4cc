/- What the claim leans on, part 6: own readings of the program's functions, what they come to, laws of them. No condition. -/
import Derived.Test.YtedpfdkhebmocaaGreatZCompactWrites5
set_option linter.unusedVariables false
set_option linter.unusedSimpArgs false
namespace Go.Fl
open Go
variable{N:Nm}{A B:Ar}{σ:Mem}{K:Value→Mem→Prop}{C:Cf}{who:Int}
def Fa(C:Cf)(w:Int→Int):Prop:=∀ j,0≤j→j<C.C→eM (w (C.chunk j))≤1
theorem Fa.aX{w:Int→Int}{a v:Int}(h:Fa C w)(hv:(∃ j,0≤j∧j<C.C∧a=C.chunk j)→eM v≤1):Fa C (Go.Fl.aX w a v):=fun j j0 j1=>by
 unfold Go.Fl.aX;split
 ·rename_i e;exact hv ⟨j,j0,j1,e.symm⟩
 ·exact h j j0 j1
theorem Ph.cn(hC:C.ok){o u:Int→Int}{nx c k:Int}{p:Pl}(c0:0≤c)(c3:c≤3)(h:Ph C o u nx c k p A.w)(hq:Fa C A.w):Fa C (p.step C who A).2.2.w:=by
 have hT:=hC.T;have hS:=hC.S
 have ld:∀ a,((A.by who).load a).w=A.w:=fun _=>rfl
 obtain⟨_,bE,h⟩:=h
 by_cases p0:p.pc=0
 ·have e:(p.step C who A).2.2=(A.by who).load (2+p.cls):=by unfold Pl.step;rw[af p0]
  rw[e,ld];exact hq
 by_cases p1:p.pc=1
 ·have e:(p.step C who A).2.2=(A.by who).load (C.chunk p.at'):=by unfold Pl.step;rw[ae p0,af p1]
  rw[e,ld];exact hq
 by_cases p3:p.pc=3
 ·have e:(p.step C who A).2.2=(A.by who).load (C.chunk p.at'):=by unfold Pl.step;rw[ae p0,ae p1,ae (by omega),af p3];dsimp only;split<;>rfl
  rw[e,ld];exact hq
 by_cases p2:p.pc=2
 ·have e:(p.step C who A).2.2=(A.by who).dI (C.chunk p.at') p.w (aR (bF p.w) (bL p.w) (bD p.w+aA p.cls) (eM p.w)):=by unfold Pl.step;rw[ae p0,ae p1,af p2]
  rw[e]
  by_cases q:A.w (C.chunk p.at')=p.w
  ·rw[cx (by exact q)]
   refine hq.aX fun⟨j,j0,j1,ej⟩=>?_
   have h1:=hq j j0 j1
   rw[←ej,q]at h1
   have h2:=jT p.w
   unfold aR;unfold eM cl at *;omega
  ·rw[gB (by exact q)];exact hq
 by_cases p4:p.pc=4
 ·have e:(p.step C who A).2.2=(A.by who).dI (C.chunk p.at') p.w p.fresh:=by unfold Pl.step;rw[ae p0,ae p1,ae p2,ae p3,af p4];split<;>rfl
  have iM:p.w=0:=by
   rcases h with⟨_,h⟩|⟨_,⟨_,h⟩|h⟩<;>omega
  rw[e]
  by_cases q:A.w (C.chunk p.at')=p.w
  ·rw[cx (by exact q)]
   refine hq.aX fun _=>?_
   unfold Pl.fresh;rw[iM];unfold aR;unfold eM cl;omega
  ·rw[gB (by exact q)];exact hq
 have p5:p.pc=5:=by
  rcases h with⟨_,h⟩|⟨_,⟨_,h⟩|h⟩<;>omega
 have e:(p.step C who A).2.2=(A.by who).dI (2+p.cls) p.k_ (p.at'+1):=by unfold Pl.step;rw[ae p0,ae p1,ae p2,ae p3,ae p4,af p5]
 rw[e]
 by_cases q:A.w (2+p.cls)=p.k_
 ·rw[cx (by exact q)]
  exact hq.aX fun⟨j,j0,j1,ej⟩=>by unfold Cf.chunk at ej;omega
 ·rw[gB (by exact q)];exact hq
theorem Fz.cn(hC:C.ok){b:Bg}{size bb k:Int}{own:Bool}{A0:Ar}{m:Am}(h:Fz C b size own A0 bb k m A)(hb:bb<2305843009213693952)(kM:b.aw C A0.w)(su:b.Bw C)(bE:0≤ai size)(k0:0≤k)(hq:Fa C A.w):Fa C (m.step C who A).2.2.w:=by
 have hT:=hC.T;have hS:=hC.S;have iD:=hC.C
 have cY:=(bH size).2
 obtain⟨⟨⟨a,ht⟩,_⟩,_⟩:=h.step (who:=who) hC hb kM su bE k0
 have RG:=kM.jJ.bd
 by_cases c2:m.a.pc=2
 ·have hp:∃ kk,Ph C b.o b.u b.nx (ai size) kk m.t A.w:=by
   rcases h.ph with q|⟨s,F,hF,q|⟨kk,q,_⟩|⟨jj,b',_,hs,_,q⟩|⟨_,_,_,_,_,_,kk,q,_⟩⟩
   ·have:=q.2.2.2.1;omega
   ·omega
   ·exact⟨kk,q.2.2.2.2.1⟩
   ·rcases q with q|q
    ·omega
    ·rcases q.2 with q|⟨_,q|q⟩<;>omega
   ·have:=q.1;omega
  obtain⟨kk,hp⟩:=hp
  have e:(m.step C who A).2.2=(m.t.step C who A).2.2:=by
   unfold Am.step
   rw[ae (by omega),ae (by omega),af c2]
   dsimp only
   (repeat' split)<;>rfl
  rw[e]
  exact hp.cn hC bE cY hq
 by_cases c1:m.a.pc=1
 ·rcases ht.kind with⟨q,_⟩|⟨_,_,q⟩|⟨q,_⟩|⟨q,_⟩|⟨q,_⟩|⟨q,_⟩
  ·rcases q with q|q<;>(rw[c1]at q;exact absurd q (by decide))
  ·rw[q];exact hq
  all_goals omega
 intro j j0 j1
 have jd:C.chunk j≠a:=by
  have yp:=C.chunk j
  rcases ht.kind with⟨_,q|⟨s,s0,s1,q⟩⟩|⟨q,_⟩|⟨q,_⟩|⟨q,q'⟩|⟨q,q'⟩|⟨q,q'⟩
  ·unfold Cf.chunk;omega
  ·unfold Cf.slot at q;unfold Cf.chunk;omega
  ·omega
  ·omega
  ·unfold Cf.chunk at *;omega
  ·obtain⟨s,F,jj,_,_,q1,q2,q3,q4⟩:=h.ph.spot hC kM.jJ bE cY (by omega) (by omega)
   have:=a_ hC q2.1 q2.2 q3
   unfold Cf.chunk;omega
  ·obtain⟨s,F,jj,hF,q0,q1,q2,q3,q4⟩:=h.ph.spot hC kM.jJ bE cY (by omega) (by omega)
   have hm:=kM.yq.c.mem s (by rw[hF];simp)
   unfold Cf.slot at q';unfold Cf.chunk;omega
 rw[ht.w _ jd];exact hq j j0 j1
theorem LG(hN:N.ok)(hC:C.ok)(hA:aZ N A σ){b:Bg}{size bb:Int}{own:Bool}(hP:Pa C A bb)(hb:bb<2305843009213693952)(kM:b.aw C A.w)(su:b.Bw C)(bE:0≤ai size)(hq:Fa C A.w)
  (hk:∀ m A' τ,Xi C b size own A.w A.s m A'→Pa C A' (bb+100)→A'.n=A.n→(∀ j,0≤j→j<b.nx→bL (A'.w (C.chunk j))=bL (A.w (C.chunk j)))→(∀ i,lD C i→A'.w i=A.w i)→Fa C A'.w→aZ N A' τ→aQ N.l σ τ→K (.agg #[.int .i64 m.a.oE,.int .u64 m.a.oH,.int .i64 m.a.oV,.int .i64 m.a.oS]) τ) :
  tj [N.env C who,.int .i64 size,.bool own] K σ:=by
 have iD:=hC.C
 refine JR hN hC hA (fun k m A'=>Fz C b size own A bb k m A'∧(∀ j,0≤j→j<b.nx→bL (A'.w (C.chunk j))=bL (A.w (C.chunk j)))∧(∀ i,lD C i→A'.w i=A.w i)∧Fa C A'.w) (fun m A'=>Xi C b size own A.w A.s m A'∧Pa C A' (bb+100)∧A'.n=A.n∧(∀ j,0≤j→j<b.nx→bL (A'.w (C.chunk j))=bL (A.w (C.chunk j)))∧(∀ i,lD C i→A'.w i=A.w i)∧Fa C A'.w) ⟨.new hP kM,fun _ _ _=>rfl,fun _ _=>rfl,hq⟩ ?_ (fun m A' h=>by have:=h.1.ph.C3 hC;omega) fun m A' τ h=>hk m A' τ h.1 h.2.1 h.2.2.1 h.2.2.2.1 h.2.2.2.2.1 h.2.2.2.2.2
 rintro k m A' k0 k1 ⟨h,yp,pD,hq⟩
 refine⟨h.fit hC kM bE,h.pa.ok.w,h.pa.n,?_⟩
 have G2:=h.ph.C3 hC
 have Jf:∀ j,0≤j→j<b.nx→bL ((m.step C who A').2.2.w (C.chunk j))=bL (A.w (C.chunk j)):=fun j j0 j1=>(h.ck hC hb kM su bE k0 j0 j1).trans (yp j j0 j1)
 have Jb:∀ i,lD C i→(m.step C who A').2.2.w i=A.w i:=fun i hi=>(h.lo hC hb kM su bE k0 hi).trans (pD i hi)
 have yo:Fa C (m.step C who A').2.2.w:=h.cn hC hb kM su bE k0 hq
 obtain⟨⟨⟨a,ht⟩,hla⟩,h2⟩:=h.step (who:=who) hC hb kM su bE k0
 rcases h2 with⟨d,h'⟩|⟨d,h',BF⟩
 ·rw[ae (by rw[d];decide)];exact⟨h',Jf,Jb,yo⟩
 ·rw[af d];exact⟨h',BF.mono (by omega),ht.n.trans h.n,Jf,Jb,yo⟩
structure Dv(C:Cf)(i:Int)(n:Nat)(dd:Int→Do)(li:Int→Bool)(V:Int→Int→Int)(w:Int→Int)(b:Bg):Prop where
 dw:Dw C i n dd li w b
 sf:∀ s,0≤s→s<C.S→s∈b.F∨∃ k:Int,(0≤k∧k<n)∧li k=true∧(dd k).s=s
 fs:∀ s,0≤s→s<C.S→s∈b.F→cF (w (C.slot s))=0∧a8 (w (C.slot s))=0
 ls:∀ k:Int,0≤k→k<n→li k=true→w (C.slot (dd k).s)=aK 1 ((dd k).a C) (dd k).ge 0
 ce:∀ k:Int,0≤k→k<n→li k=true→∀ x,0≤x→x<(dd k).z→(0≤V k x∧V k x≤1099511627775)∧w ((dd k).a C+1+x)=aT (V k x) false 0
 n1:Fa C w
def nV(V:Int→Int→Int)(n:Int):Int→Int→Int:=fun k x=>if k=n then 0 else V k x
section
variable{i:Int}{n:Nat}{dd:Int→Do}{li:Int→Bool}{V:Int→Int→Int}{w w':Int→Int}{b:Bg}
theorem Dv.mono{i':Int}(h:Dv C i n dd li V w b)(hi:i≤i'):Dv C i' n dd li V w b:=⟨h.dw.mono hi,h.sf,h.fs,h.ls,h.ce,h.n1⟩
theorem Dv.new(hC:C.ok)(h:DK N C A):Dv C 0 0 (fun _=>⟨0,0,0,false,0,0⟩) (fun _=>false) (fun _ _=>0) A.w (Bg.fr C):=by
 have hS:=hC.S;have hT:=hC.T
 refine⟨Dw.new hC h,fun s s0 s1=>.inl ?_,fun s s0 s1 _=>?_,fun k k0 k1=>by omega,fun k k0 k1=>by omega,fun j j0 j1=>?_⟩
 ·show s∈B7 0 C.S.toNat
  have:∀{n:Nat} {i s:Int},i≤s→s<i+n→s∈B7 i n:=by
   intro n
   induction n with
   | zero=>intro i s h1 h2;omega
   | succ n ih=>
    intro i s h1 h2
    by_cases e:s=i
    ·subst e;exact List.mem_cons_self ..
    ·exact List.mem_cons_of_mem _ (ih (by omega) (by omega))
  exact this s0 (by omega)
 ·rw[h.w]
  unfold Cf.w0 Cf.fr
  rw[ae (by unfold Cf.slot;omega),ae (by unfold Cf.slot;omega),af (by unfold Cf.slot;omega),af (by unfold Cf.slot;omega)]
  exact⟨by decide,by decide⟩
 ·have kW:C.chunk 0≤C.chunk j:=by unfold Cf.chunk;omega
  rw[h.w,Ao hC kW];decide
theorem Dv.same(hC:C.ok)(h:Dv C i n dd li V w b)(aw:b.aw C w')(hs:∀ t,0≤t→t<C.S→w' (C.slot t)=w (C.slot t))(hw:∀ j x,0≤j→j<C.C→0≤x→x<b.u j→x<C.W→w' (C.base j+x)=w (C.base j+x))(hc:∀ j,0≤j→j<b.nx→bL (w' (C.chunk j))=bL (w (C.chunk j)))(hq:Fa C w'):Dv C i n dd li V w' b:=by
 have F6:=h.dw.aw.jJ.bd
 refine⟨h.dw.same hC aw hs hw hc,h.sf,fun s s0 s1 hm=>by rw[hs s s0 s1];exact h.fs s s0 s1 hm,fun k k0 k1 hk=>?_,fun k k0 k1 hk x x0 x1=>?_,hq⟩
 ·have:=(h.dw.hd k k0 k1).1.2.2
  rw[hs _ this.1 this.2];exact h.ls k k0 k1 hk
 ·obtain⟨⟨p1,p2,p3⟩,p4,p5⟩:=h.dw.pl k k0 k1
  have bE:=(h.dw.hd k k0 k1).2.1
  have hz:=bT bE
  have pu:=(m3 hC h.dw.aw p1.1 (by omega)).2
  unfold Do.rm at p3
  have e:(dd k).a C+1+x=C.base (dd k).j+((dd k).i+(1+x)):=by unfold Do.a;omega
  rw[e,hw _ _ p1.1 (by omega) (by omega) (by omega) (by omega),←e]
  exact h.ce k k0 k1 hk x x0 x1
theorem Dv.make(hC:C.ok){z s j:Int}{own:Bool}{b':Bg}{F:List Int}(h:Dv C i n dd li V w b)(hi:i≤1000)(hF:b.F=s::F)(hc:0≤ai z)
  (hg:B6 C b F (ai z) j b') (jC:(b'.count j (aA (ai z))).aw C w') (h1:w' (C.slot s)=aK 1 (C.base j+b.u j) (b9 (w (C.slot s))) 0) (h2:w' (C.base j+b.u j)=aW 2 z s (b9 (w (C.slot s))) own)
  (h3:∀ x,1≤x→x<aA (ai z)→w' (C.base j+(b.u j+x))=0) (fw:Fw C b True w w') (yp:∀ j,0≤j→j<b.nx→bL (w' (C.chunk j))=bL (w (C.chunk j))) (hq:Fa C w') :
  Dv C (i+1) (n+1) (m5 dd n (Do.mk' C b s (b9 (w (C.slot s))) z own j)) (fa li n true) (nV V n) w' (b'.count j (aA (ai z))):=by
 have hm:=h.dw.aw.yq.c.mem s (by rw[hF];simp)
 have hnd:=h.dw.aw.yq.nd
 rw[hF]at hnd
 have UZ:=(List.nodup_cons.1 hnd).1
 have BE:=h.dw.gen s hm.1 hm.2
 have hS:=hC.S
 have F6:=h.dw.aw.jJ.bd
 obtain⟨u0,u1,u2,u3,u4⟩:=tv (s:=s) (g:=b9 (w (C.slot s))) (by omega) (by omega)
 have Vd:=h.dw.make (own:=own) hC hi hF hc hg jC h1 h2 fw yp
 have G5:(b'.count j (aA (ai z))).F=F:=(hg.has hC).1
 generalize hd:Do.mk' C b s (b9 (w (C.slot s))) z own j=d at *
 have ds:d.s=s:=by subst hd;exact u2
 have dg:d.ge=b9 (w (C.slot s)):=by subst hd;exact u3
 have da:d.a C=C.base j+b.u j:=by subst hd;rfl
 have dz:d.z=z:=by subst hd;rfl
 have aN:m5 dd n d n=d:=af rfl
 have aO:∀ k:Int,k<n→m5 dd n d k=dd k:=fun k hk=>ae (by omega)
 have lN:fa li n true n=true:=af rfl
 have lO:∀ k:Int,k<n→fa li n true k=li k:=fun k hk=>ae (by omega)
 have vO:∀(k:Int) x,k<n→nV V n k x=V k x:=fun k x hk=>ae (by omega)
 have wS:∀ t,0≤t→t<C.S→t≠s→w' (C.slot t)=w (C.slot t):=fun t t0 t1 ht=>fw.slot t t0 t1 fun _ F' e=>by rw[hF]at e;cases e;exact ht rfl
 have SD:∀ k:Int,0≤k→k<n→li k=true→(dd k).s≠s:=fun k k0 k1 hk=>by
  have:=(h.dw.ok k k0 k1 hk).sF;rw[hF]at this;simp only[List.mem_cons,not_or]at this;exact this.1
 refine⟨Vd,fun t t0 t1=>?_,fun t t0 t1 ht=>?_,fun k k0 k1 hk=>?_,fun k k0 k1 hk x x0 x1=>?_,hq⟩
 ·by_cases e:t=s
  ·exact .inr ⟨n,⟨by omega,by omega⟩,lN,by rw[aN,ds];exact e.symm⟩
  ·rcases h.sf t t0 t1 with q|⟨k,k1,k2,k3⟩
   ·rw[hF]at q
    rw[G5]
    rcases List.mem_cons.1 q with q|q
    ·exact absurd q e
    ·exact .inl q
   ·exact .inr ⟨k,⟨k1.1,by omega⟩,by rw[lO k k1.2];exact k2,by rw[aO k k1.2];exact k3⟩
 ·rw[G5]at ht
  have e:t≠s:=fun e=>UZ (e ▸ ht)
  rw[wS t t0 t1 e]
  exact h.fs t t0 t1 (by rw[hF];exact List.mem_cons_of_mem _ ht)
 ·by_cases e:k=n
  ·subst e;rw[aN,ds,da,dg];exact h1
  ·have kn:k<n:=by omega
   rw[aO k kn];rw[lO k kn]at hk
   have o:=(h.dw.hd k k0 kn).1.2.2
   rw[wS _ o.1 o.2 (SD k k0 kn hk)];exact h.ls k k0 kn hk
 ·by_cases e:k=n
  ·subst e
   rw[aN]at x1 ⊢
   rw[dz]at x1
   have hz:=bT hc
   have ev:nV V n n x=0:=af rfl
   rw[ev,da]
   refine⟨by decide,?_⟩
   have:=h3 (1+x) (by omega) (by omega)
   rw[show C.base j+(b.u j+(1+x))=C.base j+b.u j+1+x by omega]at this
   rw[this];decide
  ·have kn:k<n:=by omega
   rw[aO k kn]at x1 ⊢;rw[lO k kn]at hk;rw[vO k x kn]
   obtain⟨⟨p1,p2,p3⟩,p4,p5⟩:=h.dw.pl k k0 kn
   have hz:=bT (h.dw.hd k k0 kn).2.1
   have pu:=(m3 hC h.dw.aw p1.1 (by omega)).2
   unfold Do.rm at p3
   have e:(dd k).a C+1+x=C.base (dd k).j+((dd k).i+(1+x)):=by unfold Do.a;omega
   rw[e,fw.word _ _ p1.1 (by omega) (by omega) (by omega) (by omega),←e]
   exact h.ce k k0 kn hk x x0 x1
theorem Dv.drop(hC:C.ok)(hG:C.G=100){k:Int}(h:Dv C i n dd li V w b)(hi:i≤90)(k0:0≤k)(k1:k<n)(hk:li k=true)
  (fr:(dd k).fr C w w') (sl:w' (C.slot (dd k).s)=(dd k).nx C) (aw:Bg.aw { b.less (dd k).j (aA (ai (dd k).z))with F:=if C.G≤(dd k).ge then b.F else(dd k).s::b.F } C w') :
  Dv C (i+1) n dd (fa li k false) V w' { b.less (dd k).j (aA (ai (dd k).z))with F:=(dd k).s::b.F }:=by
 have F3:=h.dw.drop hC hG hi k0 k1 hk fr sl aw
 have o:=h.dw.ok k k0 k1 hk
 have hgk:=h.dw.gen _ o.s.1 o.s.2
 have BE:b9 (w (C.slot (dd k).s))=(dd k).ge:=by rw[o.ws,o.sg]
 have X_:w' (C.slot (dd k).s)=aK 0 0 ((dd k).ge+1) 0:=by rw[sl];unfold Do.nx;rw[ae (by omega)]
 have oj:=o.j;have oi:=o.i
 have hzk:=bT o.cl
 have hub:=(m3 hC h.dw.aw oj.1 oj.2).2
 have F6:=h.dw.aw.jJ.bd
 have wS:∀ t,0≤t→t<C.S→t≠(dd k).s→w' (C.slot t)=w (C.slot t):=fun t t0 t1 ht=>fr.slot hC oj.1 oj.2 oi.1 t0 t1 ht
 have lT:∀ l,fa li k false l=true→l≠k∧li l=true:=fun l hl=>by
  by_cases e:l=k
  ·subst e;rw[show fa li l false l=false from af rfl]at hl;cases hl
  ·rw[show fa li k false l=li l from ae e]at hl;exact⟨e,hl⟩
 refine⟨F3,fun t t0 t1=>?_,fun t t0 t1 ht=>?_,fun l l0 l1 hl=>?_,fun l l0 l1 hl x x0 x1=>?_,fun j j0 j1=>?_⟩
 ·show t∈(dd k).s::b.F∨_
  by_cases e:t=(dd k).s
  ·exact .inl (by rw[e];exact List.mem_cons_self ..)
  ·rcases h.sf t t0 t1 with q|⟨l,l1,l2,l3⟩
   ·exact .inl (List.mem_cons_of_mem _ q)
   ·have:l≠k:=fun e'=>e (by rw[←e',l3])
    exact .inr ⟨l,l1,by rw[show fa li k false l=li l from ae this];exact l2,l3⟩
 ·by_cases e:t=(dd k).s
  ·rw[e,X_];have z:=dT (st:=0) (ad:=0) (ge:=(dd k).ge+1) (ve:=0) (by decide) (by decide) (by omega);exact⟨z.1,z.2.1⟩
  ·rw[wS t t0 t1 e]
   rcases List.mem_cons.1 (show t∈(dd k).s::b.F from ht)with q|q
   ·exact absurd q e
   ·exact h.fs t t0 t1 q
 ·obtain⟨lk,qA⟩:=lT l hl
  have ol:=(h.dw.hd l l0 l1).1.2.2
  rw[wS _ ol.1 ol.2 (h.dw.Rg l k l0 l1 k0 k1 qA hk lk)];exact h.ls l l0 l1 qA
 ·obtain⟨lk,qA⟩:=lT l hl
  obtain⟨⟨p1,p2,p3⟩,p4,p5⟩:=h.dw.pl l l0 l1
  have hz:=bT (h.dw.hd l l0 l1).2.1
  have pu:=(m3 hC h.dw.aw p1.1 (by omega)).2
  have hns:=h.dw.ns l k l0 l1 k0 k1 lk
  have rmk:=(dd k).Ra
  unfold Do.rm at p3 hns rmk
  have e:(dd l).a C+1+x=C.base (dd l).j+((dd l).i+(1+x)):=by unfold Do.a;omega
  rw[e,fr.word hC oj.1 oj.2 oi.1 (by omega) o.s p1.1 (by omega) (by omega) (by omega) fun⟨q1,q2,q3⟩=>by
   rcases hns with q|q|q
   ·exact q q1
   ·omega
   ·omega,←e]
  exact h.ce l l0 l1 qA x x0 x1
 ·rw[fr.chunk hC oj.1 oj.2 oi.1 o.s j0 j1];exact h.n1 j j0 j1
end
theorem LF(hN:N.ok)(hC:C.ok)(hA:aZ N A σ){i:Int}{n:Nat}{dd:Int→Do}{li:Int→Bool}{V:Int→Int→Int}{b:Bg}{z bb:Int}{own:Bool}(hP:Pa C A bb)(hb:bb<2305843009213693952)(h:Dv C i n dd li V A.w b)(hi:i≤1000)(bE:0≤ai z)
  (k0:∀ oE oV oS A' τ,(oE=7∧b.F=[]∨oE=6∧¬ bP C b.o b.u (ai z)∧b.nx=C.C)→Dv C i n dd li V A'.w b→Pa C A' (bb+100)→A'.n=A.n→(∀ i,lD C i→A'.w i=A.w i)→aZ N A' τ→aQ N.l σ τ→K (.agg #[.int .i64 oE,.int .u64 0,.int .i64 oV,.int .i64 oS]) τ)
  (k1:∀ oV oS A' τ s F j b' d,b.F=s::F→B6 C b F (ai z) j b'→(d.own=own∧d.j=j∧d.z=z∧d.i=b.u j)→Dv C (i+1) (n+1) (m5 dd n d) (fa li n true) (nV V n) A'.w (b'.count j (aA (ai z)))→Pa C A' (bb+100)→A'.n=A.n→(∀ i,lD C i→A'.w i=A.w i)→aZ N A' τ→aQ N.l σ τ →
   K (.agg #[.int .i64 0,.int .u64 d.n,.int .i64 oV,.int .i64 oS]) τ):tj [N.env C who,.int .i64 z,.bool own] K σ:=by
 refine LG hN hC hA hP hb h.dw.aw (h.dw.lv.ok (by omega)) bE h.n1 fun m A' τ hD BF hn yp pD hq dL hK=>?_
 have Je:=hD.fw
 rcases hD.r with⟨e,eH,eF,jC⟩|⟨s,F,hF,⟨e,eH,ng,nx,jC⟩|⟨e,_,j,b',hg,jb,ub,eH,jC,w1,w2,w3⟩⟩
 ·rw[eH]
  exact k0 _ _ _ A' τ (.inl ⟨e,eF⟩) (h.same hC jC (fun t t0 t1=>Je.slot t t0 t1 fun q=>by rw[e]at q;exact absurd q (by decide)) (fun j x j0 j1 x0 x1 x2=>Je.word j x j0 j1 x0 x1 x2) yp hq) BF hn pD dL hK
 ·rw[eH]
  exact k0 _ _ _ A' τ (.inr ⟨e,ng,nx⟩) (h.same hC jC (fun t t0 t1=>Je.slot t t0 t1 fun q=>by rw[e]at q;exact absurd q (by decide)) (fun j x j0 j1 x0 x1 x2=>Je.word j x j0 j1 x0 x1 x2) yp hq) BF hn pD dL hK
 ·rw[e,eH]
  exact k1 _ _ A' τ s F j b' (Do.mk' C b s (b9 (A.w (C.slot s))) z own j) hF hg ⟨rfl,rfl,rfl,rfl⟩ (h.make hC hi hF bE hg jC w1 w2 w3 (Je.mono fun _=>trivial) yp hq) BF hn pD dL hK
theorem LL(hN:N.ok)(hC:C.ok)(hG:C.G=100)(hA:aZ N A σ){i k:Int}{n:Nat}{dd:Int→Do}{li:Int→Bool}{V:Int→Int→Int}{b:Bg}{bb:Int}(hP:Pa C A bb)(hb:bb<2305843009213693952)(h:Dv C i n dd li V A.w b)(hi:i≤90)(k0:0≤k)(k1:k<n)(hk:li k=true)
  (kk:∀ oH oV oS A' τ,Dv C (i+1) n dd (fa li k false) V A'.w { b.less (dd k).j (aA (ai (dd k).z))with F:=(dd k).s::b.F }→Pa C A' (bb+60)→A'.n=A.n→(∀ i,lD C i→A'.w i=A.w i)→aZ N A' τ→aQ N.l σ τ→K (.agg #[.int .i64 0,.int .u64 oH,.int .i64 oV,.int .i64 oS]) τ) :
  tf [N.env C who,.int .u64 (dd k).n,.bool (dd k).own] K σ:=by
 have o:=h.dw.ok k k0 k1 hk
 have su:=h.dw.lv.lv _ o.j.1 o.j.2
 refine Dx hN hC hA hP hb h.dw.aw o (by omega) fun m A' τ hD BF yP dL hK=>?_
 refine kk _ _ _ A' τ (h.drop hC hG hi k0 k1 hk hD.fr hD.sl hD.aw) BF yP (fun x hx=>?_) dL hK
 have zm:x=0∨6≤x∧x<6+C.T:=hx
 have F6:=a_ hC o.j.1 o.j.2 o.i.1
 have ea:(dd k).a C=C.base (dd k).j+(dd k).i:=rfl
 have os:=o.s
 have oj:=o.j
 have hT:=hC.T
 exact hD.fr x (by unfold Cf.slot;omega) (by omega) (by unfold Cf.slot;omega) (by unfold Cf.chunk;omega) (by omega)
end Go.Fl
namespace Go.Fl
open Go
variable{N:Nm}{A B:Ar}{σ:Mem}{K:Value→Mem→Prop}{C:Cf}{who:Int}{P:MP}
def MP.of(C:Cf)(w:Int→Int):MP:=⟨w,fun s=>decide (cF (w (C.slot s))=1),fun s=>b9 (w (C.slot s)),fun s=>gH (w (a8 (w (C.slot s)))),fun s=>sy (w (a8 (w (C.slot s)))),fun s x=>kN (w (a8 (w (C.slot s))+1+x)),-1,0,0,-1⟩
section
variable{i:Int}{n:Nat}{dd:Int→Do}{li:Int→Bool}{V:Int→Int→Int}{w w':Int→Int}{b:Bg}
theorem Dw.mul(hC:C.ok)(h:Dw C i n dd li w b){k:Int}(k0:0≤k)(k1:k<n):(dd k).i % (dd k).rm=0:=by
 obtain⟨⟨p1,p2,p3⟩,p4,p5⟩:=h.pl k k0 k1
 have rm:=(dd k).Ra
 have hr:=bR (h.hd k k0 k1).2.1 (bH (dd k).z).2
 have er:aA (bL (w (C.chunk (dd k).j)))=(dd k).rm:=by rw[p4];rfl
 have I6:3≤(dd k).rm:=hr.1
 have e1:=Int.emod_add_mul_ediv (dd k).i (dd k).rm
 have e2:=Int.emod_nonneg (dd k).i (show(dd k).rm≠0 by omega)
 have e3:=Int.emod_lt_of_pos (dd k).i (show 0<(dd k).rm by omega)
 have e4:0≤(dd k).rm*((dd k).i / (dd k).rm):=Int.mul_nonneg (by omega) (Int.ediv_nonneg p2 (by omega))
 obtain⟨k',C4,q1,q2⟩:=h.OS (dd k).j ((dd k).rm*((dd k).i / (dd k).rm)) p1.1 p1.2 e4 (by omega) (by rw[er];exact Int.mul_emod_right _ _)
 by_cases e:k'=k
 ·subst e;omega
 ·obtain⟨_,p4',_⟩:=h.pl k' C4.1 C4.2
  have er':(dd k').rm=(dd k).rm:=by
   rw[q1,p4]at p4'
   unfold Do.rm;rw[p4']
  rcases h.ns k' k C4.1 C4.2 k0 k1 e with q|q|q
  ·exact absurd q1 q
  ·omega
  ·omega
theorem Dv.one(hC:C.ok)(h:Dv C i n dd li V w b)(hi:i≤1000){k:Int}(k0:0≤k)(k1:k<n)(hk:li k=true) :
  (MP.of C w).lv (dd k).s=true∧(MP.of C w).g (dd k).s=(dd k).ge∧(MP.of C w).z (dd k).s=(dd k).z∧(MP.of C w).o (dd k).s=(dd k).own∧(∀ x,0≤x→x<(dd k).z→(MP.of C w).L (dd k).s x=V k x)∧a8 (w (C.slot (dd k).s))=(dd k).a C∧(0≤(dd k).a C∧(dd k).a C≤1048575):=by
 have o:=h.dw.ok k k0 k1 hk
 have hd:=h.dw.hd k k0 k1
 obtain⟨⟨p1,p2,p3⟩,p4,p5⟩:=h.dw.pl k k0 k1
 have F6:=h.dw.aw.jJ.bd
 have av:=(dd k).av hC o ⟨_,h.dw.aw⟩
 have hS:=hC.S
 have z:=dT (st:=1) (ad:=(dd k).a C) (ge:=(dd k).ge) (ve:=0) (by decide) (by omega) (by omega)
 have hh:=je (k:=2) (s:=(dd k).z) (t:=(dd k).s) (g:=(dd k).ge) (o:=(dd k).own) (by decide) (by omega) (by omega) (by omega)
 have ls:=h.ls k k0 k1 hk
 have ea:a8 (w (C.slot (dd k).s))=(dd k).a C:=by rw[ls];exact z.2.1
 refine⟨?_,?_,?_,?_,fun x x0 x1=>?_,ea,by omega⟩
 ·show decide (cF (w (C.slot (dd k).s))=1)=true
  rw[ls,z.1];decide
 ·show b9 (w (C.slot (dd k).s))=_
  rw[ls];exact z.2.2
 ·show gH (w (a8 (w (C.slot (dd k).s))))=_
  rw[ea,p5];exact hh.2.1
 ·show sy (w (a8 (w (C.slot (dd k).s))))=_
  rw[ea,p5];exact hh.2.2.2.2
 ·show kN (w (a8 (w (C.slot (dd k).s))+1+x))=_
  obtain⟨c1,c2⟩:=h.ce k k0 k1 hk x x0 x1
  rw[ea,c2];exact(qj c1 (by decide)).1
theorem Dv.TB(hC:C.ok)(h:Dv C i n dd li V w b){s:Int}(s0:0≤s)(s1:s<C.S)(l:(MP.of C w).lv s=true):∃ k:Int,(0≤k∧k<n)∧li k=true∧(dd k).s=s:=by
 have l':cF (w (C.slot s))=1:=of_decide_eq_true l
 rcases h.sf s s0 s1 with q|q
 ·have:=h.fs s s0 s1 q;omega
 ·exact q
theorem Dv.ms(hC:C.ok)(h:Dv C i n dd li V w b)(hi:i≤1000)(cc:C.C≤8∧C.W≤36∧C.R≤3):MS C (MP.of C w):=by
 refine⟨cc,fun s s0 s1 l=>?_,fun s s0 s1 l=>?_⟩
 ·obtain⟨k,k1,k2,rfl⟩:=h.TB hC s0 s1 l
  obtain⟨u1,u2,u3,u4,u5,u6,u7⟩:=h.one hC hi k1.1 k1.2 k2
  have hd:=h.dw.hd k k1.1 k1.2
  rw[u3,u2]
  refine⟨hd.2.1,by omega,fun x x0 x1=>?_⟩
  rw[u5 x x0 x1];exact(h.ce k k1.1 k1.2 k2 x x0 x1).1
 ·have l':¬ cF (w (C.slot s))=1:=of_decide_eq_false l
  show cF (w (C.slot s))≠1∧cF (w (C.slot s))≠4
  rcases h.sf s s0 s1 with q|⟨k,k1,k2,rfl⟩
  ·have:=h.fs s s0 s1 q;omega
  ·have:=of_decide_eq_true (h.one hC hi k1.1 k1.2 k2).1
   exact absurd this l'
theorem Dv.mw(hC:C.ok)(h:Dv C i n dd li V w b)(hi:i≤1000)(cc:C.C≤8∧C.W≤36∧C.R≤3){t:Int}(ht:1≤t)(hbw:∀ i,0≤w i∧w i<18446744073709551616)(h0:w 0≤t):MW C (MP.of C w) t (-1) (-1) w:=by
 have F6:=h.dw.aw.jJ.bd
 have hS:=hC.S
 refine⟨hbw,fun j j0 j1=>?_,fun j x j0 j1 hs x0 x1 xm _=>?_,fun s s0 s1 l=>rfl,fun s s0 s1 l _=>?_,fun k k0 k1=>h.dw.op k0 k1,h0,fun j j0 j1 q=>?_,fun p=>absurd p (by show ¬(0:Int) ≤ -1;decide),fun p=>absurd p (by show ¬(0:Int) ≤ -1;decide)⟩
 ·have hn:=h.n1 j j0 j1
  by_cases q:j<b.nx
  ·have old:=h.dw.aw.jJ.old j j0 q
   have um:=h.dw.um j j0 q
   exact⟨um.2.1,by rw[old.2.1];exact old.2.2.2,by rw[old.2.1];exact um.1,by omega,fun g=>by omega⟩
  ·have nw:=(h.dw.aw.jJ.new j (by omega) j1).1
   rw[nw]at hn ⊢
   exact⟨by decide,by have:=hC.W;show(0:Int)≤C.W;omega,by decide,by omega,fun g=>absurd g (by decide)⟩
 ·have hc:=h.dw.V9 j0 j1
  have jn:j<b.nx:=hc.2.2 (by rcases hs with q|q<;>rcases hc.1 with u|u<;>omega)
  rw[hc.2.1]at x1
  obtain⟨k,k1,e1,e2⟩:=h.dw.OS j x j0 jn x0 x1 xm
  obtain⟨_,p4,p5⟩:=h.dw.pl k k1.1 k1.2
  have hd:=h.dw.hd k k1.1 k1.2
  have hz:=bT hd.2.1
  have hh:=je (k:=2) (s:=(dd k).z) (t:=(dd k).s) (g:=(dd k).ge) (o:=(dd k).own) (by decide) (by omega) (by omega) (by omega)
  have ea:(dd k).a C=C.base j+x:=by unfold Do.a;rw[e1,e2]
  rw[ea]at p5
  rw[p5]
  exact .inr ⟨hh.1,by rw[hh.2.2.1];exact hd.1.2.2,by rw[hh.2.1];exact hd.2.1⟩
 ·obtain⟨k,k1,k2,rfl⟩:=h.TB hC s0 s1 l
  obtain⟨u1,u2,u3,u4,u5,u6,u7⟩:=h.one hC hi k1.1 k1.2 k2
  obtain⟨⟨p1,p2,p3⟩,p4,p5⟩:=h.dw.pl k k1.1 k1.2
  have hd:=h.dw.hd k k1.1 k1.2
  have old:=h.dw.aw.jJ.old _ p1.1 p1.2
  have um:=h.dw.um _ p1.1 p1.2
  have rmz:(MP.of C w).rm (dd k).s=(dd k).rm:=by unfold MP.rm Do.rm;rw[u3]
  refine⟨(dd k).a C,0,by rw[u2];exact h.ls k k1.1 k1.2 k2,⟨Int.le_refl 0,by omega⟩,⟨(dd k).j,(dd k).i,rfl,⟨p1.1,by omega⟩,by rw[rmz,old.2.1];exact⟨p2,p3⟩,?_,by rw[u3];exact p4,.inl old.1⟩,?_,fun x x0 x1=>?_⟩
  ·
   rw[rmz]
   exact h.dw.mul hC k1.1 k1.2
  ·unfold MP.hw
   rw[u3,u2,u4];exact p5
  ·rw[u3]at x1
   rw[u5 x x0 x1]
   obtain⟨c1,c2⟩:=h.ce k k1.1 k1.2 k2 x x0 x1
   rw[c2]
   have c:=qj (n:=0) (f:=false) c1 (by decide)
   exact⟨c.1,fun g=>by rw[c.2.1]at g;cases g⟩
 ·have:=(h.dw.V9 j0 j1).1
  omega
end
theorem Dv.wi(hC:C.ok){i:Int}{n:Nat}{dd:Int→Do}{li:Int→Bool}{V:Int→Int→Int}{b:Bg}(h:Dv C i n dd li V A.w b)(hi:i≤1000)(cc:C.C≤8∧C.W≤36∧C.R≤3)(hbw:∀ i,0≤A.w i∧A.w i<18446744073709551616)(h0:A.w 0=0)(nn:C.len≤A.n∧(A.n:Int)≤200000000) :
  WI C (MP.of C A.w) 1 3000 Co.new A:=by
 have ma:=hC.C
 refine⟨h.ms hC hi cc,nn,Int.le_refl _,.p0 rfl rfl rfl (h.mw hC hi cc (Int.le_refl _) hbw (by rw[h0];decide)) (fun j j0 j1=>by rcases(h.dw.V9 j0 j1).1 with q|q<;>omega) ⟨Int.le_refl 0,by show(0:Int)<C.C;omega⟩ (fun e=>absurd rfl e) (by show 2*(C.C-0)+2784≤3000;omega),?_⟩
 exact⟨⟨by decide,by decide⟩,⟨by decide,by decide⟩,⟨by decide,by decide⟩,⟨by decide,by decide⟩,by decide,by decide⟩
structure RdI(C:Cf)(P:MP)(n x:Int)(own:Bool)(A0:Ar)(k:Int)(m:Ak)(A:Ar):Prop where
 ew:A.w=A0.w
 en:A.n=A0.n
 ok:∀ bb,A0.ok bb→A.ok (bb+k)
 lg:Lg C n own 1 x 0 0 m
 pc:m.a.pc=0∧k=0∨m.a.w=A0.w (C.slot (aJ n))∧(m.a.pc=1∧k=1∨m.a.pc=2∧k=2∨m.a.pc=6∧k=3∧m.a.cell=A0.w (a8 (A0.w (C.slot (aJ n)))+1+x))
theorem LA(hN:N.ok)(hC:C.ok)(hA:aZ N A σ){t n x bb:Int}(hS:MS C P)(h:MW C P t (-1) (-1) A.w)(ht:t≤4194303)(hnb:0≤n∧n<18446744073709551616)(lI:jB n=true)(hs:aJ n<C.S)(l:P.lv (aJ n)=true)(hg:P.g (aJ n)=b_ n)(ok:A.ok bb)(hb:bb<2305843009213693952)(hn:C.len≤A.n)(hb2:(A.n:Int)≤200000000)(x0:0≤x)(x1:x<P.z (aJ n))
  (kk:∀ oS A' τ,A'.w=A.w→A'.n=A.n→A'.ok (bb+4)→aZ N A' τ→aQ N.l σ τ→K (.agg #[.int .i64 0,.int .u64 0,.int .i64 (P.L (aJ n) x),.int .i64 oS]) τ) :
  CI [N.env C who,.agg #[.int .i64 1,.int .u64 n,.int .i64 x,.int .i64 0,.int .i64 0],.bool (P.o (aJ n))] K σ:=by
 have kL:=oX hnb.1
 obtain⟨a,v,o⟩:=h.lv _ kL.1.1 hs l (by omega)
 obtain⟨s1,s2,s3,s4⟩:=o.sl hC hS ht h.ck kL.1.1 hs l
 obtain⟨j,y,p⟩:=o.pl
 have pb:=(p.bd hC hS (h.ck j p.jb.1 p.jb.2).u kL.1.1 hs l).1
 have hh:=FY (a:=a) hC hS kL.1.1 hs l
 rw[←o.hd]at hh
 have lvs:dZ (A.w (C.slot (aJ n))) (b_ n):=⟨.inl s1,by rw[s3];exact hg⟩
 have key:∀ k m A1,0≤k→k<200→RdI C P n x (P.o (aJ n)) A k m A1→m.fit C A1∧(∀ i,0≤A1.w i∧A1.w i<18446744073709551616)∧C.len≤A1.n∧if(m.step C who A1).1=true then((m.step C who A1).2.2.w=A.w∧(m.step C who A1).2.2.n=A.n∧(m.step C who A1).2.2.ok (bb+4)∧(m.step C who A1).2.1.a.oE=0∧(m.step C who A1).2.1.a.oH=0∧(m.step C who A1).2.1.a.oV=P.L (aJ n) x)else RdI C P n x (P.o (aJ n)) A (k+1) (m.step C who A1).2.1 (m.step C who A1).2.2:=by
  intro k m A1 k0 k1 hI
  have FZ:=hI.ew
  have Kf:=hI.ok bb ok
  have kb:k≤3:=by rcases hI.pc with⟨_,e⟩|⟨_,⟨_,e⟩|⟨_,e⟩|⟨_,e,_⟩⟩<;>omega
  have hE:LgE C n (P.o (aJ n)) (P.z (aJ n)) x A1 m:=by
   have hm:m.a.pc≠0→a8 m.a.w=a:=fun e=>by
    rcases hI.pc with⟨e',_⟩|⟨e',_⟩
    ·exact absurd e' e
    ·rw[e',s2]
   refine⟨hnb,lI,hs,fun _=>by rw[FZ];omega,⟨x0,x1⟩,fun e=>?_,fun e=>by rw[hm e];exact pb,by rw[hI.en];exact hn,by rw[hI.en];exact hb2⟩
   rw[hm (by omega),FZ];exact⟨hh.2.2.2.2,hh.2.1⟩
  obtain⟨hf,hr⟩:=hI.lg.step (who:=who) hC hE Kf (by omega)
  refine⟨hf,Kf.w,by rw[hI.en];exact hn,?_⟩
  have tl:∀ d,((A1.by who).load d).n=A.n∧(∀ bb,A.ok bb→((A1.by who).load d).ok (bb+(k+1)))∧((A1.by who).load d).w=A.w:=fun d=>by
   refine⟨hI.en,fun b vm=>?_,FZ⟩
   have a1:=cW (who:=who) (A:=A1) (a:=d) Kf (by omega)
   have:=a1.ok (by omega) (hI.ok b vm) Kf.w
   rw[show b+(k+1)=b+k+1 by omega];exact this
  have lk1:∀ c,Lk 1 0 c:=fun c=>.inl rfl
  generalize kT:m.step C who A1=R at hr ⊢
  obtain⟨d,m',A'⟩:=R
  dsimp only at hr ⊢
  cases hr with
  | gF hp hl lg pc ew _=>
   rw[ae (by simp)]
   obtain⟨t1,t2,t3⟩:=tl (C.slot (aJ n))
   have k0:k=0:=by rcases hI.pc with⟨_,e⟩|⟨_,⟨e,_⟩|⟨e,_⟩|⟨e,_⟩⟩<;>omega
   exact⟨t3,t1,t2,lg,.inr ⟨by rw[ew,FZ],.inl ⟨pc,by omega⟩⟩⟩
  | gone hp hl _=>rw[FZ]at hl;exact absurd lvs hl
  | head hp lg pc ew=>
   rw[ae (by simp)]
   obtain⟨t1,t2,t3⟩:=tl (a8 m.a.w)
   rcases hI.pc with⟨e,_⟩|⟨e0,⟨_,e⟩|⟨e,_⟩|⟨e,_⟩⟩
   ·omega
   ·exact⟨t3,t1,t2,lg,.inr ⟨by rw[ew];exact e0,.inr (.inl ⟨pc,by omega⟩)⟩⟩
   ·omega
   ·omega
  | load hp lg ew ec _ hc=>
   rw[ae (by simp)]
   obtain⟨t1,t2,t3⟩:=tl (a8 m.a.w+1+x)
   have p6:m'.a.pc=6:=by
    rcases hc with⟨e,_⟩|⟨e,_⟩
    ·exact e
    ·exact absurd (lk1 _) e
   rcases hI.pc with⟨e,_⟩|⟨e0,⟨e,_⟩|⟨_,e⟩|⟨e,_⟩⟩
   ·omega
   ·omega
   ·exact⟨t3,t1,t2,lg,.inr ⟨by rw[ew];exact e0,.inr (.inr ⟨p6,by omega,by rw[ec,FZ,e0]⟩)⟩⟩
   ·omega
  | stop hp h2 lg pc=>exfalso;rcases hI.pc with⟨e,_⟩|⟨_,⟨e,_⟩|⟨e,_⟩|⟨e,_⟩⟩<;>omega
  | lay hp hk h2 hc ho=>exact absurd (lk1 _) hk
  | again hp hc lg pc=>exfalso;rcases hI.pc with⟨e,_⟩|⟨_,⟨e,_⟩|⟨e,_⟩|⟨e,_⟩⟩<;>omega
  | look hp hk hl he ho=>
   rw[af rfl]
   obtain⟨t1,t2,t3⟩:=tl (C.slot (aJ n))
   rcases hI.pc with⟨e,_⟩|⟨e0,⟨e,_⟩|⟨e,_⟩|⟨_,e3,ec⟩⟩
   ·omega
   ·omega
   ·omega
   ·refine⟨t3,t1,by have:=t2 bb ok;rw[e3]at this;exact this,ho.1.trans (ae (by decide)),ho.2.1,?_⟩
    rw[ho.2.2.1,ec,s2];exact(o.ce x x0 x1).e
  | Jz hp hl he lg pc=>
   exfalso
   rcases hI.pc with⟨e,_⟩|⟨e0,_⟩
   ·omega
   ·rw[FZ,e0]at he;exact he rfl
 refine WX hN hC hA (kd:=1) (n:=n) (ix:=x) (v:=0) (old:=0) (o:=P.o (aJ n)) (fun k m A1=>RdI C P n x (P.o (aJ n)) A k m A1) (fun m A1=>A1.w=A.w∧A1.n=A.n∧A1.ok (bb+4)∧m.a.oE=0∧m.a.oH=0∧m.a.oV=P.L (aJ n) x) ⟨rfl,rfl,fun b vm=>by rw[Int.add_zero];exact vm,Lg.new hC,.inl ⟨rfl,rfl⟩⟩ (fun k m A1 k0 k1 hI=>?_) (fun m A1 hI=>?_) fun m A1 τ hD m_ hK=>?_
 ·exact key k m A1 k0 k1 hI
 ·exfalso
  rcases hI.pc with⟨_,e⟩|⟨_,⟨_,e⟩|⟨_,e⟩|⟨_,e,_⟩⟩<;>omega
 ·obtain⟨d1,d2,d3,d4,d5,d6⟩:=hD
  rw[d4,d5,d6]
  exact kk _ A1 τ d1 d2 d3 m_ hK
end Go.Fl
namespace Go.Fl
open Go
variable{N:Nm}{A B:Ar}{σ:Mem}{K:Value→Mem→Prop}{C:Cf}{who:Int}
def ny{α:Type}(f:Int→α)(i:Int)(x:α):Int→α:=fun j=>if j=i then x else f j
theorem bu{α:Type}{f:Int→α}{i:Int}{x:α}:ny f i x i=x:=by simp[ny]
theorem bk{α:Type}{f:Int→α}{i j:Int}{x:α}(h:j≠i):ny f i x j=f j:=by simp[ny,h]
def l4(P:Int→Value):List Value:=[P 0,P 1,P 2,P 3]
def l3(P:Int→Value):List Value:=[P 0,P 1,P 2]
structure HB{α:Type}(N:Nm)(W:Nat→List Nat→α→Mem→Prop):Prop where
 aL:∀{p:Nat} {O L:List Nat} {m:α} {σ τ:Mem},W p O m σ→aQ L σ τ→(∀ i∈O,i∉L)→W p O m τ
 own:∀{p:Nat} {O:List Nat} {m:α} {σ:Mem},W p O m σ→∀ i∈O,i∉N.l
 min:∀{p:Nat} {O:List Nat} {m:α} {σ:Mem},W p O m σ→∃ O',W p O' m σ∧(∀ i∈O',i∈O)∧∀ i∈O',σ.get i≠none
 p:∀{p:Nat} {O:List Nat} {m:α} {σ:Mem},W p O m σ→p∈O
section
variable{α:Type}{W:Nat→List Nat→α→Mem→Prop}
structure Hw{α:Type}(N:Nm)(W:Nat→List Nat→α→Mem→Prop)(σ0:Mem)(L:Int→Prop)(P:Int→Nat)(O:Int→List Nat)(M:Int→α)(τ:Mem):Prop where
 ob:∀ k,L k→W (P k) (O k) (M k) τ
 al:∀ k,L k→∀ x∈O k,τ.get x≠none
 ap:∀ k l,L k→L l→k≠l→∀ x∈O k,x∉O l
 fr:∀ k,L k→∀ x∈O k,σ0.get x=none
 ext:Ext σ0 τ
theorem Hw.nil{σ0 τ:Mem}{P:Int→Nat}{O:Int→List Nat}{M:Int→α}(h:Ext σ0 τ):Hw N W σ0 (fun _=>False) P O M τ:=
 ⟨fun _ h=>h.elim,fun _ h=>h.elim,fun _ _ h=>h.elim,fun _ h=>h.elim,h⟩
theorem Hw.less{σ0 τ:Mem}{L L':Int→Prop}{P:Int→Nat}{O:Int→List Nat}{M:Int→α}(h:Hw N W σ0 L P O M τ)(hL:∀ k,L' k→L k):Hw N W σ0 L' P O M τ:=
 ⟨fun k q=>h.ob k (hL k q),fun k q=>h.al k (hL k q),fun k l q r=>h.ap k l (hL k q) (hL l r),fun k q=>h.fr k (hL k q),h.ext⟩
theorem Hw.congr{σ0 τ:Mem}{L:Int→Prop}{P:Int→Nat}{O:Int→List Nat}{M M':Int→α}(h:Hw N W σ0 L P O M τ)(hM:∀ k,L k→M' k=M k):Hw N W σ0 L P O M' τ:=
 ⟨fun k q=>by rw[hM k q];exact h.ob k q,h.al,h.ap,h.fr,h.ext⟩
theorem Hw.more(hW:HB N W){σ0 τ τ':Mem}{L:Int→Prop}{P:Int→Nat}{O:Int→List Nat}{M:Int→α}(h:Hw N W σ0 L P O M τ)(x:Ext τ τ'):Hw N W σ0 L P O M τ':=
 ⟨fun k q=>hW.aL (L:=[]) (h.ob k q) x.aL (fun _ _=>by simp),fun k q y hy=>by cases e:τ.get y with|none=>exact absurd e (h.al k q y hy)|some b=>rw[x _ _ e];simp,h.ap,h.fr,h.ext.trans x⟩
theorem Hw.aL(hW:HB N W){σ0 τ τ':Mem}{L:Int→Prop}{P:Int→Nat}{O:Int→List Nat}{M:Int→α}{U:List Nat}(h:Hw N W σ0 L P O M τ)(x:aQ U τ τ')(hU:∀ y∈U,σ0.get y=none∧∀ k,L k→y∉O k):Hw N W σ0 L P O M τ':=by
 have hk:∀ k,L k→∀ y∈O k,y∉U:=fun k q y hy hu=>(hU y hu).2 k q hy
 refine⟨fun k q=>hW.aL (h.ob k q) x (hk k q),fun k q y hy=>?_,h.ap,h.fr,h.ext.pA x fun y hy=>(hU y hy).1⟩
 cases e:τ.get y with
 | none=>exact absurd e (h.al k q y hy)
 | some b=>rw[x _ _ e (hk k q y hy)];simp
theorem Hw.W9(hW:HB N W){σ0 τ τ':Mem}{L:Int→Prop}{P:Int→Nat}{O:Int→List Nat}{M:Int→α}(h:Hw N W σ0 L P O M τ)(hf:N.fr σ0)(x:aQ N.l τ τ'):Hw N W σ0 L P O M τ':=
 h.aL hW x fun y hy=>⟨hf.all y hy,fun k q hk=>hW.own (h.ob k q) y hk hy⟩
theorem Hw.step(hW:HB N W){σ0 τ τ':Mem}{L:Int→Prop}{k:Int}{P:Int→Nat}{O:Int→List Nat}{M:Int→α}{m':α}{O':List Nat}(h:Hw N W σ0 L P O M τ)(hf:N.fr σ0)(hL:L k)(hO:∀ i∈O',i∈O k∨τ.get i=none)(I_:W (P k) O' m' τ')(hk:aQ (O k++N.l) τ τ') :
  ∃ O2,Hw N W σ0 L P O2 (ny M k m') τ'∧∀ l,∀ x∈O2 l,x∈O l∨τ.get x=none:=by
 obtain⟨O'',g1,g2,g3⟩:=hW.min I_
 have others:∀ l,L l→l≠k→∀ x∈O l,x∉O k++N.l:=fun l l0 e x hx=>by
  simp only[List.mem_append,not_or]
  exact⟨h.ap l k l0 hL e x hx,hW.own (h.ob l l0) x hx⟩
 have RO:∀ x∈O'',σ0.get x=none:=fun x hx=>by
  rcases hO x (g2 x hx)with q|q
  ·exact h.fr k hL x q
  ·exact h.ext.none q
 have new:∀ l,L l→l≠k→∀ x∈O'',x∉O l:=fun l l0 e x hx zm=>by
  rcases hO x (g2 x hx)with q|q
  ·exact h.ap l k l0 hL e x zm q
  ·exact h.al l l0 x zm q
 refine⟨ny O k O'',⟨fun l l0=>?_,fun l l0 x hx=>?_,fun a b a0 b0 Kp x hx=>?_,fun l l0 x hx=>?_,h.ext.pA hk fun j hj=>?_⟩,fun l x hx=>?_⟩
 ·by_cases e:l=k
  ·subst e;rw[bu,bu];exact g1
  ·rw[bk e,bk e];exact hW.aL (h.ob l l0) hk (others l l0 e)
 ·by_cases e:l=k
  ·subst e;rw[bu]at hx;exact g3 x hx
  ·rw[bk e]at hx
   cases q:τ.get x with
   | none=>exact absurd q (h.al l l0 x hx)
   | some bl=>rw[hk _ _ q (others l l0 e x hx)];simp
 ·by_cases e1:a=k
  ·subst e1
   rw[bu]at hx
   rw[bk (fun q=>Kp q.symm)]
   exact new b b0 (fun q=>Kp q.symm) x hx
  ·rw[bk e1]at hx
   by_cases e2:b=k
   ·subst e2
    rw[bu]
    exact fun q=>new a a0 e1 x q hx
   ·rw[bk e2];exact h.ap a b a0 b0 Kp x hx
 ·by_cases e:l=k
  ·subst e;rw[bu]at hx;exact RO x hx
  ·rw[bk e]at hx;exact h.fr l l0 x hx
 ·rcases List.mem_append.1 hj with q|q
  ·exact h.fr k hL j q
  ·exact hf.all j q
 ·by_cases e:l=k
  ·subst e;rw[bu]at hx;exact hO x (g2 x hx)
  ·rw[bk e]at hx;exact .inl hx
theorem Hw.new(hW:HB N W){σ0 τ τ':Mem}{L:Int→Prop}{i:Int}{P:Int→Nat}{O:Int→List Nat}{M:Int→α}{m:α}{p:Nat}(h:Hw N W σ0 L P O M τ)(hi:¬ L i)(hp:τ.get p=none)(I_:W p [p] m τ')(x:Ext τ τ') :
  Hw N W σ0 (fun k=>L k∨k=i) (ny P i p) (ny O i [p]) (ny M i m) τ':=by
 have hn:τ'.get p≠none:=by obtain⟨O',q1,q2,q3⟩:=hW.min I_;exact q3 p (hW.p q1)
 have ne:∀ k,L k→k≠i:=fun k q e=>hi (e ▸ q)
 have h':=h.more hW x
 have nx:∀ k,L k→p∉O k:=fun k q hk=>h.al k q p hk hp
 refine⟨fun k q=>?_,fun k q y hy=>?_,fun a b qa qb Kp y hy=>?_,fun k q y hy=>?_,h'.ext⟩
 ·by_cases e:k=i
  ·subst e;rw[bu,bu,bu];exact I_
  ·rw[bk e,bk e,bk e];exact h'.ob k (by rcases q with q|q;exact q;exact absurd q e)
 ·by_cases e:k=i
  ·subst e;rw[bu,List.mem_singleton]at hy;subst hy;exact hn
  ·rw[bk e]at hy;exact h'.al k (by rcases q with q|q;exact q;exact absurd q e) y hy
 ·by_cases e1:a=i
  ·subst e1
   rw[bu,List.mem_singleton]at hy
   subst hy
   rw[bk (fun q=>Kp q.symm)]
   exact nx b (by rcases qb with q|q;exact q;exact absurd q.symm Kp)
  ·have qa':L a:=by rcases qa with q|q;exact q;exact absurd q e1
   rw[bk e1]at hy
   by_cases e2:b=i
   ·subst e2;rw[bu,List.mem_singleton];rintro rfl;exact nx a qa' hy
   ·rw[bk e2];exact h.ap a b qa' (by rcases qb with q|q;exact q;exact absurd q e2) Kp y hy
 ·by_cases e:k=i
  ·subst e;rw[bu,List.mem_singleton]at hy;subst hy;exact h.ext.none hp
  ·rw[bk e]at hy;exact h.fr k (by rcases q with q|q;exact q;exact absurd q e) y hy
end
theorem Ob.hb:HB N (Ob N):=by
 refine⟨fun{p O L m σ τ} h x hL=>?_,fun h=>h.own,fun{p O m σ} h=>?_,fun h=>h.p⟩
 ·obtain⟨⟨a,b,h1,h2,h3⟩,h4,h5⟩:=h
  refine⟨⟨a,b,x.get h1 (hL p h5),fun e=>?_,fun e=>?_⟩,h4,h5⟩
  ·obtain⟨q,q1,q2,q3,q4⟩:=h2 e;exact⟨q,q1,q2,q3,x.get q4 (hL q q2)⟩
  ·obtain⟨q,q1,q2,q3,q4⟩:=h3 e;exact⟨q,q1,q2,q3,x.get q4 (hL q q2)⟩
 ·obtain⟨⟨a,b,g1,g2,g3⟩,own,pO⟩:=h
  by_cases c2:m.a.pc=2
  ·obtain⟨q,rfl,qO,qp,gq⟩:=g2 c2
   refine⟨[p,q],⟨⟨some q,b,g1,fun _=>⟨q,rfl,by simp,qp,gq⟩,fun e=>by omega⟩,fun i hi=>?_,by simp⟩,fun i hi=>?_,fun i hi=>?_⟩ <;>
   ·simp only[List.mem_cons,List.not_mem_nil,or_false]at hi
    rcases hi with rfl|rfl<;>first|exact own _ pO|exact own _ qO|exact pO|exact qO|(rw[g1];simp)|(rw[gq];simp)
  ·by_cases c7:m.a.pc=7
   ·obtain⟨q,rfl,qO,qp,gq⟩:=g3 c7
    refine⟨[p,q],⟨⟨a,some q,g1,fun e=>by omega,fun _=>⟨q,rfl,by simp,qp,gq⟩⟩,fun i hi=>?_,by simp⟩,fun i hi=>?_,fun i hi=>?_⟩ <;>
    ·simp only[List.mem_cons,List.not_mem_nil,or_false]at hi
     rcases hi with rfl|rfl<;>first|exact own _ pO|exact own _ qO|exact pO|exact qO|(rw[g1];simp)|(rw[gq];simp)
   ·refine⟨[p],⟨⟨a,b,g1,fun e=>absurd e c2,fun e=>absurd e c7⟩,fun i hi=>?_,by simp⟩,fun i hi=>?_,fun i hi=>?_⟩ <;>
    ·rw[List.mem_singleton]at hi
     subst hi
     first|exact own _ pO|exact pO|(rw[g1];simp)
end Go.Fl
namespace Go.Fl
open Go
variable{N:Nm}{A B:Ar}{σ:Mem}{K:Value→Mem→Prop}{C:Cf}{who:Int}
inductive Tg where
 | co (c:Co)
 | row (l:List Value)
 | ak (m:Ak)
def Tg.w(N:Nm)(p:Nat)(O:List Nat)(x:Tg)(τ:Mem):Prop:=match x with
 | .co c=>lM N p O c τ
 | .row l=>τ.get p=some ⟨l,true⟩∧p∈O∧∀ i∈O,i∉N.l
 | .ak m=>tJ N p O m τ
def Hv(τ:Mem)(O:List Nat):List Nat:=O.filter fun i=>(τ.get i).isSome
theorem eO{τ:Mem}{O:List Nat}{i:Nat}:i∈Hv τ O ↔ i∈O∧τ.get i≠none:=by
 unfold Hv;rw[List.mem_filter]
 constructor
 ·rintro⟨h1,h2⟩;exact⟨h1,fun e=>by rw[e]at h2;cases h2⟩
 ·rintro⟨h1,h2⟩
  refine⟨h1,?_⟩
  cases e:τ.get i with
  | none=>exact absurd e h2
  | some b=>rfl
theorem m4{τ:Mem}{O:List Nat}{i:Nat}{b:uc}(h:i∈O)(g:τ.get i=some b):i∈Hv τ O:=eO.2 ⟨h,by rw[g];simp⟩
theorem B5.Hv{p:Nat}{O:List Nat}{m:Mv}{τ:Mem}(h:B5 N p O m τ):B5 N p (Hv τ O) m τ:=by
 obtain⟨⟨a,g1,g2⟩,own,pO⟩:=h
 refine⟨⟨a,g1,fun e=>?_⟩,fun i hi=>own i (eO.1 hi).1,m4 pO g1⟩
 obtain⟨q,q1,q2,q3,q4⟩:=g2 e
 exact⟨q,q1,m4 q2 q4,q3,q4⟩
theorem lM.Hv{p:Nat}{O:List Nat}{c:Co}{τ:Mem}(h:lM N p O c τ):lM N p (Hv τ O) c τ:=by
 obtain⟨⟨x1,x6,x7,x8,h1,h2,h3,h4,h5,h6,h7⟩,own,pO⟩:=h
 refine⟨⟨x1,x6,x7,x8,h1,fun a b=>?_,fun e=>?_,h4,fun a e=>?_,h6,fun a e=>?_⟩,fun i hi=>own i (eO.1 hi).1,m4 pO h1⟩
 ·obtain⟨q,q1,q2,q3,q4⟩:=h2 a b;exact⟨q,q1,m4 q2 q4,q3,q4⟩
 ·obtain⟨q,Q,q1,q2,q3,q4⟩:=h3 e
  refine⟨q,Go.Fl.Hv τ Q,q1,q2.Hv,fun hi=>q3 (eO.1 hi).1,fun i hi=>?_⟩
  obtain⟨a,b⟩:=eO.1 hi
  exact eO.2 ⟨q4 i a,b⟩
 ·obtain⟨q,q1,q2,q3,q4⟩:=h5 a e;exact⟨q,q1,m4 q2 q4,q3,q4⟩
 ·obtain⟨q,q1,q2,q3,q4⟩:=h7 a e;exact⟨q,q1,m4 q2 q4,q3,q4⟩
theorem tJ.Hv{p:Nat}{O:List Nat}{m:Ak}{τ:Mem}(h:tJ N p O m τ):tJ N p (Hv τ O) m τ:=by
 obtain⟨⟨a,g1,g2⟩,own,pO⟩:=h
 refine⟨⟨a,g1,fun e=>?_⟩,fun i hi=>own i (eO.1 hi).1,m4 pO g1⟩
 obtain⟨q,q1,q2,q3,q4⟩:=g2 e
 exact⟨q,q1,m4 q2 q4,q3,q4⟩
theorem Tg.hb:HB N (Tg.w N):=by
 refine⟨fun{p O L m σ τ} h x hL=>?_,fun{p O m σ} h=>?_,fun{p O m σ} h=>?_,fun{p O m σ} h=>?_⟩
 ·cases m with
  | co c=>exact lM.aL h x hL
  | row l=>exact⟨x.get h.1 (hL p h.2.1),h.2⟩
  | ak m=>exact tJ.aL h x hL
 ·cases m with
  | co c=>exact lM.own h
  | row l=>exact h.2.2
  | ak m=>exact tJ.own h
 ·cases m with
  | co c=>exact⟨_,lM.Hv h,fun i hi=>(eO.1 hi).1,fun i hi=>(eO.1 hi).2⟩
  | row l=>exact⟨_,⟨h.1,m4 h.2.1 h.1,fun i hi=>h.2.2 i (eO.1 hi).1⟩,fun i hi=>(eO.1 hi).1,fun i hi=>(eO.1 hi).2⟩
  | ak m=>exact⟨_,tJ.Hv h,fun i hi=>(eO.1 hi).1,fun i hi=>(eO.1 hi).2⟩
 ·cases m with
  | co c=>exact lM.p h
  | row l=>exact h.2.1
  | ak m=>exact tJ.p h
section
variable{q p:Nat}
theorem yu{x y z:Value}:sub [x,y,z] 0 3 true=some (.agg #[x,y,z]):=nr rfl
theorem Wd(hN:N.ok)(hC:C.ok)(hA:aZ N A σ){ip ep:Int}(hq:σ.get q=some ⟨uy ip ep,true⟩)(hd:q∉N.l)(hn:C.len≤A.n)(hx:0≤ip∧ip≤2)
  (hk:∀ τ,aZ N (eD C 0 A (ip,ep)).2.2 τ→τ.get q=some ⟨uy (eD C 0 A (ip,ep)).2.1.1 (eD C 0 A (ip,ep)).2.1.2,true⟩→aQ (q::N.l) σ τ →
   K (.tuple #[.agg #[.pointer (if(eD C 0 A (ip,ep)).1=true then none else some ⟨q,0,none⟩),.pointer (some ⟨p,0,none⟩),.bool false],.bool false]) τ) :
  pW [.agg #[.pointer (some ⟨q,0,none⟩),.pointer (some ⟨p,0,none⟩),.bool false],N.env C 0] K σ:=by
 have hT:=hC.T
 simp only[pW,H5,aF,bc,bN,Nat.reduceAdd,Nat.reduceLeDiff]
 refine Sc hN hC hA (x:=(ip,ep)) hq hd hn hx ⟨Int.le_refl 0,by omega⟩ fun τ h1 h2 h3=>?_
 have key:=hk τ h1 h2 h3
 cases hb:(eD C 0 A (ip,ep)).1 with
 | true=>
  rw[hb,af rfl]at key
  simp only[qW,nM,yu,aF,bc,Nat.reduceAdd]
  exact key
 | false=>
  rw[hb,ae (by simp)]at key
  simp only[qW,nM,yu,aF,bc,Nat.reduceAdd]
  exact key
theorem Wc(hN:N.ok)(hC:C.ok)(hA:aZ N A σ){O:List Nat}{m:Ak}(hO:tJ N p O m σ)(hw:∀ i,0≤A.w i∧A.w i<18446744073709551616)(hn:C.len≤A.n)(hf:m.fit C A)
  (hk:∀ O' τ,(∀ i∈O',i∈O∨σ.get i=none)→aZ N (m.step C 0 A).2.2 τ→tJ N p O' (m.step C 0 A).2.1 τ→aQ (O++N.l) σ τ →
   K (.tuple #[.agg #[.pointer none,.pointer (some ⟨p,0,none⟩),.bool (m.step C 0 A).1],.bool false]) τ) :
  pW [.agg #[.pointer none,.pointer (some ⟨p,0,none⟩),.bool false],N.env C 0] K σ:=by
 simp only[pW,H5,aF,bc,bN,Nat.reduceAdd,Nat.reduceLeDiff]
 refine yc hN hC hA hO hw hn hf fun O' τ h1 h2 h3 h4=>?_
 simp only[qW,nM,yu,aF,bc,Nat.reduceAdd]
 exact hk O' τ h1 h2 h3 h4
theorem Wb(hN:N.ok)(hC:C.ok)(hA:aZ N A σ)(hn:C.len≤A.n)
  (hk:∀ τ,aZ N ((A.by 0).store 6 0) τ→aQ N.l σ τ→K (.tuple #[.agg #[.pointer none,.pointer (some ⟨p,0,none⟩),.bool true],.bool true]) τ) :
  pW [.agg #[.pointer none,.pointer (some ⟨p,0,none⟩),.bool true],N.env C 0] K σ:=by
 have hT:=hC.T
 have b0:∀ K:Value→Prop,xF (aM [] [] []) [] K=K (.agg #[]):=fun K=>nr rfl
 simp only[pW,H5,yu,b0,aF,bc,bN,Nat.reduceAdd,Nat.reduceLeDiff]
 exact LB hN hC hA hn ⟨Int.le_refl 0,by omega⟩ fun τ h1 h2=>hk τ h1 h2
end
end Go.Fl
namespace Go.Fl
open Go
variable{N:Nm}{A B:Ar}{σ:Mem}{K:Value→Mem→Prop}{C:Cf}{who:Int}
structure Ro(C:Cf)(P:MP)(n:Nat)(gm:Int→Int):Prop where
 h:∀ k:Int,0≤k→k<n→(0≤gm k∧gm k<18446744073709551616)∧jB (gm k)=true∧aJ (gm k)<C.S∧P.lv (aJ (gm k))=true∧P.g (aJ (gm k))=b_ (gm k)∧P.o (aJ (gm k))=false∧1≤P.z (aJ (gm k))
 ne:∀ k l:Int,0≤k→k<n→0≤l→l<n→k≠l→aJ (gm k)≠aJ (gm l)
theorem Ro.smo{P P':MP}{n:Nat}{gm:Int→Int}{r:Int}(h:Ro C P n gm)(s:zJ P P' r):Ro C P' n gm:=⟨by rw[s.lv,s.g,s.o,s.z];exact h.h,h.ne⟩
def Lb(bz:Bool)(k:Int):Prop:=k=0∨k=1∨k=2∨bz=true∧(k=3∨k=4)
structure Cn(N:Nm)(C:Cf)(σ:Mem)(pc pm ps n:Nat)(gm gz:Int→Int)(T j:Int)(hb:Bool)(A:Ar)(c:Co)(P:MP)(t q:Int)(Pb:Int→Nat)(Ob:Int→List Nat)(M:Int→Tg)(τ:Mem):Prop where
 wi:WI C P t q c A
 tb:1≤t∧t≤T
 ok:A.ok (100000+T)
 nA:A.n=C.len.toNat
 aZ:aZ N A τ
 hw:Hw N (Tg.w N) σ (Lb hb) Pb Ob M τ
 p0:Pb 0=pc∧M 0=.co c
 p1:Pb 1=pm∧M 1=.row (cells .u64 n gm)
 p2:Pb 2=ps∧M 2=.row (cells .i64 n gz)
 ro:Ro C P n gm
 gb:∀ k:Int,0≤k→k<n→0≤gz k∧gz k≤65535
 gl:∀ k:Int,0≤k→k<n→k≠j→gz k=P.L (aJ (gm k)) 0
structure Bz(C:Cf)(gm gz:Int→Int)(j v:Int)(A:Ar)(P:MP)(t:Int)(Pb:Int→Nat)(M:Int→Tg)(y:Wr)(cK:List Value):Prop where
 ws:WS C P t (gm j) v (gz j) A.w y
 cK:cK=[.pointer (if y.st=0 then some ⟨Pb 3,0,none⟩else none),.pointer (some ⟨Pb 4,0,none⟩),.bool (decide (y.st=2))]
 p3:M 3=.row (uy y.ip y.ep)
 p4:M 4=.ak y.m
section
variable{pc pm ps n:Nat}{gm gz:Int→Int}{T j t q:Int}{hb:Bool}{c:Co}{P:MP}{Pb:Int→Nat}{Ob:Int→List Nat}{M:Int→Tg}{τ:Mem}
theorem Cn.less(h:Cn N C σ pc pm ps n gm gz T j hb A c P t q Pb Ob M τ):Cn N C σ pc pm ps n gm gz T j false A c P t q Pb Ob M τ:=
 ⟨h.wi,h.tb,h.ok,h.nA,h.aZ,h.hw.less (fun k hk=>(by rcases hk with e|e|e|⟨e,_⟩;exact .inl e;exact .inr (.inl e);exact .inr (.inr (.inl e));cases e)),h.p0,h.p1,h.p2,h.ro,h.gb,h.gl⟩
theorem Cn.more{T':Int}(h:Cn N C σ pc pm ps n gm gz T j hb A c P t q Pb Ob M τ)(hT:T≤T'):Cn N C σ pc pm ps n gm gz T' j hb A c P t q Pb Ob M τ:=
 ⟨h.wi,by have:=h.tb;omega,lh h.ok (by omega),h.nA,h.aZ,h.hw,h.p0,h.p1,h.p2,h.ro,h.gb,h.gl⟩
theorem Cn.lds(h:Cn N C σ pc pm ps n gm gz T j hb A c P t q Pb Ob M τ){k:Int}(k0:0≤k)(k1:k<n):aj 1 false [.pointer (some ⟨ps,k.toNat*1,none⟩)] K τ=K (.int .i64 (gz k)) τ:=by
 have:=h.hw.ob 2 (.inr (.inr (.inl rfl)))
 rw[h.p2.1,h.p2.2]at this
 exact jr this.1 k0 k1
theorem Cn.told(hf:N.fr σ)(h:Cn N C σ pc pm ps n gm gz T j hb A c P t q Pb Ob M τ)(j0:0≤j)(j1:j<n){v:Int}(hv:0≤v∧v≤65535)(hL:P.L (aJ (gm j)) 0=v)
  (hk:∀ ua M' τ',Cn N C σ pc pm ps n gm (aX gz j v) T (-1) false A c P t q Pb ua M' τ'→K undef τ'):ax 1 [.pointer (some ⟨ps,j.toNat*1,none⟩),.int .i64 v] K τ:=by
 have h2:=h.hw.ob 2 (.inr (.inr (.inl rfl)))
 rw[h.p2.1,h.p2.2]at h2
 obtain⟨gp,pO,own⟩:=h2
 rw[FO gp j0 j1]
 have kq:aQ [ps] τ (τ.set ps ⟨cells .i64 n (aX gz j v),true⟩):=fun i b hi yP=>by rw[Mem.bZ _ _ (by simpa using yP)];exact hi
 obtain⟨O2,hw,_⟩:=h.hw.step Tg.hb hf (k:=2) (m':=.row (cells .i64 n (aX gz j v))) (O':=[ps]) (.inr (.inr (.inl rfl))) (fun i hi=>by rw[List.mem_singleton]at hi;rw[hi];exact .inl pO) ⟨by rw[h.p2.1];exact Mem.bf _ _ _,by rw[h.p2.1];exact List.mem_singleton.2 rfl,fun i hi=>by rw[List.mem_singleton]at hi;rw[hi];exact own ps pO⟩
  (kq.mono fun i hi=>by rw[List.mem_singleton]at hi;rw[hi];exact List.mem_append_left _ pO)
 have nl:ps∉N.l:=own ps pO
 have aaE:Go.Fl.aZ N A (τ.set ps ⟨cells .i64 n (aX gz j v),true⟩):=by
  refine h.aZ.aL kq ?_
  simp only[Nm.l,List.mem_cons,List.not_mem_nil,or_false,not_or]at nl ⊢
  exact⟨Ne.symm nl.1,Ne.symm nl.2.1,Ne.symm nl.2.2⟩
 have key:Cn N C σ pc pm ps n gm (aX gz j v) T (-1) hb A c P t q Pb O2 (ny M 2 (.row (cells .i64 n (aX gz j v)))) (τ.set ps ⟨cells .i64 n (aX gz j v),true⟩):=by
  refine⟨h.wi,h.tb,h.ok,h.nA,aaE,hw,⟨h.p0.1,by rw[bk (by decide)];exact h.p0.2⟩,⟨h.p1.1,by rw[bk (by decide)];exact h.p1.2⟩,⟨h.p2.1,bu⟩,h.ro,fun k k0 k1=>?_,fun k k0 k1 ne=>?_⟩
  ·by_cases e:k=j
   ·rw[e,aE];exact hv
   ·rw[az _ _ e];exact h.gb k k0 k1
  ·by_cases e:k=j
   ·rw[e,aE];exact hL.symm
   ·rw[az _ _ e];exact h.gl k k0 k1 e
 exact hk _ _ _ key.less
theorem Cn.co(hN:N.ok)(hC:C.ok)(hf:N.fr σ)(h:Cn N C σ pc pm ps n gm gz T j hb A c P t q Pb Ob M τ)(hT:T≤100000)
  (hk:∀ A' c' t' q' ua τ',(t≤t'∧A'.w 6=A.w 6)→Cn N C σ pc pm ps n gm gz (T+1) j hb A' c' P t' q' Pb ua (ny M 0 (.co c')) τ'→K (.tuple #[]) τ'):dU [.pointer (some ⟨pc,0,none⟩),N.env C (-1)] K τ:=by
 have htb:=h.tb
 have hO:=h.hw.ob 0 (.inl rfl)
 rw[h.p0.1,h.p0.2]at hO
 have pC:=h.wi.nn
 refine zD hN hC h.aZ hO pC.1 pC.2 h.wi.bd (h.wi.fit hC (by omega)) fun r O' τ' hm DT dL C7 hK=>?_
 obtain⟨O2,hw,_⟩:=h.hw.step Tg.hb hf (k:=0) (m':=.co (c.step C (-1) A r).1) (O':=O') (.inl rfl) DT (by rw[h.p0.1];exact C7) hK
 have h6:=h.wi.Yc (who := -1) hC (by omega) r
 have rest:∀ t' q',(1≤t'∧t'≤T+1)→WI C P t' q' (c.step C (-1) A r).1 (c.step C (-1) A r).2→Cn N C σ pc pm ps n gm gz (T+1) j hb (c.step C (-1) A r).2 (c.step C (-1) A r).1 P t' q' Pb O2 (ny M 0 (.co (c.step C (-1) A r).1)) τ':=fun t' q' ht F0=>by
  have yP:=(Co.fm (who := -1) (C:=C) (A:=A) c r).ok h.ok (by omega) F0.bd
  exact⟨F0,ht,by rw[show 100000+(T+1)=100000+T+1 by omega];exact yP.2,yP.1.trans h.nA,dL,hw,⟨h.p0.1,bu⟩,⟨h.p1.1,by rw[bk (by decide)];exact h.p1.2⟩,⟨h.p2.1,by rw[bk (by decide)];exact h.p2.2⟩,h.ro,h.gb,h.gl⟩
 rcases h.wi.step (who := -1) hC (by omega) r hm with⟨_,F0⟩|⟨_,F0⟩
 ·exact hk _ _ _ _ _ τ' ⟨by omega,h6⟩ (rest _ _ (by omega) F0)
 ·exact hk _ _ _ _ _ τ' ⟨by omega,h6⟩ (rest _ _ (by omega) F0)
theorem Wr.FP{y:Wr}(h:y.st=0):y.step C A=(false,{ y with ip:=(eD C 0 A (y.ip,y.ep)).2.1.1,ep:=(eD C 0 A (y.ip,y.ep)).2.1.2,st:=if(eD C 0 A (y.ip,y.ep)).1=true then 1 else 0 },(eD C 0 A (y.ip,y.ep)).2.2):=by
 obtain⟨ip,ep,m,st⟩:=y
 have h':st=0:=h
 subst h'
 unfold Wr.step eD
 by_cases c0:ip=0
 ·subst c0;rfl
 ·by_cases c1:ip=1
  ·subst c1;rfl
  ·by_cases e:A.w 0=ep
   ·simp only[c0,c1,e,if_true,if_false];rfl
   ·simp only[c0,c1,e,if_true,if_false];rfl
theorem Cn.wr(hN:N.ok)(hC:C.ok)(hf:N.fr σ){v:Int}{y:Wr}{cK:List Value}(h:Cn N C σ pc pm ps n gm gz T j true A c P t q Pb Ob M τ)(z:Bz C gm gz j v A P t Pb M y cK)(j0:0≤j)(j1:j<n)(hT:T≤100000)
  (hk:∀ A' P' t' q' ua M' y' LU τ',Cn N C σ pc pm ps n gm gz (T+1) j true A' c P' t' q' Pb ua M' τ'→Bz C gm gz j v A' P' t' Pb M' y' LU→mu C (gm j) A'.w y'<mu C (gm j) A.w y→K (.tuple #[.agg LU.toArray,.bool false]) τ')
  (he:∀ A' P' t' q' ua M' m τ',Cn N C σ pc pm ps n gm gz (T+1) j true A' c P' t' q' Pb ua M' τ'→M' 4=.ak m→m.a.oE=0→m.a.oV=gz j→P'.L (aJ (gm j)) 0=v→P'.hp<0→P'.hs<0→K (.tuple #[.agg #[.pointer none,.pointer (some ⟨Pb 4,0,none⟩),.bool true],.bool true]) τ') :
  pW [.agg cK.toArray,N.env C 0] K τ:=by
 have htb:=h.tb
 have pC:=h.wi.nn
 obtain⟨P',t',q',ht,sm,F0,ok',n',hr⟩:=z.ws.step (bb:=100000+T) hC h.wi (by omega) h.ok (by omega)
 have gl':∀ k:Int,0≤k→k<n→k≠j→gz k=P'.L (aJ (gm k)) 0:=fun k k0 k1 ne=>by
  rw[sm.L _ _ (.inl (h.ro.ne k j k0 k1 j0 j1 ne))];exact h.gl k k0 k1 ne
 have mk:∀{ua M' τ'},Go.Fl.aZ N (y.step C A).2.2 τ'→Hw N (Tg.w N) σ (Lb true) Pb ua M' τ'→M' 0=M 0→M' 1=M 1→M' 2=M 2→Cn N C σ pc pm ps n gm gz (T+1) j true (y.step C A).2.2 c P' t' q' Pb ua M' τ':=fun{ua M' τ'} i1 i2 i3 i4 i5=>
  ⟨F0,by omega,by rw[show 100000+(T+1)=100000+T+1 by omega];exact ok',n'.trans h.nA,i1,i2,⟨h.p0.1,i3.trans h.p0.2⟩,⟨h.p1.1,i4.trans h.p1.2⟩,⟨h.p2.1,i5.trans h.p2.2⟩,h.ro.smo sm,h.gb,gl'⟩
 rw[z.cK]
 have kT:y.st=0∨y.st=1∨y.st=2:=by
  rcases z.ws.at' with⟨e,_⟩|⟨e,_⟩|⟨e,_⟩
  ·exact .inl e
  ·exact .inr (.inl e)
  ·exact .inr (.inr e)
 rcases kT with e|e|e
 ·have h3:=h.hw.ob 3 (.inr (.inr (.inr ⟨rfl,.inl rfl⟩)))
  rw[z.p3]at h3
  obtain⟨gp,pO,own⟩:=h3
  have es:=Wr.FP (C:=C) (A:=A) e
  have hip:0≤y.ip∧y.ip≤2:=by
   rcases z.ws.at' with⟨_,_,_,_,_,a⟩|⟨a,_⟩|⟨a,_⟩
   ·rcases a with a|⟨_,a|⟨a,_⟩⟩<;>omega
   ·omega
   ·omega
  rw[af e,show decide (y.st=2)=false by rw[e];rfl]
  refine Wd hN hC h.aZ gp (own _ pO) pC.1 hip fun τ' u1 u2 u3=>?_
  have key:=hk (y.step C A).2.2 P' t' q'
  obtain⟨O2,I1,_⟩:=h.hw.step Tg.hb hf (k:=3) (m':=.row (uy (eD C 0 A (y.ip,y.ep)).2.1.1 (eD C 0 A (y.ip,y.ep)).2.1.2)) (O':=[Pb 3]) (.inr (.inr (.inr ⟨rfl,.inl rfl⟩))) (fun i hi=>by rw[List.mem_singleton]at hi;rw[hi];exact .inl pO) ⟨u2,List.mem_singleton.2 rfl,fun i hi=>by rw[List.mem_singleton]at hi;rw[hi];exact own _ pO⟩
   (u3.mono fun i hi=>by
    rcases List.mem_cons.1 hi with rfl|hi
    ·exact List.mem_append_left _ pO
    ·exact List.mem_append_right _ hi)
  rcases hr with⟨_,XZ,Xz⟩|⟨eb,_⟩
  ·have vm:=key O2 _ (y.step C A).2.1 [.pointer (if(y.step C A).2.1.st=0 then some ⟨Pb 3,0,none⟩else none),.pointer (some ⟨Pb 4,0,none⟩),.bool (decide ((y.step C A).2.1.st=2))] τ' (mk (by rw[es];exact u1) I1 (bk (by decide)) (bk (by decide)) (bk (by decide))) ⟨XZ,rfl,by rw[bu,es],by rw[bk (by decide),z.p4,es]⟩ Xz
   rw[es]at vm
   cases RB:(eD C 0 A (y.ip,y.ep)).1 with
   | true=>
    rw[RB]at vm
    exact vm
   | false=>
    rw[RB]at vm
    exact vm
  ·rw[es]at eb;cases eb
 ·have h4:=h.hw.ob 4 (.inr (.inr (.inr ⟨rfl,.inr rfl⟩)))
  rw[z.p4]at h4
  have es:y.step C A=(false,{ y with m:=(y.m.step C 0 A).2.1,st:=if(y.m.step C 0 A).1=true then 2 else 1 },(y.m.step C 0 A).2.2):=by unfold Wr.step;rw[ae (by omega),ae (by omega)]
  have hE:=z.ws.fit hC h.wi (by omega) h.ok (by omega) e
  have lg:Lg C (gm j) false 2 0 v 0 y.m:=by
   rcases z.ws.at' with⟨a,_⟩|⟨_,_,_,a,_⟩|⟨a,_⟩
   ·omega
   ·exact a
   ·omega
  have kF:=(lg.step (who:=0) hC hE h.ok (by omega)).1
  rw[ae (by omega),show decide (y.st=2)=false by rw[e];rfl]
  refine Wc hN hC h.aZ h4 h.wi.bd pC.1 kF fun O' τ' u0 u1 u2 u3=>?_
  obtain⟨O2,I1,_⟩:=h.hw.step Tg.hb hf (k:=4) (m':=.ak (y.m.step C 0 A).2.1) (O':=O') (.inr (.inr (.inr ⟨rfl,.inr rfl⟩))) u0 u2 u3
  rcases hr with⟨_,XZ,Xz⟩|⟨eb,_⟩
  ·have vm:=hk (y.step C A).2.2 P' t' q' O2 _ (y.step C A).2.1 [.pointer (if(y.step C A).2.1.st=0 then some ⟨Pb 3,0,none⟩else none),.pointer (some ⟨Pb 4,0,none⟩),.bool (decide ((y.step C A).2.1.st=2))] τ' (mk (by rw[es];exact u1) I1 (bk (by decide)) (bk (by decide)) (bk (by decide))) ⟨XZ,rfl,by rw[bk (by decide),z.p3,es],by rw[bu,es]⟩ Xz
   rw[es]at vm
   cases RB:(y.m.step C 0 A).1 with
   | true=>
    rw[RB]at vm
    exact vm
   | false=>
    rw[RB]at vm
    exact vm
  ·rw[es]at eb;cases eb
 ·have es:y.step C A=(true,y,(A.by 0).store 6 0):=by unfold Wr.step;rw[af e]
  rw[ae (by omega),show decide (y.st=2)=true by rw[e];rfl]
  refine Wb hN hC h.aZ pC.1 fun τ' u1 u2=>?_
  have I1:=h.hw.W9 Tg.hb hf u2
  rcases hr with⟨eb,_⟩|⟨_,r1,r2,r3,r4,r5⟩
  ·rw[es]at eb;cases eb
  ·have:=he (y.step C A).2.2 P' t' q' Ob M y.m τ' (mk (by rw[es];exact u1) I1 rfl rfl rfl) z.p4 (by rw[es]at r4;exact r4) (by rw[es]at r5;exact r5) r3 r1 r2
   exact this
end
theorem Hw.two{Pb:Int→Nat}{Ob:Int→List Nat}{M:Int→Tg}{τ τ1 τ2:Mem}{a b:Int}{x y:Tg}{p q:Nat}(h:Hw N (Tg.w N) σ (Lb false) Pb Ob M τ)(Kp:a=3∧b=4∨a=4∧b=3)(hp:τ.get p=none)(h1:Tg.w N p [p] x τ1)(x1:Ext τ τ1)(hq:τ1.get q=none)(h2:Tg.w N q [q] y τ2)(x2:Ext τ1 τ2) :
  Hw N (Tg.w N) σ (Lb true) (ny (ny Pb a p) b q) (ny (ny Ob a [p]) b [q]) (ny (ny M a x) b y) τ2:=by
 have n1:¬ Lb false a:=fun e=>by rcases e with e|e|e|⟨e,_⟩;omega;omega;omega;cases e
 have s1:=h.new Tg.hb n1 hp h1 x1
 have n2:¬(Lb false b∨b=a):=fun e=>by
  rcases e with e|e
  ·rcases e with e|e|e|⟨e,_⟩;omega;omega;omega;cases e
  ·omega
 refine(s1.new Tg.hb n2 hq h2 x2).less fun k hk=>?_
 rcases hk with e|e|e|⟨_,e⟩
 ·exact .inl (.inl (.inl e))
 ·exact .inl (.inl (.inr (.inl e)))
 ·exact .inl (.inl (.inr (.inr (.inl e))))
 ·rcases Kp with⟨h1,h2⟩|⟨h1,h2⟩<;>rcases e with e|e
  ·exact .inl (.inr (by omega))
  ·exact .inr (by omega)
  ·exact .inr (by omega)
  ·exact .inl (.inr (by omega))
theorem Cn.begin{pc pm ps n:Nat}{gm gz:Int→Int}{T j t q v:Int}{c:Co}{P:MP}{Pb HA:Int→Nat}{Ob ua:Int→List Nat}{M M':Int→Tg}{τ τ':Mem}{y z:Nat}(h:Cn N C σ pc pm ps n gm gz T (-1) false A c P t q Pb Ob M τ)(hp:P.hp<0)(hs:P.hs<0)(j0:0≤j)(j1:j<n)(hv:0≤v∧v≤65535)(hA:Go.Fl.aZ N A τ')
  (hw:Hw N (Tg.w N) σ (Lb true) HA ua M' τ') (e3:HA 3=y∧M' 3=.row (uy 0 0)) (e4:HA 4=z∧M' 4=.ak (Ak.new 2 (gm j) 0 v 0 false)) (eP:∀ k,k≤2→HA k=Pb k∧M' k=M k) :
  Cn N C σ pc pm ps n gm gz T j true A c P t q HA ua M' τ'∧Bz C gm gz j v A P t HA M' (Wr.new (gm j) v) [.pointer (some ⟨y,0,none⟩),.pointer (some ⟨z,0,none⟩),.bool false]:=by
 obtain⟨r1,r2,r3,r4,r5,r6,r7⟩:=h.ro.h j j0 j1
 have hT:=h.wi.st
 refine⟨⟨h.wi,h.tb,h.ok,h.nA,hA,hw,⟨(eP 0 (by decide)).1.trans h.p0.1,(eP 0 (by decide)).2.trans h.p0.2⟩,⟨(eP 1 (by decide)).1.trans h.p1.1,(eP 1 (by decide)).2.trans h.p1.2⟩,⟨(eP 2 (by decide)).1.trans h.p2.1,(eP 2 (by decide)).2.trans h.p2.2⟩,h.ro,h.gb,fun k k0 k1 ne=>h.gl k k0 k1 (by omega)⟩,⟨⟨r1,r2,r3,r4,r5,r6,hv,.inl ⟨rfl,hp,hs,(h.gl j j0 j1 (by omega)).symm,rfl,.inl rfl⟩⟩,?_,e3.2,e4.2⟩⟩
 rw[e3.1,e4.1];rfl
end Go.Fl
namespace Go.Fl
open Go
variable{N:Nm}{A B:Ar}{σ:Mem}{K:Value→Mem→Prop}{C:Cf}{who:Int}
structure Rh(N:Nm)(σ:Mem)(p n:Nat)(g:Int→Int)(τ:Mem):Prop where
 gp:τ.get p=some ⟨cells .u64 n g,true⟩
 dp:p∉N.l∧σ.get p=none
theorem Rh.aL{p n:Nat}{g:Int→Int}{τ υ:Mem}(h:Rh N σ p n g τ)(k:aQ N.l τ υ):Rh N σ p n g υ:=⟨k.get h.gp h.dp.1,h.dp⟩
theorem Rh.ext{p n:Nat}{g:Int→Int}{τ υ:Mem}(h:Rh N σ p n g τ)(k:Ext τ υ):Rh N σ p n g υ:=⟨k _ _ h.gp,h.dp⟩
theorem Rh.add{p n l:Nat}{g g':Int→Int}{τ:Mem}{A:Ar}(h:Rh N σ p n g τ)(hA:aZ N A τ)(hE:Ext σ τ)(hn:n<1000000)(hg:∀ i:Int,0≤i→i<n→g' i=g i)
  (hk:∀ id υ,Rh N σ id (n+1) g' υ→aZ N A υ→Ext σ υ→(∀ q,q≠p→τ.get q≠none→υ.get q=τ.get q)→K (.slice (some ⟨id,0,none⟩) (n+1) 1) υ):cv 1 8 [.int .u64 (g' n)] [.slice (some ⟨p,0,none⟩) n 1,rR l 1 1] K τ:=by
 refine xL (pre:=[]) (L:=cells .u64 n g) (by rw[List.nil_append];exact h.gp) rfl (zA _ _ _) (by decide) rfl (by omega) fun id υ dQ gid kp=>?_
 rw[xW hg]at gid
 refine hk id υ ⟨gid,hA.new dQ,hE.none dQ⟩ (hA.aL kp ?_) (hE.pA kp fun j hj=>by rw[List.mem_singleton]at hj;subst hj;exact h.dp.2) fun q hq hn=>?_
 ·have:=h.dp.1
  simp only[Nm.l,List.mem_cons,List.not_mem_nil,or_false,not_or]at this ⊢
  exact⟨Ne.symm this.1,Ne.symm this.2.1,Ne.symm this.2.2⟩
 ·cases e:τ.get q with
  | none=>exact absurd e hn
  | some x=>exact kp _ _ e (by simpa using hq)
theorem Rh.ld{p n:Nat}{g:Int→Int}{τ:Mem}{i:Int}(h:Rh N σ p n g τ)(i0:0≤i)(i1:i<n):aj 1 false [.pointer (some ⟨p,i.toNat*1,none⟩)] K τ=K (.int .u64 (g i)) τ:=jr h.gp i0 i1
theorem f1{x y z w:Value}{K:Value→Prop}:xF (b7 1 1 false) [.agg #[x,y,z,w]] K=K y:=nr rfl
theorem bu1{x:Int}:iu 1 1 [.int .u64 0] [0] [.int .u64 x] []=some [.int .u64 x]:=nr rfl
theorem Cu{i:Int}{n:Nat}:B7 i (n+1)=i::B7 (i+1) n:=rfl
structure Xj(C:Cf)(k:Nat)(dd:Int→Do)(li:Int→Bool)(w:Int→Int)(b:Bg):Prop where
 dw:Dw C k k dd li w b
 F:b.F=B7 k (20-k)
 st:k=0∧b.nx=0∧b.o 0 = -1∨(1≤k∧k≤6)∧b.nx=1∧b.o 0=0∧b.u 0=3*k∨k=7∧b.nx=2∧b.o 0=1
 o:∀ c,1≤c→c≤3→b.o c = -1
 lo:∀ i,lD C i→w i=0
 each:∀ l:Int,0≤l→l<k→(dd l).own=false∧li l=true∧(dd l).j=(if l<6 then 0 else 1)
theorem Xj.next(hC:C.ok)(h4:C.C=4)(hW:C.W=20){k:Nat}{dd:Int→Do}{li:Int→Bool}{w w':Int→Int}{b b':Bg}{s j:Int}{F:List Int}{d:Do}(h:Xj C k dd li w b)(hk:k<7)(hF:b.F=s::F)(hg:B6 C b F 0 j b')(h1:d.own=false)(h2:d.j=j)
  (hd:Dw C (k+1) (k+1) (m5 dd k d) (fa li k true) w' (b'.count j (aA 0))) (hl:∀ i,lD C i→w' i=0):Xj C (k+1) (m5 dd k d) (fa li k true) w' (b'.count j (aA 0)):=by
 obtain⟨F3,hF0,st,ho,pD,he⟩:=h
 have eF:F=B7 ((k+1:Nat):Int) (20-(k+1)):=by
  rw[hF0,show 20-k=(20-(k+1))+1 by omega,Cu]at hF
  have:B7 ((k:Int)+1) (20-(k+1))=F:=(List.cons.inj hF).2
  rw[←this];rfl
 have hu0:b.nx=0→b.u 0=0:=fun q=>(F3.aw.jJ.new 0 (by omega) (by omega)).2
 have cs:(b'.F=F)∧((1≤k+1∧k+1≤6)∧b'.nx=1∧b'.o 0=0∧b'.u 0=3*(k+1:Nat)∧j=0∨k=6∧b'.nx=2∧b'.o 0=1∧j=1)∧∀ c,1≤c→c≤3→b'.o c=b.o c:=by
  rcases hg with⟨⟨g0,g1⟩,e,rfl⟩|⟨ng,nx,e,rfl⟩
  ·rw[EA]at g1
   rcases st with⟨_,_,q⟩|⟨q1,q2,q3,q4⟩|⟨q,_⟩
   ·omega
   ·rw[q3]at g1 e
    refine⟨rfl,.inl ⟨by omega,q2,q3,?_,e⟩,fun _ _ _=>rfl⟩
    show aX b.u j (b.u j+aA 0) 0=_
    rw[e,aE,EA];omega
   ·omega
  ·have ng':¬(0≤b.o 0∧b.u (b.o 0)+3≤C.W):=ng
   rcases st with⟨q0,q1,q2⟩|⟨q1,q2,q3,q4⟩|⟨q,_⟩
   ·refine⟨rfl,.inl ⟨by omega,by show b.nx+1=1;omega,by show aX b.o 0 b.nx 0=0;rw[aE];omega,?_,by omega⟩,fun c c0 _=>az _ _ (by omega)⟩
    show aX b.u j (b.u j+aA 0) 0=_
    rw[e,q1,aE,EA,hu0 q1];omega
   ·rw[q3,q4]at ng'
    exact⟨rfl,.inr ⟨by omega,by show b.nx+1=2;omega,by show aX b.o 0 b.nx 0=1;rw[aE];omega,by omega⟩,fun c c0 _=>az _ _ (by omega)⟩
   ·omega
 obtain⟨c1,c2,c3⟩:=cs
 refine⟨hd,by show b'.F=_;rw[c1,eF],?_,fun c c0 c1=>by show b'.o c = -1;rw[c3 c c0 c1];exact ho c c0 c1,hl,fun l l0 l1=>?_⟩
 ·rcases c2 with⟨q1,q2,q3,q4,_⟩|⟨q1,q2,q3,_⟩
  ·exact .inr (.inl ⟨q1,q2,q3,q4⟩)
  ·exact .inr (.inr ⟨by omega,q2,q3⟩)
 ·by_cases e:l=k
  ·subst e
   have a1:m5 dd k d k=d:=af rfl
   have a2:fa li k true k=true:=af rfl
   rw[a1,a2,h2]
   refine⟨h1,rfl,?_⟩
   rcases c2 with⟨q1,_,_,_,q5⟩|⟨q1,_,_,q5⟩
   ·rw[af (by omega)];exact q5
   ·rw[ae (by omega)];exact q5
  ·have a1:m5 dd k d l=dd l:=ae e
   have a2:fa li k true l=li l:=ae e
   rw[a1,a2];exact he l l0 (by omega)
structure XW(C:Cf)(k:Nat)(dd:Int→Do)(li:Int→Bool)(w:Int→Int)(b:Bg):Prop where
 dw:Dw C (7+k) 7 dd li w b
 st:b.nx=2∧b.o 0=1
 o:∀ c,1≤c→c≤3→b.o c = -1
 lo:∀ i,lD C i→w i=0
 each:∀ l:Int,0≤l→l<7→(dd l).own=false∧li l=decide ((k:Int)≤l)∧(dd l).j=(if l<6 then 0 else 1)
theorem XW.ti(hC:C.ok)(hT:C.T=1)(h4:C.C=4)(hW:C.W=20){dd:Int→Do}{li:Int→Bool}{b:Bg}(h:XW C 6 dd li A.w b)(jF:∀ i,0≤A.w i∧A.w i<18446744073709551616)(nn:C.len≤A.n∧(A.n:Int)≤200000000) :
  TI C ⟨1,1,0,A.w 0,false,A.w,fun j=>decide (0≤j∧j<b.nx) && !qy A.w 4 j⟩ Co.new A∧(∀ j,0≤j→j<4→bF (A.w (C.chunk j))=if j<2 then 1 else 0)∧∀ j,(decide (0≤j∧j<b.nx) && !qy A.w 4 j)=decide (j=0):=by
 obtain⟨F3,⟨s1,s2⟩,ho,pD,he⟩:=h
 have w2:A.w 2=2:=by have:=(F3.aw.jJ.op 0 (by decide) (by decide)).1;rw[s2]at this;exact this
 have QL:∀ c,1≤c→c≤3→A.w (2+c)=0:=fun c c0 c1=>by have:=(F3.aw.jJ.op c (by omega) c1).1;rw[ho c c0 c1]at this;omega
 have w3:=QL 1 (by decide) (by decide)
 have w4:=QL 2 (by decide) (by decide)
 have w5:=QL 3 (by decide) (by decide)
 rw[show(2:Int)+1=3 by decide]at w3
 rw[show(2:Int)+2=4 by decide]at w4
 rw[show(2:Int)+3=5 by decide]at w5
 have op:∀ j,0≤j→qy A.w 4 j=decide (j=1):=fun j j0=>by
  unfold qy
  rw[w2,w3,w4,w5]
  by_cases q:j=1
  ·subst q;decide
  ·rw[decide_eq_false q];exact decide_eq_false (by omega)
 have hD:∀ j,(decide (0≤j∧j<b.nx) && !qy A.w 4 j)=decide (j=0):=fun j=>by
  rw[s1]
  by_cases j0:0≤j
  ·rw[op j j0]
   by_cases q:j=0
   ·subst q;decide
   ·by_cases q1:j=1
    ·subst q1;decide
    ·simp[q,q1];omega
  ·rw[decide_eq_false (show ¬(0≤j∧j<2) by omega),Bool.false_and,decide_eq_false (show ¬ j=0 by omega)]
 have kT:∀ j,0≤j→j<4→bF (A.w (C.chunk j))=if j<2 then 1 else 0:=fun j j0 j1=>by
  by_cases q:j<2
  ·rw[af q];exact(F3.aw.jJ.old j j0 (by omega)).1
  ·rw[ae q,(F3.aw.jJ.new j (by omega) (by omega)).1];decide
 have e0:A.w 0=0:=pD 0 (.inl rfl)
 have hS:=F3.ts hC (by omega) (by omega) (fun k k0 k1 q=>by
  have:=he k k0 k1
  rw[this.2.1]
  by_cases z:k<6
  ·exact decide_eq_false (by omega)
  ·rw[this.2.2,ae z,op 1 (by decide)]at q;cases q) (K0:=1) (Ks:=1) (r0:=0) (pn:=false) (by decide) (by omega) (fun _ i i0 i1=>pD _ (.inr ⟨by omega,by omega⟩)) (fun e=>by cases e)
 refine⟨TI.init hC hS nn jF ?_ rfl,kT,hD⟩
 unfold kS
 rw[h4]
 have c:=kT
 show((jV (fun j=>(decide (0≤j∧j<b.nx) && !qy A.w 4 j)&&decide (bF (A.w (C.chunk j))=1)) 4:Nat):Int)=1
 rw[kh (g:=fun j=>decide (j=0)) fun j j0 j1=>?_]
 ·decide
 ·rw[hD]
  by_cases q:j=0
  ·subst q;rw[c 0 (by decide) (by decide)];decide
  ·rw[decide_eq_false q,Bool.false_and]
theorem R9{f:Int→Bool}:jV f 4=(if f 0=true then 1 else 0)+(if f 1=true then 1 else 0)+(if f 2=true then 1 else 0)+(if f 3=true then 1 else 0):=by
 show 0+_+_+_+_=_
 rw[Nat.zero_add];rfl
theorem Hk(hk:∀ τ,Ext σ τ→K (.bool true) τ):Ei [] K σ:=by
 simp only[Ei,P6,aF,bc]
 have hC:(cA 1 20 4 20).ok:=OW (by omega) (by omega) (by omega) (by omega)
 refine Gi (C:=cA 1 20 4 20) hC rfl rfl rfl fun N A τ hN hF hA hE vk=>?_
 have hT1:(cA 1 20 4 20).T=1:=rfl
 have hS:(cA 1 20 4 20).S=20:=rfl
 have h4:(cA 1 20 4 20).C=4:=rfl
 have hW:(cA 1 20 4 20).W=20:=rfl
 have hG:(cA 1 20 4 20).G=100:=rfl
 have hP:=(hF.pa hC).mono (show 2*(cA 1 20 4 20).S+2≤200 by decide)
 have dw0:=Dw.new hC hF
 have IU:∀ i,lD (cA 1 20 4 20) i→A.w i=0:=fun i hi=>by
  have xI:i=0∨6≤i∧i<6+1:=hi
  rw[hF.w]
  unfold Cf.w0 Cf.fr
  rw[ae (by omega),ae (by unfold Cf.slot;omega),ae (by unfold Cf.slot;omega)]
 have hln:=br hC
 have Vb:(A.n:Int)≤200000:=by rw[hF.n];omega
 generalize hCe:cA 1 20 4 20=C at *
 clear hF
 have f2:∀(x y z u w:Value) (K:Value→Prop),xF (b7 2 1 false) [.agg #[x,y,z,u,w]] K=K z:=fun _ _ _ _ _ K=>nr rfl
 simp only[F9,aF]
 refine tA [] rfl fun p0 τ0 m0 g0 x0=>?_
 have r0:Rh N σ p0 0 (fun _=>0) τ0:=⟨g0,hA.new m0,hE.none m0⟩
 have a0:Xj C 0 (fun _=>⟨0,0,0,false,0,0⟩) (fun _=>false) A.w (Bg.fr C):=⟨dw0,by show B7 0 C.S.toNat=B7 0 20;rw[hS];rfl,.inl ⟨rfl,rfl,rfl⟩,fun _ _ _=>rfl,IU,fun l l0 l1=>by omega⟩
 refine jY (fun x ts ls τ=>∃(k:Nat) (p:Nat) (g:Int→Int) (dd:Int→Do) (li:Int→Bool) (A:Ar) (b:Bg),x=7-k∧ts=[.slice (some ⟨p,0,none⟩) k 1,.int .i64 k]∧ls=[N.el C 0]∧k≤7∧Xj C k dd li A.w b∧Pa C A (1000+200*k)∧(A.n:Int)≤200000∧aZ N A τ∧Ext σ τ∧Rh N σ p k g τ∧∀ l:Int,0≤l→l<k→g l=(dd l).n) ?_ (n:=7)
  ⟨0,p0,_,_,_,A,_,rfl,rfl,rfl,by omega,a0,hP.mono (by omega),Vb,hA.ext x0,hE.trans x0,r0,fun l l0 l1=>by omega⟩
 clear a0 r0 x0 g0 m0 dw0 IU hA hE hP Vb
 rintro x ts ls τ1 ⟨k,p,g,dd,li,A1,b,rfl,rfl,rfl,k7,hI,F7,HJ,m_,HL,MM,hgl⟩ R hR
 simp only[iQ,gR,aF,bc,bN]
 by_cases ck:(k:Int)<7
 ·simp only[ck,aF]
  have bE:ai 2=0:=by decide
  refine LD hN hC m_ F7 (by omega) hI.dw (by omega) (by rw[bE];decide) (fun oE oV oS A' τ2 hf _ _ _ _ _ _=>?_) fun oV oS A' τ2 s F j b' d hF hg hd F3 MR Km pD nG m9=>?_
  ·exfalso
   rcases hf with⟨_,q⟩|⟨_,_,q⟩
   ·rw[hI.F,show 20-k=(19-k)+1 by omega,Cu]at q;cases q
   ·rcases hI.st with u|u|u<;>omega
  rw[bE]at hg F3
  have hr2:=MM.aL m9
  have S3:Ext σ τ2:=HL.pA m9 fun y hy=>vk.all y hy
  simp only[bu1,aF,bc]
  have eg:(fun l:Int=>if l=k then d.n else g l) k=d.n:=af rfl
  rw[←eg]
  refine hr2.add (g':=fun l:Int=>if l=k then d.n else g l) nG S3 (by omega) (fun l l0 l1=>ae (by omega)) fun id υ hr3 Kq Vs _=>?_
  rw[IntWalk.i64_in ((k:Int)+1) (by omega)]
  refine hR (7-(k+1)) _ _ _ (by omega) ⟨k+1,id,_,_,_,A',_,rfl,by simp,rfl,by omega,hI.next hC h4 hW (by omega) hF hg hd.1 hd.2.1 F3 fun i hi=>by rw[pD i hi];exact hI.lo i hi,MR.mono (by omega),by rw[Km];exact HJ,Kq,Vs,hr3,fun l l0 l1=>?_⟩
  unfold m5
  by_cases e:l=k
  ·simp[e]
  ·simp only[ae e];exact hgl l l0 (by omega)
 have hk7:k=7:=by omega
 subst hk7
 simp only[ck,z9,vQ,aF]
 have a0:XW C 0 dd li A1.w b:=⟨hI.dw,by rcases hI.st with u|u|u<;>omega,hI.o,hI.lo,fun l l0 l1=>by
  have:=hI.each l l0 l1
  exact⟨this.1,by rw[this.2.1];exact(decide_eq_true (by omega)).symm,this.2.2⟩⟩
 refine jY (fun x ts ls τ=>∃(m:Nat) (li:Int→Bool) (A:Ar) (b:Bg),x=6-m∧ts=[.slice (some ⟨p,0,none⟩) 7 1,.int .i64 m]∧ls=[N.el C 0]∧m≤6∧XW C m dd li A.w b∧Pa C A (5000+200*m)∧(A.n:Int)≤200000∧aZ N A τ∧Ext σ τ∧Rh N σ p 7 g τ) ?_ (n:=6)
  ⟨0,li,A1,b,rfl,rfl,rfl,by omega,a0,F7.mono (by omega),HJ,m_,HL,MM⟩
 clear a0 hI F7 HJ m_ HL MM hR ck k7 li A1 b
 rintro x ts ls τ1 ⟨m,li,A1,b,rfl,rfl,rfl,m6,hI,F7,HJ,m_,HL,MM⟩ R hR
 simp only[gV,gi,aF,bc,bN]
 by_cases cm:(m:Int)<6
 ·have XP:(m:Int)<((7:Nat):Int):=by omega
  have hem:=hI.each m (by omega) (by omega)
  simp only[cm,fx (show 0≤(m:Int) by omega) XP,Nat.zero_add,aF]
  rw[MM.ld (by omega) XP,hgl m (by omega) XP,←hem.1]
  refine LK hN hC hG m_ F7 (by omega) hI.dw (by omega) (by omega) XP (by rw[hem.2.1];exact decide_eq_true (Int.le_refl _)) fun oH oV oS A' τ2 F3 MR Km pD nG m9=>?_
  rw[IntWalk.i64_in ((m:Int)+1) (by omega)]
  refine hR (6-(m+1)) _ _ _ (by omega) ⟨m+1,fa li m false,A',{ b.less (dd m).j (aA (ai (dd m).z))with F:=(dd m).s::b.F },rfl,by simp,rfl,by omega,⟨by rw[show(7:Int)+((m+1:Nat):Int)=7+m+1 by omega];exact F3,hI.st,hI.o,fun i hi=>by rw[pD i hi];exact hI.lo i hi,fun l l0 l1=>?_⟩,MR.mono (by omega),by rw[Km];exact HJ,nG,HL.pA m9 fun y hy=>vk.all y hy,MM.aL m9⟩
  have Vi:=hI.each l l0 l1
  refine⟨Vi.1,?_,Vi.2.2⟩
  unfold fa
  by_cases e:l=m
  ·rw[af e];exact(decide_eq_false (by omega)).symm
  ·rw[ae e,Vi.2.1]
   by_cases z:(m:Int)≤l
   ·rw[decide_eq_true z];exact(decide_eq_true (by omega)).symm
   ·rw[decide_eq_false z];exact(decide_eq_false (by omega)).symm
 have hm6:m=6:=by omega
 subst hm6
 obtain⟨hti,kT,hD⟩:=hI.ti hC hT1 h4 hW F7.ok.w ⟨F7.n,by omega⟩
 simp only[cm,z8,vP,aF,bc,bN]
 refine Ge m_ fun q τ2 hq Vn x2=>?_
 have nG:=m_.ext x2
 have S3:=HL.trans x2
 refine Fc hN hC nG F7.n F7.ok.w ?_
 have n1:jV (fun j=>decide (bF (A1.w (C.chunk j))=1)) C.C.toNat=2:=by
  rw[h4]
  show jV _ 4=2
  rw[R9,kT 0 (by decide) (by decide),kT 1 (by decide) (by decide),kT 2 (by decide) (by decide),kT 3 (by decide) (by decide)];decide
 rw[n1]
 simp only[aF]
 refine Hj hN hC nG (n:=4) (by decide) Vn hti (by decide) fun c' A' O' τ3 aaF Kk hz Kq Le DT E4=>?_
 have SS:c'.r.pc=0∧c'.r.at'=0:=by
  rcases hz with q|q
  ·exact absurd q (by decide)
  ·exact q
 have U2:c'.r.rd=4:=Kk
 obtain⟨tS,tn,t64,tw,cl,nm,tm⟩:=aaF
 have k1:kS C ⟨1,1,0,A1.w 0,false,A1.w,fun j=>decide (0≤j∧j<b.nx) && !qy A1.w 4 j⟩ A'.w 1=0:=by
  have h1:=zk (C:=C) (P:=⟨1,1,0,A1.w 0,false,A1.w,fun j=>decide (0≤j∧j<b.nx) && !qy A1.w 4 j⟩) (w:=A'.w) (s:=1)
  rcases tm.kt with u|u
  ·rw[U2,SS.1,ae (by decide)]at u
   have u':kS C ⟨1,1,0,A1.w 0,false,A1.w,fun j=>decide (0≤j∧j<b.nx) && !qy A1.w 4 j⟩ A'.w 1+(4-0)+0≤1:=u
   omega
  ·exact u
 have k3:=(tm.fq rfl (by rw[U2];show(1:Int)+2≤4-0;decide)).1
 have DS:c'.r.fd=1:=by
  have u1:=nm.ck
  have u2:=nm.cq
  rw[SS.1,ae (by decide),k1]at u1
  rw[k3]at u2
  have u1':c'.r.ev+0+0=1:=u1
  omega
 have ck:∀ j,0≤j→j<4→bF (A'.w (C.chunk j))=if j=1 then 1 else 0:=fun j j0 j1=>by
  by_cases z:j=0
  ·subst z
   have Vk:(fun j=>decide (0≤j∧j<b.nx) && !qy A1.w 4 j) 0=true:=by show(decide (0≤(0:Int)∧(0:Int)<b.nx) && !qy A1.w 4 0)=true;rw[hD];decide
   have e1:=FW k1 (Int.le_refl 0) (by omega) Vk
   have e3:=FW k3 (Int.le_refl 0) (by omega) Vk
   have e2:bF (A'.w (C.chunk 0))≠2:=fun u=>by have:=(cl.sY 0 (Int.le_refl 0) (by omega) Vk u).1;omega
   have:=Fb (A'.w (C.chunk 0))
   rw[ae (by decide)];omega
  ·have Vk:(fun j=>decide (0≤j∧j<b.nx) && !qy A1.w 4 j) j=false:=by show(decide (0≤j∧j<b.nx) && !qy A1.w 4 j)=false;rw[hD];exact decide_eq_false z
   have e:=(tw.un hC j0 (by omega) Vk).1
   rw[e]
   show bF (A1.w (C.chunk j))=_
   rw[kT j j0 j1]
   by_cases q:j=1
   ·subst q;decide
   ·rw[ae (by omega),ae q]
 have n2:jV (fun j=>decide (bF (A'.w (C.chunk j))=1)) C.C.toNat=1:=by
  rw[h4]
  show jV _ 4=1
  rw[R9,ck 0 (by decide) (by decide),ck 1 (by decide) (by decide),ck 2 (by decide) (by decide),ck 3 (by decide) (by decide)];decide
 have n3:jV (fun j=>decide (bF (A'.w (C.chunk j))=0)) C.C.toNat=3:=by
  rw[h4]
  show jV _ 4=3
  rw[R9,ck 0 (by decide) (by decide),ck 1 (by decide) (by decide),ck 2 (by decide) (by decide),ck 3 (by decide) (by decide)];decide
 simp only[aF]
 refine Fc hN hC Kq tn.1 t64 ?_
 rw[n2]
 simp only[aF]
 refine Fc hN hC Kq tn.1 t64 ?_
 rw[n3]
 simp only[sk Le,f2,DS,aF]
 refine hk τ3 fun i bl hi=>?_
 have hi2:=S3 i bl hi
 refine E4 i bl hi2 fun hm=>?_
 rcases List.mem_append.1 hm with u|u
 ·rw[List.mem_singleton]at u;subst u
  rw[HL _ _ hi]at hq;cases hq
 ·rw[vk.all i u]at hi;cases hi
end Go.Fl
namespace Go.Fl
open Go
theorem Opn.slz{w:World}{ρ:dS}{σ:Mem}{tZ kI:List Value}{v:Value}{ks:List (Option IntKind)}{m:Nat}(h:Opn w ρ σ tZ kI)(hv:SlW w ks v)(hz:∀ a l c,v=.slice a l c→l≤m) :
  ∃ ρ' σ' s n cs,Opn w ρ' σ' (s::tZ) (v::kI)∧Sl σ' ks.length n cs s∧n≤m∧ct (List.replicate n ks).flatten cs∧∀ i b,σ.get i=some b→σ'.get i=some b:=by
 rcases hv with rfl|⟨a,len,cap,cs,rfl,h1,h2,h3,h4⟩
 ·exact⟨ρ,σ,_,0,[],h.yM,.nil,Nat.zero_le _,.nil,fun _ _ q=>q⟩
 ·obtain⟨ρ',σ',s,o,sl,ext⟩:=h.slice (es:=ks.length) h1 h3 (by simp) h4
  exact⟨ρ',σ',s,len,cs,o,sl,hz _ _ _ rfl,h3,ext⟩
theorem trod_len{H:Type}{enc:TypeId×Value→H}{P:Program}{w:World}{base:Nat}{held:Bool}{t e:TypeId}{fuel:Nat}{cs:List Value}{x:DataW H×List MemPlace}{ts:List TypeId}{ds:List (DataW H)}{j:Nat}(ht:P.underlying t=some (.slice e))
  (h:DataW.trod enc P w base (fun _=>true) held fuel t cs=some x) (h1:ts[j]?=some t) (h2:ds[j]?=some x.1) (hz:(DataW.weightsEach P ts ds).all (·≤reachBytes)=true) (hb:1≤P.bytesOf e) :
  ∀ a l c,cs=[.slice a l c]→l≤140737488351232:=by
 intro a l c hc
 rcases DataW.trod_slice ht h with⟨h0,_⟩|⟨a',len,cap,elems,rest,n,_,h3,h4,_,_,_,hlen,_⟩
 ·rw[hc]at h0;cases h0;exact Nat.zero_le _
 ·rw[hc]at h3;cases h3
  rw[h4]at h2
  have:=sized_slice hz h1 h2 ht
  simp only[List.length_map]at this
  have e1:reachBytes=140737488351232:=by decide
  have e2:elems.length≤(elems.length+rest.length)*P.bytesOf e:=Nat.le_trans (Nat.le_add_right _ _) (Nat.le_mul_of_pos_right _ hb)
  omega
end Go.Fl
namespace Go.Fl
open Go
variable{N:Nm}{A B:Ar}{σ:Mem}{K:Value→Mem→Prop}{C:Cf}{who:Int}
structure Rk(kd:IntKind)(N:Nm)(σ:Mem)(p n:Nat)(g:Int→Int)(τ:Mem):Prop where
 gp:τ.get p=some ⟨cells kd n g,true⟩
 dp:p∉N.l∧σ.get p=none
section
variable{kd:IntKind}{p n l:Nat}{g g':Int→Int}{τ υ:Mem}
theorem Rk.aL(h:Rk kd N σ p n g τ)(k:aQ N.l τ υ):Rk kd N σ p n g υ:=⟨k.get h.gp h.dp.1,h.dp⟩
theorem Rk.ext(h:Rk kd N σ p n g τ)(k:Ext τ υ):Rk kd N σ p n g υ:=⟨k _ _ h.gp,h.dp⟩
theorem Rk.off{q:Nat}(h:Rk kd N σ p n g τ)(k:aQ [q] τ υ)(hq:p≠q):Rk kd N σ p n g υ:=⟨k.get h.gp (by simpa using hq),h.dp⟩
theorem Rk.add(h:Rk kd N σ p n g τ)(hA:aZ N A τ)(hE:Ext σ τ)(hn:n<1000000)(hg:∀ i:Int,0≤i→i<n→g' i=g i)
  (hk:∀ id υ,τ.get id=none→Rk kd N σ id (n+1) g' υ→aZ N A υ→Ext σ υ→aQ [p] τ υ→K (.slice (some ⟨id,0,none⟩) (n+1) 1) υ):cv 1 8 [.int kd (g' n)] [.slice (some ⟨p,0,none⟩) n 1,rR l 1 1] K τ:=by
 refine xL (pre:=[]) (L:=cells kd n g) (by rw[List.nil_append];exact h.gp) rfl (zA _ _ _) (by decide) rfl (by omega) fun id υ dQ gid kp=>?_
 rw[xW hg]at gid
 refine hk id υ dQ ⟨gid,hA.new dQ,hE.none dQ⟩ (hA.aL kp ?_) (hE.pA kp fun j hj=>by rw[List.mem_singleton]at hj;subst hj;exact h.dp.2) kp
 have:=h.dp.1
 simp only[Nm.l,List.mem_cons,List.not_mem_nil,or_false,not_or]at this ⊢
 exact⟨Ne.symm this.1,Ne.symm this.2.1,Ne.symm this.2.2⟩
theorem Rk.ne{q:Nat}(h:Rk kd N σ p n g τ)(hq:τ.get q=none):p≠q:=fun e=>by subst e;have:=h.gp;rw[hq]at this;cases this
end
theorem Rk.st{kd:IntKind}{p n:Nat}{g:Int→Int}{τ:Mem}{A:Ar}{i v:Int}(h:Rk kd N σ p n g τ)(i0:0≤i)(i1:i<n)(hA:aZ N A τ)(hE:Ext σ τ)(hk:∀ υ,Rk kd N σ p n (aX g i v) υ→aZ N A υ→Ext σ υ→aQ [p] τ υ→K undef υ):ax 1 [.pointer (some ⟨p,i.toNat*1,none⟩),.int kd v] K τ:=by
 rw[FO h.gp i0 i1]
 have kq:aQ [p] τ (τ.set p ⟨cells kd n (aX g i v),true⟩):=fun j b hj yP=>by rw[Mem.bZ _ _ (by simpa using yP)];exact hj
 refine hk _ ⟨Mem.bf _ _ _,h.dp⟩ (hA.aL kq ?_) (hE.pA kq fun j hj=>by rw[List.mem_singleton]at hj;subst hj;exact h.dp.2) kq
 have:=h.dp.1
 simp only[Nm.l,List.mem_cons,List.not_mem_nil,or_false,not_or]at this ⊢
 exact⟨Ne.symm this.1,Ne.symm this.2.1,Ne.symm this.2.2⟩
theorem buI{x:Int}:iu 1 1 [.int .i64 0] [0] [.int .i64 x] []=some [.int .i64 x]:=nr rfl
theorem law_CompactWrites(σ:Mem)(s:Value)(len:Nat)(cs:List Value)(sl:Sl σ 1 len cs s)(hm:len≤140737488351232)(hf:ct (List.replicate len [some .i64]).flatten cs)
  (s2:Value) (len2:Nat) (cs2:List Value) (sl2:Sl σ 1 len2 cs2 s2) (hm2:len2≤140737488351232) (hf2:ct (List.replicate len2 [some .i64]).flatten cs2)
  (s3:Value) (ET:Nat) (cs3:List Value) (sl3:Sl σ 1 ET cs3 s3) (hm3:ET≤140737488351232) (hf3:ct (List.replicate ET [some .i64]).flatten cs3) :
  IE [s,s2,s3] (fun v _=>v=.bool true) σ:=by
 obtain⟨g,hg,_⟩:=sl.Sq hf
 obtain⟨gv,Vg,_⟩:=sl2.Sq hf2
 obtain⟨gp,hgp,_⟩:=sl3.Sq hf3
 simp only[IE,P7,aF,bc]
 have hC:(cA 2 30 8 34).ok:=OW (by omega) (by omega) (by omega) (by omega)
 refine Gi (C:=cA 2 30 8 34) hC rfl rfl rfl fun N A τ hN hF hA hE vk=>?_
 simp only[F9,aF]
 refine Hk fun τ0 x0=>?_
 have hT:(cA 2 30 8 34).T=2:=rfl
 have h8:(cA 2 30 8 34).C=8:=rfl
 have hW:(cA 2 30 8 34).W=34:=rfl
 have hR:(cA 2 30 8 34).R=3:=rfl
 have hG:(cA 2 30 8 34).G=100:=rfl
 have hP:=(hF.pa hC).mono (show 2*(cA 2 30 8 34).S+2≤200 by decide)
 have dv0:=Dv.new hC hF
 have IU:∀ i,lD (cA 2 30 8 34) i→A.w i=0:=fun i hi=>by
  have xI:i=0∨6≤i∧i<6+2:=hi
  rw[hF.w]
  unfold Cf.w0 Cf.fr
  rw[ae (by omega),ae (by show ¬ i=6+2+2*(30-1)+1;omega),ae (by show ¬(6+2≤i∧i<6+2+2*30);omega)]
 have hln:=br hC
 have Vb:A.n=(cA 2 30 8 34).len.toNat:=hF.n
 have hA0:=hA.ext x0
 have S4:=hE.trans x0
 generalize hCe:cA 2 30 8 34=C at *
 clear hF
 simp only[Ae,vY,Bool.not_true,aF]
 refine tA [] rfl fun p0 τ1 m0 g0 x1=>?_
 refine tA [] rfl fun q0 τ2 m1 g1 x2=>?_
 have r0:Rk .u64 N σ p0 0 (fun _=>0) τ2:=(⟨g0,hA0.new m0,S4.none m0⟩:Rk .u64 N σ p0 0 (fun _=>0) τ1).ext x2
 have r1:Rk .i64 N σ q0 0 (fun _=>0) τ2:=⟨g1,(hA0.ext x1).new m1,(S4.trans x1).none m1⟩
 have n0:p0≠q0:=fun e=>by subst e;rw[g0]at m1;cases m1
 have gs:∀{k:Nat} {x y z w:Int},aH 4 [.pointer (some ⟨k,0,some 0⟩),.agg #[.int .i64 x,.int .u64 y,.int .i64 z,.int .i64 w]] [.int .i64 0,.int .u64 0,.int .i64 0,.int .i64 0]=some [.int .i64 x,.int .u64 y,.int .i64 z,.int .i64 w]:=fun{_ _ _ _ _}=>rfl
 have Xm:∀{x y z u:Int},sub [.int .i64 x,.int .u64 y,.int .i64 z,.int .i64 u] 0 1 false=some (.int .i64 x):=fun{_ _ _ _}=>rfl
 have Uf:∀{x y z u:Int},sub [.int .i64 x,.int .u64 y,.int .i64 z,.int .i64 u] 2 1 false=some (.int .i64 z):=fun{_ _ _ _}=>rfl
 have fin:∀(n pm ps:Nat) gm gz P A τ,(n:Int)≤25→WI C P 1 3000 Co.new A→P.hp<0→P.hs<0→Ro C P n gm→(∀ k:Int,0≤k→k<n→gz k=P.L (aJ (gm k)) 0∧0≤gz k∧gz k≤65535)→A.ok 100000→A.n=C.len.toNat→aZ N A τ→Ext σ τ →
   Rk .u64 N σ pm n gm τ→Rk .i64 N σ ps n gz τ→pm≠ps →
   qZ (fun v _=>v=.bool true) [s2,s3,.slice (some ⟨pm,0,none⟩) n 1,.slice (some ⟨ps,0,none⟩) n 1] [N.el C 0] τ:=by
  intro n pm ps gm gz P A τ ab3 UQ hp hs hro hgz lI hn hA hE I6 K4 MB
  have zp:C.len≤A.n∧(A.n:Int)≤200000000:=UQ.nn
  simp only[qZ,vX,DW,aF,bc]
  by_cases cn:(n:Int)=0
  ·simp only[cn,aF]
  simp only[cn,aF]
  refine Ge hA fun pc τ2 oT Vn x2=>?_
  have bz3:∀ K:Value→Prop,xF (aM [(0,1),(1,1),(2,1)] [.pointer none,.pointer none,.bool false] []) [] K=K (.agg #[.pointer none,.pointer none,.bool false]):=fun K=>nr rfl
  simp only[bz3,aF,bc,Nat.reduceAdd]
  have hn0:0<(n:Int):=by omega
  have h0:Cn N C σ pc pm ps n gm gz 1 (-1) false A Co.new P 1 3000 (fun k=>if k=0 then pc else if k=1 then pm else ps) (fun k=>if k=0 then [pc]else if k=1 then [pm]else [ps]) (fun k=>if k=0 then .co Co.new else if k=1 then .row (cells .u64 n gm)else .row (cells .i64 n gz)) τ2:=by
   have g1:=x2 _ _ I6.gp
   have g2:=x2 _ _ K4.gp
   have nc1:pm≠pc:=I6.ne oT
   have nc2:ps≠pc:=K4.ne oT
   refine⟨UQ,by decide,lh lI (by omega),hn,hA.ext x2,⟨fun k hk=>?_,fun k hk y hy=>?_,fun k l hk hl ne y hy=>?_,fun k hk y hy=>?_,hE.trans x2⟩,⟨rfl,rfl⟩,⟨rfl,rfl⟩,⟨rfl,rfl⟩,hro,fun k k0 k1=>(hgz k k0 k1).2,fun k k0 k1 _=>(hgz k k0 k1).1⟩
   ·rcases hk with e|e|e|⟨e,_⟩
    ·subst e;exact Vn
    ·subst e;exact⟨g1,List.mem_singleton.2 rfl,fun i hi=>by rw[List.mem_singleton.1 hi];exact I6.dp.1⟩
    ·subst e;exact⟨g2,List.mem_singleton.2 rfl,fun i hi=>by rw[List.mem_singleton.1 hi];exact K4.dp.1⟩
    ·cases e
   ·rcases hk with e|e|e|⟨e,_⟩
    ·subst e
     obtain rfl:=List.mem_singleton.1 (show y∈[pc]from hy)
     obtain⟨x1,x6,x7,x8,g,_⟩:=Vn.obj
     rw[g];simp
    ·subst e
     obtain rfl:=List.mem_singleton.1 (show y∈[pm]from hy)
     rw[g1];simp
    ·subst e
     obtain rfl:=List.mem_singleton.1 (show y∈[ps]from hy)
     rw[g2];simp
    ·cases e
   ·have lb:∀ k,Lb false k→k=0∨k=1∨k=2:=fun k h=>by rcases h with e|e|e|⟨e,_⟩;exact .inl e;exact .inr (.inl e);exact .inr (.inr e);cases e
    rcases lb k hk with rfl|rfl|rfl<;>rcases lb l hl with rfl|rfl|rfl
    ·exact absurd rfl ne
    ·obtain rfl:=List.mem_singleton.1 (show y∈[pc]from hy)
     exact fun yN=>nc1 (List.mem_singleton.1 (show y∈[pm]from yN)).symm
    ·obtain rfl:=List.mem_singleton.1 (show y∈[pc]from hy)
     exact fun yN=>nc2 (List.mem_singleton.1 (show y∈[ps]from yN)).symm
    ·obtain rfl:=List.mem_singleton.1 (show y∈[pm]from hy)
     exact fun yN=>nc1 (List.mem_singleton.1 (show y∈[pc]from yN))
    ·exact absurd rfl ne
    ·obtain rfl:=List.mem_singleton.1 (show y∈[pm]from hy)
     exact fun yN=>MB (List.mem_singleton.1 (show y∈[ps]from yN))
    ·obtain rfl:=List.mem_singleton.1 (show y∈[ps]from hy)
     exact fun yN=>nc2 (List.mem_singleton.1 (show y∈[pc]from yN))
    ·obtain rfl:=List.mem_singleton.1 (show y∈[ps]from hy)
     exact fun yN=>MB (List.mem_singleton.1 (show y∈[pm]from yN)).symm
    ·exact absurd rfl ne
   ·rcases hk with e|e|e|⟨e,_⟩
    ·subst e
     obtain rfl:=List.mem_singleton.1 (show y∈[pc]from hy)
     exact hE.none oT
    ·subst e
     obtain rfl:=List.mem_singleton.1 (show y∈[pm]from hy)
     exact I6.dp.2
    ·subst e
     obtain rfl:=List.mem_singleton.1 (show y∈[ps]from hy)
     exact K4.dp.2
    ·cases e
  clear UQ hro hgz lI hn hA hE I6 K4 Vn x2 oT MB
  have g98:∀{x y:Int},aH 1 [.pointer (some ⟨7,8,some 0⟩),.int .i64 x] (N.el C y)=some (N.el C x):=fun{_ _}=>rfl
  have aI:∀{K:Value→Prop} {Q:fY} {a:Int},xF (aq .and Q) [.int .i64 a,.int .i64 65535] K=K (.int .i64 (a % 65536)):=fun{K Q a}=>by simpa using H2 (K:=K) (Q:=Q) (k:=16) (a:=a) (by decide)
  have qF:∀{k:Nat} {x y x' y':Option Addr} {b b':Bool},aH 3 [.pointer (some ⟨k,0,some 0⟩),.agg #[.pointer x,.pointer y,.bool b]] [.pointer x',.pointer y',.bool b']=some [.pointer x,.pointer y,.bool b]:=fun{_ _ _ _ _ _ _}=>rfl
  have last:∀(at':Int) gz A c P t q Pb Ob M τ w0,Cn N C σ pc pm ps n gm gz 3000 (-1) false A c P t q Pb Ob M τ →
    uP (fun v _=>v=.bool true) [.slice (some ⟨pm,0,none⟩) n 1,.slice (some ⟨ps,0,none⟩) n 1,.pointer (some ⟨pc,0,none⟩),.bool false] [N.el C w0] τ:=by
   intro at' gz A c P t q Pb Ob M τ w0 h
   have htb:=h.tb
   simp only[uP,vV,aF,bc,bN]
   have hO:=h.hw.ob 0 (.inl rfl)
   rw[h.p0.1,h.p0.2]at hO
   refine Hi hN hC h.aZ (n:=2) (by decide) hO h.wi (by omega) (by omega) h.ok (by decide) fun t' q' c' A' O' τ3 K2 ht' U8 hz Kq Le DT E4=>?_
   obtain⟨O2,I1,_⟩:=h.hw.step Tg.hb vk (k:=0) (m':=.co c') (O':=O') (.inl rfl) DT (by rw[h.p0.1];exact Le) E4
   have r1:=I1.ob 1 (.inr (.inl rfl))
   rw[h.p1.1,bk (by decide),h.p1.2]at r1
   have r2:=I1.ob 2 (.inr (.inr (.inl rfl)))
   rw[h.p2.1,bk (by decide),h.p2.2]at r2
   have pmN:=r1.2.2 pm r1.2.1
   have psN:=r2.2.2 ps r2.2.1
   have SS:c'.r.pc=0∧c'.r.at'=0:=by
    rcases hz with q|q
    ·exact absurd q (by decide)
    ·exact q
   have hS:=K2.st
   have mw:MW C P t' (-1) (-1) A'.w:=by
    cases K2.wc with
    | p0 bG ha hs mw=>exact mw
    | p1 bG=>omega
    | p2 bG=>omega
    | p3 bG=>omega
    | p4 bG=>omega
    | p5 bG=>omega
    | p6 bG=>omega
    | p9 bG=>omega
    | m7 bG=>omega
    | oo bG=>omega
   have pC:=K2.nn
   simp only[Ad,vU,aF]
   refine jY (fun x ts ls υ=>∃(k:Int) (A2:Ar),x=(n-k).toNat∧ts=[.slice (some ⟨pm,0,none⟩) n 1,.slice (some ⟨ps,0,none⟩) n 1,.int .i64 k]∧ls=[N.el C w0]∧(0≤k∧k≤n)∧A2.w=A'.w∧A2.n=A'.n∧A2.ok (2000000+4*k)∧aZ N A2 υ∧υ.get pm=some ⟨cells .u64 n gm,true⟩∧υ.get ps=some ⟨cells .i64 n gz,true⟩) ?_ (n:=n)
    ⟨0,A',by simp,rfl,rfl,⟨Int.le_refl 0,by omega⟩,rfl,rfl,lh U8 (by omega),Kq,r1.1,r2.1⟩
   clear Kq Le DT E4 I1 K2 U8
   rintro x ts ls υ ⟨k,A2,rfl,rfl,rfl,⟨k0,k1⟩,ew,en,Uu,nG,g1,g2⟩ R Jh
   simp only[db,cR,DW,aF,bc,bN]
   by_cases ck:k<n
   rotate_left
   ·simp only[ck,Ab,vT,aF]
   obtain⟨u1,u2,u3,u4,u5,u6,u7⟩:=h.ro.h k k0 ck
   have b2:∀(x y:Int) (K:Value→Prop),xF (aM [(0,1),(1,1),(2,1),(3,1),(4,1)] [.int .i64 0,.int .u64 0,.int .i64 0,.int .i64 0,.int .i64 0] [0,1]) [.int .i64 x,.int .u64 y] K=K (.agg #[.int .i64 x,.int .u64 y,.int .i64 0,.int .i64 0,.int .i64 0]):=fun _ _ K=>nr rfl
   simp only[ck,fx k0 ck,Nat.zero_add,aF]
   rw[jr g1 k0 ck]
   simp only[b2]
   have mw2:MW C P t' (-1) (-1) A2.w:=by rw[ew];exact mw
   rw[show(Value.bool false)=.bool (P.o (aJ (gm k))) by rw[u6]]
   refine LA (x:=0) hN hC nG hS mw2 (by omega) u1 u2 u3 u4 u5 Uu (by omega) (by rw[en];exact pC.1) (by rw[en];exact pC.2) (Int.le_refl 0) (by omega) fun oS A5 υ2 e1 e2 e3 e4 e5=>?_
   have g1':=e5.get g1 pmN
   have g2':=e5.get g2 psN
   simp only[gs,Xm,Uf,aF]
   rw[jr g2' k0 ck,h.gl k k0 ck (by omega)]
   simp only[Aa,vS,aF]
   rw[IntWalk.i64_in (k+1) (by omega)]
   exact Jh (n-(k+1)).toNat _ _ _ (by omega) ⟨k+1,A5,rfl,rfl,rfl,⟨by omega,by omega⟩,e1.trans ew,e2.trans en,lh e3 (by omega),e4,g1',g2'⟩
  have ends:∀(at':Int) bz cK gz A c P t q Pb Ob M τ (y:Wr) (j v w0:Int),(0≤at'∧at'≤60)→Cn N C σ pc pm ps n gm gz 2001 j bz A c P t q Pb Ob M τ→(bz=false→j = -1∧P.hp<0∧P.hs<0)→(bz=true→j=at' % n∧at'<len2∧v=gv at' % 65536∧Bz C gm gz j v A P t Pb M y cK) →
    cL (fun v _=>v=.bool true) [s2,.slice (some ⟨pm,0,none⟩) n 1,.slice (some ⟨ps,0,none⟩) n 1,.pointer (some ⟨pc,0,none⟩),.int .i64 at',.bool bz] [N.el C w0,cK] τ:=by
   intro at' bz cK gz A c P t q Pb Ob M τ y j v w0 iM h B_ Kh
   simp only[cL,vW,g98,aF,bc]
   refine jY (fun x ts ls τ=>∃(i:Int) (bz:Bool) (cK:List Value) (gz:Int→Int) (A:Ar) (P:MP) (t q:Int) (Pb:Int→Nat) (Ob:Int→List Nat) (M:Int→Tg) (y:Wr) (j:Int),x=(300-i).toNat∧ts=[s2,.slice (some ⟨pm,0,none⟩) n 1,.slice (some ⟨ps,0,none⟩) n 1,.pointer (some ⟨pc,0,none⟩),.int .i64 at',.bool bz,.int .i64 i]∧ls=[N.el C 0,cK]∧(0≤i∧i≤60)∧Cn N C σ pc pm ps n gm gz (2001+i) j bz A c P t q Pb Ob M τ∧(bz=false→j = -1)∧(bz=true→i+mu C (gm j) A.w y≤50∧j=at' % n∧at'<len2∧v=gv at' % 65536∧Bz C gm gz j v A P t Pb M y cK)) ?_ (n:=300)
    ⟨0,bz,cK,gz,A,P,t,q,Pb,Ob,M,y,j,by simp,rfl,rfl,⟨Int.le_refl 0,by decide⟩,h.more (by decide),fun e=>(B_ e).1,fun e=>⟨by have:=MC (C:=C) (n:=gm j) (w:=A.w) (y:=y);omega,Kh e⟩⟩
   clear B_ Kh h
   rintro x ts ls υ ⟨i,bz,cK,gz,A,P,t,q,Pb,Ob,M,y,j,rfl,rfl,rfl,⟨i0,i1⟩,h,B_,Kh⟩ R Jh
   simp only[dc,cS,aF]
   have ci:i<300:=by omega
   cases bz with
   | false=>
    simp only[ci,aF]
    have:=B_ rfl
    subst this
    exact last at' gz A c P t q Pb Ob M υ 0 (h.more (by omega))
   | true=>
    obtain⟨Xz,ej,a2,ev,z⟩:=Kh rfl
    have mb:=MC (C:=C) (n:=gm j) (w:=A.w) (y:=y)
    have js:0≤j∧j<n:=by rw[ej];exact⟨Int.emod_nonneg _ (by omega),Int.emod_lt_of_pos _ hn0⟩
    have tm:at'.tmod n=j:=by rw[ej];exact Int.tmod_eq_emod_of_nonneg iM.1
    have pv:0≤v∧v≤65535:=by omega
    have JV:=z.cK
    simp only[ci,z_,vR,aF,bc,bN]
    rw[JV]
    simp only[yu,aF]
    refine(show pW [.agg cK.toArray,N.env C 0] _ υ→_ from fun hh=>by rw[JV]at hh;exact hh) ?_
    refine h.wr hN hC vk z js.1 js.2 (by omega) (fun A' P' t' q' ua M' y' LU τ' h' z' aaM=>?_) fun A' P' t' q' ua M' m τ' h' em eE eV eL php phs=>?_
    ·rw[z'.cK]
     simp only[yu,qF,uO,qY,aF]
     rw[IntWalk.i64_in (i+1) (by omega)]
     exact Jh (300-(i+1)).toNat _ _ _ (by omega) ⟨i+1,true,_,gz,A',P',t',q',Pb,ua,M',y',j,rfl,rfl,rfl,⟨by omega,by omega⟩,by rw[show 2001+(i+1)=2001+i+1 by omega];exact h',fun e=>(by cases e),fun _=>⟨by omega,ej,a2,ev,by rw[z'.cK]at z';exact z'⟩⟩
    ·have yQ:=Vg.aL h'.hw.ext
     simp only[yu,qF,aF]
     rw[HS (by omega),tm]
     rw[yQ.ix iM.1 a2]
     simp only[aI,fx js.1 js.2,Nat.zero_add]
     rw[←ev]
     refine h'.told vk js.1 js.2 pv eL fun Ob2 M2 τ2 h2=>?_
     simp only[uO,qY,aF]
     rw[IntWalk.i64_in (i+1) (by omega)]
     exact Jh (300-(i+1)).toNat _ _ _ (by omega) ⟨i+1,false,_,_,A',P',t',q',Pb,Ob2,M2,y,-1,rfl,rfl,rfl,⟨by omega,by omega⟩,by rw[show 2001+(i+1)=2001+i+1 by omega];exact h2,fun _=>rfl,fun e=>(by cases e)⟩
  refine jY (fun x ts ls τ=>∃(i at':Int) (bz:Bool) (cK:List Value) (w0:Int) (gz:Int→Int) (A:Ar) (c:Co) (P:MP) (t q:Int) (Pb:Int→Nat) (Ob:Int→List Nat) (M:Int→Tg) (y:Wr) (j v:Int),x=(2000-i).toNat∧ts=[s2,s3,.slice (some ⟨pm,0,none⟩) n 1,.slice (some ⟨ps,0,none⟩) n 1,.pointer (some ⟨pc,0,none⟩),.int .i64 at',.bool bz,.int .i64 i]∧ls=[N.el C w0,cK]∧(0≤i∧i≤2000)∧(0≤at'∧at'≤60)∧Cn N C σ pc pm ps n gm gz (1+i) j bz A c P t q Pb Ob M τ∧(bz=false→(j = -1∧P.hp<0∧P.hs<0)∧∃ a b d,cK=[.pointer a,.pointer b,.bool d])∧(bz=true→at'<60∧j=at' % n∧at'<len2∧v=gv at' % 65536∧Bz C gm gz j v A P t Pb M y cK)) ?_ (n:=2000)
   ⟨0,0,false,_,0,gz,A,Co.new,P,1,3000,_,_,_,Wr.new 0 0,-1,0,by simp,rfl,rfl,⟨Int.le_refl 0,by decide⟩,⟨Int.le_refl 0,by decide⟩,h0.more (by decide),fun _=>⟨⟨rfl,hp,hs⟩,_,_,_,rfl⟩,fun e=>(by cases e)⟩
  clear h0 hp hs
  rintro x ts ls υ ⟨i,at',bz,cK,w0,gz,A,c,P,t,q,Pb,Ob,M,y,j,v,rfl,rfl,rfl,⟨i0,i1⟩,iM,h,B_,Kh⟩ R Jh
  have RL:=hgp.aL h.hw.ext
  have stop:cL (fun v _=>v=.bool true) [s2,.slice (some ⟨pm,0,none⟩) n 1,.slice (some ⟨ps,0,none⟩) n 1,.pointer (some ⟨pc,0,none⟩),.int .i64 at',.bool bz] [N.el C w0,cK] υ:=
   ends at' bz cK gz A c P t q Pb Ob M υ y j v w0 iM (h.more (by omega)) (fun e=>(B_ e).1) fun e=>(Kh e).2
  simp only[de,cT,RL.len,aF]
  rw[IntWalk.i64_in ((ET:Int)+500) (by omega)]
  by_cases c1:i<ET+500
  rotate_left
  ·simp only[c1,aF];exact stop
  by_cases c2:i<2000
  rotate_left
  ·simp only[c1,c2,aF];exact stop
  clear stop ends
  simp only[c1,c2,wg,sN,OZ,RL.len,aF]
  have on:∀(at':Int) (bz:Bool) (cK:List Value) (w0:Int) (gz:Int→Int) (A:Ar) (c:Co) (P:MP) (t q:Int) (Pb:Int→Nat) (Ob:Int→List Nat) (M:Int→Tg) (y:Wr) (j v:Int) τ,(0≤at'∧at'≤60)→Cn N C σ pc pm ps n gm gz (1+i+1) j bz A c P t q Pb Ob M τ→(bz=false→(j = -1∧P.hp<0∧P.hs<0)∧∃ a b d,cK=[.pointer a,.pointer b,.bool d])→(bz=true→at'<60∧j=at' % n∧at'<len2∧v=gv at' % 65536∧Bz C gm gz j v A P t Pb M y cK) →
    eZ (fun v _=>v=.bool true) (cL fun v _=>v=.bool true) R [s2,s3,.slice (some ⟨pm,0,none⟩) n 1,.slice (some ⟨ps,0,none⟩) n 1,.pointer (some ⟨pc,0,none⟩),.int .i64 at',.bool bz,.int .i64 i] [N.el C w0,cK] τ:=by
   intro at' bz cK w0 gz A c P t q Pb Ob M y j v τ iM h B_ Kh
   simp only[eZ,sM,aF]
   rw[IntWalk.i64_in (i+1) (by omega)]
   exact Jh (2000-(i+1)).toNat _ _ _ (by omega) ⟨i+1,at',bz,cK,w0,gz,A,c,P,t,q,Pb,Ob,M,y,j,v,rfl,rfl,rfl,⟨by omega,by omega⟩,iM,by rw[show 1+(i+1)=1+i+1 by omega];exact h,B_,Kh⟩
  clear Jh
  have lays:∀(cK:List Value) (gz:Int→Int) (A:Ar) (c:Co) (P:MP) (t q:Int) (Pb:Int→Nat) (Ob:Int→List Nat) (M:Int→Tg) (y:Wr) (j v:Int) τ,Cn N C σ pc pm ps n gm gz (1+i) j true A c P t q Pb Ob M τ→at'<60→j=at' % n→at'<len2→v=gv at' % 65536→Bz C gm gz j v A P t Pb M y cK →
    ko (fun v _=>v=.bool true) (cL fun v _=>v=.bool true) R (eZ (fun v _=>v=.bool true) (cL fun v _=>v=.bool true) R) [s2,s3,.slice (some ⟨pm,0,none⟩) n 1,.slice (some ⟨ps,0,none⟩) n 1,.pointer (some ⟨pc,0,none⟩),.int .i64 at',.bool true,.int .i64 i] [N.el C 0,cK] τ:=by
   intro cK gz A c P t q Pb Ob M y j v τ h Sv ej a2 ev z
   have js:0≤j∧j<n:=by rw[ej];exact⟨Int.emod_nonneg _ (by omega),Int.emod_lt_of_pos _ hn0⟩
   have tm:at'.tmod n=j:=by rw[ej];exact Int.tmod_eq_emod_of_nonneg iM.1
   have pv:0≤v∧v≤65535:=by omega
   have JV:=z.cK
   simp only[ko,sJ,aF,bc,bN]
   rw[JV]
   simp only[yu,aF]
   refine(show pW [.agg cK.toArray,N.env C 0] _ τ→_ from fun hh=>by rw[JV]at hh;exact hh) ?_
   refine h.wr hN hC vk z js.1 js.2 (by omega) (fun A' P' t' q' ua M' y' LU τ' h' z' aaM=>?_) fun A' P' t' q' ua M' m τ' h' em eE eV eL php phs=>?_
   ·rw[z'.cK]
    simp only[yu,qF,aF]
    exact on at' true _ 0 gz A' c P' t' q' Pb ua M' y' j v τ' iM h' (fun e=>(by cases e)) fun _=>⟨Sv,ej,a2,ev,by rw[z'.cK]at z';exact z'⟩
   ·have yQ:=Vg.aL h'.hw.ext
    have h4:=h'.hw.ob 4 (.inr (.inr (.inr ⟨rfl,.inr rfl⟩)))
    rw[em]at h4
    have s31:∀{x y z:Value},sub [x,y,z] 1 1 false=some y:=fun{_ _ _}=>rfl
    simp only[yu,qF,s31,aF]
    refine tJ.done h'.aZ h4 ?_
    simp only[gs,Xm,Uf,eE,aF]
    rw[HS (by omega),tm]
    simp only[fx js.1 js.2,Nat.zero_add]
    rw[h'.lds js.1 js.2,eV]
    simp only[we,sI,DW,aF]
    rw[HS (by omega),tm]
    rw[yQ.ix iM.1 a2]
    simp only[aI,fx js.1 js.2,Nat.zero_add]
    rw[←ev]
    refine h'.told vk js.1 js.2 pv eL fun Ob2 M2 τ2 h2=>?_
    rw[IntWalk.i64_in (at'+1) (by omega)]
    exact on (at'+1) false _ 0 _ A' c P' t' q' Pb Ob2 M2 y (-1) 0 τ2 (by omega) h2 (fun _=>⟨⟨rfl,php,phs⟩,_,_,_,rfl⟩) fun e=>(by cases e)
  have TC:∀ k:Int,nP (fun v _=>v=.bool true) (cL fun v _=>v=.bool true) R (eZ (fun v _=>v=.bool true) (cL fun v _=>v=.bool true) R) [s2,s3,.slice (some ⟨pm,0,none⟩) n 1,.slice (some ⟨ps,0,none⟩) n 1,.pointer (some ⟨pc,0,none⟩),.int .i64 at',.bool bz,.int .i64 i,.int .i64 k] [N.el C w0,cK] υ:=by
   intro k
   simp only[nP,sK,g98,aF,bc,bN,Int.reduceNeg]
   by_cases ck:k=0
   ·simp only[ck,aF,Int.reduceNeg]
    refine h.co hN hC vk (by omega) fun A' c' t' q' ua τ' ⟨htt,h6⟩ h'=>?_
    exact on at' bz cK (-1) gz A' c' P t' q' Pb ua _ y j v τ' iM h' B_ fun e=>by
     obtain⟨Sv,ej,a2,ev,z⟩:=Kh e
     exact⟨Sv,ej,a2,ev,z.ws.co htt h6,z.cK,by rw[bk (by decide)];exact z.p3,by rw[bk (by decide)];exact z.p4⟩
   simp only[ck,aF,Int.reduceNeg]
   cases bz with
   | true=>
    obtain⟨Sv,ej,a2,ev,z⟩:=Kh rfl
    simp only[aF]
    exact lays cK gz A c P t q Pb Ob M y j v υ h Sv ej a2 ev z
   | false=>
    obtain⟨⟨ej,hp,hs⟩,a,b,d,e14⟩:=B_ rfl
    subst ej
    subst e14
    have yQ:=Vg.aL h.hw.ext
    simp only[yQ.len,aF]
    have nothing:=on at' false [.pointer a,.pointer b,.bool d] 0 gz A c P t q Pb Ob M y (-1) v υ iM (h.more (by omega)) (fun _=>⟨⟨rfl,hp,hs⟩,a,b,d,rfl⟩) fun e=>(by cases e)
    by_cases g1:(len2:Int)≤at'
    ·simp only[g1,aF];exact nothing
    by_cases g2:(60:Int)≤at'
    ·simp only[g1,g2,aF];exact nothing
    clear nothing
    simp only[g1,g2,v_,sH,aF,bc]
    have a2:at'<len2:=by omega
    have Sv:at'<60:=by omega
    have js:0≤at' % n∧at' % n<n:=⟨Int.emod_nonneg _ (by omega),Int.emod_lt_of_pos _ hn0⟩
    have tm:at'.tmod n=at' % n:=Int.tmod_eq_emod_of_nonneg iM.1
    have S8:=h.hw.ob 1 (.inr (.inl rfl))
    rw[h.p1.1,h.p1.2]at S8
    have bp:∀ K:Value→Prop,xF (aM [(0,1),(1,1)] [.int .i64 0,.int .u64 0] []) [] K=K (.agg #[.int .i64 0,.int .u64 0]):=fun K=>nr rfl
    have bq:∀(x y z:Int) (K:Value→Prop),xF (aM [(0,1),(1,1),(2,1),(3,1),(4,1)] [.int .i64 0,.int .u64 0,.int .i64 0,.int .i64 0,.int .i64 0] [0,1,3]) [.int .i64 x,.int .u64 y,.int .i64 z] K=K (.agg #[.int .i64 x,.int .u64 y,.int .i64 0,.int .i64 z,.int .i64 0]):=fun _ _ _ K=>nr rfl
    have bw:∀(x y:Option Addr) (K:Value→Prop),xF (aM [(0,1),(1,1),(2,1)] [.pointer none,.pointer none,.bool false] [0,1]) [.pointer x,.pointer y] K=K (.agg #[.pointer x,.pointer y,.bool false]):=fun _ _ K=>nr rfl
    have bgn:∀(qb pb:Nat) (HA:Int→Nat) (ua:Int→List Nat) (M':Int→Tg) τ2,aZ N A τ2→Hw N (Tg.w N) σ (Lb true) HA ua M' τ2→(HA 3=qb∧M' 3=.row (uy 0 0))→(HA 4=pb∧M' 4=.ak (Ak.new 2 (gm (at' % n)) 0 (gv at' % 65536) 0 false))→(∀ k,k≤2→HA k=Pb k∧M' k=M k) →
      ko (fun v _=>v=.bool true) (cL fun v _=>v=.bool true) R (eZ (fun v _=>v=.bool true) (cL fun v _=>v=.bool true) R) [s2,s3,.slice (some ⟨pm,0,none⟩) n 1,.slice (some ⟨ps,0,none⟩) n 1,.pointer (some ⟨pc,0,none⟩),.int .i64 at',.bool true,.int .i64 i] [N.el C 0,[.pointer (some ⟨qb,0,none⟩),.pointer (some ⟨pb,0,none⟩),.bool false]] τ2:=fun qb pb HA ua M' τ2 nG I1 e3 e4 eP=>by
     obtain⟨h',z'⟩:=h.begin hp hs js.1 js.2 (show 0≤gv at' % 65536∧gv at' % 65536≤65535 by omega) nG I1 e3 e4 eP
     exact lays _ gz A c P t q HA ua M' _ (at' % n) (gv at' % 65536) τ2 h' Sv rfl a2 rfl z'
    have LV:∀(qb pb:Nat) τ1 τ2,υ.get qb=none→τ1.get qb=some ⟨uy 0 0,true⟩→Ext υ τ1→τ1.get pb=none→tJ N pb [pb] (Ak.new 2 (gm (at' % n)) 0 (gv at' % 65536) 0 false) τ2→Ext τ1 τ2→ko (fun v _=>v=.bool true) (cL fun v _=>v=.bool true) R (eZ (fun v _=>v=.bool true) (cL fun v _=>v=.bool true) R) [s2,s3,.slice (some ⟨pm,0,none⟩) n 1,.slice (some ⟨ps,0,none⟩) n 1,.pointer (some ⟨pc,0,none⟩),.int .i64 at',.bool true,.int .i64 i] [N.el C 0,[.pointer (some ⟨qb,0,none⟩),.pointer (some ⟨pb,0,none⟩),.bool false]] τ2:=fun qb pb τ1 τ2 m1 g1 x1 m2 o2 x2=>
     bgn qb pb _ _ _ τ2 ((h.aZ.ext x1).ext x2) (h.hw.two (x:=.row (uy 0 0)) (y:=.ak (Ak.new 2 (gm (at' % n)) 0 (gv at' % 65536) 0 false)) (.inl ⟨rfl,rfl⟩) m1 ⟨g1,List.mem_singleton.2 rfl,fun i hi=>by rw[List.mem_singleton.1 hi];exact h.aZ.new m1⟩ x1 m2 o2 x2) ⟨by rw[bk (by decide),bu],by rw[bk (by decide),bu]⟩ ⟨bu,bu⟩ fun k hk=>⟨by rw[bk (by omega),bk (by omega)],by rw[bk (by omega),bk (by omega)]⟩
    have abU:∀(qb pb:Nat) τ1 τ2,υ.get pb=none→tJ N pb [pb] (Ak.new 2 (gm (at' % n)) 0 (gv at' % 65536) 0 false) τ1→Ext υ τ1→τ1.get qb=none→τ2.get qb=some ⟨uy 0 0,true⟩→Ext τ1 τ2→ko (fun v _=>v=.bool true) (cL fun v _=>v=.bool true) R (eZ (fun v _=>v=.bool true) (cL fun v _=>v=.bool true) R) [s2,s3,.slice (some ⟨pm,0,none⟩) n 1,.slice (some ⟨ps,0,none⟩) n 1,.pointer (some ⟨pc,0,none⟩),.int .i64 at',.bool true,.int .i64 i] [N.el C 0,[.pointer (some ⟨qb,0,none⟩),.pointer (some ⟨pb,0,none⟩),.bool false]] τ2:=fun qb pb τ1 τ2 m1 o1 x1 m2 g2 x2=>
     bgn qb pb _ _ _ τ2 ((h.aZ.ext x1).ext x2) (h.hw.two (x:=.ak (Ak.new 2 (gm (at' % n)) 0 (gv at' % 65536) 0 false)) (y:=.row (uy 0 0)) (.inr ⟨rfl,rfl⟩) m1 o1 x1 m2 ⟨g2,List.mem_singleton.2 rfl,fun i hi=>by rw[List.mem_singleton.1 hi];exact(h.aZ.ext x1).new m2⟩ x2) ⟨bu,bu⟩ ⟨by rw[bk (by decide),bu],by rw[bk (by decide),bu]⟩ fun k hk=>⟨by rw[bk (by omega),bk (by omega)],by rw[bk (by omega),bk (by omega)]⟩
    clear bgn lays
    have xr:∀ K:Value→Prop,xF (aq .rem .no) [.int .i64 at',.int .i64 n] K=K (.int .i64 (at' % n)):=fun K=>by rw[HS (by omega),tm]
    simp only[bp]
    refine⟨?_,?_,?_,?_,?_⟩
    ·refine gA (cs:=uy 0 0) rfl fun qb τ1 m1 g1 x1=>?_
     try simp only[xr,fx js.1 js.2,Nat.zero_add]
     rw[jr (x1 _ _ S8.1) js.1 js.2]
     try simp only[xr,fx js.1 js.2,Nat.zero_add,aI,bq,aF,bc,bN,Nat.reduceAdd,reduceIte,Int.reduceLT,Int.reduceLE,Int.reduceEq,Int.reduceNeg,Int.reduceAdd,Int.reduceSub,Nat.reduceLeDiff,Nat.reduceLT]
     rw[(yQ.aL x1).ix iM.1 a2]
     try simp only[aI,bq]
     refine o_ (h.aZ.ext x1) fun pb τ2 m2 o2 x2=>?_
     simp only[bw,qF,aF]
     exact LV qb pb τ1 τ2 m1 g1 x1 m2 o2 x2
    ·try simp only[xr,fx js.1 js.2,Nat.zero_add]
     rw[jr S8.1 js.1 js.2]
     try simp only[xr,fx js.1 js.2,Nat.zero_add,aI,bq,aF,bc,bN,Nat.reduceAdd,reduceIte,Int.reduceLT,Int.reduceLE,Int.reduceEq,Int.reduceNeg,Int.reduceAdd,Int.reduceSub,Nat.reduceLeDiff,Nat.reduceLT]
     rw[yQ.ix iM.1 a2]
     try simp only[aI,bq]
     refine o_ h.aZ fun pb τ1 m1 o1 x1=>?_
     refine gA (cs:=uy 0 0) rfl fun qb τ2 m2 g2 x2=>?_
     simp only[bw,qF,aF]
     exact abU qb pb τ1 τ2 m1 o1 x1 m2 g2 x2
    ·try simp only[xr,fx js.1 js.2,Nat.zero_add]
     rw[jr S8.1 js.1 js.2]
     try simp only[xr,fx js.1 js.2,Nat.zero_add,aI,bq,aF,bc,bN,Nat.reduceAdd,reduceIte,Int.reduceLT,Int.reduceLE,Int.reduceEq,Int.reduceNeg,Int.reduceAdd,Int.reduceSub,Nat.reduceLeDiff,Nat.reduceLT]
     rw[yQ.ix iM.1 a2]
     try simp only[aI,bq]
     refine gA (cs:=uy 0 0) rfl fun qb τ1 m1 g1 x1=>?_
     try simp only[xr,fx js.1 js.2,Nat.zero_add,aI,bq,aF,bc,bN,Nat.reduceAdd,reduceIte,Int.reduceLT,Int.reduceLE,Int.reduceEq,Int.reduceNeg,Int.reduceAdd,Int.reduceSub,Nat.reduceLeDiff,Nat.reduceLT]
     refine o_ (h.aZ.ext x1) fun pb τ2 m2 o2 x2=>?_
     simp only[bw,qF,aF]
     exact LV qb pb τ1 τ2 m1 g1 x1 m2 o2 x2
    ·try simp only[xr,fx js.1 js.2,Nat.zero_add]
     rw[jr S8.1 js.1 js.2]
     try simp only[xr,fx js.1 js.2,Nat.zero_add,aI,bq,aF,bc,bN,Nat.reduceAdd,reduceIte,Int.reduceLT,Int.reduceLE,Int.reduceEq,Int.reduceNeg,Int.reduceAdd,Int.reduceSub,Nat.reduceLeDiff,Nat.reduceLT]
     refine gA (cs:=uy 0 0) rfl fun qb τ1 m1 g1 x1=>?_
     try simp only[xr,fx js.1 js.2,Nat.zero_add,aI,bq,aF,bc,bN,Nat.reduceAdd,reduceIte,Int.reduceLT,Int.reduceLE,Int.reduceEq,Int.reduceNeg,Int.reduceAdd,Int.reduceSub,Nat.reduceLeDiff,Nat.reduceLT]
     rw[(yQ.aL x1).ix iM.1 a2]
     try simp only[aI,bq]
     refine o_ (h.aZ.ext x1) fun pb τ2 m2 o2 x2=>?_
     simp only[bw,qF,aF]
     exact LV qb pb τ1 τ2 m1 g1 x1 m2 o2 x2
    ·try simp only[xr,fx js.1 js.2,Nat.zero_add]
     rw[yQ.ix iM.1 a2]
     try simp only[aI]
     refine gA (cs:=uy 0 0) rfl fun qb τ1 m1 g1 x1=>?_
     try simp only[xr,fx js.1 js.2,Nat.zero_add,aI,bq,aF,bc,bN,Nat.reduceAdd,reduceIte,Int.reduceLT,Int.reduceLE,Int.reduceEq,Int.reduceNeg,Int.reduceAdd,Int.reduceSub,Nat.reduceLeDiff,Nat.reduceLT]
     rw[jr (x1 _ _ S8.1) js.1 js.2]
     try simp only[bq]
     refine o_ (h.aZ.ext x1) fun pb τ2 m2 o2 x2=>?_
     simp only[bw,qF,aF]
     exact LV qb pb τ1 τ2 m1 g1 x1 m2 o2 x2
  have j16:∀ u:Bool,(u=true→i<ET)→nO (fun v _=>v=.bool true) (cL fun v _=>v=.bool true) R (eZ (fun v _=>v=.bool true) (cL fun v _=>v=.bool true) R) (nP (fun v _=>v=.bool true) (cL fun v _=>v=.bool true) R (eZ (fun v _=>v=.bool true) (cL fun v _=>v=.bool true) R)) [s2,s3,.slice (some ⟨pm,0,none⟩) n 1,.slice (some ⟨ps,0,none⟩) n 1,.pointer (some ⟨pc,0,none⟩),.int .i64 at',.bool bz,.int .i64 i,.int .i64 (i % 2),.bool u] [N.el C w0,cK] υ:=by
   intro u hu
   cases u with
   | true=>
    simp only[nO,oJ,aF]
    rw[RL.ix i0 (hu rfl)]
    simp only[OZ]
    exact TC _
   | false=>
    simp only[nO,oJ,aF]
    exact TC _
  by_cases c3:i<ET
  ·simp only[c3,aF]
   by_cases c4:i<1500
   ·simp only[c4,decide_true];exact j16 true fun _=>c3
   ·simp only[c4,decide_false];exact j16 false fun e=>(by cases e)
  ·simp only[c3,aF]
   exact j16 false fun e=>(by cases e)
 have bu1:∀{x:Int},iu 1 1 [.int .u64 0] [0] [.int .u64 x] []=some [.int .u64 x]:=fun{_}=>nr rfl
 have sb1:∀{x y z:Int},sub [.int .i64 0,.int .u64 x,.int .i64 y,.int .i64 z] 1 1 false=some (.int .u64 x):=fun{_ _ _}=>rfl
 refine jY (fun x ts ls τ=>∃(i:Int) (n nr pm ps:Nat) (gm gz:Int→Int) (f:Int→Int) (dd:Int→Do) (li:Int→Bool) (V:Int→Int→Int) (A:Ar) (b:Bg),x=(25-i).toNat∧ts=[s,s2,s3,.slice (some ⟨pm,0,none⟩) nr 1,.slice (some ⟨ps,0,none⟩) nr 1,.int .i64 i]∧ls=[N.el C 0]∧(0≤i∧i≤25)∧Dv C (2*i) n dd li V A.w b∧(∀ i,lD C i→A.w i=0)∧Pa C A (1000+200*i)∧A.n=C.len.toNat∧aZ N A τ∧Ext σ τ ∧
   Rk .u64 N σ pm nr gm τ∧Rk .i64 N σ ps nr gz τ∧pm≠ps∧(nr:Int)≤i∧(∀ k:Int,0≤k→k<nr→(0≤f k∧f k<n)∧li (f k)=true∧gm k=(dd (f k)).n∧(dd (f k)).own=false∧gz k=0∧V (f k) 0=0)∧(∀ k l:Int,0≤k→k<nr→0≤l→l<nr→k≠l→f k≠f l)) ?_ (n:=25)
  ⟨0,0,0,p0,q0,_,_,fun _=>0,_,_,_,A,_,rfl,rfl,rfl,⟨Int.le_refl 0,by decide⟩,dv0,IU,hP.mono (by omega),Vb,(hA0.ext x1).ext x2,(S4.trans x1).trans x2,r0,r1,n0,Int.le_refl 0,fun k k0 k1=>by omega,fun k l k0 k1=>by omega⟩
 clear dv0 IU hP Vb hA0 S4 hA hE x0 r0 r1 n0 g0 g1 m0 m1 x1 x2
 rintro x ts ls τ3 ⟨i,n,nr,pm,ps,gm,gz,f,dd,li,V,A1,b,rfl,rfl,rfl,⟨i0,i1⟩,RM,pD,F7,HJ,m_,HL,I6,K4,MB,nri,nE,XG⟩ R Jh
 have MO:=hg.aL HL
 have U_:=RM.dw.Uw
 have RP:qZ (fun v _=>v=.bool true) [s2,s3,.slice (some ⟨pm,0,none⟩) nr 1,.slice (some ⟨ps,0,none⟩) nr 1] [N.el C 0] τ3:=by
  have e0:A1.w 0=0:=pD 0 (.inl rfl)
  have UQ:=RM.wi hC (by omega) ⟨by omega,by omega,by omega⟩ F7.ok.w e0 ⟨F7.n,by omega⟩
  have one:=fun k (k0:0≤k) (k1:k<(nr:Int))=>RM.one hC (by omega) (nE k k0 k1).1.1 (nE k k0 k1).1.2 (nE k k0 k1).2.1
  refine fin nr pm ps gm gz (MP.of C A1.w) A1 τ3 (by omega) UQ (by show(-1:Int)<0;decide) (by show(-1:Int)<0;decide) ⟨fun k k0 k1=>?_,fun k l k0 k1 l0 l1 ne=>?_⟩ (fun k k0 k1=>?_) (lh F7.ok (by omega)) HJ m_ HL I6 K4 MB
  ·obtain⟨⟨f0,f1⟩,l1,e1,e2,e3,e4⟩:=nE k k0 k1
   obtain⟨u1,u2,u3,u4,u5,u6,u7⟩:=one k k0 k1
   have hd:=RM.dw.hd (f k) f0 f1
   have hzm:=bT hd.2.1
   rw[e1]
   exact⟨hd.1.1,hd.1.2.1,hd.1.2.2.2,u1,u2,u4.trans e2,by rw[show(MP.of C A1.w).z (aJ (dd (f k)).n)=_ from u3];omega⟩
  ·rw[(nE k k0 k1).2.2.1,(nE l l0 l1).2.2.1]
   exact RM.dw.Rg _ _ (nE k k0 k1).1.1 (nE k k0 k1).1.2 (nE l l0 l1).1.1 (nE l l0 l1).1.2 (nE k k0 k1).2.1 (nE l l0 l1).2.1 (XG k l k0 k1 l0 l1 ne)
  ·obtain⟨⟨f0,f1⟩,l1,e1,e2,e3,e4⟩:=nE k k0 k1
   obtain⟨u1,u2,u3,u4,u5,u6,u7⟩:=one k k0 k1
   have hd:=RM.dw.hd (f k) f0 f1
   have hzm:=bT hd.2.1
   rw[e3,e1]
   refine⟨?_,by decide,by decide⟩
   rw[show(MP.of C A1.w).L (aJ (dd (f k)).n) 0=V (f k) 0 from u5 0 (Int.le_refl 0) (by omega),e4]
 simp only[dB,c_,MO.len,aF]
 by_cases c1:i<len
 rotate_left
 ·simp only[c1,aF];exact RP
 by_cases c2:i<25
 rotate_left
 ·simp only[c1,c2,aF];exact RP
 clear fin RP
 simp only[c1,c2,vZ,sG,aF,bc,bN]
 rw[MO.ix i0 c1]
 simp only[Su,aF]
 have hz:0≤ai (1+g i % 16):=by unfold ai;(repeat' split)<;>omega
 have hzb:1≤1+g i % 16∧1+g i % 16≤16:=by omega
 generalize 1+g i % 16=z at hz hzb
 rw[IntWalk.i64_in z (by omega)]
 refine LF hN hC m_ F7 (by omega) RM (by omega) hz (fun oE oV oS A' τ4 hf La MR Km K8 nG m9=>?_) fun oV oS A' τ4 s' F j b' d hF hgt hd La MR Km K8 nG m9=>?_
 ·have S4:¬ oE=0:=by omega
  simp only[gs,Xm,S4,nN,lP,aF,bc]
  rw[IntWalk.i64_in (i+1) (by omega)]
  exact Jh (25-(i+1)).toNat _ _ _ (by omega) ⟨i+1,n,nr,pm,ps,gm,gz,f,dd,li,V,A',b,rfl,rfl,rfl,⟨by omega,by omega⟩,La.mono (by omega),fun x hx=>by rw[K8 x hx];exact pD x hx,MR.mono (by omega),by rw[Km];exact HJ,nG,HL.pA m9 fun y hy=>vk.all y hy,I6.aL m9,K4.aL m9,MB,by omega,nE,XG⟩
 ·have S3:Ext σ τ4:=HL.pA m9 fun y hy=>vk.all y hy
  have U1:=I6.aL m9
  have Rz:=K4.aL m9
  have ed:m5 dd n d n=d:=af rfl
  have eo:∀ k:Int,k<n→m5 dd n d k=dd k:=fun k k1=>ae (by omega)
  have eli:∀ k:Int,k<n→fa li n true k=li k:=fun k k1=>ae (by omega)
  have eV:∀ k:Int,k<n→nV V n k 0=V k 0:=fun k k1=>ae (by omega)
  simp only[gs,Xm,sb1,HS (show(3:Int)≠0 by decide),aF]
  have tm:i.tmod 3=i % 3:=Int.tmod_eq_emod_of_nonneg i0
  rw[tm]
  by_cases c3:0<i % 3
  ·simp only[c3,aF]
   have hd3:d.own=false:=hd.1
   refine(show tf [N.env C 0,.int .u64 (m5 dd n d n).n,.bool (m5 dd n d n).own] _ _→_ from fun hh=>by rw[ed,hd3]at hh;exact hh) ?_
   refine LL (k:=n) hN hC hG nG MR (by omega) La (by omega) (by omega) (by omega) (af rfl) fun oH oV' SH A6 τ5 aaU hP6 hn6 aaQ hA6 hK6=>?_
   have Vs:Ext σ τ5:=S3.pA hK6 fun y hy=>vk.all y hy
   simp only[nN,lP,aF]
   rw[IntWalk.i64_in (i+1) (by omega)]
   refine Jh (25-(i+1)).toNat _ _ _ (by omega) ⟨i+1,n+1,nr,pm,ps,gm,gz,f,_,_,_,A6,_,rfl,rfl,rfl,⟨by omega,by omega⟩,aaU.mono (by omega),fun x hx=>by rw[aaQ x hx,K8 x hx];exact pD x hx,hP6.mono (by omega),by rw[hn6,Km];exact HJ,hA6,Vs,U1.aL hK6,Rz.aL hK6,MB,by omega,fun k k0 k1=>?_,XG⟩
   obtain⟨⟨f0,f1⟩,l1,e1,e2,e3,e4⟩:=nE k k0 k1
   rw[eo _ f1,eV _ f1]
   exact⟨⟨f0,by omega⟩,by rw[show fa (fa li n true) n false (f k)=fa li n true (f k)from ae (by omega),eli _ f1];exact l1,e1,e2,e3,e4⟩
  ·simp only[c3,bu1,buI,aF]
   have eg:(fun l:Int=>if l=nr then d.n else gm l) nr=d.n:=af rfl
   rw[←eg]
   refine U1.add (g':=fun l:Int=>if l=nr then d.n else gm l) nG S3 (by omega) (fun l l0 l1=>ae (by omega)) fun id υ dQ U0 Kq Vs E4=>?_
   have aaJ:=Rz.off E4 (Ne.symm MB)
   have ne3:=Rz.ne dQ
   have eg2:(fun l:Int=>if l=nr then(0:Int)else gz l) nr=0:=af rfl
   rw[←eg2]
   refine aaJ.add (g':=fun l:Int=>if l=nr then(0:Int)else gz l) Kq Vs (by omega) (fun l l0 l1=>ae (by omega)) fun id2 υ2 aaR aaI hA4 hE4 hK4=>?_
   have aaK:=U0.off hK4 (Ne.symm ne3)
   have ne4:=U0.ne aaR
   simp only[nN,lP,aF]
   rw[IntWalk.i64_in (i+1) (by omega)]
   refine Jh (25-(i+1)).toNat _ _ _ (by omega) ⟨i+1,n+1,nr+1,id,id2,_,_,fun l:Int=>if l=nr then(n:Int)else f l,_,_,_,A',_,rfl,by simp,rfl,⟨by omega,by omega⟩,La.mono (by omega),fun x hx=>by rw[K8 x hx];exact pD x hx,MR.mono (by omega),by rw[Km];exact HJ,hA4,hE4,aaK,aaI,ne4,by omega,fun k k0 k1=>?_,fun k l k0 k1 l0 l1 ne=>?_⟩
   ·by_cases e:k=nr
    ·subst e
     simp only[af,ed]
     exact⟨⟨by omega,by omega⟩,af rfl,trivial,hd.1,trivial,af rfl⟩
    ·obtain⟨⟨f0,f1⟩,l1,e1,e2,e3,e4⟩:=nE k k0 (by omega)
     simp only[ae e,eo _ f1,eV _ f1,eli _ f1]
     exact⟨⟨f0,by omega⟩,l1,e1,e2,e3,e4⟩
   ·dsimp only
    by_cases e1:k=nr
    ·rw[af e1,ae (by omega)]
     have:=(nE l l0 (by omega)).1
     omega
    ·rw[ae e1]
     by_cases e2:l=nr
     ·rw[af e2]
      have:=(nE k k0 (by omega)).1
      omega
     ·rw[ae e2];exact XG k l k0 (by omega) l0 (by omega) ne
end Go.Fl
