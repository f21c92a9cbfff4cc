/- What the claim leans on, part 5: own readings of the program's functions, what they come to, laws of them. No condition. -/
import Derived.Test.YtedpfdkhebmocaaGreatZCompactWrites4
set_option linter.unusedVariables false
set_option linter.unusedSimpArgs false
namespace Go.Fl
open Go
variable{C:Cf}{w:Int→Int}{P:MP}{A:Ar}{who:Int}
structure sr(C:Cf)(P:MP)(at' zj cw:Int)(w:Int→Int):Prop where
 ab:0≤at'∧at'<C.C
 sB:w (C.chunk at')=cw
 c2:bF cw=2
 s2:∀ j,0≤j→j<C.C→bF (w (C.chunk j))=2→j=at'
 ev:∀ r,0≤r→r<C.S→P.lv r=true→∀ x,0≤x→x<zj→a8 (w (C.slot r))≠C.base at'+x
theorem sr.aL{at' zj cw:Int}{w':Int→Int}(h:sr C P at' zj cw w)(hk:∀ j,0≤j→j<C.C→w' (C.chunk j)=w (C.chunk j)∨j≠at'∧bF (w' (C.chunk j))≠2)(hs:∀ r,0≤r→r<C.S→w' (C.slot r)=w (C.slot r)∨∀ x,0≤x→x<zj→a8 (w' (C.slot r))≠C.base at'+x):sr C P at' zj cw w':=by
 refine⟨h.ab,?_,h.c2,fun j j0 j1 q=>?_,fun r r0 r1 l x x0 x1=>?_⟩
 ·rcases hk at' h.ab.1 h.ab.2 with q|q
  ·rw[q];exact h.sB
  ·exact absurd rfl q.1
 ·rcases hk j j0 j1 with e|e
  ·rw[e]at q;exact h.s2 j j0 j1 q
  ·exact absurd q e.2
 ·rcases hs r r0 r1 with e|e
  ·rw[e];exact h.ev r r0 r1 l x x0 x1
  ·exact e x x0 x1
def rq(C:Cf)(z n:Int):Int:=(C.R-1-n)*(3*z+5)
theorem SF{z n:Int}(hz:0≤z)(hn:n<C.R):0≤rq C z n:=Int.mul_nonneg (by omega) (by omega)
theorem rq1{z n:Int}:rq C z (n+1)=rq C z n-(3*z+5):=by
 unfold rq;rw[show C.R-1-(n+1)=(C.R-1-n)-1 by omega,Int.sub_mul,Int.one_mul]
structure qC(C:Cf)(P:MP)(at' pos s:Int)(m:Mv):Prop where
 sb:0≤s∧s<C.S
 l:P.lv s=true
 oZ:m.a.addr=C.base at'+pos∧m.a.hk=2∧m.a.hz=P.z s∧m.a.hs=s∧m.a.hg=P.g s∧m.a.ho=P.o s
 nn:0≤m.a.nn∧m.a.nn≤C.R
 n1:m.a.pc≠11→m.a.nn<C.R
structure Mv0(C:Cf)(P:MP)(T at' pos cw q:Int)(m:Mv)(w:Int→Int):Prop where
 em:m=Mv.new (C.base at'+pos) (nF (w (C.base at'+pos))) (gH (w (C.base at'+pos))) (tx (w (C.base at'+pos))) (E3 (w (C.base at'+pos))) (sy (w (C.base at'+pos)))
 k:nF (w (C.base at'+pos))=2
 t:0≤tx (w (C.base at'+pos))∧tx (w (C.base at'+pos))<C.S
 c:0≤ai (gH (w (C.base at'+pos)))
 mw:MW C P T (-1) (-1) w
 ev:sr C P at' pos cw w
 x:0≤pos∧pos<C.W
 qb:19+C.C+3*gH (w (C.base at'+pos))+rq C (gH (w (C.base at'+pos))) 0≤q
structure Sy(C:Cf)(P:MP)(T at' pos cw s v q:Int)(m:Mv)(w u:Int→Int)(k:Int):Prop where
 pc:m.a.pc=1
 fX:m.a.fX=false
 mw:MW C P T (-1) (-1) u
 ob:mC C P T u s (C.base at'+pos) v
 pa:qq C P u s (C.base at'+pos) at' pos
 aw:m.a.w=aK 1 (C.base at'+pos) (P.g s) v
 ev:sr C P at' pos cw u
 off:∀ i,i≠2+ai (P.z s)→(∀ j,0≤j→j<C.C→i≠C.chunk j)→w i=u i
 pl:Cd C (ai (P.z s)) u k m.t w
 i:m.a.i=0
 nn:m.a.nn=0
 cell:m.a.cell=0
 bd:∀ i,0≤w i∧w i<18446744073709551616
 kb:0≤k∧18+C.C+3*P.z s+rq C (P.z s) 0-k≤q
structure yV(C:Cf)(P:MP)(at' s sa sc xs:Int)(w:Int→Int):Prop where
 r_:sa=C.base sc+xs
 j:0≤sc∧sc<C.C
 ne:sc≠at'
 x:0≤xs∧xs+P.rm s≤bD (w (C.chunk sc))
 m:xs % P.rm s=0
 c:bL (w (C.chunk sc))=ai (P.z s)
 st:bF (w (C.chunk sc))=1
 nu:∀ r,0≤r→r<C.S→P.lv r=true→r≠s→a8 (w (C.slot r))≠sa
def R7(C:Cf)(P:MP)(s sa i:Int)(w:Int→Int):Prop:=∀ k,0≤k→k<i→w (sa+1+k)=aT (P.L s k) false 0
structure DL(P:MP)(s a v i:Int)(w:Int→Int):Prop where
 f:∀ k,0≤k→k<i→kN (w (a+1+k))=P.L s k∧lL (w (a+1+k))=true∧kX (w (a+1+k))=v
 c:∀ k,0≤k→i≤k→k<P.z s→uB v (P.L s k) (w (a+1+k))
inductive Sz(C:Cf)(P:MP)(a s v q:Int)(m:Mv)(w:Int→Int):Prop where
 | load (p:m.a.pc=4) (hi:m.a.i<P.z s) (f:DL P s a v m.a.i w) (hq:rq C (P.z s) m.a.nn+4+3*(P.z s-m.a.i)≤q)
 | freeze (p:m.a.pc=5) (hi:m.a.i<P.z s) (f:DL P s a v m.a.i w) (hq:rq C (P.z s) m.a.nn+(if w (a+1+m.a.i)=m.a.cell then 3 else 5)+3*(P.z s-m.a.i)≤q)
 | copy (p:m.a.pc=6) (hi:m.a.i<P.z s) (f:DL P s a v (m.a.i+1) w) (e:kN m.a.cell=P.L s m.a.i) (hq:rq C (P.z s) m.a.nn+2+3*(P.z s-m.a.i)≤q)
 | gE (p:m.a.pc=7) (hi:m.a.i=P.z s) (f:DL P s a v m.a.i w) (hq:rq C (P.z s) m.a.nn+4≤q)
inductive HC(C:Cf)(P:MP)(T a s v q:Int)(m:Mv)(w:Int→Int):Prop where
 | head (p:m.a.pc=2) (mw:MW C P T (-1) m.a.sa w) (ob:mC C P T w s a v) (hq:rq C (P.z s) m.a.nn+6+3*P.z s≤q)
 | gF (p:m.a.pc=0) (hd:w m.a.sa=aW 1 (P.z s) s (P.g s) (P.o s)) (mw:MW C P T (-1) m.a.sa w) (ob:∃ u,mC C P T w s a u) (hq:rq C (P.z s) m.a.nn+8+3*P.z s≤q)
 | mark (p:m.a.pc=3) (hd:w m.a.sa=aW 1 (P.z s) s (P.g s) (P.o s)) (mw:MW C P T (-1) m.a.sa w) (ob:mC C P T w s a v) (hq:rq C (P.z s) m.a.nn+5+3*P.z s≤q)
 | go (hd:w m.a.sa=aW 1 (P.z s) s (P.g s) (P.o s)) (mw:MW C P T s m.a.sa w) (sl:w (C.slot s)=aK 2 a (P.g s) v) (cp:R7 C P s m.a.sa m.a.i w) (c:Sz C P a s v q m w)
 | stop (hp:4≤m.a.pc∧m.a.pc≤7) (hi:m.a.pc≠7→m.a.i<P.z s) (hd:w m.a.sa=aW 1 (P.z s) s (P.g s) (P.o s)) (mw:MW C P T (-1) m.a.sa w) (ob:mC C P T w s a (v+1))
   (hq:rq C (P.z s) m.a.nn+4+(if m.a.pc=7 then 0 else 3*(P.z s-m.a.i)+(if m.a.pc=4 then 0 else if m.a.pc=5 then(if w (a+1+m.a.i)=m.a.cell then -1 else 1)else -2))≤q)
 | shown (p:m.a.pc=8) (hd:w m.a.sa=aW 1 (P.z s) s (P.g s) (P.o s)) (mw:MW C P T s m.a.sa w) (sl:w (C.slot s)=aK 1 m.a.sa (P.g s) (v+1)) (cp:R7 C P s m.a.sa (P.z s) w) (hq:3≤q)
 | count (p:m.a.pc=9∨m.a.pc=10) (mw:MW C P T (-1) (-1) w) (sl:a8 (w (C.slot s))=m.a.sa) (hq:11-m.a.pc≤q)
 | kill (p:m.a.pc=11) (o:m.a.out=3) (hd:w m.a.sa=aW 1 (P.z s) s (P.g s) (P.o s)) (mw:MW C P T (-1) m.a.sa w) (ob:∃ u,mC C P T w s a u) (hq:1≤q)
structure mr(C:Cf)(P:MP)(T at' pos cw s v xs q:Int)(m:Mv)(w:Int→Int):Prop where
 fX:m.a.fX=true
 vb:0≤v∧v≤T
 aw:m.a.pc=0∨m.a.pc=11∨m.a.w=aK 1 (C.base at'+pos) (P.g s) v
 ab:0≤m.a.w∧m.a.w<18446744073709551616
 ha:w (C.base at'+pos)=aW 2 (P.z s) s (P.g s) (P.o s)
 pa:qq C P w s (C.base at'+pos) at' pos
 uW:bD (w (C.chunk at'))≤C.W∧bD (w (C.chunk m.a.sc))≤C.W
 sp:yV C P at' s m.a.sa m.a.sc xs w
 nh:¬(8≤m.a.pc∧m.a.pc≤10)→0≤P.hs→P.ha≠m.a.sa
 ev:sr C P at' pos cw w
 ib:0≤m.a.i∧m.a.i≤P.z s
 cb:0≤m.a.cell∧m.a.cell<18446744073709551616
 ph:HC C P T (C.base at'+pos) s v q m w
def Da(C:Cf)(P:MP)(a:Int)(w:Int→Int):Prop:=∀ r,0≤r→r<C.S→P.lv r=true→a8 (w (C.slot r))≠a
theorem Mv0.step(hC:C.ok)(hS:MS C P){T at' pos cw q:Int}{m:Mv}(h:Mv0 C P T at' pos cw q m A.w)(hT:T≤4194000) :
  (m.step C who A).2.2=(A.by who).load (C.slot m.a.hs)∧((m.step C who A).1=true∧(m.step C who A).2.1.a.out=2∧Da C P (C.base at'+pos) A.w ∨
   (m.step C who A).1=false∧∃ s v,qC C P at' pos s (m.step C who A).2.1∧Sy C P (T+1) at' pos cw s v (q-1) (m.step C who A).2.1 A.w A.w 0):=by
 have hS':=h.mw
 have hq:=h.qb
 have hz:=(bT h.c).1
 have iD:=hC.C
 have hR:=hC.R
 have ht:T≤4194303:=by omega
 have e0:m.a.pc=0:=by rw[h.em];rfl
 have eg:m.a.fX=false:=by rw[h.em];rfl
 have es:m.a.hs=tx (A.w (C.base at'+pos)):=by rw[h.em];rfl
 have eG:m.a.hg=E3 (A.w (C.base at'+pos)):=by rw[h.em];rfl
 have ea:m.a.addr=C.base at'+pos:=by rw[h.em];rfl
 have qc:0≤m.a.hs∧m.a.hs<C.S:=by rw[es];exact h.t
 have dead:P.lv m.a.hs=false→cF (A.w (C.slot m.a.hs))≠1∧cF (A.w (C.slot m.a.hs))≠4:=fun l=>by
  rw[h.mw.dd _ qc.1 qc.2 l];exact hS.dd _ qc.1 qc.2 l
 have live:P.lv m.a.hs=true→∃ a v,mC C P T A.w m.a.hs a v∧cF (A.w (C.slot m.a.hs))=1∧a8 (A.w (C.slot m.a.hs))=a∧b9 (A.w (C.slot m.a.hs))=P.g m.a.hs∧cO (A.w (C.slot m.a.hs))=v:=fun l=>by
  obtain⟨a,v,o⟩:=h.mw.lv _ qc.1 qc.2 l (by omega)
  exact⟨a,v,o,o.sl hC hS ht h.mw.ck qc.1 qc.2 l⟩
 have n4:cF (A.w (C.slot m.a.hs))≠4:=by
  cases l:P.lv m.a.hs with
  | false=>exact(dead l).2
  | true=>obtain⟨a,v,o,u,_⟩:=live l;omega
 have nv:cF (A.w (C.slot m.a.hs))=1→cO (A.w (C.slot m.a.hs))≤T∧P.lv m.a.hs=true:=fun u=>by
  cases l:P.lv m.a.hs with
  | false=>exact absurd u (dead l).1
  | true=>obtain⟨a,v,o,u1,u2,u3,u4⟩:=live l;have:=o.vb;exact⟨by omega,rfl⟩
 unfold Mv.step
 rw[af e0,ae (fun q=>n4 q.1)]
 by_cases c2:cF (A.w (C.slot m.a.hs))≠1∨b9 (A.w (C.slot m.a.hs))≠m.a.hg∨a8 (A.w (C.slot m.a.hs))≠m.a.addr
 ·rw[af c2]
  refine⟨rfl,.inl ⟨by dsimp only;rw[eg];rfl,rfl,fun r r0 r1 l e=>?_⟩⟩
  obtain⟨⟨_,_,f3,f4,_⟩,v,o⟩:=h.mw.at' hC hS ht r0 r1 l (by omega) e
  have er:r=m.a.hs:=by rw[es];exact f3.symm
  subst er
  obtain⟨a,v,o,u1,u2,u3,u4⟩:=live l
  rcases c2 with c|c|c
  ·exact c u1
  ·exact c (by rw[u3,eG];exact f4.symm)
  ·exact c (by rw[ea];exact e)
 ·rw[ae c2]
  have b1:cF (A.w (C.slot m.a.hs))=1:=Decidable.byContradiction fun q=>c2 (.inl q)
  have b2:b9 (A.w (C.slot m.a.hs))=m.a.hg:=Decidable.byContradiction fun q=>c2 (.inr (.inl q))
  have b3:a8 (A.w (C.slot m.a.hs))=m.a.addr:=Decidable.byContradiction fun q=>c2 (.inr (.inr q))
  obtain⟨nv1,l⟩:=nv b1
  have v3:¬ 4194302≤cO (A.w (C.slot m.a.hs)):=by omega
  rw[ae v3,ae (by rw[eg];simp)]
  obtain⟨⟨f1,f2,f3,f4,f5⟩,v,o⟩:=h.mw.at' hC hS ht qc.1 qc.2 l (by omega) (b3.trans ea)
  obtain⟨j,x,p⟩:=o.pl
  have pb:=p.bd hC hS (h.mw.ck j p.jb.1 p.jb.2).u qc.1 qc.2 l
  have rr:=hS.rm qc.1 qc.2 l
  obtain⟨rfl,rfl⟩:=bW hC h.ev.ab.1 h.ev.ab.2 h.x.1 h.x.2 p.jb.1 p.jb.2 p.xb.1 (by omega) p.ea
  have nn0:m.a.nn=0:=by rw[h.em];rfl
  refine⟨rfl,.inr ⟨rfl,m.a.hs,v,⟨qc,l,⟨ea,by rw[h.em];exact h.k,?_,rfl,?_,?_⟩,by show 0≤m.a.nn∧m.a.nn≤C.R;omega,fun _=>by show m.a.nn<C.R;omega⟩,⟨rfl,eg,h.mw.mono (by omega),?_,p,o.sw,h.ev,fun _ _ _=>rfl,?_,by rw[h.em];rfl,nn0,by rw[h.em];rfl,h.mw.bd,Int.le_refl 0,by rw[←f2];omega⟩⟩⟩
  ·rw[←f2,h.em];rfl
  ·rw[←f4,h.em];rfl
  ·rw[←f5,h.em];rfl
  ·exact o.aL (by omega) rfl (fun _ _ q=>q) (by omega) fun _ _ _=>rfl
  ·rw[←f2]
   show Cd C _ A.w 0 (Pl.new (ai m.a.hz)) A.w
   rw[show m.a.hz=gH (A.w (C.base at'+pos)) by rw[h.em];rfl]
   exact Cd.new
end Go.Fl
namespace Go.Fl
open Go
variable{C:Cf}{w:Int→Int}{P:MP}{A:Ar}{who:Int}
theorem Cw.eq{c:Int}{w X u:Int→Int}(h:Cw C c w X)(h1:∀ i,i≠2+c→(∀ j,0≤j→j<C.C→i≠C.chunk j)→w i=u i)(h2:∀ i,i≠2+c→(∀ j,0≤j→j<C.C→i≠C.chunk j)→X i=u i):w=X:=by
 funext i
 by_cases e:i=2+c
 ·rw[e];exact h.o
 ·by_cases q:∃ j,(0≤j∧j<C.C)∧i=C.chunk j
  ·obtain⟨j,⟨j0,j1⟩,rfl⟩:=q;exact h.k j j0 j1
  ·have q':∀ j,0≤j→j<C.C→i≠C.chunk j:=fun j j0 j1 e=>q ⟨j,⟨j0,j1⟩,e⟩
   rw[h1 i e q',h2 i e q']
theorem MW.tb(hC:C.ok){t ms cp c:Int}(h:MW C P t ms cp w)(ht:t≤4194303)(hc:0≤c∧c≤3):Tb C c w:=
 ⟨hc,h.op c hc.1 hc.2,fun j j0 j1=>h.bd _,fun j j0 j1 _=>by have:=(h.ck j j0 j1).n;omega⟩
theorem MW.aa0(hC:C.ok)(hS:MS C P){t t' c j:Int}(h:MW C P t (-1) (-1) w)(ht:t≤t')(h4:t'≤4194303)(hc:0≤c∧c≤3)(j0:0≤j)(j1:j<C.C)(h1:bF (w (C.chunk j))=1)(h2:bL (w (C.chunk j))=c)(h3:bD (w (C.chunk j))+aA c≤C.W) :
  MW C P t' (-1) (C.base j+bD (w (C.chunk j))) (aX w (C.chunk j) (aR 1 c (bD (w (C.chunk j))+aA c) (eM (w (C.chunk j))))):=by
 have r:=bR hc.1 hc.2
 have k:=h.ck j j0 j1
 have u:=mW (w (C.chunk j))
 have n:=jT (w (C.chunk j))
 have hW:=hC.W
 obtain⟨v1,v2,v3,v4⟩:=lF (st:=1) (c:=c) (us:=bD (w (C.chunk j))+aA c) (sp:=eM (w (C.chunk j))) (by decide) (by omega) (by omega) n
 have km:=k.m
 rw[h2]at km
 have kn:=k.n
 refine h.chunk hC hS ht j0 j1 (bS _ _ _ _) ⟨by rw[v2];exact hc.2,by rw[v3];exact h3,by rw[v3,v2,Int.add_emod_right];exact km,by rw[v4];omega,fun q=>by rw[v1]at q;omega⟩ (.inr rfl) (fun _ x x0 x1 xm jd=>?_) (fun s a x s0 s1 l _ e p=>?_) (by omega) (fun _ x p=>?_) (fun q=>by rw[v1]at q;omega)
 ·rw[v3]at x1
  rw[v2]at xm
  by_cases q:x<bD (w (C.chunk j))
  ·exact h.hd j x j0 j1 (.inl h1) x0 q (by rw[h2];exact xm) (by have:=a_ hC j0 j1 x0;have:=hC.T;have:=hC.S;have:=hC.C;omega)
  ·exfalso
   refine jd ?_
   have e1:(x-bD (w (C.chunk j))) % aA c=0:=by rw[Int.sub_emod,xm,km];rfl
   rw[Int.emod_eq_of_lt (by omega) (by omega)]at e1
   omega
 ·rw[v1,v2,v3];exact⟨.inl rfl,h2.symm,by omega⟩
 ·exact⟨p.ea,p.jb,by rw[aE,v3];have:=p.xb;omega,p.m,by rw[aE,v2,←h2];exact p.c,by rw[aE,v1];decide,fun q=>by rw[aE,v1]at q;omega⟩
theorem MW.aaZ(hC:C.ok)(hS:MS C P){t t' c f:Int}(h:MW C P t (-1) (-1) w)(ht:t+1≤t')(h4:t'≤4194303)(hc:0≤c∧c≤3)(j0:0≤f)(j1:f<C.C)(h1:bF (w (C.chunk f))=0) :
  MW C P t' (-1) (C.base f) (aX (t2 C c f w) (C.chunk f) (aR 1 c (aA c) (eM (w (C.chunk f))+1))):=by
 have r:=bR hc.1 hc.2
 have n:=(h.ck f j0 j1).n
 have n0:=jT (w (C.chunk f))
 have hW:=hC.W;have iD:=hC.C
 obtain⟨a1,a2,a3,a4⟩:=lF (st:=1) (c:=c) (us:=0) (sp:=eM (w (C.chunk f))+1) (by decide) (by omega) (by omega) (by omega)
 obtain⟨v1,v2,v3,v4⟩:=lF (st:=1) (c:=c) (us:=aA c) (sp:=eM (w (C.chunk f))+1) (by decide) (by omega) (by omega) (by omega)
 have g1:MW C P t' (-1) (-1) (t1 C c f w):=h.chunk hC hS (by omega) j0 j1 (bS _ _ _ _) ⟨by unfold Ca;rw[a2];exact hc.2,by unfold Ca;rw[a3];omega,by unfold Ca;rw[a3,Int.zero_emod],by unfold Ca;rw[a4];omega,fun q=>by unfold Ca at q;rw[a1]at q;omega⟩ (.inl rfl)
  (fun _ x x0 x1=>by unfold Ca at x1;rw[a3]at x1;omega) (fun s a x s0 s1 l _ e p=>by have:=p.st;omega) (by omega) (fun _ x p=>absurd h1 p.st) (fun q=>by unfold Ca at q;rw[a1]at q;omega)
 have g2:MW C P t' (-1) (-1) (t2 C c f w):=g1.low hC hS (Int.le_refl _) (by omega) (.inr (.inr ⟨c,hc.1,hc.2,rfl,by omega⟩))
 have ef:t2 C c f w (C.chunk f)=Ca c (eM (w (C.chunk f))):=by unfold t2 t1;rw[az _ _ (by have:=hC.T;have:=hC.S;unfold Cf.chunk;omega),aE]
 refine g2.chunk hC hS (Int.le_refl _) j0 j1 (bS _ _ _ _) ⟨by rw[v2];exact hc.2,by rw[v3];omega,by rw[v3,v2,Int.emod_self],by rw[v4];omega,fun q=>by rw[v1]at q;omega⟩ (.inr rfl) (fun _ x x0 x1 xm jd=>?_) (fun s a x s0 s1 l _ e p=>?_) h4 (fun _ x p=>?_) (fun q=>by rw[v1]at q;omega)
 ·rw[v3]at x1
  rw[v2]at xm
  rw[Int.emod_eq_of_lt x0 x1]at xm
  rw[xm,Int.add_zero]at jd
  exact absurd rfl jd
 ·have:=hS.rm s0 s1 l
  have px:=p.xb
  rw[ef]at px
  unfold Ca at px
  rw[a3]at px
  omega
 ·have px:=p.xb
  have pc:=p.c
  rw[ef]at px pc
  unfold Ca at px pc
  rw[a3]at px
  rw[a2]at pc
  unfold MP.rm at px
  rw[←pc]at px
  omega
theorem Sy.step(hC:C.ok)(hS:MS C P){T at' pos cw s v q k:Int}{m:Mv}{u:Int→Int}(hc:qC C P at' pos s m)(h:Sy C P T at' pos cw s v q m A.w u k)(hT:T≤4194000)(hq:1≤q) :
  PlT C who (ai (P.z s)) A (m.step C who A).2.2∧((m.step C who A).1=false∧qC C P at' pos s (m.step C who A).2.1∧((∃ k',Sy C P (T+1) at' pos cw s v (q-1) (m.step C who A).2.1 (m.step C who A).2.2.w u k')∨∃ xs,mr C P (T+1) at' pos cw s v xs (q-1) (m.step C who A).2.1 (m.step C who A).2.2.w) ∨
   (m.step C who A).1=true∧(m.step C who A).2.1.a.out=4∧(m.step C who A).2.2.w=u∧∀ j,0≤j→j<C.C→bF (u (C.chunk j))≠0):=by
 have rr:=hS.rm hc.sb.1 hc.sb.2 hc.l
 have bE:0≤ai (P.z s)∧ai (P.z s)≤3:=⟨(hS.lv s hc.sb.1 hc.sb.2 hc.l).1,(bH _).2⟩
 have tb:=h.mw.tb hC (c:=ai (P.z s)) (by omega) bE
 have hk:=h.kb
 have C3:=h.pl.C3 hC
 obtain⟨tt,aaL⟩:=h.pl.step (who:=who) hC tb
 have pcs:m.a.pc=1:=h.pc
 have fX:=h.fX
 have KN:∀ i,i≠2+ai (P.z s)→(∀ j,0≤j→j<C.C→i≠C.chunk j)→(m.t.step C who A).2.2.w i=u i:=fun i i0 i1=>by
  obtain⟨a,ha,e|⟨y,_,e⟩⟩:=tt.ex
  ·rw[e];exact h.off i i0 i1
  ·rw[e,fl,az _ _ ?_]
   ·exact h.off i i0 i1
   ·rcases ha with rfl|⟨j,j0,j1,rfl⟩
    ·exact i0
    ·exact i1 j j0 j1
 have bd':∀ i,0≤(m.t.step C who A).2.2.w i∧(m.t.step C who A).2.2.w i<18446744073709551616:=by
  obtain⟨a,ha,e|⟨y,yb,e⟩⟩:=tt.ex
  ·rw[e];exact h.bd
  ·rw[e];exact pF h.bd yb
 have es:m.step C who A=if(m.t.step C who A).1=false then(false,{ m with t:=(m.t.step C who A).2.1 },(m.t.step C who A).2.2)
  else if(m.t.step C who A).2.1.ok=true then(false,⟨{ m.a with sa:=(m.t.step C who A).2.1.sa,sc:=(m.t.step C who A).2.1.sc,fX:=true,pc:=2 },(m.t.step C who A).2.1⟩,(m.t.step C who A).2.2)
  else(true,⟨({ m.a with sa:=0,sc:=0,fX:=false,pc:=2 }:Mo).mh 4,(m.t.step C who A).2.1⟩,(m.t.step C who A).2.2):=by
  unfold Mv.step;rw[ae (by omega),af pcs]
 rw[es]
 rcases aaL with⟨b,hg⟩|⟨b,hd⟩
 ·rw[af b]
  refine⟨tt,.inl ⟨rfl,⟨hc.sb,hc.l,hc.oZ,hc.nn,fun _=>hc.n1 (by omega)⟩,.inl ⟨k+1,pcs,fX,h.mw.mono (by omega),?_,h.pa,h.aw,h.ev,KN,hg,h.i,h.nn,h.cell,bd',by omega⟩⟩⟩
  exact h.ob.aL (by omega) rfl (fun _ _ q=>q) (by omega) fun _ _ _=>rfl
 ·have b':¬(m.t.step C who A).1=false:=by rw[b];simp
  rw[ae b']
  have hT3:=hC.T;have hS3:=hC.S;have ma:=hC.C
  have aaq:∀ j,0≤j→C.chunk j≠2+ai (P.z s):=fun j j0=>by unfold Cf.chunk;omega
  have Cb:=h.ev.ab
  have c2:bF (u (C.chunk at'))=2:=by rw[h.ev.sB];exact h.ev.c2
  have pax:=h.pa.xb
  have X4:=(h.mw.ck at' Cb.1 Cb.2).u
  have pb:=h.pa.bd hC hS X4 hc.sb.1 hc.sb.2 hc.l
  have e0:C.base 0=6+C.T+2*C.S+3*C.C:=by unfold Cf.base;omega
  have fin:∀(j xs:Int) (X:Int→Int),(0≤j∧j<C.C)→bF (u (C.chunk j))≠2→(0≤xs∧xs<C.W)→(m.t.step C who A).2.1.sa=C.base j+xs→(m.t.step C who A).2.1.sc=j→(m.t.step C who A).2.2.w=X→(∀ i,i≠2+ai (P.z s)→i≠C.chunk j→X i=u i) →
    MW C P (T+1) (-1) (C.base j+xs) X→xs+P.rm s≤bD (X (C.chunk j))→xs % P.rm s=0→bL (X (C.chunk j))=ai (P.z s)→bF (X (C.chunk j))=1→(bF (u (C.chunk j))=0∨bD (u (C.chunk j))≤xs) →
    mr C P (T+1) at' pos cw s v xs (q-1) ⟨{ m.a with sa:=(m.t.step C who A).2.1.sa,sc:=(m.t.step C who A).2.1.sc,fX:=true,pc:=2 },(m.t.step C who A).2.1⟩ (m.t.step C who A).2.2.w:=by
   intro j xs X hj hj2 UO r_ esc eX eo ss x1 x2 x3 x4 x5
   rw[r_,esc,eX]
   have ne:j≠at':=fun e=>hj2 (by rw[e];exact c2)
   have XX:∀ r,0≤r→r<C.S→X (C.slot r)=u (C.slot r):=fun r r0 r1=>eo _ (by unfold Cf.slot;omega) (by unfold Cf.slot Cf.chunk;omega)
   have xc:∀ i,i≠j→0≤i→X (C.chunk i)=u (C.chunk i):=fun i e i0=>eo _ (aaq i i0) (gK e).1
   have xb:∀ i y,0≤i→i<C.C→0≤y→X (C.base i+y)=u (C.base i+y):=fun i y i0 i1 y0=>eo _ (by have:=a_ hC i0 i1 y0;omega) (by have:=a_ hC i0 i1 y0;have:=cP hC hj.1 hj.2;omega)
   have xa:∀ d,0≤d→X (C.base at'+pos+d)=u (C.base at'+pos+d):=fun d d0=>by rw[Int.add_assoc];exact xb _ _ Cb.1 Cb.2 (by omega)
   have nu':∀ r,0≤r→r<C.S→P.lv r=true→a8 (u (C.slot r))≠C.base j+xs:=fun r r0 r1 l e=>by
    obtain⟨_,v',o⟩:=h.mw.at' hC hS (by omega) r0 r1 l (by omega) e
    obtain⟨j',x',p⟩:=o.pl
    have px:=p.xb
    have pu:=(h.mw.ck j' p.jb.1 p.jb.2).u
    have prm:=hS.rm r0 r1 l
    obtain⟨e1,e2⟩:=bW hC hj.1 hj.2 UO.1 UO.2 p.jb.1 p.jb.2 px.1 (by omega) p.ea
    subst e1
    rcases x5 with q|q
    ·have:=p.st;omega
    ·omega
   have rq':=SF (C:=C) (z:=P.z s) (n:=0) (by omega) (by have:=hC.R;omega)
   refine⟨rfl,by have:=h.ob.vb;omega,.inr (.inr h.aw),by rw[h.aw];exact cV _ _ _ _,?_,⟨rfl,Cb,?_,h.pa.m,?_,?_⟩,⟨(ss.ck at' Cb.1 Cb.2).u,(ss.ck j hj.1 hj.2).u⟩,⟨rfl,hj,ne,⟨UO.1,x1⟩,x2,x3,x4,fun r r0 r1 l _=>by rw[XX r r0 r1];exact nu' r r0 r1 l⟩,fun _ p e=>?_,?_,?_,?_,.head rfl ss ?_ (by show rq C (P.z s) m.a.nn+6+3*P.z s≤q-1;rw[h.nn];omega)⟩
   ·have:=xa 0 (Int.le_refl 0)
    rw[Int.add_zero]at this
    rw[this,h.ob.hd];rfl
   ·rw[xc at' (Ne.symm ne) Cb.1];exact pax
   ·rw[xc at' (Ne.symm ne) Cb.1];exact h.pa.c
   ·rw[xc at' (Ne.symm ne) Cb.1];exact h.pa.st
   ·obtain⟨sb,_,⟨j',x',pl⟩,_⟩:=h.mw.ho p
    have px:=pl.xb
    have pu:=(h.mw.ck j' pl.jb.1 pl.jb.2).u
    have prm:=hS.rm sb.1.1 sb.1.2 sb.2
    have e':C.base j+xs=C.base j'+x':=by rw[←pl.ea];exact e.symm
    obtain⟨e1,e2⟩:=bW hC hj.1 hj.2 UO.1 UO.2 pl.jb.1 pl.jb.2 px.1 (by omega) e'
    subst e1
    rcases x5 with q|q
    ·exact pl.st q
    ·omega
   ·refine h.ev.aL (fun i i0 i1=>?_) fun r r0 r1=>.inl (XX r r0 r1)
    by_cases e:i=j
    ·exact .inr ⟨by rw[e];exact ne,by rw[e,x4];decide⟩
    ·exact .inl (xc i e i0)
   ·show 0≤m.a.i∧m.a.i≤P.z s
    rw[h.i];omega
   ·show 0≤m.a.cell∧m.a.cell<_
    rw[h.cell];decide
   ·refine h.ob.aL (by omega) (XX s hc.sb.1 hc.sb.2) (fun i y p=>?_) (by omega) fun d d0 _=>xa d d0
    have pe:=p.xb
    have pu:=(h.mw.ck i p.jb.1 p.jb.2).u
    obtain⟨e1,e2⟩:=bW hC Cb.1 Cb.2 pax.1 (by omega) p.jb.1 p.jb.2 pe.1 (by omega) p.ea
    have ei:i≠j:=by omega
    exact⟨p.ea,p.jb,by rw[xc i ei p.jb.1];exact p.xb,p.m,by rw[xc i ei p.jb.1];exact p.c,by rw[xc i ei p.jb.1];exact p.st⟩
  obtain⟨_,⟨g,ok,e1,e2,e3⟩|⟨g,f,hf,ok,e1,e2,e3⟩|⟨g,ok,e1,e2⟩⟩:=hd
  ·rw[af ok]
   have g1:0≤(m.t.step C who A).2.1.sc∧(m.t.step C who A).2.1.sc<C.C:=by have:=h.mw.op _ bE.1 bE.2;have:=g.1;omega
   obtain⟨_,g2,g3,g4⟩:=g
   rw[←e1]at g2 g3 g4
   have kk:=h.mw.ck _ g1.1 g1.2
   have km:=kk.m
   rw[g3]at km
   have ub:=mW (u (C.chunk (m.t.step C who A).2.1.sc))
   have hX:=e3.eq KN (fun i i0 i1=>az _ _ (i1 _ g1.1 g1.2))
   have hm:=h.mw.aa0 (t':=T+1) hC hS (by omega) (by omega) bE g1.1 g1.2 g2 g3 g4
   obtain⟨v1,v2,v3,_⟩:=lF (st:=1) (c:=ai (P.z s)) (us:=bD (u (C.chunk (m.t.step C who A).2.1.sc))+aA (ai (P.z s))) (sp:=eM (u (C.chunk (m.t.step C who A).2.1.sc))) (by decide) (by omega) (by have:=bR bE.1 bE.2;have:=hS.cc;omega) (jT _)
   refine⟨tt,.inl ⟨rfl,⟨hc.sb,hc.l,hc.oZ,hc.nn,fun _=>hc.n1 (by omega)⟩,.inr ⟨_,fin _ _ _ g1 (by rw[g2];decide) ⟨ub.1,by have:=rr.1;unfold MP.rm at this;omega⟩ e2 rfl hX (fun i i0 i1=>az _ _ i1) hm ?_ km ?_ ?_ (.inr (Int.le_refl _))⟩⟩⟩
   ·rw[aE,v3];exact Int.le_refl _
   ·rw[aE,v2]
   ·rw[aE,v1]
  ·rw[af ok]
   obtain⟨f1,f2,f3,f4⟩:=hf
   have hX:=e3.eq KN (fun i i0 i1=>by rw[az _ _ (i1 _ f1.1 f1.2)];unfold t2 t1;rw[az _ _ i0,az _ _ (i1 _ f1.1 f1.2)])
   have hm:=h.mw.aaZ (t':=T+1) hC hS (by omega) (by omega) bE f1.1 f1.2 f2
   obtain⟨v1,v2,v3,_⟩:=lF (st:=1) (c:=ai (P.z s)) (us:=aA (ai (P.z s))) (sp:=eM (u (C.chunk f))+1) (by decide) (by omega) (by have:=bR bE.1 bE.2;omega) (by have:=(h.mw.ck f f1.1 f1.2).n;have:=jT (u (C.chunk f));omega)
   refine⟨tt,.inl ⟨rfl,⟨hc.sb,hc.l,hc.oZ,hc.nn,fun _=>hc.n1 (by omega)⟩,.inr ⟨0,fin f 0 _ f1 (by rw[f2];decide) ⟨Int.le_refl 0,by have:=hC.W;omega⟩ (by rw[Int.add_zero];exact e2) e1 hX (fun i i0 i1=>by rw[az _ _ i1];unfold t2 t1;rw[az _ _ i0,az _ _ i1]) (by rw[Int.add_zero];exact hm) ?_ (Int.zero_emod _) ?_ ?_ (.inl f2)⟩⟩⟩
   ·rw[aE,v3];unfold MP.rm;omega
   ·rw[aE,v2]
   ·rw[aE,v1]
  ·have ok':¬(m.t.step C who A).2.1.ok=true:=by rw[ok];simp
   rw[ae ok']
   exact⟨tt,.inr ⟨rfl,rfl,e1.eq KN fun _ _ _=>rfl,e2⟩⟩
end Go.Fl
namespace Go.Fl
open Go
variable{C:Cf}{w:Int→Int}{P:MP}{A:Ar}{who:Int}
theorem vi{p d r:Int}(h:p % r=0)(h0:0<d)(h1:d<r):(p+d) % r≠0:=by
 rw[Int.add_emod,h,Int.zero_add,Int.emod_emod,Int.emod_eq_of_lt (by omega) h1];omega
theorem mC.mono{t t' s a v:Int}(h:mC C P t w s a v)(ht:t≤t'):mC C P t' w s a v:=⟨h.sw,by have:=h.vb;omega,h.pl,h.hd,h.ce⟩
theorem MW.rel{t ms cp:Int}(h:MW C P t ms cp w)(hh:HD C P (w cp) cp):MW C P t ms (-1) w:=by
 refine⟨h.bd,h.ck,fun j x j0 j1 hs x0 x1 xm jd=>?_,h.dd,h.lv,h.op,h.ep,h.sn,h.ins,h.ho⟩
 by_cases e:C.base j+x=cp
 ·rw[e];exact hh
 ·exact h.hd j x j0 j1 hs x0 x1 xm e
section
variable{T at' pos cw s v xs q:Int}{m:Mv}
theorem qq.off(hC:C.ok)(hS:MS C P){r j b x y:Int}(s0:0≤s∧s<C.S)(sl:P.lv s=true)(r0:0≤r)(r1:r<C.S)(l:P.lv r=true)(p:qq C P w r b j x)(hc:bL (w (C.chunk j))=ai (P.z s))(hm:y % P.rm s=0)(jd:b≠C.base j+y){d:Int}(hd:0≤d∧d<P.rm s):¬(x≤y+d∧y+d≤x+P.z r):=fun⟨h1,h2⟩=>by
 have rs:=hS.rm s0.1 s0.2 sl
 have rr:=hS.rm r0 r1 l
 have e:P.rm s=P.rm r:=by unfold MP.rm;rw[←hc,p.c]
 have:=p.apart (k:=y+d-x) rr.2.2 rr.1.1 e hm hd (by omega) (by omega)
 subst this
 exact jd p.ea
theorem mr.sA(hC:C.ok)(hS:MS C P)(hc:qC C P at' pos s m)(h:mr C P T at' pos cw s v xs q m w):((3≤P.rm s∧P.rm s≤17)∧(1≤P.z s∧P.z s≤16)∧P.z s+1≤P.rm s)∧(0≤pos∧pos+P.rm s≤C.W)∧(0≤xs∧xs+P.rm s≤C.W)∧(C.base 0≤C.base at'+pos∧C.base at'+pos≤1048575)∧(C.base 0≤m.a.sa∧m.a.sa≤1048575)∧(0≤P.g s∧P.g s≤65535)∧(0≤s∧s≤65535)∧(∀ x y,0≤x→x<C.W→0≤y→y<C.W→C.base at'+x≠C.base m.a.sc+y):=by
 have rr:=hS.rm hc.sb.1 hc.sb.2 hc.l
 have px:=h.pa.xb
 have sx:=h.sp.x
 have u:=h.uW
 have b1:=b6 hC h.ev.ab.1 h.ev.ab.2 px.1 (by omega)
 have b2:=b6 hC h.sp.j.1 h.sp.j.2 sx.1 (by omega)
 have l:=br hC
 have g1:=a_ hC h.ev.ab.1 h.ev.ab.2 px.1
 have g2:=a_ hC h.sp.j.1 h.sp.j.2 sx.1
 have e0:C.base 0=6+C.T+2*C.S+3*C.C:=by unfold Cf.base;omega
 have hs:=h.sp.r_
 have rX:=hC.S
 have hcs:=hc.sb
 refine⟨rr,⟨px.1,by omega⟩,⟨sx.1,by omega⟩,⟨by omega,by omega⟩,⟨by omega,by omega⟩,(hS.lv s hc.sb.1 hc.sb.2 hc.l).2.1,⟨hcs.1,by omega⟩,fun x y x0 x1 y0 y1 e=>h.sp.ne (bW hC h.ev.ab.1 h.ev.ab.2 x0 x1 h.sp.j.1 h.sp.j.2 y0 y1 e).1.symm⟩
theorem yV.aL{sa sc:Int}{w':Int→Int}(h:yV C P at' s sa sc xs w)(hk:w' (C.chunk sc)=w (C.chunk sc))(hs:∀ r,0≤r→r<C.S→r≠s→w' (C.slot r)=w (C.slot r)):yV C P at' s sa sc xs w':=
 ⟨h.r_,h.j,h.ne,by rw[hk];exact h.x,h.m,by rw[hk];exact h.c,by rw[hk];exact h.st,fun r r0 r1 l ne=>by rw[hs r r0 r1 ne];exact h.nu r r0 r1 l ne⟩
theorem qq.aL{a j x:Int}{w':Int→Int}(h:qq C P w s a j x)(hk:w' (C.chunk j)=w (C.chunk j)):qq C P w' s a j x:=
 ⟨h.ea,h.jb,by rw[hk];exact h.xb,h.m,by rw[hk];exact h.c,by rw[hk];exact h.st⟩
theorem mr.next(h:mr C P T at' pos cw s v xs q m w){m':Mv}{w':Int→Int}{v':Int}(e:m'.a.fX=m.a.fX∧m'.a.sa=m.a.sa∧m'.a.sc=m.a.sc)(hv:0≤v'∧v'≤T+1)(aw:m'.a.pc=0∨m'.a.pc=11∨m'.a.w=aK 1 (C.base at'+pos) (P.g s) v')(ab:0≤m'.a.w∧m'.a.w<18446744073709551616)(hi:0≤m'.a.i∧m'.a.i≤P.z s)(hb:0≤m'.a.cell∧m'.a.cell<18446744073709551616)
  (hk:∀ j,0≤j→j<C.C→w' (C.chunk j)=w (C.chunk j)) (hs:∀ r,0≤r→r<C.S→r≠s→w' (C.slot r)=w (C.slot r)) (hss:w' (C.slot s)=w (C.slot s)∨∀ x,0≤x→x<pos→a8 (w' (C.slot s))≠C.base at'+x) (ha:w' (C.base at'+pos)=w (C.base at'+pos))
  (nh:¬(8≤m'.a.pc∧m'.a.pc≤10)→¬(8≤m.a.pc∧m.a.pc≤10)) (ph:HC C P (T+1) (C.base at'+pos) s v' (q-1) m' w'):mr C P (T+1) at' pos cw s v' xs (q-1) m' w':=by
 obtain⟨e1,e2,e3⟩:=e
 refine⟨by rw[e1];exact h.fX,hv,aw,ab,by rw[ha];exact h.ha,h.pa.aL (hk _ h.ev.ab.1 h.ev.ab.2),?_,?_,fun n p=>by rw[e2];exact h.nh (nh n) p,?_,hi,hb,ph⟩
 ·rw[e3,hk _ h.ev.ab.1 h.ev.ab.2,hk _ h.sp.j.1 h.sp.j.2];exact h.uW
 ·rw[e2,e3];exact h.sp.aL (hk _ h.sp.j.1 h.sp.j.2) hs
 ·refine h.ev.aL (fun j j0 j1=>.inl (hk j j0 j1)) fun r r0 r1=>?_
  by_cases e:r=s
  ·subst e;exact hss
  ·exact .inl (hs r r0 r1 e)
def yl(C:Cf)(P:MP)(T at' pos cw s xs q:Int)(R:Bool×Mv×Ar):Prop:=
 R.1=false∧qC C P at' pos s R.2.1∧(∃ v',mr C P (T+1) at' pos cw s v' xs (q-1) R.2.1 R.2.2.w) ∨
 R.1=true∧(R.2.1.a.out=1∧Da C P (C.base at'+pos) R.2.2.w∨R.2.1.a.out=3)∧MW C P (T+1) (-1) (-1) R.2.2.w∧sr C P at' pos cw R.2.2.w
theorem HC.pc(h:HC C P T (C.base at'+pos) s v q m w):0≤m.a.pc∧m.a.pc≤11∧m.a.pc≠1:=by
 cases h with
 | head p=>omega
 | gF p=>omega
 | mark p=>omega
 | go hd mw sl cp c=>cases c<;>omega
 | stop p=>omega
 | shown p=>omega
 | count p=>omega
 | kill p=>omega
theorem mr.off(hC:C.ok)(hS:MS C P)(hc:qC C P at' pos s m)(h:mr C P T at' pos cw s v xs q m w){y v':Int}(hy:0≤y∧y<P.rm s) :
  (∀ i,i≠m.a.sa+y→aX w (m.a.sa+y) v' i=w i)∧(∀ j,0≤j→j<C.C→aX w (m.a.sa+y) v' (C.chunk j)=w (C.chunk j))∧(∀ r,0≤r→r<C.S→aX w (m.a.sa+y) v' (C.slot r)=w (C.slot r))∧(∀ d,0≤d→d<C.W→aX w (m.a.sa+y) v' (C.base at'+d)=w (C.base at'+d))∧m.a.sa+y=C.base m.a.sc+(xs+y):=by
 obtain⟨rr,gp,gx,ga,gs,gg,gS,tC⟩:=h.sA hC hS hc
 have e0:C.base 0=6+C.T+2*C.S+3*C.C:=by unfold Cf.base;omega
 have iD:=hC.C
 have ws:∀ i,i≠m.a.sa+y→aX w (m.a.sa+y) v' i=w i:=fun i e=>az _ _ e
 have es:m.a.sa+y=C.base m.a.sc+(xs+y):=by rw[h.sp.r_];omega
 exact⟨ws,fun j j0 j1=>ws _ (by have:=cP hC j0 j1;omega),fun r r0 r1=>ws _ (by unfold Cf.slot;omega),fun d d0 d1=>ws _ (by rw[es];exact tC _ _ d0 d1 (by omega) (by omega)),es⟩
theorem mr.word(hC:C.ok)(hS:MS C P)(hc:qC C P at' pos s m)(h:mr C P T at' pos cw s v xs q m w)(hT:T≤4194000){ms y v':Int}(mw:MW C P T ms m.a.sa w)(hms:ms = -1∧a8 (w (C.slot s))=C.base at'+pos∨ms=s)(hy:0≤y∧y<P.rm s)(hv:0≤v'∧v'<18446744073709551616)
  (hq:0≤P.hs→P.ha≠m.a.sa∨y=0∧P.hh v'∨0<y∧a8 (w (C.slot P.hs))=P.ha):MW C P (T+1) ms m.a.sa (aX w (m.a.sa+y) v'):=by
 obtain⟨rr,gp,gx,ga,gs,gg,gS,tC⟩:=h.sA hC hS hc
 obtain⟨_,_,_,_,es⟩:=h.off (v':=v') hC hS hc hy
 rw[es]
 refine mw.word hC hS (by omega) h.sp.j.1 h.sp.j.2 (by omega) (by omega) hv (fun _ _ e jd=>?_) (fun r b r0 r1 l ne e x p=>?_) (by omega) (fun p x pl h1 h2=>?_)
 ·exfalso
  rw[h.sp.c]at e
  by_cases y0:y=0
  ·subst y0;exact jd (by rw[h.sp.r_];omega)
  ·exact absurd e (vi h.sp.m (by omega) (by unfold MP.rm at rr hy;omega))
 ·refine qq.off hC hS hc.sb hc.l r0 r1 l p h.sp.c h.sp.m (fun e'=>?_) hy
  by_cases er:r=s
  ·subst er
   rcases hms with⟨_,q⟩|q
   ·exact tC pos xs (by omega) (by omega) gx.1 (by omega) (by rw[←q,e,e'])
   ·exact ne q.symm
  ·exact h.sp.nu r r0 r1 l er (by rw[e,e',h.sp.r_])
 ·have sb:=(mw.ho p).sb
  by_cases e:P.ha=m.a.sa
  ·have pe:=pl.ea
   have hx:x=xs:=by
    have px:=pl.xb
    have:=(mw.ck _ h.sp.j.1 h.sp.j.2).u
    have rh:=hS.rm sb.1.1 sb.1.2 sb.2
    exact(bW hC h.sp.j.1 h.sp.j.2 px.1 (by omega) h.sp.j.1 h.sp.j.2 gx.1 (by omega) (by rw[←pe,e,h.sp.r_])).2
   rcases hq p with q|⟨q1,q2⟩|⟨q1,q2⟩
   ·exact absurd e q
   ·exact .inr ⟨by omega,q2⟩
   ·exact .inl ⟨by omega,.inl q2⟩
  ·exact absurd ⟨h1,h2⟩ (pl.off hC hS sb h.sp.c h.sp.m (fun e'=>e (by rw[e',h.sp.r_])) hy)
theorem mr.y5(hC:C.ok)(hS:MS C P)(hc:qC C P at' pos s m)(h:mr C P T at' pos cw s v xs q m A.w)(hT:T≤4194000)(hp:m.a.pc=0):yl C P T at' pos cw s xs q (m.step C who A):=by
 obtain⟨rr,gp,gx,ga,gs,gg,gS,tC⟩:=h.sA hC hS hc
 obtain⟨c1,c2,c3,c4,c5,c6⟩:=hc.oZ
 cases h.ph with
 | gF p hd mw ob hq=>
  obtain⟨u,ob⟩:=ob
  obtain⟨u1,u2,u3,u4⟩:=ob.sl hC hS (by omega) mw.ck hc.sb.1 hc.sb.2 hc.l
  have ub:=ob.vb
  have es:m.step C who A=(false,{ m with a:={ m.a with w:=A.w (C.slot s),pc:=3 } },(A.by who).load (C.slot s)):=by
   unfold Mv.step;rw[af p,c4,ae (by omega),ae (by omega),ae (by omega),af h.fX]
  rw[es]
  exact .inl ⟨rfl,⟨hc.sb,hc.l,hc.oZ,hc.nn,fun _=>hc.n1 (by omega)⟩,u,h.next ⟨rfl,rfl,rfl⟩ ⟨ub.1,by omega⟩ (.inr (.inr ob.sw)) (mw.bd _) h.ib h.cb (fun _ _ _=>rfl) (fun _ _ _ _=>rfl) (.inl rfl) rfl (fun _=>by omega) (.mark rfl hd (mw.mono (by omega)) (ob.mono (by omega)) (by show rq C (P.z s) m.a.nn+5+3*P.z s≤q-1;omega))⟩
 | head p=>omega
 | mark p=>omega
 | go hd mw sl cp c=>exact absurd hp (by cases c<;>omega)
 | stop p=>omega
 | shown p=>omega
 | count p=>omega
 | kill p=>omega
theorem mr.yZ(hC:C.ok)(hS:MS C P)(hc:qC C P at' pos s m)(h:mr C P T at' pos cw s v xs q m A.w)(hT:T≤4194000)(hp:m.a.pc=2):yl C P T at' pos cw s xs q (m.step C who A):=by
 obtain⟨rr,gp,gx,ga,gs,gg,gS,tC⟩:=h.sA hC hS hc
 obtain⟨c1,c2,c3,c4,c5,c6⟩:=hc.oZ
 have pv:=h.vb
 cases h.ph with
 | head p mw ob hq=>
  have es:m.step C who A=(false,{ m with a:={ m.a with pc:=3 } },(A.by who).store m.a.sa (m.a.hd 1)):=by
   unfold Mv.step;rw[ae (by omega),ae (by omega),af hp]
  have eh:m.a.hd 1=aW 1 (P.z s) s (P.g s) (P.o s):=by unfold Mo.hd;rw[c3,c4,c5,c6]
  obtain⟨o1,o2,o3,o4,o5⟩:=h.off (y:=0) (v':=aW 1 (P.z s) s (P.g s) (P.o s)) hC hS hc ⟨Int.le_refl 0,by omega⟩
  have TU:=(ob.sl hC hS (by omega) mw.ck hc.sb.1 hc.sb.2 hc.l).2.1
  have ss:=h.word (y:=0) (v':=aW 1 (P.z s) s (P.g s) (P.o s)) hC hS hc hT mw (.inl ⟨rfl,TU⟩) ⟨Int.le_refl 0,by omega⟩ (kA _ _ _ _ _) fun p'=>.inl (h.nh (by omega) p')
  rw[Int.add_zero]at o1 o2 o3 o4 ss
  rw[es,eh]
  refine .inl ⟨rfl,⟨hc.sb,hc.l,hc.oZ,hc.nn,fun _=>hc.n1 (by omega)⟩,v,h.next ⟨rfl,rfl,rfl⟩ ⟨pv.1,by omega⟩ ?_ h.ab h.ib h.cb o2 (fun r r0 r1 _=>o3 r r0 r1) (.inl (o3 _ hc.sb.1 hc.sb.2)) (o4 _ gp.1 (by omega)) (fun _=>by omega) (.mark rfl (aE _ _ _) ss ?_ (by show rq C (P.z s) m.a.nn+5+3*P.z s≤q-1;omega))⟩
  ·rcases h.aw with q|q|q
   ·omega
   ·omega
   ·exact .inr (.inr q)
  ·refine ob.aL (by omega) (o3 _ hc.sb.1 hc.sb.2) (fun j x p=>p.aL (o2 _ p.jb.1 p.jb.2)) (by omega) fun d d0 d1=>?_
   rw[Int.add_assoc];exact o4 _ (by omega) (by omega)
 | gF p=>omega
 | mark p=>omega
 | go hd mw sl cp c=>exact absurd hp (by cases c<;>omega)
 | stop p=>omega
 | shown p=>omega
 | count p=>omega
 | kill p=>omega
theorem mr.TO(hC:C.ok)(hS:MS C P)(hc:qC C P at' pos s m)(h:mr C P T at' pos cw s v xs q m A.w)(hT:T≤4194000)(hp:m.a.pc=3):yl C P T at' pos cw s xs q (m.step C who A):=by
 obtain⟨rr,gp,gx,ga,gs,gg,gS,tC⟩:=h.sA hC hS hc
 have iD:=hC.C;have zq:=hC.T;have Ld:=hc.sb
 obtain⟨c1,c2,c3,c4,c5,c6⟩:=hc.oZ
 have pv:=h.vb
 cases h.ph with
 | mark p zn mw ob hq=>
  have jC:m.a.w=aK 1 (C.base at'+pos) (P.g s) v:=by rcases h.aw with q|q|q;omega;omega;exact q
  have ew:A.w (C.slot m.a.hs)=m.a.w:=by rw[c4,ob.sw,jC]
  have es:m.step C who A=(false,{ m with a:={ m.a with i:=0,pc:=4 } },(A.by who).store (C.slot m.a.hs) (m.a.as 2 m.a.addr 0)):=by
   unfold Mv.step;rw[ae (by omega),ae (by omega),ae (by omega),af hp,af ew,cx (show(A.by who).w _=_ from ew)]
  have e0:C.base 0=6+C.T+2*C.S+3*C.C:=by unfold Cf.base;omega
  have ea:m.a.as 2 m.a.addr 0=aK 2 (C.base at'+pos) (P.g s) v:=by
   obtain⟨z1,z2,z3,z4⟩:=fc (st:=1) (ad:=C.base at'+pos) (ge:=P.g s) (ve:=v) (by decide) (by omega) gg (by omega)
   unfold Mo.as;rw[jC,z3,z4,c1,Int.add_zero]
  rw[es,ea,c4]
  have Ya:=ob.sl hC hS (by omega) mw.ck hc.sb.1 hc.sb.2 hc.l
  have kL:C.slot s<C.base 0:=by have:=hc.sb;unfold Cf.slot;omega
  have ws:∀ i,i≠C.slot s→((A.by who).store (C.slot s) (aK 2 (C.base at'+pos) (P.g s) v)).w i=A.w i:=fun i e=>az _ _ e
  have zs:=fc (st:=2) (ad:=C.base at'+pos) (ge:=P.g s) (ve:=v) (by decide) (by omega) gg (by omega)
  have wa:∀ d,0≤d→((A.by who).store (C.slot s) (aK 2 (C.base at'+pos) (P.g s) v)).w (C.base at'+pos+d)=A.w (C.base at'+pos+d):=fun d d0=>ws _ (by omega)
  refine .inl ⟨rfl,⟨hc.sb,hc.l,hc.oZ,hc.nn,fun _=>hc.n1 (by omega)⟩,v,h.next ⟨rfl,rfl,rfl⟩ ⟨pv.1,by omega⟩ (.inr (.inr jC)) h.ab ⟨Int.le_refl 0,by show(0:Int)≤P.z s;omega⟩ h.cb (fun j j0 j1=>ws _ (by unfold Cf.slot Cf.chunk;omega)) (fun r r0 r1 ne=>ws _ (by unfold Cf.slot;omega)) (.inr fun x x0 x1=>?_) (ws _ (by omega)) (fun _=>by omega) (.go ?_ ?_ (aE _ _ _) (fun k k0 k1=>?_) (.load rfl (by show(0:Int)<P.z s;omega) ⟨fun k k0 k1=>?_,fun k k0 _ k1=>?_⟩ (by show rq C (P.z s) m.a.nn+4+3*(P.z s-0)≤q-1;omega)))⟩
  ·show a8 (aX A.w (C.slot s) _ (C.slot s))≠_
   rw[aE,zs.2.1];omega
  ·show((A.by who).store _ _).w m.a.sa=_
   rw[ws _ (by omega)];exact zn
  ·refine mw.slot hC hS (by omega) hc.sb.1 hc.sb.2 hc.l (cV _ _ _ _) (fun r _ _=>by omega) (fun p e=>?_) fun e=>absurd rfl e
   have hh:=mw.ho p
   rw[zs.2.1,zs.2.2.2]
   refine⟨fun e'=>?_,fun e'=>?_⟩
   ·have:=hh.v1 (by rw[e,Ya.2.1];exact e');rw[e,Ya.2.2.2]at this;exact this
   ·exact hh.v2 (by rw[e,Ya.2.1];exact e')
  ·have C4:k<0:=k1
   omega
  ·have C4:k<0:=k1
   omega
  ·rw[Int.add_assoc,wa _ (by omega),←Int.add_assoc];exact ob.ce k k0 k1
 | head p=>omega
 | gF p=>omega
 | go hd mw sl cp c=>exact absurd hp (by cases c<;>omega)
 | stop p=>omega
 | shown p=>omega
 | count p=>omega
 | kill p=>omega
theorem mr.TN(hC:C.ok)(hS:MS C P)(hc:qC C P at' pos s m)(h:mr C P T at' pos cw s v xs q m A.w)(hT:T≤4194000)(hp:m.a.pc=4):yl C P T at' pos cw s xs q (m.step C who A):=by
 obtain⟨rr,gp,gx,ga,gs,gg,gS,tC⟩:=h.sA hC hS hc
 obtain⟨c1,c2,c3,c4,c5,c6⟩:=hc.oZ
 have pv:=h.vb
 have jC:m.a.w=aK 1 (C.base at'+pos) (P.g s) v:=by rcases h.aw with q|q|q;omega;omega;exact q
 have e0:C.base 0=6+C.T+2*C.S+3*C.C:=by unfold Cf.base;omega
 have iD:=hC.C;have zq:=hC.T;have rX:=hC.S
 have zv:cO m.a.w=v:=by rw[jC];exact(fc (by decide) (by omega) gg (by omega)).2.2.2
 have es:m.step C who A=(false,{ m with a:={ m.a with cell:=A.w (C.base at'+pos+1+m.a.i),pc:=if lL (A.w (C.base at'+pos+1+m.a.i))=true∧kX (A.w (C.base at'+pos+1+m.a.i))=v then 6 else 5 } },(A.by who).load (C.base at'+pos+1+m.a.i)):=by
  unfold Mv.step;rw[ae (by omega),ae (by omega),ae (by omega),ae (by omega),af hp,c1,zv]
 rw[es]
 cases h.ph with
 | go hd mw sl cp c=>
  cases c with
  | load p hi f hq=>
   have ce:=f.c _ h.ib.1 (Int.le_refl _) hi
   have nf:¬(lL (A.w (C.base at'+pos+1+m.a.i))=true∧kX (A.w (C.base at'+pos+1+m.a.i))=v):=fun⟨e,e'⟩=>by have:=ce.f e;omega
   rw[ae nf]
   exact .inl ⟨rfl,⟨hc.sb,hc.l,hc.oZ,hc.nn,fun _=>hc.n1 (by omega)⟩,v,h.next ⟨rfl,rfl,rfl⟩ ⟨pv.1,by omega⟩ (.inr (.inr jC)) h.ab h.ib (mw.bd _) (fun _ _ _=>rfl) (fun _ _ _ _=>rfl) (.inl rfl) rfl (fun _=>by omega) (.go hd (mw.mono (by omega)) sl cp (.freeze rfl hi f (by
    show rq C (P.z s) m.a.nn+(if A.w (C.base at'+pos+1+m.a.i)=A.w (C.base at'+pos+1+m.a.i)then(3:Int)else 5)+3*(P.z s-m.a.i)≤q-1
    rw[af rfl];omega)))⟩
  | freeze p=>omega
  | copy p=>omega
  | gE p=>omega
 | stop p hi hd mw ob hq=>
  rw[ae (by omega),af hp]at hq
  have hi:=hi (by omega)
  refine .inl ⟨rfl,⟨hc.sb,hc.l,hc.oZ,hc.nn,fun _=>hc.n1 (by omega)⟩,v,h.next ⟨rfl,rfl,rfl⟩ ⟨pv.1,by omega⟩ (.inr (.inr jC)) h.ab h.ib (mw.bd _) (fun _ _ _=>rfl) (fun _ _ _ _=>rfl) (.inl rfl) rfl (fun _=>by omega) (.stop ?_ (fun _=>hi) hd (mw.mono (by omega)) (ob.mono (by omega)) ?_)⟩
  ·dsimp only;split<;>omega
  ·show rq C (P.z s) m.a.nn+4+_≤q-1
   dsimp only
   split
   ·rw[ae (by decide),ae (by decide),ae (by decide)];omega
   ·rw[ae (by decide),ae (by decide),af rfl,af (show((A.by who).load (C.base at'+pos+1+m.a.i)).w (C.base at'+pos+1+m.a.i)=A.w (C.base at'+pos+1+m.a.i)from rfl)];omega
 | head p=>omega
 | gF p=>omega
 | mark p=>omega
 | shown p=>omega
 | count p=>omega
 | kill p=>omega
theorem mr.old(hC:C.ok)(hS:MS C P)(hc:qC C P at' pos s m)(h:mr C P T at' pos cw s v xs q m w){y v':Int}(hy:0≤y∧y<P.z s) :
  (∀ i,i≠C.base at'+pos+1+y→aX w (C.base at'+pos+1+y) v' i=w i)∧(∀ j,0≤j→j<C.C→aX w (C.base at'+pos+1+y) v' (C.chunk j)=w (C.chunk j))∧(∀ r,0≤r→r<C.S→aX w (C.base at'+pos+1+y) v' (C.slot r)=w (C.slot r))∧(∀ d,0≤d→d<P.rm s→aX w (C.base at'+pos+1+y) v' (m.a.sa+d)=w (m.a.sa+d)):=by
 obtain⟨rr,gp,gx,ga,gs,gg,gS,tC⟩:=h.sA hC hS hc
 have e0:C.base 0=6+C.T+2*C.S+3*C.C:=by unfold Cf.base;omega
 have iD:=hC.C
 have ws:∀ i,i≠C.base at'+pos+1+y→aX w (C.base at'+pos+1+y) v' i=w i:=fun i e=>az _ _ e
 refine⟨ws,fun j j0 j1=>ws _ (by have:=cP hC j0 j1;omega),fun r r0 r1=>ws _ (by unfold Cf.slot;omega),fun d d0 d1=>ws _ fun e=>?_⟩
 exact tC (pos+(1+y)) (xs+d) (by omega) (by omega) (by omega) (by omega) (by rw[h.sp.r_]at e;omega)
theorem mr.Ut(hC:C.ok)(hS:MS C P)(hc:qC C P at' pos s m)(h:mr C P T at' pos cw s v xs q m w)(hT:T≤4194000){y v':Int}{L':Int→Int→Int}(mw:MW C P T s m.a.sa w)(kL:a8 (w (C.slot s))=C.base at'+pos)(hy:0≤y∧y<P.z s)(hv:0≤v'∧v'<18446744073709551616)(hL:∀ r k,r≠s→L' r k=P.L r k):MW C (P.wL L') (T+1) s m.a.sa (aX w (C.base at'+pos+1+y) v'):=by
 obtain⟨rr,gp,gx,ga,gs,gg,gS,tC⟩:=h.sA hC hS hc
 obtain⟨o1,o2,o3,o4⟩:=h.old (v':=v') hC hS hc hy
 have ea:C.base at'+pos+1+y=C.base at'+(pos+(1+y)):=by omega
 rw[ea]at o1 o2 o3 o4 ⊢
 refine mw.FF hC hS (by omega) h.ev.ab.1 h.ev.ab.2 (by omega) (by omega) hv (fun _ _ e=>?_) (fun r r0 r1 l ne=>?_) (fun p x pl h1 h2=>?_)
 ·rw[h.pa.c]at e
  exact absurd e (vi h.pa.m (by omega) (by unfold MP.rm at rr;omega))
 ·obtain⟨b,u,o⟩:=mw.lv r r0 r1 l ne
  have CT:=(o.sl hC hS (by omega) mw.ck r0 r1 l).2.1
  obtain⟨j,x,p⟩:=o.pl
  have kj:=(mw.ck j p.jb.1 p.jb.2).u
  have px:=p.xb
  have Yv:=hS.rm r0 r1 l
  have jd:∀ d,0≤d→d≤P.z r→b+d≠C.base at'+(pos+(1+y)):=fun d d0 d1 e=>by
   obtain⟨e1,e2⟩:=bW hC p.jb.1 p.jb.2 (show 0≤x+d by omega) (by omega) h.ev.ab.1 h.ev.ab.2 (show 0≤pos+(1+y) by omega) (by omega) (by rw[←e,p.ea];omega)
   subst e1
   refine qq.off (d:=1+y) hC hS hc.sb hc.l r0 r1 l p h.pa.c h.pa.m (fun e'=>?_) (by omega) ⟨by omega,by omega⟩
   obtain⟨⟨_,_,f3,_,_⟩,_⟩:=mw.at' hC hS (by omega) r0 r1 l ne (CT.trans e')
   rw[h.ha,(je (by decide) (by omega) (by omega) gg).2.2.1]at f3
   exact ne f3.symm
  refine⟨b,u,by rw[o3 r r0 r1];exact o.sw,by have:=o.vb;omega,⟨j,x,p.ea,p.jb,by rw[o2 j p.jb.1 p.jb.2];exact p.xb,p.m,by rw[o2 j p.jb.1 p.jb.2];exact p.c,by rw[o2 j p.jb.1 p.jb.2];exact p.st⟩,by rw[o1 _ (by have:=jd 0 (by omega) (by omega);omega)];exact o.hd,fun k k0 k1=>?_⟩
  show uB u (L' r k) _
  have C4:k<P.z r:=k1
  rw[hL r k ne,o1 _ (by have:=jd (1+k) (by omega) (by omega);omega)];exact o.ce k k0 k1
 ·obtain⟨e1,e2,e3⟩:=(mw.ho p).cell hC hS hc.sb hc.l h.pa ⟨2,.inr rfl,h.ha⟩ h.uW.1 (d:=1+y) (by omega) pl h1 (by omega)
  exact .inl ⟨by omega,.inl (by rw[e1,e2];exact kL)⟩
theorem mr.TM(hC:C.ok)(hS:MS C P)(hc:qC C P at' pos s m)(h:mr C P T at' pos cw s v xs q m A.w)(hT:T≤4194000)(hp:m.a.pc=5):yl C P T at' pos cw s xs q (m.step C who A):=by
 obtain⟨rr,gp,gx,ga,gs,gg,gS,tC⟩:=h.sA hC hS hc
 obtain⟨c1,c2,c3,c4,c5,c6⟩:=hc.oZ
 have pv:=h.vb
 have oW:=h.ib
 have jC:m.a.w=aK 1 (C.base at'+pos) (P.g s) v:=by rcases h.aw with q|q|q;omega;omega;exact q
 have e0:C.base 0=6+C.T+2*C.S+3*C.C:=by unfold Cf.base;omega
 have iD:=hC.C;have zq:=hC.T;have rX:=hC.S
 have zv:cO m.a.w=v:=by rw[jC];exact(fc (by decide) (by omega) gg (by omega)).2.2.2
 have es:m.step C who A=(false,{ m with a:={ m.a with pc:=if A.w (C.base at'+pos+1+m.a.i)=m.a.cell then 6 else 4 } },(A.by who).dI (C.base at'+pos+1+m.a.i) m.a.cell (aT (kN m.a.cell) true v)):=by
  unfold Mv.step;rw[ae (by omega),ae (by omega),ae (by omega),ae (by omega),ae (by omega),af hp,c1,zv]
 rw[es]
 have vb':0≤kN m.a.cell∧kN m.a.cell≤1099511627775:=by unfold kN;omega
 obtain⟨k1,k2,k3⟩:=qj (v:=kN m.a.cell) (n:=v) (f:=true) vb' (by omega)
 rw[af rfl]at k3
 cases h.ph with
 | go hd mw sl cp c=>
  have zs:=fc (st:=2) (ad:=C.base at'+pos) (ge:=P.g s) (ve:=v) (by decide) (by omega) gg (by omega)
  cases c with
  | freeze p hi f hq=>
   by_cases e:A.w (C.base at'+pos+1+m.a.i)=m.a.cell
   ·rw[af e]at hq
    rw[af e,cx (show(A.by who).w _=_ from e)]
    obtain⟨o1,o2,o3,o4⟩:=h.old (v':=aT (kN m.a.cell) true v) (y:=m.a.i) hC hS hc ⟨oW.1,hi⟩
    have ce:=f.c _ oW.1 (Int.le_refl _) hi
    rw[e]at ce
    have I3:=o4 0 (Int.le_refl 0) (by omega)
    rw[Int.add_zero]at I3
    refine .inl ⟨rfl,⟨hc.sb,hc.l,hc.oZ,hc.nn,fun _=>hc.n1 (by omega)⟩,v,h.next ⟨rfl,rfl,rfl⟩ ⟨pv.1,by omega⟩ (.inr (.inr jC)) h.ab oW h.cb o2 (fun r r0 r1 _=>o3 r r0 r1) (.inl (o3 _ hc.sb.1 hc.sb.2)) (o1 _ (by omega)) (fun _=>by omega) (.go (I3.trans hd) (h.Ut (L':=P.L) hC hS hc hT mw (by rw[sl];exact zs.2.1) ⟨oW.1,hi⟩ (dC _ _ _) fun _ _ _=>rfl) ((o3 _ hc.sb.1 hc.sb.2).trans sl) (fun k k0 C4=>?_) (.copy rfl hi ⟨fun k k0 C4=>?_,fun k k0 C4 SQ=>?_⟩ ce.e (by show rq C (P.z s) m.a.nn+2+3*(P.z s-m.a.i)≤q-1;omega)))⟩
    ·have UK:k<m.a.i:=C4
     have:=o4 (1+k) (by omega) (by omega)
     rw[←Int.add_assoc]at this
     exact this.trans (cp k k0 C4)
    ·have UK:k<m.a.i+1:=C4
     show kN (aX A.w (C.base at'+pos+1+m.a.i) _ _)=_∧_
     by_cases ek:k=m.a.i
     ·rw[ek]
      show _∧lL (aX A.w (C.base at'+pos+1+m.a.i) _ _)=_∧kX (aX A.w (C.base at'+pos+1+m.a.i) _ _)=_
      rw[aE,k1,k2,k3];exact⟨ce.e,rfl,rfl⟩
     ·show _∧lL (aX A.w (C.base at'+pos+1+m.a.i) _ _)=_∧kX (aX A.w (C.base at'+pos+1+m.a.i) _ _)=_
      rw[o1 _ (by omega)];exact f.f k k0 (by omega)
    ·have UK:m.a.i+1≤k:=C4
     show uB v _ (aX A.w (C.base at'+pos+1+m.a.i) _ _)
     rw[o1 _ (by omega)];exact f.c k k0 (by omega) SQ
   ·rw[ae e]at hq
    rw[ae e,gB (show(A.by who).w _≠_ from e)]
    exact .inl ⟨rfl,⟨hc.sb,hc.l,hc.oZ,hc.nn,fun _=>hc.n1 (by omega)⟩,v,h.next ⟨rfl,rfl,rfl⟩ ⟨pv.1,by omega⟩ (.inr (.inr jC)) h.ab oW h.cb (fun _ _ _=>rfl) (fun _ _ _ _=>rfl) (.inl rfl) rfl (fun _=>by omega) (.go hd (mw.mono (by omega)) sl cp (.load rfl hi f (by show rq C (P.z s) m.a.nn+4+3*(P.z s-m.a.i)≤q-1;omega)))⟩
  | load p=>omega
  | copy p=>omega
  | gE p=>omega
 | stop p hi hd mw ob hq=>
  have hi:=hi (by omega)
  rw[ae (by omega),ae (by omega),af hp]at hq
  by_cases e:A.w (C.base at'+pos+1+m.a.i)=m.a.cell
  ·rw[af e]at hq
   rw[af e,cx (show(A.by who).w _=_ from e)]
   obtain⟨o1,o2,o3,o4⟩:=h.old (v':=aT (kN m.a.cell) true v) (y:=m.a.i) hC hS hc ⟨oW.1,hi⟩
   have ce:=ob.ce _ oW.1 hi
   rw[e]at ce
   have I3:=o4 0 (Int.le_refl 0) (by omega)
   rw[Int.add_zero]at I3
   obtain⟨l1,l2⟩:=mw.lay (t':=T+1) (c:=aT (kN m.a.cell) true v) (x:=P.L s m.a.i) (L':=P.L) hC hS (by omega) (by omega) hc.sb.1 hc.sb.2 hc.l (by omega) ob oW.1 hi ⟨by rw[k1];exact ce.e,fun _=>by rw[k3];omega⟩ (dC _ _ _) fun r d=>by
    split
    ·rename_i q;rw[q.1,q.2]
    ·rfl
   refine .inl ⟨rfl,⟨hc.sb,hc.l,hc.oZ,hc.nn,fun _=>hc.n1 (by omega)⟩,v,h.next ⟨rfl,rfl,rfl⟩ ⟨pv.1,by omega⟩ (.inr (.inr jC)) h.ab oW h.cb o2 (fun r r0 r1 _=>o3 r r0 r1) (.inl (o3 _ hc.sb.1 hc.sb.2)) (o1 _ (by omega)) (fun _=>by omega) (.stop (by show 4≤(6:Int)∧(6:Int)≤7;decide) (fun _=>hi) (I3.trans hd) l1 l2 ?_)⟩
   show rq C (P.z s) m.a.nn+4+(if(6:Int)=7 then 0 else 3*(P.z s-m.a.i)+(if(6:Int)=4 then 0 else if(6:Int)=5 then _ else -2))≤q-1
   rw[ae (by decide),ae (by decide),ae (by decide)]
   omega
  ·rw[ae e]at hq
   rw[ae e,gB (show(A.by who).w _≠_ from e)]
   refine .inl ⟨rfl,⟨hc.sb,hc.l,hc.oZ,hc.nn,fun _=>hc.n1 (by omega)⟩,v,h.next ⟨rfl,rfl,rfl⟩ ⟨pv.1,by omega⟩ (.inr (.inr jC)) h.ab oW h.cb (fun _ _ _=>rfl) (fun _ _ _ _=>rfl) (.inl rfl) rfl (fun _=>by omega) (.stop (by show 4≤(4:Int)∧(4:Int)≤7;decide) (fun _=>hi) hd (mw.mono (by omega)) (ob.mono (by omega)) ?_)⟩
   show rq C (P.z s) m.a.nn+4+(if(4:Int)=7 then 0 else 3*(P.z s-m.a.i)+(if(4:Int)=4 then 0 else _))≤q-1
   rw[ae (by decide),af rfl]
   omega
 | head p=>omega
 | gF p=>omega
 | mark p=>omega
 | shown p=>omega
 | count p=>omega
 | kill p=>omega
end
end Go.Fl
namespace Go.Fl
open Go
variable{C:Cf}{w:Int→Int}{P:MP}{A:Ar}{who:Int}
section
variable{T at' pos cw s v xs q:Int}{m:Mv}
theorem mr.TL(hC:C.ok)(hS:MS C P)(hc:qC C P at' pos s m)(h:mr C P T at' pos cw s v xs q m A.w)(hT:T≤4194000)(hp:m.a.pc=6):yl C P T at' pos cw s xs q (m.step C who A):=by
 obtain⟨rr,gp,gx,ga,gs,gg,gS,tC⟩:=h.sA hC hS hc
 obtain⟨c1,c2,c3,c4,c5,c6⟩:=hc.oZ
 have pv:=h.vb
 have oW:=h.ib
 have jC:m.a.w=aK 1 (C.base at'+pos) (P.g s) v:=by rcases h.aw with q|q|q;omega;omega;exact q
 have es:m.step C who A=(false,{ m with a:={ m.a with i:=m.a.i+1,pc:=if P.z s≤m.a.i+1 then 7 else 4 } },(A.by who).store (m.a.sa+(1+m.a.i)) (aT (kN m.a.cell) false 0)):=by
  unfold Mv.step;rw[ae (by omega),ae (by omega),ae (by omega),ae (by omega),ae (by omega),ae (by omega),af hp,c3,Int.add_assoc]
 rw[es]
 have hi:m.a.i<P.z s:=by
  cases h.ph with
  | go hd mw sl cp c=>cases c with
   | copy p hi=>exact hi
   | load p=>omega
   | freeze p=>omega
   | gE p=>omega
  | stop p hi=>exact hi (by omega)
  | head p=>omega
  | gF p=>omega
  | mark p=>omega
  | shown p=>omega
  | count p=>omega
  | kill p=>omega
 obtain⟨o1,o2,o3,o4,o5⟩:=h.off (y:=1+m.a.i) (v':=aT (kN m.a.cell) false 0) hC hS hc ⟨by omega,by omega⟩
 have oa:∀ d,0≤d→d<P.rm s→aX A.w (m.a.sa+(1+m.a.i)) (aT (kN m.a.cell) false 0) (C.base at'+pos+d)=A.w (C.base at'+pos+d):=fun d d0 d1=>by rw[Int.add_assoc];exact o4 _ (by omega) (by omega)
 have oa0:=oa 0 (Int.le_refl 0) (by omega)
 rw[Int.add_zero]at oa0
 have osa:=o1 m.a.sa (by omega)
 have e47:(if P.z s≤m.a.i+1 then(7:Int)else 4)=7∧P.z s=m.a.i+1∨(if P.z s≤m.a.i+1 then(7:Int)else 4)=4∧m.a.i+1<P.z s:=by split<;>omega
 have np:¬(8≤m.a.pc∧m.a.pc≤10):=by omega
 cases h.ph with
 | go hd mw sl cp c=>
  cases c with
  | copy p hi f e hq=>
   refine .inl ⟨rfl,⟨hc.sb,hc.l,hc.oZ,hc.nn,fun _=>hc.n1 (by omega)⟩,v,h.next ⟨rfl,rfl,rfl⟩ ⟨pv.1,by omega⟩ (.inr (.inr jC)) h.ab ⟨by show 0≤m.a.i+1;omega,by show m.a.i+1≤_;omega⟩ h.cb o2 (fun r r0 r1 _=>o3 r r0 r1) (.inl (o3 _ hc.sb.1 hc.sb.2)) oa0 (fun _=>np) (.go (osa.trans hd) (h.word hC hS hc hT mw (.inr rfl) ⟨by omega,by omega⟩ (dC _ _ _) fun p'=>.inl (h.nh np p')) ((o3 _ hc.sb.1 hc.sb.2).trans sl) (fun k k0 k1=>?_) ?_)⟩
   ·have C4:k<m.a.i+1:=k1
    show aX A.w (m.a.sa+(1+m.a.i)) _ (m.a.sa+1+k)=_
    by_cases ek:k=m.a.i
    ·rw[ek,Int.add_assoc,aE,e]
    ·rw[o1 _ (by omega)];exact cp k k0 (by omega)
   ·have f':DL P s (C.base at'+pos) v (m.a.i+1) (aX A.w (m.a.sa+(1+m.a.i)) (aT (kN m.a.cell) false 0)):=⟨fun k k0 k1=>by rw[Int.add_assoc,oa _ (by omega) (by omega),←Int.add_assoc];exact f.f k k0 k1,fun k k0 k1 k2=>by rw[Int.add_assoc,oa _ (by omega) (by omega),←Int.add_assoc];exact f.c k k0 k1 k2⟩
    rcases e47 with⟨e,le⟩|⟨e,le⟩
    ·exact .gE e (by show m.a.i+1=P.z s;omega) f' (by show rq C (P.z s) m.a.nn+4≤q-1;omega)
    ·exact .load e le f' (by show rq C (P.z s) m.a.nn+4+3*(P.z s-(m.a.i+1))≤q-1;omega)
  | load p=>omega
  | freeze p=>omega
  | gE p=>omega
 | stop p hi hd mw ob hq=>
  have hi:=hi (by omega)
  rw[ae (by omega),ae (by omega),ae (by omega)]at hq
  have TU:=(ob.sl hC hS (by omega) mw.ck hc.sb.1 hc.sb.2 hc.l).2.1
  refine .inl ⟨rfl,⟨hc.sb,hc.l,hc.oZ,hc.nn,fun _=>hc.n1 (by omega)⟩,v,h.next ⟨rfl,rfl,rfl⟩ ⟨pv.1,by omega⟩ (.inr (.inr jC)) h.ab ⟨by show 0≤m.a.i+1;omega,by show m.a.i+1≤_;omega⟩ h.cb o2 (fun r r0 r1 _=>o3 r r0 r1) (.inl (o3 _ hc.sb.1 hc.sb.2)) oa0 (fun _=>np) (.stop ?_ (fun e=>?_) (osa.trans hd) (h.word hC hS hc hT mw (.inl ⟨rfl,TU⟩) ⟨by omega,by omega⟩ (dC _ _ _) fun p'=>.inl (h.nh np p')) ?_ ?_)⟩
  ·show 4≤(if P.z s≤m.a.i+1 then(7:Int)else 4)∧(if P.z s≤m.a.i+1 then(7:Int)else 4)≤7
   omega
  ·have e':(if P.z s≤m.a.i+1 then(7:Int)else 4)≠7:=e
   show m.a.i+1<P.z s
   omega
  ·exact ob.aL (by omega) (o3 _ hc.sb.1 hc.sb.2) (fun j x p=>p.aL (o2 _ p.jb.1 p.jb.2)) (by omega) fun d d0 d1=>oa d d0 (by omega)
  ·show rq C (P.z s) m.a.nn+4+_≤q-1
   rcases e47 with⟨e,le⟩|⟨e,le⟩
   ·rw[show({ m with a:={ m.a with i:=m.a.i+1,pc:=if P.z s≤m.a.i+1 then 7 else 4 } }:Mv).a.pc=7 from e,af rfl];omega
   ·rw[show({ m with a:={ m.a with i:=m.a.i+1,pc:=if P.z s≤m.a.i+1 then 7 else 4 } }:Mv).a.pc=4 from e,ae (by decide),af rfl]
    show rq C (P.z s) m.a.nn+4+(3*(P.z s-(m.a.i+1))+0)≤q-1
    omega
 | head p=>omega
 | gF p=>omega
 | mark p=>omega
 | shown p=>omega
 | count p=>omega
 | kill p=>omega
theorem mr.TK(hC:C.ok)(hS:MS C P)(hc:qC C P at' pos s m)(h:mr C P T at' pos cw s v xs q m A.w)(hT:T≤4194000)(hp:m.a.pc=7):yl C P T at' pos cw s xs q (m.step C who A):=by
 obtain⟨rr,gp,gx,ga,gs,gg,gS,tC⟩:=h.sA hC hS hc
 have iD:=hC.C;have zq:=hC.T;have Ld:=hc.sb;have hR:=hC.R
 obtain⟨c1,c2,c3,c4,c5,c6⟩:=hc.oZ
 have pv:=h.vb
 have oW:=h.ib
 have jC:m.a.w=aK 1 (C.base at'+pos) (P.g s) v:=by rcases h.aw with q|q|q;omega;omega;exact q
 have e0:C.base 0=6+C.T+2*C.S+3*C.C:=by unfold Cf.base;omega
 obtain⟨z1,z2,z3,z4⟩:=fc (st:=1) (ad:=C.base at'+pos) (ge:=P.g s) (ve:=v) (by decide) (by omega) gg (by omega)
 have ea:m.a.as 2 m.a.addr 0=aK 2 (C.base at'+pos) (P.g s) v:=by unfold Mo.as;rw[jC,z3,z4,c1,Int.add_zero]
 have eb:m.a.as 1 m.a.sa 1=aK 1 m.a.sa (P.g s) (v+1):=by unfold Mo.as;rw[jC,z3,z4]
 have e0:C.base 0=6+C.T+2*C.S+3*C.C:=by unfold Cf.base;omega
 have pB:C.slot s<C.base 0:=by have:=hc.sb;unfold Cf.slot;omega
 have y2:=fc (st:=2) (ad:=C.base at'+pos) (ge:=P.g s) (ve:=v) (by decide) (by omega) gg (by omega)
 cases h.ph with
 | go zn mw kL cp c=>
  cases c with
  | gE p hi f hq=>
   have ew:A.w (C.slot m.a.hs)=m.a.as 2 m.a.addr 0:=by rw[ea,c4];exact kL
   have es:m.step C who A=(false,{ m with a:={ m.a with pc:=8 } },(A.by who).store (C.slot m.a.hs) (m.a.as 1 m.a.sa 1)):=by
    unfold Mv.step;rw[ae (by omega),ae (by omega),ae (by omega),ae (by omega),ae (by omega),ae (by omega),ae (by omega),af p,af ew,cx (show(A.by who).w _=_ from ew)]
   rw[es,eb,c4]
   have rq':=SF (C:=C) (z:=P.z s) (n:=m.a.nn) (by omega) (hc.n1 (by omega))
   have ws:∀ i,i≠C.slot s→((A.by who).store (C.slot s) (aK 1 m.a.sa (P.g s) (v+1))).w i=A.w i:=fun i e=>az _ _ e
   have zs:=dT (st:=1) (ad:=m.a.sa) (ge:=P.g s) (ve:=v+1) (by decide) (by omega) gg
   refine .inl ⟨rfl,⟨hc.sb,hc.l,hc.oZ,hc.nn,fun _=>hc.n1 (by omega)⟩,v,h.next ⟨rfl,rfl,rfl⟩ ⟨pv.1,by omega⟩ (.inr (.inr jC)) h.ab oW h.cb (fun j j0 j1=>ws _ (by unfold Cf.slot Cf.chunk;omega)) (fun r r0 r1 ne=>ws _ (by unfold Cf.slot;omega)) (.inr fun x x0 x1=>?_) (ws _ (by omega)) (fun _=>by omega) (.shown rfl ?_ ?_ (aE _ _ _) (fun k k0 k1=>?_) (by omega))⟩
   ·show a8 (aX A.w (C.slot s) _ (C.slot s))≠_
    rw[aE,zs.2.1,h.sp.r_];exact fun e=>tC x xs x0 (by omega) gx.1 (by omega) e.symm
   ·show((A.by who).store _ _).w m.a.sa=_
    rw[ws _ (by omega)];exact zn
   ·refine mw.slot hC hS (by omega) hc.sb.1 hc.sb.2 hc.l (cV _ _ _ _) (fun r _ e _=>e) (fun p' e=>?_) fun e=>absurd rfl e
    have hh:=mw.ho p'
    rw[zs.2.1]
    refine⟨fun e'=>absurd e'.symm (h.nh (by omega) p'),fun _=>?_⟩
    by_cases ec:P.ha=C.base at'+pos
    ·have hu:=hh.v1 (by rw[e,kL,y2.2.1];exact ec.symm)
     rw[e,kL,y2.2.2.2]at hu
     rw[ec,e]
     exact fun k k0 k1=>by have:=f.f k k0 (by omega);exact⟨this.2.1,by omega⟩
    ·exact hh.v2 (by rw[e,kL,y2.2.1];exact Ne.symm ec)
   ·show((A.by who).store _ _).w (m.a.sa+1+k)=_
    rw[ws _ (by omega)];exact cp k k0 (by omega)
  | load p=>omega
  | freeze p=>omega
  | copy p=>omega
 | stop p hi zn mw ob hq=>
  have y1:=ob.sl hC hS (by omega) mw.ck hc.sb.1 hc.sb.2 hc.l
  have ew:¬ A.w (C.slot m.a.hs)=m.a.as 2 m.a.addr 0:=fun e=>by rw[ea,c4]at e;rw[e,y2.1]at y1;omega
  rw[af hp]at hq
  have pC:=hc.nn
  by_cases cr:C.R≤m.a.nn+1
  ·have rq':=SF (C:=C) (z:=P.z s) (n:=m.a.nn) (by omega) (hc.n1 (by omega))
   have es:m.step C who A=(!m.a.fX,{ m with a:=({ m.a with pc:=0,nn:=m.a.nn+1 }:Mo).mh 3 },(A.by who).load (C.slot m.a.hs)):=by
    unfold Mv.step;rw[ae (by omega),ae (by omega),ae (by omega),ae (by omega),ae (by omega),ae (by omega),ae (by omega),af hp,ae ew,af cr,gB (show(A.by who).w _≠_ from ew)]
   have e11:(({ m.a with pc:=0,nn:=m.a.nn+1 }:Mo).mh 3)={ m.a with nn:=m.a.nn+1,out:=3,pc:=11 }:=by unfold Mo.mh;rw[af (show({ m.a with pc:=0,nn:=m.a.nn+1 }:Mo).fX=true from h.fX)]
   rw[es,e11,h.fX]
   exact .inl ⟨rfl,⟨hc.sb,hc.l,hc.oZ,⟨by show 0≤m.a.nn+1;omega,by show m.a.nn+1≤C.R;have:=hc.n1 (by omega);omega⟩,fun e=>absurd rfl e⟩,v,h.next ⟨h.fX.symm ▸ rfl,rfl,rfl⟩ ⟨pv.1,by omega⟩ (.inr (.inl rfl)) h.ab oW h.cb (fun _ _ _=>rfl) (fun _ _ _ _=>rfl) (.inl rfl) rfl (fun _=>by omega) (.kill rfl rfl zn (mw.mono (by omega)) ⟨_,ob.mono (by omega)⟩ (by omega))⟩
  ·have es:m.step C who A=(false,{ m with a:={ m.a with pc:=0,nn:=m.a.nn+1 } },(A.by who).load (C.slot m.a.hs)):=by
    unfold Mv.step;rw[ae (by omega),ae (by omega),ae (by omega),ae (by omega),ae (by omega),ae (by omega),ae (by omega),af hp,ae ew,ae cr,gB (show(A.by who).w _≠_ from ew)]
   rw[es]
   exact .inl ⟨rfl,⟨hc.sb,hc.l,hc.oZ,⟨by show 0≤m.a.nn+1;omega,by show m.a.nn+1≤C.R;omega⟩,fun _=>by show m.a.nn+1<C.R;omega⟩,v,h.next ⟨rfl,rfl,rfl⟩ ⟨pv.1,by omega⟩ (.inl rfl) h.ab oW h.cb (fun _ _ _=>rfl) (fun _ _ _ _=>rfl) (.inl rfl) rfl (fun _=>by omega) (.gF rfl zn (mw.mono (by omega)) ⟨_,ob.mono (by omega)⟩ (by show rq C (P.z s) (m.a.nn+1)+8+3*P.z s≤q-1;rw[rq1];omega))⟩
 | head p=>omega
 | gF p=>omega
 | mark p=>omega
 | shown p=>omega
 | count p=>omega
 | kill p=>omega
theorem mr.TJ(hC:C.ok)(hS:MS C P)(hc:qC C P at' pos s m)(h:mr C P T at' pos cw s v xs q m A.w)(hT:T≤4194000)(hp:m.a.pc=8):yl C P T at' pos cw s xs q (m.step C who A):=by
 obtain⟨rr,gp,gx,ga,gs,gg,gS,tC⟩:=h.sA hC hS hc
 have iD:=hC.C;have zq:=hC.T;have Ld:=hc.sb
 obtain⟨c1,c2,c3,c4,c5,c6⟩:=hc.oZ
 have pv:=h.vb
 have oW:=h.ib
 have hL:=(hS.lv s hc.sb.1 hc.sb.2 hc.l).2.2
 have e0:C.base 0=6+C.T+2*C.S+3*C.C:=by unfold Cf.base;omega
 have jC:m.a.w=aK 1 (C.base at'+pos) (P.g s) v:=by rcases h.aw with q|q|q;omega;omega;exact q
 cases h.ph with
 | shown p zn mw kL cp hq=>
  have es:m.step C who A=(false,{ m with a:={ m.a with pc:=9 } },(A.by who).store m.a.sa (m.a.hd 2)):=by
   unfold Mv.step;rw[ae (by omega),ae (by omega),ae (by omega),ae (by omega),ae (by omega),ae (by omega),ae (by omega),ae (by omega),af p]
  have eh:m.a.hd 2=aW 2 (P.z s) s (P.g s) (P.o s):=by unfold Mo.hd;rw[c3,c4,c5,c6]
  rw[es,eh]
  obtain⟨o1,o2,o3,o4,o5⟩:=h.off (y:=0) (v':=aW 2 (P.z s) s (P.g s) (P.o s)) hC hS hc ⟨Int.le_refl 0,by omega⟩
  have hh:=je (k:=2) (s:=P.z s) (t:=s) (g:=P.g s) (o:=P.o s) (by decide) (by omega) (by omega) gg
  have hh1:=je (k:=1) (s:=P.z s) (t:=s) (g:=P.g s) (o:=P.o s) (by decide) (by omega) (by omega) gg
  have ss:=h.word (y:=0) (v':=aW 2 (P.z s) s (P.g s) (P.o s)) hC hS hc hT mw (.inr rfl) ⟨Int.le_refl 0,by omega⟩ (kA _ _ _ _ _) fun p'=>by
   by_cases e:P.ha=m.a.sa
   ·have t1:=(Jd hC hS (mw.ho p').sb (mw.ho p').hd).2.2.1
    rw[e,zn,hh1.2.2.1]at t1
    exact .inr (.inl ⟨rfl,2,.inr rfl,by rw[←t1]⟩)
   ·exact .inl e
  rw[Int.add_zero]at o1 o2 o3 o4 ss
  have wsl:=(o3 _ hc.sb.1 hc.sb.2).trans kL
  refine .inl ⟨rfl,⟨hc.sb,hc.l,hc.oZ,hc.nn,fun _=>hc.n1 (by omega)⟩,v,h.next ⟨rfl,rfl,rfl⟩ ⟨pv.1,by omega⟩ (.inr (.inr jC)) h.ab oW h.cb o2 (fun r r0 r1 _=>o3 r r0 r1) (.inl (o3 _ hc.sb.1 hc.sb.2)) (o4 _ gp.1 (by omega)) (fun e=>absurd (show 8≤(9:Int)∧(9:Int)≤10 by decide) e) (.count (.inl rfl) ?_ ?_ (by show 11-9≤q-1;omega))⟩
  ·show MW C P (T+1) (-1) (-1) (aX A.w m.a.sa (aW 2 (P.z s) s (P.g s) (P.o s)))
   refine ss.fin hC ⟨m.a.sa,v+1,wsl,by omega,⟨m.a.sc,xs,⟨h.sp.r_,h.sp.j,?_,h.sp.m,?_,?_⟩⟩,?_,fun k k0 k1=>?_⟩ ?_
   ·rw[o2 _ h.sp.j.1 h.sp.j.2];exact h.sp.x
   ·rw[o2 _ h.sp.j.1 h.sp.j.2];exact h.sp.c
   ·rw[o2 _ h.sp.j.1 h.sp.j.2];exact .inl h.sp.st
   ·exact aE _ _ _
   ·rw[o1 _ (by omega),cp k k0 k1]
    have c:=qj (v:=P.L s k) (n:=0) (f:=false) (hL k k0 k1) (by decide)
    exact⟨c.1,fun e=>by rw[c.2.1]at e;cases e⟩
   ·rw[aE]
    exact .inr ⟨hh.1,by rw[hh.2.2.1];exact hc.sb,by rw[hh.2.1];exact(hS.lv s hc.sb.1 hc.sb.2 hc.l).1⟩
  ·show a8 (aX A.w m.a.sa _ (C.slot s))=_
   rw[wsl];exact(dT (by decide) (by omega) gg).2.1
 | head p=>omega
 | gF p=>omega
 | mark p=>omega
 | go hd mw sl cp c=>exact absurd hp (by cases c<;>omega)
 | stop p=>omega
 | count p=>omega
 | kill p=>omega
theorem mr.TH(hC:C.ok)(hS:MS C P)(hc:qC C P at' pos s m)(h:mr C P T at' pos cw s v xs q m A.w)(hT:T≤4194000)(hp:m.a.pc=9∨m.a.pc=10):yl C P T at' pos cw s xs q (m.step C who A):=by
 obtain⟨rr,gp,gx,ga,gs,gg,gS,tC⟩:=h.sA hC hS hc
 have iD:=hC.C;have zq:=hC.T;have Ld:=hc.sb
 obtain⟨c1,c2,c3,c4,c5,c6⟩:=hc.oZ
 have pv:=h.vb
 have oW:=h.ib
 cases h.ph with
 | count p mw kL hq=>
  have e0:C.base 0=6+C.T+2*C.S+3*C.C:=by unfold Cf.base;omega
  have jC:m.a.w=aK 1 (C.base at'+pos) (P.g s) v:=by rcases h.aw with q|q|q;omega;omega;exact q
  have frame:∀(j y:Int) (A':Ar),0≤j→j<C.C→A'.w=aX A.w (C.chunk j+1) (IntKind.u64.wrap y)→MW C P (T+1) (-1) (-1) A'.w∧(∀ i,0≤i→i<C.C→A'.w (C.chunk i)=A.w (C.chunk i))∧(∀ r,0≤r→r<C.S→A'.w (C.slot r)=A.w (C.slot r))∧A'.w (C.base at'+pos)=A.w (C.base at'+pos):=fun j y A' j0 j1 e=>by
   have b:=cP hC j0 j1
   rw[e]
   refine⟨mw.low hC hS (by omega) (FE _) (.inr (.inl ⟨j,j0,j1,.inl rfl⟩)),fun i i0 i1=>az _ _ (by unfold Cf.chunk;omega),fun r r0 r1=>az _ _ (by unfold Cf.slot Cf.chunk;omega),az _ _ (by omega)⟩
  rcases hp with p|p
  ·have es:m.step C who A=(false,{ m with a:={ m.a with pc:=10 } },(A.by who).add (C.chunk m.a.sc+1) (IntKind.u64.wrap (aA (ai m.a.hz)))):=by
    unfold Mv.step;rw[ae (by omega),ae (by omega),ae (by omega),ae (by omega),ae (by omega),ae (by omega),ae (by omega),ae (by omega),ae (by omega),af p]
   rw[es]
   obtain⟨f1,f2,f3,f4⟩:=frame m.a.sc _ ((A.by who).add (C.chunk m.a.sc+1) (IntKind.u64.wrap (aA (ai m.a.hz)))) h.sp.j.1 h.sp.j.2 rfl
   exact .inl ⟨rfl,⟨hc.sb,hc.l,hc.oZ,hc.nn,fun _=>hc.n1 (by omega)⟩,v,h.next ⟨rfl,rfl,rfl⟩ ⟨pv.1,by omega⟩ (.inr (.inr jC)) h.ab oW h.cb f2 (fun r r0 r1 _=>f3 r r0 r1) (.inl (f3 _ hc.sb.1 hc.sb.2)) f4 (fun e=>absurd (show 8≤(10:Int)∧(10:Int)≤10 by decide) e) (.count (.inr rfl) f1 ((congrArg a8 (f3 _ hc.sb.1 hc.sb.2)).trans kL) (by show 11-10≤q-1;omega))⟩
  ·have eo:qz C m.a.addr=at':=by rw[c1];exact(b6 hC h.ev.ab.1 h.ev.ab.2 gp.1 (by omega)).1
   have es:m.step C who A=(true,{ m with a:={ m.a with out:=1 } },(A.by who).add (C.chunk (qz C m.a.addr)+1) (IntKind.u64.wrap (-aA (ai m.a.hz)))):=by
    unfold Mv.step;rw[ae (by omega),ae (by omega),ae (by omega),ae (by omega),ae (by omega),ae (by omega),ae (by omega),ae (by omega),ae (by omega),ae (by omega),af p]
   rw[es,eo]
   obtain⟨f1,f2,f3,f4⟩:=frame at' _ ((A.by who).add (C.chunk at'+1) (IntKind.u64.wrap (-aA (ai m.a.hz)))) h.ev.ab.1 h.ev.ab.2 rfl
   refine .inr ⟨rfl,.inl ⟨rfl,fun r r0 r1 l e=>?_⟩,f1,h.ev.aL (fun j j0 j1=>.inl (f2 j j0 j1)) (fun r r0 r1=>.inl (f3 r r0 r1))⟩
   obtain⟨⟨_,_,g3,_,_⟩,_⟩:=f1.at' hC hS (by omega) r0 r1 l (by omega) e
   rw[show(true,{ m with a:={ m.a with out:=1 } },(A.by who).add (C.chunk at'+1) (IntKind.u64.wrap (-aA (ai m.a.hz)))).2.2.w (C.base at'+pos)=A.w (C.base at'+pos)from f4,h.ha,(je (by decide) (by omega) (by omega) gg).2.2.1]at g3
   subst g3
   rw[show(true,{ m with a:={ m.a with out:=1 } },(A.by who).add (C.chunk at'+1) (IntKind.u64.wrap (-aA (ai m.a.hz)))).2.2.w (C.slot s)=A.w (C.slot s)from f3 _ r0 r1,kL,h.sp.r_]at e
   exact tC pos xs gp.1 (by omega) gx.1 (by omega) e.symm
 | head p=>omega
 | gF p=>omega
 | mark p=>omega
 | go hd mw sl cp c=>exact absurd hp (by cases c<;>omega)
 | stop p=>omega
 | shown p=>omega
 | kill p=>omega
theorem mr.D9(hC:C.ok)(hS:MS C P)(hc:qC C P at' pos s m)(h:mr C P T at' pos cw s v xs q m A.w)(hT:T≤4194000)(hp:m.a.pc=11):yl C P T at' pos cw s xs q (m.step C who A):=by
 obtain⟨rr,gp,gx,ga,gs,gg,gS,tC⟩:=h.sA hC hS hc
 have iD:=hC.C;have zq:=hC.T;have Ld:=hc.sb
 obtain⟨c1,c2,c3,c4,c5,c6⟩:=hc.oZ
 cases h.ph with
 | kill p o zn mw ob hq=>
  obtain⟨u,ob⟩:=ob
  have es:m.step C who A=(true,m,(A.by who).store m.a.sa (m.a.hd 3)):=by
   unfold Mv.step;rw[ae (by omega),ae (by omega),ae (by omega),ae (by omega),ae (by omega),ae (by omega),ae (by omega),ae (by omega),ae (by omega),ae (by omega),ae (by omega)]
  have eh:m.a.hd 3=aW 3 (P.z s) s (P.g s) (P.o s):=by unfold Mo.hd;rw[c3,c4,c5,c6]
  rw[es,eh]
  obtain⟨o1,o2,o3,o4,o5⟩:=h.off (y:=0) (v':=aW 3 (P.z s) s (P.g s) (P.o s)) hC hS hc ⟨Int.le_refl 0,by omega⟩
  have TU:=(ob.sl hC hS (by omega) mw.ck hc.sb.1 hc.sb.2 hc.l).2.1
  have ss:=h.word (y:=0) (v':=aW 3 (P.z s) s (P.g s) (P.o s)) hC hS hc hT mw (.inl ⟨rfl,TU⟩) ⟨Int.le_refl 0,by omega⟩ (kA _ _ _ _ _) fun p'=>.inl (h.nh (by omega) p')
  rw[Int.add_zero]at o1 o2 o3 o4 ss
  exact .inr ⟨rfl,.inr o,ss.rel (.inl (by rw[aE];exact(je (by decide) (by omega) (by omega) gg).1)),h.ev.aL (fun j j0 j1=>.inl (o2 j j0 j1)) (fun r r0 r1=>.inl (o3 r r0 r1))⟩
 | head p=>omega
 | gF p=>omega
 | mark p=>omega
 | go hd mw sl cp c=>exact absurd hp (by cases c<;>omega)
 | stop p=>omega
 | shown p=>omega
 | count p=>omega
end
inductive oG(C:Cf)(P:MP)(T at' pos cw q:Int)(m:Mv)(w:Int→Int):Prop where
 | a (h:Mv0 C P T at' pos cw q m w)
 | b (s v k:Int) (u:Int→Int) (hc:qC C P at' pos s m) (h:Sy C P T at' pos cw s v q m w u k)
 | c (s v xs:Int) (hc:qC C P at' pos s m) (h:mr C P T at' pos cw s v xs q m w)
structure MvE(C:Cf)(P:MP)(T at' pos cw:Int)(m:Mv)(w:Int→Int):Prop where
 o:m.a.out=1∨m.a.out=2∨m.a.out=3∨m.a.out=4
 mw:MW C P T (-1) (-1) w
 ev:sr C P at' pos cw w
 g:m.a.out≤2→Da C P (C.base at'+pos) w
section
variable{T at' pos cw q:Int}{m:Mv}
theorem oG.step(hC:C.ok)(hS:MS C P)(h:oG C P T at' pos cw q m A.w)(hT:T≤4194000)(hq:1≤q) :
  (m.step C who A).1=false∧oG C P (T+1) at' pos cw (q-1) (m.step C who A).2.1 (m.step C who A).2.2.w∨(m.step C who A).1=true∧MvE C P (T+1) at' pos cw (m.step C who A).2.1 (m.step C who A).2.2.w:=by
 cases h with
 | a h=>
  obtain⟨e,⟨b,o,g⟩|⟨b,s,v,hc,h1⟩⟩:=h.step (who:=who) hC hS hT
  ·refine .inr ⟨b,.inr (.inl o),?_,?_,fun _=>?_⟩
   ·rw[e];exact h.mw.mono (by omega)
   ·rw[e];exact h.ev
   ·rw[e];exact g
  ·refine .inl ⟨b,.b s v 0 A.w hc ?_⟩
   rw[e];exact h1
 | b s v k u hc h=>
  obtain⟨_,⟨b,C7,⟨k',h1⟩|⟨xs,h2⟩⟩|⟨b,o,e,_⟩⟩:=h.step (who:=who) hC hS hc hT hq
  ·exact .inl ⟨b,.b s v k' u C7 h1⟩
  ·exact .inl ⟨b,.c s v xs C7 h2⟩
  ·exact .inr ⟨b,.inr (.inr (.inr o)),by rw[e];exact h.mw.mono (by omega),by rw[e];exact h.ev,fun ne=>by omega⟩
 | c s v xs hc h=>
  have hr:yl C P T at' pos cw s xs q (m.step C who A):=by
   have oT:=h.ph.pc
   have oT:m.a.pc=0∨m.a.pc=2∨m.a.pc=3∨m.a.pc=4∨m.a.pc=5∨m.a.pc=6∨m.a.pc=7∨m.a.pc=8∨(m.a.pc=9∨m.a.pc=10)∨m.a.pc=11:=by omega
   rcases oT with p|p|p|p|p|p|p|p|p|p
   ·exact h.y5 hC hS hc hT p
   ·exact h.yZ hC hS hc hT p
   ·exact h.TO hC hS hc hT p
   ·exact h.TN hC hS hc hT p
   ·exact h.TM hC hS hc hT p
   ·exact h.TL hC hS hc hT p
   ·exact h.TK hC hS hc hT p
   ·exact h.TJ hC hS hc hT p
   ·exact h.TH hC hS hc hT p
   ·exact h.D9 hC hS hc hT p
  rcases hr with⟨b,C7,v',h'⟩|⟨b,⟨o,g⟩|o,h1,h2⟩
  ·exact .inl ⟨b,.c s v' xs C7 h'⟩
  ·exact .inr ⟨b,.inl o,h1,h2,fun _=>g⟩
  ·exact .inr ⟨b,.inr (.inr (.inl o)),h1,h2,fun _=>by omega⟩
theorem Pl.Q3(t:Pl):(t.step C who A).2.2.n=A.n:=by
 have cn:∀ a o v,((A.by who).dI a o v).n=A.n:=fun a o v=>by unfold Ar.dI;split<;>rfl
 unfold Pl.step
 by_cases c0:t.pc=0
 ·rw[af c0];rfl
 by_cases c1:t.pc=1
 ·rw[ae c0,af c1];rfl
 by_cases c2:t.pc=2
 ·rw[ae c0,ae c1,af c2];exact cn _ _ _
 by_cases c3:t.pc=3
 ·rw[ae c0,ae c1,ae c2,af c3];dsimp only;split<;>rfl
 by_cases c4:t.pc=4
 ·rw[ae c0,ae c1,ae c2,ae c3,af c4];split<;>exact cn _ _ _
 ·rw[ae c0,ae c1,ae c2,ae c3,ae c4];split<;>exact cn _ _ _
theorem oG.n(m:Mv):(m.step C who A).2.2.n=A.n:=by
 have hp:(m.t.step C who A).2.2.n=A.n:=Pl.Q3 m.t
 have cn:∀ a o v,((A.by who).dI a o v).n=A.n:=fun a o v=>by unfold Ar.dI;split<;>rfl
 unfold Mv.step
 by_cases c0:m.a.pc=0
 ·rw[af c0];(repeat' split)<;>rfl
 rw[ae c0]
 by_cases c1:m.a.pc=1
 ·rw[af c1];(repeat' split)<;>exact hp
 rw[ae c1]
 by_cases c2:m.a.pc=2
 ·rw[af c2];rfl
 rw[ae c2]
 by_cases c3:m.a.pc=3
 ·rw[af c3];exact cn _ _ _
 rw[ae c3]
 by_cases c4:m.a.pc=4
 ·rw[af c4];rfl
 rw[ae c4]
 by_cases c5:m.a.pc=5
 ·rw[af c5];exact cn _ _ _
 rw[ae c5]
 by_cases c6:m.a.pc=6
 ·rw[af c6];rfl
 rw[ae c6]
 by_cases c7:m.a.pc=7
 ·rw[af c7];(repeat' split)<;>exact cn _ _ _
 rw[ae c7]
 by_cases c8:m.a.pc=8
 ·rw[af c8];rfl
 rw[ae c8]
 by_cases c9:m.a.pc=9
 ·rw[af c9];rfl
 rw[ae c9]
 by_cases ca:m.a.pc=10
 ·rw[af ca];rfl
 ·rw[ae ca];rfl
theorem HC.bd{a s v:Int}(h:HC C P T a s v q m w):∀ i,0≤w i∧w i<18446744073709551616:=by
 cases h with
 | head p mw=>exact mw.bd
 | gF p hd mw=>exact mw.bd
 | mark p hd mw=>exact mw.bd
 | go hd mw=>exact mw.bd
 | stop p hi hd mw=>exact mw.bd
 | shown p hd mw=>exact mw.bd
 | count p mw=>exact mw.bd
 | kill p o hd mw=>exact mw.bd
theorem oG.bd(h:oG C P T at' pos cw q m w):∀ i,0≤w i∧w i<18446744073709551616:=by
 cases h with
 | a h=>exact h.mw.bd
 | b s v k u hc h=>exact h.bd
 | c s v xs hc h=>exact h.ph.bd
theorem oG.fit(hC:C.ok)(hS:MS C P)(h:oG C P T at' pos cw q m A.w)(hT:T≤4194000)(hq:1≤q)(hn:C.len≤A.n∧(A.n:Int)≤200000000):m.fit C A:=by
 have iD:=hC.C
 cases h with
 | a h=>
  have e:m.a.pc=0:=by rw[h.em];rfl
  rw[h.em]
  exact⟨by show(0:Int)≤0∧(0:Int)≤11;decide,h.t,by show(0:Int)≤0∧(0:Int)<18446744073709551616;decide,by show(0:Int)≤0∧(0:Int)<18446744073709551616;decide,h.c,by show(0:Int)≤0∧(0:Int)≤65536;decide,by show(0:Int)≤0∧(0:Int)≤65536;decide,hn.2,
   fun e=>absurd (show(0:Int)=1 from e) (by decide),fun e=>absurd (show(0:Int)=2∨(0:Int)=8∨(0:Int)=11 from e) (by decide),fun e=>absurd (show(0:Int)=4∨(0:Int)=5 from e) (by decide),fun e=>absurd (show(0:Int)=6 from e) (by decide),fun e=>absurd (show(0:Int)=9 from e) (by decide),fun e=>absurd (show(0:Int)=10 from e) (by decide)⟩
 | b s v k u hc h=>
  obtain⟨c1,c2,c3,c4,c5,c6⟩:=hc.oZ
  have bE:0≤ai (P.z s)∧ai (P.z s)≤3:=⟨(hS.lv s hc.sb.1 hc.sb.2 hc.l).1,(bH _).2⟩
  have rr:=hS.rm hc.sb.1 hc.sb.2 hc.l
  have hk:=h.kb
  have C3:=h.pl.C3 hC
  have pf:=h.pl.fit hC (h.mw.tb hC (by omega) bE)
  have p:=h.pc
  have hi:=h.i
  have hce:=h.cell
  have pC:=hc.nn
  have hR:=hC.R
  exact⟨by omega,by rw[c4];exact hc.sb,by rw[h.aw];exact cV _ _ _ _,by rw[hce];decide,by rw[c3];exact bE.1,by omega,by omega,hn.2,fun _=>pf,fun e=>by omega,fun e=>by omega,fun e=>by omega,fun e=>by omega,fun e=>by omega⟩
 | c s v xs hc h=>
  obtain⟨rr,gp,gx,ga,gs,gg,gS,tC⟩:=h.sA hC hS hc
  obtain⟨c1,c2,c3,c4,c5,c6⟩:=hc.oZ
  have bE:0≤ai (P.z s)∧ai (P.z s)≤3:=⟨(hS.lv s hc.sb.1 hc.sb.2 hc.l).1,(bH _).2⟩
  have oW:=h.ib
  have pC:=hc.nn
  have hR:=hC.R
  have yR:0≤C.base 0:=by have:=hC.T;have:=hC.S;have:=hC.C;unfold Cf.base;omega
  have l1:=(b6 hC (i:=pos+P.z s) h.ev.ab.1 h.ev.ab.2 (by omega) (by omega)).2.2
  have l2:=(b6 hC (i:=xs+P.z s) h.sp.j.1 h.sp.j.2 (by omega) (by omega)).2.2
  have zn:=h.sp.r_
  have oT:=h.ph.pc
  have hi:m.a.pc=4∨m.a.pc=5∨m.a.pc=6→m.a.i<P.z s:=fun e=>by
   cases h.ph with
   | go hd mw sl cp c=>
    cases c with
    | load p hi=>exact hi
    | freeze p hi=>exact hi
    | copy p hi=>exact hi
    | gE p=>omega
   | stop p hi=>exact hi (by omega)
   | head p=>omega
   | gF p=>omega
   | mark p=>omega
   | shown p=>omega
   | count p=>omega
   | kill p=>omega
  refine⟨by omega,by rw[c4];exact hc.sb,h.ab,h.cb,by rw[c3];exact bE.1,by omega,by omega,hn.2,fun e=>by omega,fun e=>by omega,fun e=>?_,fun e=>?_,fun _=>h.sp.j,fun e=>?_⟩
  ·have:=hi (by omega);rw[c1];omega
  ·have:=hi (by omega);omega
  ·rw[c1,(b6 hC h.ev.ab.1 h.ev.ab.2 gp.1 (by omega)).1];exact⟨by omega,h.ev.ab⟩
end
end Go.Fl
namespace Go.Fl
open Go
variable{C:Cf}{w:Int→Int}{P:MP}{A:Ar}{who:Int}
def DQ(C:Cf)(w:Int→Int):Prop:=∀ j,0≤j→j<C.C→bF (w (C.chunk j))≠2
def yr(cw pos:Int):Int:=530+62*(bD cw-pos)-62*aA (bL cw)
structure Hy(C:Cf)(cw pos:Int):Prop where
 x:0≤pos∧pos<bD cw
 m:pos % aA (bL cw)=0
 c:bL cw≤3
 u:bD cw≤C.W
 um:bD cw % aA (bL cw)=0
inductive WC(C:Cf)(P:MP)(t q:Int)(c:Co)(w:Int→Int):Prop where
 | p0 (hp:c.r.pc=0) (ha:c.a=none) (hs:c.s=none) (mw:MW C P t (-1) (-1) w) (n2:DQ C w) (h0:0≤c.r.at'∧c.r.at'<C.C) (hl:c.r.at'≠0→(c.seen.length:Int)=c.r.at') (hq:2*(C.C-c.r.at')+2784≤q)
 | p1 (hp:c.r.pc=1) (ha:c.a=none) (hs:c.s=none) (mw:MW C P t (-1) (-1) w) (n2:DQ C w) (h0:0≤c.r.at'∧c.r.at'<C.C) (hl:(c.seen.length:Int)=c.r.at'+1) (hq:2*(C.C-c.r.at')+2783≤q)
 | p2 (hp:c.r.pc=2) (ha:c.a=none) (hs:c.s=none) (mw:MW C P t (-1) (-1) w) (n2:DQ C w) (h0:0≤c.r.at'∧c.r.at'<4) (hl:(c.seen.length:Int)=C.C) (hq:2784-c.r.at'≤q)
 | p3 (hp:c.r.pc=3) (ha:c.a=none) (hs:c.s=none) (mw:MW C P t (-1) (-1) w) (n2:DQ C w) (h0:0≤c.r.at'∧c.r.at'<C.C) (h1:bF c.r.w=1∧0<bD c.r.w) (hw:0≤c.r.w∧c.r.w<18446744073709551616) (hq:2780≤q)
 | p4 (hp:c.r.pc=4) (ha:c.a=none) (hs:c.s=none) (mw:MW C P t (-1) (-1) w) (ev:sr C P c.r.at' c.r.pos c.r.w w) (px:Hy C c.r.w c.r.pos) (hq:530+62*(bD c.r.w-c.r.pos)≤q)
 | p5 (hp:c.r.pc=5) (ha:c.a=none) (hs:c.s=none) (mv:oG C P t c.r.at' c.r.pos c.r.w (q-yr c.r.w c.r.pos) c.m w) (h0:0≤c.r.at'∧c.r.at'<C.C) (px:Hy C c.r.w c.r.pos) (hw:0≤c.r.w∧c.r.w<18446744073709551616) (hq:1+yr c.r.w c.r.pos≤q)
 | p6 (hp:6≤c.r.pc∧c.r.pc≤8) (ha:c.a=none) (hs:c.s=none) (mw:MW C P t (-1) (-1) w) (ev:sr C P c.r.at' (bD c.r.w) c.r.w w) (hn:(7≤c.r.pc→c.r.now=w 0)∧(c.r.pc=8→w (C.chunk c.r.at'+2)=w 0)) (hq:535-c.r.pc≤q)
 | p9 (hp:c.r.pc=9) (ha:c.a=none) (hs:c.s=none) (mw:MW C P t (-1) (-1) w) (ev:sr C P c.r.at' 0 c.r.w w) (hq:522≤q)
 | m7 (hp:c.r.pc=10) (hs:c.s=none) (mw:MW C P t (-1) (-1) w) (n2:DQ C w) (ha:∀ v,c.a=some v→v.now=w 0∧(v.pc=1∧(0≤v.at'∧v.at'<C.T)∨v.pc=2∧0≤v.at')∧(0<v.at'∨v.pc=2→0≤P.hp→w 0=P.hp)) (hq:520-DC c.a≤q)
 | oo (hp:c.r.pc=11) (ha:c.a=none) (mw:MW C P t (-1) (-1) w) (n2:DQ C w) (h0:0≤c.r.at'∧c.r.at'<C.C)
   (hs:∀ v,c.s=some v→v.ch=c.r.at'∧bF (w (C.chunk c.r.at'))=3∧v.w=w (C.chunk c.r.at')∧v.iw=false∧((v.pc=1∨v.pc=2)∧v.at'=0∨v.pc=3∧(0≤v.at'∧v.at'<bD v.w)∨v.pc=4∨v.pc=5)∧(v.pc=2→v.since=w (C.chunk c.r.at'+2))∧(3≤v.pc→w (C.chunk c.r.at'+2)+2≤w 0)) (hq:50*(C.C-c.r.at')-yx c.s≤q)
structure Nw(t:Int)(c:Co):Prop where
 ev:0≤c.r.ev∧c.r.ev≤t
 lf:0≤c.r.lf∧c.r.lf≤t
 fd:0≤c.r.fd∧c.r.fd≤t
 mo:0≤c.r.mo∧c.r.mo≤t
 il:0≤c.r.idle∧c.r.idle≤c.r.rd
 rd:0≤c.r.rd∧c.r.rd≤t
structure WI(C:Cf)(P:MP)(t q:Int)(c:Co)(A:Ar):Prop where
 st:MS C P
 nn:C.len≤A.n∧(A.n:Int)≤200000000
 q3:q≤3000
 wc:WC C P t q c A.w
 nm:Nw t c
theorem Nw.mono{t t':Int}{c:Co}(h:Nw t c)(ht:t≤t'):Nw t' c:=by
 have:=h.ev;have:=h.lf;have:=h.fd;have:=h.mo;have:=h.rd
 exact⟨by omega,by omega,by omega,by omega,h.il,by omega⟩
def WR(C:Cf)(P:MP)(t q:Int)(c:Co)(R:Co×Ar):Prop:=R.1.r.rd=c.r.rd∧WI C P (t+1) (q-1) R.1 R.2∨(R.1.r.rd=c.r.rd+1∧R.1.r.pc=0∧R.1.r.at'=0)∧WI C P (t+1) 3000 R.1 R.2
theorem iO{cw pos:Int}(h:Hy C cw pos):(3≤aA (bL cw)∧aA (bL cw)≤17)∧pos+aA (bL cw)≤bD cw:=by
 have r:=bR (xV cw).1 h.c
 refine⟨r,?_⟩
 have e:(bD cw-pos) % aA (bL cw)=0:=by rw[Int.sub_emod,h.um,h.m];rfl
 have hx:=h.x
 by_cases g:bD cw-pos<aA (bL cw)
 ·rw[Int.emod_eq_of_lt (by omega) g]at e;omega
 ·omega
theorem JE{v st:Int}:eM (jX v st)≤eM v+1:=by unfold jX aR;unfold eM cl;omega
theorem DQ.aL{w':Int→Int}(h:DQ C w)(hk:∀ j,0≤j→j<C.C→w' (C.chunk j)=w (C.chunk j)):DQ C w':=fun j j0 j1=>by rw[hk j j0 j1];exact h j j0 j1
section
variable{t q:Int}{c:Co}
theorem WI.q1(hC:C.ok)(h:WI C P t q c A):1≤q:=by
 have zp:=h.st.cc
 cases h.wc with
 | p0 hp ha hs mw n2 h0 hl hq=>omega
 | p1 hp ha hs mw n2 h0 hl hq=>omega
 | p2 hp ha hs mw n2 h0 hl hq=>omega
 | p3 hp ha hs mw n2 h0 h1 hw hq=>omega
 | p4 hp ha hs mw ev px hq=>have:=px.x;omega
 | p5 hp ha hs mv h0 px hw hq=>have:=iO px;unfold yr at hq;omega
 | p6 hp ha hs mw ev hn hq=>omega
 | p9 hp ha hs mw ev hq=>omega
 | m7 hp hs mw n2 ha hq=>
  have:DC c.a≤10:=by
   cases e:c.a with
   | none=>decide
   | some v=>
    have:=(ha v e).2.1
    have hT:=hC.T
    show(if v.pc=1 then 1+v.at' else 10)≤10
    split<;>omega
  omega
 | oo hp ha mw n2 h0 hs hq=>
  have:yx c.s≤45:=by
   cases e:c.s with
   | none=>decide
   | some v=>
    obtain⟨_,h3,h4,_,h5,_⟩:=hs v e
    have:=(mw.ck _ h0.1 h0.2).u
    rw[←h4]at this
    rw[SC]
    split
    ·omega
    ·split<;>omega
  omega
theorem WI.s0(hC:C.ok)(h:WI C P t q c A)(hp:c.r.pc=0)(r:Int):WR C P t q c (c.step C who A r):=by
 have st:c.step C who A r=({ c with seen:=(if c.r.at'=0 then []else c.seen)++[CD (A.w (C.chunk c.r.at'))],r:={ c.r with pc:=1 } },(A.by who).load (C.chunk c.r.at')):=by unfold Co.step;rw[af hp]
 obtain⟨hS,nn,q3,wc,nm⟩:=h
 cases wc with
 | p0 _ ha hs mw n2 h0 hl hq=>
  rw[st]
  have qA:((if c.r.at'=0 then []else c.seen).length:Int)=c.r.at':=by
   by_cases z:c.r.at'=0
   ·rw[af z,z];rfl
   ·rw[ae z];exact hl z
  refine .inl ⟨rfl,hS,nn,by omega,.p1 rfl ha hs ((mw.mono (by omega):MW C P (t+1) (-1) (-1) A.w)) n2 h0 ?_ (by show 2*(C.C-c.r.at')+2783≤q-1;omega),?_⟩
  ·show((_++_:List Sn).length:Int)=c.r.at'+1
   rw[List.length_append];show((_+1:Nat):Int)=_;omega
  ·have:=nm.mono (t':=t+1) (by omega)
   exact⟨this.ev,this.lf,this.fd,this.mo,this.il,this.rd⟩
 | p1 bG=>omega
 | p2 bG=>omega
 | p3 bG=>omega
 | p4 bG=>omega
 | p5 bG=>omega
 | p6 bG=>omega
 | p9 bG=>omega
 | m7 bG=>omega
 | oo bG=>omega
theorem WI.s1(hC:C.ok)(h:WI C P t q c A)(hp:c.r.pc=1)(r:Int):WR C P t q c (c.step C who A r):=by
 have st:c.step C who A r=({ c with seen:=oq c.seen c.r.at'.toNat (IntKind.i64.wrap (A.w (C.chunk c.r.at'+1))),r:={ c.r with at':=if C.C≤c.r.at'+1 then 0 else c.r.at'+1,pc:=if C.C≤c.r.at'+1 then 2 else 0 } },(A.by who).load (C.chunk c.r.at'+1)):=by unfold Co.step;rw[ae (by omega),af hp]
 obtain⟨hS,nn,q3,wc,nm⟩:=h
 cases wc with
 | p1 _ ha hs mw n2 h0 hl hq=>
  rw[st]
  have bU:=nm.mono (t':=t+1) (by omega)
  have ma:=hC.C
  have len:((oq c.seen c.r.at'.toNat (IntKind.i64.wrap (A.w (C.chunk c.r.at'+1)))).length:Int)=c.r.at'+1:=by rw[oR];exact hl
  by_cases z:C.C≤c.r.at'+1
  ·simp only[af z]
   exact .inl ⟨rfl,hS,nn,by omega,.p2 rfl ha hs ((mw.mono (by omega):MW C P (t+1) (-1) (-1) A.w)) n2 ⟨Int.le_refl 0,(by decide:(0:Int)<4)⟩ (len.trans (by omega)) (by show 2784-0≤q-1;omega),bU.ev,bU.lf,bU.fd,bU.mo,bU.il,bU.rd⟩
  ·simp only[ae z]
   exact .inl ⟨rfl,hS,nn,by omega,.p0 rfl ha hs ((mw.mono (by omega):MW C P (t+1) (-1) (-1) A.w)) n2 ⟨by show 0≤c.r.at'+1;omega,by show c.r.at'+1<C.C;omega⟩ (fun _=>len) (by show 2*(C.C-(c.r.at'+1))+2784≤q-1;omega),bU.ev,bU.lf,bU.fd,bU.mo,bU.il,bU.rd⟩
 | p0 bG=>omega
 | p2 bG=>omega
 | p3 bG=>omega
 | p4 bG=>omega
 | p5 bG=>omega
 | p6 bG=>omega
 | p9 bG=>omega
 | m7 bG=>omega
 | oo bG=>omega
theorem WI.s2(hC:C.ok)(h:WI C P t q c A)(hp:c.r.pc=2)(r:Int)(hr:c.may C A r):WR C P t q c (c.step C who A r):=by
 obtain⟨hS,nn,q3,wc,nm⟩:=h
 cases wc with
 | p2 _ ha hs mw n2 h0 hl hq=>
  have bU:=nm.mono (t':=t+1) (by omega)
  have kD:MW C P (t+1) (-1) (-1) A.w:=mw.mono (by omega)
  by_cases c4:c.r.at'+1<4
  ·have st:c.step C who A r=({ c with seen:=m8 c.seen (A.w (2+c.r.at')),r:={ c.r with at':=c.r.at'+1 } },(A.by who).load (2+c.r.at')):=by unfold Co.step;rw[ae (by omega),ae (by omega),af hp,af c4]
   rw[st]
   exact .inl ⟨rfl,hS,nn,by omega,.p2 hp ha hs kD n2 ⟨by show 0≤c.r.at'+1;omega,c4⟩ (by show((m8 _ _).length:Int)=C.C;rw[vf];exact hl) (by show 2784-(c.r.at'+1)≤q-1;omega),bU.ev,bU.lf,bU.fd,bU.mo,bU.il,bU.rd⟩
  ·obtain⟨kW,r0,r1⟩:=hr.1 hp c4
   by_cases rn:r<0
   ·have st:c.step C who A r=({ c with seen:=m8 c.seen (A.w (2+c.r.at')),r:={ c.r with at' := -1,pc:=10 } },(A.by who).load (2+c.r.at')):=by unfold Co.step;rw[ae (by omega),ae (by omega),af hp,ae c4,af rn]
    rw[st]
    exact .inl ⟨rfl,hS,nn,by omega,.m7 rfl hs kD n2 (fun v e=>by rw[show c.a=some v from e]at ha;cases ha) (by show 520-DC c.a≤q-1;rw[ha];show 520-0≤q-1;omega),bU.ev,bU.lf,bU.fd,bU.mo,bU.il,bU.rd⟩
   ·obtain⟨x,hx,hm⟩:∃ x,(m8 c.seen (A.w (2+c.r.at')))[r.toNat]?=some x∧x.may C:=by
     rcases kW with⟨q,_⟩|⟨_,q⟩
     ·omega
     ·exact q
    have ew:vq (m8 c.seen (A.w (2+c.r.at'))) r.toNat=aR x.st x.cl x.us x.sp:=by unfold vq;rw[hx]
    have st:c.step C who A r=({ c with seen:=m8 c.seen (A.w (2+c.r.at')),r:={ c.r with at':=r,pc:=3,w:=aR x.st x.cl x.us x.sp } },(A.by who).load (2+c.r.at')):=by unfold Co.step;rw[ae (by omega),ae (by omega),af hp,ae c4,ae rn,ew]
    rw[st]
    have h1:=hm.1
    have h2:=hm.2.2.1
    refine .inl ⟨rfl,hS,nn,by omega,.p3 rfl ha hs kD n2 ⟨by show 0≤r;omega,r1⟩ ⟨?_,?_⟩ (bS _ _ _ _) (by omega),bU.ev,bU.lf,bU.fd,bU.mo,bU.il,bU.rd⟩
    ·show bF (aR x.st x.cl x.us x.sp)=1
     rw[h1];unfold aR bF cl;omega
    ·show 0<bD (aR x.st x.cl x.us x.sp)
     unfold aR bD cl;omega
 | p0 bG=>omega
 | p1 bG=>omega
 | p3 bG=>omega
 | p4 bG=>omega
 | p5 bG=>omega
 | p6 bG=>omega
 | p9 bG=>omega
 | m7 bG=>omega
 | oo bG=>omega
theorem WI.s3(hC:C.ok)(h:WI C P t q c A)(hp:c.r.pc=3)(lJ:t≤4194000)(r:Int):WR C P t q c (c.step C who A r):=by
 obtain⟨hS,nn,q3,wc,nm⟩:=h
 cases wc with
 | p3 _ ha hs mw n2 h0 h1 hw hq=>
  have bU:=nm.mono (t':=t+1) (by omega)
  have zp:=hS.cc
  have FP:c.step C who A r=({ c with r:={ c.r with pos:=0,pc:=if A.w (C.chunk c.r.at')=c.r.w then 4 else 10,w:=if A.w (C.chunk c.r.at')=c.r.w then jX c.r.w 2 else c.r.w } },(A.by who).dI (C.chunk c.r.at') c.r.w (jX c.r.w 2)):=by
   unfold Co.step;rw[ae (by omega),ae (by omega),ae (by omega),af hp]
  by_cases e:A.w (C.chunk c.r.at')=c.r.w
  ·rw[af e,af e,cx (show(A.by who).w _=_ from e)]at FP
   rw[FP]
   obtain⟨v1,v2,v3,v4⟩:=se (w:=c.r.w) (st:=2) (by decide)
   have kk:=mw.ck _ h0.1 h0.2
   rw[e]at kk
   have kn:=JE (v:=c.r.w) (st:=2)
   have kn2:=kk.n
   have ss:MW C P (t+1) (-1) (-1) (aX A.w (C.chunk c.r.at') (jX c.r.w 2)):=by
    refine mw.chunk hC hS (by omega) h0.1 h0.2 v4 ⟨by rw[v2];exact kk.c,by rw[v3];exact kk.u,by rw[v3,v2];exact kk.m,by omega,fun _=>by rw[v3];exact h1.2⟩ (.inl rfl) (fun _ x x0 x1 xm jd=>?_) (fun s a x s0 s1 l _ _ p=>⟨.inr v1,by rw[v2,e],by rw[v3,e];exact Int.le_refl _⟩) (by omega) (fun _ x p=>⟨p.ea,p.jb,by rw[aE,v3,←e];exact p.xb,p.m,by rw[aE,v2,←e];exact p.c,by rw[aE,v1];decide,fun g=>by rw[aE,v1]at g;omega⟩) (fun g=>by rw[v1]at g;omega)
    rw[v3]at x1;rw[v2]at xm
    exact mw.hd _ x h0.1 h0.2 (.inl (by rw[e];exact h1.1)) x0 (by rw[e];exact x1) (by rw[e];exact xm) jd
   refine .inl ⟨rfl,hS,nn,by omega,.p4 rfl ha hs ss ⟨h0,aE _ _ _,v1,fun j j0 j1 g=>?_,fun _ _ _ _ x x0 x1=>(by have x1':x<0:=x1;omega)⟩ ⟨⟨Int.le_refl 0,by show 0<bD (jX c.r.w 2);rw[v3];exact h1.2⟩,Int.zero_emod _,by show bL (jX c.r.w 2)≤3;rw[v2];exact kk.c,by show bD (jX c.r.w 2)≤C.W;rw[v3];exact kk.u,by show bD (jX c.r.w 2) % aA (bL (jX c.r.w 2))=0;rw[v3,v2];exact kk.m⟩ ?_,bU.ev,bU.lf,bU.fd,bU.mo,bU.il,bU.rd⟩
   ·by_cases ej:j=c.r.at'
    ·exact ej
    ·have g':bF (aX A.w (C.chunk c.r.at') (jX c.r.w 2) (C.chunk j))=2:=g
     rw[az _ _ (gK ej).1]at g'
     exact absurd g' (n2 j j0 j1)
   ·show 530+62*(bD (jX c.r.w 2)-0)≤q-1
    have:=kk.u
    rw[v3];omega
  ·rw[ae e,ae e,gB (show(A.by who).w _≠_ from e)]at FP
   rw[FP]
   exact .inl ⟨rfl,hS,nn,by omega,.m7 rfl hs ((mw.mono (by omega):MW C P (t+1) (-1) (-1) A.w)) n2 (fun v e=>by rw[show c.a=some v from e]at ha;cases ha) (by show 520-DC c.a≤q-1;rw[ha];show 520-0≤q-1;omega),bU.ev,bU.lf,bU.fd,bU.mo,bU.il,bU.rd⟩
 | p0 bG=>omega
 | p1 bG=>omega
 | p2 bG=>omega
 | p4 bG=>omega
 | p5 bG=>omega
 | p6 bG=>omega
 | p9 bG=>omega
 | m7 bG=>omega
 | oo bG=>omega
end
end Go.Fl
namespace Go.Fl
open Go
variable{C:Cf}{w:Int→Int}{P:MP}{A:Ar}{who:Int}
section
variable{t q:Int}{c:Co}
theorem sr.on(hC:C.ok)(hS:MS C P){t at' pos cw:Int}(h:sr C P at' pos cw w)(mw:MW C P t (-1) (-1) w)(ht:t≤4194303)(px:Hy C cw pos)(g:Da C P (C.base at'+pos) w):sr C P at' (pos+aA (bL cw)) cw w:=by
 refine⟨h.ab,h.sB,h.c2,h.s2,fun r r0 r1 l x x0 x1 e=>?_⟩
 by_cases lt:x<pos
 ·exact h.ev r r0 r1 l x x0 lt e
 have pr:=iO px
 have pu:=px.u
 obtain⟨_,v,o⟩:=mw.at' hC hS ht r0 r1 l (by omega) e
 obtain⟨j,y,p⟩:=o.pl
 have py:=p.xb
 have pk:=(mw.ck j p.jb.1 p.jb.2).u
 have rr:=hS.rm r0 r1 l
 obtain⟨e1,e2⟩:=bW hC h.ab.1 h.ab.2 x0 (by omega) p.jb.1 p.jb.2 py.1 (by omega) p.ea
 subst e1;subst e2
 have pc:=p.c
 rw[h.sB]at pc
 have hm:=p.m
 unfold MP.rm at hm
 rw[←pc]at hm
 have e3:(x-pos) % aA (bL cw)=0:=by rw[Int.sub_emod,hm,px.m];rfl
 rw[Int.emod_eq_of_lt (by omega) (by omega)]at e3
 have e4:x=pos:=by omega
 rw[e4]at e
 exact g r r0 r1 l e
theorem sr.le{at' zj Uz cw:Int}(h:sr C P at' zj cw w)(hl:Uz≤zj):sr C P at' Uz cw w:=⟨h.ab,h.sB,h.c2,h.s2,fun r r0 r1 l x x0 x1=>h.ev r r0 r1 l x x0 (by omega)⟩
theorem WI.on(hC:C.ok)(hS:MS C P)(nn:C.len≤A.n∧(A.n:Int)≤200000000)(q3:q≤3000)(ha:c.a=none)(hs:c.s=none)(lJ:t≤4194000){mo':Int}{m':Mv}(mw:MW C P (t+1) (-1) (-1) A.w)(ev:sr C P c.r.at' c.r.pos c.r.w A.w)(px:Hy C c.r.w c.r.pos)
  (g:Da C P (C.base c.r.at'+c.r.pos) A.w) (hq:yr c.r.w c.r.pos+1≤q) (nm:Nw (t+1) c) (hmo:0≤mo'∧mo'≤t+1):WR C P t q c ({ c with r:=({ c.r with mo:=mo' }:Cr).next (bL c.r.w) (bD c.r.w),m:=m' },A):=by
 have pr:=iO px
 have HH:=px.x
 unfold yr at hq
 have fJ:=ev.on hC hS mw (by omega) px g
 refine .inl ⟨rfl,hS,nn,by omega,?_,nm.ev,nm.lf,nm.fd,hmo,nm.il,nm.rd⟩
 by_cases z:bD c.r.w≤c.r.pos+aA (bL c.r.w)
 ·have e6:(if bD c.r.w≤c.r.pos+aA (bL c.r.w)then(6:Int)else 4)=6:=af z
  refine .p6 ⟨?_,?_⟩ ha hs mw (fJ.le z) ⟨fun e=>?_,fun e=>?_⟩ ?_
  ·show 6≤(if bD c.r.w≤c.r.pos+aA (bL c.r.w)then(6:Int)else 4);omega
  ·show(if bD c.r.w≤c.r.pos+aA (bL c.r.w)then(6:Int)else 4)≤8;omega
  ·have e':7≤(if bD c.r.w≤c.r.pos+aA (bL c.r.w)then(6:Int)else 4):=e
   omega
  ·have e':(if bD c.r.w≤c.r.pos+aA (bL c.r.w)then(6:Int)else 4)=8:=e
   omega
  ·show 535-(if bD c.r.w≤c.r.pos+aA (bL c.r.w)then(6:Int)else 4)≤q-1;omega
 ·have e4:(if bD c.r.w≤c.r.pos+aA (bL c.r.w)then(6:Int)else 4)=4:=ae z
  refine .p4 e4 ha hs mw fJ ⟨⟨?_,?_⟩,?_,px.c,px.u,px.um⟩ ?_
  ·show 0≤c.r.pos+aA (bL c.r.w);omega
  ·show c.r.pos+aA (bL c.r.w)<bD c.r.w;omega
  ·show(c.r.pos+aA (bL c.r.w)) % aA (bL c.r.w)=0;rw[Int.add_emod_right];exact px.m
  ·show 530+62*(bD c.r.w-(c.r.pos+aA (bL c.r.w)))≤q-1;omega
theorem WI.s4(hC:C.ok)(h:WI C P t q c A)(hp:c.r.pc=4)(lJ:t≤4194000)(r:Int):WR C P t q c (c.step C who A r):=by
 obtain⟨hS,nn,q3,wc,nm⟩:=h
 cases wc with
 | p4 _ ha hs mw ev px hq=>
  have bU:=nm.mono (t':=t+1) (by omega)
  have kD:MW C P (t+1) (-1) (-1) A.w:=mw.mono (by omega)
  have pr:=iO px
  have HH:=px.x
  have hu:=px.u
  have Vp:bF (A.w (C.chunk c.r.at'))=2:=by rw[ev.sB];exact ev.c2
  have bge:=a_ hC ev.ab.1 ev.ab.2 HH.1
  have hT:=hC.T;have rX:=hC.S;have iD:=hC.C;have zp:=hS.cc
  have hd:=mw.hd _ c.r.pos ev.ab.1 ev.ab.2 (.inr Vp) HH.1 (by rw[ev.sB];exact HH.2) (by rw[ev.sB];exact px.m) (by omega)
  by_cases k3:nF (A.w (C.base c.r.at'+c.r.pos))=3
  ·have st:c.step C who A r=({ c with r:=c.r.next (bL c.r.w) (bD c.r.w) },(A.by who).load (C.base c.r.at'+c.r.pos)):=by
    unfold Co.step;rw[ae (by omega),ae (by omega),ae (by omega),ae (by omega),af hp,af k3]
   rw[st]
   refine WI.on (A:=(A.by who).load (C.base c.r.at'+c.r.pos)) (m':=c.m) (mo':=c.r.mo) hC hS nn q3 ha hs lJ kD ev px (fun s s0 s1 l e=>?_) (by unfold yr;omega) bU bU.mo
   have:=(mw.at' hC hS (by omega) s0 s1 l (by omega) e).1.1
   omega
  ·by_cases k2:nF (A.w (C.base c.r.at'+c.r.pos))=2
   ·have st:c.step C who A r=({ c with r:={ c.r with pc:=5 },m:=Mv.new (C.base c.r.at'+c.r.pos) (nF (A.w (C.base c.r.at'+c.r.pos))) (gH (A.w (C.base c.r.at'+c.r.pos))) (tx (A.w (C.base c.r.at'+c.r.pos))) (E3 (A.w (C.base c.r.at'+c.r.pos))) (sy (A.w (C.base c.r.at'+c.r.pos))) },(A.by who).load (C.base c.r.at'+c.r.pos)):=by
     unfold Co.step;rw[ae (by omega),ae (by omega),ae (by omega),ae (by omega),af hp,ae k3,af k2]
    rw[st]
    obtain⟨t0,c0⟩:(0≤tx (A.w (C.base c.r.at'+c.r.pos))∧tx (A.w (C.base c.r.at'+c.r.pos))<C.S)∧0≤ai (gH (A.w (C.base c.r.at'+c.r.pos))):=by
     rcases hd with e|⟨_,e1,e2⟩
     ·exact absurd e k3
     ·exact⟨e1,e2⟩
    have hz:=(bT c0).1
    have cwb:0≤c.r.w∧c.r.w<18446744073709551616:=by rw[←ev.sB];exact mw.bd _
    have hR:=hC.R
    have hrq:rq C (gH (A.w (C.base c.r.at'+c.r.pos))) 0≤2*(3*gH (A.w (C.base c.r.at'+c.r.pos))+5):=Int.mul_le_mul_of_nonneg_right (by omega) (by omega)
    refine .inl ⟨rfl,hS,nn,by omega,.p5 rfl ha hs (.a ⟨rfl,k2,t0,c0,?_,ev,⟨HH.1,by show c.r.pos<C.W;omega⟩,?_⟩) ev.ab px cwb ?_,bU.ev,bU.lf,bU.fd,bU.mo,bU.il,bU.rd⟩
    ·exact kD
    ·show 19+C.C+3*gH (A.w (C.base c.r.at'+c.r.pos))+rq C (gH (A.w (C.base c.r.at'+c.r.pos))) 0≤q-1-yr c.r.w c.r.pos
     unfold yr;omega
    ·show 1+yr c.r.w c.r.pos≤q-1
     unfold yr;omega
   ·have st:c.step C who A r=({ c with r:={ c.r with pc:=9 } },(A.by who).load (C.base c.r.at'+c.r.pos)):=by
     unfold Co.step;rw[ae (by omega),ae (by omega),ae (by omega),ae (by omega),af hp,ae k3,ae k2]
    rw[st]
    exact .inl ⟨rfl,hS,nn,by omega,.p9 rfl ha hs kD (ev.le HH.1) (by omega),bU.ev,bU.lf,bU.fd,bU.mo,bU.il,bU.rd⟩
 | p0 bG=>omega
 | p1 bG=>omega
 | p2 bG=>omega
 | p3 bG=>omega
 | p5 bG=>omega
 | p6 bG=>omega
 | p9 bG=>omega
 | m7 bG=>omega
 | oo bG=>omega
theorem mr.Yw(hS:MS C P){T at' pos cw s v xs q:Int}{m:Mv}{w:Int→Int}(hc:qC C P at' pos s m)(h:mr C P T at' pos cw s v xs q m w):1≤q:=by
 have rr:=hS.rm hc.sb.1 hc.sb.2 hc.l
 have r0:m.a.pc≠11→0≤rq C (P.z s) m.a.nn:=fun e=>SF (by omega) (hc.n1 e)
 have oW:=h.ib
 cases h.ph with
 | head p mw ob hq=>have:=r0 (by omega);omega
 | gF p hd mw ob hq=>have:=r0 (by omega);omega
 | mark p hd mw ob hq=>have:=r0 (by omega);omega
 | go hd mw sl cp c=>
  cases c with
  | load p hi f hq=>have:=r0 (by omega);omega
  | freeze p hi f hq=>have:=r0 (by omega);split at hq<;>omega
  | copy p hi f e hq=>have:=r0 (by omega);omega
  | gE p hi f hq=>have:=r0 (by omega);omega
 | stop p hi hd mw ob hq=>
  have:=r0 (by omega)
  by_cases e:m.a.pc=7
  ·rw[af e]at hq;omega
  ·have:=hi e
   rw[ae e]at hq
   (repeat' split at hq)<;>omega
 | shown p hd mw sl cp hq=>omega
 | count p mw sl hq=>omega
 | kill p o hd mw ob hq=>omega
theorem WI.s5(hC:C.ok)(h:WI C P t q c A)(hp:c.r.pc=5)(lJ:t≤4194000)(r:Int):WR C P t q c (c.step C who A r):=by
 obtain⟨hS,nn,q3,wc,nm⟩:=h
 cases wc with
 | p5 _ ha hs mv h0 px hw hq=>
  have bU:=nm.mono (t':=t+1) (by omega)
  have pr:=iO px
  have hB:0≤yr c.r.w c.r.pos:=by unfold yr;omega
  have st:c.step C who A r=({ c with r:=c.r.l6 (c.m.step C who A).1 (c.m.step C who A).2.1.a.out,m:=(c.m.step C who A).2.1 },(c.m.step C who A).2.2):=by
   unfold Co.step;rw[ae (by omega),ae (by omega),ae (by omega),ae (by omega),ae (by omega),af hp]
  have en:(c.m.step C who A).2.2.n=A.n:=oG.n c.m
  have Uv:C.len≤(c.m.step C who A).2.2.n∧((c.m.step C who A).2.2.n:Int)≤200000000:=by rw[en];exact nn
  rw[st]
  rcases mv.step (who:=who) hC hS lJ (by omega)with⟨b,hm⟩|⟨b,hm⟩
  ·rw[b]
   have eq1:q-yr c.r.w c.r.pos-1=q-1-yr c.r.w c.r.pos:=by omega
   rw[eq1]at hm
   have h2:1+yr c.r.w c.r.pos≤q-1:=by
    by_cases z:q-1-yr c.r.w c.r.pos=0
    ·exfalso
     rw[z]at hm
     cases hm with
     | a h=>have:=h.qb;have:=(bT h.c).1;have:=hC.C;have:=SF (C:=C) (n:=0) (show 0≤gH ((c.m.step C who A).2.2.w (C.base c.r.at'+c.r.pos)) by omega) (by have:=hC.R;omega);omega
     | b s v k u hc h=>have:=h.kb;have:=h.pl.C3 hC;have:=hS.rm hc.sb.1 hc.sb.2 hc.l;have:=SF (C:=C) (n:=0) (show 0≤P.z s by omega) (by have:=hC.R;omega);omega
     | c s v xs hc h=>have:=h.Yw hS hc;omega
    ·omega
   exact .inl ⟨rfl,hS,Uv,by omega,.p5 hp ha hs hm h0 px hw h2,bU.ev,bU.lf,bU.fd,bU.mo,bU.il,bU.rd⟩
  ·rw[b]
   obtain⟨ho,mw,ev,g⟩:=hm
   have nmo:=nm.mo
   unfold Cr.l6
   rw[ae (by simp)]
   rcases ho with o|o|o|o
   ·rw[o,af rfl]
    exact WI.on (A:=(c.m.step C who A).2.2) (m':=(c.m.step C who A).2.1) (mo':=c.r.mo+1) hC hS Uv q3 ha hs lJ mw ev px (g (by omega)) (by omega) bU (by omega)
   ·rw[o,ae (by decide),af rfl]
    exact WI.on (A:=(c.m.step C who A).2.2) (m':=(c.m.step C who A).2.1) (mo':=c.r.mo) hC hS Uv q3 ha hs lJ mw ev px (g (by omega)) (by omega) bU (by omega)
   ·rw[o,ae (by decide),ae (by decide)]
    exact .inl ⟨rfl,hS,Uv,by omega,.p9 rfl ha hs mw (ev.le px.x.1) (by unfold yr at hq;omega),bU.ev,bU.lf,bU.fd,bU.mo,bU.il,bU.rd⟩
   ·rw[o,ae (by decide),ae (by decide)]
    exact .inl ⟨rfl,hS,Uv,by omega,.p9 rfl ha hs mw (ev.le px.x.1) (by unfold yr at hq;omega),bU.ev,bU.lf,bU.fd,bU.mo,bU.il,bU.rd⟩
 | p0 bG=>omega
 | p1 bG=>omega
 | p2 bG=>omega
 | p3 bG=>omega
 | p4 bG=>omega
 | p6 bG=>omega
 | p9 bG=>omega
 | m7 bG=>omega
 | oo bG=>omega
end
end Go.Fl
namespace Go.Fl
open Go
variable{N:Nm}{σ:Mem}{K:Value→Mem→Prop}{C:Cf}{w:Int→Int}{P:MP}{A:Ar}{who:Int}
section
variable{t q:Int}{c:Co}
theorem KG(hp:c.r.pc=10)(r:Int):c.step C who A r=if((c.a.getD fQ.new).step C who A).1=true then({ c with a:=none,r:={ c.r with at':=0,pc:=11 } },((c.a.getD fQ.new).step C who A).2.2)
  else({ c with a:=some ((c.a.getD fQ.new).step C who A).2.1 },((c.a.getD fQ.new).step C who A).2.2):=by
 unfold Co.step;rw[ae (by omega),ae (by omega),ae (by omega),ae (by omega),ae (by omega),ae (by omega),ae (by omega),ae (by omega),ae (by omega),ae (by omega),af hp]
theorem KF(hp:c.r.pc=11)(r:Int):c.step C who A r=if((c.s.getD (dR.new c.r.at')).step C who A).1=true then({ c with s:=none,r:=c.r.settled C ((c.s.getD (dR.new c.r.at')).step C who A).2.1.iw },((c.s.getD (dR.new c.r.at')).step C who A).2.2)
  else({ c with s:=some ((c.s.getD (dR.new c.r.at')).step C who A).2.1 },((c.s.getD (dR.new c.r.at')).step C who A).2.2):=by
 unfold Co.step;rw[ae (by omega),ae (by omega),ae (by omega),ae (by omega),ae (by omega),ae (by omega),ae (by omega),ae (by omega),ae (by omega),ae (by omega),ae (by omega)]
theorem WI.s6(hC:C.ok)(h:WI C P t q c A)(hp:6≤c.r.pc∧c.r.pc≤8)(lJ:t≤4194000)(r:Int):WR C P t q c (c.step C who A r):=by
 obtain⟨hS,nn,q3,wc,nm⟩:=h
 cases wc with
 | p6 _ ha hs mw ev hn hq=>
  have bU:=nm.mono (t':=t+1) (by omega)
  have kD:MW C P (t+1) (-1) (-1) A.w:=mw.mono (by omega)
  have nev:=nm.ev
  rcases(show c.r.pc=6∨c.r.pc=7∨c.r.pc=8 by omega)with e|e|e
  ·have st:c.step C who A r=({ c with r:={ c.r with now:=A.w 0,pc:=7 } },(A.by who).load 0):=by
    unfold Co.step;rw[ae (by omega),ae (by omega),ae (by omega),ae (by omega),ae (by omega),ae (by omega),af e]
   rw[st]
   exact .inl ⟨rfl,hS,nn,by omega,.p6 ⟨(by decide:(6:Int)≤7),(by decide:(7:Int)≤8)⟩ ha hs kD ev ⟨fun _=>rfl,fun g=>absurd (show(7:Int)=8 from g) (by decide)⟩ (by show 535-7≤q-1;omega),bU.ev,bU.lf,bU.fd,bU.mo,bU.il,bU.rd⟩
  ·have st:c.step C who A r=({ c with r:={ c.r with pc:=8 } },(A.by who).store (C.chunk c.r.at'+2) c.r.now):=by
    unfold Co.step;rw[ae (by omega),ae (by omega),ae (by omega),ae (by omega),ae (by omega),ae (by omega),ae (by omega),af e]
   rw[st]
   have ss:MW C P (t+1) (-1) (-1) (aX A.w (C.chunk c.r.at'+2) c.r.now):=mw.low hC hS (by omega) (by rw[hn.1 (by omega)];exact mw.bd 0) (.inr (.inl ⟨_,ev.ab.1,ev.ab.2,.inr ⟨rfl,by rw[ev.sB,ev.c2];decide⟩⟩))
   refine .inl ⟨rfl,hS,nn,by omega,.p6 ⟨(by decide:(6:Int)≤8),(by decide:(8:Int)≤8)⟩ ha hs ss ?_ ⟨fun _=>?_,fun _=>?_⟩ (by show 535-8≤q-1;omega),bU.ev,bU.lf,bU.fd,bU.mo,bU.il,bU.rd⟩
   ·have rX:=hC.S
    exact ev.aL (fun j j0 j1=>.inl (az _ _ (by unfold Cf.chunk;omega))) fun s s0 s1=>.inl (az _ _ (by have:=ev.ab;unfold Cf.chunk Cf.slot;omega))
   ·show c.r.now=aX A.w (C.chunk c.r.at'+2) c.r.now 0
    have rX:=hC.S
    have zq:=hC.T
    rw[az _ _ (by have:=ev.ab;unfold Cf.chunk;omega)];exact hn.1 (by omega)
   ·show aX A.w (C.chunk c.r.at'+2) c.r.now (C.chunk c.r.at'+2)=aX A.w (C.chunk c.r.at'+2) c.r.now 0
    have rX:=hC.S
    have zq:=hC.T
    rw[aE,az _ _ (by have:=ev.ab;unfold Cf.chunk;omega)];exact hn.1 (by omega)
  ·have st:c.step C who A r=({ c with r:={ c.r with ev:=c.r.ev+1,pc:=10 } },(A.by who).store (C.chunk c.r.at') (jX c.r.w 3)):=by
    unfold Co.step;rw[ae (by omega),ae (by omega),ae (by omega),ae (by omega),ae (by omega),ae (by omega),ae (by omega),ae (by omega),af e]
   rw[st]
   obtain⟨v1,v2,v3,v4⟩:=se (w:=c.r.w) (st:=3) (by decide)
   have kk:=mw.ck _ ev.ab.1 ev.ab.2
   rw[ev.sB]at kk
   have kn:=JE (v:=c.r.w) (st:=3)
   have kn2:=kk.n
   have ss:MW C P (t+1) (-1) (-1) (aX A.w (C.chunk c.r.at') (jX c.r.w 3)):=by
    refine mw.chunk hC hS (by omega) ev.ab.1 ev.ab.2 v4 ⟨by rw[v2];exact kk.c,by rw[v3];exact kk.u,by rw[v3,v2];exact kk.m,by omega,fun _=>by rw[v3];exact kk.p (by rw[ev.c2];decide)⟩ (.inl rfl) (fun g=>by rw[v1]at g;omega) (fun s a x s0 s1 l _ e p=>?_) (by omega) (fun RC x p=>⟨p.ea,p.jb,by rw[aE,v3,←ev.sB];exact p.xb,p.m,by rw[aE,v2,←ev.sB];exact p.c,by rw[aE,v1];decide,fun _=>?_⟩) (fun _=>by rw[hn.2 e];have:=mw.ep;omega)
    ·have px:=p.xb
     rw[ev.sB]at px
     have rr:=hS.rm s0 s1 l
     exact absurd (e.trans p.ea) (ev.ev s s0 s1 l x px.1 (by omega))
    ·rw[az _ _ (by unfold Cf.chunk;omega),hn.2 e]
     have:=(mw.ins (mw.ho RC).hp).2
     omega
   refine .inl ⟨rfl,hS,nn,by omega,.m7 rfl hs ss (fun j j0 j1 g=>?_) (fun v e=>by rw[show c.a=some v from e]at ha;cases ha) (by show 520-DC c.a≤q-1;rw[ha];show 520-0≤q-1;omega),by show 0≤c.r.ev+1∧c.r.ev+1≤t+1;omega,bU.lf,bU.fd,bU.mo,bU.il,bU.rd⟩
   have g':bF (aX A.w (C.chunk c.r.at') (jX c.r.w 3) (C.chunk j))=2:=g
   by_cases ej:j=c.r.at'
   ·rw[ej,aE,v1]at g';exact absurd g' (by decide)
   ·rw[az _ _ (gK ej).1]at g';exact ej (ev.s2 j j0 j1 g')
 | p0 bG=>omega
 | p1 bG=>omega
 | p2 bG=>omega
 | p3 bG=>omega
 | p4 bG=>omega
 | p5 bG=>omega
 | p9 bG=>omega
 | m7 bG=>omega
 | oo bG=>omega
theorem WI.s9(hC:C.ok)(h:WI C P t q c A)(hp:c.r.pc=9)(lJ:t≤4194000)(r:Int):WR C P t q c (c.step C who A r):=by
 obtain⟨hS,nn,q3,wc,nm⟩:=h
 cases wc with
 | p9 _ ha hs mw ev hq=>
  have bU:=nm.mono (t':=t+1) (by omega)
  have nlf:=nm.lf
  have st:c.step C who A r=({ c with r:={ c.r with lf:=c.r.lf+1,pc:=10 } },(A.by who).store (C.chunk c.r.at') (jX c.r.w 1)):=by
   unfold Co.step;rw[ae (by omega),ae (by omega),ae (by omega),ae (by omega),ae (by omega),ae (by omega),ae (by omega),ae (by omega),ae (by omega),af hp]
  rw[st]
  obtain⟨v1,v2,v3,v4⟩:=se (w:=c.r.w) (st:=1) (by decide)
  have kk:=mw.ck _ ev.ab.1 ev.ab.2
  rw[ev.sB]at kk
  have kn:=JE (v:=c.r.w) (st:=1)
  have kn2:=kk.n
  have ss:MW C P (t+1) (-1) (-1) (aX A.w (C.chunk c.r.at') (jX c.r.w 1)):=by
   refine mw.chunk hC hS (by omega) ev.ab.1 ev.ab.2 v4 ⟨by rw[v2];exact kk.c,by rw[v3];exact kk.u,by rw[v3,v2];exact kk.m,by omega,fun g=>by rw[v1]at g;omega⟩ (.inl rfl) (fun _ x x0 x1 xm jd=>?_) (fun s a x s0 s1 l _ _ p=>⟨.inl v1,by rw[v2,ev.sB],by rw[v3,ev.sB];exact Int.le_refl _⟩) (by omega) (fun _ x p=>⟨p.ea,p.jb,by rw[aE,v3,←ev.sB];exact p.xb,p.m,by rw[aE,v2,←ev.sB];exact p.c,by rw[aE,v1];decide,fun g=>by rw[aE,v1]at g;omega⟩) (fun g=>by rw[v1]at g;omega)
   rw[v3]at x1;rw[v2]at xm
   exact mw.hd _ x ev.ab.1 ev.ab.2 (.inr (by rw[ev.sB];exact ev.c2)) x0 (by rw[ev.sB];exact x1) (by rw[ev.sB];exact xm) jd
  refine .inl ⟨rfl,hS,nn,by omega,.m7 rfl hs ss (fun j j0 j1 g=>?_) (fun v e=>by rw[show c.a=some v from e]at ha;cases ha) (by show 520-DC c.a≤q-1;rw[ha];show 520-0≤q-1;omega),bU.ev,by show 0≤c.r.lf+1∧c.r.lf+1≤t+1;omega,bU.fd,bU.mo,bU.il,bU.rd⟩
  have g':bF (aX A.w (C.chunk c.r.at') (jX c.r.w 1) (C.chunk j))=2:=g
  by_cases ej:j=c.r.at'
  ·rw[ej,aE,v1]at g';exact absurd g' (by decide)
  ·rw[az _ _ (gK ej).1]at g';exact ej (ev.s2 j j0 j1 g')
 | p0 bG=>omega
 | p1 bG=>omega
 | p2 bG=>omega
 | p3 bG=>omega
 | p4 bG=>omega
 | p5 bG=>omega
 | p6 bG=>omega
 | m7 bG=>omega
 | oo bG=>omega
theorem WI.Xn(hC:C.ok)(h:WI C P t q c A)(hp:c.r.pc=10)(lJ:t≤4194000)(r:Int):WR C P t q c (c.step C who A r):=by
 obtain⟨hS,nn,q3,wc,nm⟩:=h
 cases wc with
 | m7 _ hs mw n2 ha hq=>
  have bU:=nm.mono (t':=t+1) (by omega)
  have kD:MW C P (t+1) (-1) (-1) A.w:=mw.mono (by omega)
  have hT:=hC.T;have ma:=hC.C;have zp:=hS.cc
  have ep:=mw.ep
  have e0:=(mw.bd 0).1
  have a10:DC c.a≤10:=by
   cases e:c.a with
   | none=>decide
   | some v=>
    have:=(ha v e).2.1
    show(if v.pc=1 then 1+v.at' else 10)≤10
    split<;>omega
  have fin:∀ A':Ar,A'.n=A.n→MW C P (t+1) (-1) (-1) A'.w→DQ C A'.w→WR C P t q c ({ c with a:=none,r:={ c.r with at':=0,pc:=11 } },A'):=fun A' en hm h2=>
   .inl ⟨rfl,hS,by rw[en];exact nn,by omega,.oo rfl rfl hm h2 ⟨Int.le_refl 0,by show(0:Int)<C.C;omega⟩ (fun v e=>by rw[show c.s=some v from e]at hs;cases hs) (by show 50*(C.C-0)-yx c.s≤q-1;rw[hs];show 50*(C.C-0)-0≤q-1;omega),bU.ev,bU.lf,bU.fd,bU.mo,bU.il,bU.rd⟩
  rw[KG hp]
  cases ea:c.a with
  | none=>
   have e1:fQ.new.step C who A=(false,{ fQ.new with now:=A.w 0,pc:=1 },(A.by who).load 0):=by unfold fQ.step;rw[af (show fQ.new.pc=0 from rfl)]
   rw[Option.getD_none,e1,ae (by simp)]
   refine .inl ⟨rfl,hS,nn,by omega,.m7 hp hs kD n2 (fun v e=>?_) ?_,bU.ev,bU.lf,bU.fd,bU.mo,bU.il,bU.rd⟩
   ·obtain rfl:(⟨1,A.w 0,0,false⟩:fQ)=v:=by injection e
    exact⟨rfl,.inl ⟨rfl,Int.le_refl 0,by show(0:Int)<C.T;omega⟩,fun g=>by rcases g with g|g;exact absurd (show(0:Int)<0 from g) (by decide);exact absurd (show(1:Int)=2 from g) (by decide)⟩
   ·rw[ea]at hq
    have yo:520-0≤q:=hq
    show 520-(if(1:Int)=1 then 1+(0:Int)else 10)≤q-1
    rw[af rfl];omega
  | some v=>
   obtain⟨v1,v2,v3⟩:=ha v ea
   rw[ea]at hq
   have yo:520-(if v.pc=1 then 1+v.at' else 10)≤q:=hq
   rw[Option.getD_some]
   rcases v2 with⟨q1,q2⟩|⟨q1,q2⟩
   ·by_cases Kr:A.w (6+v.at')≠0∧A.w (6+v.at')≠IntKind.u64.wrap (v.now+1)
    ·have e1:v.step C who A=(true,v,(A.by who).load (6+v.at')):=by unfold fQ.step;rw[ae (by omega),af q1,af Kr]
     rw[e1,af rfl]
     exact fin _ rfl kD n2
    have e1:v.step C who A=(false,{ v with at':=v.at'+1,pc:=if C.T≤v.at'+1 then 2 else v.pc },(A.by who).load (6+v.at')):=by unfold fQ.step;rw[ae (by omega),af q1,ae Kr]
    rw[e1,ae (by simp)]
    rw[af q1]at yo
    refine .inl ⟨rfl,hS,nn,by omega,.m7 hp hs kD n2 (fun u e=>?_) ?_,bU.ev,bU.lf,bU.fd,bU.mo,bU.il,bU.rd⟩
    ·obtain rfl:({ v with at':=v.at'+1,pc:=if C.T≤v.at'+1 then 2 else v.pc }:fQ)=u:=by injection e
     refine⟨v1,?_,fun _ RC=>?_⟩
     ·by_cases g:C.T≤v.at'+1
      ·exact .inr ⟨af g,by show 0≤v.at'+1;omega⟩
      ·exact .inl ⟨(ae g).trans q1,by show 0≤v.at'+1;omega,by show v.at'+1<C.T;omega⟩
     ·by_cases z:0<v.at'
      ·exact v3 (.inl z) RC
      ·have i6:=(mw.ins RC).1
       have wr:IntKind.u64.wrap (v.now+1)=A.w 0+1:=by rw[v1];exact D3 (by omega) (by omega)
       rw[wr,show v.at'=0 by omega,Int.add_zero]at Kr
       show A.w 0=P.hp
       omega
    ·show 520-(if(if C.T≤v.at'+1 then(2:Int)else v.pc)=1 then 1+(v.at'+1)else 10)≤q-1
     by_cases g:C.T≤v.at'+1
     ·rw[af g,ae (by decide)];omega
     ·rw[ae g,af q1];omega
   ·have wr:IntKind.u64.wrap (v.now+1)=A.w 0+1:=by rw[v1];exact D3 (by omega) (by omega)
    have e1:v.step C who A=(true,{ v with H3:=decide (A.w 0=v.now) },(A.by who).store 0 (A.w 0+1)):=by unfold fQ.step;rw[ae (by omega),ae (by omega),cx (by exact v1.symm),wr]
    rw[e1,af rfl]
    exact fin _ rfl (mw.low hC hS (by omega) (by omega) (.inl ⟨rfl,by omega,fun RC=>.inr (by rw[v3 (.inr q1) RC])⟩)) (n2.aL fun j j0 j1=>az _ _ (by have:=cP hC j0 j1;omega))
 | p0 bG=>omega
 | p1 bG=>omega
 | p2 bG=>omega
 | p3 bG=>omega
 | p4 bG=>omega
 | p5 bG=>omega
 | p6 bG=>omega
 | p9 bG=>omega
 | oo bG=>omega
theorem WI.set(hC:C.ok)(hS:MS C P)(q3:q≤3000)(ha:c.a=none)(f:Bool)(hp:c.r.pc=11)(h0:0≤c.r.at'∧c.r.at'<C.C)(hq:50*(C.C-c.r.at')-45≤q){A':Ar}(nn:C.len≤A'.n∧(A'.n:Int)≤200000000)(mw:MW C P (t+1) (-1) (-1) A'.w)(n2:DQ C A'.w)(nm:Nw t c) :
  WR C P t q c ({ c with s:=none,r:=c.r.settled C f },A'):=by
 have bU:=nm.mono (t':=t+1) (by omega)
 have zp:=hS.cc
 have nfd:=nm.fd
 have nil:=nm.il
 have DS:0≤(if f=true then c.r.fd+1 else c.r.fd)∧(if f=true then c.r.fd+1 else c.r.fd)≤t+1:=by split<;>omega
 unfold Cr.settled
 by_cases z:C.C≤c.r.at'+1
 ·simp only[af z]
  refine .inr ⟨⟨rfl,rfl,rfl⟩,hS,nn,by omega,.p0 rfl ha rfl ?_ n2 ⟨Int.le_refl 0,by show(0:Int)<C.C;omega⟩ (fun e=>absurd rfl e) (by show 2*(C.C-0)+2784≤3000;omega),?_⟩
  ·exact mw
  ·have n1:=bU.ev;have n2:=bU.lf;have n3:=bU.mo;have n4:=nm.rd
   refine⟨by show 0≤c.r.ev∧c.r.ev≤_;omega,by show 0≤c.r.lf∧c.r.lf≤_;omega,by show 0≤(if f=true then c.r.fd+1 else c.r.fd)∧(if f=true then c.r.fd+1 else c.r.fd)≤_;omega,by show 0≤c.r.mo∧c.r.mo≤_;omega,?_,by show 0≤c.r.rd+1∧c.r.rd+1≤t+1;omega⟩
   show 0≤(if c.r.ev≠c.r.fJ∨c.r.mo≠c.r.iK∨(if f=true then c.r.fd+1 else c.r.fd)≠c.r.iE then 0 else c.r.idle+1)∧(if c.r.ev≠c.r.fJ∨c.r.mo≠c.r.iK∨(if f=true then c.r.fd+1 else c.r.fd)≠c.r.iE then 0 else c.r.idle+1)≤c.r.rd+1
   by_cases g:c.r.ev≠c.r.fJ∨c.r.mo≠c.r.iK∨(if f=true then c.r.fd+1 else c.r.fd)≠c.r.iE
   ·rw[af g];omega
   ·rw[ae g];omega
 ·simp only[ae z]
  exact .inl ⟨rfl,hS,nn,by omega,.oo hp ha mw n2 ⟨by show 0≤c.r.at'+1;omega,by show c.r.at'+1<C.C;omega⟩ (fun v e=>by cases e) (by show 50*(C.C-(c.r.at'+1))-0≤q-1;omega),bU.ev,bU.lf,DS,bU.mo,bU.il,bU.rd⟩
theorem WI.Yu(hC:C.ok)(h:WI C P t q c A)(hp:c.r.pc=11)(lJ:t≤4194000)(r:Int):WR C P t q c (c.step C who A r):=by
 obtain⟨hS,nn,q3,wc,nm⟩:=h
 cases wc with
 | oo _ ha mw n2 h0 hs hq=>
  have bU:=nm.mono (t':=t+1) (by omega)
  have kD:MW C P (t+1) (-1) (-1) A.w:=mw.mono (by omega)
  have zp:=hS.cc
  have b:=cP hC h0.1 h0.2
  have kk:=mw.ck _ h0.1 h0.2
  have s45:yx c.s≤45:=by
   cases e:c.s with
   | none=>decide
   | some v=>
    obtain⟨_,h3,h4,_,h5,_⟩:=hs v e
    have:=kk.u
    rw[←h4]at this
    rw[SC]
    split
    ·omega
    ·split<;>omega
  have go:∀(v:dR) (A':Ar),A'.n=A.n→MW C P (t+1) (-1) (-1) A'.w→(∀ j,0≤j→j<C.C→A'.w (C.chunk j)=A.w (C.chunk j))→(A'.w 0=A.w 0∧A'.w (C.chunk c.r.at'+2)=A.w (C.chunk c.r.at'+2))→(v.ch=c.r.at'∧bF (A.w (C.chunk c.r.at'))=3∧v.w=A.w (C.chunk c.r.at')∧v.iw=false∧((v.pc=1∨v.pc=2)∧v.at'=0∨v.pc=3∧(0≤v.at'∧v.at'<bD v.w)∨v.pc=4∨v.pc=5)∧(v.pc=2→v.since=A.w (C.chunk c.r.at'+2))∧(3≤v.pc→A.w (C.chunk c.r.at'+2)+2≤A.w 0))→yx c.s<yx (some v) →
    WR C P t q c ({ c with s:=some v },A'):=fun v A' en hm hk h02 hv hl=>by
   refine .inl ⟨rfl,hS,by rw[en];exact nn,by omega,.oo hp ha hm (n2.aL hk) h0 (fun u e=>?_) ?_,bU.ev,bU.lf,bU.fd,bU.mo,bU.il,bU.rd⟩
   ·obtain rfl:v=u:=by injection e
    rw[hk _ h0.1 h0.2,h02.1,h02.2];exact hv
   ·show 50*(C.C-c.r.at')-yx (some v)≤q-1;omega
  have ho3:bF (A.w (C.chunk c.r.at'))=3→∀ s a x,qq C P A.w s a c.r.at' x→False:=fun e s a x p=>by have:=p.st;omega
  rw[KF hp]
  cases es:c.s with
  | none=>
   have e1:(dR.new c.r.at').step C who A=(!decide (bF (A.w (C.chunk c.r.at'))=3),{ dR.new c.r.at' with w:=A.w (C.chunk c.r.at'),pc:=1 },(A.by who).load (C.chunk c.r.at')):=by unfold dR.step;rw[af (show(dR.new c.r.at').pc=0 from rfl)];rfl
   rw[Option.getD_none,e1]
   by_cases c3:bF (A.w (C.chunk c.r.at'))=3
   ·rw[ae (by simp[c3])]
    exact go ⟨c.r.at',1,A.w (C.chunk c.r.at'),0,0,false⟩ ((A.by who).load (C.chunk c.r.at')) rfl kD (fun _ _ _=>rfl) ⟨rfl,rfl⟩ ⟨rfl,c3,rfl,rfl,.inl ⟨.inl rfl,rfl⟩,fun g=>absurd (show(1:Int)=2 from g) (by decide),fun g=>absurd (show(3:Int)≤1 from g) (by decide)⟩ (by rw[es,Mw (by show(1:Int)≤2;decide)];show(0:Int)<1;decide)
   ·rw[af (by simp[c3])]
    exact WI.set hC hS q3 ha _ hp h0 (by omega) (A':=(A.by who).load (C.chunk c.r.at')) nn kD n2 nm
  | some v=>
   obtain⟨v1,v3,v4,v5,v6,v7,v8⟩:=hs v es
   have zq:=hC.T;have rX:=hC.S
   have UW:=mw.sn _ h0.1 h0.2 v3
   have B_:3≤v.pc→0≤P.hs→∀ x,Ka C P A.w c.r.at' x→False:=fun g p x pl=>by
    have h1:=pl.q v3
    have h2:=(mw.ins (mw.ho p).hp).2
    have h3:=v8 g
    omega
   rw[Option.getD_some]
   rcases v6 with⟨q1|q1,q2⟩|⟨q1,q2⟩|q1|q1
   ·have e1:v.step C who A=(false,{ v with since:=A.w (C.chunk v.ch+2),pc:=2 },(A.by who).load (C.chunk v.ch+2)):=by unfold dR.step;rw[ae (by omega),af q1]
    rw[e1,ae (by simp)]
    exact go { v with since:=A.w (C.chunk v.ch+2),pc:=2 } ((A.by who).load (C.chunk v.ch+2)) rfl kD (fun _ _ _=>rfl) ⟨rfl,rfl⟩ ⟨v1,v3,v4,v5,.inl ⟨.inr rfl,q2⟩,fun _=>by show A.w (C.chunk v.ch+2)=_;rw[v1],fun g=>absurd (show(3:Int)≤2 from g) (by decide)⟩ (by rw[es,Mw (by omega),Mw (by show(2:Int)≤2;decide)];show v.pc<2;omega)
   ·have e1:v.step C who A=(decide (A.w 0<IntKind.u64.wrap (v.since+2)),{ v with pc:=3 },(A.by who).load 0):=by unfold dR.step;rw[ae (by omega),ae (by omega),af q1]
    rw[e1]
    by_cases cd:A.w 0<IntKind.u64.wrap (v.since+2)
    ·rw[af (by simp[cd])]
     exact WI.set hC hS q3 ha _ hp h0 (by omega) (A':=(A.by who).load 0) nn kD n2 nm
    ·rw[ae (by simp[cd])]
     refine go { v with pc:=3 } ((A.by who).load 0) rfl kD (fun _ _ _=>rfl) ⟨rfl,rfl⟩ ⟨v1,v3,v4,v5,.inr (.inl ⟨rfl,by show 0≤v.at'∧v.at'<bD v.w;rw[q2,v4];exact⟨Int.le_refl 0,kk.p (by rw[v3];decide)⟩⟩),fun g=>absurd (show(3:Int)=2 from g) (by decide),fun _=>?_⟩ ?_
     ·have w2:IntKind.u64.wrap (v.since+2)=v.since+2:=D3 (by rw[v7 q1];have:=(mw.bd (C.chunk c.r.at'+2)).1;omega) (by rw[v7 q1];omega)
      rw[w2,v7 q1]at cd
      show A.w (C.chunk c.r.at'+2)+2≤A.w 0
      omega
     ·rw[es,Mw (by omega),SB (by rfl)];show v.pc<3+v.at';omega
   ·have e1:v.step C who A=(false,{ v with at':=v.at'+1,pc:=if bD v.w≤v.at'+1 then 4 else v.pc },(A.by who).store (C.base c.r.at'+v.at') 0):=by unfold dR.step;rw[ae (by omega),ae (by omega),ae (by omega),af q1,v1]
    rw[e1,ae (by simp)]
    have ku:=kk.u
    rw[←v4]at ku
    have bb:=a_ hC h0.1 h0.2 q2.1
    have ss:MW C P (t+1) (-1) (-1) (aX A.w (C.base c.r.at'+v.at') 0):=mw.word hC hS (by omega) h0.1 h0.2 q2.1 (by omega) (by decide) (fun g=>by omega) (fun s a _ _ _ _ _ x p _=>ho3 v3 s a x p) (by omega) (fun p x pl _ _=>(B_ (by omega) p x pl).elim)
    refine go { v with at':=v.at'+1,pc:=if bD v.w≤v.at'+1 then 4 else v.pc } ((A.by who).store (C.base c.r.at'+v.at') 0) rfl ss (fun j j0 j1=>az _ _ (by have:=cP hC j0 j1;omega)) ⟨az _ _ (by omega),az _ _ (by omega)⟩ ⟨v1,v3,v4,v5,?_,fun g=>?_,fun _=>v8 (by omega)⟩ ?_
    ·by_cases z:bD v.w≤v.at'+1
     ·exact .inr (.inr (.inl (af z)))
     ·exact .inr (.inl ⟨(ae z).trans q1,by show 0≤v.at'+1;omega,by show v.at'+1<bD v.w;omega⟩)
    ·have g':(if bD v.w≤v.at'+1 then(4:Int)else v.pc)=2:=g
     split at g'<;>omega
    ·rw[es,SB q1]
     by_cases z:bD v.w≤v.at'+1
     ·have e:(if bD v.w≤v.at'+1 then(4:Int)else v.pc)=4:=af z
      rw[SA (by show 4≤(if bD v.w≤v.at'+1 then(4:Int)else v.pc);omega)]
      show 3+v.at'<40+(if bD v.w≤v.at'+1 then(4:Int)else v.pc);omega
     ·have e:(if bD v.w≤v.at'+1 then(4:Int)else v.pc)=v.pc:=ae z
      rw[SB (by show(if bD v.w≤v.at'+1 then(4:Int)else v.pc)=3;omega)]
      show 3+v.at'<3+(v.at'+1);omega
   ·have e1:v.step C who A=(false,{ v with pc:=5 },(A.by who).store (C.chunk c.r.at'+1) 0):=by unfold dR.step;rw[ae (by omega),ae (by omega),ae (by omega),ae (by omega),af q1,v1]
    rw[e1,ae (by simp)]
    refine go { v with pc:=5 } ((A.by who).store (C.chunk c.r.at'+1) 0) rfl (mw.low hC hS (by omega) (by decide) (.inr (.inl ⟨_,h0.1,h0.2,.inl rfl⟩))) (fun j j0 j1=>az _ _ (by unfold Cf.chunk;omega)) ⟨az _ _ (by unfold Cf.chunk;omega),az _ _ (by omega)⟩ ⟨v1,v3,v4,v5,.inr (.inr (.inr rfl)),fun g=>absurd (show(5:Int)=2 from g) (by decide),fun _=>v8 (by omega)⟩ ?_
    rw[es,SA (by omega),SA (by show(4:Int)≤5;decide)];show 40+v.pc<40+5;omega
   ·have e1:v.step C who A=(true,{ v with iw:=true },(A.by who).store (C.chunk v.ch) (aR 0 0 0 (eM v.w+1))):=by unfold dR.step;rw[ae (by omega),ae (by omega),ae (by omega),ae (by omega),ae (by omega)]
    rw[e1,af rfl,v1]
    have kn:=kk.n
    have nb:=jT v.w
    rw[←v4]at kn
    obtain⟨z1,z2,z3,z4⟩:=lF (st:=0) (c:=0) (us:=0) (sp:=eM v.w+1) (by decide) (by decide) (by decide) (by omega)
    have ss:MW C P (t+1) (-1) (-1) (aX A.w (C.chunk c.r.at') (aR 0 0 0 (eM v.w+1))):=mw.chunk hC hS (by omega) h0.1 h0.2 (bS _ _ _ _) ⟨by rw[z2];decide,by rw[z3];have:=hC.W;omega,by rw[z3,Int.zero_emod],by rw[z4];omega,fun g=>by rw[z1]at g;omega⟩ (.inl rfl) (fun g=>by rw[z1]at g;omega) (fun s a x _ _ _ _ _ p=>(ho3 v3 s a x p).elim) (by omega) (fun p x pl=>(B_ (by omega) p x pl).elim) (fun g=>by rw[z1]at g;omega)
    refine WI.set hC hS q3 ha _ hp h0 (by omega) (A':=(A.by who).store (C.chunk c.r.at') (aR 0 0 0 (eM v.w+1))) nn ss (fun j j0 j1 g=>?_) nm
    have g':bF (aX A.w (C.chunk c.r.at') (aR 0 0 0 (eM v.w+1)) (C.chunk j))=2:=g
    by_cases ej:j=c.r.at'
    ·rw[ej,aE,z1]at g';exact absurd g' (by decide)
    ·rw[az _ _ (gK ej).1]at g';exact n2 j j0 j1 g'
 | p0 bG=>omega
 | p1 bG=>omega
 | p2 bG=>omega
 | p3 bG=>omega
 | p4 bG=>omega
 | p5 bG=>omega
 | p6 bG=>omega
 | p9 bG=>omega
 | m7 bG=>omega
theorem WI.step(hC:C.ok)(h:WI C P t q c A)(lJ:t≤4194000)(r:Int)(hr:c.may C A r):WR C P t q c (c.step C who A r):=by
 have hw:=h.wc
 cases hw with
 | p0 hp=>exact h.s0 hC hp r
 | p1 hp=>exact h.s1 hC hp r
 | p2 hp=>exact h.s2 hC hp r hr
 | p3 hp=>exact h.s3 hC hp lJ r
 | p4 hp=>exact h.s4 hC hp lJ r
 | p5 hp=>exact h.s5 hC hp lJ r
 | p6 hp=>exact h.s6 hC hp lJ r
 | p9 hp=>exact h.s9 hC hp lJ r
 | m7 hp=>exact h.Xn hC hp lJ r
 | oo hp=>exact h.Yu hC hp lJ r
end
end Go.Fl
namespace Go.Fl
open Go
variable{N:Nm}{σ:Mem}{K:Value→Mem→Prop}{C:Cf}{w:Int→Int}{P:MP}{A:Ar}{who:Int}
section
variable{t q:Int}{c:Co}
theorem WI.bd(h:WI C P t q c A):∀ i,0≤A.w i∧A.w i<18446744073709551616:=by
 cases h.wc with
 | p0 hp ha hs mw=>exact mw.bd
 | p1 hp ha hs mw=>exact mw.bd
 | p2 hp ha hs mw=>exact mw.bd
 | p3 hp ha hs mw=>exact mw.bd
 | p4 hp ha hs mw=>exact mw.bd
 | p5 hp ha hs mv=>exact mv.bd
 | p6 hp ha hs mw=>exact mw.bd
 | p9 hp ha hs mw=>exact mw.bd
 | m7 hp hs mw=>exact mw.bd
 | oo hp ha mw=>exact mw.bd
theorem WI.fit(hC:C.ok)(h:WI C P t q c A)(lJ:t≤4194000):c.fit C A:=by
 have bd:=h.bd
 obtain⟨hS,nn,q3,wc,nm⟩:=h
 have q0:0≤q∨True:=.inr trivial
 have ma:=hC.C
 have n1:=nm.ev;have n2:=nm.lf;have n3:=nm.fd;have n4:=nm.mo;have n5:=nm.il;have n6:=nm.rd
 have q1:1≤q:=WI.q1 hC (A:=A) ⟨hS,nn,q3,wc,nm⟩
 have cn:c.r.jV:=⟨⟨n3.1,by omega⟩,⟨n6.1,by omega⟩,⟨n5.1,by omega⟩⟩
 have w1:0≤c.r.ev∧c.r.ev≤1000000000:=by omega
 have w2:0≤c.r.lf∧c.r.lf≤1000000000:=by omega
 have w3:0≤c.r.mo∧c.r.mo≤1000000000:=by omega
 have an:c.a=none→∀ a,c.a=some a→c.r.pc=10∧a.fit C:=fun e a e'=>by rw[e]at e';cases e'
 have sn:c.s=none→∀ a,c.s=some a→c.r.pc=11∧a.fit C A:=fun e a e'=>by rw[e]at e';cases e'
 cases wc with
 | p0 hp ha hs mw n2 h0 hl hq=>exact⟨by omega,fun _=>⟨h0.1,fun e=>by omega,fun _=>h0.2⟩,fun _ z=>by rw[af hp];exact hl fun e=>z ⟨hp,e⟩,fun e=>by omega,fun e=>by omega,fun e=>by omega,fun e=>by omega,fun e=>by omega,an ha,sn hs,cn,w1,w2,w3⟩
 | p1 hp ha hs mw n2 h0 hl hq=>exact⟨by omega,fun _=>⟨h0.1,fun e=>by omega,fun _=>h0.2⟩,fun _ z=>by rw[ae (by omega),af hp];exact hl,fun e=>by omega,fun e=>by omega,fun e=>by omega,fun e=>by omega,fun e=>by omega,an ha,sn hs,cn,w1,w2,w3⟩
 | p2 hp ha hs mw n2 h0 hl hq=>exact⟨by omega,fun _=>⟨h0.1,fun e=>h0.2,fun e=>absurd hp e⟩,fun _ z=>by rw[ae (by omega),ae (by omega)];exact hl,fun e=>mw.op _ h0.1 (by omega),fun e=>by omega,fun e=>by omega,fun e=>by omega,fun e=>by omega,an ha,sn hs,cn,w1,w2,w3⟩
 | p3 hp ha hs mw n2 h0 h1 hw hq=>exact⟨by omega,fun _=>⟨h0.1,fun e=>by omega,fun _=>h0.2⟩,fun e=>by omega,fun e=>by omega,fun _ _=>hw,fun e=>by omega,fun e=>by omega,fun e=>by omega,an ha,sn hs,cn,w1,w2,w3⟩
 | p4 hp ha hs mw ev px hq=>
  have HH:=px.x;have pu:=px.u
  have hb:=(b6 hC ev.ab.1 ev.ab.2 HH.1 (by omega)).2.2
  exact⟨by omega,fun _=>⟨ev.ab.1,fun e=>by omega,fun _=>ev.ab.2⟩,fun e=>by omega,fun e=>by omega,fun _ _=>by rw[←ev.sB];exact bd _,fun _ _=>px.c,fun _ _=>⟨HH.1,by omega⟩,fun e=>by omega,an ha,sn hs,cn,w1,w2,w3⟩
 | p5 hp ha hs mv h0 px hw hq=>
  have HH:=px.x;have pu:=px.u
  have hb:=(b6 hC h0.1 h0.2 HH.1 (by omega)).2.2
  have hB:=iO px
  have hf:=mv.fit hC hS lJ (by omega) nn
  exact⟨by omega,fun _=>⟨h0.1,fun e=>by omega,fun _=>h0.2⟩,fun e=>by omega,fun e=>by omega,fun _ _=>hw,fun _ _=>px.c,fun _ _=>⟨HH.1,by omega⟩,fun _=>hf,an ha,sn hs,cn,w1,w2,w3⟩
 | p6 hp ha hs mw ev hn hq=>exact⟨by omega,fun _=>⟨ev.ab.1,fun e=>by omega,fun _=>ev.ab.2⟩,fun e=>by omega,fun e=>by omega,fun _ _=>by rw[←ev.sB];exact bd _,fun e=>by omega,fun e=>by omega,fun e=>by omega,an ha,sn hs,cn,w1,w2,w3⟩
 | p9 hp ha hs mw ev hq=>exact⟨by omega,fun _=>⟨ev.ab.1,fun e=>by omega,fun _=>ev.ab.2⟩,fun e=>by omega,fun e=>by omega,fun _ _=>by rw[←ev.sB];exact bd _,fun e=>by omega,fun e=>by omega,fun e=>by omega,an ha,sn hs,cn,w1,w2,w3⟩
 | m7 hp hs mw n2 ha hq=>
  refine⟨by omega,fun e=>absurd hp e,fun e=>by omega,fun e=>by omega,fun e=>by omega,fun e=>by omega,fun e=>by omega,fun e=>by omega,fun v e=>⟨hp,?_⟩,sn hs,cn,w1,w2,w3⟩
  have:=(ha v e).2.1
  exact⟨⟨by omega,by omega⟩,by omega,fun _=>by omega⟩
 | oo hp ha mw n2 h0 hs hq=>
  refine⟨by omega,fun _=>⟨h0.1,fun e=>by omega,fun _=>h0.2⟩,fun e=>by omega,fun e=>by omega,fun e=>by omega,fun e=>by omega,fun e=>by omega,fun e=>by omega,an ha,fun v e=>⟨hp,?_⟩,cn,w1,w2,w3⟩
  obtain⟨v1,v3,v4,v5,v6,_⟩:=hs v e
  refine⟨⟨by omega,by omega⟩,by rw[v1];exact h0,by rw[v4];exact bd _,fun e3=>?_⟩
  have ku:=(mw.ck _ h0.1 h0.2).u
  rw[←v4]at ku
  have q2:0≤v.at'∧v.at'<bD v.w:=by
   rcases v6 with⟨q,_⟩|⟨_,q⟩|q|q
   ·omega
   ·exact q
   ·omega
   ·omega
  have:=(b6 hC h0.1 h0.2 q2.1 (by omega)).2.2
  rw[v1];omega
end
theorem least{p:Nat→Prop}(h:∃ n,p n):∃ n,p n∧∀ k,p k→n≤k:=by
 obtain⟨n,hn⟩:=h
 induction n using Nat.strongRecOn with
 | ind n ih=>
  by_cases e:∃ k,k<n∧p k
  ·obtain⟨k,k1,k2⟩:=e;exact ih k k1 k2
  ·exact⟨n,hn,fun k hk=>Nat.le_of_not_lt fun l=>e ⟨k,l,hk⟩⟩
def Fm(who:Int)(A A':Ar):Prop:=∃ a,A'=(A.by who).load a∨∃ v,A'=(A.by who).store a v
theorem Fm.ld{a:Int}:Fm who A ((A.by who).load a):=⟨a,.inl rfl⟩
theorem Fm.st{a v:Int}:Fm who A ((A.by who).store a v):=⟨a,.inr ⟨v,rfl⟩⟩
theorem Fm.ad{a d:Int}:Fm who A ((A.by who).add a d):=⟨a,.inr ⟨_,rfl⟩⟩
theorem Fm.cs{a o v:Int}:Fm who A ((A.by who).dI a o v):=by
 by_cases e:A.w a=o
 ·exact⟨a,.inr ⟨v,cx e⟩⟩
 ·exact⟨a,.inl (gB e)⟩
theorem Fm.ok{A':Ar}{b:Int}(h:Fm who A A')(ho:A.ok b)(hb:b<4611686018427387904)(hw:∀ i,0≤A'.w i∧A'.w i<18446744073709551616):A'.n=A.n∧A'.ok (b+1):=by
 obtain⟨a,rfl|⟨v,rfl⟩⟩:=h
 ·exact⟨rfl,(cW ho (by omega)).ok (by decide) ho hw⟩
 ·exact⟨rfl,(dJ ho (by omega)).ok (by decide) ho hw⟩
theorem Pl.fm(t:Pl):Fm who A (t.step C who A).2.2:=by
 unfold Pl.step
 by_cases c0:t.pc=0
 ·rw[af c0];exact .ld
 by_cases c1:t.pc=1
 ·rw[ae c0,af c1];exact .ld
 by_cases c2:t.pc=2
 ·rw[ae c0,ae c1,af c2];exact .cs
 by_cases c3:t.pc=3
 ·rw[ae c0,ae c1,ae c2,af c3];dsimp only;split<;>exact .ld
 by_cases c4:t.pc=4
 ·rw[ae c0,ae c1,ae c2,ae c3,af c4];split<;>exact .cs
 ·rw[ae c0,ae c1,ae c2,ae c3,ae c4];split<;>exact .cs
theorem Mv.fm(m:Mv):Fm who A (m.step C who A).2.2:=by
 have hp:Fm who A (m.t.step C who A).2.2:=Pl.fm m.t
 unfold Mv.step
 by_cases c0:m.a.pc=0
 ·rw[af c0];(repeat' split)<;>exact .ld
 rw[ae c0]
 by_cases c1:m.a.pc=1
 ·rw[af c1];(repeat' split)<;>exact hp
 rw[ae c1]
 by_cases c2:m.a.pc=2
 ·rw[af c2];exact .st
 rw[ae c2]
 by_cases c3:m.a.pc=3
 ·rw[af c3];exact .cs
 rw[ae c3]
 by_cases c4:m.a.pc=4
 ·rw[af c4];exact .ld
 rw[ae c4]
 by_cases c5:m.a.pc=5
 ·rw[af c5];exact .cs
 rw[ae c5]
 by_cases c6:m.a.pc=6
 ·rw[af c6];exact .st
 rw[ae c6]
 by_cases c7:m.a.pc=7
 ·rw[af c7];(repeat' split)<;>exact .cs
 rw[ae c7]
 by_cases c8:m.a.pc=8
 ·rw[af c8];exact .st
 rw[ae c8]
 by_cases c9:m.a.pc=9
 ·rw[af c9];exact .ad
 rw[ae c9]
 by_cases zE:m.a.pc=10
 ·rw[af zE];exact .ad
 rw[ae zE]
 exact .st
theorem Co.fm(c:Co)(r:Int):Fm who A (c.step C who A r).2:=by
 have hm:Fm who A (c.m.step C who A).2.2:=Mv.fm c.m
 have ha:∀ v:fQ,Fm who A (v.step C who A).2.2:=fun v=>by
  unfold fQ.step;(repeat' split)<;>first|exact .ld|exact .cs
 have hs:∀ v:dR,Fm who A (v.step C who A).2.2:=fun v=>by
  unfold dR.step;(repeat' split)<;>first|exact .ld|exact .st
 unfold Co.step
 by_cases c0:c.r.pc=0
 ·rw[af c0];exact .ld
 rw[ae c0]
 by_cases c1:c.r.pc=1
 ·rw[af c1];exact .ld
 rw[ae c1]
 by_cases c2:c.r.pc=2
 ·rw[af c2];(repeat' split)<;>exact .ld
 rw[ae c2]
 by_cases c3:c.r.pc=3
 ·rw[af c3];exact .cs
 rw[ae c3]
 by_cases c4:c.r.pc=4
 ·rw[af c4];(repeat' split)<;>exact .ld
 rw[ae c4]
 by_cases c5:c.r.pc=5
 ·rw[af c5];exact hm
 rw[ae c5]
 by_cases c6:c.r.pc=6
 ·rw[af c6];exact .ld
 rw[ae c6]
 by_cases c7:c.r.pc=7
 ·rw[af c7];exact .st
 rw[ae c7]
 by_cases c8:c.r.pc=8
 ·rw[af c8];exact .st
 rw[ae c8]
 by_cases c9:c.r.pc=9
 ·rw[af c9];exact .st
 rw[ae c9]
 by_cases zE:c.r.pc=10
 ·rw[af zE];split<;>exact ha _
 rw[ae zE]
 split<;>exact hs _
theorem Hi(hN:N.ok)(hC:C.ok)(hA:aZ N A σ){p:Nat}{O:List Nat}{c:Co}{n t q bb:Int}(hn:0≤n∧n≤500)(hO:lM N p O c σ)(h0:WI C P t q c A)(lJ:t+3000*(n+1)≤1000000)(ht0:0≤t)(ok:A.ok bb)(hb:bb<1152921504606846976)
  (hk:∀ t' q' c' A' O' τ,WI C P t' q' c' A'→t'≤4194000→A'.ok (bb+1000000)→(n=0∨c'.r.pc=0∧c'.r.at'=0)→aZ N A' τ→lM N p O' c' τ→(∀ i∈O',i∈O∨σ.get i=none)→aQ (O++N.l) σ τ→K (.bool true) τ) :
  xj [N.env C who,.pointer (some ⟨p,0,none⟩),.int .i64 n] K σ:=by
 have r0:=h0.nm.rd
 let R:Nat→Co→Ar→Prop:=fun n c1 A1=>∃ t1:Int,WI C P t1 n c1 A1∧t1+n≤t+3000+3000*(c1.r.rd-c.r.rd)∧0≤t1∧A1.ok (bb+t1)
 obtain⟨left,hl⟩:∃ left:Co→Ar→Int,∀ c A,(∃ n:Nat,R n c A)→∃ n:Nat,left c A=n∧R n c A∧∀ k:Nat,R k c A→n≤k:=by
  have:∀ c:Co,∃ l:Ar→Int,∀ A,(∃ n:Nat,R n c A)→∃ n:Nat,l A=n∧R n c A∧∀ k:Nat,R k c A→n≤k:=fun c=>by
   refine Classical.axiomOfChoice (r:=fun A (l:Int)=>(∃ n:Nat,R n c A)→∃ n:Nat,l=n∧R n c A∧∀ k:Nat,R k c A→n≤k) fun A=>?_
   by_cases h:∃ n:Nat,R n c A
   ·obtain⟨n,h1,h2⟩:=least h
    exact⟨n,fun _=>⟨n,rfl,h1,h2⟩⟩
   ·exact⟨0,fun e=>absurd e h⟩
  exact Classical.axiomOfChoice this
 have nat:∀{t1 q1:Int} {c1:Co} {A1:Ar},WI C P t1 q1 c1 A1→t1+q1≤t+3000+3000*(c1.r.rd-c.r.rd)→0≤t1→A1.ok (bb+t1)→∃ n:Nat,(n:Int)=q1∧R n c1 A1:=fun{t1 q1 c1 A1} h hb Xw lI=>by
  have:=h.q1 hC
  obtain⟨k,rfl⟩:=Int.eq_ofNat_of_zero_le (show 0≤q1 by omega)
  exact⟨k,rfl,t1,h,hb,Xw,lI⟩
 have st:∃ n:Nat,R n c A:=by
  have:=h0.q3
  obtain⟨k,_,h⟩:=nat h0 (by omega) ht0 (lh ok (by omega))
  exact⟨k,h⟩
 refine Dp hN hC hA (by omega) hO (fun c A=>∃ n:Nat,R n c A) left st ⟨r0.1,by omega⟩ (fun c1 A1 h1 a b=>?_) (fun c1 A1 r h1 a b hm=>?_) fun c' A' O' τ h1 hr=>?_
 ·obtain⟨n,e,⟨t1,h2,vm,Xw,lI⟩,_⟩:=hl c1 A1 h1
  have:=h2.q1 hC
  have:=h2.q3
  exact⟨h2.fit hC (by omega),h2.nn.1,h2.nn.2,h2.bd,by omega,by omega⟩
 ·obtain⟨n,e,⟨t1,h2,vm,Xw,lI⟩,_⟩:=hl c1 A1 h1
  have q1:=h2.q1 hC
  have q3:=h2.q3
  have fm:=fun hw=>(Co.fm (who := -1) (C:=C) (A:=A1) c1 r).ok lI (by omega) hw
  rcases h2.step (who := -1) hC (by omega) r hm with⟨e1,h3⟩|⟨e1,h3⟩
  ·obtain⟨k,ek,kV⟩:=nat h3 (by omega) (by omega) (by rw[←Int.add_assoc];exact(fm h3.bd).2)
   refine⟨⟨k,kV⟩,.inl ⟨e1,?_⟩⟩
   obtain⟨n',e',_,h4⟩:=hl _ _ ⟨k,kV⟩
   have:=h4 _ kV
   omega
  ·obtain⟨k,ek,kV⟩:=nat h3 (by omega) (by omega) (by rw[←Int.add_assoc];exact(fm h3.bd).2)
   exact⟨⟨k,kV⟩,.inr e1⟩
 ·obtain⟨n,t1,h2,vm,Xw,lI⟩:=h1
  have q1:=h2.q1 hC
  exact hk t1 n c' A' O' τ h2 (by omega) (lh lI (by omega))
def MP.re(P:MP)(i b u e:Int):MP:={ P with hs:=i,ha:=b,hu:=u,hp:=e }
section
variable{i b u e:Int}{t q s a v T at' pos cw xs:Int}{m:Mv}{c:Co}
theorem MS.re(h:MS C P):MS C (P.re i b u e):=⟨h.cc,h.lv,h.dd⟩
theorem qq.re{j x:Int}(h:qq C P w s a j x):qq C (P.re i b u e) w s a j x:=⟨h.ea,h.jb,h.xb,h.m,h.c,h.st⟩
theorem mC.re(h:mC C P t w s a v):mC C (P.re i b u e) t w s a v:=⟨h.sw,h.vb,(by obtain⟨j,x,p⟩:=h.pl;exact⟨j,x,p.re⟩),h.hd,h.ce⟩
theorem MW.re{ms cp:Int}(h:MW C P t ms cp w)(hi:0≤e→w 6=e+1∧(w 0=e∨w 0=e+1))(hh:0≤i→O4 C (P.re i b u e) w):MW C (P.re i b u e) t ms cp w:=
 ⟨h.bd,h.ck,h.hd,h.dd,fun s s0 s1 l ne=>by obtain⟨a,v,o⟩:=h.lv s s0 s1 l ne;exact⟨a,v,o.re⟩,h.op,h.ep,h.sn,hi,hh⟩
theorem sr.re{zj:Int}(h:sr C P at' zj cw w):sr C (P.re i b u e) at' zj cw w:=⟨h.ab,h.sB,h.c2,h.s2,h.ev⟩
theorem qC.re(h:qC C P at' pos s m):qC C (P.re i b u e) at' pos s m:=⟨h.sb,h.l,h.oZ,h.nn,h.n1⟩
theorem yV.re{sa sc:Int}(h:yV C P at' s sa sc xs w):yV C (P.re i b u e) at' s sa sc xs w:=⟨h.r_,h.j,h.ne,h.x,h.m,h.c,h.st,h.nu⟩
theorem DL.re{k:Int}(h:DL P s a v k w):DL (P.re i b u e) s a v k w:=⟨h.f,h.c⟩
theorem Sz.re(h:Sz C P a s v q m w):Sz C (P.re i b u e) a s v q m w:=by
 cases h with
 | load p hi f hq=>exact .load p hi f.re hq
 | freeze p hi f hq=>exact .freeze p hi f.re hq
 | copy p hi f e hq=>exact .copy p hi f.re e hq
 | gE p hi f hq=>exact .gE p hi f.re hq
theorem HC.re(h:HC C P T a s v q m w)(f1:∀ cp,MW C P T (-1) cp w→MW C (P.re i b u e) T (-1) cp w)(f2:w (C.slot s)=aK 2 a (P.g s) v→MW C P T s m.a.sa w→MW C (P.re i b u e) T s m.a.sa w)(f3:m.a.pc=8→w (C.slot s)=aK 1 m.a.sa (P.g s) (v+1)→w m.a.sa=aW 1 (P.z s) s (P.g s) (P.o s)→MW C P T s m.a.sa w→MW C (P.re i b u e) T s m.a.sa w):HC C (P.re i b u e) T a s v q m w:=by
 cases h with
 | head p mw ob hq=>exact .head p (f1 _ mw) ob.re hq
 | gF p hd mw ob hq=>exact .gF p hd (f1 _ mw) (by obtain⟨u,o⟩:=ob;exact⟨u,o.re⟩) hq
 | mark p hd mw ob hq=>exact .mark p hd (f1 _ mw) ob.re hq
 | go hd mw sl cp c=>exact .go hd (f2 sl mw) sl cp c.re
 | stop p hi hd mw ob hq=>exact .stop p hi hd (f1 _ mw) ob.re hq
 | shown p hd mw sl cp hq=>exact .shown p hd (f3 p sl hd mw) sl cp hq
 | count p mw sl hq=>exact .count p (f1 _ mw) sl hq
 | kill p o hd mw ob hq=>exact .kill p o hd (f1 _ mw) (by obtain⟨u,o⟩:=ob;exact⟨u,o.re⟩) hq
theorem MW.yK{ms cp:Int}(h:MW C P t ms cp w)(hi:0≤e→w 6=e+1∧(w 0=e∨w 0=e+1)):MW C (P.re (-1) 0 0 e) t ms cp w:=h.re hi fun x=>absurd (show(0:Int) ≤ -1 from x) (by decide)
theorem Sy.Tc(hC:C.ok)(hS:MS C P){k:Int}{u':Int→Int}(hc:qC C P at' pos s m)(h:Sy C P T at' pos cw s v q m w u' k):w 0=u' 0∧w 6=u' 6∧∀ r,0≤r→r<C.S→w (C.slot r)=u' (C.slot r):=by
 have hT:=hC.T;have rX:=hC.S
 have bE:0≤ai (P.z s)∧ai (P.z s)≤3:=⟨(hS.lv s hc.sb.1 hc.sb.2 hc.l).1,(bH _).2⟩
 exact⟨h.off 0 (by omega) fun j j0 j1=>by unfold Cf.chunk;omega,h.off 6 (by omega) fun j j0 j1=>by unfold Cf.chunk;omega,fun r r0 r1=>h.off _ (by unfold Cf.slot;omega) fun j j0 j1=>by unfold Cf.slot Cf.chunk;omega⟩
theorem oG.yK(hC:C.ok)(hS:MS C P)(h:oG C P T at' pos cw q m w)(hi:0≤e→w 6=e+1∧(w 0=e∨w 0=e+1)):oG C (P.re (-1) 0 0 e) T at' pos cw q m w:=by
 cases h with
 | a h=>exact .a ⟨h.em,h.k,h.t,h.c,h.mw.yK hi,h.ev.re,h.x,h.qb⟩
 | b s v k u hc h=>
  obtain⟨a0,a6,_⟩:=h.Tc hC hS hc
  exact .b s v k u hc.re ⟨h.pc,h.fX,h.mw.yK (by rw[←a0,←a6];exact hi),h.ob.re,h.pa.re,h.aw,h.ev.re,h.off,h.pl,h.i,h.nn,h.cell,h.bd,h.kb⟩
 | c s v xs hc h=>exact .c s v xs hc.re ⟨h.fX,h.vb,h.aw,h.ab,h.ha,h.pa.re,h.uW,h.sp.re,fun _ x=>absurd (show(0:Int) ≤ -1 from x) (by decide),h.ev.re,h.ib,h.cb,h.ph.re (fun _ mw=>mw.yK hi) (fun _ mw=>mw.yK hi) (fun _ _ _ mw=>mw.yK hi)⟩
theorem WI.yK(hC:C.ok)(h:WI C P t q c A)(hi:0≤e→(A.w 6=e+1∧(A.w 0=e∨A.w 0=e+1))∧(P.hp=e∨A.w 0=e)):WI C (P.re (-1) 0 0 e) t q c A:=by
 obtain⟨hS,nn,q3,wc,nm⟩:=h
 have xI:0≤e→A.w 6=e+1∧(A.w 0=e∨A.w 0=e+1):=fun x=>(hi x).1
 refine⟨hS.re,nn,q3,?_,nm⟩
 cases wc with
 | p0 hp ha hs mw n2 h0 hl hq=>exact .p0 hp ha hs (mw.yK xI) n2 h0 hl hq
 | p1 hp ha hs mw n2 h0 hl hq=>exact .p1 hp ha hs (mw.yK xI) n2 h0 hl hq
 | p2 hp ha hs mw n2 h0 hl hq=>exact .p2 hp ha hs (mw.yK xI) n2 h0 hl hq
 | p3 hp ha hs mw n2 h0 h1 hw hq=>exact .p3 hp ha hs (mw.yK xI) n2 h0 h1 hw hq
 | p4 hp ha hs mw ev px hq=>exact .p4 hp ha hs (mw.yK xI) ev.re px hq
 | p5 hp ha hs mv h0 px hw hq=>exact .p5 hp ha hs (mv.yK hC hS xI) h0 px hw hq
 | p6 hp ha hs mw ev hn hq=>exact .p6 hp ha hs (mw.yK xI) ev.re hn hq
 | p9 hp ha hs mw ev hq=>exact .p9 hp ha hs (mw.yK xI) ev.re hq
 | m7 hp hs mw n2 ha hq=>
  refine .m7 hp hs (mw.yK xI) n2 (fun v ev=>?_) hq
  obtain⟨v1,v2,v3⟩:=ha v ev
  refine⟨v1,v2,fun x he=>?_⟩
  have he':0≤e:=he
  show A.w 0=e
  rcases(hi he').2 with y|y
  ·rw[←y];exact v3 x (by rw[y];exact he')
  ·exact y
 | oo hp ha mw n2 h0 hs hq=>exact .oo hp ha (mw.yK xI) n2 h0 hs hq
theorem MW.gF{ms cp r:Int}(hC:C.ok)(hS:MS C P)(h:MW C P t ms cp w)(ht:t≤4194303)(r0:0≤r)(r1:r<C.S)(l:P.lv r=true)(ne:r≠ms)(hp:0≤P.hp):MW C (P.re r (a8 (w (C.slot r))) (cO (w (C.slot r))) P.hp) t ms cp w:=by
 obtain⟨a,v,o⟩:=h.lv r r0 r1 l ne
 obtain⟨_,s2,_,s4⟩:=o.sl hC hS ht h.ck r0 r1 l
 refine h.re h.ins fun _=>⟨⟨⟨r0,r1⟩,l⟩,hp,?_,?_,fun _=>Int.le_refl _,fun x=>absurd rfl x⟩
 ·obtain⟨j,x,p⟩:=o.pl
  have st:=p.st
  exact⟨j,x,by show a8 _=_;rw[s2];exact p.ea,p.jb,p.xb,p.m,p.c,by omega,fun x=>by omega⟩
 ·show MP.hh _ (w (a8 (w (C.slot r))))
  rw[s2];exact⟨2,.inr rfl,o.hd⟩
theorem oG.gF(hC:C.ok)(hS:MS C P)(h:oG C P T at' pos cw q m w)(hT:T≤4194000){r:Int}(r0:0≤r)(r1:r<C.S)(l:P.lv r=true)(hp:0≤P.hp):oG C (P.re r (a8 (w (C.slot r))) (cO (w (C.slot r))) P.hp) T at' pos cw q m w:=by
 cases h with
 | a h=>exact .a ⟨h.em,h.k,h.t,h.c,h.mw.gF hC hS (by omega) r0 r1 l (by omega) hp,h.ev.re,h.x,h.qb⟩
 | b s v k u hc h=>
  obtain⟨a0,a6,a7⟩:=h.Tc hC hS hc
  have mw:=h.mw.gF hC hS (by omega) r0 r1 l (by omega) hp
  rw[←a7 r r0 r1]at mw
  exact .b s v k u hc.re ⟨h.pc,h.fX,mw,h.ob.re,h.pa.re,h.aw,h.ev.re,h.off,h.pl,h.i,h.nn,h.cell,h.bd,h.kb⟩
 | c s v xs hc h=>
  obtain⟨rr,gp,gx,ga,gs,gg,gS,tC⟩:=h.sA hC hS hc
  have e0:C.base 0=6+C.T+2*C.S+3*C.C:=by unfold Cf.base;omega
  have zq:=hC.T;have rX:=hC.S;have iD:=hC.C
  have pv:=h.vb
  have asa:C.base at'+pos≠m.a.sa:=fun e=>tC pos xs gp.1 (by omega) gx.1 (by omega) (by rw[e];exact h.sp.r_)
  have f1:∀ cp,MW C P T (-1) cp w→MW C (P.re r (a8 (w (C.slot r))) (cO (w (C.slot r))) P.hp) T (-1) cp w:=fun cp mw=>mw.gF hC hS (by omega) r0 r1 l (by omega) hp
  refine .c s v xs hc.re ⟨h.fX,h.vb,h.aw,h.ab,h.ha,h.pa.re,h.uW,h.sp.re,fun np _=>?_,h.ev.re,h.ib,h.cb,h.ph.re f1 (fun sl mw=>?_) (fun p8 sl hd mw=>?_)⟩
  ·show a8 (w (C.slot r))≠m.a.sa
   by_cases er:r=s
   ·subst er
    have key:∀ v',mC C P T w r (C.base at'+pos) v'→(∃ cp,MW C P T (-1) cp w)→a8 (w (C.slot r))≠m.a.sa:=fun v' o ⟨cp,mw⟩=>by
     rw[(o.sl hC hS (by omega) mw.ck r0 r1 l).2.1];exact asa
    cases h.ph with
    | head p mw ob=>exact key _ ob ⟨_,mw⟩
    | gF p hd mw ob=>obtain⟨u,ob⟩:=ob;exact key _ ob ⟨_,mw⟩
    | mark p hd mw ob=>exact key _ ob ⟨_,mw⟩
    | go hd mw sl cp c=>rw[sl,(dT (by decide) (by omega) gg).2.1];exact asa
    | stop p hi hd mw ob=>exact key _ ob ⟨_,mw⟩
    | shown p=>omega
    | count p=>omega
    | kill p o hd mw ob=>obtain⟨u,ob⟩:=ob;exact key _ ob ⟨_,mw⟩
   ·exact h.sp.nu r r0 r1 l er
  ·by_cases er:r=s
   ·subst er
    have e1:=(dT (st:=2) (ad:=C.base at'+pos) (ge:=P.g r) (ve:=v) (by decide) (by omega) gg).2.1
    refine mw.re mw.ins fun _=>⟨⟨⟨r0,r1⟩,l⟩,hp,⟨at',pos,?_,h.pa.jb,h.pa.xb,h.pa.m,h.pa.c,by have:=h.pa.st;omega,fun x=>by have:=h.pa.st;omega⟩,?_,fun _=>Int.le_refl _,fun x=>absurd rfl x⟩
    ·show a8 _=_;rw[sl,e1]
    ·show MP.hh _ (w (a8 (w (C.slot r))))
     rw[sl,e1];exact⟨2,.inr rfl,h.ha⟩
   ·exact mw.gF hC hS (by omega) r0 r1 l er hp
  ·by_cases er:r=s
   ·subst er
    have e1:=(dT (st:=1) (ad:=m.a.sa) (ge:=P.g r) (ve:=v+1) (by decide) (by omega) gg).2.1
    have st:=h.sp.st
    refine mw.re mw.ins fun _=>⟨⟨⟨r0,r1⟩,l⟩,hp,⟨m.a.sc,xs,?_,h.sp.j,h.sp.x,h.sp.m,h.sp.c,by omega,fun x=>by omega⟩,?_,fun _=>Int.le_refl _,fun x=>absurd rfl x⟩
    ·show a8 _=_;rw[sl,e1];exact h.sp.r_
    ·show MP.hh _ (w (a8 (w (C.slot r))))
     rw[sl,e1];exact⟨1,.inl rfl,hd⟩
   ·exact mw.gF hC hS (by omega) r0 r1 l er hp
theorem WI.gF(hC:C.ok)(h:WI C P t q c A)(lJ:t≤4194000){r:Int}(r0:0≤r)(r1:r<C.S)(l:P.lv r=true)(hp:0≤P.hp):WI C (P.re r (a8 (A.w (C.slot r))) (cO (A.w (C.slot r))) P.hp) t q c A:=by
 obtain⟨hS,nn,q3,wc,nm⟩:=h
 refine⟨hS.re,nn,q3,?_,nm⟩
 have f:MW C P t (-1) (-1) A.w→MW C (P.re r (a8 (A.w (C.slot r))) (cO (A.w (C.slot r))) P.hp) t (-1) (-1) A.w:=fun mw=>mw.gF hC hS (by omega) r0 r1 l (by omega) hp
 cases wc with
 | p0 hp ha hs mw n2 h0 hl hq=>exact .p0 hp ha hs (f mw) n2 h0 hl hq
 | p1 hp ha hs mw n2 h0 hl hq=>exact .p1 hp ha hs (f mw) n2 h0 hl hq
 | p2 hp ha hs mw n2 h0 hl hq=>exact .p2 hp ha hs (f mw) n2 h0 hl hq
 | p3 hp ha hs mw n2 h0 h1 hw hq=>exact .p3 hp ha hs (f mw) n2 h0 h1 hw hq
 | p4 hp ha hs mw ev px hq=>exact .p4 hp ha hs (f mw) ev.re px hq
 | p5 bG ha hs mv h0 px hw hq=>exact .p5 bG ha hs (mv.gF hC hS lJ r0 r1 l hp) h0 px hw hq
 | p6 hp ha hs mw ev hn hq=>exact .p6 hp ha hs (f mw) ev.re hn hq
 | p9 hp ha hs mw ev hq=>exact .p9 hp ha hs (f mw) ev.re hq
 | m7 hp hs mw n2 ha hq=>exact .m7 hp hs (f mw) n2 ha hq
 | oo hp ha mw n2 h0 hs hq=>exact .oo hp ha (f mw) n2 h0 hs hq
end
end Go.Fl
namespace Go.Fl
open Go
variable{C:Cf}{w:Int→Int}{P:MP}{A:Ar}{who:Int}
theorem Cw.symm{c:Int}{w w0:Int→Int}(h:Cw C c w w0):Cw C c w0 w:=⟨h.o.symm,fun j j0 j1=>(h.k j j0 j1).symm⟩
theorem HN.Ma{c:Int}{w0 w1:Int→Int}(x:Cw C c w1 w0)(hb:w0 (2+c)≤C.C)(h:HN C c w0):HN C c w1:=by
 obtain⟨h1,h2,h3,h4⟩:=h
 have e:=x.k (w0 (2+c)-1) (by omega) (by omega)
 unfold HN
 rw[x.o,e];exact⟨h1,h2,h3,h4⟩
theorem S9.Ma{c f:Int}{w0 w1:Int→Int}(x:Cw C c w1 w0)(h:S9 C w0 f):S9 C w1 f:=by
 obtain⟨h1,h2,h3,h4⟩:=h
 refine⟨h1,?_,?_,fun j j0 j1=>?_⟩
 ·rw[x.k f h1.1 h1.2];exact h2
 ·rw[x.k f h1.1 h1.2];exact h3
 ·rw[x.k j j0 (by omega)];exact h4 j j0 j1
theorem Cd.Ma{c k:Int}{w0 w1 w:Int→Int}{t:Pl}(h:Cd C c w0 k t w)(x:Cw C c w1 w0)(hb:w0 (2+c)≤C.C):Cd C c w1 k t w:=by
 have ng:¬ HN C c w0→¬ HN C c w1:=fun n g=>n (g.Ma x.symm (by rw[x.o];exact hb))
 have y:=x.symm
 obtain⟨h1,⟨h2,h3⟩|⟨h2,f,hf,h3⟩⟩:=h
 ·refine⟨h1,.inl ⟨h2.trans y,?_⟩⟩
  rcases h3 with h|⟨p,e1,e2,e3,h⟩|⟨p,g,e1,e2,e3,h⟩|⟨g,e1,e2,e3,hk,e5,e6⟩
  ·exact .inl h
  ·exact .inr (.inl ⟨p,by rw[x.o];exact e1,by rw[x.o];exact e2,by rw[x.o];exact e3,h⟩)
  ·have b:=g.1
   exact .inr (.inr (.inl ⟨p,g.Ma x hb,e1,by rw[x.o];exact e2,by rw[x.k _ (by omega) (by omega)];exact e3,h⟩))
  ·refine .inr (.inr (.inr ⟨ng g,by rw[x.o];exact e1,e2,fun j j0 j1=>by rw[x.k j j0 (by omega)];exact e3 j j0 j1,hk,?_,e6⟩))
   rcases e5 with q|⟨q1,q2,q3⟩
   ·exact .inl q
   ·exact .inr ⟨q1,q2.Ma x,by rw[x.k _ e2.1 e2.2];exact q3⟩
 ·have ef:=x.k f hf.1.1 hf.1.2
  have y1:Cw C c (t1 C c f w0) (t1 C c f w1):=by unfold t1;rw[ef];exact y.both
  have y2:Cw C c (t2 C c f w0) (t2 C c f w1):=by unfold t2;exact y1.both
  refine⟨h1,.inr ⟨ng h2,f,hf.Ma x,?_⟩⟩
  rcases h3 with⟨p,e1,e2,h⟩|⟨e1,h⟩
  ·exact .inl ⟨p,e1.trans y1,by rw[x.o];exact e2,h⟩
  ·refine .inr ⟨e1.trans y2,?_⟩
   rw[ef];exact h
section
variable{t q s a v T at' pos cw xs x:Int}{m:Mv}{c:Co}
theorem pZ(hC:C.ok):(∀ j,0≤j→aX w 6 x (C.chunk j)=w (C.chunk j))∧(∀ j,0≤j→aX w 6 x (C.chunk j+2)=w (C.chunk j+2))∧(∀ r,0≤r→aX w 6 x (C.slot r)=w (C.slot r))∧(∀ j y,0≤j→j<C.C→0≤y→aX w 6 x (C.base j+y)=w (C.base j+y))∧aX w 6 x 0=w 0∧∀ k,k≤3→aX w 6 x (2+k)=w (2+k):=by
 have hT:=hC.T;have hS:=hC.S;have iD:=hC.C
 exact⟨fun j j0=>az _ _ (by unfold Cf.chunk;omega),fun j j0=>az _ _ (by unfold Cf.chunk;omega),fun r r0=>az _ _ (by unfold Cf.slot;omega),fun j y j0 j1 y0=>az _ _ (by have:=a_ hC j0 j1 y0;omega),az _ _ (by decide),fun k k1=>az _ _ (by omega)⟩
theorem mC.om(hC:C.ok)(hS:MS C P)(h:mC C P t w s a v)(s0:0≤s)(s1:s<C.S)(l:P.lv s=true):mC C P (t+1) (aX w 6 x) s a v:=by
 obtain⟨p1,p2,p3,p4,p5,p6⟩:=pZ (w:=w) (x:=x) hC
 have rr:=hS.rm s0 s1 l
 obtain⟨j,y,pl⟩:=h.pl
 have px:=pl.xb
 exact h.aL (by omega) (p3 s s0) (fun k z p=>⟨p.ea,p.jb,by rw[p1 k p.jb.1];exact p.xb,p.m,by rw[p1 k p.jb.1];exact p.c,by rw[p1 k p.jb.1];exact p.st⟩) (by omega) fun d d0 d1=>by rw[pl.ea,Int.add_assoc];exact p4 _ _ pl.jb.1 pl.jb.2 (by omega)
theorem MW.om{ms cp:Int}(hC:C.ok)(hS:MS C P)(h:MW C P t ms cp w)(hx:0≤x∧x<18446744073709551616)(hp:P.hp<0)(hh:P.hs<0):MW C P (t+1) ms cp (aX w 6 x):=by
 obtain⟨p1,p2,p3,p4,p5,p6⟩:=pZ (w:=w) (x:=x) hC
 refine⟨pF h.bd hx,fun j j0 j1=>by rw[p1 j j0];exact(h.ck j j0 j1).mono (by omega),fun j y j0 j1 hs y0 y1 ym ne=>?_,fun r r0 r1 l=>by rw[p3 r r0];exact h.dd r r0 r1 l,fun r r0 r1 l ne=>?_,fun k k0 k1=>by rw[p6 k k1];exact h.op k k0 k1,by rw[p5];have:=h.ep;omega,fun j j0 j1 q=>?_,fun p=>by omega,fun p=>by omega⟩
 ·rw[p1 j j0]at hs y1 ym;rw[p4 j y j0 j1 y0];exact h.hd j y j0 j1 hs y0 y1 ym ne
 ·obtain⟨a,v,o⟩:=h.lv r r0 r1 l ne
  exact⟨a,v,o.om hC hS r0 r1 l⟩
 ·rw[p1 j j0]at q;rw[p2 j j0];have:=h.sn j j0 j1 q;omega
theorem sr.om{zj:Int}(hC:C.ok)(h:sr C P at' zj cw w):sr C P at' zj cw (aX w 6 x):=by
 obtain⟨p1,p2,p3,p4,p5,p6⟩:=pZ (w:=w) (x:=x) hC
 exact h.aL (fun j j0 _=>.inl (p1 j j0)) fun r r0 _=>.inl (p3 r r0)
theorem oG.om(hC:C.ok)(hS:MS C P)(h:oG C P T at' pos cw q m w)(h0:0≤pos∧pos<C.W)(hx:0≤x∧x<18446744073709551616)(hp:P.hp<0)(hh:P.hs<0):oG C P (T+1) at' pos cw q m (aX w 6 x):=by
 obtain⟨p1,p2,p3,p4,p5,p6⟩:=pZ (w:=w) (x:=x) hC
 cases h with
 | a h=>
  have ha:=p4 at' pos h.ev.ab.1 h.ev.ab.2 h.x.1
  exact .a ⟨by rw[ha];exact h.em,by rw[ha];exact h.k,by rw[ha];exact h.t,by rw[ha];exact h.c,h.mw.om hC hS hx hp hh,h.ev.om hC,h.x,by rw[ha];exact h.qb⟩
 | b s v k u hc h=>
  obtain⟨q1,q2,q3,q4,q5,q6⟩:=pZ (w:=u) (x:=x) hC
  have bE:0≤ai (P.z s)∧ai (P.z s)≤3:=⟨(hS.lv s hc.sb.1 hc.sb.2 hc.l).1,(bH _).2⟩
  refine .b s v k (aX u 6 x) hc ⟨h.pc,h.fX,h.mw.om hC hS hx hp hh,h.ob.om hC hS hc.sb.1 hc.sb.2 hc.l,h.pa.aL (q1 _ h.ev.ab.1),h.aw,h.ev.om hC,fun i i0 i1=>?_,?_,h.i,h.nn,h.cell,pF h.bd hx,h.kb⟩
  ·unfold aX;split
   ·rfl
   ·exact h.off i i0 i1
  ·refine(h.pl.aL (x:=⟨p6 _ bE.2,fun j j0 _=>p1 j j0⟩)).Ma ⟨q6 _ bE.2,fun j j0 _=>q1 j j0⟩ (h.mw.op _ bE.1 bE.2).2
 | c s v xs hc h=>
  obtain⟨rr,gp,gx,ga,gs,gg,gS,tC⟩:=h.sA hC hS hc
  have a0:aX w 6 x (C.base at'+pos)=w (C.base at'+pos):=p4 at' pos h.ev.ab.1 h.ev.ab.2 gp.1
  have ad:∀ d,0≤d→aX w 6 x (C.base at'+pos+d)=w (C.base at'+pos+d):=fun d d0=>by rw[Int.add_assoc];exact p4 _ _ h.ev.ab.1 h.ev.ab.2 (by omega)
  have sd:∀ d,0≤d→aX w 6 x (m.a.sa+d)=w (m.a.sa+d):=fun d d0=>by rw[h.sp.r_,Int.add_assoc];exact p4 _ _ h.sp.j.1 h.sp.j.2 (by omega)
  have s0:=sd 0 (Int.le_refl 0)
  rw[Int.add_zero]at s0
  have cd:∀ i,R7 C P s m.a.sa i w→R7 C P s m.a.sa i (aX w 6 x):=fun i Vm k k0 k1=>by rw[Int.add_assoc,sd _ (by omega),←Int.add_assoc];exact Vm k k0 k1
  have fr:∀ i,DL P s (C.base at'+pos) v i w→DL P s (C.base at'+pos) v i (aX w 6 x):=fun i f=>⟨fun k k0 k1=>by rw[Int.add_assoc,ad _ (by omega),←Int.add_assoc];exact f.f k k0 k1,fun k k0 k1 k2=>by rw[Int.add_assoc,ad _ (by omega),←Int.add_assoc];exact f.c k k0 k1 k2⟩
  have oW:=h.ib
  have sl:=p3 s hc.sb.1
  have op:∀ v',mC C P T w s (C.base at'+pos) v'→mC C P (T+1) (aX w 6 x) s (C.base at'+pos) v':=fun v' o=>o.om hC hS hc.sb.1 hc.sb.2 hc.l
  have wp:∀ ms cp,MW C P T ms cp w→MW C P (T+1) ms cp (aX w 6 x):=fun ms cp mw=>mw.om hC hS hx hp hh
  have ec:aX w 6 x (C.base at'+pos+1+m.a.i)=w (C.base at'+pos+1+m.a.i):=by rw[Int.add_assoc];exact ad _ (by omega)
  refine .c s v xs hc ⟨h.fX,by have:=h.vb;omega,h.aw,h.ab,by rw[a0];exact h.ha,h.pa.aL (p1 _ h.ev.ab.1),by rw[p1 _ h.ev.ab.1,p1 _ h.sp.j.1];exact h.uW,h.sp.aL (p1 _ h.sp.j.1) (fun r r0 _ _=>p3 r r0),h.nh,h.ev.om hC,h.ib,h.cb,?_⟩
  cases h.ph with
  | head p mw ob hq=>exact .head p (wp _ _ mw) (op _ ob) hq
  | gF p hd mw ob hq=>exact .gF p (s0.trans hd) (wp _ _ mw) (by obtain⟨u,o⟩:=ob;exact⟨u,op _ o⟩) hq
  | mark p hd mw ob hq=>exact .mark p (s0.trans hd) (wp _ _ mw) (op _ ob) hq
  | go hd mw yy cp c=>
   refine .go (s0.trans hd) (wp _ _ mw) (sl.trans yy) (cd _ cp) ?_
   cases c with
   | load p hi f hq=>exact .load p hi (fr _ f) hq
   | freeze p hi f hq=>exact .freeze p hi (fr _ f) (by rw[ec];exact hq)
   | copy p hi f e hq=>exact .copy p hi (fr _ f) e hq
   | gE p hi f hq=>exact .gE p hi (fr _ f) hq
  | stop p hi hd mw ob hq=>exact .stop p hi (s0.trans hd) (wp _ _ mw) (op _ ob) (by rw[ec];exact hq)
  | shown p hd mw yy cp hq=>exact .shown p (s0.trans hd) (wp _ _ mw) (sl.trans yy) (cd _ cp) hq
  | count p mw yy hq=>exact .count p (wp _ _ mw) ((congrArg a8 sl).trans yy) hq
  | kill p o hd mw ob hq=>exact .kill p o (s0.trans hd) (wp _ _ mw) (by obtain⟨u,o⟩:=ob;exact⟨u,op _ o⟩) hq
theorem DQ.om(hC:C.ok)(h:DQ C w):DQ C (aX w 6 x):=h.aL fun j j0 _=>(pZ hC).1 j j0
theorem WI.om(hC:C.ok)(h:WI C P t q c A){A':Ar}(en:A'.n=A.n)(ew:A'.w=aX A.w 6 x)(hx:0≤x∧x<18446744073709551616)(hp:P.hp<0)(hh:P.hs<0):WI C P (t+1) q c A':=by
 obtain⟨hS,nn,q3,wc,nm⟩:=h
 obtain⟨p1,p2,p3,p4,p5,p6⟩:=pZ (w:=A.w) (x:=x) hC
 refine⟨hS,by rw[en];exact nn,q3,?_,nm.mono (by omega)⟩
 rw[ew]
 cases wc with
 | p0 bG ha hs mw n2 h0 hl hq=>exact .p0 bG ha hs (mw.om hC hS hx hp hh) (n2.om hC) h0 hl hq
 | p1 bG ha hs mw n2 h0 hl hq=>exact .p1 bG ha hs (mw.om hC hS hx hp hh) (n2.om hC) h0 hl hq
 | p2 bG ha hs mw n2 h0 hl hq=>exact .p2 bG ha hs (mw.om hC hS hx hp hh) (n2.om hC) h0 hl hq
 | p3 bG ha hs mw n2 h0 h1 hw hq=>exact .p3 bG ha hs (mw.om hC hS hx hp hh) (n2.om hC) h0 h1 hw hq
 | p4 bG ha hs mw ev px hq=>exact .p4 bG ha hs (mw.om hC hS hx hp hh) (ev.om hC) px hq
 | p5 bG ha hs mv h0 px hw hq=>exact .p5 bG ha hs (mv.om hC hS ⟨px.x.1,by have:=px.x;have:=px.u;omega⟩ hx hp hh) h0 px hw hq
 | p6 bG ha hs mw ev hn hq=>exact .p6 bG ha hs (mw.om hC hS hx hp hh) (ev.om hC) ⟨fun g=>by rw[p5];exact hn.1 g,fun g=>by rw[p5,p2 _ ev.ab.1];exact hn.2 g⟩ hq
 | p9 bG ha hs mw ev hq=>exact .p9 bG ha hs (mw.om hC hS hx hp hh) (ev.om hC) hq
 | m7 bG hs mw n2 ha hq=>exact .m7 bG hs (mw.om hC hS hx hp hh) (n2.om hC) (fun v e=>by rw[p5];exact ha v e) hq
 | oo bG ha mw n2 h0 hs hq=>exact .oo bG ha (mw.om hC hS hx hp hh) (n2.om hC) h0 (fun v e=>by rw[p1 _ h0.1,p2 _ h0.1,p5];exact hs v e) hq
end
end Go.Fl
namespace Go.Fl
open Go
variable{C:Cf}{w:Int→Int}{P:MP}{A:Ar}{who:Int}
section
variable{t q q' s a v T at' pos cw xs x r k:Int}{m:Mv}{c:Co}
theorem Sz.mono(h:Sz C P a s v q m w)(hq:q≤q'):Sz C P a s v q' m w:=by
 cases h with
 | load p hi f h=>exact .load p hi f (by omega)
 | freeze p hi f h=>exact .freeze p hi f (by omega)
 | copy p hi f e h=>exact .copy p hi f e (by omega)
 | gE p hi f h=>exact .gE p hi f (by omega)
theorem HC.mono(h:HC C P T a s v q m w)(hq:q≤q'):HC C P T a s v q' m w:=by
 cases h with
 | head p mw ob h=>exact .head p mw ob (by omega)
 | gF p hd mw ob h=>exact .gF p hd mw ob (by omega)
 | mark p hd mw ob h=>exact .mark p hd mw ob (by omega)
 | go hd mw sl cp c=>exact .go hd mw sl cp (c.mono hq)
 | stop p hi hd mw ob h=>exact .stop p hi hd mw ob (by omega)
 | shown p hd mw sl cp h=>exact .shown p hd mw sl cp (by omega)
 | count p mw sl h=>exact .count p mw sl (by omega)
 | kill p o hd mw ob h=>exact .kill p o hd mw ob (by omega)
theorem oG.mono(h:oG C P T at' pos cw q m w)(hq:q≤q'):oG C P T at' pos cw q' m w:=by
 cases h with
 | a h=>exact .a ⟨h.em,h.k,h.t,h.c,h.mw,h.ev,h.x,by have:=h.qb;omega⟩
 | b s v k u hc h=>exact .b s v k u hc ⟨h.pc,h.fX,h.mw,h.ob,h.pa,h.aw,h.ev,h.off,h.pl,h.i,h.nn,h.cell,h.bd,by have:=h.kb;omega⟩
 | c s v xs hc h=>exact .c s v xs hc ⟨h.fX,h.vb,h.aw,h.ab,h.ha,h.pa,h.uW,h.sp,h.nh,h.ev,h.ib,h.cb,h.ph.mono hq⟩
theorem Jx(hS:MS C P){cw pos:Int}(h:Hy C cw pos):0≤yr cw pos∧yr cw pos≤2600:=by
 have:=iO h
 have:=h.x
 have:=h.u
 have:=hS.cc
 unfold yr;omega
theorem Mx(hC:C.ok)(hS:MS C P){z n:Int}(hz:0≤z∧z≤16)(hn:0≤n):rq C z n≤106:=by
 have h1:=hS.cc
 have hR:=hC.R
 have:rq C z n≤2*(3*z+5):=Int.mul_le_mul_of_nonneg_right (by omega) (by omega)
 omega
theorem MW.rest{ms cp:Int}(hC:C.ok)(hS:MS C P)(h:MW C P t ms cp w)(ht:t≤4194303)(r0:0≤r)(r1:r<C.S)(l:P.lv r=true)(ne:r≠ms):cF (w (C.slot r))=1:=by
 obtain⟨a,v,o⟩:=h.lv r r0 r1 l ne
 exact(o.sl hC hS ht h.ck r0 r1 l).1
theorem DL.ok{i:Int}(h:DL P s a v i w):∀ k,0≤k→k<P.z s→uB (v+1) (P.L s k) (w (a+1+k)):=fun k k0 k1=>by
 by_cases e:k<i
 ·obtain⟨f1,f2,f3⟩:=h.f k k0 e
  exact⟨f1,fun _=>by omega⟩
 ·have:=h.c k k0 (by omega) k1
  exact⟨this.e,fun g=>by have:=this.f g;omega⟩
theorem oG.stop(hC:C.ok)(hS:MS C P)(h:oG C P T at' pos cw q m w)(hT:T≤4194000)(yo:200≤q')(r0:0≤r)(r1:r<C.S)(l:P.lv r=true)(h2:cF (w (C.slot r))=2) :
  oG C P (T+1) at' pos cw q' m (aX w (C.slot r) (aK 1 (a8 (w (C.slot r))) (b9 (w (C.slot r))) (cO (w (C.slot r))+1))):=by
 cases h with
 | a h=>have:=h.mw.rest hC hS (by omega) r0 r1 l (by omega);omega
 | b s v k u hc h=>
  have:=h.mw.rest hC hS (by omega) r0 r1 l (by omega)
  rw[←(h.Tc hC hS hc).2.2 r r0 r1]at this
  omega
 | c s v xs hc h=>
  obtain⟨rr,gp,gx,ga,gs,gg,gS,tC⟩:=h.sA hC hS hc
  have pv:=h.vb
  have e0:C.base 0=6+C.T+2*C.S+3*C.C:=by unfold Cf.base;omega
  have zq:=hC.T;have rX:=hC.S;have iD:=hC.C
  have no:∀ cp,MW C P T (-1) cp w→False:=fun cp mw=>by have:=mw.rest hC hS (by omega) r0 r1 l (by omega);omega
  have ns:∀ cp,MW C P T s cp w→r=s:=fun cp mw=>Decidable.byContradiction fun ne=>by have:=mw.rest hC hS (by omega) r0 r1 l ne;omega
  cases h.ph with
  | head p mw ob hq=>exact(no _ mw).elim
  | gF p hd mw ob hq=>exact(no _ mw).elim
  | mark p hd mw ob hq=>exact(no _ mw).elim
  | stop p hi hd mw ob hq=>exact(no _ mw).elim
  | count p mw sl hq=>exact(no _ mw).elim
  | kill p o hd mw ob hq=>exact(no _ mw).elim
  | shown p hd mw sl cp hq=>
   obtain rfl:=ns _ mw
   rw[sl,(dT (by decide) (by omega) gg).1]at h2
   omega
  | go hd mw sl cp c=>
   obtain rfl:=ns _ mw
   obtain⟨z1,z2,z3,z4⟩:=fc (st:=2) (ad:=C.base at'+pos) (ge:=P.g r) (ve:=v) (by decide) (by omega) gg (by omega)
   obtain⟨y1,y2,y3,y4⟩:=fc (st:=1) (ad:=C.base at'+pos) (ge:=P.g r) (ve:=v+1) (by decide) (by omega) gg (by omega)
   rw[sl,z2,z3,z4]
   have kL:C.slot r<C.base 0:=by unfold Cf.slot;omega
   have ws:∀ i,i≠C.slot r→aX w (C.slot r) (aK 1 (C.base at'+pos) (P.g r) (v+1)) i=w i:=fun i e=>az _ _ e
   have wa:∀ d,0≤d→aX w (C.slot r) (aK 1 (C.base at'+pos) (P.g r) (v+1)) (C.base at'+pos+d)=w (C.base at'+pos+d):=fun d d0=>ws _ (by omega)
   have wk:∀ j,0≤j→aX w (C.slot r) (aK 1 (C.base at'+pos) (P.g r) (v+1)) (C.chunk j)=w (C.chunk j):=fun j j0=>ws _ (by unfold Cf.slot Cf.chunk;omega)
   have wr:∀ i,i≠r→aX w (C.slot r) (aK 1 (C.base at'+pos) (P.g r) (v+1)) (C.slot i)=w (C.slot i):=fun i e=>ws _ (by unfold Cf.slot;omega)
   have oT:(4≤m.a.pc∧m.a.pc≤7)∧(m.a.pc≠7→m.a.i<P.z r)∧(∀ k,0≤k→k<P.z r→uB (v+1) (P.L r k) (w (C.base at'+pos+1+k))):=by
    cases c with
    | load p hi f hq=>exact⟨by omega,fun _=>hi,f.ok⟩
    | freeze p hi f hq=>exact⟨by omega,fun _=>hi,f.ok⟩
    | copy p hi f e hq=>exact⟨by omega,fun _=>hi,f.ok⟩
    | gE p hi f hq=>exact⟨by omega,fun g=>absurd p g,f.ok⟩
   have MA:mC C P (T+1) (aX w (C.slot r) (aK 1 (C.base at'+pos) (P.g r) (v+1))) r (C.base at'+pos) (v+1):=by
    refine⟨aE _ _ _,by omega,⟨at',pos,h.pa.aL (wk _ h.ev.ab.1)⟩,?_,fun k k0 k1=>?_⟩
    ·rw[ws _ (by omega)];exact h.ha
    ·rw[Int.add_assoc,wa _ (by omega),←Int.add_assoc];exact oT.2.2 k k0 k1
   have kD:=mw.slot (Xo := -1) (t':=T+1) (v:=aK 1 (C.base at'+pos) (P.g r) (v+1)) hC hS (by omega) r0 r1 l (cV _ _ _ _) (fun i _ _ e=>e) (fun p e=>by
    have hh:=mw.ho p
    rw[y2,y4]
    refine⟨fun e'=>?_,fun e'=>?_⟩
    ·have:=hh.v1 (by rw[e,sl,z2];exact e');rw[e,sl,z4]at this;omega
    ·exact hh.v2 (by rw[e,sl,z2];exact e')) fun _=>⟨_,_,MA⟩
   have jC:m.a.w=aK 1 (C.base at'+pos) (P.g r) v:=by rcases h.aw with q|q|q;omega;omega;exact q
   have oW:=h.ib
   have rl:=Mx (z:=P.z r) hC hS (by omega) hc.nn.1
   refine .c r v xs hc ⟨h.fX,by omega,.inr (.inr jC),h.ab,by rw[ws _ (by omega)];exact h.ha,h.pa.aL (wk _ h.ev.ab.1),by rw[wk _ h.ev.ab.1,wk _ h.sp.j.1];exact h.uW,h.sp.aL (wk _ h.sp.j.1) (fun i _ _ ne=>wr i ne),h.nh,h.ev.aL (fun j j0 _=>.inl (wk j j0)) (fun i i0 i1=>?_),oW,h.cb,.stop oT.1 oT.2.1 (by rw[ws _ (by omega)];exact hd) kD MA ?_⟩
   ·by_cases e:i=r
    ·subst e
     refine .inr fun x x0 x1=>?_
     rw[aE,y2];omega
    ·exact .inl (wr i e)
   ·(repeat' split)<;>omega
theorem WI.stop(hC:C.ok)(h:WI C P t q c A)(lJ:t≤4194000)(r0:0≤r)(r1:r<C.S)(l:P.lv r=true)(h2:cF (A.w (C.slot r))=2){A':Ar}(en:A'.n=A.n)(ew:A'.w=aX A.w (C.slot r) (aK 1 (a8 (A.w (C.slot r))) (b9 (A.w (C.slot r))) (cO (A.w (C.slot r))+1))):WI C P (t+1) 3000 c A':=by
 obtain⟨hS,nn,q3,wc,nm⟩:=h
 have no:MW C P t (-1) (-1) A.w→False:=fun mw=>by have:=mw.rest hC hS (by omega) r0 r1 l (by omega);omega
 refine⟨hS,by rw[en];exact nn,Int.le_refl _,?_,nm.mono (by omega)⟩
 cases wc with
 | p0 hp ha hs mw n2 h0 hl hq=>exact(no mw).elim
 | p1 hp ha hs mw n2 h0 hl hq=>exact(no mw).elim
 | p2 hp ha hs mw n2 h0 hl hq=>exact(no mw).elim
 | p3 hp ha hs mw n2 h0 h1 hw hq=>exact(no mw).elim
 | p4 hp ha hs mw ev px hq=>exact(no mw).elim
 | p5 hp ha hs mv h0 px hw hq=>
  have:=Jx hS px
  rw[ew]
  exact .p5 hp ha hs (mv.stop hC hS lJ (by omega) r0 r1 l h2) h0 px hw (by omega)
 | p6 hp ha hs mw ev hn hq=>exact(no mw).elim
 | p9 hp ha hs mw ev hq=>exact(no mw).elim
 | m7 hp hs mw n2 ha hq=>exact(no mw).elim
 | oo hp ha mw n2 h0 hs hq=>exact(no mw).elim
end
end Go.Fl
namespace Go.Fl
open Go
variable{C:Cf}{w:Int→Int}{P:MP}{A:Ar}{who:Int}
def gy(P:MP)(r k x:Int):Int→Int→Int:=fun s d=>if s=r∧d=k then x else P.L s d
section
variable{t q q' s a v T at' pos cw xs x r k b:Int}{m:Mv}{c:Co}
theorem eK{s d:Int}(h:s≠r∨d≠k):gy P r k x s d=P.L s d:=ae fun e=>by rcases h with h|h;exact h e.1;exact h e.2
theorem vj:gy P r k x r k=x:=af ⟨rfl,rfl⟩
structure HG(C:Cf)(w:Int→Int)(b:Int):Prop where
 p:∃ j y d,b=C.base j+(y+d)∧(0≤j∧j<C.C)∧0≤y∧(0<d∧d<aA (bL (w (C.chunk j))))∧y % aA (bL (w (C.chunk j)))=0∧y+d<C.W
theorem HG.off(hC:C.ok)(h:HG C w b)(v:Int):(∀ j,0≤j→j<C.C→aX w b v (C.chunk j)=w (C.chunk j))∧(∀ j,0≤j→j<C.C→aX w b v (C.chunk j+2)=w (C.chunk j+2))∧(∀ r,0≤r→r<C.S→aX w b v (C.slot r)=w (C.slot r))∧(aX w b v 0=w 0∧aX w b v 6=w 6∧∀ k,k≤3→aX w b v (2+k)=w (2+k)) ∧
  (∀ j x,0≤j→j<C.C→0≤x→x<C.W→x % aA (bL (w (C.chunk j)))=0→b≠C.base j+x):=by
 obtain⟨j,y,d,e,jb,y0,d0,ym,yd⟩:=h.p
 have hT:=hC.T;have hS:=hC.S;have iD:=hC.C
 have bg:=a_ hC jb.1 jb.2 (show 0≤y+d by omega)
 refine⟨fun i i0 i1=>az _ _ (by have:=cP hC i0 i1;omega),fun i i0 i1=>az _ _ (by have:=cP hC i0 i1;omega),fun r r0 r1=>az _ _ (by unfold Cf.slot;omega),⟨az _ _ (by omega),az _ _ (by omega),fun k k1=>az _ _ (by omega)⟩,fun i x i0 i1 x0 x1 xm e'=>?_⟩
 obtain⟨e1,e2⟩:=bW hC i0 i1 x0 x1 jb.1 jb.2 (show 0≤y+d by omega) yd (by rw[←e',e])
 subst e1
 rw[e2]at xm
 exact vi ym d0.1 d0.2 xm
theorem mC.Gb(hC:C.ok)(hS:MS C P)(h:mC C P t w s a v)(hu:∀ j,0≤j→j<C.C→bD (w (C.chunk j))≤C.W)(s0:0≤s)(s1:s<C.S)(l:P.lv s=true)(k0:0≤k)(k1:k<P.z s):HG C w (a+1+k):=by
 obtain⟨j,y,p⟩:=h.pl
 have px:=p.xb
 have pu:=hu j p.jb.1 p.jb.2
 have rr:=hS.rm s0 s1 l
 have pm:=p.m
 unfold MP.rm at rr px pm
 rw[←p.c]at rr px pm
 exact⟨j,y,1+k,by rw[p.ea];omega,p.jb,px.1,⟨by omega,by omega⟩,pm,by omega⟩
theorem MW.pick{ms cp:Int}(hC:C.ok)(hS:MS C P)(h:MW C P t ms cp w)(ht:t≤4194303)(s0:0≤s)(s1:s<C.S)(l:P.lv s=true)(ne:s≠ms)(ha:0≤a∧a≤1048575)(hv:0≤v∧v≤4194303)(e:w (C.slot s)=aK 1 a (P.g s) v):mC C P t w s a v:=by
 obtain⟨a',v',o⟩:=h.lv s s0 s1 l ne
 obtain⟨_,s2,_,s4⟩:=o.sl hC hS ht h.ck s0 s1 l
 obtain⟨_,z2,_,z4⟩:=fc (st:=1) (ad:=a) (ge:=P.g s) (ve:=v) (by decide) ha (hS.lv s s0 s1 l).2.1 hv
 rw[e,z2]at s2
 rw[e,z4]at s4
 rw[s2,s4];exact o
theorem sr.Gb{zj:Int}(hC:C.ok)(hb:HG C w b)(h:sr C P at' zj cw w){y:Int}{L':Int→Int→Int}:sr C (P.wL L') at' zj cw (aX w b y):=by
 obtain⟨o1,_,o3,_⟩:=hb.off hC y
 have:=h.aL (w':=aX w b y) (fun j j0 j1=>.inl (o1 j j0 j1)) fun r r0 r1=>.inl (o3 r r0 r1)
 exact⟨this.ab,this.sB,this.c2,this.s2,this.ev⟩
theorem qC.Gb{L':Int→Int→Int}(h:qC C P at' pos s m):qC C (P.wL L') at' pos s m:=⟨h.sb,h.l,h.oZ,h.nn,h.n1⟩
theorem qq.Gb{j y:Int}{L':Int→Int→Int}(h:qq C P w s a j y):qq C (P.wL L') w s a j y:=⟨h.ea,h.jb,h.xb,h.m,h.c,h.st⟩
theorem yV.Gb{sa sc:Int}{L':Int→Int→Int}(h:yV C P at' s sa sc xs w):yV C (P.wL L') at' s sa sc xs w:=⟨h.r_,h.j,h.ne,h.x,h.m,h.c,h.st,h.nu⟩
theorem MW.GX{ms cp:Int}(hC:C.ok)(hS:MS C P)(h:MW C P t ms cp w)(ht:t≤4194000)(r0:0≤r)(r1:r<C.S)(l:P.lv r=true)(ne:r≠ms)(k0:0≤k)(k1:k<P.z r)(hx:0≤x∧x≤1099511627775) :
  MW C (P.wL (gy P r k x)) (t+1) ms cp (aX w (a8 (w (C.slot r))+1+k) (aT x false 0))∧HG C w (a8 (w (C.slot r))+1+k):=by
 obtain⟨a,v,o⟩:=h.lv r r0 r1 l ne
 have e:=(o.sl hC hS (by omega) h.ck r0 r1 l).2.1
 rw[e]
 have cp:=qj (v:=x) (n:=0) (f:=false) hx (by decide)
 exact⟨(h.lay (t':=t+1) (x:=x) hC hS (by omega) (by omega) r0 r1 l ne o k0 k1 ⟨cp.1,fun g=>by rw[cp.2.1]at g;cases g⟩ (dC _ _ _) fun _ _=>rfl).1,o.Gb hC hS (fun j j0 j1=>(h.ck j j0 j1).u) r0 r1 l k0 k1⟩
theorem MS.lay(h:MS C P)(hx:0≤x∧x≤1099511627775):MS C (P.wL (gy P r k x)):=h.wL fun s s0 s1 l d d0 d1=>by
 by_cases e:s=r∧d=k
 ·rw[e.1,e.2,vj];exact hx
 ·rw[eK (by by_cases g:s=r;exact .inr fun g'=>e ⟨g,g'⟩;exact .inl g)];exact(h.lv s s0 s1 l).2.2 d d0 d1
theorem mr.aav(hC:C.ok)(hS:MS C P)(hc:qC C P at' pos s m)(h:mr C P T at' pos cw s v xs q m w)(hT:T≤4194000)(mw:MW C P T s m.a.sa w)(sl:w (C.slot s)=aK 1 m.a.sa (P.g s) (v+1))(hd:w m.a.sa=aW 1 (P.z s) s (P.g s) (P.o s))(k0:0≤k)(k1:k<P.z s)(hx:0≤x∧x≤1099511627775) :
  MW C (P.wL (gy P s k x)) (T+1) s m.a.sa (aX w (m.a.sa+1+k) (aT x false 0)):=by
 obtain⟨rr,gp,gx,ga,gs,gg,gS,tC⟩:=h.sA hC hS hc
 have e0:C.base 0=6+C.T+2*C.S+3*C.C:=by unfold Cf.base;omega
 have zq:=hC.T;have rX:=hC.S;have iD:=hC.C
 have pv:=h.vb
 obtain⟨o1,o2,o3,o4,o5⟩:=h.off (y:=1+k) (v':=aT x false 0) hC hS hc ⟨by omega,by omega⟩
 have ea:m.a.sa+1+k=C.base m.a.sc+(xs+(1+k)):=by rw[h.sp.r_];omega
 rw[o5]at o1 o2 o3 o4
 rw[ea]
 have z2:=(dT (st:=1) (ad:=m.a.sa) (ge:=P.g s) (ve:=v+1) (by decide) (by omega) gg).2.1
 have ps:qq C P w s m.a.sa m.a.sc xs:=⟨h.sp.r_,h.sp.j,h.sp.x,h.sp.m,h.sp.c,.inl h.sp.st⟩
 refine mw.FF hC hS (by omega) h.sp.j.1 h.sp.j.2 (by omega) (by omega) (dC _ _ _) (fun _ _ e=>?_) (fun r r0 r1 l ne=>?_) (fun p y pl h1 h2=>?_)
 ·rw[h.sp.c]at e
  exact absurd e (vi h.sp.m (by omega) (by unfold MP.rm at rr;omega))
 ·obtain⟨b,u,o⟩:=mw.lv r r0 r1 l ne
  have CT:=(o.sl hC hS (by omega) mw.ck r0 r1 l).2.1
  obtain⟨j,y,p⟩:=o.pl
  have kj:=(mw.ck j p.jb.1 p.jb.2).u
  have px:=p.xb
  have Yv:=hS.rm r0 r1 l
  have jd:∀ d,0≤d→d≤P.z r→b+d≠C.base m.a.sc+(xs+(1+k)):=fun d d0 d1 e=>by
   obtain⟨e1,e2⟩:=bW hC p.jb.1 p.jb.2 (show 0≤y+d by omega) (by omega) h.sp.j.1 h.sp.j.2 (show 0≤xs+(1+k) by omega) (by omega) (by rw[←e,p.ea];omega)
   subst e1
   exact qq.off (d:=1+k) hC hS hc.sb hc.l r0 r1 l p h.sp.c h.sp.m (fun e'=>h.sp.nu r r0 r1 l ne (by rw[CT,e',h.sp.r_])) (by omega) ⟨by omega,by omega⟩
  refine⟨b,u,by rw[o3 r r0 r1];exact o.sw,by have:=o.vb;omega,⟨j,y,p.ea,p.jb,by rw[o2 j p.jb.1 p.jb.2];exact p.xb,p.m,by rw[o2 j p.jb.1 p.jb.2];exact p.c,by rw[o2 j p.jb.1 p.jb.2];exact p.st⟩,by rw[o1 _ (by have:=jd 0 (by omega) (by omega);omega)];exact o.hd,fun d d0 d1=>?_⟩
  have d1':d<P.z r:=d1
  show uB u (gy P s k x r d) _
  rw[eK (.inl ne),o1 _ (by have:=jd (1+d) (by omega) (by omega);omega)];exact o.ce d d0 d1'
 ·obtain⟨e1,e2,e3⟩:=(mw.ho p).cell hC hS hc.sb hc.l ps ⟨1,.inl rfl,hd⟩ h.uW.2 (d:=1+k) (by omega) pl h1 (by omega)
  exact .inl ⟨by omega,.inl (by rw[e1,e2,sl,z2])⟩
theorem oG.lay(hC:C.ok)(hS:MS C P)(h:oG C P T at' pos cw q m w)(hT:T≤4194000)(hq:q≤q')(yo:300≤q')(tW:pos % aA (bL cw)=0)(r0:0≤r)(r1:r<C.S)(l:P.lv r=true)(k0:0≤k)(k1:k<P.z r)(hx:0≤x∧x≤1099511627775)
  (hf:lL (w (a8 (w (C.slot r))+1+k))=false∨kX (w (a8 (w (C.slot r))+1+k))<cO (w (C.slot r))) :
  oG C (P.wL (gy P r k x)) (T+1) at' pos cw q' m (aX w (a8 (w (C.slot r))+1+k) (aT x false 0)):=by
 cases h with
 | a h=>
  obtain⟨kD,hb⟩:=h.mw.GX hC hS hT r0 r1 l (by omega) k0 k1 hx
  obtain⟨o1,o2,o3,⟨o4,o5,o6⟩,o7⟩:=hb.off hC (aT x false 0)
  have ha:=az w (aT x false 0) (Ne.symm (o7 at' pos h.ev.ab.1 h.ev.ab.2 h.x.1 h.x.2 (by rw[h.ev.sB];exact tW)))
  exact .a ⟨by rw[ha];exact h.em,by rw[ha];exact h.k,by rw[ha];exact h.t,by rw[ha];exact h.c,kD,h.ev.Gb hC hb,h.x,by rw[ha];have:=h.qb;omega⟩
 | b s v k' u hc h=>
  obtain⟨a0,a6,a7⟩:=h.Tc hC hS hc
  obtain⟨rr,zz,zr⟩:=hS.rm hc.sb.1 hc.sb.2 hc.l
  have bE:0≤ai (P.z s)∧ai (P.z s)≤3:=⟨(hS.lv s hc.sb.1 hc.sb.2 hc.l).1,(bH _).2⟩
  obtain⟨kD,hb⟩:=h.mw.GX hC hS hT r0 r1 l (by omega) k0 k1 hx
  rw[←a7 r r0 r1]at kD hb
  obtain⟨o1,o2,o3,⟨o4,o5,o6⟩,o7⟩:=hb.off hC (aT x false 0)
  have pb:=h.pa.bd hC hS (h.mw.ck at' h.ev.ab.1 h.ev.ab.2).u hc.sb.1 hc.sb.2 hc.l
  have e0:C.base 0=6+C.T+2*C.S+3*C.C:=by unfold Cf.base;omega
  have zq:=hC.T;have rX:=hC.S;have iD:=hC.C
  have hll:=br hC
  have vb:=h.ob.vb
  have aa:0≤C.base at'+pos∧C.base at'+pos≤1048575:=by omega
  have bge:C.base 0≤a8 (w (C.slot r))+1+k:=by
   obtain⟨j,y,d,e,jb,y0,d0,ym,yd⟩:=hb.p
   have:=a_ hC jb.1 jb.2 (show 0≤y+d by omega)
   omega
  have wo:∀ j,0≤j→j<C.C→aX w (a8 (w (C.slot r))+1+k) (aT x false 0) (C.chunk j)=w (C.chunk j):=fun j j0 j1=>az _ _ (by have:=cP hC j0 j1;omega)
  have w2:aX w (a8 (w (C.slot r))+1+k) (aT x false 0) (2+ai (P.z s))=w (2+ai (P.z s)):=az _ _ (by omega)
  refine .b s v k' (aX u (a8 (w (C.slot r))+1+k) (aT x false 0)) hc.Gb ⟨h.pc,h.fX,kD,?_,(h.pa.aL (o1 _ h.ev.ab.1 h.ev.ab.2)).Gb,h.aw,h.ev.Gb hC hb,fun i i0 i1=>?_,?_,h.i,h.nn,h.cell,pF h.bd (dC _ _ _),?_⟩
  ·exact kD.pick hC (hS.lay hx) (by omega) hc.sb.1 hc.sb.2 hc.l (by have:=hc.sb;omega) aa (by omega) (by rw[o3 s hc.sb.1 hc.sb.2];exact h.ob.sw)
  ·unfold aX;split
   ·rfl
   ·exact h.off i i0 i1
  ·exact(h.pl.aL (x:=⟨w2,fun j j0 j1=>wo j j0 j1⟩)).Ma ⟨o6 _ bE.2,fun j j0 j1=>o1 j j0 j1⟩ (h.mw.op _ bE.1 bE.2).2
  ·have:=h.kb;show 0≤k'∧18+C.C+3*P.z s+rq C (P.z s) 0-k'≤q';omega
 | c s v xs hc h=>
  obtain⟨rr,gp,gx,ga,gs,gg,gS,tC⟩:=h.sA hC hS hc
  have pv:=h.vb
  have oW:=h.ib
  have e0:C.base 0=6+C.T+2*C.S+3*C.C:=by unfold Cf.base;omega
  have zq:=hC.T;have rX:=hC.S;have iD:=hC.C
  have rl:=Mx (z:=P.z s) hC hS (by omega) hc.nn.1
  have aa:0≤C.base at'+pos∧C.base at'+pos≤1048575:=by omega
  have a7:pos % aA (bL (w (C.chunk at')))=0:=by have:=h.pa.m;unfold MP.rm at this;rw[h.pa.c];exact this
  have s7:xs % aA (bL (w (C.chunk m.a.sc)))=0:=by have:=h.sp.m;unfold MP.rm at this;rw[h.sp.c];exact this
  generalize hB:a8 (w (C.slot r))+1+k=B at hf ⊢
  have base:HG C w B→HC C (P.wL (gy P r k x)) (T+1) (C.base at'+pos) s v q' m (aX w B (aT x false 0)) →
    oG C (P.wL (gy P r k x)) (T+1) at' pos cw q' m (aX w B (aT x false 0)):=fun hb ph=>by
   obtain⟨o1,o2,o3,⟨o4,o5,o6⟩,o7⟩:=hb.off hC (aT x false 0)
   have ha:=az w (aT x false 0) (Ne.symm (o7 at' pos h.ev.ab.1 h.ev.ab.2 gp.1 (by omega) a7))
   exact .c s v xs hc.Gb ⟨h.fX,by omega,h.aw,h.ab,by rw[ha];exact h.ha,(h.pa.aL (o1 _ h.ev.ab.1 h.ev.ab.2)).Gb,by rw[o1 _ h.ev.ab.1 h.ev.ab.2,o1 _ h.sp.j.1 h.sp.j.2];exact h.uW,(h.sp.aL (o1 _ h.sp.j.1 h.sp.j.2) (fun i i0 i1 _=>o3 i i0 i1)).Gb,h.nh,h.ev.Gb hC hb,oW,h.cb,ph⟩
  have FQ:HG C w B→aX w B (aT x false 0) m.a.sa=w m.a.sa:=fun hb=>by
   have:=(hb.off hC (aT x false 0)).2.2.2.2 m.a.sc xs h.sp.j.1 h.sp.j.2 gx.1 (by omega) s7
   rw[←h.sp.r_]at this
   exact az _ _ (Ne.symm this)
  have rest:∀ cp,MW C P T (-1) cp w→MW C (P.wL (gy P r k x)) (T+1) (-1) cp (aX w B (aT x false 0))∧HG C w B:=fun cp mw=>by
   have:=mw.GX hC hS hT r0 r1 l (by omega) k0 k1 hx
   rw[hB]at this;exact this
  have MA:∀ cp v',MW C P T (-1) cp w→mC C P T w s (C.base at'+pos) v'→mC C (P.wL (gy P r k x)) (T+1) (aX w B (aT x false 0)) s (C.base at'+pos) v':=fun cp v' mw o=>by
   obtain⟨kD,hb⟩:=rest cp mw
   have vb':=o.vb
   exact kD.pick hC (hS.lay hx) (by omega) hc.sb.1 hc.sb.2 hc.l (by have:=hc.sb;omega) aa (by omega) (by rw[(hb.off hC _).2.2.1 s hc.sb.1 hc.sb.2];exact o.sw)
  cases h.ph with
  | head p mw ob F1=>exact base (rest _ mw).2 (.head p (rest _ mw).1 (MA _ _ mw ob) (by show rq C (P.z s) m.a.nn+6+3*P.z s≤q';omega))
  | gF p hd mw ob F1=>exact base (rest _ mw).2 (.gF p ((FQ (rest _ mw).2).trans hd) (rest _ mw).1 (by obtain⟨u,o⟩:=ob;exact⟨u,MA _ _ mw o⟩) (by show rq C (P.z s) m.a.nn+8+3*P.z s≤q';omega))
  | mark p hd mw ob F1=>exact base (rest _ mw).2 (.mark p ((FQ (rest _ mw).2).trans hd) (rest _ mw).1 (MA _ _ mw ob) (by show rq C (P.z s) m.a.nn+5+3*P.z s≤q';omega))
  | stop p hi hd mw ob F1=>exact base (rest _ mw).2 (.stop p hi ((FQ (rest _ mw).2).trans hd) (rest _ mw).1 (MA _ _ mw ob) (by
    show rq C (P.z s) m.a.nn+4+(if m.a.pc=7 then 0 else 3*(P.z s-m.a.i)+(if m.a.pc=4 then 0 else if m.a.pc=5 then(if aX w B (aT x false 0) (C.base at'+pos+1+m.a.i)=m.a.cell then -1 else 1)else -2))≤q'
    (repeat' split)<;>omega))
  | count p mw sl F1=>exact base (rest _ mw).2 (.count p (rest _ mw).1 (by rw[((rest _ mw).2.off hC _).2.2.1 s hc.sb.1 hc.sb.2];exact sl) (by omega))
  | kill p o hd mw ob F1=>exact base (rest _ mw).2 (.kill p o ((FQ (rest _ mw).2).trans hd) (rest _ mw).1 (by obtain⟨u,o⟩:=ob;exact⟨u,MA _ _ mw o⟩) (by omega))
  | shown p hd mw sl cp F1=>
   by_cases er:r=s
   ·subst er
    have e1:=(dT (st:=1) (ad:=m.a.sa) (ge:=P.g r) (ve:=v+1) (by decide) (by omega) gg).2.1
    have eB:B=m.a.sa+1+k:=by rw[←hB,sl,e1]
    have hb:HG C w B:=⟨m.a.sc,xs,1+k,by rw[eB,h.sp.r_];omega,h.sp.j,gx.1,⟨by omega,by rw[h.sp.c];unfold MP.rm at rr;omega⟩,s7,by omega⟩
    have kD:=h.aav hC hS hc hT mw sl hd k0 k1 hx
    rw[←eB]at kD
    refine base hb (.shown p ((FQ hb).trans hd) kD (by rw[(hb.off hC _).2.2.1 r hc.sb.1 hc.sb.2];exact sl) (fun d d0 d1=>?_) (by omega))
    show aX w B _ (m.a.sa+1+d)=aT (gy P r k x r d) false 0
    by_cases ed:d=k
    ·rw[ed,←eB,aE,vj]
    ·rw[az _ _ (by omega),eK (.inr ed)];exact cp d d0 d1
   ·obtain⟨kD,hb⟩:=mw.GX hC hS hT r0 r1 l er k0 k1 hx
    rw[hB]at kD hb
    obtain⟨a1,v1,o⟩:=mw.lv r r0 r1 l er
    have CT:=(o.sl hC hS (by omega) mw.ck r0 r1 l).2.1
    obtain⟨j,y,pl⟩:=o.pl
    have plx:=pl.xb
    have pu:=(mw.ck j pl.jb.1 pl.jb.2).u
    have Yv:=hS.rm r0 r1 l
    have oS:∀ d,0≤d→d<P.rm s→m.a.sa+d≠B:=fun d d0 d1 e=>by
     rw[←hB,CT,pl.ea,h.sp.r_]at e
     obtain⟨e1,e2⟩:=bW hC h.sp.j.1 h.sp.j.2 (show 0≤xs+d by omega) (by omega) pl.jb.1 pl.jb.2 (show 0≤y+(1+k) by omega) (by omega) (by omega)
     subst e1
     exact qq.off (d:=d) hC hS hc.sb hc.l r0 r1 l pl h.sp.c h.sp.m (fun e'=>h.sp.nu r r0 r1 l er (by rw[CT,e',h.sp.r_])) ⟨d0,d1⟩ ⟨by omega,by omega⟩
    refine base hb (.shown p ((FQ hb).trans hd) kD (by rw[(hb.off hC _).2.2.1 s hc.sb.1 hc.sb.2];exact sl) (fun d d0 d1=>?_) (by omega))
    have d1':d<P.z s:=d1
    show aX w B _ (m.a.sa+1+d)=aT (gy P r k x s d) false 0
    rw[az _ _ (by have:=oS (1+d) (by omega) (by omega);omega),eK (.inl (Ne.symm er))];exact cp d d0 d1'
  | go hd mw sl cp cc=>
   obtain⟨z1,z2,z3,z4⟩:=fc (st:=2) (ad:=C.base at'+pos) (ge:=P.g s) (ve:=v) (by decide) (by omega) gg (by omega)
   by_cases er:r=s
   ·subst er
    have eB:B=C.base at'+pos+1+k:=by rw[←hB,sl,z2]
    have hb:HG C w B:=⟨at',pos,1+k,by rw[eB];omega,h.ev.ab,gp.1,⟨by omega,by rw[h.pa.c];unfold MP.rm at rr;omega⟩,a7,by omega⟩
    rw[sl,z4]at hf
    have kD:=h.Ut (L':=gy P r k x) (v':=aT x false 0) hC hS hc hT mw (by rw[sl];exact z2) ⟨k0,k1⟩ (dC _ _ _) (fun i d ne=>eK (.inl ne))
    obtain⟨o1,o2,o3,o4⟩:=h.old (v':=aT x false 0) (y:=k) hC hS hc ⟨k0,k1⟩
    rw[←eB]at kD o1 o2 o3 o4
    have cep:=qj (v:=x) (n:=0) (f:=false) hx (by decide)
    have Ln:∀ i,DL P r (C.base at'+pos) v i w→i≤k∧DL (P.wL (gy P r k x)) r (C.base at'+pos) v i (aX w B (aT x false 0)):=fun i f=>by
     have ik:i≤k:=Decidable.byContradiction fun g=>by
      obtain⟨f1,f2,f3⟩:=f.f k k0 (by omega)
      rw[←eB]at f2 f3
      rcases hf with q|q
      ·rw[q]at f2;cases f2
      ·omega
     refine⟨ik,fun d d0 d1=>?_,fun d d0 d1 d2=>?_⟩
     ·rw[o1 _ (by omega)]
      show _=gy P r k x r d∧_
      rw[eK (.inr (by omega))];exact f.f d d0 d1
     ·show uB v (gy P r k x r d) _
      by_cases ed:d=k
      ·rw[ed,←eB,aE,vj];exact⟨cep.1,fun g=>by rw[cep.2.1]at g;cases g⟩
      ·rw[o1 _ (by omega),eK (.inr ed)];exact f.c d d0 d1 d2
    have BS:∀ i,i≤k→i≤P.z r→R7 C P r m.a.sa i w→R7 C (P.wL (gy P r k x)) r m.a.sa i (aX w B (aT x false 0)):=fun i ik iz Vm d d0 d1=>by
     show _=aT (gy P r k x r d) false 0
     rw[eK (.inr (by omega)),Int.add_assoc,o4 _ (by omega) (by omega),←Int.add_assoc];exact Vm d d0 d1
    have yy:=(o3 r hc.sb.1 hc.sb.2).trans sl
    cases cc with
    | load p hi f F1=>obtain⟨ik,f'⟩:=Ln _ f;exact base hb (.go ((FQ hb).trans hd) kD yy (BS _ ik oW.2 cp) (.load p hi f' (by show rq C (P.z r) m.a.nn+4+3*(P.z r-m.a.i)≤q';omega)))
    | freeze p hi f F1=>obtain⟨ik,f'⟩:=Ln _ f;exact base hb (.go ((FQ hb).trans hd) kD yy (BS _ ik oW.2 cp) (.freeze p hi f' (by show rq C (P.z r) m.a.nn+_+3*(P.z r-m.a.i)≤q';split<;>omega)))
    | copy p hi f e F1=>
     obtain⟨ik,f'⟩:=Ln _ f
     exact base hb (.go ((FQ hb).trans hd) kD yy (BS _ (by omega) oW.2 cp) (.copy p hi f' (by show _=gy P r k x r m.a.i;rw[eK (.inr (by omega))];exact e) (by show rq C (P.z r) m.a.nn+2+3*(P.z r-m.a.i)≤q';omega)))
    | gE p hi f F1=>obtain⟨ik,f'⟩:=Ln _ f;exact base hb (.go ((FQ hb).trans hd) kD yy (BS _ ik oW.2 cp) (.gE p hi f' (by show rq C (P.z r) m.a.nn+4≤q';omega)))
   ·obtain⟨kD,hb⟩:=mw.GX hC hS hT r0 r1 l er k0 k1 hx
    rw[hB]at kD hb
    obtain⟨a1,v1,o⟩:=mw.lv r r0 r1 l er
    have CT:=(o.sl hC hS (by omega) mw.ck r0 r1 l).2.1
    obtain⟨j,y,pl⟩:=o.pl
    have plx:=pl.xb
    have pu:=(mw.ck j pl.jb.1 pl.jb.2).u
    have Yv:=hS.rm r0 r1 l
    have Ux:a1≠C.base at'+pos:=fun e=>by
     obtain⟨⟨_,_,f3,_,_⟩,_⟩:=mw.at' hC hS (by omega) r0 r1 l er (CT.trans e)
     rw[h.ha,(je (by decide) (by omega) (by omega) gg).2.2.1]at f3
     exact er f3.symm
    have oA:∀ d,0≤d→d<P.rm s→C.base at'+pos+d≠B:=fun d d0 d1 e=>by
     rw[←hB,CT,pl.ea]at e
     obtain⟨e1,e2⟩:=bW hC h.ev.ab.1 h.ev.ab.2 (show 0≤pos+d by omega) (by omega) pl.jb.1 pl.jb.2 (show 0≤y+(1+k) by omega) (by omega) (by omega)
     subst e1
     exact qq.off (d:=d) hC hS hc.sb hc.l r0 r1 l pl h.pa.c h.pa.m Ux ⟨d0,d1⟩ ⟨by omega,by omega⟩
    have oS:∀ d,0≤d→d<P.rm s→m.a.sa+d≠B:=fun d d0 d1 e=>by
     rw[←hB,CT,pl.ea,h.sp.r_]at e
     obtain⟨e1,e2⟩:=bW hC h.sp.j.1 h.sp.j.2 (show 0≤xs+d by omega) (by omega) pl.jb.1 pl.jb.2 (show 0≤y+(1+k) by omega) (by omega) (by omega)
     subst e1
     exact qq.off (d:=d) hC hS hc.sb hc.l r0 r1 l pl h.sp.c h.sp.m (fun e'=>h.sp.nu r r0 r1 l er (by rw[CT,e',h.sp.r_])) ⟨d0,d1⟩ ⟨by omega,by omega⟩
    have Ln:∀ i,i≤P.z s→DL P s (C.base at'+pos) v i w→DL (P.wL (gy P r k x)) s (C.base at'+pos) v i (aX w B (aT x false 0)):=fun i iz f=>by
     refine⟨fun d d0 d1=>?_,fun d d0 d1 d2=>?_⟩
     ·rw[az _ _ (by have:=oA (1+d) (by omega) (by omega);omega)]
      show _=gy P r k x s d∧_
      rw[eK (.inl (Ne.symm er))];exact f.f d d0 d1
     ·have d2':d<P.z s:=d2
      show uB v (gy P r k x s d) _
      rw[az _ _ (by have:=oA (1+d) (by omega) (by omega);omega),eK (.inl (Ne.symm er))];exact f.c d d0 d1 d2'
    have BS:R7 C (P.wL (gy P r k x)) s m.a.sa m.a.i (aX w B (aT x false 0)):=fun d d0 d1=>by
     show _=aT (gy P r k x s d) false 0
     rw[eK (.inl (Ne.symm er)),az _ _ (by have:=oS (1+d) (by omega) (by omega);omega)];exact cp d d0 d1
    have yy:=((hb.off hC (aT x false 0)).2.2.1 s hc.sb.1 hc.sb.2).trans sl
    cases cc with
    | load p hi f F1=>exact base hb (.go ((FQ hb).trans hd) kD yy BS (.load p hi (Ln _ oW.2 f) (by show rq C (P.z s) m.a.nn+4+3*(P.z s-m.a.i)≤q';omega)))
    | freeze p hi f F1=>exact base hb (.go ((FQ hb).trans hd) kD yy BS (.freeze p hi (Ln _ oW.2 f) (by show rq C (P.z s) m.a.nn+_+3*(P.z s-m.a.i)≤q';split<;>omega)))
    | copy p hi f e F1=>exact base hb (.go ((FQ hb).trans hd) kD yy BS (.copy p hi (Ln _ (by omega) f) (by show _=gy P r k x s m.a.i;rw[eK (.inl (Ne.symm er))];exact e) (by show rq C (P.z s) m.a.nn+2+3*(P.z s-m.a.i)≤q';omega)))
    | gE p hi f F1=>exact base hb (.go ((FQ hb).trans hd) kD yy BS (.gE p hi (Ln _ oW.2 f) (by show rq C (P.z s) m.a.nn+4≤q';omega)))
theorem WI.lay(hC:C.ok)(h:WI C P t q c A)(lJ:t≤4194000)(r0:0≤r)(r1:r<C.S)(l:P.lv r=true)(k0:0≤k)(k1:k<P.z r)(hx:0≤x∧x≤1099511627775)
  (hf:lL (A.w (a8 (A.w (C.slot r))+1+k))=false∨kX (A.w (a8 (A.w (C.slot r))+1+k))<cO (A.w (C.slot r))) {A':Ar} (en:A'.n=A.n) (ew:A'.w=aX A.w (a8 (A.w (C.slot r))+1+k) (aT x false 0)):WI C (P.wL (gy P r k x)) (t+1) 3000 c A':=by
 obtain⟨hS,nn,q3,wc,nm⟩:=h
 have f:MW C P t (-1) (-1) A.w→MW C (P.wL (gy P r k x)) (t+1) (-1) (-1) A'.w∧HG C A.w (a8 (A.w (C.slot r))+1+k):=fun mw=>by
  rw[ew];exact mw.GX hC hS lJ r0 r1 l (by omega) k0 k1 hx
 have SI:HG C A.w (a8 (A.w (C.slot r))+1+k)→DQ C A.w→DQ C A'.w:=fun hb n2=>by
  rw[ew];exact n2.aL (hb.off hC _).1
 have ev':∀{zj:Int},HG C A.w (a8 (A.w (C.slot r))+1+k)→sr C P c.r.at' zj c.r.w A.w→sr C (P.wL (gy P r k x)) c.r.at' zj c.r.w A'.w:=fun hb ev=>by
  rw[ew];exact ev.Gb hC hb
 refine⟨hS.lay hx,by rw[en];exact nn,Int.le_refl _,?_,nm.mono (by omega)⟩
 cases wc with
 | p0 hp ha hs mw n2 h0 hl hq=>obtain⟨m1,hb⟩:=f mw;exact .p0 hp ha hs m1 (SI hb n2) h0 hl (by omega)
 | p1 hp ha hs mw n2 h0 hl hq=>obtain⟨m1,hb⟩:=f mw;exact .p1 hp ha hs m1 (SI hb n2) h0 hl (by omega)
 | p2 hp ha hs mw n2 h0 hl hq=>obtain⟨m1,hb⟩:=f mw;exact .p2 hp ha hs m1 (SI hb n2) h0 hl (by omega)
 | p3 hp ha hs mw n2 h0 h1 hw hq=>obtain⟨m1,hb⟩:=f mw;exact .p3 hp ha hs m1 (SI hb n2) h0 h1 hw (by omega)
 | p4 hp ha hs mw ev px hq=>obtain⟨m1,hb⟩:=f mw;exact .p4 hp ha hs m1 (ev' hb ev) px (by omega)
 | p5 hp ha hs mv h0 px hw hq=>
  have:=Jx hS px
  have m1:=mv.lay (q':=3000-yr c.r.w c.r.pos) hC hS lJ (by omega) (by omega) px.m r0 r1 l k0 k1 hx hf
  rw[←ew]at m1
  exact .p5 hp ha hs m1 h0 px hw (by omega)
 | p6 hp ha hs mw ev hn hq=>
  obtain⟨m1,hb⟩:=f mw
  obtain⟨o1,o2,o3,⟨o4,o5,o6⟩,o7⟩:=hb.off hC (aT x false 0)
  exact .p6 hp ha hs m1 (ev' hb ev) ⟨fun g=>by rw[ew,o4];exact hn.1 g,fun g=>by rw[ew,o4,o2 _ ev.ab.1 ev.ab.2];exact hn.2 g⟩ (by omega)
 | p9 hp ha hs mw ev hq=>obtain⟨m1,hb⟩:=f mw;exact .p9 hp ha hs m1 (ev' hb ev) (by omega)
 | m7 hp hs mw n2 ha hq=>
  obtain⟨m1,hb⟩:=f mw
  exact .m7 hp hs m1 (SI hb n2) (fun v e=>by rw[ew,(hb.off hC _).2.2.2.1.1];exact ha v e) (by omega)
 | oo hp ha mw n2 h0 hs hq=>
  obtain⟨m1,hb⟩:=f mw
  obtain⟨o1,o2,o3,⟨o4,o5,o6⟩,o7⟩:=hb.off hC (aT x false 0)
  exact .oo hp ha m1 (SI hb n2) h0 (fun v e=>by rw[ew,o1 _ h0.1 h0.2,o2 _ h0.1 h0.2,o4];exact hs v e) (by omega)
end
end Go.Fl
namespace Go.Fl
open Go
variable{N:Nm}{A B:Ar}{σ:Mem}{K:Value→Mem→Prop}{C:Cf}{who:Int}
structure Ac where
 kd:Int
 n:Int
 ix:Int
 v:Int
 old:Int
 own:Bool
 hs:Int
 hg:Int
 pc:Int
 w:Int
 cell:Int
 seen:Int
 rd:Int
 size:Int
 jA:Option Nat
 oE:Int
 oH:Int
 oV:Int
 oS:Int
def Ac.l(a:Ac):List Value:=[.int .i64 a.kd,.int .u64 a.n,.int .i64 a.ix,.int .i64 a.v,.int .i64 a.old,.bool a.own,.int .i64 a.hs,.int .i64 a.hg,.int .i64 a.pc,.int .u64 a.w,.int .u64 a.cell,.int .i64 a.seen,.int .i64 a.rd,.int .i64 a.size,Bu a.jA,.int .i64 a.oE,.int .u64 a.oH,.int .i64 a.oV,.int .i64 a.oS]
def Ac.new(kd n ix v old:Int)(own:Bool):Ac:=⟨kd,n,ix,v,old,own,0,0,0,0,0,0,0,0,none,0,0,0,0⟩
def Ac.DP(a:Ac):Int:=
 if a.kd=1∨a.kd=3∧kN a.cell≠a.old then 6 else if cF a.w=4 then 4 else if lL a.cell=false∨kX a.cell<cO a.w then 5 else if kX a.cell=cO a.w∧cF a.w=2 then 3 else 0
def Ac.at'(a:Ac):Int:=a8 a.w+1+a.ix
def Ac.fin(a:Ac)(e v s:Int):Ac:={ a with oE:=e,oH:=0,oV:=v,oS:=s }
theorem dP{p k sz:Nat}{ag:Bool}{a:Ac}{v:Value}(hd:p∉N.l)(h:sub a.l k sz ag=some v):aj sz ag [.pointer (some ⟨p,k,none⟩)] K (aD N A (σ.set p ⟨a.l,true⟩))=K v (aD N A (σ.set p ⟨a.l,true⟩)):=by
 rw[cf ((dv hd).trans (Mem.bf _ _ _)),h,Ce]
theorem sX{p k:Nat}{a:Ac}(a':Ac){x:Value}(hd:p∉N.l)(hx:cellsOf x 1=some [x])(ho:dV x=true)(hk:k+1≤19)(e:lay a.l k [x]=a'.l) :
  ax 1 [.pointer (some ⟨p,k,none⟩),x] K (aD N A (σ.set p ⟨a.l,true⟩))=K undef (aD N A (σ.set p ⟨a'.l,true⟩)):=by
 have:=Mt (K:=K) (N:=N) (A:=A) (σ:=σ) (p:=p) (pre:=[]) (L:=a.l) (post:=[]) (k:=k) (sz:=1) (x:=x) (c:=[x]) hd hx rfl hk (by simp[ho])
 rw[e]at this
 simpa only[List.nil_append,List.append_nil,List.length_nil,Nat.zero_add]using this
theorem Mu{p k sz:Nat}{a:Ac}(a':Ac){c:List Value}(hd:p∉N.l)(hl:c.length=sz)(ho:c.all dV=true)(hk:k+sz≤19)(e:lay a.l k c=a'.l) :
  ax sz [.pointer (some ⟨p,k,none⟩),.agg c.toArray] K (aD N A (σ.set p ⟨a.l,true⟩))=K undef (aD N A (σ.set p ⟨a'.l,true⟩)):=by
 have:=CC (K:=K) (N:=N) (A:=A) (σ:=σ) (p:=p) (pre:=[]) (L:=a.l) (post:=[]) (k:=k) (sz:=sz) (c:=c) hd hl hk ho
 rw[e]at this
 simpa only[List.nil_append,List.append_nil,List.length_nil,Nat.zero_add]using this
theorem JU{kd n ix v old:Int}{o:Bool}(hk:∀ id τ,σ.get id=none→τ.get id=some ⟨(Ac.new kd n ix v old o).l,true⟩→Ext σ τ→K (.pointer (some ⟨id,0,none⟩)) τ) :
  rL [.agg #[.int .i64 kd,.int .u64 n,.int .i64 ix,.int .i64 v,.int .i64 old],.bool o] K σ:=by
 have b:∀ K:Value→Prop,xF (aM [(0,5),(5,1),(6,2),(8,1),(9,1),(10,1),(11,1),(12,1),(13,1),(14,1),(15,4)] [.int .i64 0,.int .u64 0,.int .i64 0,.int .i64 0,.int .i64 0,.bool false,.int .i64 0,.int .i64 0,.int .i64 0,.int .u64 0,.int .u64 0,.int .i64 0,.int .i64 0,.int .i64 0,.pointer none,.int .i64 0,.int .u64 0,.int .i64 0,.int .i64 0] [0,1]) [.agg #[.int .i64 kd,.int .u64 n,.int .i64 ix,.int .i64 v,.int .i64 old],.bool o] K =
   K (.agg (Ac.new kd n ix v old o).l.toArray):=fun K=>nr rfl
 have g:bO 5 [.agg #[.int .i64 kd,.int .u64 n,.int .i64 ix,.int .i64 v,.int .i64 old]] []=some [.int .i64 kd,.int .u64 n,.int .i64 ix,.int .i64 v,.int .i64 old]:=rfl
 have s5:∀ x y z u w:Value,ah 5 true [.pointer (some ⟨2,0,some 0⟩)] [x,y,z,u,w]=some (.agg #[x,y,z,u,w]):=fun _ _ _ _ _=>rfl
 simp only[rL,Qx,g,s5,au,b,H0,Ce,aF]
 exact gA (cs:=(Ac.new kd n ix v old o).l) rfl hk
theorem Hr(hA:aZ N A σ){p:Nat}{a:Ac}(hp:σ.get p=some ⟨a.l,true⟩)(hk:K (.agg #[.int .i64 a.oE,.int .u64 a.oH,.int .i64 a.oV,.int .i64 a.oS]) σ):yH [.pointer (some ⟨p,0,none⟩)] K σ:=by
 have gs:∀ x y z w:Int,aH 4 [.pointer (some ⟨2,0,some 0⟩),.agg #[.int .i64 x,.int .u64 y,.int .i64 z,.int .i64 w]] [.int .i64 0,.int .u64 0,.int .i64 0,.int .i64 0]=some [.int .i64 x,.int .u64 y,.int .i64 z,.int .i64 w]:=fun _ _ _ _=>rfl
 simp only[yH,QC,aF,bc]
 rw[UC hp (show sub a.l 15 4 true=some (.agg #[.int .i64 a.oE,.int .u64 a.oH,.int .i64 a.oV,.int .i64 a.oS])from rfl)]
 simp only[gs,uk,aF]
 exact hk
theorem lH{p:Nat}{a:Ac}{e v s:Int}(hd:p∉N.l):pX [.pointer (some ⟨p,0,none⟩),.int .i64 e,.int .i64 v,.int .i64 s] K (aD N A (σ.set p ⟨a.l,true⟩))=K (.bool true) (aD N A (σ.set p ⟨(a.fin e v s).l,true⟩)):=by
 have b:∀(K:Value→Prop),xF (aM [(0,1),(1,1),(2,1),(3,1)] [.int .i64 0,.int .u64 0,.int .i64 0,.int .i64 0] [0,2,3]) [.int .i64 e,.int .i64 v,.int .i64 s] K=K (.agg #[.int .i64 e,.int .u64 0,.int .i64 v,.int .i64 s]):=fun K=>nr rfl
 simp only[pX,Qz,b,aF]
 have:=Mu (K:=fun _ σ=>K (.bool true) σ) (N:=N) (A:=A) (σ:=σ) (p:=p) (a:=a) (a.fin e v s) (c:=[.int .i64 e,.int .u64 0,.int .i64 v,.int .i64 s]) (sz:=4) (k:=15) hd rfl rfl (by decide) rfl
 exact this
theorem OV{p:Nat}{a:Ac}(hd:p∉N.l)(h3:0≤a.w∧a.w<18446744073709551616)(h:0≤a.at'∧a.at'<9223372036854775807):CO [.pointer (some ⟨p,0,none⟩)] K (aD N A (σ.set p ⟨a.l,true⟩))=K (.int .i64 a.at') (aD N A (σ.set p ⟨a.l,true⟩)):=by
 have m_:=xd a.w
 simp only[CO,QB,aF]
 rw[dP hd (show sub _ 9 1 false=some (.int .u64 a.w)from rfl),cX h3.1 h3.2]
 simp only[pw,aF,bc]
 rw[dP hd (show sub _ 2 1 false=some (.int .i64 a.ix)from rfl),IntWalk.i64_in (a8 a.w+1) (by omega)]
 simp only[aF]
 rw[show a8 a.w+1+a.ix=a.at' from rfl,IntWalk.i64_in _ (by omega)]
theorem LS{p:Nat}{a:Ac}(hd:p∉N.l)(h3:0≤a.w∧a.w<18446744073709551616)(h4:0≤a.cell∧a.cell<18446744073709551616):Eo [.pointer (some ⟨p,0,none⟩)] K (aD N A (σ.set p ⟨a.l,true⟩))=K (.int .i64 a.DP) (aD N A (σ.set p ⟨a.l,true⟩)):=by
 have g4:∀(k:Nat) (x y z w x' y' z' w':Int),aH 4 [.pointer (some ⟨k,0,some 0⟩),.agg #[.int .i64 x,.int .i64 y,.int .i64 z,.int .i64 w]] [.int .i64 x',.int .i64 y',.int .i64 z',.int .i64 w']=some [.int .i64 x,.int .i64 y,.int .i64 z,.int .i64 w]:=fun _ _ _ _ _ _ _ _ _=>rfl
 have g3:∀(k:Nat) (x z:Int) (y:Bool) (x' z':Int) (y':Bool),aH 3 [.pointer (some ⟨k,0,some 0⟩),.agg #[.int .i64 x,.bool y,.int .i64 z]] [.int .i64 x',.bool y',.int .i64 z']=some [.int .i64 x,.bool y,.int .i64 z]:=fun _ _ _ _ _ _ _=>rfl
 simp only[Eo,Qy,aF,bc]
 rw[dP hd (show sub _ 10 1 false=some (.int .u64 a.cell)from rfl),ln h4.1 h4.2]
 simp only[aF,bc,Nat.reduceAdd]
 rw[dP hd (show sub _ 9 1 false=some (.int .u64 a.w)from rfl),cX h3.1 h3.2]
 simp only[g4,aF]
 rw[dP hd (show sub _ 0 1 false=some (.int .i64 a.kd)from rfl)]
 have rest:∀ b:Bool,(b=true ↔ a.kd=1∨a.kd=3∧kN a.cell≠a.old)→uZ K [.bool b] [[.int .i64 (kN a.cell),.bool (lL a.cell),.int .i64 (kX a.cell)],[.int .i64 (cF a.w),.int .i64 (a8 a.w),.int .i64 (b9 a.w),.int .i64 (cO a.w)]] (aD N A (σ.set p ⟨a.l,true⟩))=K (.int .i64 a.DP) (aD N A (σ.set p ⟨a.l,true⟩)):=by
  intro b hb
  unfold Ac.DP
  simp only[←hb]
  simp only[uZ,wJ,aF,bc]
  cases b with
  | true=>simp only[aF]
  | false=>
   simp only[Bool.false_eq_true,if_false,aF]
   by_cases c1:cF a.w=4
   ·simp only[c1,aF,Int.reduceEq]
   ·simp only[c1,aF]
    cases c2:lL a.cell with
    | false=>simp only[mG,kr,true_or,aF,bc]
    | true=>
     by_cases c3:kX a.cell<cO a.w
     ·simp only[c3,mG,kr,or_true,aF,bc]
     ·by_cases c4:kX a.cell=cO a.w
      ·by_cases c5:cF a.w=2
       ·simp only[c4,c5,Int.lt_irrefl,mG,kr,rp,nR,Bool.true_eq_false,or_self,and_self,aF,bc]
       ·simp only[c4,c5,Int.lt_irrefl,mG,kr,rp,nR,Bool.true_eq_false,or_self,and_false,aF,bc]
      ·simp only[c3,c4,mG,kr,rp,nR,Bool.true_eq_false,or_self,false_and,aF,bc]
 by_cases c1:a.kd=1
 ·simp only[c1,aF]
  exact rest true (by simp[c1])
 ·simp only[c1,aF]
  rw[dP hd (show sub _ 0 1 false=some (.int .i64 a.kd)from rfl)]
  by_cases c3:a.kd=3
  ·simp only[c3,aF]
   rw[dP hd (show sub _ 4 1 false=some (.int .i64 a.old)from rfl)]
   by_cases c4:kN a.cell=a.old
   ·simp only[c4,ne_eq,not_true_eq_false,aF]
    rw[←c4]
    exact rest false (by simp[c1,c4])
   ·simp only[c4,ne_eq,not_false_eq_true,aF]
    exact rest true (by simp[c3,c4])
  ·simp only[c3,aF]
   exact rest false (by simp[c1,c3])
end Go.Fl
namespace Go.Fl
open Go
variable{N:Nm}{A B:Ar}{σ:Mem}{K:Value→Mem→Prop}{C:Cf}{who:Int}
def Ac.step(C:Cf)(who:Int)(A:Ar)(a:Ac):Bool×Ac×Ar:=
 if a.pc=0 then
  if jB a.n=false∨C.S≤aJ a.n then(true,({ a with hs:=aJ a.n,hg:=b_ a.n }:Ac).fin 3 0 A.s,A)
  else if dZ (A.w (C.slot (aJ a.n))) (b_ a.n)then(false,{ a with hs:=aJ a.n,hg:=b_ a.n,w:=A.w (C.slot (aJ a.n)),seen:=((A.by who).load (C.slot (aJ a.n))).s,pc:=1 },(A.by who).load (C.slot (aJ a.n)))
  else(true,({ a with hs:=aJ a.n,hg:=b_ a.n,w:=A.w (C.slot (aJ a.n)),seen:=((A.by who).load (C.slot (aJ a.n))).s,pc:=1 }:Ac).fin 3 0 ((A.by who).load (C.slot (aJ a.n))).s,(A.by who).load (C.slot (aJ a.n)))
 else if a.pc=1 then
  if sy (A.w (a8 a.w))≠a.own then(true,({ a with size:=gH (A.w (a8 a.w)),pc:=2 }:Ac).fin 3 0 ((A.by who).load (a8 a.w)).s,(A.by who).load (a8 a.w))
  else if a.ix<0∨gH (A.w (a8 a.w))≤a.ix then(true,({ a with size:=gH (A.w (a8 a.w)),pc:=2 }:Ac).fin 4 0 a.seen,(A.by who).load (a8 a.w))
  else(false,{ a with size:=gH (A.w (a8 a.w)),pc:=2 },(A.by who).load (a8 a.w))
 else if a.pc=2 then
  (false,{ a with cell:=A.w a.at',rd:=((A.by who).load a.at').s,pc:=({ a with cell:=A.w a.at' }:Ac).DP },(A.by who).load a.at')
 else if a.pc=3 then
  (false,{ a with pc:=0 },(A.by who).dI (C.slot a.hs) a.w (aK 1 (a8 a.w) (b9 a.w) (cO a.w+1)))
 else if a.pc=5 then
  if A.w a.at'=a.cell then(true,({ a with pc:=0 }:Ac).fin 0 (kN a.cell) ((A.by who).dI a.at' a.cell (aT a.v false 0)).s,(A.by who).dI a.at' a.cell (aT a.v false 0))
  else(false,{ a with pc:=0 },(A.by who).dI a.at' a.cell (aT a.v false 0))
 else
  if dZ (A.w (C.slot a.hs)) a.hg then
   if a8 (A.w (C.slot a.hs))=a8 a.w then(true,a.fin (if a.kd=3 then 8 else 0) (kN a.cell) a.rd,(A.by who).load (C.slot a.hs))
   else(false,{ a with pc:=0 },(A.by who).load (C.slot a.hs))
  else(true,a.fin 3 0 ((A.by who).load (C.slot a.hs)).s,(A.by who).load (C.slot a.hs))
structure Ac.fit(C:Cf)(A:Ar)(a:Ac):Prop where
 pc:0≤a.pc∧a.pc≤6
 n:0≤a.n∧a.n<18446744073709551616
 hs:0≤a.hs∧a.hs<C.S
 w:0≤a.w∧a.w<18446744073709551616
 cell:0≤a.cell∧a.cell<18446744073709551616
 a1:a.pc=1→a8 a.w<A.n
 a2:a.pc=2∨a.pc=5→0≤a.at'∧a.at'<A.n
 bd:(A.n:Int)≤200000000
theorem W4(hN:N.ok)(hC:C.ok)(hA:aZ N A σ){p:Nat}{a:Ac}(hp:σ.get p=some ⟨a.l,true⟩)(hd:p∉N.l)(hw:∀ i,0≤A.w i∧A.w i<18446744073709551616)(hn:C.len≤A.n)(hf:a.fit C A)(h:a.pc=0)
  (hk:∀ τ,aZ N (a.step C who A).2.2 τ→τ.get p=some ⟨(a.step C who A).2.1.l,true⟩→aQ (p::N.l) σ τ→K (.bool (a.step C who A).1) τ) :
  kR [.pointer (some ⟨p,0,none⟩),N.env C who] K σ:=by
 have hT:=hC.T;have hS:=hC.S;have ma:=hC.C;have hl:=br hC
 have kW:C.chunk C.C=6+C.T+2*C.S+3*C.C:=rfl
 have h1:=hf.n
 obtain⟨b1,b2⟩:=oX h1.1
 rw[hA.obj hp]
 have g2:∀(k:Nat) (x y:Int),aH 2 [.pointer (some ⟨k,0,some 0⟩),.agg #[.int .i64 x,.int .i64 y]] [.int .i64 0,.int .i64 0]=some [.int .i64 x,.int .i64 y]:=fun _ _ _=>rfl
 have s2:∀ x y:Value,sub [x,y] 0 2 true=some (.agg #[x,y]):=fun _ _=>rfl
 unfold Ac.step at hk
 rw[af h]at hk
 simp only[kR,An,aF,bc,bN,Nat.reduceAdd]
 rw[dP hd (show sub _ 8 1 false=some (.int .i64 a.pc)from rfl)]
 simp only[h,aF,Int.reduceEq]
 rw[dP hd (show sub _ 1 1 false=some (.int .u64 a.n)from rfl),xZ h1.1 h1.2]
 simp only[g2,s2,aF,bc]
 have sY:∀ K:Value→Mem→Prop,ax 2 [.pointer (some ⟨p,6,none⟩),.agg #[.int .i64 (aJ a.n),.int .i64 (b_ a.n)]] K (aD N A (σ.set p ⟨a.l,true⟩))=K undef (aD N A (σ.set p ⟨({ a with hs:=aJ a.n,hg:=b_ a.n }:Ac).l,true⟩)):=
  fun K=>Mu (a:=a) { a with hs:=aJ a.n,hg:=b_ a.n } (c:=[.int .i64 (aJ a.n),.int .i64 (b_ a.n)]) (sz:=2) (k:=6) hd rfl rfl (by decide) rfl
 rw[sY]
 cases hO:jB a.n with
 | false=>
  rw[af (.inl hO)]at hk
  simp only[ry,nT,aF,bc,bN]
  rw[oC,lH hd]
  exact behind hN hd hk
 | true=>
  by_cases hs:C.S≤aJ a.n
  ·rw[af (.inr hs)]at hk
   simp only[hs,ry,nT,aF,bc,bN]
   rw[oC,lH hd]
   exact behind hN hd hk
  ·rw[ae (fun q=>by rcases q with q|q;rw[hO]at q;cases q;exact hs q)]at hk
   have pB:0≤C.slot (aJ a.n)∧C.slot (aJ a.n)<A.n:=by unfold Cf.slot;omega
   have yn:=hw (C.slot (aJ a.n))
   simp only[hs,ry,nT,aF,bc,bN]
   rw[dD hC b1.1 (by omega),cg hN pB.1 pB.2,sX { a with hs:=aJ a.n,hg:=b_ a.n,w:=A.w (C.slot (aJ a.n)) } hd rfl rfl (by decide) rfl]
   rw[oC]
   rw[sX { a with hs:=aJ a.n,hg:=b_ a.n,w:=A.w (C.slot (aJ a.n)),seen:=((A.by who).load (C.slot (aJ a.n))).s } hd rfl rfl (by decide) rfl]
   rw[sX { a with hs:=aJ a.n,hg:=b_ a.n,w:=A.w (C.slot (aJ a.n)),seen:=((A.by who).load (C.slot (aJ a.n))).s,pc:=1 } hd rfl rfl (by decide) rfl]
   rw[dP (a:={ a with hs:=aJ a.n,hg:=b_ a.n,w:=A.w (C.slot (aJ a.n)),seen:=((A.by who).load (C.slot (aJ a.n))).s,pc:=1 }) hd (show sub _ 9 1 false=some (.int .u64 (A.w (C.slot (aJ a.n))))from rfl),cX yn.1 yn.2]
   simp only[s2,aF]
   rw[Fh]
   by_cases qA:dZ (A.w (C.slot (aJ a.n))) (b_ a.n)
   ·have e:decide ((cF (A.w (C.slot (aJ a.n)))=1∨cF (A.w (C.slot (aJ a.n)))=2∨cF (A.w (C.slot (aJ a.n)))=4)∧b9 (A.w (C.slot (aJ a.n)))=b_ a.n)=true:=decide_eq_true qA
    rw[af qA]at hk
    simp only[e,jm,fM,aF]
    exact behind hN hd hk
   ·have e:decide ((cF (A.w (C.slot (aJ a.n)))=1∨cF (A.w (C.slot (aJ a.n)))=2∨cF (A.w (C.slot (aJ a.n)))=4)∧b9 (A.w (C.slot (aJ a.n)))=b_ a.n)=false:=decide_eq_false qA
    rw[ae qA]at hk
    simp only[e,aF]
    rw[oC,lH hd]
    exact behind hN hd hk
theorem W3(hN:N.ok)(hC:C.ok)(hA:aZ N A σ){p:Nat}{a:Ac}(hp:σ.get p=some ⟨a.l,true⟩)(hd:p∉N.l)(hw:∀ i,0≤A.w i∧A.w i<18446744073709551616)(hf:a.fit C A)(h:a.pc=1)
  (hk:∀ τ,aZ N (a.step C who A).2.2 τ→τ.get p=some ⟨(a.step C who A).2.1.l,true⟩→aQ (p::N.l) σ τ→K (.bool (a.step C who A).1) τ) :
  kR [.pointer (some ⟨p,0,none⟩),N.env C who] K σ:=by
 have hb:=xd a.w
 have yn:=hw (a8 a.w)
 have h3:=hf.w
 have h4:=hf.a1 h
 rw[hA.obj hp]
 have g5:∀(k:Nat) (x y z w:Int) (b:Bool),aH 5 [.pointer (some ⟨k,0,some 0⟩),.agg #[.int .i64 x,.int .i64 y,.int .i64 z,.int .i64 w,.bool b]] [.int .i64 0,.int .i64 0,.int .i64 0,.int .i64 0,.bool false]=some [.int .i64 x,.int .i64 y,.int .i64 z,.int .i64 w,.bool b]:=fun _ _ _ _ _ _=>rfl
 unfold Ac.step at hk
 rw[ae (by omega),af h]at hk
 simp only[kR,An,aF,bc,bN,Nat.reduceAdd]
 rw[dP hd (show sub _ 8 1 false=some (.int .i64 a.pc)from rfl)]
 simp only[h,aF,Int.reduceEq]
 rw[dP hd (show sub _ 9 1 false=some (.int .u64 a.w)from rfl),cX h3.1 h3.2]
 simp only[pw,aF,bc]
 rw[cg hN hb.1 h4,BU yn.1 yn.2]
 simp only[g5,aF,bc]
 rw[sX { a with size:=gH (A.w (a8 a.w)) } hd rfl rfl (by decide) rfl,sX { a with size:=gH (A.w (a8 a.w)),pc:=2 } hd rfl rfl (by decide) rfl,
  dP (a:={ a with size:=gH (A.w (a8 a.w)),pc:=2 }) hd (show sub _ 5 1 false=some (.bool a.own)from rfl)]
 by_cases e:sy (A.w (a8 a.w))=a.own
 ·rw[ae (fun q=>q e)]at hk
  simp only[e,FC,beq_self_eq_true,aF]
  rw[dP (a:={ a with size:=gH (A.w (a8 a.w)),pc:=2 }) hd (show sub _ 2 1 false=some (.int .i64 a.ix)from rfl)]
  by_cases c1:a.ix<0
  ·rw[af (.inl c1)]at hk
   simp only[c1,ru,nS,aF]
   rw[dP (a:={ a with size:=gH (A.w (a8 a.w)),pc:=2 }) hd (show sub _ 11 1 false=some (.int .i64 a.seen)from rfl),lH hd]
   exact behind hN hd hk
  ·simp only[c1,aF]
   rw[dP (a:={ a with size:=gH (A.w (a8 a.w)),pc:=2 }) hd (show sub _ 2 1 false=some (.int .i64 a.ix)from rfl)]
   by_cases c2:gH (A.w (a8 a.w))≤a.ix
   ·rw[af (.inr c2)]at hk
    simp only[c2,ru,nS,aF]
    rw[dP (a:={ a with size:=gH (A.w (a8 a.w)),pc:=2 }) hd (show sub _ 11 1 false=some (.int .i64 a.seen)from rfl),lH hd]
    exact behind hN hd hk
   ·rw[ae (by rintro(q|q);exact c1 q;exact c2 q)]at hk
    simp only[c2,ru,nS,jm,fM,aF]
    exact behind hN hd hk
 ·rw[af e]at hk
  have e':(sy (A.w (a8 a.w)) == a.own)=false:=by simpa using e
  simp only[e',FC,aF]
  rw[oC,lH hd]
  exact behind hN hd hk
end Go.Fl
namespace Go.Fl
open Go
variable{N:Nm}{A B:Ar}{σ:Mem}{K:Value→Mem→Prop}{C:Cf}{who:Int}
theorem W2(hN:N.ok)(hC:C.ok)(hA:aZ N A σ){p:Nat}{a:Ac}(hp:σ.get p=some ⟨a.l,true⟩)(hd:p∉N.l)(hw:∀ i,0≤A.w i∧A.w i<18446744073709551616)(hf:a.fit C A)(h:a.pc=2)
  (k0:(a.step C who A).2.1.pc≠4→∀ τ,aZ N (a.step C who A).2.2 τ→τ.get p=some ⟨(a.step C who A).2.1.l,true⟩→aQ (p::N.l) σ τ→K (.bool (a.step C who A).1) τ)
  (k1:(a.step C who A).2.1.pc=4→∀ q τ,σ.get q=none→q≠p→aZ N (a.step C who A).2.2 τ→τ.get p=some ⟨({ (a.step C who A).2.1 with jA:=some q }:Ac).l,true⟩→τ.get q=some ⟨(Hl.new a.hs a.w a.size).l,true⟩→aQ (p::N.l) σ τ→K (.bool (a.step C who A).1) τ) :
  kR [.pointer (some ⟨p,0,none⟩),N.env C who] K σ:=by
 have F6:=hf.bd
 have h2:=hf.a2 (.inl h)
 have h3:=hf.w
 have yn:=hw a.at'
 rw[hA.obj hp]
 unfold Ac.step at k0 k1
 rw[ae (by omega),ae (by omega),af h]at k0 k1
 simp only[kR,An,aF,bc,bN,Nat.reduceAdd]
 rw[dP hd (show sub _ 8 1 false=some (.int .i64 a.pc)from rfl)]
 simp only[h,aF,Int.reduceEq]
 rw[OV hd h3 (by omega),cg hN h2.1 h2.2,sX { a with cell:=A.w a.at' } hd rfl rfl (by decide) rfl,oC,LS (a:={ a with cell:=A.w a.at' }) hd h3 yn]
 rw[sX { a with cell:=A.w a.at',rd:=((A.by who).load a.at').s } hd rfl rfl (by decide) rfl]
 rw[sX { a with cell:=A.w a.at',rd:=((A.by who).load a.at').s,pc:=({ a with cell:=A.w a.at' }:Ac).DP } hd rfl rfl (by decide) rfl]
 rw[dP (a:={ a with cell:=A.w a.at',rd:=((A.by who).load a.at').s,pc:=({ a with cell:=A.w a.at' }:Ac).DP }) hd (show sub _ 8 1 false=some (.int .i64 ({ a with cell:=A.w a.at' }:Ac).DP)from rfl)]
 by_cases e:({ a with cell:=A.w a.at' }:Ac).DP=4
 ·replace k1:=k1 e
  simp only[e,aF]
  rw[e]at k1
  rw[dP (a:={ a with cell:=A.w a.at',rd:=((A.by who).load a.at').s,pc:=4 }) hd (show sub _ 6 1 false=some (.int .i64 a.hs)from rfl),dP (a:={ a with cell:=A.w a.at',rd:=((A.by who).load a.at').s,pc:=4 }) hd (show sub _ 9 1 false=some (.int .u64 a.w)from rfl),
   dP (a:={ a with cell:=A.w a.at',rd:=((A.by who).load a.at').s,pc:=4 }) hd (show sub _ 13 1 false=some (.int .i64 a.size)from rfl)]
  refine behind (K:=fun _ σ=>rM [.int .i64 a.hs,.int .u64 a.w,.int .i64 a.size] _ σ) (v:=undef) hN hd fun υ u1 u2 u3=>?_
  refine tF fun id ω dQ gid x=>?_
  have E2:=u1.ext x
  have I0:=x _ _ u2
  have ip:id≠p:=by rintro rfl;rw[u2]at dQ;cases dQ
  have B9:=u1.new dQ
  have ids:σ.get id=none:=by
   cases e:σ.get id with
   | none=>rfl
   | some b=>rw[u3 id b e (by simp only[List.mem_cons,not_or];exact⟨ip,B9⟩)]at dQ;cases dQ
  rw[E2.obj I0,sX { a with cell:=A.w a.at',rd:=((A.by who).load a.at').s,pc:=4,jA:=some id } hd rfl rfl (by decide) rfl]
  simp only[jm,fM,aF]
  refine behind hN hd fun ρ r1 r2 r3=>k1 id ρ ids ip r1 r2 ?_ ((u3.trans x.aL).trans r3)
  exact r3 id _ gid (by simp only[List.mem_cons,not_or];exact⟨ip,B9⟩)
 ·replace k0:=k0 e
  simp only[e,jm,fM,aF]
  exact behind hN hd k0
theorem W1(hN:N.ok)(hC:C.ok)(hA:aZ N A σ){p:Nat}{a:Ac}(hp:σ.get p=some ⟨a.l,true⟩)(hd:p∉N.l)(hn:C.len≤A.n)(hf:a.fit C A)(h:a.pc=3)
  (hk:∀ τ,aZ N (a.step C who A).2.2 τ→τ.get p=some ⟨(a.step C who A).2.1.l,true⟩→aQ (p::N.l) σ τ→K (.bool (a.step C who A).1) τ) :
  kR [.pointer (some ⟨p,0,none⟩),N.env C who] K σ:=by
 have hT:=hC.T;have hS:=hC.S;have ma:=hC.C;have hl:=br hC
 have kW:C.chunk C.C=6+C.T+2*C.S+3*C.C:=rfl
 have h3:=hf.w
 have h2:=hf.hs
 have hV:=A9 a.w
 have pB:0≤C.slot a.hs∧C.slot a.hs<A.n:=by unfold Cf.slot;omega
 have g4:∀(k:Nat) (x y z w x' y' z' w':Int),aH 4 [.pointer (some ⟨k,0,some 0⟩),.agg #[.int .i64 x,.int .i64 y,.int .i64 z,.int .i64 w]] [.int .i64 x',.int .i64 y',.int .i64 z',.int .i64 w']=some [.int .i64 x,.int .i64 y,.int .i64 z,.int .i64 w]:=fun _ _ _ _ _ _ _ _ _=>rfl
 have g0:∀(k:Nat) (v x' y' z' w':Int),aH 1 [.pointer (some ⟨k,0,some 0⟩),.int .i64 v] [.int .i64 x',.int .i64 y',.int .i64 z',.int .i64 w']=some [.int .i64 v,.int .i64 y',.int .i64 z',.int .i64 w']:=fun _ _ _ _ _ _=>rfl
 have g3:∀(k:Nat) (v x' y' z' w':Int),aH 1 [.pointer (some ⟨k,3,some 0⟩),.int .i64 v] [.int .i64 x',.int .i64 y',.int .i64 z',.int .i64 w']=some [.int .i64 x',.int .i64 y',.int .i64 z',.int .i64 v]:=fun _ _ _ _ _ _=>rfl
 rw[hA.obj hp]
 unfold Ac.step at hk
 rw[ae (by omega),ae (by omega),ae (by omega),af h]at hk
 simp only[kR,An,aF,bc,bN,Nat.reduceAdd]
 rw[dP hd (show sub _ 8 1 false=some (.int .i64 a.pc)from rfl)]
 simp only[h,aF,Int.reduceEq]
 rw[dP hd (show sub _ 9 1 false=some (.int .u64 a.w)from rfl),cX h3.1 h3.2]
 simp only[g4,g0,g3,aF,bc]
 rw[IntWalk.i64_in (cO a.w+1) (by omega)]
 rw[dP hd (show sub _ 6 1 false=some (.int .i64 a.hs)from rfl),dD hC h2.1 (by omega),dP hd (show sub _ 9 1 false=some (.int .u64 a.w)from rfl)]
 simp only[uk,aF]
 rw[jf,jE hN pB.1 pB.2,sX { a with pc:=0 } hd rfl rfl (by decide) rfl]
 simp only[jm,fM,aF]
 exact behind hN hd hk
theorem W0(hN:N.ok)(hC:C.ok)(hA:aZ N A σ){p q:Nat}{a:Ac}{t:Hl}(hp:σ.get p=some ⟨a.l,true⟩)(hd:p∉N.l)(hq:σ.get q=some ⟨[]++t.l++[],true⟩)(lE:q∉N.l)(l9:q≠p)(hw:∀ i,0≤A.w i∧A.w i<18446744073709551616)(hn:C.len≤A.n)
  (h:a.pc=4) (ha:a.jA=some q) (hf:t.fit C)
  (k0:(t.step C who A).1=false→∀ τ,aZ N (t.step C who A).2.2 τ→τ.get p=some ⟨a.l,true⟩→τ.get q=some ⟨[]++(t.step C who A).2.1.l++[],true⟩→aQ (q::p::N.l) σ τ→K (.bool false) τ)
  (k2:(t.step C who A).1=true→∀ τ,aZ N (t.step C who A).2.2 τ→τ.get p=some ⟨({ a with pc:=0 }:Ac).l,true⟩→aQ (q::p::N.l) σ τ→K (.bool false) τ) :
  kR [.pointer (some ⟨p,0,none⟩),N.env C who] K σ:=by
 have I9:∀ i∈p::N.l,i∈q::p::N.l:=fun i hi=>List.mem_cons_of_mem _ hi
 have SX:∀ i∈q::N.l,i∈q::p::N.l:=fun i hi=>by rcases List.mem_cons.1 hi with rfl|hi<;>simp[*]
 rw[hA.obj hp]
 simp only[kR,An,aF,bc,bN,Nat.reduceAdd]
 rw[dP hd (show sub _ 8 1 false=some (.int .i64 a.pc)from rfl)]
 simp only[h,aF,Int.reduceEq]
 rw[dP hd (show sub _ 14 1 false=some (Bu a.jA)from rfl),ha,rP,←hA.obj hp]
 refine oD hN hC hA (t:=t) (pre:=[]) (post:=[]) hq lE hw hn hf fun τ dL yo hK=>?_
 have bG:τ.get p=some ⟨a.l,true⟩:=hK.get hp (by simp only[List.mem_cons,not_or];exact⟨fun e=>l9 e.symm,hd⟩)
 have m9:=hK.mono SX
 generalize t.step C who A=r at *
 obtain⟨d,t',A'⟩:=r
 dsimp only at *
 cases d with
 | false=>simp only[jm,fM,aF];exact k0 rfl τ dL bG yo m9
 | true=>
  simp only[aF]
  rw[dL.obj bG,sX { a with pc:=0 } hd rfl rfl (by decide) rfl]
  simp only[jm,fM,aF]
  exact behind hN hd fun υ u1 u2 u3=>k2 rfl υ u1 u2 (m9.trans (u3.mono I9))
theorem WZ(hN:N.ok)(hC:C.ok)(hA:aZ N A σ){p:Nat}{a:Ac}(hp:σ.get p=some ⟨a.l,true⟩)(hd:p∉N.l)(hf:a.fit C A)(h:a.pc=5)
  (hk:∀ τ,aZ N (a.step C who A).2.2 τ→τ.get p=some ⟨(a.step C who A).2.1.l,true⟩→aQ (p::N.l) σ τ→K (.bool (a.step C who A).1) τ) :
  kR [.pointer (some ⟨p,0,none⟩),N.env C who] K σ:=by
 have F6:=hf.bd
 have h2:=hf.a2 (.inr h)
 have h3:=hf.w
 have h4:=hf.cell
 have b3:∀(x:Int) (K:Value→Prop),xF (aM [(0,1),(1,1),(2,1)] [.int .i64 0,.bool false,.int .i64 0] [0]) [.int .i64 x] K=K (.agg #[.int .i64 x,.bool false,.int .i64 0]):=fun _ K=>nr rfl
 rw[hA.obj hp]
 unfold Ac.step at hk
 rw[ae (by omega),ae (by omega),ae (by omega),ae (by omega),af h]at hk
 simp only[kR,An,aF,bc,bN,Nat.reduceAdd]
 rw[dP hd (show sub _ 8 1 false=some (.int .i64 a.pc)from rfl)]
 simp only[h,aF,Int.reduceEq]
 rw[sX { a with pc:=0 } hd rfl rfl (by decide) rfl,OV (a:={ a with pc:=0 }) hd h3 (by show 0≤a.at'∧a.at'<_;omega)]
 rw[dP (a:={ a with pc:=0 }) hd (show sub _ 10 1 false=some (.int .u64 a.cell)from rfl),dP (a:={ a with pc:=0 }) hd (show sub _ 3 1 false=some (.int .i64 a.v)from rfl),b3,o8]
 rw[show({ a with pc:=0 }:Ac).at'=a.at' from rfl,jE hN h2.1 h2.2]
 by_cases e:A.w a.at'=a.cell
 ·rw[af e]at hk
  simp only[e,aF]
  rw[dP (a:={ a with pc:=0 }) hd (show sub _ 10 1 false=some (.int .u64 a.cell)from rfl),ln h4.1 h4.2]
  simp only[pw,aF,bc]
  rw[oC,lH hd]
  exact behind hN hd hk
 ·rw[ae e]at hk
  simp only[e,jm,fM,aF]
  exact behind hN hd hk
theorem WY(hN:N.ok)(hC:C.ok)(hA:aZ N A σ){p:Nat}{a:Ac}(hp:σ.get p=some ⟨a.l,true⟩)(hd:p∉N.l)(hw:∀ i,0≤A.w i∧A.w i<18446744073709551616)(hn:C.len≤A.n)(hf:a.fit C A)(h:a.pc=6)
  (hk:∀ τ,aZ N (a.step C who A).2.2 τ→τ.get p=some ⟨(a.step C who A).2.1.l,true⟩→aQ (p::N.l) σ τ→K (.bool (a.step C who A).1) τ) :
  kR [.pointer (some ⟨p,0,none⟩),N.env C who] K σ:=by
 have hT:=hC.T;have hS:=hC.S;have ma:=hC.C;have hl:=br hC
 have kW:C.chunk C.C=6+C.T+2*C.S+3*C.C:=rfl
 have h2:=hf.hs
 have h3:=hf.w
 have h4:=hf.cell
 have pB:0≤C.slot a.hs∧C.slot a.hs<A.n:=by unfold Cf.slot;omega
 have yn:=hw (C.slot a.hs)
 have g4:∀(k:Nat) (x y z w x' y' z' w':Int),aH 4 [.pointer (some ⟨k,0,some 0⟩),.agg #[.int .i64 x,.int .i64 y,.int .i64 z,.int .i64 w]] [.int .i64 x',.int .i64 y',.int .i64 z',.int .i64 w']=some [.int .i64 x,.int .i64 y,.int .i64 z,.int .i64 w]:=fun _ _ _ _ _ _ _ _ _=>rfl
 rw[hA.obj hp]
 unfold Ac.step at hk
 rw[ae (by omega),ae (by omega),ae (by omega),ae (by omega),ae (by omega)]at hk
 simp only[kR,An,aF,bc,bN,Nat.reduceAdd]
 rw[dP hd (show sub _ 8 1 false=some (.int .i64 a.pc)from rfl)]
 simp only[h,GQ,QA,aF,bc,bN,Nat.reduceAdd,Int.reduceEq]
 rw[dP hd (show sub _ 6 1 false=some (.int .i64 a.hs)from rfl),dD hC h2.1 (by omega),cg hN pB.1 pB.2,cX yn.1 yn.2]
 simp only[g4,aF,bc]
 rw[dP hd (show sub _ 10 1 false=some (.int .u64 a.cell)from rfl),ln h4.1 h4.2]
 simp only[pw,uk,aF,bc]
 rw[dP hd (show sub _ 6 2 true=some (.agg #[.int .i64 a.hs,.int .i64 a.hg])from rfl),Fh]
 by_cases qA:dZ (A.w (C.slot a.hs)) a.hg
 ·have e:decide ((cF (A.w (C.slot a.hs))=1∨cF (A.w (C.slot a.hs))=2∨cF (A.w (C.slot a.hs))=4)∧b9 (A.w (C.slot a.hs))=a.hg)=true:=decide_eq_true qA
  rw[af qA]at hk
  simp only[e,aF]
  rw[dP hd (show sub _ 9 1 false=some (.int .u64 a.w)from rfl),cX h3.1 h3.2]
  simp only[pw,aF,bc]
  by_cases c1:a8 (A.w (C.slot a.hs))=a8 a.w
  ·rw[af c1]at hk
   simp only[c1,aF]
   rw[dP hd (show sub _ 0 1 false=some (.int .i64 a.kd)from rfl)]
   by_cases c2:a.kd=3
   ·rw[af c2]at hk
    simp only[c2,aF]
    rw[dP hd (show sub _ 12 1 false=some (.int .i64 a.rd)from rfl),lH hd]
    exact behind hN hd hk
   ·rw[ae c2]at hk
    simp only[c2,aF]
    rw[dP hd (show sub _ 12 1 false=some (.int .i64 a.rd)from rfl),lH hd]
    exact behind hN hd hk
  ·rw[ae c1]at hk
   simp only[c1,aF]
   rw[sX { a with pc:=0 } hd rfl rfl (by decide) rfl]
   exact behind hN hd hk
 ·have e:decide ((cF (A.w (C.slot a.hs))=1∨cF (A.w (C.slot a.hs))=2∨cF (A.w (C.slot a.hs))=4)∧b9 (A.w (C.slot a.hs))=a.hg)=false:=decide_eq_false qA
  rw[ae qA]at hk
  simp only[e,aF]
  rw[oC,lH hd]
  exact behind hN hd hk
end Go.Fl
namespace Go.Fl
open Go
variable{N:Nm}{A B:Ar}{σ:Mem}{K:Value→Mem→Prop}{C:Cf}{who:Int}
structure Ak where
 a:Ac
 h:Hl
def Ak.new(kd n ix v old:Int)(own:Bool):Ak:=⟨Ac.new kd n ix v old own,Hl.new 0 0 0⟩
def Ak.step(C:Cf)(who:Int)(A:Ar)(m:Ak):Bool×Ak×Ar:=
 if m.a.pc=4 then
  if(m.h.step C who A).1=true then(false,{ m with a:={ m.a with pc:=0 } },(m.h.step C who A).2.2)else(false,{ m with h:=(m.h.step C who A).2.1 },(m.h.step C who A).2.2)
 else((m.a.step C who A).1,⟨(m.a.step C who A).2.1,if m.a.pc=2 then Hl.new m.a.hs m.a.w m.a.size else m.h⟩,(m.a.step C who A).2.2)
structure Ak.fit(C:Cf)(A:Ar)(m:Ak):Prop where
 a:m.a.fit C A
 h:m.a.pc=4→m.h.fit C
def Ac.wh(a:Ac)(x:Option Nat):Ac:={ a with jA:=x }
theorem Ac.yY{a:Ac}{x:Option Nat}:(a.wh x).step C who A=((a.step C who A).1,(a.step C who A).2.1.wh x,(a.step C who A).2.2):=by
 obtain⟨kd,n,ix,v,old,own,hs,hg,pc,w,cell,seen,rd,size,jA,oE,oH,oV,oS⟩:=a
 unfold Ac.step Ac.wh Ac.at' Ac.fin Ac.DP
 dsimp only
 repeat' split
 all_goals rfl
theorem Ac.KE{a:Ac}(h2:a.pc≠2)(h4:a.pc≠4):(a.step C who A).2.1.pc≠4:=by
 unfold Ac.step Ac.fin
 repeat' split
 all_goals (dsimp only;omega)
structure tJ(N:Nm)(p:Nat)(O:List Nat)(m:Ak)(τ:Mem):Prop where
 obj:∃ x,τ.get p=some ⟨(m.a.wh x).l,true⟩∧(m.a.pc=4→∃ q,x=some q∧q∈O∧q≠p∧τ.get q=some ⟨[]++m.h.l++[],true⟩)
 own:∀ i∈O,i∉N.l
 p:p∈O
theorem tJ.ext{p:Nat}{O:List Nat}{m:Ak}{τ:Mem}(h:tJ N p O m σ)(x:Ext σ τ):tJ N p O m τ:=by
 obtain⟨⟨a,h1,h2⟩,h4,h5⟩:=h
 refine⟨⟨a,x _ _ h1,fun e=>?_⟩,h4,h5⟩
 obtain⟨q,q1,q2,q3,q4⟩:=h2 e;exact⟨q,q1,q2,q3,x _ _ q4⟩
theorem tJ.aL{p:Nat}{O L:List Nat}{m:Ak}{τ:Mem}(h:tJ N p O m σ)(x:aQ L σ τ)(hL:∀ i∈O,i∉L):tJ N p O m τ:=by
 obtain⟨⟨a,h1,h2⟩,h4,h5⟩:=h
 refine⟨⟨a,x.get h1 (hL p h5),fun e=>?_⟩,h4,h5⟩
 obtain⟨q,q1,q2,q3,q4⟩:=h2 e;exact⟨q,q1,q2,q3,x.get q4 (hL q q2)⟩
theorem yc(hN:N.ok)(hC:C.ok)(hA:aZ N A σ){p:Nat}{O:List Nat}{m:Ak}(hO:tJ N p O m σ)(hw:∀ i,0≤A.w i∧A.w i<18446744073709551616)(hn:C.len≤A.n)(hf:m.fit C A)
  (hk:∀ O' τ,(∀ i∈O',i∈O∨σ.get i=none)→aZ N (m.step C who A).2.2 τ→tJ N p O' (m.step C who A).2.1 τ→aQ (O++N.l) σ τ→K (.bool (m.step C who A).1) τ):kR [.pointer (some ⟨p,0,none⟩),N.env C who] K σ:=by
 obtain⟨⟨x,hp,h3⟩,own,pO⟩:=hO
 have hd:=own p pO
 have k1:∀{τ:Mem},aQ (p::N.l) σ τ→aQ (O++N.l) σ τ:=fun k=>k.mono fun i hi=>by
  rcases List.mem_cons.1 hi with rfl|hi
  ·exact List.mem_append_left _ pO
  ·exact List.mem_append_right _ hi
 have same:∀ i∈O,i∈O∨σ.get i=none:=fun i hi=>.inl hi
 have cons:∀{q:Nat},σ.get q=none→∀ i∈q::O,i∈O∨σ.get i=none:=fun h i hi=>by rcases List.mem_cons.1 hi with rfl|hi;exact .inr h;exact .inl hi
 have tp:∀{q:Nat},q∉N.l→∀ i∈q::O,i∉N.l:=fun h i hi=>by rcases List.mem_cons.1 hi with rfl|hi;exact h;exact own i hi
 have oT:=hf.a.pc
 have S1:(m.a.wh x).fit C A:=⟨hf.a.pc,hf.a.n,hf.a.hs,hf.a.w,hf.a.cell,hf.a.a1,hf.a.a2,hf.a.bd⟩
 have hpx:(m.a.wh x).pc=m.a.pc:=rfl
 by_cases c4:m.a.pc=4
 ·unfold Ak.step at hk
  rw[af c4]at hk
  obtain⟨q,rfl,qO,qp,gq⟩:=h3 c4
  have k2:∀{τ:Mem},aQ (q::p::N.l) σ τ→aQ (O++N.l) σ τ:=fun k=>k.mono fun i hi=>by
   rcases List.mem_cons.1 hi with rfl|hi
   ·exact List.mem_append_left _ qO
   ·rcases List.mem_cons.1 hi with rfl|hi
    ·exact List.mem_append_left _ pO
    ·exact List.mem_append_right _ hi
  refine W0 hN hC hA (a:=m.a.wh (some q)) (t:=m.h) hp hd gq (own q qO) qp hw hn c4 rfl (hf.h c4) (fun d τ u1 u2 u3 u4=>?_) (fun d τ u1 u2 u3=>?_)
  ·rw[ae (by rw[d];decide)]at hk
   exact hk O τ same u1 ⟨⟨some q,u2,fun _=>⟨q,rfl,qO,qp,u3⟩⟩,own,pO⟩ (k2 u4)
  ·rw[af d]at hk
   exact hk O τ same u1 ⟨⟨some q,u2,fun e=>by dsimp only at e;omega⟩,own,pO⟩ (k2 u3)
 unfold Ak.step at hk
 rw[ae c4]at hk
 by_cases c2:m.a.pc=2
 ·rw[af c2]at hk
  have e:=Ac.yY (C:=C) (who:=who) (A:=A) (a:=m.a) (x:=x)
  refine W2 hN hC hA (a:=m.a.wh x) (who:=who) hp hd hw S1 c2 ?_ ?_
  ·rw[e]
   intro c τ u1 u2 u3
   exact hk O τ same u1 ⟨⟨x,u2,fun q=>absurd q c⟩,own,pO⟩ (k1 u3)
  ·rw[e]
   intro c q τ q1 q2 u1 u2 u3 u4
   exact hk (q::O) τ (cons q1) u1 ⟨⟨some q,u2,fun _=>⟨q,rfl,List.mem_cons_self ..,q2,by rw[List.nil_append,List.append_nil];exact u3⟩⟩,tp (hA.new q1),List.mem_cons_of_mem _ pO⟩ (k1 u4)
 rw[ae c2]at hk
 have np:=Ac.KE (C:=C) (who:=who) (A:=A) c2 c4
 have kV:∀ τ,aZ N ((m.a.wh x).step C who A).2.2 τ→τ.get p=some ⟨((m.a.wh x).step C who A).2.1.l,true⟩→aQ (p::N.l) σ τ→K (.bool ((m.a.wh x).step C who A).1) τ:=by
  rw[Ac.yY]
  intro τ u1 u2 u3
  exact hk O τ same u1 ⟨⟨x,u2,fun q=>absurd q np⟩,own,pO⟩ (k1 u3)
 rcases(show m.a.pc=0∨m.a.pc=1∨m.a.pc=3∨m.a.pc=5∨m.a.pc=6 by omega)with c|c|c|c|c
 ·exact W4 hN hC hA hp hd hw hn S1 c kV
 ·exact W3 hN hC hA hp hd hw S1 c kV
 ·exact W1 hN hC hA hp hd hn S1 c kV
 ·exact WZ hN hC hA hp hd S1 c kV
 ·exact WY hN hC hA hp hd hw hn S1 c kV
theorem tJ.done{p:Nat}{O:List Nat}{m:Ak}(hA:aZ N A σ)(h:tJ N p O m σ)(hk:K (.agg #[.int .i64 m.a.oE,.int .u64 m.a.oH,.int .i64 m.a.oV,.int .i64 m.a.oS]) σ):yH [.pointer (some ⟨p,0,none⟩)] K σ:=by
 obtain⟨⟨x,hp,_⟩,own,pO⟩:=h
 exact Hr hA (a:=m.a.wh x) hp hk
theorem o_{kd n ix v old:Int}{o:Bool}(hA:aZ N A σ)(hk:∀ p τ,σ.get p=none→tJ N p [p] (Ak.new kd n ix v old o) τ→Ext σ τ→K (.pointer (some ⟨p,0,none⟩)) τ):rL [.agg #[.int .i64 kd,.int .u64 n,.int .i64 ix,.int .i64 v,.int .i64 old],.bool o] K σ:=by
 refine JU fun p τ hp gp x=>hk p τ hp ⟨⟨none,gp,(fun e=>by cases e)⟩,fun i hi=>?_,List.mem_singleton.2 rfl⟩ x
 rw[List.mem_singleton.1 hi];exact hA.new hp
theorem WX(hN:N.ok)(hC:C.ok)(hA:aZ N A σ){kd n ix v old:Int}{o:Bool}(I:Int→Ak→Ar→Prop)(D:Ak→Ar→Prop)(h0:I 0 (Ak.new kd n ix v old o) A)
  (hs:∀ k m A,0≤k→k<200→I k m A→m.fit C A∧(∀ i,0≤A.w i∧A.w i<18446744073709551616)∧C.len≤A.n∧if(m.step C who A).1=true then D (m.step C who A).2.1 (m.step C who A).2.2 else I (k+1) (m.step C who A).2.1 (m.step C who A).2.2)
  (he:∀ m A,I 200 m A→D m A) (hk:∀ m A' τ,D m A'→aZ N A' τ→aQ N.l σ τ→K (.agg #[.int .i64 m.a.oE,.int .u64 m.a.oH,.int .i64 m.a.oV,.int .i64 m.a.oS]) τ) :
  CI [N.env C who,.agg #[.int .i64 kd,.int .u64 n,.int .i64 ix,.int .i64 v,.int .i64 old],.bool o] K σ:=by
 have gs:∀ x y z w:Int,aH 4 [.pointer (some ⟨6,0,some 0⟩),.agg #[.int .i64 x,.int .u64 y,.int .i64 z,.int .i64 w]] [.int .i64 0,.int .u64 0,.int .i64 0,.int .i64 0]=some [.int .i64 x,.int .u64 y,.int .i64 z,.int .i64 w]:=fun _ _ _ _=>rfl
 have g:bO 5 [.agg #[.int .i64 kd,.int .u64 n,.int .i64 ix,.int .i64 v,.int .i64 old]] []=some [.int .i64 kd,.int .u64 n,.int .i64 ix,.int .i64 v,.int .i64 old]:=rfl
 have s5:∀ x y z u w:Value,sub [x,y,z,u,w] 0 5 true=some (.agg #[x,y,z,u,w]):=fun _ _ _ _ _=>rfl
 simp only[CI,P8,g,s5,aF,bc,bN]
 refine o_ hA fun p τ0 hp ho x0=>?_
 have fin:∀ m A' τ,D m A'→aZ N A' τ→(∃ O,tJ N p O m τ)→aQ N.l σ τ→uQ K [.pointer (some ⟨p,0,none⟩)] [[.int .i64 0,.int .u64 0,.int .i64 0,.int .i64 0]] τ:=by
  rintro m A' τ hD dL ⟨O,hO⟩ hK
  simp only[uQ,wj,aF,bc]
  refine tJ.done dL hO ?_
  simp only[gs,uk,aF]
  exact hk m A' τ hD dL hK
 refine uC (fun i=>[.pointer (some ⟨p,0,none⟩),.int .i64 i]) [N.el C who,[.int .i64 0,.int .u64 0,.int .i64 0,.int .i64 0]] 200
  (fun i τ=>∃ m A' O,0≤i∧i≤200∧aZ N A' τ∧I i m A'∧tJ N p O m τ∧(∀ j∈O,σ.get j=none)∧aQ N.l σ τ) ?_ ⟨_,A,[p],by omega,by omega,hA.ext x0,h0,ho,fun j hj=>by rw[List.mem_singleton.1 hj];exact hp,x0.aL⟩
 rintro i τ ⟨m,A',O,i0,i1,dL,hI,hO,MT,hK⟩ R hR
 simp only[lu,ki,aF,bc,bN]
 by_cases ci:i<200
 ·simp only[ci,aF]
  obtain⟨hf,hw,hn,kT⟩:=hs i m A' i0 ci hI
  refine yc hN hC dL hO hw hn hf fun O' τ' DT nG Jj m9=>?_
  have E4:aQ N.l σ τ':=by
   intro j b hj yP
   refine m9 j b (hK j b hj yP) fun hm=>?_
   rcases List.mem_append.1 hm with h|h
   ·rw[MT j h]at hj;cases hj
   ·exact yP h
  have Ji:∀ j∈O',σ.get j=none:=by
   intro j hj
   rcases DT j hj with h|h
   ·exact MT j h
   ·cases e:σ.get j with
    | none=>rfl
    | some b=>rw[hK j b e (dL.new h)]at h;cases h
  generalize m.step C who A'=r at *
  obtain⟨d,m',A2⟩:=r
  dsimp only at *
  cases d with
  | true=>
   simp only[aF]at kT ⊢
   exact fin m' A2 τ' kT nG ⟨O',Jj⟩ E4
  | false=>
   simp only[aF]at kT ⊢
   rw[IntWalk.i64_in (i+1) (by omega)]
   exact hR _ ci ⟨m',A2,O',by omega,by omega,nG,kT,Jj,Ji,E4⟩
 ·simp only[ci,aF]
  have:i=200:=by omega
  subst this
  exact fin m A' τ (he _ _ hI) dL ⟨O,hO⟩ hK
end Go.Fl
namespace Go.Fl
open Go
variable{N:Nm}{A B:Ar}{σ:Mem}{K:Value→Mem→Prop}{C:Cf}{who:Int}
def Lk(kd old c:Int):Prop:=kd=1∨kd=3∧kN c≠old
instance {kd old c:Int}:Decidable (Lk kd old c):=by unfold Lk;infer_instance
end Go.Fl
namespace Go.Fl
open Go
variable{N:Nm}{A B:Ar}{σ:Mem}{K:Value→Mem→Prop}{C:Cf}{who:Int}
structure Lg(C:Cf)(n:Int)(own:Bool)(kd ix v old:Int)(m:Ak):Prop where
 f:m.a.kd=kd∧m.a.n=n∧m.a.ix=ix∧m.a.v=v∧m.a.old=old∧m.a.own=own
 hs:0≤m.a.hs∧m.a.hs<C.S
 w:0≤m.a.w∧m.a.w<18446744073709551616
 cell:0≤m.a.cell∧m.a.cell<18446744073709551616
 at':m.a.pc=0∨(m.a.hs=aJ n∧m.a.hg=b_ n∧dZ m.a.w (b_ n)∧cF m.a.w≠4)∧(m.a.pc=1∨m.a.pc=2∨m.a.pc=3∧¬ Lk kd old m.a.cell∧cF m.a.w=2∧lL m.a.cell=true∧kX m.a.cell=cO m.a.w ∨
  m.a.pc=5∧¬ Lk kd old m.a.cell∧(lL m.a.cell=false∨kX m.a.cell<cO m.a.w)∨m.a.pc=6∧Lk kd old m.a.cell)
theorem Lg.new(hC:C.ok){n kd ix v old:Int}{own:Bool}:Lg C n own kd ix v old (Ak.new kd n ix v old own):=by
 have hS:=hC.S
 exact⟨⟨rfl,rfl,rfl,rfl,rfl,rfl⟩,⟨Int.le_refl 0,by show(0:Int)<C.S;omega⟩,⟨Int.le_refl 0,(by decide:(0:Int)<18446744073709551616)⟩,⟨Int.le_refl 0,(by decide:(0:Int)<18446744073709551616)⟩,.inl rfl⟩
structure LgE(C:Cf)(n:Int)(own:Bool)(z ix:Int)(A:Ar)(m:Ak):Prop where
 nb:0≤n∧n<18446744073709551616
 ok:jB n=true
 s:aJ n<C.S
 dr:dZ (A.w (C.slot (aJ n))) (b_ n)→cF (A.w (C.slot (aJ n)))≠4
 ix:0≤ix∧ix<z
 hd:m.a.pc=1→sy (A.w (a8 m.a.w))=own∧gH (A.w (a8 m.a.w))=z
 bd:m.a.pc≠0→C.base 0≤a8 m.a.w∧a8 m.a.w+z<C.len
 n:C.len≤A.n
 n2:(A.n:Int)≤200000000
inductive Ku(C:Cf)(who n:Int)(own:Bool)(kd ix v old:Int)(A:Ar)(m:Ak):Bool→Ak→Ar→Prop
 | gF {m':Ak}:m.a.pc=0→dZ (A.w (C.slot (aJ n))) (b_ n)→Lg C n own kd ix v old m'→m'.a.pc=1→m'.a.w=A.w (C.slot (aJ n))→m'.a.seen=A.s+1→Ku C who n own kd ix v old A m false m' ((A.by who).load (C.slot (aJ n)))
 | gone {m':Ak}:m.a.pc=0∨m.a.pc=6→¬ dZ (A.w (C.slot (aJ n))) (b_ n)→m'.a.oE=3∧m'.a.oH=0∧m'.a.oV=0∧m'.a.oS=A.s+1→Ku C who n own kd ix v old A m true m' ((A.by who).load (C.slot (aJ n)))
 | head {m':Ak}:m.a.pc=1→Lg C n own kd ix v old m'→m'.a.pc=2→m'.a.w=m.a.w→Ku C who n own kd ix v old A m false m' ((A.by who).load (a8 m.a.w))
 | load {m':Ak}:m.a.pc=2→Lg C n own kd ix v old m'→m'.a.w=m.a.w→m'.a.cell=A.w (a8 m.a.w+1+ix)→m'.a.rd=A.s+1→(m'.a.pc=6∧Lk kd old m'.a.cell∨¬ Lk kd old m'.a.cell∧(m'.a.pc=5∧(lL m'.a.cell=false∨kX m'.a.cell<cO m.a.w) ∨
   ¬(lL m'.a.cell=false∨kX m'.a.cell<cO m.a.w)∧(m'.a.pc=3∧kX m'.a.cell=cO m.a.w∧cF m.a.w=2∨m'.a.pc=0∧¬(kX m'.a.cell=cO m.a.w∧cF m.a.w=2))))→Ku C who n own kd ix v old A m false m' ((A.by who).load (a8 m.a.w+1+ix))
 | stop {m':Ak}:m.a.pc=3→cF m.a.w=2→Lg C n own kd ix v old m'→m'.a.pc=0→Ku C who n own kd ix v old A m false m' ((A.by who).dI (C.slot (aJ n)) m.a.w (aK 1 (a8 m.a.w) (b9 m.a.w) (cO m.a.w+1)))
 | lay {m':Ak}:m.a.pc=5→¬ Lk kd old m.a.cell→(lL m.a.cell=false∨kX m.a.cell<cO m.a.w)→A.w (a8 m.a.w+1+ix)=m.a.cell→m'.a.oE=0∧m'.a.oH=0∧m'.a.oV=kN m.a.cell∧m'.a.oS=A.s+1→Ku C who n own kd ix v old A m true m' ((A.by who).store (a8 m.a.w+1+ix) (aT v false 0))
 | again {m':Ak}:m.a.pc=5→A.w (a8 m.a.w+1+ix)≠m.a.cell→Lg C n own kd ix v old m'→m'.a.pc=0→Ku C who n own kd ix v old A m false m' ((A.by who).load (a8 m.a.w+1+ix))
 | look {m':Ak}:m.a.pc=6→Lk kd old m.a.cell→dZ (A.w (C.slot (aJ n))) (b_ n)→a8 (A.w (C.slot (aJ n)))=a8 m.a.w→m'.a.oE=(if kd=3 then 8 else 0)∧m'.a.oH=0∧m'.a.oV=kN m.a.cell∧m'.a.oS=m.a.rd→Ku C who n own kd ix v old A m true m' ((A.by who).load (C.slot (aJ n)))
 | Jz {m':Ak}:m.a.pc=6→dZ (A.w (C.slot (aJ n))) (b_ n)→a8 (A.w (C.slot (aJ n)))≠a8 m.a.w→Lg C n own kd ix v old m'→m'.a.pc=0→Ku C who n own kd ix v old A m false m' ((A.by who).load (C.slot (aJ n)))
theorem Lg.step(hC:C.ok){bb n z kd ix v old:Int}{own:Bool}{m:Ak}(h:Lg C n own kd ix v old m)(ho:LgE C n own z ix A m)(ok:A.ok bb)(hb:bb<4611686018427387904) :
  m.fit C A∧Ku C who n own kd ix v old A m (m.step C who A).1 (m.step C who A).2.1 (m.step C who A).2.2:=by
 have hT:=hC.T
 have hS:=hC.S
 have iD:=hC.C
 have hll:=br hC
 have kL:=oX ho.nb.1
 have hos:=ho.s
 have hi:=ho.ix
 have hn:=ho.n
 have yR:C.base 0=6+C.T+2*C.S+3*C.C:=by unfold Cf.base;omega
 obtain⟨⟨f1,f2,f3,f4,f5,f6⟩,g1,g2,g3,h⟩:=h
 have iM:m.a.at'=a8 m.a.w+1+ix:=by unfold Ac.at';rw[f3]
 have oT:0≤m.a.pc∧m.a.pc≤6∧m.a.pc≠4:=by rcases h with h|⟨_,h|h|⟨h,_⟩|⟨h,_⟩|⟨h,_⟩⟩<;>omega
 have kF:m.fit C A:=by
  refine⟨⟨⟨oT.1,oT.2.1⟩,by rw[f2];exact ho.nb,g1,g2,g3,fun e=>?_,fun e=>?_,ho.n2⟩,fun e=>absurd e oT.2.2⟩
  ·have:=ho.bd (by omega);omega
  ·have:=ho.bd (by omega);rw[iM];omega
 refine⟨kF,?_⟩
 have zo:=ok.s1 (by omega)
 have ls:∀ x,((A.by who).load x).s=A.s+1:=fun x=>(cW (who:=who) (A:=A) (a:=x) ok (by omega)).s
 have e0:m.step C who A=((m.a.step C who A).1,⟨(m.a.step C who A).2.1,if m.a.pc=2 then Hl.new m.a.hs m.a.w m.a.size else m.h⟩,(m.a.step C who A).2.2):=by
  unfold Ak.step;rw[ae oT.2.2]
 rw[e0]
 rcases h with hp|⟨⟨q1,q2,q3,q4⟩,h⟩
 ·by_cases hl:dZ (A.w (C.slot (aJ n))) (b_ n)
  ·have e:m.a.step C who A=(false,{ m.a with hs:=aJ m.a.n,hg:=b_ m.a.n,w:=A.w (C.slot (aJ m.a.n)),seen:=((A.by who).load (C.slot (aJ m.a.n))).s,pc:=1 },(A.by who).load (C.slot (aJ m.a.n))):=by
    unfold Ac.step;rw[af hp,ae (by rw[f2];rintro(q|q);rw[ho.ok]at q;cases q;omega),af (by rw[f2];exact hl)]
   rw[e,f2]
   exact .gF hp hl ⟨⟨f1,by first|rfl|exact f2,f3,f4,f5,f6⟩,⟨kL.1.1,hos⟩,ok.w (C.slot (aJ n)),g3,.inr ⟨⟨rfl,rfl,hl,ho.dr hl⟩,.inl rfl⟩⟩ rfl rfl (ls (C.slot (aJ n)))
  ·have e:m.a.step C who A=(true,({ m.a with hs:=aJ m.a.n,hg:=b_ m.a.n,w:=A.w (C.slot (aJ m.a.n)),seen:=((A.by who).load (C.slot (aJ m.a.n))).s,pc:=1 }:Ac).fin 3 0 ((A.by who).load (C.slot (aJ m.a.n))).s,(A.by who).load (C.slot (aJ m.a.n))):=by
    unfold Ac.step;rw[af hp,ae (by rw[f2];rintro(q|q);rw[ho.ok]at q;cases q;omega),ae (by rw[f2];exact hl)]
   rw[e,f2]
   exact .gone (.inl hp) hl ⟨rfl,rfl,rfl,ls (C.slot (aJ n))⟩
 rcases h with hp|h
 ·obtain⟨h1,h2⟩:=ho.hd hp
  have aaf:¬ sy (A.w (a8 m.a.w))≠m.a.own:=by rw[f6,h1];simp
  have c:¬(m.a.ix<0∨gH (A.w (a8 m.a.w))≤m.a.ix):=by rw[h2,f3];omega
  have e:m.a.step C who A=(false,{ m.a with size:=gH (A.w (a8 m.a.w)),pc:=2 },(A.by who).load (a8 m.a.w)):=by
   unfold Ac.step;rw[ae (by omega),af hp,ae aaf,ae c]
  rw[e]
  exact .head hp ⟨⟨f1,f2,f3,f4,f5,f6⟩,g1,g2,g3,.inr ⟨⟨q1,q2,q3,q4⟩,.inr (.inl rfl)⟩⟩ rfl rfl
 rcases h with hp|h
 ·have e:m.a.step C who A=(false,{ m.a with cell:=A.w m.a.at',rd:=((A.by who).load m.a.at').s,pc:=({ m.a with cell:=A.w m.a.at' }:Ac).DP },(A.by who).load m.a.at'):=by
   unfold Ac.step;rw[ae (by omega),ae (by omega),af hp]
  have nx:∀ c,({ m.a with cell:=c }:Ac).DP=if Lk kd old c then 6 else if lL c=false∨kX c<cO m.a.w then 5 else if kX c=cO m.a.w∧cF m.a.w=2 then 3 else 0:=by
   intro c
   unfold Ac.DP Lk
   dsimp only
   rw[ae q4,f1,f5]
  rw[e,nx,iM]
  generalize zp:A.w (a8 m.a.w+1+ix)=c
  have tz:0≤c∧c<18446744073709551616:=by rw[←zp];exact ok.w _
  by_cases c1:Lk kd old c
  ·rw[af c1]
   exact .load hp ⟨⟨f1,f2,f3,f4,f5,f6⟩,g1,g2,tz,.inr ⟨⟨q1,q2,q3,q4⟩,.inr (.inr (.inr (.inr ⟨rfl,c1⟩)))⟩⟩ rfl zp.symm (ls (a8 m.a.w+1+ix)) (.inl ⟨rfl,c1⟩)
  rw[ae c1]
  by_cases c2:lL c=false∨kX c<cO m.a.w
  ·rw[af c2]
   exact .load hp ⟨⟨f1,f2,f3,f4,f5,f6⟩,g1,g2,tz,.inr ⟨⟨q1,q2,q3,q4⟩,.inr (.inr (.inr (.inl ⟨rfl,c1,c2⟩)))⟩⟩ rfl zp.symm (ls (a8 m.a.w+1+ix)) (.inr ⟨c1,.inl ⟨rfl,c2⟩⟩)
  rw[ae c2]
  by_cases c3:kX c=cO m.a.w∧cF m.a.w=2
  ·rw[af c3]
   exact .load hp ⟨⟨f1,f2,f3,f4,f5,f6⟩,g1,g2,tz,.inr ⟨⟨q1,q2,q3,q4⟩,.inr (.inr (.inl ⟨rfl,c1,c3.2,by cases x:lL c;exact absurd (.inl x) c2;rfl,c3.1⟩))⟩⟩ rfl zp.symm (ls (a8 m.a.w+1+ix)) (.inr ⟨c1,.inr ⟨c2,.inl ⟨rfl,c3⟩⟩⟩)
  ·rw[ae c3]
   exact .load hp ⟨⟨f1,f2,f3,f4,f5,f6⟩,g1,g2,tz,.inl rfl⟩ rfl zp.symm (ls (a8 m.a.w+1+ix)) (.inr ⟨c1,.inr ⟨c2,.inr ⟨rfl,c3⟩⟩⟩)
 rcases h with⟨hp,hk,h2,hF,hN⟩|h
 ·have e:m.a.step C who A=(false,{ m.a with pc:=0 },(A.by who).dI (C.slot m.a.hs) m.a.w (aK 1 (a8 m.a.w) (b9 m.a.w) (cO m.a.w+1))):=by
   unfold Ac.step;rw[ae (by omega),ae (by omega),ae (by omega),af hp]
  rw[e,q1]
  exact .stop hp h2 ⟨⟨f1,f2,f3,f4,f5,f6⟩,g1,g2,g3,.inl rfl⟩ rfl
 rcases h with⟨hp,hk,h2⟩|⟨hp,hk⟩
 ·by_cases c:A.w (a8 m.a.w+1+ix)=m.a.cell
  ·have e:m.a.step C who A=(true,({ m.a with pc:=0 }:Ac).fin 0 (kN m.a.cell) ((A.by who).dI m.a.at' m.a.cell (aT m.a.v false 0)).s,(A.by who).dI m.a.at' m.a.cell (aT m.a.v false 0)):=by
    unfold Ac.step;rw[ae (by omega),ae (by omega),ae (by omega),ae (by omega),af hp,af (by rw[iM];exact c)]
   rw[e,iM,cx (show(A.by who).w (a8 m.a.w+1+ix)=m.a.cell from c),f4]
   exact .lay hp hk h2 c ⟨rfl,rfl,rfl,(dJ (who:=who) (A:=A) (a:=a8 m.a.w+1+ix) (v:=aT v false 0) ok (by omega)).s⟩
  ·have e:m.a.step C who A=(false,{ m.a with pc:=0 },(A.by who).dI m.a.at' m.a.cell (aT m.a.v false 0)):=by
    unfold Ac.step;rw[ae (by omega),ae (by omega),ae (by omega),ae (by omega),af hp,ae (by rw[iM];exact c)]
   rw[e,iM,gB (show(A.by who).w (a8 m.a.w+1+ix)≠m.a.cell from c)]
   exact .again hp c ⟨⟨f1,f2,f3,f4,f5,f6⟩,g1,g2,g3,.inl rfl⟩ rfl
 ·by_cases hl:dZ (A.w (C.slot (aJ n))) (b_ n)
  ·have l1:dZ (A.w (C.slot m.a.hs)) m.a.hg:=by rw[q1,q2];exact hl
   by_cases l2:a8 (A.w (C.slot (aJ n)))=a8 m.a.w
   ·have e:m.a.step C who A=(true,m.a.fin (if m.a.kd=3 then 8 else 0) (kN m.a.cell) m.a.rd,(A.by who).load (C.slot m.a.hs)):=by
     unfold Ac.step;rw[ae (by omega),ae (by omega),ae (by omega),ae (by omega),ae (by omega),af l1,af (by rw[q1];exact l2)]
    rw[e,q1,f1]
    exact .look hp hk hl l2 ⟨rfl,rfl,rfl,rfl⟩
   ·have e:m.a.step C who A=(false,{ m.a with pc:=0 },(A.by who).load (C.slot m.a.hs)):=by
     unfold Ac.step;rw[ae (by omega),ae (by omega),ae (by omega),ae (by omega),ae (by omega),af l1,ae (by rw[q1];exact l2)]
    rw[e,q1]
    exact .Jz hp hl l2 ⟨⟨f1,f2,f3,f4,f5,f6⟩,g1,g2,g3,.inl rfl⟩ rfl
  ·have l1:¬ dZ (A.w (C.slot m.a.hs)) m.a.hg:=by rw[q1,q2];exact hl
   have e:m.a.step C who A=(true,m.a.fin 3 0 ((A.by who).load (C.slot m.a.hs)).s,(A.by who).load (C.slot m.a.hs)):=by
    unfold Ac.step;rw[ae (by omega),ae (by omega),ae (by omega),ae (by omega),ae (by omega),ae l1]
   rw[e,q1]
   exact .gone (.inr hp) hl ⟨rfl,rfl,rfl,ls (C.slot (aJ n))⟩
end Go.Fl
namespace Go.Fl
open Go
variable{C:Cf}{w:Int→Int}{P:MP}{A:Ar}{who:Int}
structure XV(C:Cf)(P:MP)(t:Int)(w:Int→Int):Prop where
 bd:∀ i,0≤w i∧w i<18446744073709551616
 ep:w 0≤t
 ins:0≤P.hp→w 6=P.hp+1
 sl:∀ r,0≤r→r<C.S→P.lv r=true→(cF (w (C.slot r))=1∨cF (w (C.slot r))=2)∧b9 (w (C.slot r))=P.g r∧cO (w (C.slot r))≤t+1∧C.base 0≤a8 (w (C.slot r))∧a8 (w (C.slot r))+P.z r<C.len
 val:∀ r,0≤r→r<C.S→P.lv r=true→∀ k,0≤k→k<P.z r→kN (w (a8 (w (C.slot r))+1+k))=P.L r k
 frz:∀ r,0≤r→r<C.S→P.lv r=true→∀ k,0≤k→k<P.z r→lL (w (a8 (w (C.slot r))+1+k))=true→kX (w (a8 (w (C.slot r))+1+k))<cO (w (C.slot r))∨kX (w (a8 (w (C.slot r))+1+k))=cO (w (C.slot r))∧cF (w (C.slot r))=2
 I':0≤P.hs→((0≤P.hs∧P.hs<C.S)∧P.lv P.hs=true)∧0≤P.hp∧P.hh (w P.ha)∧(C.base 0≤P.ha∧P.ha+P.z P.hs<C.len)∧(a8 (w (C.slot P.hs))=P.ha→P.hu≤cO (w (C.slot P.hs)))∧(a8 (w (C.slot P.hs))≠P.ha→∀ k,0≤k→k<P.z P.hs→Xh P.hu (w (P.ha+1+k)))
section
variable{t q s a v T at' pos cw xs x r k ms cp:Int}{m:Mv}{c:Co}
theorem MW.DU(hC:C.ok)(hS:MS C P)(h:MW C P t ms cp w)(ht:t≤4194303)
  (hm:0≤ms→ms<C.S→P.lv ms=true→((cF (w (C.slot ms))=1∨cF (w (C.slot ms))=2)∧b9 (w (C.slot ms))=P.g ms∧cO (w (C.slot ms))≤t+1∧C.base 0≤a8 (w (C.slot ms))∧a8 (w (C.slot ms))+P.z ms<C.len) ∧
   ∀ k,0≤k→k<P.z ms→kN (w (a8 (w (C.slot ms))+1+k))=P.L ms k∧(lL (w (a8 (w (C.slot ms))+1+k))=true→kX (w (a8 (w (C.slot ms))+1+k))<cO (w (C.slot ms))∨kX (w (a8 (w (C.slot ms))+1+k))=cO (w (C.slot ms))∧cF (w (C.slot ms))=2)):XV C P t w:=by
 have key:∀ r,0≤r→r<C.S→P.lv r=true→r≠ms→∃ v,mC C P t w r (a8 (w (C.slot r))) v∧cF (w (C.slot r))=1∧b9 (w (C.slot r))=P.g r∧cO (w (C.slot r))=v:=fun r r0 r1 l ne=>by
  obtain⟨a,v,o⟩:=h.lv r r0 r1 l ne
  obtain⟨s1,s2,s3,s4⟩:=o.sl hC hS ht h.ck r0 r1 l
  rw[s2];exact⟨v,o,s1,s3,s4⟩
 refine⟨h.bd,h.ep,fun p=>(h.ins p).1,fun r r0 r1 l=>?_,fun r r0 r1 l k k0 k1=>?_,fun r r0 r1 l k k0 k1 f=>?_,fun p=>?_⟩
 ·by_cases e:r=ms
  ·subst e;exact(hm r0 r1 l).1
  ·obtain⟨v,o,s1,s3,s4⟩:=key r r0 r1 l e
   obtain⟨j,x,p⟩:=o.pl
   have b:=(p.bd hC hS (h.ck j p.jb.1 p.jb.2).u r0 r1 l).1
   have:=o.vb
   exact⟨.inl s1,s3,by omega,b.1,b.2⟩
 ·by_cases e:r=ms
  ·subst e;exact((hm r0 r1 l).2 k k0 k1).1
  ·obtain⟨v,o,s1,s3,s4⟩:=key r r0 r1 l e
   exact(o.ce k k0 k1).e
 ·by_cases e:r=ms
  ·subst e;exact((hm r0 r1 l).2 k k0 k1).2 f
  ·obtain⟨v,o,s1,s3,s4⟩:=key r r0 r1 l e
   rw[s4];exact .inl ((o.ce k k0 k1).f f)
 ·obtain⟨sb,hp,⟨j,x,pl⟩,hd,v1,v2⟩:=h.ho p
  exact⟨sb,hp,hd,(pl.sA hC hS (h.ck j pl.jb.1 pl.jb.2).u sb).1,v1,v2⟩
theorem oG.DU(hC:C.ok)(hS:MS C P)(h:oG C P T at' pos cw q m w)(hT:T≤4194000):XV C P T w:=by
 have n1:¬(0:Int) ≤ -1:=by decide
 cases h with
 | a h=>exact h.mw.DU hC hS (by omega) fun p=>absurd p n1
 | b s v k u hc h=>
  have f:=h.mw.DU hC hS (by omega) fun p=>absurd p n1
  obtain⟨a0,a6,a7⟩:=h.Tc hC hS hc
  have bE:0≤ai (P.z s)∧ai (P.z s)≤3:=⟨(hS.lv s hc.sb.1 hc.sb.2 hc.l).1,(bH _).2⟩
  have e0:C.base 0=6+C.T+2*C.S+3*C.C:=by unfold Cf.base;omega
  have zq:=hC.T;have rX:=hC.S;have iD:=hC.C
  have up:∀ i,C.base 0≤i→w i=u i:=fun i hi=>h.off i (by omega) fun j j0 j1=>by have:=cP hC j0 j1;omega
  refine⟨h.bd,by rw[a0];exact f.ep,fun p=>by rw[a6];exact f.ins p,fun r r0 r1 l=>by rw[a7 r r0 r1];exact f.sl r r0 r1 l,fun r r0 r1 l k k0 k1=>?_,fun r r0 r1 l k k0 k1=>?_,fun p=>?_⟩
  ·rw[a7 r r0 r1,up _ (by have:=(f.sl r r0 r1 l).2.2.2.1;omega)];exact f.val r r0 r1 l k k0 k1
  ·rw[a7 r r0 r1,up _ (by have:=(f.sl r r0 r1 l).2.2.2.1;omega)];exact f.frz r r0 r1 l k k0 k1
  ·obtain⟨sb,hp,hd,bd,v1,v2⟩:=f.I' p
   refine⟨sb,hp,by rw[up _ bd.1];exact hd,bd,by rw[a7 _ sb.1.1 sb.1.2];exact v1,?_⟩
   rw[a7 _ sb.1.1 sb.1.2]
   exact fun ne k k0 k1=>by rw[up _ (by omega)];exact v2 ne k k0 k1
 | c s v xs hc h=>
  obtain⟨rr,gp,gx,ga,gs,gg,gS,tC⟩:=h.sA hC hS hc
  have pv:=h.vb
  have e0:C.base 0=6+C.T+2*C.S+3*C.C:=by unfold Cf.base;omega
  have zq:=hC.T;have rX:=hC.S;have iD:=hC.C
  have l1:=(b6 hC (i:=pos+P.z s) h.ev.ab.1 h.ev.ab.2 (by omega) (by omega)).2.2
  have l2:=(b6 hC (i:=xs+P.z s) h.sp.j.1 h.sp.j.2 (by omega) (by omega)).2.2
  have zn:=h.sp.r_
  have hL:=(hS.lv s hc.sb.1 hc.sb.2 hc.l).2.2
  cases h.ph with
  | head p mw ob hq=>exact mw.DU hC hS (by omega) fun p=>absurd p n1
  | gF p hd mw ob hq=>exact mw.DU hC hS (by omega) fun p=>absurd p n1
  | mark p hd mw ob hq=>exact mw.DU hC hS (by omega) fun p=>absurd p n1
  | stop p hi hd mw ob hq=>exact mw.DU hC hS (by omega) fun p=>absurd p n1
  | count p mw sl hq=>exact mw.DU hC hS (by omega) fun p=>absurd p n1
  | kill p o hd mw ob hq=>exact mw.DU hC hS (by omega) fun p=>absurd p n1
  | go hd mw sl cp c=>
   obtain⟨z1,z2,z3,z4⟩:=fc (st:=2) (ad:=C.base at'+pos) (ge:=P.g s) (ve:=v) (by decide) (by omega) gg (by omega)
   refine mw.DU hC hS (by omega) fun _ _ _=>?_
   rw[sl,z1,z2,z3,z4]
   refine⟨⟨.inr rfl,rfl,by omega,by omega,by omega⟩,?_⟩
   have key:∀ i,DL P s (C.base at'+pos) v i w→∀ k,0≤k→k<P.z s→kN (w (C.base at'+pos+1+k))=P.L s k∧(lL (w (C.base at'+pos+1+k))=true→kX (w (C.base at'+pos+1+k))<v∨kX (w (C.base at'+pos+1+k))=v∧(2:Int)=2):=fun i f k k0 k1=>by
    by_cases e:k<i
    ·obtain⟨f1,f2,f3⟩:=f.f k k0 e
     exact⟨f1,fun _=>.inr ⟨f3,rfl⟩⟩
    ·have:=f.c k k0 (by omega) k1
     exact⟨this.e,fun g=>.inl (this.f g)⟩
   cases c with
   | load p hi f hq=>exact key _ f
   | freeze p hi f hq=>exact key _ f
   | copy p hi f e hq=>exact key _ f
   | gE p hi f hq=>exact key _ f
  | shown p hd mw sl cp hq=>
   obtain⟨z1,z2,z3,z4⟩:=fc (st:=1) (ad:=m.a.sa) (ge:=P.g s) (ve:=v+1) (by decide) (by omega) gg (by omega)
   refine mw.DU hC hS (by omega) fun _ _ _=>?_
   rw[sl,z1,z2,z3,z4]
   refine⟨⟨.inl rfl,rfl,by omega,by omega,by omega⟩,fun k k0 k1=>?_⟩
   have c:=qj (v:=P.L s k) (n:=0) (f:=false) (hL k k0 k1) (by decide)
   rw[cp k k0 k1]
   exact⟨c.1,fun g=>by rw[c.2.1]at g;cases g⟩
theorem WI.DU(hC:C.ok)(h:WI C P t q c A)(lJ:t≤4194000):XV C P t A.w:=by
 have n1:¬(0:Int) ≤ -1:=by decide
 obtain⟨hS,nn,q3,wc,nm⟩:=h
 have f:MW C P t (-1) (-1) A.w→XV C P t A.w:=fun mw=>mw.DU hC hS (by omega) fun p=>absurd p n1
 cases wc with
 | p0 hp ha hs mw=>exact f mw
 | p1 hp ha hs mw=>exact f mw
 | p2 hp ha hs mw=>exact f mw
 | p3 hp ha hs mw=>exact f mw
 | p4 hp ha hs mw=>exact f mw
 | p5 hp ha hs mv=>exact mv.DU hC hS lJ
 | p6 hp ha hs mw=>exact f mw
 | p9 hp ha hs mw=>exact f mw
 | m7 hp hs mw=>exact f mw
 | oo hp ha mw=>exact f mw
theorem oG.ins(hC:C.ok)(hS:MS C P)(h:oG C P T at' pos cw q m w)(hp:0≤P.hp):w 6=P.hp+1∧(w 0=P.hp∨w 0=P.hp+1):=by
 cases h with
 | a h=>exact h.mw.ins hp
 | b s v k u hc h=>obtain⟨a0,a6,_⟩:=h.Tc hC hS hc;rw[a0,a6];exact h.mw.ins hp
 | c s v xs hc h=>
  cases h.ph with
  | head p mw=>exact mw.ins hp
  | gF p hd mw=>exact mw.ins hp
  | mark p hd mw=>exact mw.ins hp
  | go hd mw=>exact mw.ins hp
  | stop p hi hd mw=>exact mw.ins hp
  | shown p hd mw=>exact mw.ins hp
  | count p mw=>exact mw.ins hp
  | kill p o hd mw=>exact mw.ins hp
theorem WI.ins(hC:C.ok)(h:WI C P t q c A)(hp:0≤P.hp):A.w 6=P.hp+1∧(A.w 0=P.hp∨A.w 0=P.hp+1):=by
 have hS:=h.st
 cases h.wc with
 | p0 bG ha hs mw=>exact mw.ins hp
 | p1 bG ha hs mw=>exact mw.ins hp
 | p2 bG ha hs mw=>exact mw.ins hp
 | p3 bG ha hs mw=>exact mw.ins hp
 | p4 bG ha hs mw=>exact mw.ins hp
 | p5 bG ha hs mv=>exact mv.ins hC hS hp
 | p6 bG ha hs mw=>exact mw.ins hp
 | p9 bG ha hs mw=>exact mw.ins hp
 | m7 bG hs mw=>exact mw.ins hp
 | oo bG ha mw=>exact mw.ins hp
end
end Go.Fl
namespace Go.Fl
open Go
variable{N:Nm}{A B:Ar}{σ:Mem}{K:Value→Mem→Prop}{C:Cf}{who:Int}
def uy(pc now:Int):List Value:=[.int .i64 pc,.int .u64 now]
def eD(C:Cf)(who:Int)(A:Ar)(x:Int×Int):Bool×(Int×Int)×Ar:=
 if x.1=0 then(false,(1,A.w 0),(A.by who).load 0)
 else if x.1=1 then(false,(2,x.2),(A.by who).store (6+who) (IntKind.u64.wrap (x.2+1)))
 else if A.w 0=x.2 then(true,x,(A.by who).load 0)else(false,(1,A.w 0),(A.by who).load 0)
theorem Sc(hN:N.ok)(hC:C.ok)(hA:aZ N A σ){p:Nat}{x:Int×Int}(hp:σ.get p=some ⟨uy x.1 x.2,true⟩)(hd:p∉N.l)(hn:C.len≤A.n)(hx:0≤x.1∧x.1≤2)(hw:0≤who∧who<C.T)
  (hk:∀ τ,aZ N (eD C who A x).2.2 τ→τ.get p=some ⟨uy (eD C who A x).2.1.1 (eD C who A x).2.1.2,true⟩→aQ (p::N.l) σ τ→K (.bool (eD C who A x).1) τ):yA [.pointer (some ⟨p,0,none⟩),N.env C who] K σ:=by
 obtain⟨pc,now⟩:=x
 dsimp only at *
 have hT:=hC.T;have hS:=hC.S;have ma:=hC.C;have hl:=br hC
 have kW:C.chunk C.C=6+C.T+2*C.S+3*C.C:=rfl
 have b0:(0:Int)<A.n:=by omega
 have l0:∀{A:Ar} {σ:Mem} {K:Value→Mem→Prop} {x y:Int},aj 1 false [.pointer (some ⟨p,0,none⟩)] K (aD N A (σ.set p ⟨uy x y,true⟩))=K (.int .i64 x) (aD N A (σ.set p ⟨uy x y,true⟩)):=fun{A σ K x y}=>rS hd rfl
 have l1:∀{A:Ar} {σ:Mem} {K:Value→Mem→Prop} {x y:Int},aj 1 false [.pointer (some ⟨p,1,none⟩)] K (aD N A (σ.set p ⟨uy x y,true⟩))=K (.int .u64 y) (aD N A (σ.set p ⟨uy x y,true⟩)):=fun{A σ K x y}=>rS hd rfl
 have s0:∀{A:Ar} {σ:Mem} {K:Value→Mem→Prop} {x y v:Int},ax 1 [.pointer (some ⟨p,0,none⟩),.int .i64 v] K (aD N A (σ.set p ⟨uy x y,true⟩))=K undef (aD N A (σ.set p ⟨uy v y,true⟩)):=fun{A σ K x y v}=>rH _ hd rfl rfl (by show _≤2;decide) rfl
 have s1:∀{A:Ar} {σ:Mem} {K:Value→Mem→Prop} {x y v:Int},ax 1 [.pointer (some ⟨p,1,none⟩),.int .u64 v] K (aD N A (σ.set p ⟨uy x y,true⟩))=K undef (aD N A (σ.set p ⟨uy x v,true⟩)):=fun{A σ K x y v}=>rH _ hd rfl rfl (by show _≤2;decide) rfl
 have e8:sub (N.el C who) 8 1 false=some (.int .i64 who):=rfl
 rw[hA.obj hp]
 unfold eD at hk
 by_cases c0:pc=0
 ·subst c0
  simp only[if_true]at hk
  simp only[yA,Gs,l0,mY,cg hN (Int.le_refl 0) b0,s1,s0,qI,nJ,aF,bc,bN,Int.reduceEq]
  exact behind hN hd hk
 by_cases c1:pc=1
 ·subst c1
  simp only[c0,if_true,if_false]at hk
  simp only[yA,Gs,l0,e8,aF,bc,bN,Int.reduceEq]
  rw[JO hw.1 (by omega)]
  simp only[l1,dG hN (show 0≤6+who by omega) (show 6+who<A.n by omega),s0,qI,nJ,aF]
  exact behind hN hd hk
 simp only[c0,c1,if_false]at hk
 by_cases e:A.w 0=now
 ·rw[af e]at hk
  simp only[yA,Gs,l0,c0,c1,mY,cg hN (Int.le_refl 0) b0,l1,e,aF,bc,bN]
  exact behind hN hd hk
 ·rw[ae e]at hk
  simp only[yA,Gs,l0,c0,c1,mY,cg hN (Int.le_refl 0) b0,l1,e,s1,s0,qI,nJ,aF,bc,bN]
  exact behind hN hd hk
theorem LB(hN:N.ok)(hC:C.ok)(hA:aZ N A σ)(hn:C.len≤A.n)(hw:0≤who∧who<C.T)(hk:∀ τ,aZ N ((A.by who).store (6+who) 0) τ→aQ N.l σ τ→K (.bool true) τ):Eb [.agg #[],N.env C who] K σ:=by
 have hT:=hC.T;have hS:=hC.S;have ma:=hC.C;have hl:=br hC
 have kW:C.chunk C.C=6+C.T+2*C.S+3*C.C:=rfl
 have e8:sub (N.el C who) 8 1 false=some (.int .i64 who):=rfl
 have bx0:bO 0 [.agg #[]] []=some []:=nr rfl
 rw[hA.eq]
 simp only[Eb,Ps,bx0,e8,aF,bc,bN]
 rw[JO hw.1 (by omega),dG hN (show 0≤6+who by omega) (show 6+who<A.n by omega)]
 have h1:aQ N.l σ (aD N ((A.by who).store (6+who) 0) σ):=aQ.put
 exact hk _ (mS hN) h1
end Go.Fl
namespace Go.Fl
open Go
variable{C:Cf}{w:Int→Int}{P:MP}{A:Ar}{who:Int}
section
variable{t q s a v T at' pos cw xs x r k ms cp:Int}{m:Mv}{c:Co}
theorem JH{a o v:Int}(h:a≠6):((A.by who).dI a o v).w 6=A.w 6:=by
 rw[V'];split
 ·exact az _ _ (Ne.symm h)
 ·rfl
theorem GH{a v:Int}(h:a≠6):((A.by who).store a v).w 6=A.w 6:=az _ _ (Ne.symm h)
theorem oG.Yc(hC:C.ok)(hS:MS C P)(h:oG C P T at' pos cw q m A.w)(hT:T≤4194000)(hq:1≤q):(m.step C who A).2.2.w 6=A.w 6:=by
 have zq:=hC.T;have rX:=hC.S;have iD:=hC.C
 cases h with
 | a h=>rw[(h.step (who:=who) hC hS hT).1];rfl
 | b s v k u hc h=>
  have bE:0≤ai (P.z s)∧ai (P.z s)≤3:=⟨(hS.lv s hc.sb.1 hc.sb.2 hc.l).1,(bH _).2⟩
  obtain⟨a,ha,e|⟨y,_,e⟩⟩:=(h.step (who:=who) hC hS hc hT hq).1.ex
  ·rw[e];rfl
  ·rw[e];refine GH ?_
   rcases ha with e|⟨j,j0,j1,e⟩
   ·omega
   ·rw[e];unfold Cf.chunk;omega
 | c s v xs hc h=>
  obtain⟨rr,gp,gx,ga,gs,gg,gS,tC⟩:=h.sA hC hS hc
  obtain⟨c1,c2,c3,c4,c5,c6⟩:=hc.oZ
  have oW:=h.ib
  have e0:C.base 0=6+C.T+2*C.S+3*C.C:=by unfold Cf.base;omega
  have eo:qz C m.a.addr=at':=by rw[c1];exact(b6 hC h.ev.ab.1 h.ev.ab.2 gp.1 (by omega)).1
  have s6:C.slot m.a.hs≠6:=by rw[c4];have:=hc.sb;unfold Cf.slot;omega
  have k6:∀ j,0≤j→C.chunk j+1≠6:=fun j j0=>by unfold Cf.chunk;omega
  have oT:=h.ph.pc
  unfold Mv.step
  by_cases c0:m.a.pc=0
  ·rw[af c0];(repeat' split)<;>rfl
  rw[ae c0,ae oT.2.2]
  by_cases c2:m.a.pc=2
  ·rw[af c2];exact GH (by omega)
  rw[ae c2]
  by_cases c3:m.a.pc=3
  ·rw[af c3];exact JH s6
  rw[ae c3]
  by_cases c4:m.a.pc=4
  ·rw[af c4];rfl
  rw[ae c4]
  by_cases c5:m.a.pc=5
  ·rw[af c5];exact JH (by omega)
  rw[ae c5]
  by_cases c6:m.a.pc=6
  ·rw[af c6];exact GH (by omega)
  rw[ae c6]
  by_cases c7:m.a.pc=7
  ·rw[af c7];(repeat' split)<;>exact JH s6
  rw[ae c7]
  by_cases c8:m.a.pc=8
  ·rw[af c8];exact GH (by omega)
  rw[ae c8]
  by_cases c9:m.a.pc=9
  ·rw[af c9];exact GH (k6 _ h.sp.j.1)
  rw[ae c9]
  by_cases ca:m.a.pc=10
  ·rw[af ca,eo];exact GH (k6 _ h.ev.ab.1)
  ·rw[ae ca];exact GH (by omega)
theorem WI.Yc(hC:C.ok)(h:WI C P t q c A)(lJ:t≤4194000)(r:Int):(c.step C who A r).2.w 6=A.w 6:=by
 have hf:=h.fit hC lJ
 have hq1:=h.q1 hC
 have zq:=hC.T;have rX:=hC.S;have iD:=hC.C
 have k6:∀ j d,0≤j→0≤d→C.chunk j+d≠6:=fun j d j0 d0=>by unfold Cf.chunk;omega
 have Xs:∀ j,0≤j→C.chunk j≠6:=fun j j0=>by unfold Cf.chunk;omega
 have oT:=hf.pc
 have ha:=hf.at'
 unfold Co.step
 by_cases c0:c.r.pc=0
 ·rw[af c0];rfl
 rw[ae c0]
 by_cases c1:c.r.pc=1
 ·rw[af c1];rfl
 rw[ae c1]
 by_cases c2:c.r.pc=2
 ·rw[af c2];(repeat' split)<;>rfl
 rw[ae c2]
 by_cases c3:c.r.pc=3
 ·rw[af c3];exact JH (Xs _ (ha (by omega)).1)
 rw[ae c3]
 by_cases c4:c.r.pc=4
 ·rw[af c4];(repeat' split)<;>rfl
 rw[ae c4]
 by_cases c5:c.r.pc=5
 ·rw[af c5]
  obtain⟨hS,nn,q3,wc,nm⟩:=h
  cases wc with
  | p5 hp ha hs mv h0 px hw hq=>exact mv.Yc hC hS lJ (by omega)
  | p0 bG=>omega
  | p1 bG=>omega
  | p2 bG=>omega
  | p3 bG=>omega
  | p4 bG=>omega
  | p6 bG=>omega
  | p9 bG=>omega
  | m7 bG=>omega
  | oo bG=>omega
 rw[ae c5]
 by_cases c6:c.r.pc=6
 ·rw[af c6];rfl
 rw[ae c6]
 by_cases c7:c.r.pc=7
 ·rw[af c7];exact GH (k6 _ 2 (ha (by omega)).1 (by decide))
 rw[ae c7]
 by_cases c8:c.r.pc=8
 ·rw[af c8];exact GH (Xs _ (ha (by omega)).1)
 rw[ae c8]
 by_cases c9:c.r.pc=9
 ·rw[af c9];exact GH (Xs _ (ha (by omega)).1)
 rw[ae c9]
 by_cases ca:c.r.pc=10
 ·rw[af ca]
  have:∀ v:fQ,(v.step C who A).2.2.w 6=A.w 6:=fun v=>by
   unfold fQ.step
   split
   ·rfl
   ·split
    ·split<;>rfl
    ·exact JH (by decide)
  split<;>exact this _
 ·rw[ae ca]
  have hs:=hf.s
  have key:∀ v:dR,0≤v.ch→(v.pc=3→C.base v.ch+v.at'≠6)→(v.step C who A).2.2.w 6=A.w 6:=fun v v0 v3=>by
   unfold dR.step
   by_cases d0:v.pc=0
   ·rw[af d0];rfl
   rw[ae d0]
   by_cases d1:v.pc=1
   ·rw[af d1];rfl
   rw[ae d1]
   by_cases d2:v.pc=2
   ·rw[af d2];rfl
   rw[ae d2]
   by_cases d3:v.pc=3
   ·rw[af d3];exact GH (v3 d3)
   rw[ae d3]
   by_cases d4:v.pc=4
   ·rw[af d4];exact GH (k6 _ 1 v0 (by decide))
   ·rw[ae d4];exact GH (Xs _ v0)
  have:((c.s.getD (dR.new c.r.at')).step C who A).2.2.w 6=A.w 6:=by
   cases e:c.s with
   | none=>exact key _ (ha (by omega)).1 fun g=>absurd (show(0:Int)=3 from g) (by decide)
   | some v=>
    obtain⟨_,fv⟩:=hs v e
    refine key v fv.ch.1 fun g=>?_
    have:=a_ hC fv.ch.1 fv.ch.2 (fv.at' g).1
    omega
  split<;>exact this
end
structure Wr where
 ip:Int
 ep:Int
 m:Ak
 st:Int
def Wr.new(n v:Int):Wr:=⟨0,0,Ak.new 2 n 0 v 0 false,0⟩
def Wr.step(C:Cf)(A:Ar)(y:Wr):Bool×Wr×Ar:=
 if y.st=2 then(true,y,(A.by 0).store 6 0)
 else if y.st=0 then
  if y.ip=0 then(false,{ y with ip:=1,ep:=A.w 0 },(A.by 0).load 0)
  else if y.ip=1 then(false,{ y with ip:=2 },(A.by 0).store 6 (IntKind.u64.wrap (y.ep+1)))
  else if A.w 0=y.ep then(false,{ y with st:=1 },(A.by 0).load 0)
  else(false,{ y with ip:=1,ep:=A.w 0 },(A.by 0).load 0)
 else(false,{ y with m:=(y.m.step C 0 A).2.1,st:=if(y.m.step C 0 A).1=true then 2 else 1 },(y.m.step C 0 A).2.2)
structure WS(C:Cf)(P:MP)(t n v l:Int)(w:Int→Int)(y:Wr):Prop where
 nb:0≤n∧n<18446744073709551616
 ok:jB n=true
 s:aJ n<C.S
 lv:P.lv (aJ n)=true
 g:P.g (aJ n)=b_ n
 o:P.o (aJ n)=false
 vb:0≤v∧v≤65535
 at':y.st=0∧P.hp<0∧P.hs<0∧P.L (aJ n) 0=l∧y.m=Ak.new 2 n 0 v 0 false∧(y.ip=0∨(0≤y.ep∧y.ep≤t)∧(y.ip=1∨y.ip=2∧w 6=y.ep+1)) ∨
  y.st=1∧0≤P.hp∧P.L (aJ n) 0=l∧Lg C n false 2 0 v 0 y.m∧(y.m.a.pc=0∧P.hs<0∨y.m.a.pc≠0∧P.hs=aJ n∧P.ha=a8 y.m.a.w∧P.hu=cO y.m.a.w) ∨
  y.st=2∧0≤P.hp∧P.hs<0∧P.L (aJ n) 0=v∧y.m.a.oE=0∧y.m.a.oV=l
theorem WS.co{t t' n v l:Int}{w w':Int→Int}{y:Wr}(h:WS C P t n v l w y)(ht:t≤t')(e:w' 6=w 6):WS C P t' n v l w' y:=by
 refine⟨h.nb,h.ok,h.s,h.lv,h.g,h.o,h.vb,?_⟩
 rcases h.at' with⟨a1,a2,a3,a4,a5,a6⟩|h|h
 ·refine .inl ⟨a1,a2,a3,a4,a5,?_⟩
  rcases a6 with a6|⟨b,a6|⟨b1,b2⟩⟩
  ·exact .inl a6
  ·exact .inr ⟨⟨b.1,by omega⟩,.inl a6⟩
  ·exact .inr ⟨⟨b.1,by omega⟩,.inr ⟨b1,by rw[e];exact b2⟩⟩
 ·exact .inr (.inl h)
 ·exact .inr (.inr h)
end Go.Fl
namespace Go.Fl
open Go
variable{C:Cf}{w:Int→Int}{P P':MP}{A:Ar}
structure zJ(P P':MP)(r:Int):Prop where
 w0:P'.w0=P.w0
 lv:P'.lv=P.lv
 g:P'.g=P.g
 z:P'.z=P.z
 o:P'.o=P.o
 L:∀ s k,s≠r∨k≠0→P'.L s k=P.L s k
theorem zJ.re{r i b u e:Int}:zJ P (P.re i b u e) r:=⟨rfl,rfl,rfl,rfl,rfl,fun _ _ _=>rfl⟩
theorem zJ.trans{r:Int}{P'':MP}(h:zJ P P' r)(k:zJ P' P'' r):zJ P P'' r:=⟨k.w0.trans h.w0,k.lv.trans h.lv,k.g.trans h.g,k.z.trans h.z,k.o.trans h.o,fun s d e=>(k.L s d e).trans (h.L s d e)⟩
def y8(C:Cf)(r:Int)(w:Int→Int):Int:=if cF (w (C.slot r))=2 then 1 else 0
theorem IF{C:Cf}{r:Int}{w:Int→Int}:0≤y8 C r w∧y8 C r w≤1:=by unfold y8;split<;>omega
def zh(C:Cf)(r:Int)(w:Int→Int)(m:Ak):Int:=
 if m.a.pc=0 then 6+5*y8 C r w
 else if m.a.pc=1 then(if m.a.w=w (C.slot r)then 5+5*y8 C r w else 10+5*y8 C r w)
 else if m.a.pc=2 then(if m.a.w=w (C.slot r)then 4+5*y8 C r w else 9+5*y8 C r w)
 else if m.a.pc=3 then(if m.a.w=w (C.slot r)then 8 else 8+5*y8 C r w)
 else(if w (a8 m.a.w+1+0)=m.a.cell then 3 else 8+5*y8 C r w)
def mu(C:Cf)(n:Int)(w:Int→Int)(y:Wr):Int:=
 if y.st=2 then 1
 else if y.st=0 then(if y.ip=0 then 20 else if y.ip=1 then(if w 0=y.ep then 19 else 22)else(if w 0=y.ep then 18 else 21))
 else zh C (aJ n) w y.m
theorem MC{C:Cf}{n:Int}{w:Int→Int}{y:Wr}:1≤mu C n w y∧mu C n w y≤40:=by
 have:=IF (C:=C) (r:=aJ n) (w:=w)
 unfold mu zh
 (repeat' split)<;>omega
def WSR(C:Cf)(P:MP)(t n v l bb:Int)(c:Co)(A:Ar)(y:Wr)(R:Bool×Wr×Ar):Prop:=
 ∃ P' t' q',(t≤t'∧t'≤t+1)∧zJ P P' (aJ n)∧WI C P' t' q' c R.2.2∧R.2.2.ok (bb+1)∧R.2.2.n=A.n ∧
  (R.1=false∧WS C P' t' n v l R.2.2.w R.2.1∧mu C n R.2.2.w R.2.1<mu C n A.w y∨R.1=true∧P'.hp<0∧P'.hs<0∧P'.L (aJ n) 0=v∧R.2.1.m.a.oE=0∧R.2.1.m.a.oV=l)
theorem WI.KJ{t q:Int}{c:Co}{A':Ar}(h:WI C P t q c A)(en:A'.n=A.n)(ew:A'.w=A.w):WI C P t q c A':=⟨h.st,by rw[en];exact h.nn,h.q3,by rw[ew];exact h.wc,h.nm⟩
theorem WS.fit(hC:C.ok){t q n v l bb:Int}{c:Co}{y:Wr}(h:WI C P t q c A)(lJ:t≤4194000)(hs:WS C P t n v l A.w y)(ok:A.ok bb)(hb:bb<4611686018427387904)(h1:y.st=1):LgE C n false (P.z (aJ n)) 0 A y.m:=by
 have f:=h.DU hC lJ
 have kL:=oX hs.nb.1
 obtain⟨q1,q2,q3,q4,q5⟩:=f.sl _ kL.1.1 hs.s hs.lv
 have rr:=h.st.rm kL.1.1 hs.s hs.lv
 have lg:y.m.a.pc=0∧P.hs<0∨y.m.a.pc≠0∧P.hs=aJ n∧P.ha=a8 y.m.a.w∧P.hu=cO y.m.a.w:=by
  rcases hs.at' with⟨a,_⟩|⟨_,_,_,_,a⟩|⟨a,_⟩
  ·omega
  ·exact a
  ·omega
 have I':y.m.a.pc≠0→P.hh (A.w (a8 y.m.a.w))∧C.base 0≤a8 y.m.a.w∧a8 y.m.a.w+P.z (aJ n)<C.len:=fun p=>by
  rcases lg with⟨e,_⟩|⟨_,e1,e2,_⟩
  ·exact absurd e p
  ·obtain⟨sb,_,hd,bd,_⟩:=f.I' (by omega)
   rw[e2]at hd bd
   rw[e1]at bd
   exact⟨hd,bd⟩
 refine⟨hs.nb,hs.ok,hs.s,fun _=>by omega,⟨Int.le_refl 0,by omega⟩,fun p=>?_,fun p=>(I' p).2,h.nn.1,h.nn.2⟩
 rcases lg with⟨e,_⟩|⟨_,e1,e2,_⟩
 ·omega
 ·obtain⟨sb,_,hd,_⟩:=f.I' (by omega)
  rw[e2]at hd
  have hh:=Jd hC h.st sb hd
  rw[e1]at hh
  exact⟨hh.2.2.2.2.trans hs.o,hh.2.1⟩
theorem WS.step(hC:C.ok){t q n v l bb:Int}{c:Co}{y:Wr}(h:WI C P t q c A)(lJ:t≤4194000)(hs:WS C P t n v l A.w y)(ok:A.ok bb)(hb:bb<4611686018427387904):WSR C P t n v l bb c A y (y.step C A):=by
 have f:=h.DU hC lJ
 have kL:=oX hs.nb.1
 obtain⟨q1,q2,q3,q4,q5⟩:=f.sl _ kL.1.1 hs.s hs.lv
 have rr:=h.st.rm kL.1.1 hs.s hs.lv
 have pv:=hs.vb
 have tl:∀ x,((A.by 0).load x).n=A.n∧((A.by 0).load x).ok (bb+1):=fun x=>by
  have a1:=cW (who:=0) (A:=A) (a:=x) ok (by omega)
  exact⟨rfl,a1.ok (by omega) ok ok.w⟩
 have ts:∀ y v,(0≤v∧v<18446744073709551616)→((A.by 0).store y v).n=A.n∧((A.by 0).store y v).ok (bb+1):=fun y v hv=>by
  have a1:=dJ (who:=0) (A:=A) (a:=y) (v:=v) ok (by omega)
  exact⟨a1.n,a1.ok (by omega) ok fun i=>dm (P:=fun x=>0≤x∧x<18446744073709551616) hv (ok.w i)⟩
 have lw:∀ x,((A.by 0).load x).w=A.w:=fun _=>rfl
 have lvs:dZ (A.w (C.slot (aJ n))) (b_ n):=⟨by omega,by rw[q2];exact hs.g⟩
 have ab2:=IF (C:=C) (r:=aJ n) (w:=A.w)
 have e00:=(f.bd 0).1
 have fep:=f.ep
 have mk:∀{P1:MP} {t1:Int} {w1:Int→Int} {y1:Wr},zJ P P1 (aJ n)→(y1.st=0∧P1.hp<0∧P1.hs<0∧P1.L (aJ n) 0=l∧y1.m=Ak.new 2 n 0 v 0 false∧(y1.ip=0∨(0≤y1.ep∧y1.ep≤t1)∧(y1.ip=1∨y1.ip=2∧w1 6=y1.ep+1)) ∨
  y1.st=1∧0≤P1.hp∧P1.L (aJ n) 0=l∧Lg C n false 2 0 v 0 y1.m∧(y1.m.a.pc=0∧P1.hs<0∨y1.m.a.pc≠0∧P1.hs=aJ n∧P1.ha=a8 y1.m.a.w∧P1.hu=cO y1.m.a.w) ∨
  y1.st=2∧0≤P1.hp∧P1.hs<0∧P1.L (aJ n) 0=v∧y1.m.a.oE=0∧y1.m.a.oV=l)→WS C P1 t1 n v l w1 y1:=fun{P1 t1 w1 y1} sm a=>⟨hs.nb,hs.ok,hs.s,by rw[sm.lv];exact hs.lv,by rw[sm.g];exact hs.g,by rw[sm.o];exact hs.o,pv,a⟩
 rcases hs.at' with⟨a1,a2,a3,a4,a5,a6⟩|⟨a1,a2,a3,a4,a5⟩|⟨a1,a2,a3,a4,a5,a6⟩
 ·
  have FP:y.step C A=if y.ip=0 then(false,{ y with ip:=1,ep:=A.w 0 },(A.by 0).load 0)
    else if y.ip=1 then(false,{ y with ip:=2 },(A.by 0).store 6 (IntKind.u64.wrap (y.ep+1)))
    else if A.w 0=y.ep then(false,{ y with st:=1 },(A.by 0).load 0)else(false,{ y with ip:=1,ep:=A.w 0 },(A.by 0).load 0):=by unfold Wr.step;rw[ae (by omega),af a1]
  have IT:mu C n A.w y=(if y.ip=0 then 20 else if y.ip=1 then(if A.w 0=y.ep then 19 else 22)else(if A.w 0=y.ep then 18 else 21)):=by unfold mu;rw[ae (by omega),af a1]
  have D':zJ P P (aJ n):=⟨rfl,rfl,rfl,rfl,rfl,fun _ _ _=>rfl⟩
  have Rp:mu C n A.w { y with ip:=1,ep:=A.w 0 }=19:=by
   unfold mu
   rw[ae (show ¬ y.st=2 by omega),af (show y.st=0 from a1),ae (show ¬(1:Int)=0 by decide),af (show(1:Int)=1 from rfl),af (show A.w 0=A.w 0 from rfl)]
  rcases a6 with i0|⟨eb,i1|⟨i2,e6⟩⟩
  ·rw[FP,af i0]
   refine⟨P,t,q,⟨Int.le_refl _,by omega⟩,D',h.KJ rfl rfl,(tl 0).2,rfl,.inl ⟨rfl,mk D' (.inl ⟨a1,a2,a3,a4,a5,.inr ⟨⟨e00,fep⟩,.inl rfl⟩⟩),?_⟩⟩
   rw[IT,af i0]
   show mu C n A.w { y with ip:=1,ep:=A.w 0 }<20
   rw[Rp];decide
  ·rw[FP,ae (by omega),af i1]
   have wr:IntKind.u64.wrap (y.ep+1)=y.ep+1:=D3 (by omega) (by omega)
   rw[wr]
   have XI:0≤y.ep+1∧y.ep+1<18446744073709551616:=by omega
   refine⟨P,t+1,q,⟨by omega,Int.le_refl _⟩,D',h.om hC (ts 6 _ XI).1 rfl XI a2 a3,(ts 6 _ XI).2,(ts 6 _ XI).1,.inl ⟨rfl,mk D' (.inl ⟨a1,a2,a3,a4,a5,.inr ⟨⟨eb.1,by show y.ep≤t+1;omega⟩,.inr ⟨rfl,(aE _ _ _:aX A.w 6 (y.ep+1) 6=y.ep+1)⟩⟩⟩),?_⟩⟩
   rw[IT,ae (by omega),af i1]
   have e0':((A.by 0).store 6 (y.ep+1)).w 0=A.w 0:=(az _ _ (by decide):aX A.w 6 (y.ep+1) 0=A.w 0)
   show mu C n ((A.by 0).store 6 (y.ep+1)).w { y with ip:=2 }<_
   unfold mu
   rw[ae (show ¬ y.st=2 by omega),af (show y.st=0 from a1),ae (show ¬(2:Int)=0 by decide),ae (show ¬(2:Int)=1 by decide),e0']
   by_cases g:A.w 0=y.ep
   ·rw[af g,af (show A.w 0=y.ep from g)];decide
   ·rw[ae g,ae (show ¬ A.w 0=y.ep from g)];decide
  ·rw[FP,ae (by omega),ae (by omega)]
   by_cases g:A.w 0=y.ep
   ·rw[af g]
    have hw:WI C (P.re (-1) 0 0 y.ep) t q c A:=h.yK hC fun _=>⟨⟨e6,.inl g⟩,.inr g⟩
    refine⟨P.re (-1) 0 0 y.ep,t,q,⟨Int.le_refl _,by omega⟩,zJ.re,hw.KJ rfl rfl,(tl 0).2,rfl,.inl ⟨rfl,mk zJ.re (.inr (.inl ⟨rfl,eb.1,a4,by rw[show({ y with st:=1 }:Wr).m=Ak.new 2 n 0 v 0 false from a5];exact Lg.new hC,.inl ⟨by rw[show({ y with st:=1 }:Wr).m=Ak.new 2 n 0 v 0 false from a5];rfl,by show(-1:Int)<0;decide⟩⟩)),?_⟩⟩
    rw[IT,ae (by omega),ae (by omega),af g]
    show mu C n A.w { y with st:=1 }<18
    unfold mu zh
    rw[ae (show ¬(1:Int)=2 by decide),ae (show ¬(1:Int)=0 by decide),af (show y.m.a.pc=0 by rw[a5];rfl)]
    omega
   ·rw[ae g]
    refine⟨P,t,q,⟨Int.le_refl _,by omega⟩,D',h.KJ rfl rfl,(tl 0).2,rfl,.inl ⟨rfl,mk D' (.inl ⟨a1,a2,a3,a4,a5,.inr ⟨⟨e00,fep⟩,.inl rfl⟩⟩),?_⟩⟩
    rw[IT,ae (by omega),ae (by omega),ae g]
    show mu C n A.w { y with ip:=1,ep:=A.w 0 }<21
    rw[Rp];decide
 ·
  have FP:y.step C A=(false,{ y with m:=(y.m.step C 0 A).2.1,st:=if(y.m.step C 0 A).1=true then 2 else 1 },(y.m.step C 0 A).2.2):=by unfold Wr.step;rw[ae (by omega),ae (by omega)]
  have hE:=hs.fit hC h lJ ok hb a1
  obtain⟨_,hr⟩:=a4.step (who:=0) hC hE ok hb
  have IT:mu C n A.w y=zh C (aJ n) A.w y.m:=by unfold mu;rw[ae (by omega),ae (by omega)]
  have Rp:∀(w1:Int→Int) (m1:Ak),mu C n w1 { y with m:=m1,st:=1 }=zh C (aJ n) w1 m1:=fun w1 m1=>by
   unfold mu;rw[ae (show ¬(1:Int)=2 by decide),ae (show ¬(1:Int)=0 by decide)]
  rw[FP]
  have D':zJ P P (aJ n):=⟨rfl,rfl,rfl,rfl,rfl,fun _ _ _=>rfl⟩
  have nlk:∀ cc,¬ Lk 2 0 cc:=fun cc e=>by unfold Lk at e;omega
  have un:∀{A':Ar} {t1 q1:Int} {P1:MP} {m1:Ak},zJ P P1 (aJ n)→P1.hp=P.hp→P1.L (aJ n) 0=l→WI C P1 t1 q1 c A'→(t≤t1∧t1≤t+1)→A'.ok (bb+1)→A'.n=A.n→A'.w 6=A.w 6→A'.w 0=A.w 0→Lg C n false 2 0 v 0 m1→m1.a.pc=0→zh C (aJ n) A'.w m1<mu C n A.w y→WSR C P t n v l bb c A y (false,{ y with m:=m1,st:=1 },A'):=fun{A' t1 q1 P1 m1} sm ehp eL hw ht lI hn h6 h0 lg pc hm=>by
   have BD:0≤P.hp→A'.w 6=P.hp+1∧(A'.w 0=P.hp∨A'.w 0=P.hp+1):=fun p=>by
    have i1:=h.ins hC p
    rw[h6,h0];exact i1
   have F0:WI C (P1.re (-1) 0 0 P.hp) t1 q1 c A':=hw.yK hC fun p=>⟨BD p,.inl ehp⟩
   exact⟨P1.re (-1) 0 0 P.hp,t1,q1,ht,sm.trans zJ.re,F0,lI,hn,.inl ⟨rfl,mk (sm.trans zJ.re) (.inr (.inl ⟨rfl,a2,eL,lg,.inl ⟨pc,by show(-1:Int)<0;decide⟩⟩)),by rw[Rp];exact hm⟩⟩
  have holds:y.m.a.pc≠0→P.hs=aJ n∧P.ha=a8 y.m.a.w∧P.hu=cO y.m.a.w:=fun p=>by
   rcases a5 with⟨e,_⟩|⟨_,e⟩
   ·exact absurd e p
   ·exact e
  generalize kT:y.m.step C 0 A=R at hr ⊢
  obtain⟨d,m',A'⟩:=R
  dsimp only at hr ⊢
  cases hr with
  | gF hp hl lg pc ew _=>
   rw[ae (by simp)]
   have hw:=h.gF hC lJ kL.1.1 hs.s hs.lv a2
   refine⟨_,t,q,⟨Int.le_refl _,by omega⟩,zJ.re,hw.KJ rfl rfl,(tl _).2,rfl,.inl ⟨rfl,mk zJ.re (.inr (.inl ⟨rfl,a2,a3,lg,.inr ⟨by show m'.a.pc≠0;omega,rfl,?_,?_⟩⟩)),?_⟩⟩
   ·show a8 (A.w (C.slot (aJ n)))=a8 m'.a.w;rw[ew]
   ·show cO (A.w (C.slot (aJ n)))=cO m'.a.w;rw[ew]
   ·rw[Rp,IT]
    show zh C (aJ n) A.w m'<_
    unfold zh
    rw[ae (show ¬ m'.a.pc=0 by omega),af pc,af ew,af hp];omega
  | gone hp hl _=>exact absurd lvs hl
  | head hp lg pc ew=>
   rw[ae (by simp)]
   obtain⟨e1,e2,e3⟩:=holds (by omega)
   refine⟨P,t,q,⟨Int.le_refl _,by omega⟩,D',h.KJ rfl rfl,(tl _).2,rfl,.inl ⟨rfl,mk D' (.inr (.inl ⟨rfl,a2,a3,lg,.inr ⟨by show m'.a.pc≠0;omega,e1,by show _=a8 m'.a.w;rw[ew];exact e2,by show _=cO m'.a.w;rw[ew];exact e3⟩⟩)),?_⟩⟩
   rw[Rp,IT]
   show zh C (aJ n) A.w m'<_
   unfold zh
   rw[ae (show ¬ m'.a.pc=0 by omega),ae (show ¬ m'.a.pc=1 by omega),af pc,ew,ae (show ¬ y.m.a.pc=0 by omega),af hp]
   split<;>omega
  | load hp lg ew ec _ hc=>
   rw[ae (by simp)]
   obtain⟨e1,e2,e3⟩:=holds (by omega)
   have mu2:mu C n A.w y=if y.m.a.w=A.w (C.slot (aJ n))then 4+5*y8 C (aJ n) A.w else 9+5*y8 C (aJ n) A.w:=by
    rw[IT];unfold zh;rw[ae (show ¬ y.m.a.pc=0 by omega),ae (show ¬ y.m.a.pc=1 by omega),af hp]
   have on:m'.a.pc≠0→zh C (aJ n) A.w m'<mu C n A.w y→WSR C P t n v l bb c A y (false,{ y with m:=m',st:=1 },(A.by 0).load (a8 y.m.a.w+1+0)):=fun p hm=>
    ⟨P,t,q,⟨Int.le_refl _,by omega⟩,D',h.KJ rfl rfl,(tl _).2,rfl,.inl ⟨rfl,mk D' (.inr (.inl ⟨rfl,a2,a3,lg,.inr ⟨p,e1,by show _=a8 m'.a.w;rw[ew];exact e2,by show _=cO m'.a.w;rw[ew];exact e3⟩⟩)),by rw[Rp];exact hm⟩⟩
   rcases hc with⟨_,e⟩|⟨_,⟨p5,_⟩|⟨nf,⟨p3,eN,e2'⟩|⟨p0,nn⟩⟩⟩
   ·exact absurd e (nlk _)
   ·refine on (by omega) ?_
    rw[mu2];unfold zh
    rw[ae (show ¬ m'.a.pc=0 by omega),ae (show ¬ m'.a.pc=1 by omega),ae (show ¬ m'.a.pc=2 by omega),ae (show ¬ m'.a.pc=3 by omega),ew,af ec.symm]
    split<;>omega
   ·refine on (by omega) ?_
    rw[mu2];unfold zh
    rw[ae (show ¬ m'.a.pc=0 by omega),ae (show ¬ m'.a.pc=1 by omega),ae (show ¬ m'.a.pc=2 by omega),af p3,ew]
    by_cases g:y.m.a.w=A.w (C.slot (aJ n))
    ·rw[af g,af g]
     have:y8 C (aJ n) A.w=1:=by unfold y8;rw[←g,af e2']
     omega
    ·rw[ae g,ae g];omega
   ·refine un D' rfl a3 (h.KJ rfl rfl) ⟨Int.le_refl _,by omega⟩ (tl _).2 rfl rfl rfl lg p0 ?_
    rw[mu2];unfold zh
    rw[af p0]
    by_cases g:y.m.a.w=A.w (C.slot (aJ n))
    ·exfalso
     have fz:=f.frz _ kL.1.1 hs.s hs.lv 0 (Int.le_refl 0) (by omega)
     rw[←g,←ec]at fz
     have F:lL m'.a.cell=true:=by
      cases z:lL m'.a.cell with
      | true=>rfl
      | false=>exact absurd (.inl z) nf
     rcases fz F with u|⟨u1,u2⟩
     ·exact nf (.inr u)
     ·exact nn ⟨u1,u2⟩
    ·rw[ae g]
     show 6+5*y8 C (aJ n) A.w<_
     omega
  | stop hp h2 lg pc=>
   rw[ae (by simp)]
   have mu3:mu C n A.w y=if y.m.a.w=A.w (C.slot (aJ n))then 8 else 8+5*y8 C (aJ n) A.w:=by
    rw[IT];unfold zh;rw[ae (show ¬ y.m.a.pc=0 by omega),ae (show ¬ y.m.a.pc=1 by omega),ae (show ¬ y.m.a.pc=2 by omega),af hp]
   have UX:C.slot (aJ n)≠6∧C.slot (aJ n)≠0:=by have:=hC.T;unfold Cf.slot;omega
   by_cases g:A.w (C.slot (aJ n))=y.m.a.w
   ·rw[cx (show(A.by 0).w _=_ from g),←g]
    have hw:=h.stop hC lJ kL.1.1 hs.s hs.lv (by rw[g];exact h2) (A':=(A.by 0).store (C.slot (aJ n)) (aK 1 (a8 (A.w (C.slot (aJ n)))) (b9 (A.w (C.slot (aJ n)))) (cO (A.w (C.slot (aJ n)))+1))) rfl rfl
    have tt:=ts (C.slot (aJ n)) _ (cV 1 (a8 (A.w (C.slot (aJ n)))) (b9 (A.w (C.slot (aJ n)))) (cO (A.w (C.slot (aJ n)))+1))
    refine un D' rfl a3 hw ⟨by omega,Int.le_refl _⟩ tt.2 tt.1 (az _ _ (Ne.symm UX.1)) (az _ _ (Ne.symm UX.2)) lg pc ?_
    rw[mu3,af g.symm];unfold zh
    rw[af pc]
    have:y8 C (aJ n) ((A.by 0).store (C.slot (aJ n)) (aK 1 (a8 (A.w (C.slot (aJ n)))) (b9 (A.w (C.slot (aJ n)))) (cO (A.w (C.slot (aJ n)))+1))).w=0:=by
     unfold y8
     rw[show((A.by 0).store (C.slot (aJ n)) (aK 1 (a8 (A.w (C.slot (aJ n)))) (b9 (A.w (C.slot (aJ n)))) (cO (A.w (C.slot (aJ n)))+1))).w (C.slot (aJ n))=_ from aE _ _ _,ae]
     rw[(dT (by decide) ⟨by unfold a8;omega,by unfold a8;omega⟩ ⟨by unfold b9;omega,by unfold b9;omega⟩).1];decide
    rw[this];decide
   ·rw[gB (show(A.by 0).w _≠_ from g)]
    refine un D' rfl a3 (h.KJ (A':=(A.by 0).load (C.slot (aJ n))) rfl rfl) ⟨Int.le_refl _,by omega⟩ (tl _).2 rfl rfl rfl lg pc ?_
    rw[mu3,ae (fun e=>g e.symm)];unfold zh
    rw[af pc]
    show 6+5*y8 C (aJ n) A.w<_
    omega
  | lay hp hk h2 hc ho=>
   rw[af rfl]
   obtain⟨e1,e2,e3⟩:=holds (by omega)
   obtain⟨sb,_,hd,bd,v1,v2⟩:=f.I' (by rw[e1];exact kL.1.1)
   rw[e1]at v1 v2
   have ea:a8 (A.w (C.slot (aJ n)))=P.ha:=Decidable.byContradiction fun ne=>by
    have:=v2 ne 0 (Int.le_refl 0) (by omega)
    rw[e2,hc]at this
    obtain⟨u1,u2⟩:=this
    rw[e3]at u2
    rcases h2 with u|u
    ·rw[u]at u1;cases u1
    ·omega
   have vv:=v1 ea
   rw[e3]at vv
   rw[e2]at ea
   have hx:0≤v∧v≤1099511627775:=by omega
   have hw:=h.lay (k:=0) (x:=v) hC lJ kL.1.1 hs.s hs.lv (Int.le_refl 0) (by omega) hx (by rw[ea,hc];rcases h2 with u|u;exact .inl u;exact .inr (by omega)) (A':=(A.by 0).store (a8 y.m.a.w+1+0) (aT v false 0)) rfl (by rw[ea];rfl)
   have tt:=ts (a8 y.m.a.w+1+0) _ (dC v false 0)
   have val:=f.val _ kL.1.1 hs.s hs.lv 0 (Int.le_refl 0) (by omega)
   rw[ea,hc]at val
   have bge:C.base 0≤a8 y.m.a.w:=by rw[←ea];exact q4
   have e0b:C.base 0=6+C.T+2*C.S+3*C.C:=by unfold Cf.base;omega
   have zq:=hC.T;have rX:=hC.S;have iD:=hC.C
   have w6:((A.by 0).store (a8 y.m.a.w+1+0) (aT v false 0)).w 6=A.w 6:=az _ _ (by omega)
   have w0:((A.by 0).store (a8 y.m.a.w+1+0) (aT v false 0)).w 0=A.w 0:=az _ _ (by omega)
   have F0:WI C ((P.wL (gy P (aJ n) 0 v)).re (-1) 0 0 P.hp) (t+1) 3000 c ((A.by 0).store (a8 y.m.a.w+1+0) (aT v false 0)):=hw.yK hC fun p=>⟨by rw[w6,w0];exact h.ins hC p,.inl rfl⟩
   have sm:zJ P ((P.wL (gy P (aJ n) 0 v)).re (-1) 0 0 P.hp) (aJ n):=⟨rfl,rfl,rfl,rfl,rfl,fun s k e=>eK e⟩
   refine⟨_,t+1,3000,⟨by omega,Int.le_refl _⟩,sm,F0,tt.2,tt.1,.inl ⟨rfl,mk sm (.inr (.inr ⟨rfl,a2,by show(-1:Int)<0;decide,vj,ho.1,by show m'.a.oV=l;rw[ho.2.2.1,val];exact a3⟩)),?_⟩⟩
   rw[IT]
   show mu C n _ { y with m:=m',st:=2 }<_
   unfold mu zh
   rw[af (show(2:Int)=2 from rfl),ae (show ¬ y.m.a.pc=0 by omega),ae (show ¬ y.m.a.pc=1 by omega),ae (show ¬ y.m.a.pc=2 by omega),ae (show ¬ y.m.a.pc=3 by omega),af hc]
   decide
  | again hp hc lg pc=>
   rw[ae (by simp)]
   refine un D' rfl a3 (h.KJ rfl rfl) ⟨Int.le_refl _,by omega⟩ (tl _).2 rfl rfl rfl lg pc ?_
   rw[IT];unfold zh
   rw[af pc,ae (show ¬ y.m.a.pc=0 by omega),ae (show ¬ y.m.a.pc=1 by omega),ae (show ¬ y.m.a.pc=2 by omega),ae (show ¬ y.m.a.pc=3 by omega),ae hc]
   show 6+5*y8 C (aJ n) A.w<_
   omega
  | look hp hk _ _ _=>exact absurd hk (nlk _)
  | Jz hp hl he lg pc=>
   exfalso
   rcases a4.at' with e|⟨_,e|e|⟨e,_⟩|⟨e,_⟩|⟨_,e⟩⟩
   ·omega
   ·omega
   ·omega
   ·omega
   ·omega
   ·exact nlk _ e
 ·
  have FP:y.step C A=(true,y,(A.by 0).store 6 0):=by unfold Wr.step;rw[af a1]
  rw[FP]
  have yR:(0:Int)≤0∧(0:Int)<18446744073709551616:=by decide
  have hw:WI C (P.re (-1) 0 0 (-1)) t q c A:=h.yK hC fun p=>absurd p (by decide)
  refine⟨P.re (-1) 0 0 (-1),t+1,q,⟨by omega,Int.le_refl _⟩,zJ.re,hw.om hC (ts 6 0 yR).1 rfl yR (by show(-1:Int)<0;decide) (by show(-1:Int)<0;decide),(ts 6 0 yR).2,(ts 6 0 yR).1,.inr ⟨rfl,by show(-1:Int)<0;decide,by show(-1:Int)<0;decide,a4,a5,a6⟩⟩
end Go.Fl
