/- What the claim leans on, part 5: own readings of the program's functions, what they come to, laws of them. No condition. -/
import Derived.Test.YtedpfdkhebmocaaGreatZCompactPending4
namespace Go.Fl
open Go
set_option linter.unusedVariables false
set_option linter.unusedSimpArgs false
variable {N:Nm} {σ:Mem} {K:Value→Mem→Prop} {C:Cf} {w:Int→Int} {P:MP} {A:Ar} {who:Int}
section
variable {q:Int} {c:Co}
theorem step10w (hp:c.r.pc=10) (r:Int):c.step C who A r=if ((c.a.getD Adv.new).step C who A).1=true then ({ c with a:=none,r:={ c.r with at':=0,pc:=11 } },((c.a.getD Adv.new).step C who A).2.2)
  else ({ c with a:=some ((c.a.getD Adv.new).step C who A).2.1 },((c.a.getD Adv.new).step C who A).2.2):=by
 unfold Co.step; rw [if_neg (by omega),if_neg (by omega),if_neg (by omega),if_neg (by omega),if_neg (by omega),if_neg (by omega),if_neg (by omega),if_neg (by omega),if_neg (by omega),if_neg (by omega),if_pos hp]
theorem step11w (hp:c.r.pc=11) (r:Int):c.step C who A r=if ((c.s.getD (Stl.new c.r.at')).step C who A).1=true then ({ c with s:=none,r:=c.r.settled C ((c.s.getD (Stl.new c.r.at')).step C who A).2.1.freed },((c.s.getD (Stl.new c.r.at')).step C who A).2.2)
  else ({ c with s:=some ((c.s.getD (Stl.new c.r.at')).step C who A).2.1 },((c.s.getD (Stl.new c.r.at')).step C who A).2.2):=by
 unfold Co.step; rw [if_neg (by omega),if_neg (by omega),if_neg (by omega),if_neg (by omega),if_neg (by omega),if_neg (by omega),if_neg (by omega),if_neg (by omega),if_neg (by omega),if_neg (by omega),if_neg (by omega)]
theorem WI.s6 (hC:C.ok) (h:WI C P q c A) (hp:6≤c.r.pc∧c.r.pc≤8) (hrd:c.r.rd≤1300) (r:Int):WR C P q c (c.step C who A r):=by
 obtain ⟨hS,nn,q3,wc,nm⟩:=h
 have hn0:=hS.n0
 have hT4:tW P c≤4194000:=by unfold tW; omega
 cases wc with
 | p6 _ ha hs mw ev hn hq=>
  have nm':=nm.mono (t':=tW P c - (q - 1)) (by omega)
  have mw':MW C P (tW P c - (q - 1)) (-1) (-1) A.w:=mw.mono (by omega)
  have nev:=nm.ev
  rcases (show c.r.pc=6∨c.r.pc=7∨c.r.pc=8 by omega) with e | e | e
  ·have st:c.step C who A r=({ c with r:={ c.r with now:=A.w 0,pc:=7 } },(A.by who).load 0):=by
    unfold Co.step; rw [if_neg (by omega),if_neg (by omega),if_neg (by omega),if_neg (by omega),if_neg (by omega),if_neg (by omega),if_pos e]
   rw [st]
   exact .inl ⟨rfl,hS,nn,by omega,.p6 ⟨(by decide:(6:Int)≤7),(by decide:(7:Int)≤8)⟩ ha hs mw' ev (fun _=>mw.bd 0) (by show 535 - 7≤q - 1; omega),nm'.ev,nm'.lf,nm'.fd,nm'.mo,nm'.il⟩
  ·have st:c.step C who A r=({ c with r:={ c.r with pc:=8 } },(A.by who).store (C.chunk c.r.at'+2) c.r.now):=by
    unfold Co.step; rw [if_neg (by omega),if_neg (by omega),if_neg (by omega),if_neg (by omega),if_neg (by omega),if_neg (by omega),if_neg (by omega),if_pos e]
   rw [st]
   have hmw:MW C P (tW P c - (q - 1)) (-1) (-1) (upd A.w (C.chunk c.r.at'+2) c.r.now):=mw.low hC hS (by omega) (hn e) (.inr (.inl ⟨_,ev.ab.1,ev.ab.2,.inr rfl⟩))
   refine .inl ⟨rfl,hS,nn,by omega,.p6 ⟨(by decide:(6:Int)≤8),(by decide:(8:Int)≤8)⟩ ha hs hmw ?_ (fun q=>absurd (show (8:Int)=7 from q) (by decide)) (by show 535 - 8≤q - 1; omega),nm'.ev,nm'.lf,nm'.fd,nm'.mo,nm'.il⟩
   have hSS:=hC.S
   exact ev.keep (fun j j0 j1=>.inl (upd_ne _ _ (by unfold Cf.chunk; omega))) fun s s0 s1=>.inl (upd_ne _ _ (by have:=ev.ab; unfold Cf.chunk Cf.slot; omega))
  ·have st:c.step C who A r=({ c with r:={ c.r with ev:=c.r.ev+1,pc:=10 } },(A.by who).store (C.chunk c.r.at') (chw c.r.w 3)):=by
    unfold Co.step; rw [if_neg (by omega),if_neg (by omega),if_neg (by omega),if_neg (by omega),if_neg (by omega),if_neg (by omega),if_neg (by omega),if_neg (by omega),if_pos e]
   rw [st]
   obtain ⟨v1,v2,v3,v4⟩:=chw_put (w:=c.r.w) (st:=3) (by decide)
   have kk:=mw.ck _ ev.ab.1 ev.ab.2
   rw [ev.ecw] at kk
   have kn:=chw_n (v:=c.r.w) (st:=3)
   have kn2:=kk.n
   have hmw:MW C P (tW P c - (q - 1)) (-1) (-1) (upd A.w (C.chunk c.r.at') (chw c.r.w 3)):=by
    refine mw.chunk hC hS (by omega) ev.ab.1 ev.ab.2 v4 ⟨by rw [v2]; exact kk.c,by rw [v3]; exact kk.u,by rw [v3,v2]; exact kk.m,by omega,fun _=>by rw [v3]; exact kk.p (by rw [ev.c2]; decide)⟩ (.inl rfl) (fun g=>by rw [v1] at g; omega) (fun s a x s0 s1 l _ e p=>?_) (by omega)
    have px:=p.xb
    rw [ev.ecw] at px
    have rr:=hS.rm s0 s1 l
    exact absurd (e.trans p.ea) (ev.ev s s0 s1 l x px.1 (by omega))
   refine .inl ⟨rfl,hS,nn,by omega,.p10 rfl hs hmw (fun j j0 j1 g=>?_) (fun v e=>by rw [show c.a=some v from e] at ha; cases ha) (by show 520 - apA c.a≤q - 1; rw [ha]; show 520 - 0≤q - 1; omega),by show 0≤c.r.ev+1∧c.r.ev+1≤tW P c - (q - 1); omega,nm'.lf,nm'.fd,nm'.mo,nm'.il⟩
   have g':chS (upd A.w (C.chunk c.r.at') (chw c.r.w 3) (C.chunk j))=2:=g
   by_cases ej:j=c.r.at'
   ·rw [ej,upd_same,v1] at g'; exact absurd g' (by decide)
   ·rw [upd_ne _ _ (ck_ne ej).1] at g'; exact ej (ev.s2 j j0 j1 g')
 | p0 hp'=>omega
 | p1 hp'=>omega
 | p2 hp'=>omega
 | p3 hp'=>omega
 | p4 hp'=>omega
 | p5 hp'=>omega
 | p9 hp'=>omega
 | p10 hp'=>omega
 | p11 hp'=>omega
theorem WI.s9 (hC:C.ok) (h:WI C P q c A) (hp:c.r.pc=9) (hrd:c.r.rd≤1300) (r:Int):WR C P q c (c.step C who A r):=by
 obtain ⟨hS,nn,q3,wc,nm⟩:=h
 have hn0:=hS.n0
 have hT4:tW P c≤4194000:=by unfold tW; omega
 cases wc with
 | p9 _ ha hs mw ev hq=>
  have nm':=nm.mono (t':=tW P c - (q - 1)) (by omega)
  have nlf:=nm.lf
  have st:c.step C who A r=({ c with r:={ c.r with lf:=c.r.lf+1,pc:=10 } },(A.by who).store (C.chunk c.r.at') (chw c.r.w 1)):=by
   unfold Co.step; rw [if_neg (by omega),if_neg (by omega),if_neg (by omega),if_neg (by omega),if_neg (by omega),if_neg (by omega),if_neg (by omega),if_neg (by omega),if_neg (by omega),if_pos hp]
  rw [st]
  obtain ⟨v1,v2,v3,v4⟩:=chw_put (w:=c.r.w) (st:=1) (by decide)
  have kk:=mw.ck _ ev.ab.1 ev.ab.2
  rw [ev.ecw] at kk
  have kn:=chw_n (v:=c.r.w) (st:=1)
  have kn2:=kk.n
  have hmw:MW C P (tW P c - (q - 1)) (-1) (-1) (upd A.w (C.chunk c.r.at') (chw c.r.w 1)):=by
   refine mw.chunk hC hS (by omega) ev.ab.1 ev.ab.2 v4 ⟨by rw [v2]; exact kk.c,by rw [v3]; exact kk.u,by rw [v3,v2]; exact kk.m,by omega,fun g=>by rw [v1] at g; omega⟩ (.inl rfl) (fun _ x x0 x1 xm hne=>?_) (fun s a x s0 s1 l _ _ p=>⟨.inl v1,by rw [v2,ev.ecw],by rw [v3,ev.ecw]; exact Int.le_refl _⟩) (by omega)
   rw [v3] at x1; rw [v2] at xm
   exact mw.hd _ x ev.ab.1 ev.ab.2 (.inr (by rw [ev.ecw]; exact ev.c2)) x0 (by rw [ev.ecw]; exact x1) (by rw [ev.ecw]; exact xm) hne
  refine .inl ⟨rfl,hS,nn,by omega,.p10 rfl hs hmw (fun j j0 j1 g=>?_) (fun v e=>by rw [show c.a=some v from e] at ha; cases ha) (by show 520 - apA c.a≤q - 1; rw [ha]; show 520 - 0≤q - 1; omega),nm'.ev,by show 0≤c.r.lf+1∧c.r.lf+1≤tW P c - (q - 1); omega,nm'.fd,nm'.mo,nm'.il⟩
  have g':chS (upd A.w (C.chunk c.r.at') (chw c.r.w 1) (C.chunk j))=2:=g
  by_cases ej:j=c.r.at'
  ·rw [ej,upd_same,v1] at g'; exact absurd g' (by decide)
  ·rw [upd_ne _ _ (ck_ne ej).1] at g'; exact ej (ev.s2 j j0 j1 g')
 | p0 hp'=>omega
 | p1 hp'=>omega
 | p2 hp'=>omega
 | p3 hp'=>omega
 | p4 hp'=>omega
 | p5 hp'=>omega
 | p6 hp'=>omega
 | p10 hp'=>omega
 | p11 hp'=>omega
theorem WI.s10 (hC:C.ok) (h:WI C P q c A) (hp:c.r.pc=10) (hrd:c.r.rd≤1300) (r:Int):WR C P q c (c.step C who A r):=by
 obtain ⟨hS,nn,q3,wc,nm⟩:=h
 have hn0:=hS.n0
 have hT4:tW P c≤4194000:=by unfold tW; omega
 cases wc with
 | p10 _ hs mw n2 ha hq=>
  have nm':=nm.mono (t':=tW P c - (q - 1)) (by omega)
  have mw':MW C P (tW P c - (q - 1)) (-1) (-1) A.w:=mw.mono (by omega)
  have hT:=hC.T; have hC3:=hC.C; have hcc:=hS.cc
  have ep:=mw.ep
  have e0:=(mw.bd 0).1
  have a10:apA c.a≤10:=by
   cases e:c.a with
   | none=>decide
   | some v=>
    have:=(ha v e).2
    show (if v.pc=1 then 1+v.at' else 10)≤10
    split <;> omega
  have fin:∀ A':Ar,A'.n=A.n→MW C P (tW P c - (q - 1)) (-1) (-1) A'.w→no2 C A'.w→WR C P q c ({ c with a:=none,r:={ c.r with at':=0,pc:=11 } },A'):=fun A' en hm h2=>
   .inl ⟨rfl,hS,by rw [en]; exact nn,by omega,.p11 rfl rfl hm h2 ⟨Int.le_refl 0,by show (0:Int)<C.C; omega⟩ (fun v e=>by rw [show c.s=some v from e] at hs; cases hs) (by show 50*(C.C - 0) - spS c.s≤q - 1; rw [hs]; show 50*(C.C - 0) - 0≤q - 1; omega),nm'.ev,nm'.lf,nm'.fd,nm'.mo,nm'.il⟩
  rw [step10w hp]
  cases ea:c.a with
  | none=>
   have e1:Adv.new.step C who A=(false,{ Adv.new with now:=A.w 0,pc:=1 },(A.by who).load 0):=by unfold Adv.step; rw [if_pos (show Adv.new.pc=0 from rfl)]
   rw [Option.getD_none,e1,if_neg (by simp)]
   refine .inl ⟨rfl,hS,nn,by omega,.p10 hp hs mw' n2 (fun v e=>?_) ?_,nm'.ev,nm'.lf,nm'.fd,nm'.mo,nm'.il⟩
   ·obtain rfl:(⟨1,A.w 0,0,false⟩:Adv)=v:=by injection e
    exact ⟨rfl,.inl ⟨rfl,Int.le_refl 0,by show (0:Int)<C.T; omega⟩⟩
   ·rw [ea] at hq
    have hq':520 - 0≤q:=hq
    show 520 - (if (1:Int)=1 then 1+(0:Int) else 10)≤q - 1
    rw [if_pos rfl]; omega
  | some v=>
   obtain ⟨v1,v2⟩:=ha v ea
   rw [ea] at hq
   have hq':520 - (if v.pc=1 then 1+v.at' else 10)≤q:=hq
   rw [Option.getD_some]
   rcases v2 with ⟨q1,q2⟩ | ⟨q1,q2⟩
   ·have z:=mw.pn _ q2.1 q2.2
    have cnd:¬ (A.w (6+v.at')≠0∧A.w (6+v.at')≠IntKind.u64.wrap (v.now+1)):=fun x=>x.1 z
    have e1:v.step C who A=(false,{ v with at':=v.at'+1,pc:=if C.T≤v.at'+1 then 2 else v.pc },(A.by who).load (6+v.at')):=by unfold Adv.step; rw [if_neg (by omega),if_pos q1,if_neg cnd]
    rw [e1,if_neg (by simp)]
    rw [if_pos q1] at hq'
    refine .inl ⟨rfl,hS,nn,by omega,.p10 hp hs mw' n2 (fun u e=>?_) ?_,nm'.ev,nm'.lf,nm'.fd,nm'.mo,nm'.il⟩
    ·obtain rfl:({ v with at':=v.at'+1,pc:=if C.T≤v.at'+1 then 2 else v.pc }:Adv)=u:=by injection e
     refine ⟨v1,?_⟩
     by_cases g:C.T≤v.at'+1
     ·exact .inr ⟨if_pos g,by show 0≤v.at'+1; omega⟩
     ·exact .inl ⟨(if_neg g).trans q1,by show 0≤v.at'+1; omega,by show v.at'+1<C.T; omega⟩
    ·show 520 - (if (if C.T≤v.at'+1 then (2:Int) else v.pc)=1 then 1+(v.at'+1) else 10)≤q - 1
     by_cases g:C.T≤v.at'+1
     ·rw [if_pos g,if_neg (by decide)]; omega
     ·rw [if_neg g,if_pos q1]; omega
   ·have wr:IntKind.u64.wrap (v.now+1)=A.w 0+1:=by rw [v1]; exact u64w (by omega) (by omega)
    have e1:v.step C who A=(true,{ v with went:=decide (A.w 0=v.now) },(A.by who).store 0 (A.w 0+1)):=by unfold Adv.step; rw [if_neg (by omega),if_neg (by omega),cas_yes (by exact v1.symm),wr]
    rw [e1,if_pos rfl]
    exact fin _ rfl (mw.low hC hS (by omega) (by omega) (.inl ⟨rfl,by omega⟩)) (n2.keep fun j j0 j1=>upd_ne _ _ (by have:=ck_lt hC j0 j1; omega))
 | p0 hp'=>omega
 | p1 hp'=>omega
 | p2 hp'=>omega
 | p3 hp'=>omega
 | p4 hp'=>omega
 | p5 hp'=>omega
 | p6 hp'=>omega
 | p9 hp'=>omega
 | p11 hp'=>omega
theorem WI.set (hC:C.ok) (hS:MS C P) (q3:q≤3000) (ha:c.a=none) (f:Bool) (hp:c.r.pc=11) (h0:0≤c.r.at'∧c.r.at'<C.C) (hq:50*(C.C - c.r.at') - 45≤q) {A':Ar} (nn:C.len≤A'.n∧(A'.n:Int)≤200000000) (mw:MW C P (tW P c - (q - 1)) (-1) (-1) A'.w) (n2:no2 C A'.w) (nm:Nw (tW P c - q) c) :
  WR C P q c ({ c with s:=none,r:=c.r.settled C f },A'):=by
 have nm':=nm.mono (t':=tW P c - (q - 1)) (by omega)
 have hcc:=hS.cc
 have nfd:=nm.fd
 have nil:=nm.il
 have hfd:0≤(if f=true then c.r.fd+1 else c.r.fd)∧(if f=true then c.r.fd+1 else c.r.fd)≤tW P c - (q - 1):=by split <;> omega
 unfold Cr.settled
 by_cases z:C.C≤c.r.at'+1
 ·simp only [if_pos z]
  have et:tW P { c with s:=none,r:=⟨0,c.r.x1,0,c.r.pos,c.r.w,c.r.now,c.r.x6,c.r.x7,.pointer none,c.r.ev,c.r.lf,(if f=true then c.r.fd+1 else c.r.fd),c.r.mo,c.r.rd+1,c.r.ev,c.r.lf,(if f=true then c.r.fd+1 else c.r.fd),c.r.mo,c.r.rd+1,(if c.r.ev≠c.r.ev2∨c.r.mo≠c.r.mo2∨(if f=true then c.r.fd+1 else c.r.fd)≠c.r.fd2 then 0 else c.r.idle+1)⟩ }=tW P c+3000:=by
   show P.N0+3000*(c.r.rd+1)+3000=P.N0+3000*c.r.rd+3000+3000; omega
  refine .inr ⟨⟨rfl,rfl,rfl⟩,hS,nn,by omega,.p0 rfl ha rfl ?_ n2 ⟨Int.le_refl 0,by show (0:Int)<C.C; omega⟩ (fun e=>absurd rfl e) (by show 2*(C.C - 0)+2310≤3000; omega),?_⟩
  ·rw [et]; exact mw.mono (by omega)
  ·rw [et]
   have n1:=nm'.ev; have n2:=nm'.lf; have n3:=nm'.mo
   refine ⟨by show 0≤c.r.ev∧c.r.ev≤_; omega,by show 0≤c.r.lf∧c.r.lf≤_; omega,by show 0≤(if f=true then c.r.fd+1 else c.r.fd)∧(if f=true then c.r.fd+1 else c.r.fd)≤_; omega,by show 0≤c.r.mo∧c.r.mo≤_; omega,?_⟩
   show 0≤(if c.r.ev≠c.r.ev2∨c.r.mo≠c.r.mo2∨(if f=true then c.r.fd+1 else c.r.fd)≠c.r.fd2 then 0 else c.r.idle+1)∧(if c.r.ev≠c.r.ev2∨c.r.mo≠c.r.mo2∨(if f=true then c.r.fd+1 else c.r.fd)≠c.r.fd2 then 0 else c.r.idle+1)≤c.r.rd+1
   by_cases g:c.r.ev≠c.r.ev2∨c.r.mo≠c.r.mo2∨(if f=true then c.r.fd+1 else c.r.fd)≠c.r.fd2
   ·rw [if_pos g]; omega
   ·rw [if_neg g]; omega
 ·simp only [if_neg z]
  exact .inl ⟨rfl,hS,nn,by omega,.p11 hp ha mw n2 ⟨by show 0≤c.r.at'+1; omega,by show c.r.at'+1<C.C; omega⟩ (fun v e=>by cases e) (by show 50*(C.C - (c.r.at'+1)) - 0≤q - 1; omega),nm'.ev,nm'.lf,hfd,nm'.mo,nm'.il⟩
theorem WI.s11 (hC:C.ok) (h:WI C P q c A) (hp:c.r.pc=11) (hrd:c.r.rd≤1300) (r:Int):WR C P q c (c.step C who A r):=by
 obtain ⟨hS,nn,q3,wc,nm⟩:=h
 have hn0:=hS.n0
 have hT4:tW P c≤4194000:=by unfold tW; omega
 cases wc with
 | p11 _ ha mw n2 h0 hs hq=>
  have nm':=nm.mono (t':=tW P c - (q - 1)) (by omega)
  have mw':MW C P (tW P c - (q - 1)) (-1) (-1) A.w:=mw.mono (by omega)
  have hcc:=hS.cc
  have b:=ck_lt hC h0.1 h0.2
  have kk:=mw.ck _ h0.1 h0.2
  have s45:spS c.s≤45:=by
   cases e:c.s with
   | none=>decide
   | some v=>
    obtain ⟨_,h3,h4,_,h5⟩:=hs v e
    have:=kk.u
    rw [← h4] at this
    rw [sp0]
    split
    ·omega
    ·split <;> omega
  have go:∀ (v:Stl) (A':Ar),A'.n=A.n→MW C P (tW P c - (q - 1)) (-1) (-1) A'.w→(∀ j,0≤j→j<C.C→A'.w (C.chunk j)=A.w (C.chunk j))→(v.ch=c.r.at'∧chS (A.w (C.chunk c.r.at'))=3∧v.w=A.w (C.chunk c.r.at')∧v.freed=false∧((v.pc=1∨v.pc=2)∧v.at'=0∨v.pc=3∧(0≤v.at'∧v.at'<chU v.w)∨v.pc=4∨v.pc=5))→spS c.s<spS (some v) →
    WR C P q c ({ c with s:=some v },A'):=fun v A' en hm hk hv hl=>by
   refine .inl ⟨rfl,hS,by rw [en]; exact nn,by omega,.p11 hp ha hm (n2.keep hk) h0 (fun u e=>?_) ?_,nm'.ev,nm'.lf,nm'.fd,nm'.mo,nm'.il⟩
   ·obtain rfl:v=u:=by injection e
    rw [hk _ h0.1 h0.2]; exact hv
   ·show 50*(C.C - c.r.at') - spS (some v)≤q - 1; omega
  have ho3:chS (A.w (C.chunk c.r.at'))=3→∀ s a x,Pla C P A.w s a c.r.at' x→False:=fun e s a x p=>by have:=p.st; omega
  rw [step11w hp]
  cases es:c.s with
  | none=>
   have e1:(Stl.new c.r.at').step C who A=(!decide (chS (A.w (C.chunk c.r.at'))=3),{ Stl.new c.r.at' with w:=A.w (C.chunk c.r.at'),pc:=1 },(A.by who).load (C.chunk c.r.at')):=by unfold Stl.step; rw [if_pos (show (Stl.new c.r.at').pc=0 from rfl)]; rfl
   rw [Option.getD_none,e1]
   by_cases c3:chS (A.w (C.chunk c.r.at'))=3
   ·rw [if_neg (by simp [c3])]
    exact go ⟨c.r.at',1,A.w (C.chunk c.r.at'),0,0,false⟩ ((A.by who).load (C.chunk c.r.at')) rfl mw' (fun _ _ _=>rfl) ⟨rfl,c3,rfl,rfl,.inl ⟨.inl rfl,rfl⟩⟩ (by rw [es,sp1 (by show (1:Int)≤2; decide)]; show (0:Int)<1; decide)
   ·rw [if_pos (by simp [c3])]
    exact WI.set hC hS q3 ha _ hp h0 (by omega) (A':=(A.by who).load (C.chunk c.r.at')) nn mw' n2 nm
  | some v=>
   obtain ⟨v1,v3,v4,v5,v6⟩:=hs v es
   rw [Option.getD_some]
   rcases v6 with ⟨q1 | q1,q2⟩ | ⟨q1,q2⟩ | q1 | q1
   ·have e1:v.step C who A=(false,{ v with since:=A.w (C.chunk v.ch+2),pc:=2 },(A.by who).load (C.chunk v.ch+2)):=by unfold Stl.step; rw [if_neg (by omega),if_pos q1]
    rw [e1,if_neg (by simp)]
    exact go { v with since:=A.w (C.chunk v.ch+2),pc:=2 } ((A.by who).load (C.chunk v.ch+2)) rfl mw' (fun _ _ _=>rfl) ⟨v1,v3,v4,v5,.inl ⟨.inr rfl,q2⟩⟩ (by rw [es,sp1 (by omega),sp1 (by show (2:Int)≤2; decide)]; show v.pc<2; omega)
   ·have e1:v.step C who A=(decide (A.w 0<IntKind.u64.wrap (v.since+2)),{ v with pc:=3 },(A.by who).load 0):=by unfold Stl.step; rw [if_neg (by omega),if_neg (by omega),if_pos q1]
    rw [e1]
    by_cases cd:A.w 0<IntKind.u64.wrap (v.since+2)
    ·rw [if_pos (by simp [cd])]
     exact WI.set hC hS q3 ha _ hp h0 (by omega) (A':=(A.by who).load 0) nn mw' n2 nm
    ·rw [if_neg (by simp [cd])]
     refine go { v with pc:=3 } ((A.by who).load 0) rfl mw' (fun _ _ _=>rfl) ⟨v1,v3,v4,v5,.inr (.inl ⟨rfl,by show 0≤v.at'∧v.at'<chU v.w; rw [q2,v4]; exact ⟨Int.le_refl 0,kk.p (by rw [v3]; decide)⟩⟩)⟩ ?_
     rw [es,sp1 (by omega),sp3 (by rfl)]; show v.pc<3+v.at'; omega
   ·have e1:v.step C who A=(false,{ v with at':=v.at'+1,pc:=if chU v.w≤v.at'+1 then 4 else v.pc },(A.by who).store (C.base c.r.at'+v.at') 0):=by unfold Stl.step; rw [if_neg (by omega),if_neg (by omega),if_neg (by omega),if_pos q1,v1]
    rw [e1,if_neg (by simp)]
    have ku:=kk.u
    rw [← v4] at ku
    have bb:=base_ge hC h0.1 h0.2 q2.1
    have hmw:MW C P (tW P c - (q - 1)) (-1) (-1) (upd A.w (C.base c.r.at'+v.at') 0):=mw.word hC hS (by omega) h0.1 h0.2 q2.1 (by omega) (by decide) (fun g=>by omega) (fun s a _ _ _ _ _ x p _=>ho3 v3 s a x p) (by omega)
    refine go { v with at':=v.at'+1,pc:=if chU v.w≤v.at'+1 then 4 else v.pc } ((A.by who).store (C.base c.r.at'+v.at') 0) rfl hmw (fun j j0 j1=>upd_ne _ _ (by have:=ck_lt hC j0 j1; omega)) ⟨v1,v3,v4,v5,?_⟩ ?_
    ·by_cases z:chU v.w≤v.at'+1
     ·exact .inr (.inr (.inl (if_pos z)))
     ·exact .inr (.inl ⟨(if_neg z).trans q1,by show 0≤v.at'+1; omega,by show v.at'+1<chU v.w; omega⟩)
    ·rw [es,sp3 q1]
     by_cases z:chU v.w≤v.at'+1
     ·have e:(if chU v.w≤v.at'+1 then (4:Int) else v.pc)=4:=if_pos z
      rw [sp4 (by show 4≤(if chU v.w≤v.at'+1 then (4:Int) else v.pc); omega)]
      show 3+v.at'<40+(if chU v.w≤v.at'+1 then (4:Int) else v.pc); omega
     ·have e:(if chU v.w≤v.at'+1 then (4:Int) else v.pc)=v.pc:=if_neg z
      rw [sp3 (by show (if chU v.w≤v.at'+1 then (4:Int) else v.pc)=3; omega)]
      show 3+v.at'<3+(v.at'+1); omega
   ·have e1:v.step C who A=(false,{ v with pc:=5 },(A.by who).store (C.chunk c.r.at'+1) 0):=by unfold Stl.step; rw [if_neg (by omega),if_neg (by omega),if_neg (by omega),if_neg (by omega),if_pos q1,v1]
    rw [e1,if_neg (by simp)]
    refine go { v with pc:=5 } ((A.by who).store (C.chunk c.r.at'+1) 0) rfl (mw.low hC hS (by omega) (by decide) (.inr (.inl ⟨_,h0.1,h0.2,.inl rfl⟩))) (fun j j0 j1=>upd_ne _ _ (by unfold Cf.chunk; omega)) ⟨v1,v3,v4,v5,.inr (.inr (.inr rfl))⟩ ?_
    rw [es,sp4 (by omega),sp4 (by show (4:Int)≤5; decide)]; show 40+v.pc<40+5; omega
   ·have e1:v.step C who A=(true,{ v with freed:=true },(A.by who).store (C.chunk v.ch) (putChunk 0 0 0 (chN v.w+1))):=by unfold Stl.step; rw [if_neg (by omega),if_neg (by omega),if_neg (by omega),if_neg (by omega),if_neg (by omega)]
    rw [e1,if_pos rfl,v1]
    have kn:=kk.n
    have nb:=chN_bd v.w
    rw [← v4] at kn
    obtain ⟨z1,z2,z3,z4⟩:=ch_put (st:=0) (c:=0) (us:=0) (sp:=chN v.w+1) (by decide) (by decide) (by decide) (by omega)
    have hmw:MW C P (tW P c - (q - 1)) (-1) (-1) (upd A.w (C.chunk c.r.at') (putChunk 0 0 0 (chN v.w+1))):=mw.chunk hC hS (by omega) h0.1 h0.2 (putChunk_in _ _ _ _) ⟨by rw [z2]; decide,by rw [z3]; have:=hC.W; omega,by rw [z3,Int.zero_emod],by rw [z4]; omega,fun g=>by rw [z1] at g; omega⟩ (.inl rfl) (fun g=>by rw [z1] at g; omega) (fun s a x _ _ _ _ _ p=>(ho3 v3 s a x p).elim) (by omega)
    refine WI.set hC hS q3 ha _ hp h0 (by omega) (A':=(A.by who).store (C.chunk c.r.at') (putChunk 0 0 0 (chN v.w+1))) nn hmw (fun j j0 j1 g=>?_) nm
    have g':chS (upd A.w (C.chunk c.r.at') (putChunk 0 0 0 (chN v.w+1)) (C.chunk j))=2:=g
    by_cases ej:j=c.r.at'
    ·rw [ej,upd_same,z1] at g'; exact absurd g' (by decide)
    ·rw [upd_ne _ _ (ck_ne ej).1] at g'; exact n2 j j0 j1 g'
 | p0 hp'=>omega
 | p1 hp'=>omega
 | p2 hp'=>omega
 | p3 hp'=>omega
 | p4 hp'=>omega
 | p5 hp'=>omega
 | p6 hp'=>omega
 | p9 hp'=>omega
 | p10 hp'=>omega
theorem WI.step (hC:C.ok) (h:WI C P q c A) (hrd:c.r.rd≤1300) (r:Int) (hr:c.may C A r):WR C P q c (c.step C who A r):=by
 have hw:=h.wc
 cases hw with
 | p0 hp=>exact h.s0 hC hp r
 | p1 hp=>exact h.s1 hC hp r
 | p2 hp=>exact h.s2 hC hp r hr
 | p3 hp=>exact h.s3 hC hp hrd r
 | p4 hp=>exact h.s4 hC hp hrd r
 | p5 hp=>exact h.s5 hC hp hrd r
 | p6 hp=>exact h.s6 hC hp hrd r
 | p9 hp=>exact h.s9 hC hp hrd r
 | p10 hp=>exact h.s10 hC hp hrd r
 | p11 hp=>exact h.s11 hC hp hrd r
end
end Go.Fl
namespace Go.Fl
open Go
set_option linter.unusedVariables false
set_option linter.unusedSimpArgs false
variable {N:Nm} {σ:Mem} {K:Value→Mem→Prop} {C:Cf} {w:Int→Int} {P:MP} {A:Ar} {who:Int}
section
variable {q:Int} {c:Co}
theorem WI.bd (h:WI C P q c A):∀ i,0≤A.w i∧A.w i<18446744073709551616:=by
 cases h.wc with
 | p0 hp ha hs mw=>exact mw.bd
 | p1 hp ha hs mw=>exact mw.bd
 | p2 hp ha hs mw=>exact mw.bd
 | p3 hp ha hs mw=>exact mw.bd
 | p4 hp ha hs mw=>exact mw.bd
 | p5 hp ha hs mv=>exact mv.bd
 | p6 hp ha hs mw=>exact mw.bd
 | p9 hp ha hs mw=>exact mw.bd
 | p10 hp hs mw=>exact mw.bd
 | p11 hp ha mw=>exact mw.bd
theorem WI.fit (hC:C.ok) (h:WI C P q c A) (hrd:0≤c.r.rd∧c.r.rd≤1300):c.fit C A:=by
 have bd:=h.bd
 obtain ⟨hS,nn,q3,wc,nm⟩:=h
 have hn0:=hS.n0
 have hT4:tW P c≤4194000:=by unfold tW; omega
 have q0:0≤q∨True:=.inr trivial
 have hC3:=hC.C
 have n1:=nm.ev; have n2:=nm.lf; have n3:=nm.fd; have n4:=nm.mo; have n5:=nm.il
 have q1:1≤q:=WI.q1 hC (A:=A) ⟨hS,nn,q3,wc,nm⟩
 have cn:c.r.cnt:=⟨⟨n3.1,by omega⟩,⟨hrd.1,by omega⟩,⟨n5.1,by omega⟩⟩
 have w1:0≤c.r.ev∧c.r.ev≤1000000000:=by omega
 have w2:0≤c.r.lf∧c.r.lf≤1000000000:=by omega
 have w3:0≤c.r.mo∧c.r.mo≤1000000000:=by omega
 have an:c.a=none→∀ a,c.a=some a→c.r.pc=10∧a.fit C:=fun e a e'=>by rw [e] at e'; cases e'
 have sn:c.s=none→∀ a,c.s=some a→c.r.pc=11∧a.fit C A:=fun e a e'=>by rw [e] at e'; cases e'
 cases wc with
 | p0 hp ha hs mw n2 h0 hl hq=>exact ⟨by omega,fun _=>⟨h0.1,fun e=>by omega,fun _=>h0.2⟩,fun _ z=>by rw [if_pos hp]; exact hl fun e=>z ⟨hp,e⟩,fun e=>by omega,fun e=>by omega,fun e=>by omega,fun e=>by omega,fun e=>by omega,an ha,sn hs,cn,w1,w2,w3⟩
 | p1 hp ha hs mw n2 h0 hl hq=>exact ⟨by omega,fun _=>⟨h0.1,fun e=>by omega,fun _=>h0.2⟩,fun _ z=>by rw [if_neg (by omega),if_pos hp]; exact hl,fun e=>by omega,fun e=>by omega,fun e=>by omega,fun e=>by omega,fun e=>by omega,an ha,sn hs,cn,w1,w2,w3⟩
 | p2 hp ha hs mw n2 h0 hl hq=>exact ⟨by omega,fun _=>⟨h0.1,fun e=>h0.2,fun e=>absurd hp e⟩,fun _ z=>by rw [if_neg (by omega),if_neg (by omega)]; exact hl,fun e=>mw.op _ h0.1 (by omega),fun e=>by omega,fun e=>by omega,fun e=>by omega,fun e=>by omega,an ha,sn hs,cn,w1,w2,w3⟩
 | p3 hp ha hs mw n2 h0 h1 hw hq=>exact ⟨by omega,fun _=>⟨h0.1,fun e=>by omega,fun _=>h0.2⟩,fun e=>by omega,fun e=>by omega,fun _ _=>hw,fun e=>by omega,fun e=>by omega,fun e=>by omega,an ha,sn hs,cn,w1,w2,w3⟩
 | p4 hp ha hs mw ev px hq=>
  have px2:=px.x; have pu:=px.u
  have hb:=(base_of hC ev.ab.1 ev.ab.2 px2.1 (by omega)).2.2
  exact ⟨by omega,fun _=>⟨ev.ab.1,fun e=>by omega,fun _=>ev.ab.2⟩,fun e=>by omega,fun e=>by omega,fun _ _=>by rw [← ev.ecw]; exact bd _,fun _ _=>px.c,fun _ _=>⟨px2.1,by omega⟩,fun e=>by omega,an ha,sn hs,cn,w1,w2,w3⟩
 | p5 hp ha hs mv h0 px hw hq=>
  have px2:=px.x; have pu:=px.u
  have hb:=(base_of hC h0.1 h0.2 px2.1 (by omega)).2.2
  have hB:=wpos_room px
  have hf:=mv.fit hC hS (by unfold evB; omega) (by omega) nn
  exact ⟨by omega,fun _=>⟨h0.1,fun e=>by omega,fun _=>h0.2⟩,fun e=>by omega,fun e=>by omega,fun _ _=>hw,fun _ _=>px.c,fun _ _=>⟨px2.1,by omega⟩,fun _=>hf,an ha,sn hs,cn,w1,w2,w3⟩
 | p6 hp ha hs mw ev hn hq=>exact ⟨by omega,fun _=>⟨ev.ab.1,fun e=>by omega,fun _=>ev.ab.2⟩,fun e=>by omega,fun e=>by omega,fun _ _=>by rw [← ev.ecw]; exact bd _,fun e=>by omega,fun e=>by omega,fun e=>by omega,an ha,sn hs,cn,w1,w2,w3⟩
 | p9 hp ha hs mw ev hq=>exact ⟨by omega,fun _=>⟨ev.ab.1,fun e=>by omega,fun _=>ev.ab.2⟩,fun e=>by omega,fun e=>by omega,fun _ _=>by rw [← ev.ecw]; exact bd _,fun e=>by omega,fun e=>by omega,fun e=>by omega,an ha,sn hs,cn,w1,w2,w3⟩
 | p10 hp hs mw n2 ha hq=>
  refine ⟨by omega,fun e=>absurd hp e,fun e=>by omega,fun e=>by omega,fun e=>by omega,fun e=>by omega,fun e=>by omega,fun e=>by omega,fun v e=>⟨hp,?_⟩,sn hs,cn,w1,w2,w3⟩
  have:=(ha v e).2
  exact ⟨⟨by omega,by omega⟩,by omega,fun _=>by omega⟩
 | p11 hp ha mw n2 h0 hs hq=>
  refine ⟨by omega,fun _=>⟨h0.1,fun e=>by omega,fun _=>h0.2⟩,fun e=>by omega,fun e=>by omega,fun e=>by omega,fun e=>by omega,fun e=>by omega,fun e=>by omega,an ha,fun v e=>⟨hp,?_⟩,cn,w1,w2,w3⟩
  obtain ⟨v1,v3,v4,v5,v6⟩:=hs v e
  refine ⟨⟨by omega,by omega⟩,by rw [v1]; exact h0,by rw [v4]; exact bd _,fun e3=>?_⟩
  have ku:=(mw.ck _ h0.1 h0.2).u
  rw [← v4] at ku
  have q2:0≤v.at'∧v.at'<chU v.w:=by
   rcases v6 with ⟨q,_⟩ | ⟨_,q⟩ | q | q
   ·omega
   ·exact q
   ·omega
   ·omega
  have:=(base_of hC h0.1 h0.2 q2.1 (by omega)).2.2
  rw [v1]; omega
end
theorem least {p:Nat→Prop} (h:∃ n,p n):∃ n,p n∧∀ k,p k→n≤k:=by
 obtain ⟨n,hn⟩:=h
 induction n using Nat.strongRecOn with
 | ind n ih=>
  by_cases e:∃ k,k<n∧p k
  ·obtain ⟨k,k1,k2⟩:=e; exact ih k k1 k2
  ·exact ⟨n,hn,fun k hk=>Nat.le_of_not_lt fun l=>e ⟨k,l,hk⟩⟩
theorem c_roundsWZ (hN:N.ok) (hC:C.ok) (hA:isA N A σ) {p:Nat} {O:List Nat} {c:Co} {n q:Int} (Z:Co→Ar→Prop) (hn:0≤n∧n≤500) (hO:COb N p O c σ) (h0:WI C P q c A) (z0:Z c A) (hrd:0≤c.r.rd∧c.r.rd≤400)
  (hZ:∀ q c1 A1 r,WI C P q c1 A1→Z c1 A1→c1.r.rd≤1300→c1.may C A1 r→WR C P q c1 (c1.step C (-1) A1 r)→Z (c1.step C (-1) A1 r).1 (c1.step C (-1) A1 r).2)
  (hk:∀ q' c' A' O' τ,WI C P q' c' A'→Z c' A'→c'.r.rd=c.r.rd+n→(n=0∨c'.r.pc=0∧c'.r.at'=0)→isA N A' τ→COb N p O' c' τ→(∀ i ∈ O',i ∈ O∨σ.get i=none)→Keep (O ++ N.l) σ τ→K (.bool true) τ) :
  s_bn [N.env C who,.pointer (some ⟨p,0,none⟩),.int .i64 n] K σ:=by
 obtain ⟨left,hl⟩:∃ left:Co→Ar→Int,∀ c A,(∃ n:Nat,WI C P n c A)→∃ n:Nat,left c A=n∧WI C P n c A∧∀ k:Nat,WI C P k c A→n≤k:=by
  have:∀ c:Co,∃ l:Ar→Int,∀ A,(∃ n:Nat,WI C P n c A)→∃ n:Nat,l A=n∧WI C P n c A∧∀ k:Nat,WI C P k c A→n≤k:=fun c=>by
   refine Classical.axiomOfChoice (r:=fun A (l:Int)=>(∃ n:Nat,WI C P n c A)→∃ n:Nat,l=n∧WI C P n c A∧∀ k:Nat,WI C P k c A→n≤k) fun A=>?_
   by_cases h:∃ n:Nat,WI C P n c A
   ·obtain ⟨n,h1,h2⟩:=least h
    exact ⟨n,fun _=>⟨n,rfl,h1,h2⟩⟩
   ·exact ⟨0,fun e=>absurd e h⟩
  exact Classical.axiomOfChoice this
 have nat:∀ {q:Int} {c:Co} {A:Ar},WI C P q c A→∃ n:Nat,WI C P n c A:=fun {q c A} h=>by
  have:=h.q1 hC
  obtain ⟨k,rfl⟩:=Int.eq_ofNat_of_zero_le (show 0≤q by omega)
  exact ⟨k,h⟩
 refine c_rounds hN hC hA (by omega) hO (fun c A=>(∃ n:Nat,WI C P n c A)∧Z c A) left ⟨nat h0,z0⟩ ⟨hrd.1,by omega⟩ (fun c1 A1 h1 a b=>?_) (fun c1 A1 r h1 a b hm=>?_) fun c' A' O' τ h1=>?_
 ·obtain ⟨n,e,h2,_⟩:=hl c1 A1 h1.1
  have:=h2.q1 hC
  have:=h2.q3
  exact ⟨h2.fit hC (by omega),h2.nn.1,h2.nn.2,h2.bd,by omega,by omega⟩
 ·obtain ⟨n,e,h2,_⟩:=hl c1 A1 h1.1
  have hs:=h2.step (who := -1) hC (by omega) r hm
  have hz:=hZ n c1 A1 r h2 h1.2 (by omega) hm hs
  rcases hs with ⟨e1,h3⟩ | ⟨e1,h3⟩
  ·refine ⟨⟨nat h3,hz⟩,.inl ⟨e1,?_⟩⟩
   obtain ⟨n',e',_,h4⟩:=hl _ _ (nat h3)
   have q1:=h3.q1 hC
   have:(((n:Int) - 1).toNat:Int)=n - 1:=by omega
   rw [← this] at h3
   have:=h4 _ h3
   omega
  ·exact ⟨⟨nat h3,hz⟩,.inr e1⟩
 ·obtain ⟨⟨n,h2⟩,hz⟩:=h1
  exact hk n c' A' O' τ h2 hz
end Go.Fl
namespace Go.Fl
open Go
set_option linter.unusedVariables false
set_option linter.unusedSimpArgs false
variable {C:Cf} {w w':Int→Int} {P:MP} {A:Ar} {who:Int}
structure Qs where
 st:Int→Int
 us:Int→Int
 lv:Int→Int
 sc:Int→Int
 o:Int→Int
 kd:Int→Int
 sl:Int→Int
 e:Int
 fd:Int
variable {Q Qm:Qs}
structure KD (C:Cf) (P:MP) (kd:Int→Int) (w:Int→Int):Prop where
 k0:∀ j,0≤j→j<C.C→kd j=0→∀ r,0≤r→r<C.S→P.lv r=true→∀ x,0≤x→x<C.W→slA (w (C.slot r))≠C.base j+x
 k1:∀ j,0≤j→j<C.C→kd j=1→P.pd=C.base j
 k2:∀ j,0≤j→j<C.C→kd j=2→P.pd≠C.base j∧∃ s,(0≤s∧s<C.S)∧P.lv s=true∧slA (w (C.slot s))=C.base j∧∀ r,0≤r→r<C.S→P.lv r=true→r≠s→∀ x,0≤x→x<C.W→slA (w (C.slot r))≠C.base j+x
theorem KD.keep {kd:Int→Int} (h:KD C P kd w) (hr:∀ r,0≤r→r<C.S→w' (C.slot r)=w (C.slot r)):KD C P kd w':=
 ⟨fun j j0 j1 q r r0 r1 l x x0 x1=>by rw [hr r r0 r1]; exact h.k0 j j0 j1 q r r0 r1 l x x0 x1,h.k1,fun j j0 j1 q=>by
  obtain ⟨np,s,s0,l,e,o⟩:=h.k2 j j0 j1 q
  exact ⟨np,s,s0,l,by rw [hr s s0.1 s0.2]; exact e,fun r r0 r1 lr ne x x0 x1=>by rw [hr r r0 r1]; exact o r r0 r1 lr ne x x0 x1⟩⟩
structure QW (C:Cf) (P:MP) (Q:Qs) (w:Int→Int):Prop where
 st:∀ j,0≤j→j<C.C→chS (w (C.chunk j))=Q.st j
 c1:∀ j,0≤j→j<C.C→Q.st j=1→chU (w (C.chunk j))=Q.us j∧IntKind.i64.wrap (w (C.chunk j+1))=Q.lv j
 c3:∀ j,0≤j→j<C.C→Q.st j=3→w (C.chunk j+2)=Q.sc j∧0≤Q.sc j∧Q.sc j≤Q.e
 o:∀ k,0≤k→k≤3→w (2+k)=Q.o k
 e:w 0=Q.e
 kd:KD C P Q.kd w
 sl:∀ r,0≤r→r<C.S→w (C.slot r)=Q.sl r
def mayQ (C:Cf) (Q:Qs) (j:Int):Prop:=Q.st j=1∧(∀ k,0≤k→k≤3→Q.o k≠j+1)∧0<Q.us j∧(Q.lv j≤0∨IntKind.i64.wrap (1000*Q.lv j)<IntKind.i64.wrap (C.P*Q.us j))
def Qs.ev (Q:Qs) (r:Int):Qs:={ Q with st:=upd Q.st r 2 }
def Qs.qu (Q:Qs) (r:Int):Qs:={ Q with st:=upd Q.st r 3,sc:=upd Q.sc r Q.e }
def Qs.fr (Q:Qs) (j:Int):Bool:=decide (Q.st j=3∧Q.sc j+2≤Q.e)
def Qs.ep (Q:Qs):Qs:={ Q with e:=Q.e+1 }
def Qs.half (Q:Qs) (a:Int):Qs:={ Q with st:=fun j=>if j<a∧Q.fr j=true then 0 else Q.st j,fd:=Q.fd+cnt Q.fr a.toNat }
def bestQ (C:Cf) (Q:Qs) (j:Int):Prop:=mayQ C Q j∧∀ k,0≤k→k<C.C→mayQ C Q k→Q.lv j≤Q.lv k
def fullQ (C:Cf) (Q:Qs):Prop:=∀ j,0≤j→j<C.C→Q.st j≠0
def Pk (C:Cf) (Q Qm:Qs):Prop:=Qm=Q∧((∀ j,0≤j→j<C.C→¬ mayQ C Q j)∨∃ r,(0≤r∧r<C.C)∧bestQ C Q r∧(Q.kd r=1∨Q.kd r=2∧fullQ C Q))∨∃ r,(0≤r∧r<C.C)∧mayQ C Q r∧Q.kd r=0∧Qm=Q.qu r
def Qs.mv (Q:Qs) (X sc c s u l v:Int):Qs:={ Q with st:=upd Q.st sc 1,us:=upd Q.us sc u,lv:=upd Q.lv sc l,o:=upd Q.o c (sc+1),kd:=upd (upd Q.kd X 0) sc 3,sl:=upd Q.sl s v }
def Mvd (C:Cf) (P:MP) (Q Q':Qs):Prop:=∃ X sc c s u l v xs,((0≤X∧X<C.C)∧(0≤sc∧sc<C.C)∧(0≤c∧c≤3)∧(0≤s∧s<C.S)∧0≤xs∧xs<C.W)∧P.lv s=true∧c=classOf (P.z s)∧Q.kd X=2∧mayQ C Q X∧sc≠X∧(Q.st sc=0∨Q.st sc=1)∧slA v=C.base sc+xs∧slA (Q.sl s)=C.base X∧Q'=Q.mv X sc c s u l v
theorem QW.may (h:QW C P Q w) {j:Int} (j0:0≤j) (j1:j<C.C):(see C w 4 j).may C ↔ mayQ C Q j:=by
 have ho:opB w 4 j=false ↔ ∀ k,0≤k→k≤3→Q.o k≠j+1:=by
  have o0:=h.o 0 (by decide) (by decide)
  have o1:=h.o 1 (by decide) (by decide)
  have o2:=h.o 2 (by decide) (by decide)
  have o3:=h.o 3 (by decide) (by decide)
  rw [show (2:Int)+0=2 by decide] at o0
  rw [show (2:Int)+1=3 by decide] at o1
  rw [show (2:Int)+2=4 by decide] at o2
  rw [show (2:Int)+3=5 by decide] at o3
  unfold opB
  rw [decide_eq_false_iff_not,o0,o1,o2,o3]
  constructor
  ·intro q k k0 k3
   rcases (show k=0∨k=1∨k=2∨k=3 by omega) with rfl | rfl | rfl | rfl <;> omega
  ·intro q
   have:=q 0 (by decide) (by decide)
   have:=q 1 (by decide) (by decide)
   have:=q 2 (by decide) (by decide)
   have:=q 3 (by decide) (by decide)
   omega
 have e1:(see C w 4 j).st=Q.st j:=h.st j j0 j1
 unfold Sn.may mayQ
 rw [e1]
 constructor
 ·rintro ⟨a,b,c,d⟩
  obtain ⟨u,l⟩:=h.c1 j j0 j1 a
  have e2:(see C w 4 j).us=Q.us j:=u
  have e3:(see C w 4 j).live=Q.lv j:=l
  rw [e2] at c; rw [e2,e3] at d
  exact ⟨a,ho.1 b,c,d⟩
 ·rintro ⟨a,b,c,d⟩
  obtain ⟨u,l⟩:=h.c1 j j0 j1 a
  have e2:(see C w 4 j).us=Q.us j:=u
  have e3:(see C w 4 j).live=Q.lv j:=l
  rw [e2,e3]
  exact ⟨a,ho.2 b,c,d⟩
theorem QW.same (h:QW C P Q w) (hc:∀ j,0≤j→j<C.C→w' (C.chunk j)=w (C.chunk j)) (hl:∀ j,0≤j→j<C.C→Q.st j=1→w' (C.chunk j+1)=w (C.chunk j+1)) (hs:∀ j,0≤j→j<C.C→Q.st j=3→w' (C.chunk j+2)=w (C.chunk j+2))
  (ho:∀ k,0≤k→k≤3→w' (2+k)=w (2+k)) (he:w' 0=w 0) (hr:∀ r,0≤r→r<C.S→w' (C.slot r)=w (C.slot r)):QW C P Q w':=
 ⟨fun j j0 j1=>by rw [hc j j0 j1]; exact h.st j j0 j1,fun j j0 j1 q=>by rw [hc j j0 j1,hl j j0 j1 q]; exact h.c1 j j0 j1 q,fun j j0 j1 q=>by rw [hs j j0 j1 q]; exact h.c3 j j0 j1 q,fun k k0 k1=>by rw [ho k k0 k1]; exact h.o k k0 k1,by rw [he]; exact h.e,h.kd.keep hr,fun r r0 r1=>by rw [hr r r0 r1]; exact h.sl r r0 r1⟩
theorem QW.word (hC:C.ok) (h:QW C P Q w) {i y v:Int} (i0:0≤i) (i1:i<C.C) (y0:0≤y):QW C P Q (upd w (C.base i+y) v):=by
 have b:=base_ge hC i0 i1 y0
 have hT:=hC.T; have hS:=hC.S; have hCC:=hC.C
 refine h.same (fun j j0 j1=>upd_ne _ _ ?_) (fun j j0 j1 _=>upd_ne _ _ ?_) (fun j j0 j1 _=>upd_ne _ _ ?_) (fun k k0 k1=>upd_ne _ _ (by omega)) (upd_ne _ _ (by omega)) fun r r0 r1=>upd_ne _ _ (by unfold Cf.slot; omega)
 all_goals (have:=ck_lt hC j0 j1; omega)
theorem QW.ck (hC:C.ok) (h:QW C P Q w) {i v s:Int} (i0:0≤i) (i1:i<C.C) (hv:chS v=s) (h1:s=1→chU v=Q.us i∧IntKind.i64.wrap (w (C.chunk i+1))=Q.lv i) {sc:Int→Int} (h3:s=3→w (C.chunk i+2)=sc i∧0≤sc i∧sc i≤Q.e) (hsc:∀ j,j≠i→sc j=Q.sc j):QW C P { Q with st:=upd Q.st i s,sc:=sc } (upd w (C.chunk i) v):=by
 have bi:=ck_lt hC i0 i1
 have hT:=hC.T; have hS:=hC.S
 have ck:∀ j,j≠i→upd w (C.chunk i) v (C.chunk j)=w (C.chunk j):=fun j e=>upd_ne _ _ (ck_ne e).1
 have sn:∀ j,j≠i→upd Q.st i s j=Q.st j:=fun j e=>upd_ne _ _ e
 refine ⟨fun j j0 j1=>?_,fun j j0 j1 q=>?_,fun j j0 j1 q=>?_,fun k k0 k1=>by rw [upd_ne _ _ (by unfold Cf.chunk; omega)]; exact h.o k k0 k1,by rw [upd_ne _ _ (by omega)]; exact h.e,h.kd.keep fun r r0 r1=>upd_ne _ _ (by unfold Cf.chunk Cf.slot; omega),fun r r0 r1=>by rw [upd_ne _ _ (by unfold Cf.chunk Cf.slot; omega)]; exact h.sl r r0 r1⟩
 ·show chS (upd w (C.chunk i) v (C.chunk j))=upd Q.st i s j
  by_cases e:j=i
  ·subst e; rw [upd_same,upd_same]; exact hv
  ·rw [ck j e,sn j e]; exact h.st j j0 j1
 ·have q':upd Q.st i s j=1:=q
  rw [upd_ne _ _ (show C.chunk j+1≠C.chunk i by unfold Cf.chunk; omega)]
  show chU (upd w (C.chunk i) v (C.chunk j))=Q.us j∧_=Q.lv j
  by_cases e:j=i
  ·subst e; rw [upd_same] at q' ⊢; exact h1 q'
  ·rw [sn j e] at q'; rw [ck j e]; exact h.c1 j j0 j1 q'
 ·have q':upd Q.st i s j=3:=q
  rw [upd_ne _ _ (show C.chunk j+2≠C.chunk i by unfold Cf.chunk; omega)]
  show _=sc j∧0≤sc j∧sc j≤Q.e
  by_cases e:j=i
  ·subst e; rw [upd_same] at q'; exact h3 q'
  ·rw [sn j e] at q'; rw [hsc j e]; exact h.c3 j j0 j1 q'
theorem Mv2.only (hC:C.ok) (hS:MS C P) {T at' pos cw s v xs q:Int} {m:Mv} (hc:MvC C P at' pos s m) (h:Mv2 C P T at' pos cw s v xs q m A.w):((m.step C who A).2.1.a.sc=m.a.sc∧(m.step C who A).2.1.a.sa=m.a.sa)∧∀ i,i≠C.slot s→i<C.base 0→i≠C.chunk m.a.sc+1→i≠C.chunk at'+1→(m.step C who A).2.2.w i=A.w i:=by
 obtain ⟨rr,gp,gx,ga,gs,gg,gS,gne⟩:=h.geo hC hS hc
 obtain ⟨c1,c2,c3,c4,c5,c6⟩:=hc.con
 have hib:=h.ib
 have cw':∀ {a o v i:Int},i≠a→((A.by who).cas a o v).w i=A.w i:=fun {a o v i} e=>by
  rw [cas_w]; split
  ·exact upd_ne _ _ e
  ·rfl
 have hpc:2≤m.a.pc∧m.a.pc≤10:=by
  rcases h.ph with ⟨h',_⟩ | ⟨_,_,⟨_,_,⟨p,hi,_⟩ | ⟨p,hi,_⟩ | ⟨p,hi,_⟩ | ⟨p,_⟩⟩ | ⟨p,_⟩⟩ | ⟨p,_⟩
  ·rcases h' with e | ⟨e,_⟩ <;> omega
  all_goals omega
 unfold Mv.step
 rw [if_neg (show ¬ m.a.pc=0 by omega),if_neg (show ¬ m.a.pc=1 by omega),c4,c1]
 by_cases p2:m.a.pc=2
 ·rw [if_pos p2]; exact ⟨⟨rfl,rfl⟩,fun i _ i2 _ _=>upd_ne _ _ (by omega)⟩
 rw [if_neg p2]
 by_cases p3:m.a.pc=3
 ·rw [if_pos p3]; exact ⟨⟨rfl,rfl⟩,fun i i1 _ _ _=>cw' i1⟩
 rw [if_neg p3]
 by_cases p4:m.a.pc=4
 ·rw [if_pos p4]; exact ⟨⟨rfl,rfl⟩,fun i _ _ _ _=>rfl⟩
 rw [if_neg p4]
 by_cases p5:m.a.pc=5
 ·rw [if_pos p5]; exact ⟨⟨rfl,rfl⟩,fun i _ i2 _ _=>cw' (by omega)⟩
 rw [if_neg p5]
 by_cases p6:m.a.pc=6
 ·rw [if_pos p6]; exact ⟨⟨rfl,rfl⟩,fun i _ i2 _ _=>upd_ne _ _ (by omega)⟩
 rw [if_neg p6]
 by_cases p7:m.a.pc=7
 ·rw [if_pos p7]; (repeat' split) <;> exact ⟨⟨rfl,rfl⟩,fun i i1 _ _ _=>cw' i1⟩
 rw [if_neg p7]
 by_cases p8:m.a.pc=8
 ·rw [if_pos p8]; exact ⟨⟨rfl,rfl⟩,fun i _ i2 _ _=>upd_ne _ _ (by omega)⟩
 rw [if_neg p8]
 by_cases p9:m.a.pc=9
 ·rw [if_pos p9]; exact ⟨⟨rfl,rfl⟩,fun i _ _ i3 _=>upd_ne _ _ i3⟩
 rw [if_neg p9,if_pos (show m.a.pc=10 by omega),(base_of hC h.ev.ab.1 h.ev.ab.2 gp.1 (by omega)).1]
 exact ⟨⟨rfl,rfl⟩,fun i _ _ _ i4=>upd_ne _ _ i4⟩
theorem Rl.next (hC:C.ok) {c s at' sc:Int} {u:Int→Int} (h:Rl C c s at' sc u w) (hs:0≤s) (h3:c≤3) (h0:0≤c) (ho:∀ i,i≠C.slot s→i<C.base 0→i≠C.chunk sc+1→i≠C.chunk at'+1→w' i=w i) (hab:(0≤sc∧sc<C.C)∧0≤at'∧at'<C.C) (hs1:s<C.S):Rl C c s at' sc u w':=by
 have e0:C.base 0=6+C.T+2*C.S+3*C.C:=by unfold Cf.base; omega
 have hT:=hC.T; have hS:=hC.S; have hCC:=hC.C
 have ck:∀ j d,0≤j→j<C.C→0≤d→d≤2→(d=1→j≠sc∧j≠at')→w' (C.chunk j+d)=w (C.chunk j+d):=fun j d j0 j1 d0 d1 hd=>ho _ (by unfold Cf.slot Cf.chunk; omega) (by unfold Cf.chunk; omega) (by unfold Cf.chunk; omega) (by unfold Cf.chunk; omega)
 have lo:∀ i,i<6→w' i=w i:=fun i hi=>ho _ (by unfold Cf.slot; omega) (by omega) (by unfold Cf.chunk; omega) (by unfold Cf.chunk; omega)
 refine ⟨fun j j0 j1 e=>?_,h.us,fun j j0 j1 e e'=>by rw [ck j 1 j0 j1 (by decide) (by decide) fun _=>⟨e,e'⟩]; exact h.c1 j j0 j1 e e',fun j j0 j1=>by rw [ck j 2 j0 j1 (by decide) (by decide) fun x=>absurd x (by decide)]; exact h.c2 j j0 j1,fun k k0 k1 e=>by rw [lo _ (by omega)]; exact h.o k k0 k1 e,by rw [lo _ (by omega)]; exact h.oc,by rw [lo _ (by omega)]; exact h.e,fun r r0 r1 e=>by rw [ho _ (by unfold Cf.slot; omega) (by unfold Cf.slot; omega) (by unfold Cf.slot Cf.chunk; omega) (by unfold Cf.slot Cf.chunk; omega)]; exact h.sl r r0 r1 e⟩
 have:=ck j 0 j0 j1 (by decide) (by decide) fun x=>absurd x (by decide)
 rw [Int.add_zero] at this
 rw [this]; exact h.ck j j0 j1 e
def UL (C:Cf) (Q:Qs) (j:Int) (w:Int→Int):Prop:=chU (w (C.chunk j))=Q.us j∧IntKind.i64.wrap (w (C.chunk j+1))=Q.lv j
inductive MvQ (C:Cf) (P:MP) (Q:Qs) (T at' pos cw q:Int) (m:Mv) (w:Int→Int):Prop where
 | a (h:Mv0 C P T at' pos cw q m w) (lu:UL C Q at' w) (qw:QW C P Q w)
 | b (s v k:Int) (u:Int→Int) (hc:MvC C P at' pos s m) (h:Mv1 C P T at' pos cw s v q m w u k) (lu:UL C Q at' u) (qw:QW C P Q u)
 | c (s v xs:Int) (u:Int→Int) (hc:MvC C P at' pos s m) (h:Mv2 C P T at' pos cw s v xs q m w) (rl:Rl C (classOf (P.z s)) s at' m.a.sc u w) (ea:slA (u (C.slot s))=C.base at'+pos) (qw:QW C P Q u)
structure MvF (C:Cf) (P:MP) (Q:Qs) (at' pos:Int) (w:Int→Int) (s sc xs:Int) (u:Int→Int):Prop where
 sb:0≤s∧s<C.S
 l:P.lv s=true
 cb:0≤classOf (P.z s)∧classOf (P.z s)≤3
 scb:0≤sc∧sc<C.C
 ne:sc≠at'
 x:0≤xs∧xs<C.W
 st:chS (w (C.chunk sc))=1
 sl:slA (w (C.slot s))=C.base sc+xs
 ea:slA (u (C.slot s))=C.base at'+pos
 rl:Rl C (classOf (P.z s)) s at' sc u w
 qw:QW C P Q u
theorem MvQ.step (hC:C.ok) (hS:MS C P) {T at' pos cw q:Int} {m:Mv} (h:MvQ C P Q T at' pos cw q m A.w) (hT:T≤4194000) (hk:Q.kd at'=2) (hp:pos=0) :
  (m.step C who A).1=false∧(∃ q',MvQ C P Q T at' pos cw q' (m.step C who A).2.1 (m.step C who A).2.2.w)∨(m.step C who A).1=true∧(m.step C who A).2.1.a.out=4∧QW C P Q (m.step C who A).2.2.w∧fullQ C Q∧UL C Q at' (m.step C who A).2.2.w∧(m.step C who A).2.2.w (C.chunk at')=cw∨(m.step C who A).1=true∧(m.step C who A).2.1.a.out=1∧∃ s sc xs u,MvF C P Q at' pos (m.step C who A).2.2.w s sc xs u:=by
 cases h with
 | a h lu qw=>
  have hq:=h.qb
  have hz:=(class_room' h.c).1
  have hCC:=hC.C
  obtain ⟨e,⟨b,o,g⟩ | ⟨b,s,v,hc,h1⟩⟩:=h.step (who:=who) hC hS hT
  ·exfalso
   obtain ⟨_,s,s0,l,es,_⟩:=qw.kd.k2 _ h.ev.ab.1 h.ev.ab.2 hk
   exact g s s0.1 s0.2 l (by rw [es,hp,Int.add_zero])
  ·refine .inl ⟨b,q - 1,.b s v 0 A.w hc ?_ lu qw⟩
   rw [e]; exact h1
 | b s v k u hc h lu qw=>
  have hkb:=h.kb
  have kle:=h.pl.kle hC
  have rr:=hS.rm hc.sb.1 hc.sb.2 hc.l
  have esl:=(h.ob.sl hC hS (by omega) h.mw.ck hc.sb.1 hc.sb.2 hc.l).2.1
  obtain ⟨_,⟨b,hc',⟨k',h1⟩ | ⟨xs,h2,rl⟩⟩ | ⟨b,o,e,nf⟩⟩:=h.step (who:=who) hC hS hc hT (by omega)
  ·exact .inl ⟨b,q - 1,.b s v k' u hc' h1 lu qw⟩
  ·exact .inl ⟨b,q - 1,.c s v xs u hc' h2 rl esl qw⟩
  ·refine .inr (.inl ⟨b,o,by rw [e]; exact qw,fun j j0 j1=>?_,by rw [e]; exact lu,by rw [e]; exact h.ev.ecw⟩)
   rw [← qw.st j j0 j1]; exact nf j j0 j1
 | c s v xs u hc h rl ea qw=>
  obtain ⟨⟨esc,esa⟩,ho⟩:=h.only (who:=who) hC hS hc
  have hcl:0≤classOf (P.z s)∧classOf (P.z s)≤3:=⟨(hS.lv s hc.sb.1 hc.sb.2 hc.l).1,(class_bd _).2⟩
  have rl2:=rl.next hC hc.sb.1 hcl.2 hcl.1 ho ⟨h.sp.j,h.ev.ab⟩ hc.sb.2
  have hpc:(1≤q)∧(m.a.pc=2∨m.a.pc=3∨(m.a.pc=4∨m.a.pc=5)∨m.a.pc=6∨m.a.pc=7∨m.a.pc=8∨m.a.pc=9∨m.a.pc=10):=by
   have hib:=h.ib
   rcases h.ph with ⟨h',_,_,h1⟩ | ⟨_,_,⟨_,_,⟨_,_,_,h1⟩ | ⟨_,_,_,_,h1⟩ | ⟨_,_,_,_,h1⟩ | ⟨_,_,h1⟩⟩ | ⟨_,_,_,h1⟩⟩ | ⟨h',_,_,h1⟩
   ·rcases h' with e | ⟨e,_⟩ <;> omega
   all_goals omega
  have hq:=hpc.1
  have fr:Mv2R C P T at' pos cw s v xs q (m.step C who A):=by
   rcases hpc.2 with p | p | p | p | p | p | p
   ·exact h.step2 hC hS hc hT hq p
   ·exact h.step3 hC hS hc hT hq p
   ·exact h.step45 hC hS hc hT hq p
   ·exact h.step6 hC hS hc hT hq p
   ·exact h.step7 hC hS hc hT hq p
   ·exact h.step8 hC hS hc hT hq p
   ·exact h.step9 hC hS hc hT hq p
  rcases fr with ⟨b,hc',h'⟩ | ⟨b,o,hm,hev,hg,hsa⟩
  ·exact .inl ⟨b,q - 1,.c s v xs u hc' h' (by rw [esc]; exact rl2) ea qw⟩
  ·refine .inr (.inr ⟨b,o,s,m.a.sc,xs,u,hc.sb,hc.l,hcl,h.sp.j,h.sp.ne,?_,?_,?_,ea,rl2,qw⟩)
   ·have:=h.sp.x; have:=h.uW; have:=hS.rm hc.sb.1 hc.sb.2 hc.l; omega
   ·rw [ho _ (by have:=hC.S; unfold Cf.slot Cf.chunk; have:=h.sp.j; have:=hc.sb; omega) (by have:=ck_lt hC h.sp.j.1 h.sp.j.2; unfold Cf.base; omega) (by unfold Cf.chunk; omega) (by unfold Cf.chunk; omega)]; exact h.sp.st
   ·rw [hsa,esa]; exact h.sp.esa
end Go.Fl
namespace Go.Fl
open Go
set_option linter.unusedVariables false
set_option linter.unusedSimpArgs false
variable {C:Cf} {w w':Int→Int} {P:MP} {A:Ar} {who:Int} {Q Qm:Qs}
structure Tra (C:Cf) (c:Co) (w:Int→Int):Prop where
 p0:c.r.pc=0→c.r.at'≠0→∀ i:Nat,(i:Int)<c.r.at'→c.seen[i]?=some (see C w 0 i)
 p1:c.r.pc=1→(∀ i:Nat,(i:Int)<c.r.at'→c.seen[i]?=some (see C w 0 i))∧c.seen[c.r.at'.toNat]?=some (seeS (w (C.chunk c.r.at')))
 p2:c.r.pc=2→∀ i:Nat,(i:Int)<C.C→c.seen[i]?=some (see C w c.r.at' i)
inductive Md (C:Cf) (P:MP) (Q:Qs) (c:Co) (w:Int→Int):Prop where
 | look (hp:c.r.pc≤2) (qw:QW C P Q w) (tr:Tra C c w) (f:c.r.fd=Q.fd)
 | mark (hp:c.r.pc=3) (qw:QW C P Q w) (m:bestQ C Q c.r.at') (ew:c.r.w=w (C.chunk c.r.at')) (f:c.r.fd=Q.fd)
 | walk (hp:c.r.pc=4∨c.r.pc=5) (m0:c.r.pc=5→c.m.a.pc=0) (k:Q.kd c.r.at'=0) (m:mayQ C Q c.r.at') (qw:QW C P (Q.ev c.r.at') w) (f:c.r.fd=Q.fd)
 | pend (hp:c.r.pc=4∧c.r.pos=0∧Q.kd c.r.at'=1∨c.r.pc=9∧(Q.kd c.r.at'=1∨Q.kd c.r.at'=2∧fullQ C Q)) (m:bestQ C Q c.r.at') (qw:QW C P (Q.ev c.r.at') w) (u:chU c.r.w=Q.us c.r.at'∧IntKind.i64.wrap (w (C.chunk c.r.at'+1))=Q.lv c.r.at') (f:c.r.fd=Q.fd)
 | mov (hp:c.r.pc=4∨c.r.pc=5) (p0:c.r.pos=0) (k:Q.kd c.r.at'=2) (m:bestQ C Q c.r.at') (q4:c.r.pc=4→QW C P (Q.ev c.r.at') w∧UL C Q c.r.at' w) (q5:c.r.pc=5→∃ T q,T≤4194000∧MvQ C P (Q.ev c.r.at') T c.r.at' c.r.pos c.r.w q c.m w) (f:c.r.fd=Q.fd)
 | note (hp:6≤c.r.pc∧c.r.pc≤8) (k:Q.kd c.r.at'=0) (m:mayQ C Q c.r.at') (qw:QW C P (Q.ev c.r.at') w) (n7:c.r.pc=7→c.r.now=Q.e) (n8:c.r.pc=8→w (C.chunk c.r.at'+2)=Q.e) (f:c.r.fd=Q.fd)
 | epo (Qm:Qs) (hp:c.r.pc=10) (pk:Pk C Q Qm) (qw:QW C P Qm w) (f:c.r.fd=Qm.fd)
 | set (Qm:Qs) (hp:c.r.pc=11) (pk:Pk C Q Qm) (qw:QW C P (Qm.ep.half c.r.at') w) (s:∀ v,c.s=some v→(v.pc=2→v.since=w (C.chunk c.r.at'+2))∧(3≤v.pc→Qm.ep.fr c.r.at'=true)) (f:c.r.fd=(Qm.ep.half c.r.at').fd)
def okQ (C:Cf) (Q:Qs):Prop:=∀ j,0≤j→j<C.C→mayQ C Q j→Q.kd j=0∨Q.kd j=1∨Q.kd j=2
def MdR (C:Cf) (P:MP) (Q:Qs) (c:Co) (R:Co × Ar):Prop:=R.1.r.rd=c.r.rd∧R.1.r.mo=c.r.mo∧Md C P Q R.1 R.2.w∨R.1.r.rd=c.r.rd+1∧R.1.r.mo=c.r.mo∧(∃ Qm,Pk C Q Qm∧Md C P (Qm.ep.half C.C) R.1 R.2.w)∨R.1.r.rd=c.r.rd∧∃ Q',Mvd C P Q Q'∧Md C P Q' R.1 R.2.w
section
variable {q:Int} {c:Co}
theorem Md.s0 (hC:C.ok) (h:WI C P q c A) (z:Md C P Q c A.w) (hp:c.r.pc=0) (r:Int):MdR C P Q c (c.step C who A r):=by
 have st:c.step C who A r=({ c with seen:=(if c.r.at'=0 then [] else c.seen) ++ [seeS (A.w (C.chunk c.r.at'))],r:={ c.r with pc:=1 } },(A.by who).load (C.chunk c.r.at')):=by unfold Co.step; rw [if_pos hp]
 rw [st]
 obtain ⟨a0,hl⟩:(0≤c.r.at')∧(c.r.at'≠0→(c.seen.length:Int)=c.r.at'):=by
  cases h.wc with
  | p0 _ ha hs mw n2 h0 hl hq=>exact ⟨h0.1,hl⟩
  | p1 hp'=>omega
  | p2 hp'=>omega
  | p3 hp'=>omega
  | p4 hp'=>omega
  | p5 hp'=>omega
  | p6 hp'=>omega
  | p9 hp'=>omega
  | p10 hp'=>omega
  | p11 hp'=>omega
 cases z with
 | look _ qw tr f=>
  have hl':((if c.r.at'=0 then [] else c.seen).length:Int)=c.r.at':=by
   by_cases z:c.r.at'=0
   ·rw [if_pos z,z]; rfl
   ·rw [if_neg z]; exact hl z
  refine .inl ⟨rfl,rfl,.look (by decide:(1:Int)≤2) qw ⟨fun e=>absurd (show (1:Int)=0 from e) (by decide),fun _=>⟨fun i hi=>?_,?_⟩,fun e=>absurd (show (1:Int)=2 from e) (by decide)⟩ f⟩
  ·have hi':(i:Int)<c.r.at':=hi
   show ((if c.r.at'=0 then [] else c.seen) ++ [seeS (A.w (C.chunk c.r.at'))])[i]?=_
   rw [List.getElem?_append_left (by omega),if_neg (by omega)]
   exact tr.p0 hp (by omega) i hi'
  ·show ((if c.r.at'=0 then [] else c.seen) ++ [seeS (A.w (C.chunk c.r.at'))])[c.r.at'.toNat]?=_
   rw [List.getElem?_append_right (by omega),show c.r.at'.toNat - (if c.r.at'=0 then [] else c.seen).length=0 by omega]; rfl
 | mark hp'=>omega
 | walk hp'=>omega
 | pend hp'=>omega
 | mov hp'=>omega
 | note hp'=>omega
 | epo _ hp'=>omega
 | set _ hp'=>omega
theorem Md.s1 (hC:C.ok) (h:WI C P q c A) (z:Md C P Q c A.w) (hp:c.r.pc=1) (r:Int):MdR C P Q c (c.step C who A r):=by
 have st:c.step C who A r=({ c with seen:=liveS c.seen c.r.at'.toNat (IntKind.i64.wrap (A.w (C.chunk c.r.at'+1))),r:={ c.r with at':=if C.C≤c.r.at'+1 then 0 else c.r.at'+1,pc:=if C.C≤c.r.at'+1 then 2 else 0 } },(A.by who).load (C.chunk c.r.at'+1)):=by unfold Co.step; rw [if_neg (by omega),if_pos hp]
 rw [st]
 obtain ⟨a0,a1⟩:0≤c.r.at'∧c.r.at'<C.C:=by
  cases h.wc with
  | p1 _ ha hs mw n2 h0 hl hq=>exact h0
  | p0 hp'=>omega
  | p2 hp'=>omega
  | p3 hp'=>omega
  | p4 hp'=>omega
  | p5 hp'=>omega
  | p6 hp'=>omega
  | p9 hp'=>omega
  | p10 hp'=>omega
  | p11 hp'=>omega
 cases z with
 | look _ qw tr f=>
  obtain ⟨hs,hx⟩:=tr.p1 hp
  have el:∀ i:Nat,(i:Int)≤c.r.at'→(liveS c.seen c.r.at'.toNat (IntKind.i64.wrap (A.w (C.chunk c.r.at'+1))))[i]?=some (see C A.w 0 i):=fun i hi=>by
   by_cases e:(i:Int)=c.r.at'
   ·have ei:i=c.r.at'.toNat:=by omega
    subst ei
    rw [liveS_get hx,if_pos rfl,e]
    unfold see seeS; rw [opB_0]
   ·rw [liveS_get (hs i (by omega)),if_neg (by omega)]
  by_cases z:C.C≤c.r.at'+1
  ·simp only [if_pos z]
   exact .inl ⟨rfl,rfl,.look (by decide:(2:Int)≤2) qw ⟨fun e=>absurd (show (2:Int)=0 from e) (by decide),fun e=>absurd (show (2:Int)=1 from e) (by decide),fun _ i hi=>el i (by omega)⟩ f⟩
  ·simp only [if_neg z]
   exact .inl ⟨rfl,rfl,.look (by decide:(0:Int)≤2) qw ⟨fun _ _ i hi=>el i (by have hi':(i:Int)<c.r.at'+1:=hi; omega),fun e=>absurd (show (0:Int)=1 from e) (by decide),fun e=>absurd (show (0:Int)=2 from e) (by decide)⟩ f⟩
 | mark hp'=>omega
 | walk hp'=>omega
 | pend hp'=>omega
 | mov hp'=>omega
 | note hp'=>omega
 | epo _ hp'=>omega
 | set _ hp'=>omega
theorem Md.s2 (hC:C.ok) (h:WI C P q c A) (z:Md C P Q c A.w) (hp:c.r.pc=2) (r:Int) (hr:c.may C A r):MdR C P Q c (c.step C who A r):=by
 have a0:0≤c.r.at'∧c.r.at'<4:=by
  cases h.wc with
  | p2 _ ha hs mw n2 h0 hl hq=>exact h0
  | p0 hp'=>omega
  | p1 hp'=>omega
  | p3 hp'=>omega
  | p4 hp'=>omega
  | p5 hp'=>omega
  | p6 hp'=>omega
  | p9 hp'=>omega
  | p10 hp'=>omega
  | p11 hp'=>omega
 have bd:=h.bd
 cases z with
 | look _ qw tr f=>
  have el:∀ i:Nat,(i:Int)<C.C→(opS c.seen (A.w (2+c.r.at')))[i]?=some (see C A.w (c.r.at'+1) i):=fun i hi=>see_next a0.1 a0.2 (tr.p2 hp i hi)
  by_cases c4:c.r.at'+1<4
  ·have st:c.step C who A r=({ c with seen:=opS c.seen (A.w (2+c.r.at')),r:={ c.r with at':=c.r.at'+1 } },(A.by who).load (2+c.r.at')):=by unfold Co.step; rw [if_neg (by omega),if_neg (by omega),if_pos hp,if_pos c4]
   rw [st]
   exact .inl ⟨rfl,rfl,.look (by show c.r.pc≤2; omega) qw ⟨fun e=>absurd (show c.r.pc=0 from e) (by omega),fun e=>absurd (show c.r.pc=1 from e) (by omega),fun _=>el⟩ f⟩
  have e3:c.r.at'+1=4:=by omega
  obtain ⟨hch,r0,r1⟩:=hr.1 hp c4
  rw [e3] at el
  by_cases rn:r<0
  ·have hnone:∀ x ∈ opS c.seen (A.w (2+c.r.at')),¬ x.may C:=by
    rcases hch with ⟨_,q⟩ | ⟨q,_⟩
    ·exact q
    ·omega
   have st:c.step C who A r=({ c with seen:=opS c.seen (A.w (2+c.r.at')),r:={ c.r with at' := -1,pc:=10 } },(A.by who).load (2+c.r.at')):=by unfold Co.step; rw [if_neg (by omega),if_neg (by omega),if_pos hp,if_neg c4,if_pos rn]
   rw [st]
   refine .inl ⟨rfl,rfl,.epo Q rfl (.inl ⟨rfl,.inl fun j j0 j1 hm=>?_⟩) qw f⟩
   have:=el j.toNat (by omega)
   rw [show ((j.toNat:Nat):Int)=j by omega] at this
   exact hnone _ (List.mem_iff_getElem?.2 ⟨_,this⟩) ((qw.may j0 j1).2 hm)
  ·obtain ⟨x,hx,hm⟩:∃ x,(opS c.seen (A.w (2+c.r.at')))[r.toNat]?=some x∧x.may C:=by
    rcases hch with ⟨q,_⟩ | ⟨_,q⟩
    ·omega
    ·exact q
   have hx':=el r.toNat (by omega)
   rw [show ((r.toNat:Nat):Int)=r by omega,hx] at hx'
   obtain rfl:x=see C A.w 4 r:=by injection hx'
   have ew:wordS (opS c.seen (A.w (2+c.r.at'))) r.toNat=A.w (C.chunk r):=by
    unfold wordS; rw [hx]
    exact putChunk_self (bd _).1 (bd _).2
   have st:c.step C who A r=({ c with seen:=opS c.seen (A.w (2+c.r.at')),r:={ c.r with at':=r,pc:=3,w:=A.w (C.chunk r) } },(A.by who).load (2+c.r.at')):=by unfold Co.step; rw [if_neg (by omega),if_neg (by omega),if_pos hp,if_neg c4,if_neg rn,ew]
   rw [st]
   refine .inl ⟨rfl,rfl,.mark rfl qw ⟨(qw.may (by omega) r1).1 hm,fun k k0 k1 mk=>?_⟩ rfl f⟩
   have hk:=el k.toNat (by omega)
   rw [show ((k.toNat:Nat):Int)=k by omega] at hk
   have:=hr.2 hp c4 (by omega) _ hx k k0 _ hk ((qw.may k0 k1).2 mk)
   have m1:=(qw.may (by omega) r1).1 hm
   have e1:=(qw.c1 r (by omega) r1 m1.1).2
   have e2:=(qw.c1 k k0 k1 mk.1).2
   have l1:(see C A.w 4 r).live=IntKind.i64.wrap (A.w (C.chunk r+1)):=rfl
   have l2:(see C A.w 4 k).live=IntKind.i64.wrap (A.w (C.chunk k+1)):=rfl
   show Q.lv r≤Q.lv k
   omega
 | mark hp'=>omega
 | walk hp'=>omega
 | pend hp'=>omega
 | mov hp'=>omega
 | note hp'=>omega
 | epo _ hp'=>omega
 | set _ hp'=>omega
end
end Go.Fl
namespace Go.Fl
open Go
set_option linter.unusedVariables false
set_option linter.unusedSimpArgs false
variable {C:Cf} {w w':Int→Int} {P:MP} {A:Ar} {who:Int} {Q Qm:Qs} {q:Int} {c:Co}
theorem upd2 {f:Int→Int} {a x y:Int}:upd (upd f a x) a y=upd f a y:=by funext i; unfold upd; split <;> rfl
theorem upd_old {f:Int→Int} {a x y:Int} (h:f a=y):upd (upd f a x) a y=f:=by rw [upd2,← h,upd_self]
theorem QW.eqv {Q':Qs} (h:QW C P Q w) (hs:∀ j,0≤j→j<C.C→Q'.st j=Q.st j) (h1:Q'.us=Q.us) (h2:Q'.lv=Q.lv) (h3:Q'.sc=Q.sc) (h4:Q'.o=Q.o) (h5:Q'.kd=Q.kd) (h6:Q'.e=Q.e) (h7:Q'.sl=Q.sl):QW C P Q' w:=
 ⟨fun j j0 j1=>by rw [hs j j0 j1]; exact h.st j j0 j1,fun j j0 j1 e=>by rw [h1,h2]; exact h.c1 j j0 j1 (by rw [← hs j j0 j1]; exact e),fun j j0 j1 e=>by rw [h3,h6]; exact h.c3 j j0 j1 (by rw [← hs j j0 j1]; exact e),fun k k0 k1=>by rw [h4]; exact h.o k k0 k1,by rw [h6]; exact h.e,by rw [h5]; exact h.kd,fun r r0 r1=>by rw [h7]; exact h.sl r r0 r1⟩
theorem QW.ep (hC:C.ok) (h:QW C P Q w):QW C P Q.ep (upd w 0 (Q.e+1)):=by
 have hT:=hC.T; have hS:=hC.S
 refine ⟨fun j j0 j1=>?_,fun j j0 j1 e=>?_,fun j j0 j1 e=>?_,fun k k0 k1=>?_,upd_same _ _ _,h.kd.keep fun r r0 r1=>?_,fun r r0 r1=>?_⟩
 ·rw [upd_ne _ _ (by have:=ck_lt hC j0 j1; omega)]; exact h.st j j0 j1
 ·rw [upd_ne _ _ (by have:=ck_lt hC j0 j1; omega),upd_ne _ _ (by have:=ck_lt hC j0 j1; omega)]; exact h.c1 j j0 j1 e
 ·rw [upd_ne _ _ (by have:=ck_lt hC j0 j1; omega)]
  have:=h.c3 j j0 j1 e
  exact ⟨this.1,this.2.1,by show Q.sc j≤Q.e+1; omega⟩
 ·rw [upd_ne _ _ (by omega)]; exact h.o k k0 k1
 ·exact upd_ne _ _ (by unfold Cf.slot; omega)
 ·rw [upd_ne _ _ (by unfold Cf.slot; omega)]; exact h.sl r r0 r1
theorem half_next {a:Int} (a0:0≤a):cnt Q.fr (a+1).toNat=cnt Q.fr a.toNat+(if Q.fr a=true then 1 else 0):=by
 rw [show (a+1).toNat=a.toNat+1 by omega]
 show cnt Q.fr a.toNat+(if Q.fr ((a.toNat:Nat):Int)=true then 1 else 0)=_
 rw [show ((a.toNat:Nat):Int)=a by omega]
theorem Md.s3 (hC:C.ok) (h:WI C P q c A) (z:Md C P Q c A.w) (ok:okQ C Q) (hp:c.r.pc=3) (r:Int):MdR C P Q c (c.step C who A r):=by
 have h0:0≤c.r.at'∧c.r.at'<C.C:=by
  cases h.wc with
  | p3 _ ha hs mw n2 h0 h1 hw hq=>exact h0
  | p0 hp'=>omega
  | p1 hp'=>omega
  | p2 hp'=>omega
  | p4 hp'=>omega
  | p5 hp'=>omega
  | p6 hp'=>omega
  | p9 hp'=>omega
  | p10 hp'=>omega
  | p11 hp'=>omega
 cases z with
 | mark _ qw m ew f=>
  have st:c.step C who A r=({ c with r:={ c.r with pos:=0,pc:=4,w:=chw c.r.w 2 } },(A.by who).store (C.chunk c.r.at') (chw c.r.w 2)):=by
   unfold Co.step; rw [if_neg (by omega),if_neg (by omega),if_neg (by omega),if_pos hp,if_pos ew.symm,if_pos ew.symm,cas_yes (show (A.by who).w _=_ from ew.symm)]
  rw [st]
  obtain ⟨v1,v2,v3,v4⟩:=chw_put (w:=c.r.w) (st:=2) (by decide)
  have hqw:QW C P (Q.ev c.r.at') (upd A.w (C.chunk c.r.at') (chw c.r.w 2)):=qw.ck hC h0.1 h0.2 v1 (fun e=>absurd e (by decide)) (sc:=Q.sc) (fun e=>absurd e (by decide)) fun _ _=>rfl
  rcases ok _ h0.1 h0.2 m.1 with k | k | k
  ·exact .inl ⟨rfl,rfl,.walk (.inl rfl) (fun e=>absurd (show (4:Int)=5 from e) (by decide)) k m.1 hqw f⟩
  rotate_left
  ·refine .inl ⟨rfl,rfl,.mov (.inl rfl) rfl k m (fun _=>⟨hqw,?_⟩) (fun e=>absurd (show (4:Int)=5 from e) (by decide)) f⟩
   have c1:=qw.c1 _ h0.1 h0.2 m.1.1
   show chU (upd A.w (C.chunk c.r.at') (chw c.r.w 2) (C.chunk c.r.at'))=_∧IntKind.i64.wrap (upd A.w (C.chunk c.r.at') (chw c.r.w 2) (C.chunk c.r.at'+1))=_
   rw [upd_same,v3,ew,upd_ne _ _ (by unfold Cf.chunk; omega)]; exact c1
  ·refine .inl ⟨rfl,rfl,.pend (.inl ⟨rfl,rfl,k⟩) m hqw ?_ f⟩
   have c1:=qw.c1 _ h0.1 h0.2 m.1.1
   show chU (chw c.r.w 2)=_∧IntKind.i64.wrap (upd A.w (C.chunk c.r.at') (chw c.r.w 2) (C.chunk c.r.at'+1))=_
   rw [v3,ew,upd_ne _ _ (by unfold Cf.chunk; omega)]; exact c1
 | look hp'=>omega
 | walk hp'=>omega
 | pend hp'=>omega
 | mov hp'=>omega
 | note hp'=>omega
 | epo _ hp'=>omega
 | set _ hp'=>omega
theorem Md.on {c':Co} {k u:Int} (hp:c.r.pc=4∨c.r.pc=5) (hk:Q.kd c.r.at'=0) (m:mayQ C Q c.r.at') (qw:QW C P (Q.ev c.r.at') w) (f:c.r.fd=Q.fd) {mv:Mv} {mo:Int}:Md C P Q { c with r:=({ c.r with mo:=mo }:Cr).next k u,m:=mv } w:=by
 by_cases z:u≤c.r.pos+roomOf k
 ·have e6:(if u≤c.r.pos+roomOf k then (6:Int) else 4)=6:=if_pos z
  refine .note ⟨?_,?_⟩ hk m qw (fun e=>?_) (fun e=>?_) f
  ·show 6≤(if u≤c.r.pos+roomOf k then (6:Int) else 4); omega
  ·show (if u≤c.r.pos+roomOf k then (6:Int) else 4)≤8; omega
  ·have e':(if u≤c.r.pos+roomOf k then (6:Int) else 4)=7:=e
   omega
  ·have e':(if u≤c.r.pos+roomOf k then (6:Int) else 4)=8:=e
   omega
 ·have e4:(if u≤c.r.pos+roomOf k then (6:Int) else 4)=4:=if_neg z
  refine .walk (.inl e4) (fun e=>?_) hk m qw f
  have e':(if u≤c.r.pos+roomOf k then (6:Int) else 4)=5:=e
  omega
theorem Md.s4 (hC:C.ok) (h:WI C P q c A) (z:Md C P Q c A.w) (hp:c.r.pc=4) (hrd:c.r.rd≤1300) (r:Int):MdR C P Q c (c.step C who A r):=by
 obtain ⟨hS,nn,q3,wc,nm⟩:=h
 have hn0:=hS.n0
 have hT4:tW P c≤4194000:=by unfold tW; omega
 cases wc with
 | p4 _ ha hs mw ev px hq=>
  have pr:=wpos_room px
  have px2:=px.x
  have pk:=hS.pk
  have hu:=px.u
  have hc1:chS (A.w (C.chunk c.r.at'))=2:=by rw [ev.ecw]; exact ev.c2
  have bge:=base_ge hC ev.ab.1 ev.ab.2 px2.1
  have hT:=hC.T; have hSS:=hC.S; have hCC:=hC.C; have hcc:=hS.cc
  have hd:=mw.hd _ c.r.pos ev.ab.1 ev.ab.2 (.inr hc1) px2.1 (by rw [ev.ecw]; exact px2.2) (by rw [ev.ecw]; exact px.m) (by omega)
  cases z with
  | walk _ m0 k m qw f=>
   by_cases k3:hdK (A.w (C.base c.r.at'+c.r.pos))=3
   ·have st:c.step C who A r=({ c with r:=c.r.next (chC c.r.w) (chU c.r.w) },(A.by who).load (C.base c.r.at'+c.r.pos)):=by
     unfold Co.step; rw [if_neg (by omega),if_neg (by omega),if_neg (by omega),if_neg (by omega),if_pos hp,if_pos k3]
    rw [st]
    exact .inl ⟨rfl,rfl,Md.on (c':=c) (mo:=c.r.mo) (mv:=c.m) (.inl hp) k m qw f⟩
   ·by_cases k2:hdK (A.w (C.base c.r.at'+c.r.pos))=2
    ·have st:c.step C who A r=({ c with r:={ c.r with pc:=5 },m:=Mv.new (C.base c.r.at'+c.r.pos) (hdK (A.w (C.base c.r.at'+c.r.pos))) (hdS (A.w (C.base c.r.at'+c.r.pos))) (hdT (A.w (C.base c.r.at'+c.r.pos))) (hdG (A.w (C.base c.r.at'+c.r.pos))) (hdO (A.w (C.base c.r.at'+c.r.pos))) },(A.by who).load (C.base c.r.at'+c.r.pos)):=by
      unfold Co.step; rw [if_neg (by omega),if_neg (by omega),if_neg (by omega),if_neg (by omega),if_pos hp,if_neg k3,if_pos k2]
     rw [st]
     exact .inl ⟨rfl,rfl,.walk (.inr rfl) (fun _=>rfl) k m qw f⟩
    ·exfalso
     rcases hd with e | ⟨e,_⟩ | ⟨e,_⟩
     ·exact k3 e
     ·exact k2 e
     ·rcases mw.pp with u | ⟨s,u1,u2,_,u4⟩
      ·omega
      ·exact qw.kd.k0 _ ev.ab.1 ev.ab.2 k s u1.1 u1.2 u2 c.r.pos px2.1 (by omega) (by rw [u4,e])
  | pend hpp m qw u f=>
   obtain ⟨hp0,k⟩:c.r.pos=0∧Q.kd c.r.at'=1:=by
    rcases hpp with ⟨_,a,b⟩ | ⟨a,_⟩
    ·exact ⟨a,b⟩
    ·omega
   have epd:=qw.kd.k1 _ ev.ab.1 ev.ab.2 k
   have hkk:hdK (A.w (C.base c.r.at'+c.r.pos))=P.pk:=by
    rcases mw.pp with u | ⟨s,u1,u2,_,u4⟩
    ·have:=base_ge hC ev.ab.1 ev.ab.2 (Int.le_refl 0); omega
    ·have:=(mw.at' hC hS (by omega) u1.1 u1.2 u2 (by omega) u4).1.1
     rw [if_pos rfl] at this
     rw [hp0,Int.add_zero,← epd]; exact this
   have st:c.step C who A r=({ c with r:={ c.r with pc:=9 } },(A.by who).load (C.base c.r.at'+c.r.pos)):=by
    unfold Co.step; rw [if_neg (by omega),if_neg (by omega),if_neg (by omega),if_neg (by omega),if_pos hp,if_neg (by omega),if_neg (by omega)]
   rw [st]
   exact .inl ⟨rfl,rfl,.pend (.inr ⟨rfl,.inl k⟩) m qw u f⟩
  | mov _ hp0 k m q4 q5 f=>
   obtain ⟨qw,lu⟩:=q4 hp
   obtain ⟨np,s,s0,l,es,_⟩:=qw.kd.k2 _ ev.ab.1 ev.ab.2 k
   have k2:hdK (A.w (C.base c.r.at'+c.r.pos))=2:=by
    have:=(mw.at' hC hS (by omega) s0.1 s0.2 l (by omega) es).1.1
    rw [if_neg (Ne.symm np)] at this
    rw [hp0,Int.add_zero]; exact this
   have k3:¬ hdK (A.w (C.base c.r.at'+c.r.pos))=3:=by omega
   have st:c.step C who A r=({ c with r:={ c.r with pc:=5 },m:=Mv.new (C.base c.r.at'+c.r.pos) (hdK (A.w (C.base c.r.at'+c.r.pos))) (hdS (A.w (C.base c.r.at'+c.r.pos))) (hdT (A.w (C.base c.r.at'+c.r.pos))) (hdG (A.w (C.base c.r.at'+c.r.pos))) (hdO (A.w (C.base c.r.at'+c.r.pos))) },(A.by who).load (C.base c.r.at'+c.r.pos)):=by
    unfold Co.step; rw [if_neg (by omega),if_neg (by omega),if_neg (by omega),if_neg (by omega),if_pos hp,if_neg k3,if_pos k2]
   rw [st]
   obtain ⟨t0,c0⟩:(0≤hdT (A.w (C.base c.r.at'+c.r.pos))∧hdT (A.w (C.base c.r.at'+c.r.pos))<C.S)∧0≤classOf (hdS (A.w (C.base c.r.at'+c.r.pos))):=by
    rcases hd with e | ⟨_,e1,e2⟩ | ⟨_,e⟩
    ·exact absurd e k3
    ·exact ⟨e1,e2⟩
    ·omega
   have hz:=(class_room' c0).1
   have eB:tW P c - evB c.r.w c.r.pos - (q - 1 - evB c.r.w c.r.pos)=tW P c - (q - 1):=by omega
   refine .inl ⟨rfl,rfl,.mov (.inr rfl) hp0 k m (fun e=>absurd (show (5:Int)=4 from e) (by decide)) (fun _=>⟨tW P c - evB c.r.w c.r.pos,q - 1 - evB c.r.w c.r.pos,by unfold evB; omega,.a ⟨rfl,k2,t0,c0,?_,ev,⟨px2.1,by show c.r.pos<C.W; omega⟩,?_⟩ lu qw⟩) f⟩
   ·rw [eB]; exact mw.mono (by omega)
   ·show 17+C.C+3*hdS (A.w (C.base c.r.at'+c.r.pos))≤q - 1 - evB c.r.w c.r.pos
    unfold evB; omega
  | look hp'=>omega
  | mark hp'=>omega
  | note hp'=>omega
  | epo _ hp'=>omega
  | set _ hp'=>omega
 | p0 hp'=>omega
 | p1 hp'=>omega
 | p2 hp'=>omega
 | p3 hp'=>omega
 | p5 hp'=>omega
 | p6 hp'=>omega
 | p9 hp'=>omega
 | p10 hp'=>omega
 | p11 hp'=>omega
theorem Md.s5 (hC:C.ok) (h:WI C P q c A) (z:Md C P Q c A.w) (hp:c.r.pc=5) (hrd:c.r.rd≤1300) (r:Int):MdR C P Q c (c.step C who A r):=by
 obtain ⟨hS,nn,q3,wc,nm⟩:=h
 have hn0:=hS.n0
 have hT4:tW P c≤4194000:=by unfold tW; omega
 cases wc with
 | p5 _ ha hs mv h0 px hw hq=>
  have pr:=wpos_room px
  have hu:=px.u
  have px2:=px.x
  have hB:0≤evB c.r.w c.r.pos:=by unfold evB; omega
  have st:c.step C who A r=({ c with r:=c.r.moved (c.m.step C who A).1 (c.m.step C who A).2.1.a.out,m:=(c.m.step C who A).2.1 },(c.m.step C who A).2.2):=by
   unfold Co.step; rw [if_neg (by omega),if_neg (by omega),if_neg (by omega),if_neg (by omega),if_neg (by omega),if_pos hp]
  cases z with
  | walk _ m0 k m qw f=>
   have e0:=m0 hp
   cases mv with
   | a h=>
    obtain ⟨e,⟨b,o,g⟩ | ⟨b,s,v,hc,h1⟩⟩:=h.step (who:=who) hC hS (by omega)
    ·rw [st,b,o]
     unfold Cr.moved
     rw [if_neg (by simp),if_neg (by decide),if_pos rfl]
     have ew:(c.m.step C who A).2.2.w=A.w:=by rw [e]; rfl
     refine .inl ⟨rfl,rfl,?_⟩
     show Md C P Q _ (c.m.step C who A).2.2.w
     rw [ew]
     exact Md.on (c':=c) (mo:=c.r.mo) (mv:=(c.m.step C who A).2.1) (.inr hp) k m qw f
    ·exfalso
     have hq:=h.qb
     have hz:=(class_room' h.c).1
     have hCC:=hC.C
     have sl:=h1.ob.sl hC hS (by omega) h1.mw.ck hc.sb.1 hc.sb.2 hc.l
     exact qw.kd.k0 _ h0.1 h0.2 k s hc.sb.1 hc.sb.2 hc.l c.r.pos px2.1 (by omega) sl.2.1
   | b s v k' u hc h=>have:=h.pc; omega
   | c s v xs hc h=>
    exfalso
    rcases h.ph with ⟨h',_⟩ | ⟨_,_,⟨_,_,⟨p,_⟩ | ⟨p,_⟩ | ⟨p,_⟩ | ⟨p,_⟩⟩ | ⟨p,_⟩⟩ | ⟨p,_⟩
    ·rcases h' with e | ⟨e,_⟩ <;> omega
    all_goals omega
  | look hp'=>omega
  | mark hp'=>omega
  | pend hp'=>omega
  | mov _ hp0 k m q4 q5 f=>
   obtain ⟨T,q',hT',hmv⟩:=q5 hp
   rw [st]
   rcases hmv.step (who:=who) hC hS hT' k hp0 with ⟨b,q2,h'⟩ | ⟨b,o,qw,ful,lu,ecw⟩ | ⟨b,o,s,sc,xs,u,hF⟩
   ·rw [b]
    exact .inl ⟨rfl,rfl,.mov (.inr hp) hp0 k m (fun e=>absurd (show c.r.pc=4 from e) (by omega)) (fun _=>⟨T,q2,hT',h'⟩) f⟩
   ·rw [b,o]
    unfold Cr.moved
    rw [if_neg (by simp),if_neg (by decide),if_neg (by decide)]
    refine .inl ⟨rfl,rfl,.pend (.inr ⟨rfl,.inr ⟨k,fun j j0 j1 e=>?_⟩⟩) m qw ⟨?_,lu.2⟩ f⟩
    ·by_cases ej:j=c.r.at'
     ·subst ej; rw [m.1.1] at e; exact absurd e (by decide)
     ·exact ful j j0 j1 (by show upd Q.st c.r.at' 2 j=0; rw [upd_ne _ _ ej]; exact e)
    ·have:=lu.1
     rw [ecw] at this; exact this
   ·rw [b,o]
    unfold Cr.moved
    rw [if_neg (by simp),if_pos rfl]
    obtain ⟨f1,f2,f3,f4,f5,f6,f7,f8,f9,rl,qw⟩:=hF
    rw [hp0,Int.add_zero] at f9
    generalize hw':(c.m.step C who A).2.2=A' at *
    have hsc:chS (u (C.chunk sc))=Q.st sc:=(qw.st sc f4.1 f4.2).trans (upd_ne _ _ f5)
    have hX:0≤c.r.at'∧c.r.at'<C.C:=h0
    obtain ⟨np,s2,s20,l2,es2,os2⟩:=qw.kd.k2 _ hX.1 hX.2 k
    have ess:s2=s:=by
     by_cases e:s2=s
     ·exact e
     ·have:=os2 s f1.1 f1.2 f2 (fun e'=>e e'.symm) 0 (Int.le_refl 0) (by omega)
      rw [Int.add_zero] at this
      exact absurd f9 this
    subst ess
    have hm:mayQ C (Q.mv c.r.at' sc (classOf (P.z s2)) s2 (chU (A'.w (C.chunk sc))) (IntKind.i64.wrap (A'.w (C.chunk sc+1))) (A'.w (C.slot s2))) c.r.at':=by
     obtain ⟨m1,m2,m3,m4⟩:=m.1
     refine ⟨(upd_ne _ _ (Ne.symm f5)).trans m1,fun k k0 k3=>?_,?_,?_⟩
     ·show upd Q.o (classOf (P.z s2)) (sc+1) k≠_
      by_cases e:k=classOf (P.z s2)
      ·subst e; rw [upd_same]; omega
      ·rw [upd_ne _ _ e]; exact m2 k k0 k3
     ·show 0<upd Q.us sc _ c.r.at'
      rw [upd_ne _ _ (Ne.symm f5)]; exact m3
     ·show upd Q.lv sc _ c.r.at'≤0∨IntKind.i64.wrap (1000*upd Q.lv sc _ c.r.at')<IntKind.i64.wrap (C.P*upd Q.us sc _ c.r.at')
      rw [upd_ne _ _ (Ne.symm f5),upd_ne _ _ (Ne.symm f5)]; exact m4
    have hqw:QW C P ((Q.mv c.r.at' sc (classOf (P.z s2)) s2 (chU (A'.w (C.chunk sc))) (IntKind.i64.wrap (A'.w (C.chunk sc+1))) (A'.w (C.slot s2))).ev c.r.at') A'.w:=by
     have eo:∀ j,j≠sc→(upd (upd Q.st sc 1) c.r.at' 2) j=(upd Q.st c.r.at' 2) j:=fun j e=>by
      unfold upd; split <;> first | rfl | rw [if_neg e]
     refine ⟨fun j j0 j1=>?_,fun j j0 j1 e=>?_,fun j j0 j1 e=>?_,fun k' k0 k1=>?_,rl.e.trans qw.e,⟨fun j j0 j1 e r r0 r1 l x x0 x1=>?_,fun j j0 j1 e=>?_,fun j j0 j1 e=>?_⟩,fun r r0 r1=>?_⟩
     ·show chS _=upd (upd Q.st sc 1) c.r.at' 2 j
      by_cases e:j=sc
      ·subst e; rw [upd_ne _ _ f5,upd_same]; exact f7
      ·rw [eo j e,rl.ck j j0 j1 e]; exact qw.st j j0 j1
     ·have e':upd (upd Q.st sc 1) c.r.at' 2 j=1:=e
      show chU _=upd Q.us sc _ j∧IntKind.i64.wrap _=upd Q.lv sc _ j
      by_cases ej:j=sc
      ·subst ej; rw [upd_same,upd_same]; exact ⟨rfl,rfl⟩
      ·rw [eo j ej] at e'
       have hj:j≠c.r.at':=fun e2=>by rw [e2,upd_same] at e'; exact absurd e' (by decide)
       rw [upd_ne _ _ ej,upd_ne _ _ ej,rl.ck j j0 j1 ej,rl.c1 j j0 j1 ej hj]; exact qw.c1 j j0 j1 e'
     ·have e':upd (upd Q.st sc 1) c.r.at' 2 j=3:=e
      by_cases ej:j=sc
      ·subst ej; rw [upd_ne _ _ f5,upd_same] at e'; exact absurd e' (by decide)
      ·rw [eo j ej] at e'; rw [rl.c2 j j0 j1]; exact qw.c3 j j0 j1 e'
     ·show _=upd Q.o (classOf (P.z s2)) (sc+1) k'
      by_cases e:k'=classOf (P.z s2)
      ·subst e; rw [upd_same]; exact rl.oc
      ·rw [upd_ne _ _ e,rl.o k' k0 k1 e]; exact qw.o k' k0 k1
     ·have e':upd (upd Q.kd c.r.at' 0) sc 3 j=0:=e
      have ej:j≠sc:=fun e2=>by rw [e2,upd_same] at e'; exact absurd e' (by decide)
      rw [upd_ne _ _ ej] at e'
      by_cases er:r=s2
      ·subst er
       rw [f8]
       exact fun e3=>ej (base_inj hC f4.1 f4.2 f6.1 f6.2 j0 j1 x0 x1 e3).1.symm
      ·rw [rl.sl r r0 r1 er]
       by_cases e2:j=c.r.at'
       ·subst e2; exact os2 r r0 r1 l er x x0 x1
       ·rw [upd_ne _ _ e2] at e'; exact qw.kd.k0 j j0 j1 e' r r0 r1 l x x0 x1
     ·have e':upd (upd Q.kd c.r.at' 0) sc 3 j=1:=e
      have ej:j≠sc:=fun e2=>by rw [e2,upd_same] at e'; exact absurd e' (by decide)
      rw [upd_ne _ _ ej] at e'
      have e2:j≠c.r.at':=fun e2=>by rw [e2,upd_same] at e'; exact absurd e' (by decide)
      rw [upd_ne _ _ e2] at e'; exact qw.kd.k1 j j0 j1 e'
     ·have e':upd (upd Q.kd c.r.at' 0) sc 3 j=2:=e
      have ej:j≠sc:=fun e2=>by rw [e2,upd_same] at e'; exact absurd e' (by decide)
      rw [upd_ne _ _ ej] at e'
      have e2:j≠c.r.at':=fun e2=>by rw [e2,upd_same] at e'; exact absurd e' (by decide)
      rw [upd_ne _ _ e2] at e'
      obtain ⟨n3,s3,s30,l3,e3,o3⟩:=qw.kd.k2 j j0 j1 e'
      have ne3:s3≠s2:=fun e4=>by
       subst e4
       have e5:C.base c.r.at'+0=C.base j+0:=by rw [Int.add_zero,Int.add_zero,← es2,← e3]
       exact e2 (base_inj hC hX.1 hX.2 (Int.le_refl 0) (by omega) j0 j1 (Int.le_refl 0) (by omega) e5).1.symm
      refine ⟨n3,s3,s30,l3,by rw [rl.sl s3 s30.1 s30.2 ne3]; exact e3,fun r r0 r1 l ner x x0 x1=>?_⟩
      by_cases er:r=s2
      ·subst er; rw [f8]
       exact fun e4=>ej (base_inj hC f4.1 f4.2 f6.1 f6.2 j0 j1 x0 x1 e4).1.symm
      ·rw [rl.sl r r0 r1 er]; exact o3 r r0 r1 l ner x x0 x1
     ·show _=upd Q.sl s2 _ r
      by_cases er:r=s2
      ·subst er; rw [upd_same]
      ·rw [upd_ne _ _ er,rl.sl r r0 r1 er]; exact qw.sl r r0 r1
    refine .inr (.inr ⟨rfl,_,⟨c.r.at',sc,classOf (P.z s2),s2,chU (A'.w (C.chunk sc)),IntKind.i64.wrap (A'.w (C.chunk sc+1)),A'.w (C.slot s2),xs,⟨hX,f4,f3,f1,f6.1,f6.2⟩,f2,rfl,k,m.1,f5,by rw [← hsc]; exact rl.us,f8,?_,rfl⟩,?_⟩)
    ·have e1:=qw.sl s2 f1.1 f1.2
     have e2:u (C.slot s2)=Q.sl s2:=e1
     rw [← e2]; exact es2
    ·exact Md.on (c':=c) (mo:=c.r.mo+1) (mv:=(c.m.step C who A).2.1) (.inr hp) ((upd_ne _ _ (Ne.symm f5)).trans (upd_same _ _ _)) hm hqw f
  | note hp'=>omega
  | epo _ hp'=>omega
  | set _ hp'=>omega
 | p0 hp'=>omega
 | p1 hp'=>omega
 | p2 hp'=>omega
 | p3 hp'=>omega
 | p4 hp'=>omega
 | p6 hp'=>omega
 | p9 hp'=>omega
 | p10 hp'=>omega
 | p11 hp'=>omega
theorem Md.s6 (hC:C.ok) (h:WI C P q c A) (z:Md C P Q c A.w) (hp:6≤c.r.pc∧c.r.pc≤9) (r:Int):MdR C P Q c (c.step C who A r):=by
 have h0:0≤c.r.at'∧c.r.at'<C.C:=by
  cases h.wc with
  | p6 _ ha hs mw ev=>exact ev.ab
  | p9 _ ha hs mw ev=>exact ev.ab
  | p3 hp'=>omega
  | p0 hp'=>omega
  | p1 hp'=>omega
  | p2 hp'=>omega
  | p4 hp'=>omega
  | p5 hp'=>omega
  | p10 hp'=>omega
  | p11 hp'=>omega
 have b:=ck_lt hC h0.1 h0.2
 have bd:=h.bd
 have hT:=hC.T; have hS:=hC.S
 cases z with
 | note _ k m qw n7 n8 f=>
  rcases (show c.r.pc=6∨c.r.pc=7∨c.r.pc=8 by omega) with e | e | e
  ·have st:c.step C who A r=({ c with r:={ c.r with now:=A.w 0,pc:=7 } },(A.by who).load 0):=by
    unfold Co.step; rw [if_neg (by omega),if_neg (by omega),if_neg (by omega),if_neg (by omega),if_neg (by omega),if_neg (by omega),if_pos e]
   rw [st]
   exact .inl ⟨rfl,rfl,.note ⟨(by decide:(6:Int)≤7),(by decide:(7:Int)≤8)⟩ k m qw (fun _=>qw.e) (fun e=>absurd (show (7:Int)=8 from e) (by decide)) f⟩
  ·have st:c.step C who A r=({ c with r:={ c.r with pc:=8 } },(A.by who).store (C.chunk c.r.at'+2) c.r.now):=by
    unfold Co.step; rw [if_neg (by omega),if_neg (by omega),if_neg (by omega),if_neg (by omega),if_neg (by omega),if_neg (by omega),if_neg (by omega),if_pos e]
   rw [st]
   refine .inl ⟨rfl,rfl,.note ⟨(by decide:(6:Int)≤8),(by decide:(8:Int)≤8)⟩ k m ?_ (fun e=>absurd (show (8:Int)=7 from e) (by decide)) (fun _=>(upd_same _ _ _).trans (n7 e)) f⟩
   refine qw.same (fun j j0 j1=>upd_ne _ _ (by unfold Cf.chunk; omega)) (fun j j0 j1 _=>upd_ne _ _ (by unfold Cf.chunk; omega)) (fun j j0 j1 e3=>upd_ne _ _ fun e'=>?_) (fun k k0 k1=>upd_ne _ _ (by omega)) (upd_ne _ _ (by omega)) fun s s0 s1=>upd_ne _ _ (by unfold Cf.chunk Cf.slot; omega)
   have ej:j=c.r.at':=by unfold Cf.chunk at e'; omega
   have e3':upd Q.st c.r.at' 2 j=3:=e3
   rw [ej,upd_same] at e3'; exact absurd e3' (by decide)
  ·have st:c.step C who A r=({ c with r:={ c.r with ev:=c.r.ev+1,pc:=10 } },(A.by who).store (C.chunk c.r.at') (chw c.r.w 3)):=by
    unfold Co.step; rw [if_neg (by omega),if_neg (by omega),if_neg (by omega),if_neg (by omega),if_neg (by omega),if_neg (by omega),if_neg (by omega),if_neg (by omega),if_pos e]
   rw [st]
   obtain ⟨v1,v2,v3,v4⟩:=chw_put (w:=c.r.w) (st:=3) (by decide)
   have e0:0≤Q.e:=by have:=qw.e; have h1:=(bd 0).1; have:A.w 0=Q.e:=this; omega
   have key:=qw.ck hC h0.1 h0.2 v1 (fun e=>absurd e (by decide)) (sc:=upd Q.sc c.r.at' Q.e) (fun _=>by rw [upd_same]; exact ⟨n8 e,e0,Int.le_refl _⟩) fun j e=>upd_ne _ _ e
   refine .inl ⟨rfl,rfl,.epo (Q.qu c.r.at') rfl (.inr ⟨_,h0,m,k,rfl⟩) ?_ f⟩
   have ee:({ Q.ev c.r.at' with st:=upd (Q.ev c.r.at').st c.r.at' 3,sc:=upd Q.sc c.r.at' Q.e }:Qs)=Q.qu c.r.at':=by
    unfold Qs.ev Qs.qu; dsimp only; rw [upd2]
   rw [← ee]; exact key
 | pend hpp m qw u f=>
  obtain ⟨e9,k⟩:c.r.pc=9∧(Q.kd c.r.at'=1∨Q.kd c.r.at'=2∧fullQ C Q):=by
   rcases hpp with ⟨a,_⟩ | a
   ·omega
   ·exact a
  have st:c.step C who A r=({ c with r:={ c.r with lf:=c.r.lf+1,pc:=10 } },(A.by who).store (C.chunk c.r.at') (chw c.r.w 1)):=by
   unfold Co.step; rw [if_neg (by omega),if_neg (by omega),if_neg (by omega),if_neg (by omega),if_neg (by omega),if_neg (by omega),if_neg (by omega),if_neg (by omega),if_neg (by omega),if_pos e9]
  rw [st]
  obtain ⟨v1,v2,v3,v4⟩:=chw_put (w:=c.r.w) (st:=1) (by decide)
  have key:=qw.ck hC h0.1 h0.2 v1 (fun _=>by rw [v3]; exact u) (sc:=Q.sc) (fun e=>absurd e (by decide)) fun _ _=>rfl
  refine .inl ⟨rfl,rfl,.epo Q rfl (.inl ⟨rfl,.inr ⟨_,h0,m,k⟩⟩) ?_ f⟩
  have ee:({ Q.ev c.r.at' with st:=upd (Q.ev c.r.at').st c.r.at' 1,sc:=Q.sc }:Qs)=Q:=by
   unfold Qs.ev; dsimp only; rw [upd_old m.1.1]
  rw [ee] at key; exact key
 | mov hp'=>omega
 | look hp'=>omega
 | mark hp'=>omega
 | walk hp'=>omega
 | epo _ hp'=>omega
 | set _ hp'=>omega
theorem Md.s10 (hC:C.ok) (h:WI C P q c A) (z:Md C P Q c A.w) (hp:c.r.pc=10) (hrd:c.r.rd≤1300) (r:Int):MdR C P Q c (c.step C who A r):=by
 obtain ⟨hS,nn,q3,wc,nm⟩:=h
 have hn0:=hS.n0
 have hT4:tW P c≤4194000:=by unfold tW; omega
 have q1:1≤q:=WI.q1 hC (A:=A) ⟨hS,nn,q3,wc,nm⟩
 cases wc with
 | p10 _ hs mw n2 ha hq=>
  have hT:=hC.T
  have ep:=mw.ep
  have e0:=(mw.bd 0).1
  cases z with
  | epo Qm _ pk qw f=>
   have eE:=qw.e
   have go:∀ (a:Option Adv) (A':Ar),A'.w=A.w→MdR C P Q c ({ c with a:=a },A'):=fun a A' e=>.inl ⟨rfl,rfl,.epo Qm hp pk (by rw [show ({ c with a:=a },A').2.w=A.w from e]; exact qw) f⟩
   rw [step10w hp]
   cases ea:c.a with
   | none=>
    have e1:Adv.new.step C who A=(false,{ Adv.new with now:=A.w 0,pc:=1 },(A.by who).load 0):=by unfold Adv.step; rw [if_pos (show Adv.new.pc=0 from rfl)]
    rw [Option.getD_none,e1,if_neg (by simp)]
    exact go _ _ rfl
   | some v=>
    obtain ⟨v1,v2⟩:=ha v ea
    rw [Option.getD_some]
    rcases v2 with ⟨q1,q2⟩ | ⟨q1,q2⟩
    ·have z:=mw.pn _ q2.1 q2.2
     have cnd:¬ (A.w (6+v.at')≠0∧A.w (6+v.at')≠IntKind.u64.wrap (v.now+1)):=fun x=>x.1 z
     have e1:v.step C who A=(false,{ v with at':=v.at'+1,pc:=if C.T≤v.at'+1 then 2 else v.pc },(A.by who).load (6+v.at')):=by unfold Adv.step; rw [if_neg (by omega),if_pos q1,if_neg cnd]
     rw [e1,if_neg (by simp)]
     exact go _ _ rfl
    ·have wr:IntKind.u64.wrap (v.now+1)=A.w 0+1:=by rw [v1]; exact u64w (by omega) (by omega)
     have e1:v.step C who A=(true,{ v with went:=decide (A.w 0=v.now) },(A.by who).store 0 (A.w 0+1)):=by unfold Adv.step; rw [if_neg (by omega),if_neg (by omega),cas_yes (by exact v1.symm),wr]
     rw [e1,if_pos rfl,eE]
     have key:=(qw.ep hC).eqv (Q':=Qm.ep.half 0) (fun j j0 j1=>by show (if j<0∧_ then 0 else _)=_; rw [if_neg (by omega)]) rfl rfl rfl rfl rfl rfl rfl
     refine .inl ⟨rfl,rfl,.set Qm rfl pk key (fun v e=>by rw [show c.s=some v from e] at hs; cases hs) ?_⟩
     show c.r.fd=Qm.fd+((cnt Qm.ep.fr (0:Int).toNat:Nat):Int)
     rw [f]; show Qm.fd=Qm.fd+((0:Nat):Int); omega
  | look hp'=>omega
  | mark hp'=>omega
  | walk hp'=>omega
  | pend hp'=>omega
  | mov hp'=>omega
  | note hp'=>omega
  | set _ hp'=>omega
 | p0 hp'=>omega
 | p1 hp'=>omega
 | p2 hp'=>omega
 | p3 hp'=>omega
 | p4 hp'=>omega
 | p5 hp'=>omega
 | p6 hp'=>omega
 | p9 hp'=>omega
 | p11 hp'=>omega
theorem Md.set' (hC:C.ok) (hp:c.r.pc=11) (h0:0≤c.r.at'∧c.r.at'<C.C) (b:Bool) {A':Ar} (pk:Pk C Q Qm) (hb:Qm.ep.fr c.r.at'=b) (qw:QW C P (Qm.ep.half (c.r.at'+1)) A'.w) (f:c.r.fd=(Qm.ep.half c.r.at').fd):MdR C P Q c ({ c with s:=none,r:=c.r.settled C b },A'):=by
 have efd:(if b=true then c.r.fd+1 else c.r.fd)=(Qm.ep.half (c.r.at'+1)).fd:=by
  show _=Qm.fd+((cnt Qm.ep.fr (c.r.at'+1).toNat:Nat):Int)
  have f':c.r.fd=Qm.fd+((cnt Qm.ep.fr c.r.at'.toNat:Nat):Int):=f
  rw [half_next h0.1,hb]
  split <;> omega
 unfold Cr.settled
 by_cases z:C.C≤c.r.at'+1
 ·simp only [if_pos z]
  have ec:c.r.at'+1=C.C:=by omega
  rw [ec] at qw efd
  exact .inr (.inl ⟨rfl,rfl,Qm,pk,.look (by decide:(0:Int)≤2) qw ⟨fun _ e=>absurd rfl e,fun e=>absurd (show (0:Int)=1 from e) (by decide),fun e=>absurd (show (0:Int)=2 from e) (by decide)⟩ efd⟩)
 ·simp only [if_neg z]
  exact .inl ⟨rfl,rfl,.set Qm hp pk qw (fun v e=>by cases e) efd⟩
theorem Md.s11 (hC:C.ok) (h:WI C P q c A) (z:Md C P Q c A.w) (hp:c.r.pc=11) (hrd:c.r.rd≤1300) (r:Int):MdR C P Q c (c.step C who A r):=by
 obtain ⟨hS,nn,q3,wc,nm⟩:=h
 have hn0:=hS.n0
 have hT4:tW P c≤4194000:=by unfold tW; omega
 have q1:1≤q:=WI.q1 hC (A:=A) ⟨hS,nn,q3,wc,nm⟩
 have hT:=hC.T; have hSS:=hC.S
 cases wc with
 | p11 _ ha mw n2 h0 hs hq=>
  have b:=ck_lt hC h0.1 h0.2
  have ep:=mw.ep
  cases z with
  | set Qm _ pk qw s f=>
   have sta:(Qm.ep.half c.r.at').st c.r.at'=Qm.st c.r.at':=if_neg (by omega)
   have ist:=qw.st _ h0.1 h0.2
   rw [sta] at ist
   -- it stays as it is
   have no:Qm.ep.fr c.r.at'=false→QW C P (Qm.ep.half (c.r.at'+1)) A.w:=fun e=>qw.eqv (fun j j0 j1=>by
    show (if j<c.r.at'+1∧Qm.ep.fr j=true then 0 else _)=(if j<c.r.at'∧Qm.ep.fr j=true then 0 else _)
    by_cases ej:j=c.r.at'
    ·subst ej; rw [if_neg (fun x=>by rw [e] at x; cases x.2),if_neg (by omega)]
    ·by_cases lt:j<c.r.at'∧Qm.ep.fr j=true
     ·rw [if_pos lt,if_pos ⟨by omega,lt.2⟩]
     ·rw [if_neg lt,if_neg (fun x=>lt ⟨by omega,x.2⟩)]) rfl rfl rfl rfl rfl rfl rfl
   have go:∀ (v:Stl) (A':Ar),QW C P (Qm.ep.half c.r.at') A'.w→(v.pc=2→v.since=A'.w (C.chunk c.r.at'+2))→(3≤v.pc→Qm.ep.fr c.r.at'=true)→MdR C P Q c ({ c with s:=some v },A'):=fun v A' hq h2 h3=>.inl ⟨rfl,rfl,.set Qm hp pk hq (fun u e=>by obtain rfl:v=u:=(by injection e); exact ⟨h2,h3⟩) f⟩
   rw [step11w hp]
   cases es:c.s with
   | none=>
    have e1:(Stl.new c.r.at').step C who A=(!decide (chS (A.w (C.chunk c.r.at'))=3),{ Stl.new c.r.at' with w:=A.w (C.chunk c.r.at'),pc:=1 },(A.by who).load (C.chunk c.r.at')):=by unfold Stl.step; rw [if_pos (show (Stl.new c.r.at').pc=0 from rfl)]; rfl
    rw [Option.getD_none,e1]
    by_cases c3:chS (A.w (C.chunk c.r.at'))=3
    ·rw [if_neg (by simp [c3])]
     exact go ⟨c.r.at',1,A.w (C.chunk c.r.at'),0,0,false⟩ ((A.by who).load (C.chunk c.r.at')) qw (fun e=>absurd (show (1:Int)=2 from e) (by decide)) (fun e=>absurd (show (3:Int)≤1 from e) (by decide))
    ·rw [if_pos (by simp [c3])]
     have nf:Qm.ep.fr c.r.at'=false:=decide_eq_false fun x=>c3 (by rw [ist]; exact x.1)
     exact Md.set' hC hp h0 false (A':=(A.by who).load (C.chunk c.r.at')) pk nf (no nf) f
   | some v=>
    obtain ⟨v1,v3,v4,v5,v6⟩:=hs v es
    obtain ⟨s2,s3⟩:=s v es
    have st3:(Qm.ep.half c.r.at').st c.r.at'=3:=by rw [sta,← ist]; exact v3
    have c3:=qw.c3 _ h0.1 h0.2 st3
    rw [Option.getD_some]
    rcases v6 with ⟨q1 | q1,q2⟩ | ⟨q1,q2⟩ | q1 | q1
    ·have e1:v.step C who A=(false,{ v with since:=A.w (C.chunk v.ch+2),pc:=2 },(A.by who).load (C.chunk v.ch+2)):=by unfold Stl.step; rw [if_neg (by omega),if_pos q1]
     rw [e1,if_neg (by simp)]
     exact go { v with since:=A.w (C.chunk v.ch+2),pc:=2 } ((A.by who).load (C.chunk v.ch+2)) qw (fun _=>by show A.w (C.chunk v.ch+2)=A.w (C.chunk c.r.at'+2); rw [v1]) (fun e=>absurd (show (3:Int)≤2 from e) (by decide))
    ·have es2:=s2 q1
     have ee:A.w 0=Qm.e+1:=qw.e
     have esc:A.w (C.chunk c.r.at'+2)=Qm.sc c.r.at':=c3.1
     have eb:0≤Qm.sc c.r.at'∧Qm.sc c.r.at'≤Qm.e+1:=c3.2
     have wr:IntKind.u64.wrap (v.since+2)=Qm.sc c.r.at'+2:=by rw [es2,esc]; exact u64w (by omega) (by omega)
     have e1:v.step C who A=(decide (A.w 0<Qm.sc c.r.at'+2),{ v with pc:=3 },(A.by who).load 0):=by unfold Stl.step; rw [if_neg (by omega),if_neg (by omega),if_pos q1,wr]
     have st3':Qm.st c.r.at'=3:=by rw [← sta]; exact st3
     rw [e1]
     by_cases cd:A.w 0<Qm.sc c.r.at'+2
     ·rw [if_pos (by simp [cd])]
      have nf:Qm.ep.fr c.r.at'=false:=decide_eq_false fun x=>by have x2:Qm.sc c.r.at'+2≤Qm.e+1:=x.2; omega
      have e5:({ v with pc:=3 }:Stl).freed=false:=v5
      rw [e5]
      exact Md.set' hC hp h0 false (A':=(A.by who).load 0) pk nf (no nf) f
     ·rw [if_neg (by simp [cd])]
      exact go { v with pc:=3 } ((A.by who).load 0) qw (fun e=>absurd (show (3:Int)=2 from e) (by decide)) fun _=>decide_eq_true ⟨st3',by show Qm.sc c.r.at'+2≤Qm.e+1; omega⟩
    ·have e1:v.step C who A=(false,{ v with at':=v.at'+1,pc:=if chU v.w≤v.at'+1 then 4 else v.pc },(A.by who).store (C.base c.r.at'+v.at') 0):=by unfold Stl.step; rw [if_neg (by omega),if_neg (by omega),if_neg (by omega),if_pos q1,v1]
     rw [e1,if_neg (by simp)]
     refine go { v with at':=v.at'+1,pc:=if chU v.w≤v.at'+1 then 4 else v.pc } ((A.by who).store (C.base c.r.at'+v.at') 0) (qw.word hC h0.1 h0.2 q2.1) (fun e=>?_) fun _=>s3 (by omega)
     have e':(if chU v.w≤v.at'+1 then (4:Int) else v.pc)=2:=e
     split at e' <;> omega
    ·have e1:v.step C who A=(false,{ v with pc:=5 },(A.by who).store (C.chunk c.r.at'+1) 0):=by unfold Stl.step; rw [if_neg (by omega),if_neg (by omega),if_neg (by omega),if_neg (by omega),if_pos q1,v1]
     rw [e1,if_neg (by simp)]
     refine go { v with pc:=5 } ((A.by who).store (C.chunk c.r.at'+1) 0) ?_ (fun e=>absurd (show (5:Int)=2 from e) (by decide)) fun _=>s3 (by omega)
     refine qw.same (fun j j0 j1=>upd_ne _ _ (by unfold Cf.chunk; omega)) (fun j j0 j1 e=>upd_ne _ _ fun e'=>?_) (fun j j0 j1 _=>upd_ne _ _ (by unfold Cf.chunk; omega)) (fun k k0 k1=>upd_ne _ _ (by omega)) (upd_ne _ _ (by omega)) fun r r0 r1=>upd_ne _ _ (by unfold Cf.chunk Cf.slot; omega)
     have ej:j=c.r.at':=by unfold Cf.chunk at e'; omega
     rw [ej,st3] at e; exact absurd e (by decide)
    ·have e1:v.step C who A=(true,{ v with freed:=true },(A.by who).store (C.chunk v.ch) (putChunk 0 0 0 (chN v.w+1))):=by unfold Stl.step; rw [if_neg (by omega),if_neg (by omega),if_neg (by omega),if_neg (by omega),if_neg (by omega)]
     rw [e1,if_pos rfl,v1]
     have hf:=s3 (by omega)
     have key:=qw.ck hC h0.1 h0.2 (v:=putChunk 0 0 0 (chN v.w+1)) (s:=0) chS0 (fun e=>absurd e (by decide)) (sc:=Qm.sc) (fun e=>absurd e (by decide)) fun _ _=>rfl
     refine Md.set' hC hp h0 true (A':=(A.by who).store (C.chunk c.r.at') (putChunk 0 0 0 (chN v.w+1))) pk hf (key.eqv (fun j j0 j1=>?_) rfl rfl rfl rfl rfl rfl rfl) f
     show (if j<c.r.at'+1∧Qm.ep.fr j=true then 0 else Qm.st j)=upd (Qm.ep.half c.r.at').st c.r.at' 0 j
     by_cases ej:j=c.r.at'
     ·subst ej; rw [upd_same,if_pos ⟨by omega,hf⟩]
     ·rw [upd_ne _ _ ej]
      show _=(if j<c.r.at'∧Qm.ep.fr j=true then 0 else Qm.st j)
      by_cases lt:j<c.r.at'∧Qm.ep.fr j=true
      ·rw [if_pos lt,if_pos ⟨by omega,lt.2⟩]
      ·rw [if_neg lt,if_neg (fun x=>lt ⟨by omega,x.2⟩)]
  | look hp'=>omega
  | mark hp'=>omega
  | walk hp'=>omega
  | pend hp'=>omega
  | mov hp'=>omega
  | note hp'=>omega
  | epo _ hp'=>omega
 | p0 hp'=>omega
 | p1 hp'=>omega
 | p2 hp'=>omega
 | p3 hp'=>omega
 | p4 hp'=>omega
 | p5 hp'=>omega
 | p6 hp'=>omega
 | p9 hp'=>omega
 | p10 hp'=>omega
theorem Md.step (hC:C.ok) (h:WI C P q c A) (z:Md C P Q c A.w) (ok:okQ C Q) (hrd:c.r.rd≤1300) (r:Int) (hr:c.may C A r):MdR C P Q c (c.step C who A r):=by
 have hw:=h.wc
 cases hw with
 | p0 hp=>exact Md.s0 hC h z hp r
 | p1 hp=>exact Md.s1 hC h z hp r
 | p2 hp=>exact Md.s2 hC h z hp r hr
 | p3 hp=>exact Md.s3 hC h z ok hp r
 | p4 hp=>exact Md.s4 hC h z hp hrd r
 | p5 hp=>exact Md.s5 hC h z hp hrd r
 | p6 hp=>exact Md.s6 hC h z ⟨hp.1,by omega⟩ r
 | p9 hp=>exact Md.s6 hC h z ⟨by omega,by omega⟩ r
 | p10 hp=>exact Md.s10 hC h z hp hrd r
 | p11 hp=>exact Md.s11 hC h z hp hrd r
end Go.Fl
namespace Go.Fl
open Go
set_option linter.unusedVariables false
set_option linter.unusedSimpArgs false
variable {C:Cf} {w:Int→Int} {P:MP} {A:Ar} {who:Int}
def MP.re (P:MP) (pd pk:Int):MP:={ P with pd:=pd,pk:=pk }
theorem MS.re (hS:MS C P) {pd pk:Int} (h:pk=0∨pk=1):MS C (P.re pd pk):=⟨hS.cc,hS.lv,hS.dd,h,hS.n0⟩
theorem MW.repd (hC:C.ok) (hS:MS C P) {t s a pd pk:Int} (h:MW C P t (-1) (-1) w) (ht:t≤4194303) (s0:0≤s) (s1:s<C.S) (l:P.lv s=true) (es:slA (w (C.slot s))=a) (hp:P.pd = -1∨P.pd=a) (hq:pd = -1∨pd=a) (hk:pk=0∨pk=1) :
  MW C (P.re pd pk) t (-1) (-1) (upd w a ((P.re pd pk).hw s a)):=by
 have hS2:MS C (P.re pd pk):=hS.re hk
 obtain ⟨hh,v,o⟩:=h.at' hC hS ht s0 s1 l (by omega) es
 obtain ⟨j,x,p⟩:=o.pl
 have px:=p.xb
 have ku:=(h.ck j p.jb.1 p.jb.2).u
 have rr:=hS.rm s0 s1 l
 have bg:=base_ge hC p.jb.1 p.jb.2 px.1
 rw [← p.ea] at bg
 have hT:=hC.T; have hSS:=hC.S; have hCC:=hC.C
 have wc:∀ i,0≤i→i<C.C→upd w a ((P.re pd pk).hw s a) (C.chunk i)=w (C.chunk i):=fun i i0 i1=>upd_ne _ _ (by have:=ck_lt hC i0 i1; omega)
 have ws:∀ r,r<C.S→upd w a ((P.re pd pk).hw s a) (C.slot r)=w (C.slot r):=fun r r1=>upd_ne _ _ (by unfold Cf.slot; omega)
 have pl2:∀ {r b i y},Pla C P w r b i y→Pla C (P.re pd pk) (upd w a ((P.re pd pk).hw s a)) r b i y:=fun {r b i y} q=>⟨q.ea,q.jb,by rw [wc i q.jb.1 q.jb.2]; exact q.xb,q.m,by rw [wc i q.jb.1 q.jb.2]; exact q.c,by rw [wc i q.jb.1 q.jb.2]; exact q.st⟩
 have hn:=hw_hd (P:=P.re pd pk) (a:=a) hC hS2 s0 s1 l
 refine ⟨w64u h.bd (putHead_in _ _ _ _ _),fun i i0 i1=>by rw [wc i i0 i1]; exact h.ck i i0 i1,fun i y i0 i1 hs y0 y1 ym hne=>?_,fun r r0 r1 lr=>by rw [ws r r1]; exact h.dd r r0 r1 lr,fun r r0 r1 lr hm=>?_,fun k k0 k1=>by rw [upd_ne _ _ (by omega)]; exact h.op k k0 k1,by rw [upd_ne _ _ (by omega)]; exact h.ep,fun i i0 i1=>by rw [upd_ne _ _ (by omega)]; exact h.pn i i0 i1,?_⟩
 ·rw [wc i i0 i1] at hs y1 ym
  by_cases e:C.base i+y=a
  ·rw [e,upd_same]
   by_cases q:a=pd
   ·refine .inr (.inr ⟨q,?_⟩)
    rw [hn.1]; exact if_pos q
   ·refine .inr (.inl ⟨?_,by rw [hn.2.2.1]; exact ⟨s0,s1⟩,by rw [hn.2.1]; exact (hS.lv s s0 s1 l).1⟩)
    rw [hn.1]; exact if_neg q
  ·rw [upd_ne _ _ e]
   have b2:=base_ge hC i0 i1 y0
   rcases h.hd i y i0 i1 hs y0 y1 ym (by omega) with q | q | ⟨q,_⟩
   ·exact .inl q
   ·exact .inr (.inl q)
   ·rcases hp with u | u <;> omega
 ·by_cases e:r=s
  ·subst e
   refine ⟨a,v,by rw [ws r r1]; exact o.sw,o.vb,⟨j,x,pl2 p⟩,upd_same _ _ _,fun k k0 k1=>?_⟩
   rw [upd_ne _ _ (by omega)]; exact o.ce k k0 k1
  ·obtain ⟨b,u,ob⟩:=h.lv r r0 r1 lr hm
   have slb:=(ob.sl hC hS ht h.ck r0 r1 lr).2.1
   obtain ⟨i,y,q⟩:=ob.pl
   have qx:=q.xb
   have qu:=(h.ck i q.jb.1 q.jb.2).u
   have rq:=hS.rm r0 r1 lr
   have hb:=(h.at' hC hS ht r0 r1 lr hm slb).1
   have ne:b≠a:=fun e2=>by
    subst e2
    have h1:=hb.2.2.1; have h2:=hh.2.2.1
    omega
   have off:∀ d,0≤d→d≤P.z r→b+d≠a:=fun d d0 d1 e2=>by
    have e3:C.base i+(y+d)=C.base j+x:=by rw [← p.ea,← e2,q.ea]; omega
    obtain ⟨e4,e5⟩:=base_inj hC q.jb.1 q.jb.2 (by omega) (by omega) p.jb.1 p.jb.2 px.1 (by omega) e3
    subst e4
    refine Pla.off (d:=0) (y:=x) hC hS ⟨s0,s1⟩ l r0 r1 lr q p.c p.m (fun e6=>ne (by rw [e6,p.ea])) ⟨Int.le_refl 0,by omega⟩ ⟨by omega,by omega⟩
   refine ⟨b,u,by rw [ws r r1]; exact ob.sw,ob.vb,⟨i,y,pl2 q⟩,?_,fun k k0 k1=>?_⟩
   ·have e2:=off 0 (Int.le_refl 0) (by omega)
    rw [Int.add_zero] at e2
    have n1:b≠P.pd:=by
     have:=base_ge hC q.jb.1 q.jb.2 qx.1
     rw [← q.ea] at this
     rcases hp with u | u <;> omega
    have n2:b≠pd:=by
     have:=base_ge hC q.jb.1 q.jb.2 qx.1
     rw [← q.ea] at this
     rcases hq with u | u <;> omega
    rw [upd_ne _ _ e2,ob.hd]
    unfold MP.hw
    rw [if_neg n1,if_neg (show b≠(P.re pd pk).pd from n2)]; rfl
   ·have:=off (1+k) (by omega) (by have k1':k<P.z r:=k1; omega)
    rw [upd_ne _ _ (by omega)]; exact ob.ce k k0 k1
 ·rcases hq with u | u
  ·exact .inl u
  ·refine .inr ⟨s,⟨s0,s1⟩,l,by omega,?_⟩
   rw [ws s s1,es]; exact u.symm
structure Gvn1 where
 nx:Int
 c:Int
 s:Int
 us:Int→Int
 lv:Int→Int
 sl:Int→Int
structure UQ (C:Cf) (G:Gvn1) (κ:Int) (Q:Qs):Prop where
 c8:C.C=8∧C.P=600
 nx:1≤G.nx∧G.nx≤8
 cb:0≤G.c∧G.c≤3
 k0:Q.kd 0=κ∧(κ=1∨κ=2)
 kn:∀ j,1≤j→j<8→Q.kd j=0
 oc:Q.o G.c=G.nx
 oo:∀ k,0≤k→k≤3→k≠G.c→Q.o k=0
 us:Q.us=G.us
 lv:Q.lv=G.lv
 sl:Q.sl=G.sl
 g0:0<G.us 0∧G.us 0≤40∧1≤G.lv 0∧G.lv 0≤17∧(2≤G.nx→1000*G.lv 0<600*G.us 0)
 gn:∀ j,1≤j→j<G.nx→0<G.us j∧G.lv j≤0
 s0:Q.st 0=1
 sn:∀ j,1≤j→j<G.nx - 1→Q.st j=0∨Q.st j=1∨Q.st j=3
 so:2≤G.nx→Q.st (G.nx - 1)=1
 sf:∀ j,G.nx≤j→j<8→Q.st j=0
 q3:∀ j,0≤j→j<8→Q.st j=3→Q.sc j+1≤Q.e
 e0:0≤Q.e
 nd:(cnt (fun j=>decide (1≤j∧j<G.nx - 1∧Q.st j=1)) 8:Int)+Q.e≤6∨cnt (fun j=>decide (1≤j∧j<G.nx - 1∧Q.st j=1)) 8=0
 nq:8≤Q.e→∀ j,0≤j→j<8→Q.st j≠3
 e9:κ=2→2≤G.nx→Q.e≤9
structure VQ (C:Cf) (G:Gvn1) (Q:Qs):Prop where
 ex:∃ sc xs,((0≤sc∧sc<C.C)∧0≤xs∧xs<C.W)∧sc≠0∧Q.o G.c=sc+1∧(0≤G.c∧G.c≤3)∧slA (Q.sl G.s)=C.base sc+xs∧∀ j,0≤j→j<C.C→j≠sc→Q.kd j=0
section
variable {G:Gvn1} {κ:Int} {Q Qm:Qs}
theorem VQ.ok (h:VQ C G Q):okQ C Q:=fun j j0 j1 m=>by
 obtain ⟨sc,xs,_,_,ho,hc,_,hk⟩:=h.ex
 by_cases e:j=sc
 ·subst e; exact absurd ho (m.2.1 G.c hc.1 hc.2)
 ·exact .inl (hk j j0 j1 e)
theorem VQ.next (h:VQ C G Q) (pk:Pk C Q Qm):VQ C G (Qm.ep.half C.C):=by
 obtain ⟨sc,xs,h1,h2,h3,h4,h5,h6⟩:=h.ex
 rcases pk with ⟨rfl,_⟩ | ⟨r,_,_,_,rfl⟩ <;> exact ⟨sc,xs,h1,h2,h3,h4,h5,h6⟩
theorem VQ.no {Q':Qs} (h:VQ C G Q) (hv:Mvd C P Q Q'):False:=by
 obtain ⟨X,sc',_,_,_,_,_,_,⟨hX,_⟩,_,_,k,m,_⟩:=hv
 obtain ⟨sc,xs,h1,h2,h3,h4,h5,h6⟩:=h.ex
 by_cases e:X=sc
 ·subst e; exact absurd h3 (m.2.1 G.c h4.1 h4.2)
 ·rw [h6 X hX.1 hX.2 e] at k; exact absurd k (by decide)
theorem UQ.may0 (h:UQ C G κ Q) (h2:2≤G.nx):mayQ C Q 0:=by
 have g:=h.g0
 refine ⟨h.s0,fun k k0 k3=>?_,by rw [h.us]; exact g.1,.inr ?_⟩
 ·by_cases e:k=G.c
  ·subst e; rw [h.oc]; omega
  ·rw [h.oo k k0 k3 e]; decide
 ·rw [h.lv,h.us,h.c8.2,IntWalk.i64_in (1000*G.lv 0) (by omega),IntWalk.i64_in (600*G.us 0) (by omega)]
  exact g.2.2.2.2 h2
theorem UQ.may (h:UQ C G κ Q) {j:Int} (j0:0≤j) (j1:j<C.C) (m:mayQ C Q j):(j=0∧2≤G.nx)∨(1≤j∧j<G.nx - 1)∧Q.st j=1:=by
 have hc:=h.c8
 have hn:=h.nx
 obtain ⟨m1,m2,_⟩:=m
 have hne:j+1≠G.nx:=fun e=>m2 G.c h.cb.1 h.cb.2 (by rw [h.oc]; exact e.symm)
 by_cases e:j<G.nx
 ·by_cases z:j=0
  ·exact .inl ⟨z,by omega⟩
  ·exact .inr ⟨⟨by omega,by omega⟩,m1⟩
 ·have:=h.sf j (by omega) (by omega); omega
theorem UQ.ok (h:UQ C G κ Q):okQ C Q:=fun j j0 j1 m=>by
 have hc:=h.c8
 have hn:=h.nx
 rcases h.may j0 j1 m with ⟨e,_⟩ | ⟨e,_⟩
 ·rw [e,h.k0.1]; rcases h.k0.2 with q | q
  ·exact .inr (.inl q)
  ·exact .inr (.inr q)
 ·exact .inl (h.kn j e.1 (by omega))
theorem UQ.mayD (h:UQ C G κ Q) {j:Int} (j0:1≤j) (j1:j<G.nx - 1) (s:Q.st j=1):mayQ C Q j:=by
 have g:=h.gn j j0 (by omega)
 refine ⟨s,fun k k0 k3=>?_,by rw [h.us]; exact g.1,.inl (by rw [h.lv]; exact g.2)⟩
 by_cases e:k=G.c
 ·subst e; rw [h.oc]; omega
 ·rw [h.oo k k0 k3 e]; omega
theorem UQ.next (h:UQ C G κ Q) (pk:Pk C Q Qm):UQ C G κ (Qm.ep.half C.C):=by
 have hc:=h.c8
 have hn:=h.nx
 have he:=h.e0
 rw [hc.1]
 -- the states behind the round
 have key:∀ r:Int,(r = -1∧Qm=Q∨(1≤r∧r<G.nx - 1)∧Q.st r=1∧Qm=Q.qu r)→∀ j,0≤j→j<8→(Qm.ep.half 8).st j=if j=r then 3 else if Q.st j=3 then 0 else Q.st j:=fun r hr j j0 j1=>by
  show (if j<8∧Qm.ep.fr j=true then 0 else Qm.st j)=_
  rcases hr with ⟨rfl,rfl⟩ | ⟨hr,hr1,rfl⟩
  ·rw [if_neg (show ¬ j = -1 by omega)]
   by_cases s:Qm.st j=3
   ·have f:Qm.ep.fr j=true:=decide_eq_true ⟨s,by have:=h.q3 j j0 j1 s; show Qm.sc j+2≤Qm.e+1; omega⟩
    rw [if_pos ⟨j1,f⟩,if_pos s]
   ·have f:Qm.ep.fr j=false:=decide_eq_false fun x=>s x.1
    rw [if_neg (fun x=>by rw [f] at x; cases x.2),if_neg s]
  ·by_cases e:j=r
   ·subst e
    have s3:(Q.qu j).st j=3:=by show upd Q.st j 3 j=3; exact upd_same _ _ _
    have f:(Q.qu j).ep.fr j=false:=decide_eq_false fun x=>by
     have x2:upd Q.sc j Q.e j+2≤Q.e+1:=x.2
     rw [upd_same] at x2; omega
    rw [if_neg (fun x=>by rw [f] at x; cases x.2),if_pos rfl,s3]
   ·have sj:(Q.qu r).st j=Q.st j:=by show upd Q.st r 3 j=Q.st j; exact upd_ne _ _ e
    have cj:(Q.qu r).sc j=Q.sc j:=by show upd Q.sc r Q.e j=Q.sc j; exact upd_ne _ _ e
    rw [if_neg e,sj]
    by_cases s:Q.st j=3
    ·have f:(Q.qu r).ep.fr j=true:=decide_eq_true ⟨sj.trans s,by have:=h.q3 j j0 j1 s; show (Q.qu r).sc j+2≤Q.e+1; omega⟩
     rw [if_pos ⟨j1,f⟩,if_pos s]
    ·have f:(Q.qu r).ep.fr j=false:=decide_eq_false fun x=>s (sj.symm.trans x.1)
     rw [if_neg (fun x=>by rw [f] at x; cases x.2),if_neg s]
 obtain ⟨r,hr,hlast⟩:∃ r:Int,(r = -1∧Qm=Q∨(1≤r∧r<G.nx - 1)∧Q.st r=1∧Qm=Q.qu r)∧(r = -1→cnt (fun j=>decide (1≤j∧j<G.nx - 1∧Q.st j=1)) 8=0∧(κ=2→2≤G.nx→fullQ C Q)):=by
  rcases pk with ⟨rfl,e⟩ | ⟨r,rb,m,k,rfl⟩
  ·refine ⟨-1,.inl ⟨rfl,rfl⟩,fun _=>?_⟩
   rcases e with e | ⟨r,rb,m,k⟩
   ·have n1:¬ 2≤G.nx:=fun q=>e 0 (Int.le_refl 0) (by omega) (h.may0 q)
    exact ⟨cnt_none fun j j0 j1=>decide_eq_false (by omega),fun _ q=>absurd q n1⟩
   ·rcases h.may rb.1 rb.2 m.1 with ⟨z,q2⟩ | ⟨z,_⟩
    ·subst z
     refine ⟨cnt_none fun j j0 j1=>decide_eq_false fun ⟨a,b,s⟩=>?_,fun ek q=>?_⟩
     ·have:=m.2 j j0 (by omega) (h.mayD a b s)
      rw [h.lv] at this
      have g:=h.gn j a (by omega)
      have g0:=h.g0
      omega
     ·rcases k with k | ⟨_,k⟩
      ·rw [h.k0.1] at k; omega
      ·exact k
    ·rw [h.kn r z.1 (by omega)] at k
     rcases k with k | ⟨k,_⟩ <;> exact absurd k (by decide)
  ·rcases h.may rb.1 rb.2 m with ⟨z,_⟩ | ⟨z,s⟩
   ·subst z; rw [h.k0.1] at k; have:=h.k0.2; omega
   ·exact ⟨r,.inr ⟨z,s,rfl⟩,fun e=>by omega⟩
 have st:=key r hr
 have hQ:Qm.us=Q.us∧Qm.lv=Q.lv∧Qm.o=Q.o∧Qm.kd=Q.kd∧Qm.sl=Q.sl∧Qm.e=Q.e:=by
  rcases hr with ⟨_,rfl⟩ | ⟨_,_,rfl⟩ <;> exact ⟨rfl,rfl,rfl,rfl,rfl,rfl⟩
 have ee:(Qm.ep.half 8).e=Q.e+1:=by show Qm.e+1=_; rw [hQ.2.2.2.2.2]
 have rb:r = -1∨1≤r∧r<G.nx - 1:=by rcases hr with ⟨e,_⟩ | ⟨e,_⟩ <;> omega
 -- how many are left
 have hcnt:cnt (fun j=>decide (1≤j∧j<G.nx - 1∧(Qm.ep.half 8).st j=1)) 8=cnt (fun j=>decide (1≤j∧j<G.nx - 1∧Q.st j=1∧j≠r)) 8:=by
  refine cnt_congr fun j j0 j1=>?_
  rw [st j j0 (by omega)]
  by_cases e:j=r
  ·rw [if_pos e,decide_eq_false (by omega),decide_eq_false (fun x=>x.2.2.2 e)]
  ·rw [if_neg e]
   by_cases s3:Q.st j=3
   ·rw [if_pos s3,decide_eq_false (by omega),decide_eq_false (by omega)]
   ·rw [if_neg s3]
    by_cases q:1≤j∧j<G.nx - 1∧Q.st j=1
    ·rw [decide_eq_true q,decide_eq_true ⟨q.1,q.2.1,q.2.2,e⟩]
    ·rw [decide_eq_false q,decide_eq_false fun x=>q ⟨x.1,x.2.1,x.2.2.1⟩]
 have hnd:(r = -1→cnt (fun j=>decide (1≤j∧j<G.nx - 1∧(Qm.ep.half 8).st j=1)) 8=0)∧(r ≠ -1→cnt (fun j=>decide (1≤j∧j<G.nx - 1∧Q.st j=1)) 8=cnt (fun j=>decide (1≤j∧j<G.nx - 1∧(Qm.ep.half 8).st j=1)) 8+1):=by
  rw [hcnt]
  refine ⟨fun e=>?_,fun e=>?_⟩
  ·have:=cnt_zero (hlast e).1
   exact cnt_none fun j j0 j1=>decide_eq_false fun x=>by
    have y:=this j j0 j1
    rw [decide_eq_true ⟨x.1,x.2.1,x.2.2.1⟩] at y; cases y
  ·rcases hr with ⟨e',_⟩ | ⟨a,s,_⟩
   ·exact absurd e' e
   ·refine cnt_off (i:=r) (decide_eq_true ⟨a.1,a.2,s⟩) (decide_eq_false fun x=>x.2.2.2 rfl) (by omega) (by omega) fun j j0 j1 ne=>?_
    by_cases q:1≤j∧j<G.nx - 1∧Q.st j=1
    ·rw [decide_eq_true q,decide_eq_true ⟨q.1,q.2.1,q.2.2,ne⟩]
    ·rw [decide_eq_false q,decide_eq_false fun x=>q ⟨x.1,x.2.1,x.2.2.1⟩]
 have hnd0:=h.nd
 refine ⟨hc,hn,h.cb,by show Qm.kd 0=κ∧_; rw [hQ.2.2.2.1]; exact h.k0,by show ∀ j,1≤j→j<8→Qm.kd j=0; rw [hQ.2.2.2.1]; exact h.kn,by show Qm.o G.c=_; rw [hQ.2.2.1]; exact h.oc,by show ∀ k,0≤k→k≤3→k≠G.c→Qm.o k=0; rw [hQ.2.2.1]; exact h.oo,hQ.1.trans h.us,hQ.2.1.trans h.lv,hQ.2.2.2.2.1.trans h.sl,h.g0,h.gn,?_,fun j j0 j1=>?_,fun q=>?_,fun j j0 j1=>?_,fun j j0 j1 s=>?_,by rw [ee]; omega,?_,fun e8 j j0 j1 s=>?_,fun ek q=>?_⟩
 ·rw [st 0 (by decide) (by decide),if_neg (by omega),if_neg (by rw [h.s0]; decide)]; exact h.s0
 ·rw [st j (by omega) (by omega)]
  by_cases e:j=r
  ·rw [if_pos e]; exact .inr (.inr rfl)
  ·rw [if_neg e]
   by_cases s3:Q.st j=3
   ·rw [if_pos s3]; exact .inl rfl
   ·rw [if_neg s3]; exact h.sn j j0 j1
 ·rw [st _ (by omega) (by omega),if_neg (by omega),if_neg (by rw [h.so q]; decide)]; exact h.so q
 ·rw [st j (by omega) j1,if_neg (by omega),if_neg (by rw [h.sf j j0 j1]; decide)]; exact h.sf j j0 j1
 ·rw [ee]
  rw [st j j0 j1] at s
  by_cases e:j=r
  ·rcases hr with ⟨a,_⟩ | ⟨_,_,rfl⟩
   ·omega
   ·subst e
    show upd Q.sc j Q.e j+1≤_
    rw [upd_same]; exact Int.le_refl _
  ·rw [if_neg e] at s
   by_cases s3:Q.st j=3
   ·rw [if_pos s3] at s; exact absurd s (by decide)
   ·rw [if_neg s3] at s; exact absurd s s3
 ·rw [ee]
  by_cases e:r = -1
  ·exact .inr (hnd.1 e)
  ·have:=hnd.2 e
   rcases hnd0 with q | q
   ·left; omega
   ·omega
 ·rw [ee] at e8
  rw [st j j0 j1] at s
  by_cases e:j=r
  ·have er:r ≠ -1:=by omega
   have:=hnd.2 er
   rcases hnd0 with q | q <;> omega
  ·rw [if_neg e] at s
   by_cases s3:Q.st j=3
   ·rw [if_pos s3] at s; exact absurd s (by decide)
   ·rw [if_neg s3] at s; exact absurd s s3
 ·rw [ee]
  by_cases e8:8≤Q.e
  ·exfalso
   by_cases e:r = -1
   ·have hful:=(hlast e).2 ek q
    have hz:=(hlast e).1
    by_cases q3:3≤G.nx
    ·have h1:=h.sn 1 (by decide) (by omega)
     have h2:=h.nq e8 1 (by decide) (by decide)
     have h3:=cnt_zero hz 1 (by decide) (by decide)
     have h4:=hful 1 (by decide) (by omega)
     have h5:=of_decide_eq_false h3
     omega
    ·have h4:=hful 7 (by decide) (by omega)
     exact h4 (h.sf 7 (by omega) (by decide))
   ·have:=hnd.2 e
    rcases hnd0 with q | q <;> omega
  ·omega
theorem UQ.mv {Q':Qs} (h:UQ C G κ Q) (hs:slA (G.sl G.s)=C.base 0) (hone:∀ r,0≤r→r<C.S→P.lv r=true→r=G.s) (hcl:classOf (P.z G.s)=G.c) (hv:Mvd C P Q Q'):VQ C G Q'∧Q'.e=Q.e:=by
 obtain ⟨X,sc,c,s,u,l,v,xs,⟨hX,hsc,hc,hsb,hx⟩,lv,ec,k,m,ne,_,ev,_,rfl⟩:=hv
 have hcc:=h.c8
 have es:=hone s hsb.1 hsb.2 lv
 subst es
 have eX:X=0:=by
  rcases h.may hX.1 hX.2 m with ⟨z,_⟩ | ⟨z,_⟩
  ·exact z
  ·rw [h.kn X z.1 (by omega)] at k; exact absurd k (by decide)
 subst eX
 rw [hcl] at ec
 subst ec
 refine ⟨⟨sc,xs,⟨hsc,hx⟩,ne,upd_same _ _ _,hc,?_,fun j j0 j1 e=>?_⟩,rfl⟩
 ·show slA (upd Q.sl G.s v G.s)=_
  rw [upd_same]; exact ev
 ·show upd (upd Q.kd 0 0) sc 3 j=0
  rw [upd_ne _ _ e]
  by_cases z:j=0
  ·subst z; exact upd_same _ _ _
  ·rw [upd_ne _ _ z]; exact h.kn j (by omega) (by omega)
end
end Go.Fl
namespace Go.Fl
open Go
set_option linter.unusedVariables false
set_option linter.unusedSimpArgs false
variable {N:Nm} {A B:Ar} {σ:Mem} {K:Value→Mem→Prop} {C:Cf} {who:Int}
theorem cells_snoc {k:IntKind} {n:Nat} {f g:Int→Int} (h:∀ i:Int,0≤i→i<n→g i=f i):cells k n f ++ [.int k (g n)]=cells k (n+1) g:=by
 unfold cells
 rw [List.range_succ,List.map_append]
 congr 1
 apply List.map_congr_left
 intro i hi
 rw [h i (by omega) (by have:=List.mem_range.1 hi; omega)]
def updB (f:Int→Bool) (a:Int) (v:Bool):Int→Bool:=fun i=>if i=a then v else f i
def sumN (f:Int→Int):Nat→Int
 | 0=>0
 | n+1=>sumN f n+f n
theorem sumN_congr {f g:Int→Int}:∀ {n:Nat},(∀ i:Int,0≤i→i<n→f i=g i)→sumN f n=sumN g n
 | 0,_=>rfl
 | n+1,h=>by
  show sumN f n+f n=sumN g n+g n
  rw [sumN_congr (n:=n) fun i i0 i1=>h i i0 (by omega),h n (by omega) (by omega)]
theorem sumN_nn {f:Int→Int}:∀ {n:Nat},(∀ i,0≤f i)→0≤sumN f n
 | 0,_=>Int.le_refl 0
 | n+1,h=>by have:=sumN_nn (n:=n) h; have:=h n; show 0≤sumN f n+f n; omega
theorem sumN_le {f:Int→Int} {k:Int}:∀ {n:Nat},(∀ i,0≤f i)→0≤k→k<n→f k≤sumN f n
 | 0,_,h0,h1=>by omega
 | n+1,h,h0,h1=>by
  show f k≤sumN f n+f n
  by_cases e:k=n
  ·subst e; have:=sumN_nn (n:=n) h; omega
  ·have:=sumN_le (n:=n) h h0 (by omega); have:=h n; omega
theorem sumN_upd {f:Int→Int} {k v:Int}:∀ {n:Nat},0≤k→k<n→sumN (upd f k v) n=sumN f n - f k+v
 | 0,h0,h1=>by omega
 | n+1,h0,h1=>by
  show sumN (upd f k v) n+upd f k v n=sumN f n+f n - f k+v
  by_cases e:k=n
  ·subst e
   rw [upd_same,sumN_congr (f:=upd f (n:Int) v) (g:=f) fun i i0 i1=>upd_ne _ _ (by omega)]; omega
  ·rw [upd_ne _ _ (by omega),sumN_upd (n:=n) h0 (by omega)]; omega
def Do.rm (d:Do):Int:=roomOf (classOf d.z)
def part (dd:Int→Do) (li:Int→Bool) (j:Int):Int→Int:=fun k=>if li k=true∧(dd k).j=j then (dd k).rm else 0
theorem Do.rm0 {d:Do}:0<d.rm∧d.rm≤17:=by
 unfold Do.rm roomOf; (repeat' split) <;> decide
def addD (dd:Int→Do) (n:Int) (d:Do):Int→Do:=fun k=>if k=n then d else dd k
end Go.Fl
namespace Go.Fl
open Go
set_option linter.unusedVariables false
set_option linter.unusedSimpArgs false
variable {N:Nm} {A B:Ar} {σ:Mem} {K:Value→Mem→Prop} {C:Cf} {who:Int}
theorem Ph.ck (hC:C.ok) {o u:Int→Int} {nx c k:Int} {p:Pl} (c0:0≤c) (c3:c≤3) (h:Ph C o u nx c k p A.w) {j:Int} (j0:0≤j) (j1:j<nx):chC ((p.step C who A).2.2.w (C.chunk j))=chC (A.w (C.chunk j)):=by
 have hT:=hC.T; have hS:=hC.S
 have ld:∀ a,((A.by who).load a).w=A.w:=fun _=>rfl
 obtain ⟨_,hcl,h⟩:=h
 by_cases p0:p.pc=0
 ·have e:(p.step C who A).2.2=(A.by who).load (2+p.cls):=by unfold Pl.step; rw [if_pos p0]
  rw [e,ld]
 by_cases p1:p.pc=1
 ·have e:(p.step C who A).2.2=(A.by who).load (C.chunk p.at'):=by unfold Pl.step; rw [if_neg p0,if_pos p1]
  rw [e,ld]
 by_cases p3:p.pc=3
 ·have e:(p.step C who A).2.2=(A.by who).load (C.chunk p.at'):=by unfold Pl.step; rw [if_neg p0,if_neg p1,if_neg (by omega),if_pos p3]; dsimp only; split <;> rfl
  rw [e,ld]
 by_cases p2:p.pc=2
 ·have e:(p.step C who A).2.2=(A.by who).cas (C.chunk p.at') p.w (putChunk (chS p.w) (chC p.w) (chU p.w+roomOf p.cls) (chN p.w)):=by unfold Pl.step; rw [if_neg p0,if_neg p1,if_pos p2]
  rw [e]
  by_cases q:A.w (C.chunk p.at')=p.w
  ·rw [cas_yes (by exact q)]
   show chC (upd A.w (C.chunk p.at') _ (C.chunk j))=_
   by_cases e:C.chunk j=C.chunk p.at'
   ·rw [e,upd_same,q]
    unfold putChunk chC cl
    have:=chS_bd p.w
    unfold chS at *
    omega
   ·rw [upd_ne _ _ e]
  ·rw [cas_no (by exact q)]; rfl
 by_cases p4:p.pc=4
 ·have e:(p.step C who A).2.2=(A.by who).cas (C.chunk p.at') p.w p.fresh:=by unfold Pl.step; rw [if_neg p0,if_neg p1,if_neg p2,if_neg p3,if_pos p4]; split <;> rfl
  have hat:p.at'=nx:=by
   rcases h with ⟨_,h⟩ | ⟨_,⟨_,h⟩ | h⟩ <;> omega
  rw [e]
  by_cases q:A.w (C.chunk p.at')=p.w
  ·rw [cas_yes (by exact q)]
   show chC (upd A.w (C.chunk p.at') _ (C.chunk j))=_
   rw [upd_ne _ _ fun e=>by have:=chunk_inj e; omega]
  ·rw [cas_no (by exact q)]; rfl
 have p5:p.pc=5:=by
  rcases h with ⟨_,h⟩ | ⟨_,⟨_,h⟩ | h⟩ <;> omega
 have e:(p.step C who A).2.2=(A.by who).cas (2+p.cls) p.opn (p.at'+1):=by unfold Pl.step; rw [if_neg p0,if_neg p1,if_neg p2,if_neg p3,if_neg p4,if_pos p5]
 rw [e]
 by_cases q:A.w (2+p.cls)=p.opn
 ·rw [cas_yes (by exact q)]
  show chC (upd A.w (2+p.cls) _ (C.chunk j))=_
  rw [upd_ne _ _ (by unfold Cf.chunk; omega)]
 ·rw [cas_no (by exact q)]; rfl
theorem Mkr.ck (hC:C.ok) {b:Bg} {size bb k:Int} {own:Bool} {A0:Ar} {m:Am} (h:Mkr C b size own A0 bb k m A) (hb:bb<2305843009213693952) (hAw:b.aw C A0.w) (hlv:b.lvok C) (hcl:0≤classOf size) (k0:0≤k) {j:Int} (j0:0≤j) (j1:j<b.nx) :
  chC ((m.step C who A).2.2.w (C.chunk j))=chC (A.w (C.chunk j)):=by
 have hT:=hC.T; have hS:=hC.S; have hCC:=hC.C
 have hcl3:=(class_bd size).2
 obtain ⟨⟨⟨a,ht⟩,_⟩,_⟩:=h.step (who:=who) hC hb hAw hlv hcl k0
 have hnx:=hAw.alo.bd
 by_cases c2:m.a.pc=2
 ·have hp:∃ kk,Ph C b.o b.u b.nx (classOf size) kk m.t A.w:=by
   rcases h.ph with q | ⟨s,F,hF,q | ⟨kk,q,_⟩ | ⟨jj,b',_,hs,_,q⟩ | ⟨_,_,_,_,_,_,kk,q,_⟩⟩
   ·have:=q.2.2.2.1; omega
   ·omega
   ·exact ⟨kk,q.2.2.2.2.1⟩
   ·rcases q with q | q
    ·omega
    ·rcases q.2 with q | ⟨_,q | q⟩ <;> omega
   ·have:=q.1; omega
  obtain ⟨kk,hp⟩:=hp
  have e:(m.step C who A).2.2=(m.t.step C who A).2.2:=by
   unfold Am.step
   rw [if_neg (by omega),if_neg (by omega),if_pos c2]
   dsimp only
   (repeat' split) <;> rfl
  rw [e]
  exact hp.ck hC hcl hcl3 j0 j1
 by_cases c1:m.a.pc=1
 ·rcases ht.kind with ⟨q,_⟩ | ⟨_,_,q⟩ | ⟨q,_⟩ | ⟨q,_⟩ | ⟨q,_⟩ | ⟨q,_⟩
  ·rcases q with q | q <;> (rw [c1] at q; exact absurd q (by decide))
  ·rw [q]
  all_goals omega
 have hne:C.chunk j≠a:=by
  have hck:=C.chunk j
  rcases ht.kind with ⟨_,q | ⟨s,s0,s1,q⟩⟩ | ⟨q,_⟩ | ⟨q,_⟩ | ⟨q,q'⟩ | ⟨q,q'⟩ | ⟨q,q'⟩
  ·unfold Cf.chunk; omega
  ·unfold Cf.slot at q; unfold Cf.chunk; omega
  ·omega
  ·omega
  ·unfold Cf.chunk at *; omega
  ·obtain ⟨s,F,jj,_,_,q1,q2,q3,q4⟩:=h.ph.spot hC hAw.alo hcl hcl3 (by omega) (by omega)
   have:=base_ge hC q2.1 q2.2 q3
   unfold Cf.chunk; omega
  ·obtain ⟨s,F,jj,hF,q0,q1,q2,q3,q4⟩:=h.ph.spot hC hAw.alo hcl hcl3 (by omega) (by omega)
   have hm:=hAw.fre.c.mem s (by rw [hF]; simp)
   unfold Cf.slot at q'; unfold Cf.chunk; omega
 rw [ht.w _ hne]
def lowW (C:Cf) (i:Int):Prop:=i=0∨6≤i∧i<6+C.T
theorem Mkr.lo (hC:C.ok) {b:Bg} {size bb k:Int} {own:Bool} {A0:Ar} {m:Am} (h:Mkr C b size own A0 bb k m A) (hb:bb<2305843009213693952) (hAw:b.aw C A0.w) (hlv:b.lvok C) (hcl:0≤classOf size) (k0:0≤k) {i:Int} (hi:lowW C i):(m.step C who A).2.2.w i=A.w i:=by
 have hT:=hC.T; have hS:=hC.S; have hCC:=hC.C
 have hcl3:=(class_bd size).2
 obtain ⟨⟨⟨a,ht⟩,_⟩,_⟩:=h.step (who:=who) hC hb hAw hlv hcl k0
 have hft:=h.fit hC hAw hcl
 have hi':i=0∨6≤i∧i<6+C.T:=hi
 have sp:3≤m.a.pc→m.a.pc≤6→(0≤m.a.at'∧m.a.at'<C.S)∧6+C.T+2*C.S+3*C.C≤m.a.sa:=fun q1 q2=>by
  obtain ⟨s,F,jj,hF,q0,q1,q2,q3,q4⟩:=h.ph.spot hC hAw.alo hcl hcl3 q1 q2
  have hm:=hAw.fre.c.mem s (by rw [hF]; simp)
  have:=base_ge hC q2.1 q2.2 q3
  omega
 by_cases c1:m.a.pc=1
 ·rcases ht.kind with ⟨q,_⟩ | ⟨_,_,q⟩ | ⟨q,_⟩ | ⟨q,_⟩ | ⟨q,_⟩ | ⟨q,_⟩
  ·rcases q with q | q <;> (rw [c1] at q; exact absurd q (by decide))
  ·rw [q]
  all_goals omega
 refine ht.w _ ?_
 rcases ht.kind with ⟨_,q | ⟨s,s0,s1,q⟩⟩ | ⟨q,_⟩ | ⟨q,q'⟩ | ⟨q,q'⟩ | ⟨q,q'⟩ | ⟨q,q'⟩
 ·omega
 ·unfold Cf.slot at q; omega
 ·omega
 ·have hf2:=(hft.pl q).1
  rcases q' with q' | q'
  ·have:=hf2.cls; omega
  ·have:=hf2.at'; unfold Cf.chunk at q'; omega
 ·have hsc:=(hft.spot (by omega) (by omega)).1
  unfold Cf.chunk at q'; omega
 ·have:=(sp (by omega) (by omega)).2; omega
 ·have:=(sp (by omega) (by omega)).1; unfold Cf.slot at q'; omega
end Go.Fl
namespace Go.Fl
open Go
set_option linter.unusedVariables false
set_option linter.unusedSimpArgs false
variable {N:Nm} {A B:Ar} {σ:Mem} {K:Value→Mem→Prop} {C:Cf} {who:Int}
structure Dw (C:Cf) (i:Int) (n:Nat) (dd:Int→Do) (li:Int→Bool) (w:Int→Int) (b:Bg):Prop where
 aw:b.aw C w
 lv:b.lvM C (17*i)
 gen:∀ s,0≤s→s<C.S→1≤slG (w (C.slot s))∧slG (w (C.slot s))≤1+i
 hd:∀ k:Int,0≤k→k<n→((0≤(dd k).n∧(dd k).n<18446744073709551616)∧hdOk (dd k).n=true∧0≤(dd k).s∧(dd k).s<C.S)∧0≤classOf (dd k).z∧(1≤(dd k).ge∧(dd k).ge≤1+i)
 ok:∀ k:Int,0≤k→k<n→li k=true→(dd k).ok C b w
 dead:∀ k:Int,0≤k→k<n→li k=false→(dd k).ge<slG (w (C.slot (dd k).s))
 nsl:∀ k l:Int,0≤k→k<n→0≤l→l<n→li k=true→li l=true→k≠l→(dd k).s≠(dd l).s
 ns:∀ k l:Int,0≤k→k<n→0≤l→l<n→k≠l→(dd k).j≠(dd l).j∨(dd k).i+(dd k).rm≤(dd l).i∨(dd l).i+(dd l).rm≤(dd k).i
 sm:∀ j,0≤j→j<C.C→sumN (part dd li j) n=b.lv j
 nle:(n:Int)≤i
 pl:∀ k:Int,0≤k→k<n→((0≤(dd k).j∧(dd k).j<b.nx)∧0≤(dd k).i∧(dd k).i+(dd k).rm≤b.u (dd k).j)∧chC (w (C.chunk (dd k).j))=classOf (dd k).z∧w ((dd k).a C)=putHead 2 (dd k).z (dd k).s (dd k).ge (dd k).own
 cov:∀ j x,0≤j→j<b.nx→0≤x→x<b.u j→x % roomOf (chC (w (C.chunk j)))=0→∃ k:Int,(0≤k∧k<n)∧(dd k).j=j∧(dd k).i=x
 um:∀ j,0≤j→j<b.nx→b.u j % roomOf (chC (w (C.chunk j)))=0∧chC (w (C.chunk j))≤3∧0<b.u j
theorem Dw.new (hC:C.ok) (h:Frsh N C A):Dw C 0 0 (fun _=>⟨0,0,0,false,0,0⟩) (fun _=>false) A.w (Bg.fr C):=by
 have haw:=h.aw hC
 refine ⟨haw,fr_lv,fun s s0 s1=>?_,fun k k0 k1=>by omega,fun k k0 k1=>by omega,fun k k0 k1=>by omega,fun k l k0 k1=>by omega,fun k l k0 k1=>by omega,fun j _ _=>rfl,Int.le_refl 0,fun k k0 k1=>by omega,fun j x j0 j1=>?_,fun j j0 j1=>?_⟩
 ·rw [h.w]
  have hT:=hC.T
  unfold Cf.w0 Cf.fr
  rw [if_neg (by unfold Cf.slot; omega),if_neg (by unfold Cf.slot; omega),if_pos (by unfold Cf.slot; omega),if_pos (by unfold Cf.slot; omega)]
  exact ⟨by decide,by decide⟩
 ·have:j<0:=j1; omega
 ·have:j<0:=j1; omega
theorem Dw.mono {i i':Int} {n:Nat} {dd:Int→Do} {li:Int→Bool} {w:Int→Int} {b:Bg} (h:Dw C i n dd li w b) (hi:i≤i'):Dw C i' n dd li w b:=
 ⟨h.aw,h.lv.mono (by omega),fun s s0 s1=>by have:=h.gen s s0 s1; omega,fun k k0 k1=>by have:=h.hd k k0 k1; exact ⟨this.1,this.2.1,by omega⟩,h.ok,h.dead,h.nsl,h.ns,h.sm,by have:=h.nle; omega,h.pl,h.cov,h.um⟩
theorem rm_nn {dd:Int→Do} {li:Int→Bool} {j k:Int}:0≤part dd li j k:=by
 unfold part Do.rm roomOf; split
 ·(repeat' split) <;> decide
 ·decide
theorem aw_ule (hC:C.ok) {b:Bg} {w:Int→Int} (h:b.aw C w) {j:Int} (j0:0≤j) (j1:j<C.C):0≤b.u j∧b.u j≤C.W:=by
 have hW:=hC.W
 by_cases q:j<b.nx
 ·have:=h.alo.old j j0 q; omega
 ·have:=(h.alo.new j (by omega) j1).2; omega
theorem Dw.make (hC:C.ok) {i:Int} {n:Nat} {dd:Int→Do} {li:Int→Bool} {z s j:Int} {own:Bool} {w w':Int→Int} {b b':Bg} {F:List Int} (h:Dw C i n dd li w b) (hi:i≤1000) (hF:b.F=s :: F) (hc:0≤classOf z)
  (hg:Got C b F (classOf z) j b') (haw:(b'.count j (roomOf (classOf z))).aw C w') (h1:w' (C.slot s)=putSlot 1 (C.base j+b.u j) (slG (w (C.slot s))) 0) (h2:w' (C.base j+b.u j)=putHead 2 z s (slG (w (C.slot s))) own)
  (fw:Fw C b True w w') (hck:∀ j,0≤j→j<b.nx→chC (w' (C.chunk j))=chC (w (C.chunk j))):Dw C (i+1) (n+1) (addD dd n (Do.mk' C b s (slG (w (C.slot s))) z own j)) (updB li n true) w' (b'.count j (roomOf (classOf z))):=by
 have hm:=h.aw.fre.c.mem s (by rw [hF]; simp)
 have hnd:=h.aw.fre.nd
 rw [hF] at hnd
 have hsF:=(List.nodup_cons.1 hnd).1
 have hge:=h.gen s hm.1 hm.2
 obtain ⟨c1,c2,c3⟩:=hg.cnt hC (n:=roomOf (classOf z))
 obtain ⟨d1,d2,d3,d4⟩:=hg.bd hC h.aw.alo hc (class_bd z).2
 have hlv0:=h.lv.lv j d1.1 d1.2
 have hS:=hC.S
 have hr:=room_bd hc (class_bd z).2
 have hnew:=hg.do (own:=own) hC hc hm hsF (by omega:1≤slG (w (C.slot s))∧slG (w (C.slot s))≤65535) ⟨_,h.aw.alo⟩ hlv0.1 h1 h2
 obtain ⟨u0,u1,u2,u3,u4⟩:=hd_handle (s:=s) (g:=slG (w (C.slot s))) (by omega) (by omega)
 have jcase:(good C b.o b.u (classOf z)∧j=b.o (classOf z)∧j<b.nx∧(b'.count j (roomOf (classOf z))).nx=b.nx)∨(j=b.nx∧b.u j=0∧(b'.count j (roomOf (classOf z))).nx=b.nx+1):=by
  rcases hg with ⟨g,e,rfl⟩ | ⟨g,nx,e,rfl⟩
  ·have:=h.aw.alo.op _ hc (class_bd z).2
   exact .inl ⟨g,e,by omega,rfl⟩
  ·exact .inr ⟨e,(h.aw.alo.new j (by omega) d1.2).2,rfl⟩
 have hcj:chC (w' (C.chunk j))=classOf z:=by
  have:=haw.alo.cls _ hc (class_bd z).2 (by show 0≤b'.o (classOf z); omega)
  rw [show (b'.count j (roomOf (classOf z))).o (classOf z)=j from d4] at this
  exact this
 have hcjo:j<b.nx→chC (w (C.chunk j))=classOf z:=fun q=>by rw [← hck j d1.1 q]; exact hcj
 generalize hd:Do.mk' C b s (slG (w (C.slot s))) z own j=d at *
 have ds:d.s=s:=by subst hd; exact u2
 have dj:d.j=j:=by subst hd; rfl
 have di:d.i=b.u j:=by subst hd; rfl
 have dz:d.z=z:=by subst hd; rfl
 have dg:d.ge=slG (w (C.slot s)):=by subst hd; exact u3
 have dow:d.own=own:=by subst hd; rfl
 have dr:d.rm=roomOf (classOf z):=by subst hd; rfl
 have da:d.a C=C.base j+b.u j:=by subst hd; rfl
 have wS:∀ t,0≤t→t<C.S→t≠s→w' (C.slot t)=w (C.slot t):=fun t t0 t1 ht=>fw.slot t t0 t1 fun _ F' e=>by rw [hF] at e; cases e; exact ht rfl
 have wG:∀ t,0≤t→t<C.S→slG (w' (C.slot t))=slG (w (C.slot t)):=fun t t0 t1=>by
  have hb1:=base_of hC d1.1 d1.2 d2.1 (by omega)
  have hl:=len_bd hC
  by_cases e:t=s
  ·subst e; rw [h1]; exact (sl_put (by decide) (by omega) (by omega) (by decide)).2.2.1
  ·rw [wS t t0 t1 e]
 have aN:addD dd n d n=d:=if_pos rfl
 have aO:∀ k:Int,k<n→addD dd n d k=dd k:=fun k hk=>if_neg (by omega)
 have lN:updB li n true n=true:=if_pos rfl
 have lO:∀ k:Int,k<n→updB li n true k=li k:=fun k hk=>if_neg (by omega)
 have sne:∀ k:Int,0≤k→k<n→li k=true→(dd k).s≠s∧(dd k).s ∉ F:=fun k k0 k1 hk=>by
  have:=(h.ok k k0 k1 hk).sF; rw [hF] at this; simp only [List.mem_cons,not_or] at this; exact this
 have cs:∀ k:Int,k<((n+1:Nat):Int)→k<n∨k=n:=fun k hk=>by omega
 have nxb:=h.aw.alo.bd
 refine ⟨haw,?_,fun t t0 t1=>by rw [wG t t0 t1]; have:=h.gen t t0 t1; omega,fun k k0 k1=>?_,fun k k0 k1 hk=>?_,fun k k0 k1 hk=>?_,fun k l k0 k1 l0 l1 hk hl' hkl=>?_,fun k l k0 k1 l0 l1 hkl=>?_,fun l l0 l1=>?_,by have:=h.nle; omega,fun k k0 k1=>?_,fun l x l0 l1 x0 x1 xm=>?_,fun l l0 l1=>?_⟩
 ·have:=h.lv.count hC hg hc (class_bd z).2
  exact this.mono (by omega)
 ·rcases cs k k1 with e | rfl
  ·rw [aO k e]; have:=h.hd k k0 e; exact ⟨this.1,this.2.1,by omega⟩
  ·rw [aN]; exact ⟨⟨hnew.n,hnew.hok,hnew.s⟩,hnew.cl,by omega⟩
 ·rcases cs k k1 with e | rfl
  ·rw [aO k e]; rw [lO k e] at hk
   have o:=h.ok k k0 e hk
   have oi:=o.i
   have oj:=o.j
   have ou:=(aw_ule hC h.aw oj.1 oj.2).2
   have rm:=(dd k).rm0
   unfold Do.rm at rm
   refine o.keep ?_ (wS _ o.s.1 o.s.2 (sne k k0 e hk).1) (fw.word _ _ oj.1 oj.2 oi.1 (by omega) (by omega)) ?_ ?_
   ·rw [c1]; exact (sne k k0 e hk).2
   ·rw [c3]; unfold upd; split
    ·rename_i q; rw [q]; omega
    ·exact Int.le_refl _
   ·have olv:=o.lv
    rw [c2]; unfold upd; split
    ·rename_i q; rw [q] at olv; omega
    ·exact olv
  ·rw [aN]; exact hnew
 ·rcases cs k k1 with e | rfl
  ·rw [aO k e]; rw [lO k e] at hk
   have:=(h.hd k k0 e).1.2.2
   rw [wG _ this.1 this.2]; exact h.dead k k0 e hk
  ·rw [lN] at hk; cases hk
 ·rcases cs k k1 with e | rfl
  ·rw [aO k e]; rw [lO k e] at hk
   rcases cs l l1 with e' | rfl
   ·rw [aO l e']; rw [lO l e'] at hl'
    exact h.nsl k l k0 e l0 e' hk hl' hkl
   ·rw [aN,ds]; exact (sne k k0 e hk).1
  ·rcases cs l l1 with e' | rfl
   ·rw [aO l e',aN,ds]; rw [lO l e'] at hl'
    exact fun q=>(sne l l0 e' hl').1 q.symm
   ·exact absurd rfl hkl
 ·rcases cs k k1 with e | rfl
  ·rw [aO k e]
   rcases cs l l1 with e' | rfl
   ·rw [aO l e']; exact h.ns k l k0 e l0 e' hkl
   ·rw [aN,dj,di]
    by_cases q:(dd k).j=j
    ·have:=(h.pl k k0 e).1.2.2; rw [q] at this; exact .inr (.inl this)
    ·exact .inl q
  ·rcases cs l l1 with e' | rfl
   ·rw [aO l e',aN,dj,di]
    by_cases q:(dd l).j=j
    ·have:=(h.pl l l0 e').1.2.2; rw [q] at this; exact .inr (.inr this)
    ·exact .inl fun q'=>q q'.symm
   ·exact absurd rfl hkl
 ·show sumN (part (addD dd n d) (updB li n true) l) n+part (addD dd n d) (updB li n true) l n=_
  rw [sumN_congr (g:=part dd li l) fun k k0 k1=>by unfold part; rw [aO k k1,lO k k1]]
  have:=h.sm l l0 l1
  unfold part at this ⊢
  rw [aN,lN,c2,dj,dr]
  by_cases q:j=l
  ·subst q; rw [upd_same,if_pos ⟨rfl,rfl⟩]; omega
  ·rw [upd_ne _ _ (fun e=>q e.symm),if_neg fun e=>q e.2]; omega
 ·rcases cs k k1 with e | rfl
  ·rw [aO k e]
   obtain ⟨⟨p1,p2,p3⟩,p4,p5⟩:=h.pl k k0 e
   have pu:=(aw_ule hC h.aw p1.1 (by omega)).2
   have rm:=(dd k).rm0
   refine ⟨⟨⟨p1.1,?_⟩,p2,?_⟩,by rw [hck _ p1.1 p1.2]; exact p4,?_⟩
   ·rcases jcase with q | q <;> omega
   ·rw [c3]; unfold upd; split
    ·rename_i q; rw [q] at p3; omega
    ·exact p3
   ·rw [show (dd k).a C=C.base (dd k).j+(dd k).i from rfl,fw.word _ _ p1.1 (by omega) p2 (by omega) (by omega)]; exact p5
  ·rw [aN,dj,di,dr,dz,da,ds,dg,dow]
   refine ⟨⟨⟨d1.1,?_⟩,d2.1,?_⟩,hcj,h2⟩
   ·rcases jcase with q | q <;> omega
   ·rw [c3,upd_same]; omega
 · -- each place is told
  by_cases e:l=j
  ·subst e
   rw [hcj] at xm
   rw [c3,upd_same] at x1
   by_cases z1:x<b.u l
   ·have lnx:l<b.nx:=by
     rcases jcase with q | q
     ·exact q.2.2.1
     ·omega
    obtain ⟨k,kb,k2,k3⟩:=h.cov l x l0 lnx x0 z1 (by rw [hcjo lnx]; exact xm)
    exact ⟨k,⟨kb.1,by omega⟩,by rw [aO k kb.2]; exact k2,by rw [aO k kb.2]; exact k3⟩
   ·have xu:x=b.u l:=by
     have um:b.u l % roomOf (classOf z)=0:=by
      rcases jcase with q | q
      ·have:=(h.um l l0 q.2.2.1).1; rwa [hcjo q.2.2.1] at this
      ·rw [q.2.1,Int.zero_emod]
     have e1:(x - b.u l) % roomOf (classOf z)=0:=by rw [Int.sub_emod,xm,um]; rfl
     rw [Int.emod_eq_of_lt (by omega) (by omega)] at e1
     omega
    exact ⟨n,⟨by omega,by omega⟩,by rw [aN]; exact dj,by rw [aN,di]; exact xu.symm⟩
  ·have lnx:l<b.nx:=by
    rcases jcase with q | q <;> omega
   rw [c3,upd_ne _ _ e] at x1
   rw [hck l l0 lnx] at xm
   obtain ⟨k,kb,k2,k3⟩:=h.cov l x l0 lnx x0 x1 xm
   exact ⟨k,⟨kb.1,by omega⟩,by rw [aO k kb.2]; exact k2,by rw [aO k kb.2]; exact k3⟩
 ·by_cases e:l=j
  ·subst e
   rw [c3,upd_same,hcj]
   refine ⟨?_,(class_bd z).2,by omega⟩
   rw [Int.add_emod_right]
   rcases jcase with q | q
   ·have:=(h.um l l0 q.2.2.1).1; rwa [hcjo q.2.2.1] at this
   ·rw [q.2.1,Int.zero_emod]
  ·have lnx:l<b.nx:=by
    rcases jcase with q | q <;> omega
   rw [c3,upd_ne _ _ e,hck l l0 lnx]; exact h.um l l0 lnx
theorem Do.fr.word (hC:C.ok) {d:Do} {w w':Int→Int} (h:d.fr C w w') (d0:0≤d.j) (d1:d.j<C.C) (d2:0≤d.i) (d3:d.i+d.z<C.W) (hs:0≤d.s∧d.s<C.S) {j x:Int} (j0:0≤j) (j1:j<C.C) (x0:0≤x) (x1:x<C.W) (hn:¬ (j=d.j∧d.i<x∧x≤d.i+d.z)):w' (C.base j+x)=w (C.base j+x):=by
 have hT:=hC.T; have hS:=hC.S
 have hb:=base_ge hC j0 j1 x0
 refine h _ (by unfold Cf.slot; omega) (by omega) (by unfold Cf.slot; omega) (by unfold Cf.chunk; omega) fun ⟨q1,q2⟩=>?_
 have ea:d.a C=C.base d.j+d.i:=rfl
 have e:C.base j+x=C.base d.j+(d.i+(C.base j+x - C.base d.j - d.i)):=by omega
 obtain ⟨e1,e2⟩:=base_inj hC j0 j1 x0 x1 d0 d1 (by omega) (by omega) e
 exact hn ⟨e1,by omega,by omega⟩
theorem Do.fr.chunk (hC:C.ok) {d:Do} {w w':Int→Int} (h:d.fr C w w') (d0:0≤d.j) (d1:d.j<C.C) (d2:0≤d.i) (hs:0≤d.s∧d.s<C.S) {j:Int} (j0:0≤j) (j1:j<C.C):w' (C.chunk j)=w (C.chunk j):=by
 have hT:=hC.T; have hS:=hC.S
 have hb:=base_ge hC d0 d1 d2
 have ea:d.a C=C.base d.j+d.i:=rfl
 exact h _ (by unfold Cf.slot Cf.chunk; omega) (by unfold Cf.chunk; omega) (by unfold Cf.slot Cf.chunk; omega) (by unfold Cf.chunk; omega) (by unfold Cf.chunk; omega)
theorem Do.fr.slot (hC:C.ok) {d:Do} {w w':Int→Int} (h:d.fr C w w') (d0:0≤d.j) (d1:d.j<C.C) (d2:0≤d.i) {t:Int} (t0:0≤t) (t1:t<C.S) (ht:t≠d.s):w' (C.slot t)=w (C.slot t):=by
 have hT:=hC.T; have hS:=hC.S
 have hb:=base_ge hC d0 d1 d2
 have ea:d.a C=C.base d.j+d.i:=rfl
 exact h _ (by unfold Cf.slot; omega) (by unfold Cf.slot; omega) (by unfold Cf.slot; omega) (by unfold Cf.slot Cf.chunk; omega) (by unfold Cf.slot; omega)
theorem Dw.drop (hC:C.ok) (hG:C.G=100) {i:Int} {n:Nat} {dd:Int→Do} {li:Int→Bool} {k:Int} {w w':Int→Int} {b:Bg} (h:Dw C i n dd li w b) (hi:i≤90) (k0:0≤k) (k1:k<n) (hk:li k=true)
  (fr:(dd k).fr C w w') (sl:w' (C.slot (dd k).s)=(dd k).nx C) (aw:Bg.aw { b.less (dd k).j (roomOf (classOf (dd k).z)) with F:=if C.G≤(dd k).ge then b.F else (dd k).s :: b.F } C w') :
  Dw C (i+1) n dd (updB li k false) w' { b.less (dd k).j (roomOf (classOf (dd k).z)) with F:=(dd k).s :: b.F }:=by
 have o:=h.ok k k0 k1 hk
 have hgk:=h.gen _ o.s.1 o.s.2
 have hge:slG (w (C.slot (dd k).s))=(dd k).ge:=by rw [o.ws,o.sg]
 rw [if_neg (by omega)] at aw
 have slw:w' (C.slot (dd k).s)=putSlot 0 0 ((dd k).ge+1) 0:=by rw [sl]; unfold Do.nx; rw [if_neg (by omega)]
 have oj:=o.j
 have oi:=o.i
 have oz:=o.z
 have rmk:=(dd k).rm0
 have hub:=(aw_ule hC h.aw oj.1 oj.2).2
 have nxb:=h.aw.alo.bd
 have hz1:1≤(dd k).z:=(class_room' o.cl).1.1
 have wS:∀ t,0≤t→t<C.S→t≠(dd k).s→w' (C.slot t)=w (C.slot t):=fun t t0 t1 ht=>fr.slot hC oj.1 oj.2 oi.1 t0 t1 ht
 have wC:∀ j,0≤j→j<C.C→w' (C.chunk j)=w (C.chunk j):=fun j j0 j1=>fr.chunk hC oj.1 oj.2 oi.1 o.s j0 j1
 have wG:slG (w' (C.slot (dd k).s))=(dd k).ge+1:=by rw [slw]; exact (sl_put' (by decide) (by decide) (by omega)).2.2
 have wH:∀ l:Int,0≤l→l<n→w' ((dd l).a C)=w ((dd l).a C):=fun l l0 l1=>by
  obtain ⟨⟨p1,p2,p3⟩,p4,p5⟩:=h.pl l l0 l1
  have pu:=(aw_ule hC h.aw p1.1 (by omega)).2
  have rml:=(dd l).rm0
  refine fr.word hC oj.1 oj.2 oi.1 (by omega) o.s p1.1 (by omega) p2 (by omega) fun ⟨q1,q2,q3⟩=>?_
  by_cases e:l=k
  ·subst e; omega
  ·rcases h.ns l k l0 l1 k0 k1 e with q | q | q
   ·exact q q1
   ·omega
   ·unfold Do.rm at q; omega
 have lK:updB li k false k=false:=if_pos rfl
 have lO:∀ l,l≠k→updB li k false l=li l:=fun l hl=>if_neg hl
 have lT:∀ l,updB li k false l=true→l≠k∧li l=true:=fun l hl=>by
  by_cases e:l=k
  ·subst e; rw [lK] at hl; cases hl
  ·rw [lO l e] at hl; exact ⟨e,hl⟩
 have sml:∀ j,sumN (part dd (updB li k false) j) n=sumN (part dd li j) n - (if (dd k).j=j then (dd k).rm else 0):=fun j=>by
  have e:part dd (updB li k false) j=upd (part dd li j) k 0:=by
   funext l
   unfold part upd
   by_cases e:l=k
   ·subst e; rw [lK]; simp
   ·rw [lO l e,if_neg e]
  rw [e,sumN_upd k0 k1]
  have:part dd li j k=if (dd k).j=j then (dd k).rm else 0:=by unfold part; rw [hk]; simp
  rw [this]; omega
 have smk:=sumN_le (f:=part dd li (dd k).j) (n:=n) (fun _=>rm_nn) k0 k1
 have smj:=h.sm _ oj.1 oj.2
 have pk:part dd li (dd k).j k=(dd k).rm:=by unfold part; rw [hk]; simp
 rw [pk] at smk
 refine ⟨aw,⟨fun j j0 j1=>?_⟩,fun t t0 t1=>?_,fun l l0 l1=>by have:=h.hd l l0 l1; exact ⟨this.1,this.2.1,by omega⟩,fun l l0 l1 hl=>?_,fun l l0 l1 hl=>?_,fun l m l0 l1 m0 m1 hl hm hlm=>h.nsl l m l0 l1 m0 m1 (lT l hl).2 (lT m hm).2 hlm,h.ns,fun j j0 j1=>?_,by have:=h.nle; omega,fun l l0 l1=>?_,fun j x j0 j1 x0 x1 xm=>?_,fun j j0 j1=>?_⟩
 ·have:=h.lv.lv j j0 j1
  show 0≤upd b.lv (dd k).j (b.lv (dd k).j - (dd k).rm) j∧upd b.lv (dd k).j (b.lv (dd k).j - (dd k).rm) j≤_
  unfold upd; split
  ·rename_i q; rw [← q] at smk smj ⊢; omega
  ·omega
 ·by_cases e:t=(dd k).s
  ·rw [e,wG]; omega
  ·rw [wS t t0 t1 e]; have:=h.gen t t0 t1; omega
 ·obtain ⟨lk,hl'⟩:=lT l hl
  have ol:=h.ok l l0 l1 hl'
  have n1:=h.nsl l k l0 l1 k0 k1 hl' hk lk
  refine ol.keep ?_ (wS _ ol.s.1 ol.s.2 n1) (wH l l0 l1) (Int.le_refl _) ?_
  ·simp only [List.mem_cons,not_or]; exact ⟨n1,ol.sF⟩
  ·show _≤upd b.lv (dd k).j (b.lv (dd k).j - (dd k).rm) (dd l).j
   unfold upd; split
   ·rename_i q
    have s1:=sumN_le (f:=part dd (updB li k false) (dd k).j) (n:=n) (fun _=>rm_nn) l0 l1
    rw [sml,if_pos rfl] at s1
    have:part dd (updB li k false) (dd k).j l=(dd l).rm:=by unfold part; rw [hl,q]; simp
    rw [this] at s1
    unfold Do.rm at *
    omega
   ·exact ol.lv
 ·by_cases e:l=k
  ·subst e; rw [wG]; omega
  ·rw [lO l e] at hl
   have q:=h.dead l l0 l1 hl
   have hs:=(h.hd l l0 l1).1.2.2
   by_cases e':(dd l).s=(dd k).s
   ·rw [e',wG]; rw [e'] at q; omega
   ·rw [wS _ hs.1 hs.2 e']; exact q
 ·show _=upd b.lv (dd k).j (b.lv (dd k).j - (dd k).rm) j
  rw [sml]
  have:=h.sm j j0 j1
  by_cases q:(dd k).j=j
  ·subst q; rw [upd_same,if_pos rfl]; omega
  ·rw [upd_ne _ _ fun e=>q e.symm,if_neg q]; omega
 ·obtain ⟨⟨p1,p2,p3⟩,p4,p5⟩:=h.pl l l0 l1
  exact ⟨⟨p1,p2,p3⟩,by rw [wC _ p1.1 (by omega)]; exact p4,by rw [wH l l0 l1]; exact p5⟩
 ·have j1':j<b.nx:=j1
  rw [wC j j0 (by omega)] at xm
  exact h.cov j x j0 j1 x0 x1 xm
 ·have j1':j<b.nx:=j1
  rw [wC j j0 (by omega)]
  exact h.um j j0 j1
end Go.Fl
namespace Go.Fl
open Go
set_option linter.unusedVariables false
set_option linter.unusedSimpArgs false
variable {N:Nm} {A B:Ar} {σ:Mem} {K:Value→Mem→Prop} {C:Cf} {who:Int}
theorem sumN_zero {f:Int→Int}:∀ {n:Nat},(∀ i:Int,0≤i→i<n→f i=0)→sumN f n=0
 | 0,_=>rfl
 | n+1,h=>by show sumN f n+f n=0; rw [sumN_zero (n:=n) fun i i0 i1=>h i i0 (by omega),h n (by omega) (by omega)]; rfl
section
variable {i:Int} {n:Nat} {dd:Int→Do} {li:Int→Bool} {w:Int→Int} {b:Bg}
theorem Dw.op (h:Dw C i n dd li w b) {k:Int} (k0:0≤k) (k3:k≤3):0≤w (2+k)∧w (2+k)≤C.C:=by
 have:=h.aw.alo.op k k0 k3
 have:=h.aw.alo.bd
 omega
theorem Dw.chs (h:Dw C i n dd li w b) {j:Int} (j0:0≤j) (j1:j<C.C):(chS (w (C.chunk j))=0∨chS (w (C.chunk j))=1)∧chU (w (C.chunk j))=b.u j∧(chS (w (C.chunk j))=1→j<b.nx):=by
 by_cases q:j<b.nx
 ·have:=h.aw.alo.old j j0 q
  exact ⟨.inr this.1,this.2.1,fun _=>q⟩
 ·have:=h.aw.alo.new j (by omega) j1
  rw [this.1,this.2]
  exact ⟨.inl (by decide),by decide,fun e=>absurd e (by decide)⟩
end
end Go.Fl
namespace Go.Fl
open Go
set_option linter.unusedVariables false
set_option linter.unusedSimpArgs false
variable {N:Nm} {A B:Ar} {σ:Mem} {K:Value→Mem→Prop} {C:Cf} {who:Int}
section
variable {i:Int} {n:Nat} {dd:Int→Do} {li:Int→Bool} {w w':Int→Int} {b:Bg}
theorem Dw.same (hC:C.ok) (h:Dw C i n dd li w b) (aw:b.aw C w') (hs:∀ t,0≤t→t<C.S→w' (C.slot t)=w (C.slot t)) (hw:∀ j x,0≤j→j<C.C→0≤x→x<b.u j→x<C.W→w' (C.base j+x)=w (C.base j+x)) (hc:∀ j,0≤j→j<b.nx→chC (w' (C.chunk j))=chC (w (C.chunk j))):Dw C i n dd li w' b:=by
 have hbd:=h.aw.alo.bd
 have wh:∀ k:Int,0≤k→k<n→w' ((dd k).a C)=w ((dd k).a C):=fun k k0 k1=>by
  obtain ⟨⟨p1,p2,p3⟩,_⟩:=h.pl k k0 k1
  have pu:=(aw_ule hC h.aw p1.1 (by omega)).2
  have rm:=(dd k).rm0
  exact hw _ _ p1.1 (by omega) p2 (by omega) (by omega)
 refine ⟨aw,h.lv,fun s s0 s1=>by rw [hs s s0 s1]; exact h.gen s s0 s1,h.hd,fun k k0 k1 hk=>?_,fun k k0 k1 hk=>?_,h.nsl,h.ns,h.sm,h.nle,fun k k0 k1=>?_,fun j x j0 j1 x0 x1 xm=>?_,fun j j0 j1=>?_⟩
 ·have o:=h.ok k k0 k1 hk
  exact o.keep o.sF (hs _ o.s.1 o.s.2) (wh k k0 k1) (Int.le_refl _) o.lv
 ·have:=(h.hd k k0 k1).1.2.2
  rw [hs _ this.1 this.2]; exact h.dead k k0 k1 hk
 ·obtain ⟨p1,p2,p3⟩:=h.pl k k0 k1
  exact ⟨p1,by rw [hc _ p1.1.1 p1.1.2]; exact p2,by rw [wh k k0 k1]; exact p3⟩
 ·rw [hc j j0 j1] at xm; exact h.cov j x j0 j1 x0 x1 xm
 ·rw [hc j j0 j1]; exact h.um j j0 j1
end
theorem c_DropAn (hN:N.ok) (hC:C.ok) (hA:isA N A σ) {b:Bg} {d:Do} {bb:Int} (hP:Pa C A bb) (hb:bb<2305843009213693952) (hAw:b.aw C A.w) (hd:d.ok C b A.w) (hlv:b.lv d.j<18446744073709551616)
  (hk:∀ m A' τ,DnD C b d A.w A.s m A'→Pa C A' (bb+60)→A'.n=A.n→isA N A' τ→Keep N.l σ τ→K (.agg #[.int .i64 0,.int .u64 m.d.oH,.int .i64 m.d.oV,.int .i64 m.d.oS]) τ) :
  s_bc [N.env C who,.int .u64 d.n,.bool d.own] K σ:=by
 have av:=d.av hC hd ⟨_,hAw⟩
 refine c_Drop hN hC hA (fun k m A'=>DrI C b d A.w A.s k m A'∧A'.ok (bb+k)∧A'.n=A.n∧A'.s=A.s+k) (fun m A'=>DnD C b d A.w A.s m A'∧A'.ok (bb+60)∧A'.n=A.n∧A'.s≤A.s+60)
  ⟨⟨rfl,rfl,.inl ⟨rfl,Int.le_refl 0,rfl,rfl,rfl⟩⟩,by simpa using hP.ok,rfl,by omega⟩ ?_ (fun m A' h=>by have:=h.1.kle av.2.2.1; omega) ?_
 ·rintro k m A' k0 k1 ⟨h,ok,en,es⟩
  have hkl:=h.kle av.2.2.1
  have hnn:=hP.n
  refine ⟨h.fit hC hd hAw ok.w hP.ok.w (by omega),ok.w,by omega,?_⟩
  obtain ⟨td,h'⟩:=h.step (who:=who) hC hd hAw ok (by omega) (by omega) hlv
  have t1:=td.s
  have t2:=td.n
  have t3:=td.ok _ ok
  rcases h' with ⟨e,h'⟩ | ⟨e,h'⟩
  ·rw [if_neg (by rw [e]; decide)]
   exact ⟨h',by rw [show bb+(k+1)=bb+k+1 by omega]; exact t3,by omega,by omega⟩
  ·rw [if_pos e]
   exact ⟨h',ok_mono t3 (by omega),by omega,by omega⟩
 ·rintro m A' τ ⟨hD,ok,en,es⟩ hA' hK
  rw [hD.e]
  have:=hP.n
  exact hk m A' τ hD (Bg.aw.pa hC hD.aw ok (by omega)) en hA' hK
end Go.Fl
namespace Go.Fl
open Go
set_option linter.unusedVariables false
set_option linter.unusedSimpArgs false
variable {N:Nm} {A B:Ar} {σ:Mem} {K:Value→Mem→Prop} {C:Cf} {who:Int}
def ckN (C:Cf) (w:Int→Int):Prop:=∀ j,0≤j→j<C.C→chN (w (C.chunk j))≤1
theorem ckN.upd {w:Int→Int} {a v:Int} (h:ckN C w) (hv:(∃ j,0≤j∧j<C.C∧a=C.chunk j)→chN v≤1):ckN C (Go.Fl.upd w a v):=fun j j0 j1=>by
 unfold Go.Fl.upd; split
 ·rename_i e; exact hv ⟨j,j0,j1,e.symm⟩
 ·exact h j j0 j1
theorem Ph.cn (hC:C.ok) {o u:Int→Int} {nx c k:Int} {p:Pl} (c0:0≤c) (c3:c≤3) (h:Ph C o u nx c k p A.w) (hq:ckN C A.w):ckN C (p.step C who A).2.2.w:=by
 have hT:=hC.T; have hS:=hC.S
 have ld:∀ a,((A.by who).load a).w=A.w:=fun _=>rfl
 obtain ⟨_,hcl,h⟩:=h
 by_cases p0:p.pc=0
 ·have e:(p.step C who A).2.2=(A.by who).load (2+p.cls):=by unfold Pl.step; rw [if_pos p0]
  rw [e,ld]; exact hq
 by_cases p1:p.pc=1
 ·have e:(p.step C who A).2.2=(A.by who).load (C.chunk p.at'):=by unfold Pl.step; rw [if_neg p0,if_pos p1]
  rw [e,ld]; exact hq
 by_cases p3:p.pc=3
 ·have e:(p.step C who A).2.2=(A.by who).load (C.chunk p.at'):=by unfold Pl.step; rw [if_neg p0,if_neg p1,if_neg (by omega),if_pos p3]; dsimp only; split <;> rfl
  rw [e,ld]; exact hq
 by_cases p2:p.pc=2
 ·have e:(p.step C who A).2.2=(A.by who).cas (C.chunk p.at') p.w (putChunk (chS p.w) (chC p.w) (chU p.w+roomOf p.cls) (chN p.w)):=by unfold Pl.step; rw [if_neg p0,if_neg p1,if_pos p2]
  rw [e]
  by_cases q:A.w (C.chunk p.at')=p.w
  ·rw [cas_yes (by exact q)]
   refine hq.upd fun ⟨j,j0,j1,ej⟩=>?_
   have h1:=hq j j0 j1
   rw [← ej,q] at h1
   have h2:=chN_bd p.w
   unfold putChunk; unfold chN cl at *; omega
  ·rw [cas_no (by exact q)]; exact hq
 by_cases p4:p.pc=4
 ·have e:(p.step C who A).2.2=(A.by who).cas (C.chunk p.at') p.w p.fresh:=by unfold Pl.step; rw [if_neg p0,if_neg p1,if_neg p2,if_neg p3,if_pos p4]; split <;> rfl
  have hat:p.w=0:=by
   rcases h with ⟨_,h⟩ | ⟨_,⟨_,h⟩ | h⟩ <;> omega
  rw [e]
  by_cases q:A.w (C.chunk p.at')=p.w
  ·rw [cas_yes (by exact q)]
   refine hq.upd fun _=>?_
   unfold Pl.fresh; rw [hat]; unfold putChunk; unfold chN cl; omega
  ·rw [cas_no (by exact q)]; exact hq
 have p5:p.pc=5:=by
  rcases h with ⟨_,h⟩ | ⟨_,⟨_,h⟩ | h⟩ <;> omega
 have e:(p.step C who A).2.2=(A.by who).cas (2+p.cls) p.opn (p.at'+1):=by unfold Pl.step; rw [if_neg p0,if_neg p1,if_neg p2,if_neg p3,if_neg p4,if_pos p5]
 rw [e]
 by_cases q:A.w (2+p.cls)=p.opn
 ·rw [cas_yes (by exact q)]
  exact hq.upd fun ⟨j,j0,j1,ej⟩=>by unfold Cf.chunk at ej; omega
 ·rw [cas_no (by exact q)]; exact hq
theorem Mkr.cn (hC:C.ok) {b:Bg} {size bb k:Int} {own:Bool} {A0:Ar} {m:Am} (h:Mkr C b size own A0 bb k m A) (hb:bb<2305843009213693952) (hAw:b.aw C A0.w) (hlv:b.lvok C) (hcl:0≤classOf size) (k0:0≤k) (hq:ckN C A.w):ckN C (m.step C who A).2.2.w:=by
 have hT:=hC.T; have hS:=hC.S; have hCC:=hC.C
 have hcl3:=(class_bd size).2
 obtain ⟨⟨⟨a,ht⟩,_⟩,_⟩:=h.step (who:=who) hC hb hAw hlv hcl k0
 have hnx:=hAw.alo.bd
 by_cases c2:m.a.pc=2
 ·have hp:∃ kk,Ph C b.o b.u b.nx (classOf size) kk m.t A.w:=by
   rcases h.ph with q | ⟨s,F,hF,q | ⟨kk,q,_⟩ | ⟨jj,b',_,hs,_,q⟩ | ⟨_,_,_,_,_,_,kk,q,_⟩⟩
   ·have:=q.2.2.2.1; omega
   ·omega
   ·exact ⟨kk,q.2.2.2.2.1⟩
   ·rcases q with q | q
    ·omega
    ·rcases q.2 with q | ⟨_,q | q⟩ <;> omega
   ·have:=q.1; omega
  obtain ⟨kk,hp⟩:=hp
  have e:(m.step C who A).2.2=(m.t.step C who A).2.2:=by
   unfold Am.step
   rw [if_neg (by omega),if_neg (by omega),if_pos c2]
   dsimp only
   (repeat' split) <;> rfl
  rw [e]
  exact hp.cn hC hcl hcl3 hq
 by_cases c1:m.a.pc=1
 ·rcases ht.kind with ⟨q,_⟩ | ⟨_,_,q⟩ | ⟨q,_⟩ | ⟨q,_⟩ | ⟨q,_⟩ | ⟨q,_⟩
  ·rcases q with q | q <;> (rw [c1] at q; exact absurd q (by decide))
  ·rw [q]; exact hq
  all_goals omega
 intro j j0 j1
 have hne:C.chunk j≠a:=by
  have hck:=C.chunk j
  rcases ht.kind with ⟨_,q | ⟨s,s0,s1,q⟩⟩ | ⟨q,_⟩ | ⟨q,_⟩ | ⟨q,q'⟩ | ⟨q,q'⟩ | ⟨q,q'⟩
  ·unfold Cf.chunk; omega
  ·unfold Cf.slot at q; unfold Cf.chunk; omega
  ·omega
  ·omega
  ·unfold Cf.chunk at *; omega
  ·obtain ⟨s,F,jj,_,_,q1,q2,q3,q4⟩:=h.ph.spot hC hAw.alo hcl hcl3 (by omega) (by omega)
   have:=base_ge hC q2.1 q2.2 q3
   unfold Cf.chunk; omega
  ·obtain ⟨s,F,jj,hF,q0,q1,q2,q3,q4⟩:=h.ph.spot hC hAw.alo hcl hcl3 (by omega) (by omega)
   have hm:=hAw.fre.c.mem s (by rw [hF]; simp)
   unfold Cf.slot at q'; unfold Cf.chunk; omega
 rw [ht.w _ hne]; exact hq j j0 j1
theorem c_MakeQ (hN:N.ok) (hC:C.ok) (hA:isA N A σ) {b:Bg} {size bb:Int} {own:Bool} (hP:Pa C A bb) (hb:bb<2305843009213693952) (hAw:b.aw C A.w) (hlv:b.lvok C) (hcl:0≤classOf size) (hq:ckN C A.w)
  (hk:∀ m A' τ,DnM C b size own A.w A.s m A'→Pa C A' (bb+100)→A'.n=A.n→(∀ j,0≤j→j<b.nx→chC (A'.w (C.chunk j))=chC (A.w (C.chunk j)))→(∀ i,lowW C i→A'.w i=A.w i)→ckN C A'.w→isA N A' τ→Keep N.l σ τ→K (.agg #[.int .i64 m.a.oE,.int .u64 m.a.oH,.int .i64 m.a.oV,.int .i64 m.a.oS]) τ) :
  s_bb [N.env C who,.int .i64 size,.bool own] K σ:=by
 have hCC:=hC.C
 refine c_Make hN hC hA (fun k m A'=>Mkr C b size own A bb k m A'∧(∀ j,0≤j→j<b.nx→chC (A'.w (C.chunk j))=chC (A.w (C.chunk j)))∧(∀ i,lowW C i→A'.w i=A.w i)∧ckN C A'.w) (fun m A'=>DnM C b size own A.w A.s m A'∧Pa C A' (bb+100)∧A'.n=A.n∧(∀ j,0≤j→j<b.nx→chC (A'.w (C.chunk j))=chC (A.w (C.chunk j)))∧(∀ i,lowW C i→A'.w i=A.w i)∧ckN C A'.w) ⟨.new hP hAw,fun _ _ _=>rfl,fun _ _=>rfl,hq⟩ ?_ (fun m A' h=>by have:=h.1.ph.kle hC; omega) fun m A' τ h=>hk m A' τ h.1 h.2.1 h.2.2.1 h.2.2.2.1 h.2.2.2.2.1 h.2.2.2.2.2
 rintro k m A' k0 k1 ⟨h,hck,hlo,hq⟩
 refine ⟨h.fit hC hAw hcl,h.pa.ok.w,h.pa.n,?_⟩
 have hkl:=h.ph.kle hC
 have hck':∀ j,0≤j→j<b.nx→chC ((m.step C who A').2.2.w (C.chunk j))=chC (A.w (C.chunk j)):=fun j j0 j1=>(h.ck hC hb hAw hlv hcl k0 j0 j1).trans (hck j j0 j1)
 have hlo':∀ i,lowW C i→(m.step C who A').2.2.w i=A.w i:=fun i hi=>(h.lo hC hb hAw hlv hcl k0 hi).trans (hlo i hi)
 have hq':ckN C (m.step C who A').2.2.w:=h.cn hC hb hAw hlv hcl k0 hq
 obtain ⟨⟨⟨a,ht⟩,hla⟩,h2⟩:=h.step (who:=who) hC hb hAw hlv hcl k0
 rcases h2 with ⟨d,h'⟩ | ⟨d,h',hP'⟩
 ·rw [if_neg (by rw [d]; decide)]; exact ⟨h',hck',hlo',hq'⟩
 ·rw [if_pos d]; exact ⟨h',hP'.mono (by omega),ht.n.trans h.n,hck',hlo',hq'⟩
structure Dv (C:Cf) (i:Int) (n:Nat) (dd:Int→Do) (li:Int→Bool) (V:Int→Int→Int) (w:Int→Int) (b:Bg):Prop where
 dw:Dw C i n dd li w b
 sf:∀ s,0≤s→s<C.S→s ∈ b.F∨∃ k:Int,(0≤k∧k<n)∧li k=true∧(dd k).s=s
 fs:∀ s,0≤s→s<C.S→s ∈ b.F→slS (w (C.slot s))=0∧slA (w (C.slot s))=0
 ls:∀ k:Int,0≤k→k<n→li k=true→w (C.slot (dd k).s)=putSlot 1 ((dd k).a C) (dd k).ge 0
 ce:∀ k:Int,0≤k→k<n→li k=true→∀ x,0≤x→x<(dd k).z→(0≤V k x∧V k x≤1099511627775)∧w ((dd k).a C+1+x)=putCell (V k x) false 0
 n1:ckN C w
def nV (V:Int→Int→Int) (n:Int):Int→Int→Int:=fun k x=>if k=n then 0 else V k x
section
variable {i:Int} {n:Nat} {dd:Int→Do} {li:Int→Bool} {V:Int→Int→Int} {w w':Int→Int} {b:Bg}
theorem Dv.mono {i':Int} (h:Dv C i n dd li V w b) (hi:i≤i'):Dv C i' n dd li V w b:=⟨h.dw.mono hi,h.sf,h.fs,h.ls,h.ce,h.n1⟩
theorem Dv.new (hC:C.ok) (h:Frsh N C A):Dv C 0 0 (fun _=>⟨0,0,0,false,0,0⟩) (fun _=>false) (fun _ _=>0) A.w (Bg.fr C):=by
 have hS:=hC.S; have hT:=hC.T
 refine ⟨Dw.new hC h,fun s s0 s1=>.inl ?_,fun s s0 s1 _=>?_,fun k k0 k1=>by omega,fun k k0 k1=>by omega,fun j j0 j1=>?_⟩
 ·show s ∈ upL 0 C.S.toNat
  have:∀ {n:Nat} {i s:Int},i≤s→s<i+n→s ∈ upL i n:=by
   intro n
   induction n with
   | zero=>intro i s h1 h2; omega
   | succ n ih=>
    intro i s h1 h2
    by_cases e:s=i
    ·subst e; exact List.mem_cons_self ..
    ·exact List.mem_cons_of_mem _ (ih (by omega) (by omega))
  exact this s0 (by omega)
 ·rw [h.w]
  unfold Cf.w0 Cf.fr
  rw [if_neg (by unfold Cf.slot; omega),if_neg (by unfold Cf.slot; omega),if_pos (by unfold Cf.slot; omega),if_pos (by unfold Cf.slot; omega)]
  exact ⟨by decide,by decide⟩
 ·have hch:C.chunk 0≤C.chunk j:=by unfold Cf.chunk; omega
  rw [h.w,w0_high hC hch]; decide
theorem Dv.same (hC:C.ok) (h:Dv C i n dd li V w b) (aw:b.aw C w') (hs:∀ t,0≤t→t<C.S→w' (C.slot t)=w (C.slot t)) (hw:∀ j x,0≤j→j<C.C→0≤x→x<b.u j→x<C.W→w' (C.base j+x)=w (C.base j+x)) (hc:∀ j,0≤j→j<b.nx→chC (w' (C.chunk j))=chC (w (C.chunk j))) (hq:ckN C w'):Dv C i n dd li V w' b:=by
 have hbd:=h.dw.aw.alo.bd
 refine ⟨h.dw.same hC aw hs hw hc,h.sf,fun s s0 s1 hm=>by rw [hs s s0 s1]; exact h.fs s s0 s1 hm,fun k k0 k1 hk=>?_,fun k k0 k1 hk x x0 x1=>?_,hq⟩
 ·have:=(h.dw.hd k k0 k1).1.2.2
  rw [hs _ this.1 this.2]; exact h.ls k k0 k1 hk
 ·obtain ⟨⟨p1,p2,p3⟩,p4,p5⟩:=h.dw.pl k k0 k1
  have hcl:=(h.dw.hd k k0 k1).2.1
  have hz:=class_room' hcl
  have pu:=(aw_ule hC h.dw.aw p1.1 (by omega)).2
  unfold Do.rm at p3
  have e:(dd k).a C+1+x=C.base (dd k).j+((dd k).i+(1+x)):=by unfold Do.a; omega
  rw [e,hw _ _ p1.1 (by omega) (by omega) (by omega) (by omega),← e]
  exact h.ce k k0 k1 hk x x0 x1
theorem Dv.make (hC:C.ok) {z s j:Int} {own:Bool} {b':Bg} {F:List Int} (h:Dv C i n dd li V w b) (hi:i≤1000) (hF:b.F=s :: F) (hc:0≤classOf z)
  (hg:Got C b F (classOf z) j b') (haw:(b'.count j (roomOf (classOf z))).aw C w') (h1:w' (C.slot s)=putSlot 1 (C.base j+b.u j) (slG (w (C.slot s))) 0) (h2:w' (C.base j+b.u j)=putHead 2 z s (slG (w (C.slot s))) own)
  (h3:∀ x,1≤x→x<roomOf (classOf z)→w' (C.base j+(b.u j+x))=0) (fw:Fw C b True w w') (hck:∀ j,0≤j→j<b.nx→chC (w' (C.chunk j))=chC (w (C.chunk j))) (hq:ckN C w') :
  Dv C (i+1) (n+1) (addD dd n (Do.mk' C b s (slG (w (C.slot s))) z own j)) (updB li n true) (nV V n) w' (b'.count j (roomOf (classOf z))):=by
 have hm:=h.dw.aw.fre.c.mem s (by rw [hF]; simp)
 have hnd:=h.dw.aw.fre.nd
 rw [hF] at hnd
 have hsF:=(List.nodup_cons.1 hnd).1
 have hge:=h.dw.gen s hm.1 hm.2
 have hS:=hC.S
 have hbd:=h.dw.aw.alo.bd
 obtain ⟨u0,u1,u2,u3,u4⟩:=hd_handle (s:=s) (g:=slG (w (C.slot s))) (by omega) (by omega)
 have hmake:=h.dw.make (own:=own) hC hi hF hc hg haw h1 h2 fw hck
 have hbF:(b'.count j (roomOf (classOf z))).F=F:=(hg.has hC).1
 generalize hd:Do.mk' C b s (slG (w (C.slot s))) z own j=d at *
 have ds:d.s=s:=by subst hd; exact u2
 have dg:d.ge=slG (w (C.slot s)):=by subst hd; exact u3
 have da:d.a C=C.base j+b.u j:=by subst hd; rfl
 have dz:d.z=z:=by subst hd; rfl
 have aN:addD dd n d n=d:=if_pos rfl
 have aO:∀ k:Int,k<n→addD dd n d k=dd k:=fun k hk=>if_neg (by omega)
 have lN:updB li n true n=true:=if_pos rfl
 have lO:∀ k:Int,k<n→updB li n true k=li k:=fun k hk=>if_neg (by omega)
 have vO:∀ (k:Int) x,k<n→nV V n k x=V k x:=fun k x hk=>if_neg (by omega)
 have wS:∀ t,0≤t→t<C.S→t≠s→w' (C.slot t)=w (C.slot t):=fun t t0 t1 ht=>fw.slot t t0 t1 fun _ F' e=>by rw [hF] at e; cases e; exact ht rfl
 have sne:∀ k:Int,0≤k→k<n→li k=true→(dd k).s≠s:=fun k k0 k1 hk=>by
  have:=(h.dw.ok k k0 k1 hk).sF; rw [hF] at this; simp only [List.mem_cons,not_or] at this; exact this.1
 refine ⟨hmake,fun t t0 t1=>?_,fun t t0 t1 ht=>?_,fun k k0 k1 hk=>?_,fun k k0 k1 hk x x0 x1=>?_,hq⟩
 ·by_cases e:t=s
  ·exact .inr ⟨n,⟨by omega,by omega⟩,lN,by rw [aN,ds]; exact e.symm⟩
  ·rcases h.sf t t0 t1 with q | ⟨k,k1,k2,k3⟩
   ·rw [hF] at q
    rw [hbF]
    rcases List.mem_cons.1 q with q | q
    ·exact absurd q e
    ·exact .inl q
   ·exact .inr ⟨k,⟨k1.1,by omega⟩,by rw [lO k k1.2]; exact k2,by rw [aO k k1.2]; exact k3⟩
 ·rw [hbF] at ht
  have e:t≠s:=fun e=>hsF (e ▸ ht)
  rw [wS t t0 t1 e]
  exact h.fs t t0 t1 (by rw [hF]; exact List.mem_cons_of_mem _ ht)
 ·by_cases e:k=n
  ·subst e; rw [aN,ds,da,dg]; exact h1
  ·have kn:k<n:=by omega
   rw [aO k kn]; rw [lO k kn] at hk
   have o:=(h.dw.hd k k0 kn).1.2.2
   rw [wS _ o.1 o.2 (sne k k0 kn hk)]; exact h.ls k k0 kn hk
 ·by_cases e:k=n
  ·subst e
   rw [aN] at x1 ⊢
   rw [dz] at x1
   have hz:=class_room' hc
   have ev:nV V n n x=0:=if_pos rfl
   rw [ev,da]
   refine ⟨by decide,?_⟩
   have:=h3 (1+x) (by omega) (by omega)
   rw [show C.base j+(b.u j+(1+x))=C.base j+b.u j+1+x by omega] at this
   rw [this]; decide
  ·have kn:k<n:=by omega
   rw [aO k kn] at x1 ⊢; rw [lO k kn] at hk; rw [vO k x kn]
   obtain ⟨⟨p1,p2,p3⟩,p4,p5⟩:=h.dw.pl k k0 kn
   have hz:=class_room' (h.dw.hd k k0 kn).2.1
   have pu:=(aw_ule hC h.dw.aw p1.1 (by omega)).2
   unfold Do.rm at p3
   have e:(dd k).a C+1+x=C.base (dd k).j+((dd k).i+(1+x)):=by unfold Do.a; omega
   rw [e,fw.word _ _ p1.1 (by omega) (by omega) (by omega) (by omega),← e]
   exact h.ce k k0 kn hk x x0 x1
theorem Dv.drop (hC:C.ok) (hG:C.G=100) {k:Int} (h:Dv C i n dd li V w b) (hi:i≤90) (k0:0≤k) (k1:k<n) (hk:li k=true)
  (fr:(dd k).fr C w w') (sl:w' (C.slot (dd k).s)=(dd k).nx C) (aw:Bg.aw { b.less (dd k).j (roomOf (classOf (dd k).z)) with F:=if C.G≤(dd k).ge then b.F else (dd k).s :: b.F } C w') :
  Dv C (i+1) n dd (updB li k false) V w' { b.less (dd k).j (roomOf (classOf (dd k).z)) with F:=(dd k).s :: b.F }:=by
 have hdw:=h.dw.drop hC hG hi k0 k1 hk fr sl aw
 have o:=h.dw.ok k k0 k1 hk
 have hgk:=h.dw.gen _ o.s.1 o.s.2
 have hge:slG (w (C.slot (dd k).s))=(dd k).ge:=by rw [o.ws,o.sg]
 have slw:w' (C.slot (dd k).s)=putSlot 0 0 ((dd k).ge+1) 0:=by rw [sl]; unfold Do.nx; rw [if_neg (by omega)]
 have oj:=o.j; have oi:=o.i
 have hzk:=class_room' o.cl
 have hub:=(aw_ule hC h.dw.aw oj.1 oj.2).2
 have hbd:=h.dw.aw.alo.bd
 have wS:∀ t,0≤t→t<C.S→t≠(dd k).s→w' (C.slot t)=w (C.slot t):=fun t t0 t1 ht=>fr.slot hC oj.1 oj.2 oi.1 t0 t1 ht
 have lT:∀ l,updB li k false l=true→l≠k∧li l=true:=fun l hl=>by
  by_cases e:l=k
  ·subst e; rw [show updB li l false l=false from if_pos rfl] at hl; cases hl
  ·rw [show updB li k false l=li l from if_neg e] at hl; exact ⟨e,hl⟩
 refine ⟨hdw,fun t t0 t1=>?_,fun t t0 t1 ht=>?_,fun l l0 l1 hl=>?_,fun l l0 l1 hl x x0 x1=>?_,fun j j0 j1=>?_⟩
 ·show t ∈ (dd k).s :: b.F∨_
  by_cases e:t=(dd k).s
  ·exact .inl (by rw [e]; exact List.mem_cons_self ..)
  ·rcases h.sf t t0 t1 with q | ⟨l,l1,l2,l3⟩
   ·exact .inl (List.mem_cons_of_mem _ q)
   ·have:l≠k:=fun e'=>e (by rw [← e',l3])
    exact .inr ⟨l,l1,by rw [show updB li k false l=li l from if_neg this]; exact l2,l3⟩
 ·by_cases e:t=(dd k).s
  ·rw [e,slw]; have z:=sl_put' (st:=0) (ad:=0) (ge:=(dd k).ge+1) (ve:=0) (by decide) (by decide) (by omega); exact ⟨z.1,z.2.1⟩
  ·rw [wS t t0 t1 e]
   rcases List.mem_cons.1 (show t ∈ (dd k).s :: b.F from ht) with q | q
   ·exact absurd q e
   ·exact h.fs t t0 t1 q
 ·obtain ⟨lk,hl'⟩:=lT l hl
  have ol:=(h.dw.hd l l0 l1).1.2.2
  rw [wS _ ol.1 ol.2 (h.dw.nsl l k l0 l1 k0 k1 hl' hk lk)]; exact h.ls l l0 l1 hl'
 ·obtain ⟨lk,hl'⟩:=lT l hl
  obtain ⟨⟨p1,p2,p3⟩,p4,p5⟩:=h.dw.pl l l0 l1
  have hz:=class_room' (h.dw.hd l l0 l1).2.1
  have pu:=(aw_ule hC h.dw.aw p1.1 (by omega)).2
  have hns:=h.dw.ns l k l0 l1 k0 k1 lk
  have rmk:=(dd k).rm0
  unfold Do.rm at p3 hns rmk
  have e:(dd l).a C+1+x=C.base (dd l).j+((dd l).i+(1+x)):=by unfold Do.a; omega
  rw [e,fr.word hC oj.1 oj.2 oi.1 (by omega) o.s p1.1 (by omega) (by omega) (by omega) fun ⟨q1,q2,q3⟩=>by
   rcases hns with q | q | q
   ·exact q q1
   ·omega
   ·omega,← e]
  exact h.ce l l0 l1 hl' x x0 x1
 ·rw [fr.chunk hC oj.1 oj.2 oi.1 o.s j0 j1]; exact h.n1 j j0 j1
end
theorem c_MakeV (hN:N.ok) (hC:C.ok) (hA:isA N A σ) {i:Int} {n:Nat} {dd:Int→Do} {li:Int→Bool} {V:Int→Int→Int} {b:Bg} {z bb:Int} {own:Bool} (hP:Pa C A bb) (hb:bb<2305843009213693952) (h:Dv C i n dd li V A.w b) (hi:i≤1000) (hcl:0≤classOf z)
  (k0:∀ oE oV oS A' τ,(oE=7∧b.F=[]∨oE=6∧¬ good C b.o b.u (classOf z)∧b.nx=C.C)→Dv C i n dd li V A'.w b→Pa C A' (bb+100)→A'.n=A.n→(∀ i,lowW C i→A'.w i=A.w i)→isA N A' τ→Keep N.l σ τ→K (.agg #[.int .i64 oE,.int .u64 0,.int .i64 oV,.int .i64 oS]) τ)
  (k1:∀ oV oS A' τ s F j b' d,b.F=s :: F→Got C b F (classOf z) j b'→(d.own=own∧d.j=j∧d.z=z∧d.i=b.u j)→Dv C (i+1) (n+1) (addD dd n d) (updB li n true) (nV V n) A'.w (b'.count j (roomOf (classOf z)))→Pa C A' (bb+100)→A'.n=A.n→(∀ i,lowW C i→A'.w i=A.w i)→isA N A' τ→Keep N.l σ τ →
   K (.agg #[.int .i64 0,.int .u64 d.n,.int .i64 oV,.int .i64 oS]) τ):s_bb [N.env C who,.int .i64 z,.bool own] K σ:=by
 refine c_MakeQ hN hC hA hP hb h.dw.aw (h.dw.lv.ok (by omega)) hcl h.n1 fun m A' τ hD hP' hn hck hlo hq hA' hK=>?_
 have hfw:=hD.fw
 rcases hD.r with ⟨e,eH,eF,haw⟩ | ⟨s,F,hF,⟨e,eH,ng,nx,haw⟩ | ⟨e,_,j,b',hg,jb,ub,eH,haw,w1,w2,w3⟩⟩
 ·rw [eH]
  exact k0 _ _ _ A' τ (.inl ⟨e,eF⟩) (h.same hC haw (fun t t0 t1=>hfw.slot t t0 t1 fun q=>by rw [e] at q; exact absurd q (by decide)) (fun j x j0 j1 x0 x1 x2=>hfw.word j x j0 j1 x0 x1 x2) hck hq) hP' hn hlo hA' hK
 ·rw [eH]
  exact k0 _ _ _ A' τ (.inr ⟨e,ng,nx⟩) (h.same hC haw (fun t t0 t1=>hfw.slot t t0 t1 fun q=>by rw [e] at q; exact absurd q (by decide)) (fun j x j0 j1 x0 x1 x2=>hfw.word j x j0 j1 x0 x1 x2) hck hq) hP' hn hlo hA' hK
 ·rw [e,eH]
  exact k1 _ _ A' τ s F j b' (Do.mk' C b s (slG (A.w (C.slot s))) z own j) hF hg ⟨rfl,rfl,rfl,rfl⟩ (h.make hC hi hF hcl hg haw w1 w2 w3 (hfw.mono fun _=>trivial) hck hq) hP' hn hlo hA' hK
theorem c_DropV (hN:N.ok) (hC:C.ok) (hG:C.G=100) (hA:isA N A σ) {i k:Int} {n:Nat} {dd:Int→Do} {li:Int→Bool} {V:Int→Int→Int} {b:Bg} {bb:Int} (hP:Pa C A bb) (hb:bb<2305843009213693952) (h:Dv C i n dd li V A.w b) (hi:i≤90) (k0:0≤k) (k1:k<n) (hk:li k=true)
  (kk:∀ oH oV oS A' τ,Dv C (i+1) n dd (updB li k false) V A'.w { b.less (dd k).j (roomOf (classOf (dd k).z)) with F:=(dd k).s :: b.F }→Pa C A' (bb+60)→A'.n=A.n→(∀ i,lowW C i→A'.w i=A.w i)→isA N A' τ→Keep N.l σ τ→K (.agg #[.int .i64 0,.int .u64 oH,.int .i64 oV,.int .i64 oS]) τ) :
  s_bc [N.env C who,.int .u64 (dd k).n,.bool (dd k).own] K σ:=by
 have o:=h.dw.ok k k0 k1 hk
 have hlv:=h.dw.lv.lv _ o.j.1 o.j.2
 refine c_DropAn hN hC hA hP hb h.dw.aw o (by omega) fun m A' τ hD hP' hn' hA' hK=>?_
 refine kk _ _ _ A' τ (h.drop hC hG hi k0 k1 hk hD.fr hD.sl hD.aw) hP' hn' (fun x hx=>?_) hA' hK
 have hx':x=0∨6≤x∧x<6+C.T:=hx
 have hbd:=base_ge hC o.j.1 o.j.2 o.i.1
 have ea:(dd k).a C=C.base (dd k).j+(dd k).i:=rfl
 have os:=o.s
 have oj:=o.j
 have hT:=hC.T
 exact hD.fr x (by unfold Cf.slot; omega) (by omega) (by unfold Cf.slot; omega) (by unfold Cf.chunk; omega) (by omega)
end Go.Fl
namespace Go.Fl
open Go
set_option linter.unusedVariables false
set_option linter.unusedSimpArgs false
variable {N:Nm} {A B:Ar} {σ:Mem} {K:Value→Mem→Prop} {C:Cf} {who:Int} {P:MP}
def MP.of (C:Cf) (w:Int→Int):MP:=⟨w,fun s=>decide (slS (w (C.slot s))=1),fun s=>slG (w (C.slot s)),fun s=>hdS (w (slA (w (C.slot s)))),fun s=>hdO (w (slA (w (C.slot s)))),fun s x=>ceV (w (slA (w (C.slot s))+1+x)),100,-1,0⟩
section
variable {i:Int} {n:Nat} {dd:Int→Do} {li:Int→Bool} {V:Int→Int→Int} {w w':Int→Int} {b:Bg}
theorem Dw.mul (hC:C.ok) (h:Dw C i n dd li w b) {k:Int} (k0:0≤k) (k1:k<n):(dd k).i % (dd k).rm=0:=by
 obtain ⟨⟨p1,p2,p3⟩,p4,p5⟩:=h.pl k k0 k1
 have rm:=(dd k).rm0
 have hr:=room_bd (h.hd k k0 k1).2.1 (class_bd (dd k).z).2
 have er:roomOf (chC (w (C.chunk (dd k).j)))=(dd k).rm:=by rw [p4]; rfl
 have hrm:3≤(dd k).rm:=hr.1
 have e1:=Int.emod_add_mul_ediv (dd k).i (dd k).rm
 have e2:=Int.emod_nonneg (dd k).i (show (dd k).rm≠0 by omega)
 have e3:=Int.emod_lt_of_pos (dd k).i (show 0<(dd k).rm by omega)
 have e4:0≤(dd k).rm*((dd k).i / (dd k).rm):=Int.mul_nonneg (by omega) (Int.ediv_nonneg p2 (by omega))
 obtain ⟨k',k1',q1,q2⟩:=h.cov (dd k).j ((dd k).rm*((dd k).i / (dd k).rm)) p1.1 p1.2 e4 (by omega) (by rw [er]; exact Int.mul_emod_right _ _)
 by_cases e:k'=k
 ·subst e; omega
 ·obtain ⟨_,p4',_⟩:=h.pl k' k1'.1 k1'.2
  have er':(dd k').rm=(dd k).rm:=by
   rw [q1,p4] at p4'
   unfold Do.rm; rw [p4']
  rcases h.ns k' k k1'.1 k1'.2 k0 k1 e with q | q | q
  ·exact absurd q1 q
  ·omega
  ·omega
theorem Dv.one (hC:C.ok) (h:Dv C i n dd li V w b) (hi:i≤1000) {k:Int} (k0:0≤k) (k1:k<n) (hk:li k=true) :
  (MP.of C w).lv (dd k).s=true∧(MP.of C w).g (dd k).s=(dd k).ge∧(MP.of C w).z (dd k).s=(dd k).z∧(MP.of C w).o (dd k).s=(dd k).own∧(∀ x,0≤x→x<(dd k).z→(MP.of C w).L (dd k).s x=V k x)∧slA (w (C.slot (dd k).s))=(dd k).a C∧(0≤(dd k).a C∧(dd k).a C≤1048575):=by
 have o:=h.dw.ok k k0 k1 hk
 have hd:=h.dw.hd k k0 k1
 obtain ⟨⟨p1,p2,p3⟩,p4,p5⟩:=h.dw.pl k k0 k1
 have hbd:=h.dw.aw.alo.bd
 have av:=(dd k).av hC o ⟨_,h.dw.aw⟩
 have hS:=hC.S
 have z:=sl_put' (st:=1) (ad:=(dd k).a C) (ge:=(dd k).ge) (ve:=0) (by decide) (by omega) (by omega)
 have hh:=hd_put (k:=2) (s:=(dd k).z) (t:=(dd k).s) (g:=(dd k).ge) (o:=(dd k).own) (by decide) (by omega) (by omega) (by omega)
 have ls:=h.ls k k0 k1 hk
 have ea:slA (w (C.slot (dd k).s))=(dd k).a C:=by rw [ls]; exact z.2.1
 refine ⟨?_,?_,?_,?_,fun x x0 x1=>?_,ea,by omega⟩
 ·show decide (slS (w (C.slot (dd k).s))=1)=true
  rw [ls,z.1]; decide
 ·show slG (w (C.slot (dd k).s))=_
  rw [ls]; exact z.2.2
 ·show hdS (w (slA (w (C.slot (dd k).s))))=_
  rw [ea,p5]; exact hh.2.1
 ·show hdO (w (slA (w (C.slot (dd k).s))))=_
  rw [ea,p5]; exact hh.2.2.2.2
 ·show ceV (w (slA (w (C.slot (dd k).s))+1+x))=_
  obtain ⟨c1,c2⟩:=h.ce k k0 k1 hk x x0 x1
  rw [ea,c2]; exact (ce_put c1 (by decide)).1
theorem Dv.who' (hC:C.ok) (h:Dv C i n dd li V w b) {s:Int} (s0:0≤s) (s1:s<C.S) (l:(MP.of C w).lv s=true):∃ k:Int,(0≤k∧k<n)∧li k=true∧(dd k).s=s:=by
 have l':slS (w (C.slot s))=1:=of_decide_eq_true l
 rcases h.sf s s0 s1 with q | q
 ·have:=h.fs s s0 s1 q; omega
 ·exact q
theorem Dv.ms (hC:C.ok) (h:Dv C i n dd li V w b) (hi:i≤1000) (cc:C.C≤8∧C.W≤40):MS C (MP.of C w):=by
 refine ⟨cc,fun s s0 s1 l=>?_,fun s s0 s1 l=>?_,.inl rfl,by show (0:Int)≤100∧(100:Int)≤1000; decide⟩
 ·obtain ⟨k,k1,k2,rfl⟩:=h.who' hC s0 s1 l
  obtain ⟨u1,u2,u3,u4,u5,u6,u7⟩:=h.one hC hi k1.1 k1.2 k2
  have hd:=h.dw.hd k k1.1 k1.2
  rw [u3,u2]
  refine ⟨hd.2.1,by omega,fun x x0 x1=>?_⟩
  rw [u5 x x0 x1]; exact (h.ce k k1.1 k1.2 k2 x x0 x1).1
 ·have l':¬ slS (w (C.slot s))=1:=of_decide_eq_false l
  show slS (w (C.slot s))≠1∧slS (w (C.slot s))≠4
  rcases h.sf s s0 s1 with q | ⟨k,k1,k2,rfl⟩
  ·have:=h.fs s s0 s1 q; omega
  ·have:=of_decide_eq_true (h.one hC hi k1.1 k1.2 k2).1
   exact absurd this l'
theorem Dv.mw (hC:C.ok) (h:Dv C i n dd li V w b) (hi:i≤1000) (cc:C.C≤8∧C.W≤40) {t:Int} (ht:1≤t) (hbw:∀ i,0≤w i∧w i<18446744073709551616) (h0:w 0≤t) (hpi:∀ i,0≤i→i<C.T→w (6+i)=0):MW C (MP.of C w) t (-1) (-1) w:=by
 have hbd:=h.dw.aw.alo.bd
 have hS:=hC.S
 refine ⟨hbw,fun j j0 j1=>?_,fun j x j0 j1 hs x0 x1 xm _=>?_,fun s s0 s1 l=>rfl,fun s s0 s1 l _=>?_,fun k k0 k1=>h.dw.op k0 k1,h0,hpi,.inl rfl⟩
 ·have hn:=h.n1 j j0 j1
  by_cases q:j<b.nx
  ·have old:=h.dw.aw.alo.old j j0 q
   have um:=h.dw.um j j0 q
   exact ⟨um.2.1,by rw [old.2.1]; exact old.2.2.2,by rw [old.2.1]; exact um.1,by omega,fun g=>by omega⟩
  ·have nw:=(h.dw.aw.alo.new j (by omega) j1).1
   rw [nw] at hn ⊢
   exact ⟨by decide,by have:=hC.W; show (0:Int)≤C.W; omega,by decide,by omega,fun g=>absurd g (by decide)⟩
 ·have hc:=h.dw.chs j0 j1
  have jn:j<b.nx:=hc.2.2 (by rcases hs with q | q <;> rcases hc.1 with u | u <;> omega)
  rw [hc.2.1] at x1
  obtain ⟨k,k1,e1,e2⟩:=h.dw.cov j x j0 jn x0 x1 xm
  obtain ⟨_,p4,p5⟩:=h.dw.pl k k1.1 k1.2
  have hd:=h.dw.hd k k1.1 k1.2
  have hz:=class_room' hd.2.1
  have hh:=hd_put (k:=2) (s:=(dd k).z) (t:=(dd k).s) (g:=(dd k).ge) (o:=(dd k).own) (by decide) (by omega) (by omega) (by omega)
  have ea:(dd k).a C=C.base j+x:=by unfold Do.a; rw [e1,e2]
  rw [ea] at p5
  rw [p5]
  exact .inr (.inl ⟨hh.1,by rw [hh.2.2.1]; exact hd.1.2.2,by rw [hh.2.1]; exact hd.2.1⟩)
 ·obtain ⟨k,k1,k2,rfl⟩:=h.who' hC s0 s1 l
  obtain ⟨u1,u2,u3,u4,u5,u6,u7⟩:=h.one hC hi k1.1 k1.2 k2
  obtain ⟨⟨p1,p2,p3⟩,p4,p5⟩:=h.dw.pl k k1.1 k1.2
  have hd:=h.dw.hd k k1.1 k1.2
  have old:=h.dw.aw.alo.old _ p1.1 p1.2
  have um:=h.dw.um _ p1.1 p1.2
  have rmz:(MP.of C w).rm (dd k).s=(dd k).rm:=by unfold MP.rm Do.rm; rw [u3]
  refine ⟨(dd k).a C,0,by rw [u2]; exact h.ls k k1.1 k1.2 k2,⟨Int.le_refl 0,by omega⟩,⟨(dd k).j,(dd k).i,rfl,⟨p1.1,by omega⟩,by rw [rmz,old.2.1]; exact ⟨p2,p3⟩,?_,by rw [u3]; exact p4,.inl old.1⟩,?_,fun x x0 x1=>?_⟩
  · -- its place is a multiple of its room
   rw [rmz]
   exact h.dw.mul hC k1.1 k1.2
  ·unfold MP.hw
   rw [if_neg (by show (dd k).a C ≠ -1; omega),u3,u2,u4]; exact p5
  ·rw [u3] at x1; rw [u5 x x0 x1]; exact (h.ce k k1.1 k1.2 k2 x x0 x1).2
end
theorem WI.init (hC:C.ok) (hS:MS C P) (mw:MW C P P.N0 (-1) (-1) A.w) (nn:C.len≤A.n∧(A.n:Int)≤200000000) (n2:no2 C A.w):WI C P (2*C.C+2310) Co.new A:=by
 have hn0:=hS.n0
 have hC3:=hC.C
 have hcc:=hS.cc
 have et:tW P Co.new - (2*C.C+2310)=P.N0+(690 - 2*C.C):=by show P.N0+3000*0+3000 - (2*C.C+2310)=_; omega
 refine ⟨hS,nn,by omega,.p0 rfl rfl rfl ?_ n2 ⟨Int.le_refl 0,by show (0:Int)<C.C; omega⟩ (fun e=>absurd rfl e) (by show 2*(C.C - 0)+2310≤2*C.C+2310; omega),?_⟩
 ·rw [et]; exact mw.mono (by omega)
 ·rw [et]
  exact ⟨⟨by decide,by show (0:Int)≤_; omega⟩,⟨by decide,by show (0:Int)≤_; omega⟩,⟨by decide,by show (0:Int)≤_; omega⟩,⟨by decide,by show (0:Int)≤_; omega⟩,by decide,by decide⟩
theorem Dv.wi (hC:C.ok) {i:Int} {n:Nat} {dd:Int→Do} {li:Int→Bool} {V:Int→Int→Int} {b:Bg} (h:Dv C i n dd li V A.w b) (hi:i≤1000) (cc:C.C≤8∧C.W≤40) (hbw:∀ i,0≤A.w i∧A.w i<18446744073709551616) (h0:A.w 0=0) (hpi:∀ i,0≤i→i<C.T→A.w (6+i)=0) (nn:C.len≤A.n∧(A.n:Int)≤200000000) :
  WI C (MP.of C A.w) (2*C.C+2310) Co.new A:=
 WI.init hC (h.ms hC hi cc) (h.mw hC hi cc (by show (1:Int)≤100; decide) hbw (by rw [h0]; show (0:Int)≤100; decide) hpi) nn fun j j0 j1=>by rcases (h.dw.chs j0 j1).1 with q | q <;> omega
def okT (C:Cf) (A:Ar) (a:Int):Prop:=a<C.base 0∨∃ j x,(0≤j∧j<C.C)∧0≤x∧a=C.base j+x∧chS (A.w (C.chunk j))≠0∧x<chU (A.w (C.chunk j))∧chU (A.w (C.chunk j))≤C.W
structure Tx (C:Cf) (A A':Ar):Prop where
 s:A'.s=IntKind.i64.wrap (A.s+1)
 la:okT C A A'.la
 ck:¬ A'.la<C.base 0→∀ j,0≤j→j<C.C→A'.w (C.chunk j)=A.w (C.chunk j)
 fm:∃ who a,A'=(A.by who).load a∨∃ v,A'=(A.by who).store a v
theorem Tx.ld {a:Int} (h:okT C A a):Tx C A ((A.by who).load a):=⟨rfl,h,fun _ _ _ _=>rfl,_,_,.inl rfl⟩
theorem Tx.st (hC:C.ok) {a v:Int} (h:okT C A a):Tx C A ((A.by who).store a v):=⟨rfl,h,fun q j j0 j1=>upd_ne _ _ (by
 have q':¬ a<C.base 0:=q
 have:=ck_lt hC j0 j1
 have e0:C.base 0=6+C.T+2*C.S+3*C.C:=by unfold Cf.base; omega
 omega),_,_,.inr ⟨_,rfl⟩⟩
theorem Tx.ok {A':Ar} {b:Int} (h:Tx C A A') (ho:A.ok b) (hb:b<4611686018427387904) (hw:∀ i,0≤A'.w i∧A'.w i<18446744073709551616):A'.ok (b+1):=by
 obtain ⟨who,a,rfl | ⟨v,rfl⟩⟩:=h.fm
 ·exact (aft_load ho (by omega)).ok (by decide) ho hw
 ·exact (aft_store ho (by omega)).ok (by decide) ho hw
theorem Tx.cs (hC:C.ok) {a o v:Int} (h:okT C A a):Tx C A ((A.by who).cas a o v):=by
 by_cases e:A.w a=o
 ·rw [cas_yes (show (A.by who).w _=_ from e)]; exact Tx.st hC h
 ·rw [cas_no (show (A.by who).w _≠_ from e)]; exact Tx.ld h
theorem Tx.ad (hC:C.ok) {a d:Int} (h:okT C A a):Tx C A ((A.by who).add a d):=by rw [add_eq]; exact Tx.st hC h
theorem okT.lo (hC:C.ok) {a:Int} (h:a=0∨a=1∨(∃ k,0≤k∧k≤3∧a=2+k)∨(∃ i,0≤i∧i<C.T∧a=6+i)∨(∃ s,0≤s∧s<C.S∧a=C.slot s)∨∃ j d,(0≤j∧j<C.C)∧(0≤d∧d≤2)∧a=C.chunk j+d):okT C A a:=by
 have e0:C.base 0=6+C.T+2*C.S+3*C.C:=by unfold Cf.base; omega
 have hT:=hC.T; have hS:=hC.S; have hC3:=hC.C
 refine .inl ?_
 rcases h with e | e | ⟨k,k0,k1,e⟩ | ⟨k,k0,k1,e⟩ | ⟨s,s0,s1,e⟩ | ⟨j,d,j0,d0,e⟩
 ·omega
 ·omega
 ·omega
 ·omega
 ·unfold Cf.slot at e; omega
 ·unfold Cf.chunk at e; omega
theorem okT.ck (hC:C.ok) {j:Int} (j0:0≤j) (j1:j<C.C) {d:Int} (hd:0≤d∧d≤2):okT C A (C.chunk j+d):=okT.lo hC (.inr (.inr (.inr (.inr (.inr ⟨j,d,⟨j0,j1⟩,hd,rfl⟩)))))
theorem okT.ck0 (hC:C.ok) {j:Int} (j0:0≤j) (j1:j<C.C):okT C A (C.chunk j):=by
 have:=okT.ck (A:=A) hC j0 j1 (d:=0) (by decide)
 rwa [Int.add_zero] at this
theorem okT.sl (hC:C.ok) {s:Int} (h:0≤s∧s<C.S):okT C A (C.slot s):=okT.lo hC (.inr (.inr (.inr (.inr (.inl ⟨s,h.1,h.2,rfl⟩)))))
theorem MvI.touch (hC:C.ok) (hS:MS C P) {T at' pos cw q:Int} {m:Mv} (h:MvI C P T at' pos cw q m A.w) (hT:T≤4194000) (hq:1≤q):Tx C A (m.step C who A).2.2:=by
 cases h with
 | a h=>
  obtain ⟨e,_⟩:=h.step (who:=who) hC hS hT
  rw [e]
  have es:m.a.hs=hdT (A.w (C.base at'+pos)):=by rw [h.em]; rfl
  exact Tx.ld (okT.sl hC (by rw [es]; exact h.t))
 | b s v k u hc h=>
  obtain ⟨⟨a,ha,e | ⟨y,_,e⟩⟩,_⟩:=h.step (who:=who) hC hS hc hT hq
  all_goals
   have hcl:0≤classOf (P.z s)∧classOf (P.z s)≤3:=⟨(hS.lv s hc.sb.1 hc.sb.2 hc.l).1,(class_bd _).2⟩
   have ho:okT C A a:=by
    rcases ha with rfl | ⟨j,j0,j1,rfl⟩
    ·exact okT.lo hC (.inr (.inr (.inl ⟨_,hcl.1,hcl.2,rfl⟩)))
    ·exact okT.ck0 hC j0 j1
   rw [e]
  ·exact Tx.ld ho
  ·exact Tx.st hC ho
 | c s v xs hc h=>
  obtain ⟨rr,gp,gx,ga,gs,gg,gS,gne⟩:=h.geo hC hS hc
  obtain ⟨c1,c2,c3,c4,c5,c6⟩:=hc.con
  have hib:=h.ib
  have px:=h.pa.xb
  have sx:=h.sp.x
  have uW:=h.uW
  have oa:∀ d,0≤d→d≤P.z s→okT C A (m.a.addr+d):=fun d d0 d1=>.inr ⟨at',pos+d,h.ev.ab,by omega,by rw [c1]; omega,by rcases h.pa.st with q | q <;> omega,by omega,uW.1⟩
  have os:∀ d,0≤d→d≤P.z s→okT C A (m.a.sa+d):=fun d d0 d1=>.inr ⟨m.a.sc,xs+d,h.sp.j,by omega,by rw [h.sp.esa]; omega,by have:=h.sp.st; omega,by omega,uW.2⟩
  have os0:okT C A m.a.sa:=by have:=os 0 (Int.le_refl 0) (by omega); rwa [Int.add_zero] at this
  have osl:okT C A (C.slot m.a.hs):=okT.sl hC (by rw [c4]; exact hc.sb)
  have hpc:(2≤m.a.pc∧m.a.pc≤10)∧(m.a.pc=4∨m.a.pc=5∨m.a.pc=6→m.a.i<P.z s):=by
   rcases h.ph with ⟨h',_⟩ | ⟨_,_,⟨_,_,⟨p,hi,_⟩ | ⟨p,hi,_⟩ | ⟨p,hi,_⟩ | ⟨p,_⟩⟩ | ⟨p,_⟩⟩ | ⟨p,_⟩
   ·rcases h' with e | ⟨e,_⟩ <;> omega
   all_goals omega
  obtain ⟨hb,hi⟩:=hpc
  unfold Mv.step
  rw [if_neg (show ¬ m.a.pc=0 by omega),if_neg (show ¬ m.a.pc=1 by omega)]
  by_cases p2:m.a.pc=2
  ·rw [if_pos p2]; exact Tx.st hC os0
  rw [if_neg p2]
  by_cases p3:m.a.pc=3
  ·rw [if_pos p3]; exact Tx.cs hC osl
  rw [if_neg p3]
  by_cases p4:m.a.pc=4
  ·rw [if_pos p4]
   have:=oa (1+m.a.i) (by omega) (by have:=hi (.inl p4); omega)
   rw [← Int.add_assoc] at this
   exact Tx.ld this
  rw [if_neg p4]
  by_cases p5:m.a.pc=5
  ·rw [if_pos p5]
   have:=oa (1+m.a.i) (by omega) (by have:=hi (.inr (.inl p5)); omega)
   rw [← Int.add_assoc] at this
   exact Tx.cs hC this
  rw [if_neg p5]
  by_cases p6:m.a.pc=6
  ·rw [if_pos p6]
   have:=os (1+m.a.i) (by omega) (by have:=hi (.inr (.inr p6)); omega)
   rw [← Int.add_assoc] at this
   exact Tx.st hC this
  rw [if_neg p6]
  by_cases p7:m.a.pc=7
  ·rw [if_pos p7]; (repeat' split) <;> exact Tx.cs hC osl
  rw [if_neg p7]
  by_cases p8:m.a.pc=8
  ·rw [if_pos p8]; exact Tx.st hC os0
  rw [if_neg p8]
  by_cases p9:m.a.pc=9
  ·rw [if_pos p9]; exact Tx.ad hC (okT.ck hC h.sp.j.1 h.sp.j.2 (by decide))
  rw [if_neg p9,if_pos (show m.a.pc=10 by omega),c1,(base_of hC h.ev.ab.1 h.ev.ab.2 gp.1 (by omega)).1]
  exact Tx.ad hC (okT.ck hC h.ev.ab.1 h.ev.ab.2 (by decide))
theorem WI.touch (hC:C.ok) {q:Int} {c:Co} (h:WI C P q c A) (hrd:c.r.rd≤1300) (r:Int):Tx C A (c.step C who A r).2:=by
 obtain ⟨hS,nn,q3,wc,nm⟩:=h
 have hn0:=hS.n0
 have hT4:tW P c≤4194000:=by unfold tW; omega
 have o0:okT C A 0:=okT.lo hC (.inl rfl)
 cases wc with
 | p0 hp ha hs mw n2 h0 hl hq=>
  unfold Co.step; rw [if_pos hp]; exact Tx.ld (okT.ck0 hC h0.1 h0.2)
 | p1 hp ha hs mw n2 h0 hl hq=>
  unfold Co.step; rw [if_neg (by omega),if_pos hp]; exact Tx.ld (okT.ck hC h0.1 h0.2 (by decide))
 | p2 hp ha hs mw n2 h0 hl hq=>
  unfold Co.step; rw [if_neg (by omega),if_neg (by omega),if_pos hp]
  (repeat' split) <;> exact Tx.ld (okT.lo hC (.inr (.inr (.inl ⟨_,h0.1,by omega,rfl⟩))))
 | p3 hp ha hs mw n2 h0 h1 hw hq=>
  unfold Co.step; rw [if_neg (by omega),if_neg (by omega),if_neg (by omega),if_pos hp]; exact Tx.cs hC (okT.ck0 hC h0.1 h0.2)
 | p4 hp ha hs mw ev px hq=>
  have o:okT C A (C.base c.r.at'+c.r.pos):=.inr ⟨_,_,ev.ab,px.x.1,rfl,by rw [ev.ecw,ev.c2]; decide,by rw [ev.ecw]; exact px.x.2,by rw [ev.ecw]; exact px.u⟩
  unfold Co.step; rw [if_neg (by omega),if_neg (by omega),if_neg (by omega),if_neg (by omega),if_pos hp]
  (repeat' split) <;> exact Tx.ld o
 | p5 hp ha hs mv h0 px hw hq=>
  have pr:=wpos_room px
  unfold Co.step; rw [if_neg (by omega),if_neg (by omega),if_neg (by omega),if_neg (by omega),if_neg (by omega),if_pos hp]
  exact mv.touch hC hS (by unfold evB; omega) (by omega)
 | p6 hp ha hs mw ev hn hq=>
  rcases (show c.r.pc=6∨c.r.pc=7∨c.r.pc=8 by omega) with e | e | e
  ·unfold Co.step; rw [if_neg (by omega),if_neg (by omega),if_neg (by omega),if_neg (by omega),if_neg (by omega),if_neg (by omega),if_pos e]; exact Tx.ld o0
  ·unfold Co.step; rw [if_neg (by omega),if_neg (by omega),if_neg (by omega),if_neg (by omega),if_neg (by omega),if_neg (by omega),if_neg (by omega),if_pos e]; exact Tx.st hC (okT.ck hC ev.ab.1 ev.ab.2 (by decide))
  ·unfold Co.step; rw [if_neg (by omega),if_neg (by omega),if_neg (by omega),if_neg (by omega),if_neg (by omega),if_neg (by omega),if_neg (by omega),if_neg (by omega),if_pos e]; exact Tx.st hC (okT.ck0 hC ev.ab.1 ev.ab.2)
 | p9 hp ha hs mw ev hq=>
  unfold Co.step; rw [if_neg (by omega),if_neg (by omega),if_neg (by omega),if_neg (by omega),if_neg (by omega),if_neg (by omega),if_neg (by omega),if_neg (by omega),if_neg (by omega),if_pos hp]; exact Tx.st hC (okT.ck0 hC ev.ab.1 ev.ab.2)
 | p10 hp hs mw n2 ha hq=>
  have hT:=hC.T
  have hst:Tx C A ((c.a.getD Adv.new).step C who A).2.2:=by
   cases ea:c.a with
   | none=>rw [Option.getD_none]; unfold Adv.step; rw [if_pos (show Adv.new.pc=0 from rfl)]; exact Tx.ld o0
   | some v=>
    obtain ⟨_,v2⟩:=ha v ea
    rw [Option.getD_some]; unfold Adv.step
    rcases v2 with ⟨q1,q2⟩ | ⟨q1,q2⟩
    ·rw [if_neg (by omega),if_pos q1]
     (repeat' split) <;> exact Tx.ld (okT.lo hC (.inr (.inr (.inr (.inl ⟨_,q2.1,q2.2,rfl⟩)))))
    ·rw [if_neg (by omega),if_neg (by omega)]; exact Tx.cs hC o0
  rw [step10w hp]
  split <;> exact hst
 | p11 hp ha mw n2 h0 hs hq=>
  have hst:Tx C A ((c.s.getD (Stl.new c.r.at')).step C who A).2.2:=by
   cases es:c.s with
   | none=>rw [Option.getD_none]; unfold Stl.step; rw [if_pos (show (Stl.new c.r.at').pc=0 from rfl)]; exact Tx.ld (okT.ck0 hC h0.1 h0.2)
   | some v=>
    obtain ⟨v1,v3,v4,v5,v6⟩:=hs v es
    rw [Option.getD_some]; unfold Stl.step; rw [v1]
    rcases v6 with ⟨q1 | q1,q2⟩ | ⟨q1,q2⟩ | q1 | q1
    ·rw [if_neg (by omega),if_pos q1]; exact Tx.ld (okT.ck hC h0.1 h0.2 (by decide))
    ·rw [if_neg (by omega),if_neg (by omega),if_pos q1]; exact Tx.ld o0
    ·rw [if_neg (by omega),if_neg (by omega),if_neg (by omega),if_pos q1]
     exact Tx.st hC (.inr ⟨_,_,h0,q2.1,rfl,by rw [v3]; decide,by rw [← v4]; exact q2.2,(mw.ck _ h0.1 h0.2).u⟩)
    ·rw [if_neg (by omega),if_neg (by omega),if_neg (by omega),if_neg (by omega),if_pos q1]; exact Tx.st hC (okT.ck hC h0.1 h0.2 (by decide))
    ·rw [if_neg (by omega),if_neg (by omega),if_neg (by omega),if_neg (by omega),if_neg (by omega)]; exact Tx.st hC (okT.ck0 hC h0.1 h0.2)
  rw [step11w hp]
  split <;> exact hst
end Go.Fl
namespace Go.Fl
open Go
set_option linter.unusedVariables false
set_option linter.unusedSimpArgs false
variable {N:Nm} {A B:Ar} {σ:Mem} {K:Value→Mem→Prop} {C:Cf} {who:Int}
structure Ac where
 kd:Int
 n:Int
 ix:Int
 v:Int
 old:Int
 own:Bool
 hs:Int
 hg:Int
 pc:Int
 w:Int
 cell:Int
 seen:Int
 rd:Int
 size:Int
 help:Option Nat
 oE:Int
 oH:Int
 oV:Int
 oS:Int
def Ac.l (a:Ac):List Value:=[.int .i64 a.kd,.int .u64 a.n,.int .i64 a.ix,.int .i64 a.v,.int .i64 a.old,.bool a.own,.int .i64 a.hs,.int .i64 a.hg,.int .i64 a.pc,.int .u64 a.w,.int .u64 a.cell,.int .i64 a.seen,.int .i64 a.rd,.int .i64 a.size,obP a.help,.int .i64 a.oE,.int .u64 a.oH,.int .i64 a.oV,.int .i64 a.oS]
def Ac.new (kd n ix v old:Int) (own:Bool):Ac:=⟨kd,n,ix,v,old,own,0,0,0,0,0,0,0,0,none,0,0,0,0⟩
def Ac.nxt (a:Ac):Int:=
 if a.kd=1∨a.kd=3∧ceV a.cell≠a.old then 6 else if slS a.w=4 then 4 else if ceF a.cell=false∨ceN a.cell<slV a.w then 5 else if ceN a.cell=slV a.w∧slS a.w=2 then 3 else 0
def Ac.at' (a:Ac):Int:=slA a.w+1+a.ix
def Ac.fin (a:Ac) (e v s:Int):Ac:={ a with oE:=e,oH:=0,oV:=v,oS:=s }
theorem ldAx {p k sz:Nat} {ag:Bool} {a:Ac} {v:Value} (hd:p ∉ N.l) (h:sub a.l k sz ag=some v):hLoad sz ag [.pointer (some ⟨p,k,none⟩)] K (putA N A (σ.set p ⟨a.l,true⟩))=K v (putA N A (σ.set p ⟨a.l,true⟩)):=by
 rw [hLoad_eq ((putA_get hd).trans (Mem.get_set_same _ _ _)),h,xOs]
theorem stAx {p k:Nat} {a:Ac} (a':Ac) {x:Value} (hd:p ∉ N.l) (hx:cellsOf x 1=some [x]) (ho:oneB x=true) (hk:k+1≤19) (e:lay a.l k [x]=a'.l) :
  hStore 1 [.pointer (some ⟨p,k,none⟩),x] K (putA N A (σ.set p ⟨a.l,true⟩))=K undef (putA N A (σ.set p ⟨a'.l,true⟩)):=by
 have:=stO (K:=K) (N:=N) (A:=A) (σ:=σ) (p:=p) (pre:=[]) (L:=a.l) (post:=[]) (k:=k) (sz:=1) (x:=x) (c:=[x]) hd hx rfl hk (by simp [ho])
 rw [e] at this
 simpa only [List.nil_append,List.append_nil,List.length_nil,Nat.zero_add] using this
theorem stAxa {p k sz:Nat} {a:Ac} (a':Ac) {c:List Value} (hd:p ∉ N.l) (hl:c.length=sz) (ho:c.all oneB=true) (hk:k+sz≤19) (e:lay a.l k c=a'.l) :
  hStore sz [.pointer (some ⟨p,k,none⟩),.agg c.toArray] K (putA N A (σ.set p ⟨a.l,true⟩))=K undef (putA N A (σ.set p ⟨a'.l,true⟩)):=by
 have:=stOa (K:=K) (N:=N) (A:=A) (σ:=σ) (p:=p) (pre:=[]) (L:=a.l) (post:=[]) (k:=k) (sz:=sz) (c:=c) hd hl hk ho
 rw [e] at this
 simpa only [List.nil_append,List.append_nil,List.length_nil,Nat.zero_add] using this
theorem c_AccNew {kd n ix v old:Int} {o:Bool} (hk:∀ id τ,σ.get id=none→τ.get id=some ⟨(Ac.new kd n ix v old o).l,true⟩→Ext σ τ→K (.pointer (some ⟨id,0,none⟩)) τ) :
  s_ag [.agg #[.int .i64 kd,.int .u64 n,.int .i64 ix,.int .i64 v,.int .i64 old],.bool o] K σ:=by
 have b:∀ K:Value→Prop,xF (fBuild [(0,5),(5,1),(6,2),(8,1),(9,1),(10,1),(11,1),(12,1),(13,1),(14,1),(15,4)] [.int .i64 0,.int .u64 0,.int .i64 0,.int .i64 0,.int .i64 0,.bool false,.int .i64 0,.int .i64 0,.int .i64 0,.int .u64 0,.int .u64 0,.int .i64 0,.int .i64 0,.int .i64 0,.pointer none,.int .i64 0,.int .u64 0,.int .i64 0,.int .i64 0] [0,1]) [.agg #[.int .i64 kd,.int .u64 n,.int .i64 ix,.int .i64 v,.int .i64 old],.bool o] K =
   K (.agg (Ac.new kd n ix v old o).l.toArray):=fun K=>nr rfl
 have g:gBox 5 [.agg #[.int .i64 kd,.int .u64 n,.int .i64 ix,.int .i64 v,.int .i64 old]] []=some [.int .i64 kd,.int .u64 n,.int .i64 ix,.int .i64 v,.int .i64 old]:=rfl
 have s5:∀ x y z u w:Value,gLoad 5 true [.pointer (some ⟨2,0,some 0⟩)] [x,y,z,u,w]=some (.agg #[x,y,z,u,w]):=fun _ _ _ _ _=>rfl
 simp only [s_ag,w_ag,g,s5,locP,b,xCs,xOs,ruS,Nat.reduceAdd,reduceIte,Int.reduceLT,Int.reduceLE,Int.reduceEq,Int.reduceNeg,Int.reduceAdd,Int.reduceSub]
 exact hBox_i (cs:=(Ac.new kd n ix v old o).l) rfl hk
theorem c_AccDone (hA:isA N A σ) {p:Nat} {a:Ac} (hp:σ.get p=some ⟨a.l,true⟩) (hk:K (.agg #[.int .i64 a.oE,.int .u64 a.oH,.int .i64 a.oV,.int .i64 a.oS]) σ):s_aa [.pointer (some ⟨p,0,none⟩)] K σ:=by
 have gs:∀ x y z w:Int,gStore 4 [.pointer (some ⟨2,0,some 0⟩),.agg #[.int .i64 x,.int .u64 y,.int .i64 z,.int .i64 w]] [.int .i64 0,.int .u64 0,.int .i64 0,.int .i64 0]=some [.int .i64 x,.int .u64 y,.int .i64 z,.int .i64 w]:=fun _ _ _ _=>rfl
 simp only [s_aa,w_aa,ruS,ruL,ruE,Nat.reduceAdd,reduceIte,Int.reduceLT,Int.reduceLE,Int.reduceEq,Int.reduceNeg,Int.reduceAdd,Int.reduceSub,Nat.reduceLeDiff,Nat.reduceLT]
 rw [ldG hp (show sub a.l 15 4 true=some (.agg #[.int .i64 a.oE,.int .u64 a.oH,.int .i64 a.oV,.int .i64 a.oS]) from rfl)]
 simp only [gs,sub4,ruS,ruL,ruE,Nat.reduceAdd,reduceIte,Int.reduceLT,Int.reduceLE,Int.reduceEq,Int.reduceNeg,Int.reduceAdd,Int.reduceSub,Nat.reduceLeDiff,Nat.reduceLT]
 exact hk
theorem c_Aend {p:Nat} {a:Ac} {e v s:Int} (hd:p ∉ N.l):s_ae [.pointer (some ⟨p,0,none⟩),.int .i64 e,.int .i64 v,.int .i64 s] K (putA N A (σ.set p ⟨a.l,true⟩))=K (.bool true) (putA N A (σ.set p ⟨(a.fin e v s).l,true⟩)):=by
 have b:∀ (K:Value→Prop),xF (fBuild [(0,1),(1,1),(2,1),(3,1)] [.int .i64 0,.int .u64 0,.int .i64 0,.int .i64 0] [0,2,3]) [.int .i64 e,.int .i64 v,.int .i64 s] K=K (.agg #[.int .i64 e,.int .u64 0,.int .i64 v,.int .i64 s]):=fun K=>nr rfl
 simp only [s_ae,w_ae,b,ruS,ruL,ruE,Nat.reduceAdd,reduceIte,Int.reduceLT,Int.reduceLE,Int.reduceEq,Int.reduceNeg,Int.reduceAdd,Int.reduceSub,Nat.reduceLeDiff,Nat.reduceLT]
 have:=stAxa (K:=fun _ σ=>K (.bool true) σ) (N:=N) (A:=A) (σ:=σ) (p:=p) (a:=a) (a.fin e v s) (c:=[.int .i64 e,.int .u64 0,.int .i64 v,.int .i64 s]) (sz:=4) (k:=15) hd rfl rfl (by decide) rfl
 exact this
theorem c_Aat {p:Nat} {a:Ac} (hd:p ∉ N.l) (h3:0≤a.w∧a.w<18446744073709551616) (h:0≤a.at'∧a.at'<9223372036854775807):s_ac [.pointer (some ⟨p,0,none⟩)] K (putA N A (σ.set p ⟨a.l,true⟩))=K (.int .i64 a.at') (putA N A (σ.set p ⟨a.l,true⟩)):=by
 have hA1:=slA_bd a.w
 simp only [s_ac,w_ac,ruS,ruL,ruE,Nat.reduceAdd,reduceIte,Int.reduceLT,Int.reduceLE,Int.reduceEq,Int.reduceNeg,Int.reduceAdd,Int.reduceSub,Nat.reduceLeDiff,Nat.reduceLT]
 rw [ldAx hd (show sub _ 9 1 false=some (.int .u64 a.w) from rfl),c_wSlot h3.1 h3.2]
 simp only [xFldV,List.toList_toArray,ruS,ruL,ruE,Nat.reduceAdd,reduceIte,Int.reduceLT,Int.reduceLE,Int.reduceEq,Int.reduceNeg,Int.reduceAdd,Int.reduceSub,Nat.reduceLeDiff,Nat.reduceLT]
 rw [ldAx hd (show sub _ 2 1 false=some (.int .i64 a.ix) from rfl),IntWalk.i64_in (slA a.w+1) (by omega)]
 simp only [ruS,ruL,ruE,Nat.reduceAdd,reduceIte,Int.reduceLT,Int.reduceLE,Int.reduceEq,Int.reduceNeg,Int.reduceAdd,Int.reduceSub,Nat.reduceLeDiff,Nat.reduceLT]
 rw [show slA a.w+1+a.ix=a.at' from rfl,IntWalk.i64_in _ (by omega)]
theorem c_Anext {p:Nat} {a:Ac} (hd:p ∉ N.l) (h3:0≤a.w∧a.w<18446744073709551616) (h4:0≤a.cell∧a.cell<18446744073709551616):s_af [.pointer (some ⟨p,0,none⟩)] K (putA N A (σ.set p ⟨a.l,true⟩))=K (.int .i64 a.nxt) (putA N A (σ.set p ⟨a.l,true⟩)):=by
 have g4:∀ (k:Nat) (x y z w x' y' z' w':Int),gStore 4 [.pointer (some ⟨k,0,some 0⟩),.agg #[.int .i64 x,.int .i64 y,.int .i64 z,.int .i64 w]] [.int .i64 x',.int .i64 y',.int .i64 z',.int .i64 w']=some [.int .i64 x,.int .i64 y,.int .i64 z,.int .i64 w]:=fun _ _ _ _ _ _ _ _ _=>rfl
 have g3:∀ (k:Nat) (x z:Int) (y:Bool) (x' z':Int) (y':Bool),gStore 3 [.pointer (some ⟨k,0,some 0⟩),.agg #[.int .i64 x,.bool y,.int .i64 z]] [.int .i64 x',.bool y',.int .i64 z']=some [.int .i64 x,.bool y,.int .i64 z]:=fun _ _ _ _ _ _ _=>rfl
 simp only [s_af,w_af,ruS,ruL,ruE,Nat.reduceAdd,reduceIte,Int.reduceLT,Int.reduceLE,Int.reduceEq,Int.reduceNeg,Int.reduceAdd,Int.reduceSub,Nat.reduceLeDiff,Nat.reduceLT]
 rw [ldAx hd (show sub _ 10 1 false=some (.int .u64 a.cell) from rfl),c_wCell h4.1 h4.2]
 simp only [ruS,ruL,ruE,Nat.reduceAdd,reduceIte,Int.reduceLT,Int.reduceLE,Int.reduceEq,Int.reduceNeg,Int.reduceAdd,Int.reduceSub,Nat.reduceLeDiff,Nat.reduceLT]
 rw [ldAx hd (show sub _ 9 1 false=some (.int .u64 a.w) from rfl),c_wSlot h3.1 h3.2]
 simp only [g3,g4,ruS,ruL,ruE,Nat.reduceAdd,reduceIte,Int.reduceLT,Int.reduceLE,Int.reduceEq,Int.reduceNeg,Int.reduceAdd,Int.reduceSub,Nat.reduceLeDiff,Nat.reduceLT]
 rw [ldAx hd (show sub _ 0 1 false=some (.int .i64 a.kd) from rfl)]
 have rest:∀ b:Bool,(b=true ↔ a.kd=1∨a.kd=3∧ceV a.cell≠a.old)→w_af_j1 K [.bool b] [[.int .i64 (ceV a.cell),.bool (ceF a.cell),.int .i64 (ceN a.cell)],[.int .i64 (slS a.w),.int .i64 (slA a.w),.int .i64 (slG a.w),.int .i64 (slV a.w)]] (putA N A (σ.set p ⟨a.l,true⟩))=K (.int .i64 a.nxt) (putA N A (σ.set p ⟨a.l,true⟩)):=by
  intro b hb
  unfold Ac.nxt
  simp only [← hb]
  simp only [w_af_j1,w_af_j1b,ruS,ruL,ruE,Nat.reduceAdd,reduceIte,Int.reduceLT,Int.reduceLE,Int.reduceEq,Int.reduceNeg,Int.reduceAdd,Int.reduceSub,Nat.reduceLeDiff,Nat.reduceLT]
  cases b with
  | true=>simp only [ruS,ruL,ruE,Nat.reduceAdd,reduceIte,Int.reduceLT,Int.reduceLE,Int.reduceEq,Int.reduceNeg,Int.reduceAdd,Int.reduceSub,Nat.reduceLeDiff,Nat.reduceLT]
  | false=>
   simp only [Bool.false_eq_true,if_false,ruS,ruL,ruE,Nat.reduceAdd,reduceIte,Int.reduceLT,Int.reduceLE,Int.reduceEq,Int.reduceNeg,Int.reduceAdd,Int.reduceSub,Nat.reduceLeDiff,Nat.reduceLT]
   by_cases c1:slS a.w=4
   ·simp only [c1,ruS,ruL,ruE,Nat.reduceAdd,reduceIte,Int.reduceLT,Int.reduceLE,Int.reduceEq,Int.reduceNeg,Int.reduceAdd,Int.reduceSub,Nat.reduceLeDiff,Nat.reduceLT]
   ·simp only [c1,ruS,ruL,ruE,Nat.reduceAdd,reduceIte,Int.reduceLT,Int.reduceLE,Int.reduceEq,Int.reduceNeg,Int.reduceAdd,Int.reduceSub,Nat.reduceLeDiff,Nat.reduceLT]
    cases c2:ceF a.cell with
    | false=>simp only [w_af_j2,w_af_j2b,true_or,ruS,ruL,ruE,Nat.reduceAdd,reduceIte,Int.reduceLT,Int.reduceLE,Int.reduceEq,Int.reduceNeg,Int.reduceAdd,Int.reduceSub,Nat.reduceLeDiff,Nat.reduceLT]
    | true=>
     by_cases c3:ceN a.cell<slV a.w
     ·simp only [c3,w_af_j2,w_af_j2b,or_true,ruS,ruL,ruE,Nat.reduceAdd,reduceIte,Int.reduceLT,Int.reduceLE,Int.reduceEq,Int.reduceNeg,Int.reduceAdd,Int.reduceSub,Nat.reduceLeDiff,Nat.reduceLT]
     ·by_cases c4:ceN a.cell=slV a.w
      ·by_cases c5:slS a.w=2
       ·simp only [c3,c4,c5,Int.lt_irrefl,w_af_j2,w_af_j2b,w_af_j3,w_af_j3b,Bool.true_eq_false,or_self,and_self,ruS,ruL,ruE,Nat.reduceAdd,reduceIte,Int.reduceLT,Int.reduceLE,Int.reduceEq,Int.reduceNeg,Int.reduceAdd,Int.reduceSub,Nat.reduceLeDiff,Nat.reduceLT]
       ·simp only [c3,c4,c5,Int.lt_irrefl,w_af_j2,w_af_j2b,w_af_j3,w_af_j3b,Bool.true_eq_false,or_self,and_false,ruS,ruL,ruE,Nat.reduceAdd,reduceIte,Int.reduceLT,Int.reduceLE,Int.reduceEq,Int.reduceNeg,Int.reduceAdd,Int.reduceSub,Nat.reduceLeDiff,Nat.reduceLT]
      ·simp only [c3,c4,w_af_j2,w_af_j2b,w_af_j3,w_af_j3b,Bool.true_eq_false,or_self,false_and,ruS,ruL,ruE,Nat.reduceAdd,reduceIte,Int.reduceLT,Int.reduceLE,Int.reduceEq,Int.reduceNeg,Int.reduceAdd,Int.reduceSub,Nat.reduceLeDiff,Nat.reduceLT]
 by_cases c1:a.kd=1
 ·simp only [c1,ruS,ruL,ruE,Nat.reduceAdd,reduceIte,Int.reduceLT,Int.reduceLE,Int.reduceEq,Int.reduceNeg,Int.reduceAdd,Int.reduceSub,Nat.reduceLeDiff,Nat.reduceLT]
  exact rest true (by simp [c1])
 ·simp only [c1,ruS,ruL,ruE,Nat.reduceAdd,reduceIte,Int.reduceLT,Int.reduceLE,Int.reduceEq,Int.reduceNeg,Int.reduceAdd,Int.reduceSub,Nat.reduceLeDiff,Nat.reduceLT]
  rw [ldAx hd (show sub _ 0 1 false=some (.int .i64 a.kd) from rfl)]
  by_cases c3:a.kd=3
  ·simp only [c3,ruS,ruL,ruE,Nat.reduceAdd,reduceIte,Int.reduceLT,Int.reduceLE,Int.reduceEq,Int.reduceNeg,Int.reduceAdd,Int.reduceSub,Nat.reduceLeDiff,Nat.reduceLT]
   rw [ldAx hd (show sub _ 4 1 false=some (.int .i64 a.old) from rfl)]
   by_cases c4:ceV a.cell=a.old
   ·simp only [c4,ne_eq,not_true_eq_false,ruS,ruL,ruE,Nat.reduceAdd,reduceIte,Int.reduceLT,Int.reduceLE,Int.reduceEq,Int.reduceNeg,Int.reduceAdd,Int.reduceSub,Nat.reduceLeDiff,Nat.reduceLT]
    rw [← c4]
    exact rest false (by simp [c1,c4])
   ·simp only [c4,ne_eq,not_false_eq_true,ruS,ruL,ruE,Nat.reduceAdd,reduceIte,Int.reduceLT,Int.reduceLE,Int.reduceEq,Int.reduceNeg,Int.reduceAdd,Int.reduceSub,Nat.reduceLeDiff,Nat.reduceLT]
    exact rest true (by simp [c3,c4])
  ·simp only [c3,ruS,ruL,ruE,Nat.reduceAdd,reduceIte,Int.reduceLT,Int.reduceLE,Int.reduceEq,Int.reduceNeg,Int.reduceAdd,Int.reduceSub,Nat.reduceLeDiff,Nat.reduceLT]
   exact rest false (by simp [c1,c3])
end Go.Fl
namespace Go.Fl
open Go
set_option linter.unusedVariables false
set_option linter.unusedSimpArgs false
variable {N:Nm} {A B:Ar} {σ:Mem} {K:Value→Mem→Prop} {C:Cf} {who:Int}
def Ac.step (C:Cf) (who:Int) (A:Ar) (a:Ac):Bool × Ac × Ar:=
 if a.pc=0 then
  if hdOk a.n=false∨C.S≤hdSl a.n then (true,({ a with hs:=hdSl a.n,hg:=hdGe a.n }:Ac).fin 3 0 A.s,A)
  else if lives (A.w (C.slot (hdSl a.n))) (hdGe a.n) then (false,{ a with hs:=hdSl a.n,hg:=hdGe a.n,w:=A.w (C.slot (hdSl a.n)),seen:=((A.by who).load (C.slot (hdSl a.n))).s,pc:=1 },(A.by who).load (C.slot (hdSl a.n)))
  else (true,({ a with hs:=hdSl a.n,hg:=hdGe a.n,w:=A.w (C.slot (hdSl a.n)),seen:=((A.by who).load (C.slot (hdSl a.n))).s,pc:=1 }:Ac).fin 3 0 ((A.by who).load (C.slot (hdSl a.n))).s,(A.by who).load (C.slot (hdSl a.n)))
 else if a.pc=1 then
  if hdO (A.w (slA a.w))≠a.own then (true,({ a with size:=hdS (A.w (slA a.w)),pc:=2 }:Ac).fin 3 0 ((A.by who).load (slA a.w)).s,(A.by who).load (slA a.w))
  else if a.ix<0∨hdS (A.w (slA a.w))≤a.ix then (true,({ a with size:=hdS (A.w (slA a.w)),pc:=2 }:Ac).fin 4 0 a.seen,(A.by who).load (slA a.w))
  else (false,{ a with size:=hdS (A.w (slA a.w)),pc:=2 },(A.by who).load (slA a.w))
 else if a.pc=2 then
  (false,{ a with cell:=A.w a.at',rd:=((A.by who).load a.at').s,pc:=({ a with cell:=A.w a.at' }:Ac).nxt },(A.by who).load a.at')
 else if a.pc=3 then
  (false,{ a with pc:=0 },(A.by who).cas (C.slot a.hs) a.w (putSlot 1 (slA a.w) (slG a.w) (slV a.w+1)))
 else if a.pc=5 then
  if A.w a.at'=a.cell then (true,({ a with pc:=0 }:Ac).fin 0 (ceV a.cell) ((A.by who).cas a.at' a.cell (putCell a.v false 0)).s,(A.by who).cas a.at' a.cell (putCell a.v false 0))
  else (false,{ a with pc:=0 },(A.by who).cas a.at' a.cell (putCell a.v false 0))
 else
  if lives (A.w (C.slot a.hs)) a.hg then
   if slA (A.w (C.slot a.hs))=slA a.w then (true,a.fin (if a.kd=3 then 8 else 0) (ceV a.cell) a.rd,(A.by who).load (C.slot a.hs))
   else (false,{ a with pc:=0 },(A.by who).load (C.slot a.hs))
  else (true,a.fin 3 0 ((A.by who).load (C.slot a.hs)).s,(A.by who).load (C.slot a.hs))
structure Ac.fit (C:Cf) (A:Ar) (a:Ac):Prop where
 pc:0≤a.pc∧a.pc≤6
 n:0≤a.n∧a.n<18446744073709551616
 hs:0≤a.hs∧a.hs<C.S
 w:0≤a.w∧a.w<18446744073709551616
 cell:0≤a.cell∧a.cell<18446744073709551616
 a1:a.pc=1→slA a.w<A.n
 a2:a.pc=2∨a.pc=5→0≤a.at'∧a.at'<A.n
 bd:(A.n:Int)≤200000000
theorem c_Ac0 (hN:N.ok) (hC:C.ok) (hA:isA N A σ) {p:Nat} {a:Ac} (hp:σ.get p=some ⟨a.l,true⟩) (hd:p ∉ N.l) (hw:∀ i,0≤A.w i∧A.w i<18446744073709551616) (hn:C.len≤A.n) (hf:a.fit C A) (h:a.pc=0)
  (hk:∀ τ,isA N (a.step C who A).2.2 τ→τ.get p=some ⟨(a.step C who A).2.1.l,true⟩→Keep (p :: N.l) σ τ→K (.bool (a.step C who A).1) τ) :
  s_ab [.pointer (some ⟨p,0,none⟩),N.env C who] K σ:=by
 have hT:=hC.T; have hS:=hC.S; have hC3:=hC.C; have hl:=len_bd hC
 have hch:C.chunk C.C=6+C.T+2*C.S+3*C.C:=rfl
 have h1:=hf.n
 obtain ⟨b1,b2⟩:=hdSl_bd h1.1
 rw [hA.obj hp]
 have g2:∀ (k:Nat) (x y:Int),gStore 2 [.pointer (some ⟨k,0,some 0⟩),.agg #[.int .i64 x,.int .i64 y]] [.int .i64 0,.int .i64 0]=some [.int .i64 x,.int .i64 y]:=fun _ _ _=>rfl
 have s2:∀ x y:Value,sub [x,y] 0 2 true=some (.agg #[x,y]):=fun _ _=>rfl
 unfold Ac.step at hk
 rw [if_pos h] at hk
 simp only [s_ab,w_ab,ruS,ruL,ruE,Nat.reduceAdd,reduceIte,Int.reduceLT,Int.reduceLE,Int.reduceEq,Int.reduceNeg,Int.reduceAdd,Int.reduceSub,Nat.reduceLeDiff,Nat.reduceLT]
 rw [ldAx hd (show sub _ 8 1 false=some (.int .i64 a.pc) from rfl)]
 simp only [h,ruS,ruL,ruE,Nat.reduceAdd,reduceIte,Int.reduceLT,Int.reduceLE,Int.reduceEq,Int.reduceNeg,Int.reduceAdd,Int.reduceSub,Nat.reduceLeDiff,Nat.reduceLT]
 rw [ldAx hd (show sub _ 1 1 false=some (.int .u64 a.n) from rfl),c_wHandleG h1.1 h1.2]
 simp only [g2,s2,ruS,ruL,ruE,Nat.reduceAdd,reduceIte,Int.reduceLT,Int.reduceLE,Int.reduceEq,Int.reduceNeg,Int.reduceAdd,Int.reduceSub,Nat.reduceLeDiff,Nat.reduceLT]
 have st2:∀ K:Value→Mem→Prop,hStore 2 [.pointer (some ⟨p,6,none⟩),.agg #[.int .i64 (hdSl a.n),.int .i64 (hdGe a.n)]] K (putA N A (σ.set p ⟨a.l,true⟩))=K undef (putA N A (σ.set p ⟨({ a with hs:=hdSl a.n,hg:=hdGe a.n }:Ac).l,true⟩)):=
  fun K=>stAxa (a:=a) { a with hs:=hdSl a.n,hg:=hdGe a.n } (c:=[.int .i64 (hdSl a.n),.int .i64 (hdGe a.n)]) (sz:=2) (k:=6) hd rfl rfl (by decide) rfl
 rw [st2]
 cases hO:hdOk a.n with
 | false=>
  rw [if_pos (.inl hO)] at hk
  simp only [w_ab_j2,w_ab_j2b,ruS,ruL,ruE,Nat.reduceAdd,reduceIte,Int.reduceLT,Int.reduceLE,Int.reduceEq,Int.reduceNeg,Int.reduceAdd,Int.reduceSub,Nat.reduceLeDiff,Nat.reduceLT]
  rw [c_Now,c_Aend hd]
  exact behind hN hd hk
 | true=>
  by_cases hs:C.S≤hdSl a.n
  ·rw [if_pos (.inr hs)] at hk
   simp only [hs,w_ab_j2,w_ab_j2b,ruS,ruL,ruE,Nat.reduceAdd,reduceIte,Int.reduceLT,Int.reduceLE,Int.reduceEq,Int.reduceNeg,Int.reduceAdd,Int.reduceSub,Nat.reduceLeDiff,Nat.reduceLT]
   rw [c_Now,c_Aend hd]
   exact behind hN hd hk
  ·rw [if_neg (fun q=>by rcases q with q | q; rw [hO] at q; cases q; exact hs q)] at hk
   have hsb:0≤C.slot (hdSl a.n)∧C.slot (hdSl a.n)<A.n:=by unfold Cf.slot; omega
   have hwa:=hw (C.slot (hdSl a.n))
   simp only [hs,w_ab_j2,w_ab_j2b,ruS,ruL,ruE,Nat.reduceAdd,reduceIte,Int.reduceLT,Int.reduceLE,Int.reduceEq,Int.reduceNeg,Int.reduceAdd,Int.reduceSub,Nat.reduceLeDiff,Nat.reduceLT]
   rw [c_Slot hC b1.1 (by omega),c_Load hN hsb.1 hsb.2,stAx { a with hs:=hdSl a.n,hg:=hdGe a.n,w:=A.w (C.slot (hdSl a.n)) } hd rfl rfl (by decide) rfl]
   rw [c_Now]
   rw [stAx { a with hs:=hdSl a.n,hg:=hdGe a.n,w:=A.w (C.slot (hdSl a.n)),seen:=((A.by who).load (C.slot (hdSl a.n))).s } hd rfl rfl (by decide) rfl]
   rw [stAx { a with hs:=hdSl a.n,hg:=hdGe a.n,w:=A.w (C.slot (hdSl a.n)),seen:=((A.by who).load (C.slot (hdSl a.n))).s,pc:=1 } hd rfl rfl (by decide) rfl]
   rw [ldAx (a:={ a with hs:=hdSl a.n,hg:=hdGe a.n,w:=A.w (C.slot (hdSl a.n)),seen:=((A.by who).load (C.slot (hdSl a.n))).s,pc:=1 }) hd (show sub _ 9 1 false=some (.int .u64 (A.w (C.slot (hdSl a.n)))) from rfl),c_wSlot hwa.1 hwa.2]
   simp only [s2,ruS,ruL,ruE,Nat.reduceAdd,reduceIte,Int.reduceLT,Int.reduceLE,Int.reduceEq,Int.reduceNeg,Int.reduceAdd,Int.reduceSub,Nat.reduceLeDiff,Nat.reduceLT]
   rw [c_Live]
   by_cases hl':lives (A.w (C.slot (hdSl a.n))) (hdGe a.n)
   ·have e:decide ((slS (A.w (C.slot (hdSl a.n)))=1∨slS (A.w (C.slot (hdSl a.n)))=2∨slS (A.w (C.slot (hdSl a.n)))=4)∧slG (A.w (C.slot (hdSl a.n)))=hdGe a.n)=true:=decide_eq_true hl'
    rw [if_pos hl'] at hk
    simp only [e,w_ab_j1,w_ab_j1b,ruS,ruL,ruE,Nat.reduceAdd,reduceIte,Int.reduceLT,Int.reduceLE,Int.reduceEq,Int.reduceNeg,Int.reduceAdd,Int.reduceSub,Nat.reduceLeDiff,Nat.reduceLT]
    exact behind hN hd hk
   ·have e:decide ((slS (A.w (C.slot (hdSl a.n)))=1∨slS (A.w (C.slot (hdSl a.n)))=2∨slS (A.w (C.slot (hdSl a.n)))=4)∧slG (A.w (C.slot (hdSl a.n)))=hdGe a.n)=false:=decide_eq_false hl'
    rw [if_neg hl'] at hk
    simp only [e,ruS,ruL,ruE,Nat.reduceAdd,reduceIte,Int.reduceLT,Int.reduceLE,Int.reduceEq,Int.reduceNeg,Int.reduceAdd,Int.reduceSub,Nat.reduceLeDiff,Nat.reduceLT]
    rw [c_Now,c_Aend hd]
    exact behind hN hd hk
theorem c_Ac1 (hN:N.ok) (hC:C.ok) (hA:isA N A σ) {p:Nat} {a:Ac} (hp:σ.get p=some ⟨a.l,true⟩) (hd:p ∉ N.l) (hw:∀ i,0≤A.w i∧A.w i<18446744073709551616) (hf:a.fit C A) (h:a.pc=1)
  (hk:∀ τ,isA N (a.step C who A).2.2 τ→τ.get p=some ⟨(a.step C who A).2.1.l,true⟩→Keep (p :: N.l) σ τ→K (.bool (a.step C who A).1) τ) :
  s_ab [.pointer (some ⟨p,0,none⟩),N.env C who] K σ:=by
 have hb:=slA_bd a.w
 have hwa:=hw (slA a.w)
 have h3:=hf.w
 have h4:=hf.a1 h
 rw [hA.obj hp]
 have g5:∀ (k:Nat) (x y z w:Int) (b:Bool),gStore 5 [.pointer (some ⟨k,0,some 0⟩),.agg #[.int .i64 x,.int .i64 y,.int .i64 z,.int .i64 w,.bool b]] [.int .i64 0,.int .i64 0,.int .i64 0,.int .i64 0,.bool false]=some [.int .i64 x,.int .i64 y,.int .i64 z,.int .i64 w,.bool b]:=fun _ _ _ _ _ _=>rfl
 unfold Ac.step at hk
 rw [if_neg (by omega),if_pos h] at hk
 simp only [s_ab,w_ab,ruS,ruL,ruE,Nat.reduceAdd,reduceIte,Int.reduceLT,Int.reduceLE,Int.reduceEq,Int.reduceNeg,Int.reduceAdd,Int.reduceSub,Nat.reduceLeDiff,Nat.reduceLT]
 rw [ldAx hd (show sub _ 8 1 false=some (.int .i64 a.pc) from rfl)]
 simp only [h,ruS,ruL,ruE,Nat.reduceAdd,reduceIte,Int.reduceLT,Int.reduceLE,Int.reduceEq,Int.reduceNeg,Int.reduceAdd,Int.reduceSub,Nat.reduceLeDiff,Nat.reduceLT]
 rw [ldAx hd (show sub _ 9 1 false=some (.int .u64 a.w) from rfl),c_wSlot h3.1 h3.2]
 simp only [xFldV,List.toList_toArray,ruS,ruL,ruE,Nat.reduceAdd,reduceIte,Int.reduceLT,Int.reduceLE,Int.reduceEq,Int.reduceNeg,Int.reduceAdd,Int.reduceSub,Nat.reduceLeDiff,Nat.reduceLT]
 rw [c_Load hN hb.1 h4,c_wHead hwa.1 hwa.2]
 simp only [g5,ruS,ruL,ruE,Nat.reduceAdd,reduceIte,Int.reduceLT,Int.reduceLE,Int.reduceEq,Int.reduceNeg,Int.reduceAdd,Int.reduceSub,Nat.reduceLeDiff,Nat.reduceLT]
 rw [stAx { a with size:=hdS (A.w (slA a.w)) } hd rfl rfl (by decide) rfl,stAx { a with size:=hdS (A.w (slA a.w)),pc:=2 } hd rfl rfl (by decide) rfl,
  ldAx (a:={ a with size:=hdS (A.w (slA a.w)),pc:=2 }) hd (show sub _ 5 1 false=some (.bool a.own) from rfl)]
 by_cases e:hdO (A.w (slA a.w))=a.own
 ·rw [if_neg (fun q=>q e)] at hk
  simp only [e,xNeBB,beq_self_eq_true,ruS,ruL,ruE,Nat.reduceAdd,reduceIte,Int.reduceLT,Int.reduceLE,Int.reduceEq,Int.reduceNeg,Int.reduceAdd,Int.reduceSub,Nat.reduceLeDiff,Nat.reduceLT]
  rw [ldAx (a:={ a with size:=hdS (A.w (slA a.w)),pc:=2 }) hd (show sub _ 2 1 false=some (.int .i64 a.ix) from rfl)]
  by_cases c1:a.ix<0
  ·rw [if_pos (.inl c1)] at hk
   simp only [c1,w_ab_j3,w_ab_j3b,ruS,ruL,ruE,Nat.reduceAdd,reduceIte,Int.reduceLT,Int.reduceLE,Int.reduceEq,Int.reduceNeg,Int.reduceAdd,Int.reduceSub,Nat.reduceLeDiff,Nat.reduceLT]
   rw [ldAx (a:={ a with size:=hdS (A.w (slA a.w)),pc:=2 }) hd (show sub _ 11 1 false=some (.int .i64 a.seen) from rfl),c_Aend hd]
   exact behind hN hd hk
  ·simp only [c1,ruS,ruL,ruE,Nat.reduceAdd,reduceIte,Int.reduceLT,Int.reduceLE,Int.reduceEq,Int.reduceNeg,Int.reduceAdd,Int.reduceSub,Nat.reduceLeDiff,Nat.reduceLT]
   rw [ldAx (a:={ a with size:=hdS (A.w (slA a.w)),pc:=2 }) hd (show sub _ 2 1 false=some (.int .i64 a.ix) from rfl)]
   by_cases c2:hdS (A.w (slA a.w))≤a.ix
   ·rw [if_pos (.inr c2)] at hk
    simp only [c2,w_ab_j3,w_ab_j3b,ruS,ruL,ruE,Nat.reduceAdd,reduceIte,Int.reduceLT,Int.reduceLE,Int.reduceEq,Int.reduceNeg,Int.reduceAdd,Int.reduceSub,Nat.reduceLeDiff,Nat.reduceLT]
    rw [ldAx (a:={ a with size:=hdS (A.w (slA a.w)),pc:=2 }) hd (show sub _ 11 1 false=some (.int .i64 a.seen) from rfl),c_Aend hd]
    exact behind hN hd hk
   ·rw [if_neg (by rintro (q | q); exact c1 q; exact c2 q)] at hk
    simp only [c2,w_ab_j3,w_ab_j3b,w_ab_j1,w_ab_j1b,ruS,ruL,ruE,Nat.reduceAdd,reduceIte,Int.reduceLT,Int.reduceLE,Int.reduceEq,Int.reduceNeg,Int.reduceAdd,Int.reduceSub,Nat.reduceLeDiff,Nat.reduceLT]
    exact behind hN hd hk
 ·rw [if_pos e] at hk
  have e':(hdO (A.w (slA a.w)) == a.own)=false:=by simpa using e
  simp only [e',xNeBB,ruS,ruL,ruE,Nat.reduceAdd,reduceIte,Int.reduceLT,Int.reduceLE,Int.reduceEq,Int.reduceNeg,Int.reduceAdd,Int.reduceSub,Nat.reduceLeDiff,Nat.reduceLT]
  rw [c_Now,c_Aend hd]
  exact behind hN hd hk
end Go.Fl
namespace Go.Fl
open Go
set_option linter.unusedVariables false
set_option linter.unusedSimpArgs false
variable {N:Nm} {A B:Ar} {σ:Mem} {K:Value→Mem→Prop} {C:Cf} {who:Int}
theorem c_Ac2 (hN:N.ok) (hC:C.ok) (hA:isA N A σ) {p:Nat} {a:Ac} (hp:σ.get p=some ⟨a.l,true⟩) (hd:p ∉ N.l) (hw:∀ i,0≤A.w i∧A.w i<18446744073709551616) (hf:a.fit C A) (h:a.pc=2)
  (k0:(a.step C who A).2.1.pc≠4→∀ τ,isA N (a.step C who A).2.2 τ→τ.get p=some ⟨(a.step C who A).2.1.l,true⟩→Keep (p :: N.l) σ τ→K (.bool (a.step C who A).1) τ)
  (k1:(a.step C who A).2.1.pc=4→∀ q τ,σ.get q=none→q≠p→isA N (a.step C who A).2.2 τ→τ.get p=some ⟨({ (a.step C who A).2.1 with help:=some q }:Ac).l,true⟩→τ.get q=some ⟨(Hl.new a.hs a.w a.size).l,true⟩→Keep (p :: N.l) σ τ→K (.bool (a.step C who A).1) τ) :
  s_ab [.pointer (some ⟨p,0,none⟩),N.env C who] K σ:=by
 have hbd:=hf.bd
 have h2:=hf.a2 (.inl h)
 have h3:=hf.w
 have hwa:=hw a.at'
 rw [hA.obj hp]
 unfold Ac.step at k0 k1
 rw [if_neg (by omega),if_neg (by omega),if_pos h] at k0 k1
 simp only [s_ab,w_ab,ruS,ruL,ruE,Nat.reduceAdd,reduceIte,Int.reduceLT,Int.reduceLE,Int.reduceEq,Int.reduceNeg,Int.reduceAdd,Int.reduceSub,Nat.reduceLeDiff,Nat.reduceLT]
 rw [ldAx hd (show sub _ 8 1 false=some (.int .i64 a.pc) from rfl)]
 simp only [h,ruS,ruL,ruE,Nat.reduceAdd,reduceIte,Int.reduceLT,Int.reduceLE,Int.reduceEq,Int.reduceNeg,Int.reduceAdd,Int.reduceSub,Nat.reduceLeDiff,Nat.reduceLT]
 rw [c_Aat hd h3 (by omega),c_Load hN h2.1 h2.2,stAx { a with cell:=A.w a.at' } hd rfl rfl (by decide) rfl,c_Now,c_Anext (a:={ a with cell:=A.w a.at' }) hd h3 hwa]
 rw [stAx { a with cell:=A.w a.at',rd:=((A.by who).load a.at').s } hd rfl rfl (by decide) rfl]
 rw [stAx { a with cell:=A.w a.at',rd:=((A.by who).load a.at').s,pc:=({ a with cell:=A.w a.at' }:Ac).nxt } hd rfl rfl (by decide) rfl]
 rw [ldAx (a:={ a with cell:=A.w a.at',rd:=((A.by who).load a.at').s,pc:=({ a with cell:=A.w a.at' }:Ac).nxt }) hd (show sub _ 8 1 false=some (.int .i64 ({ a with cell:=A.w a.at' }:Ac).nxt) from rfl)]
 by_cases e:({ a with cell:=A.w a.at' }:Ac).nxt=4
 ·replace k1:=k1 e
  simp only [e,ruS,ruL,ruE,Nat.reduceAdd,reduceIte,Int.reduceLT,Int.reduceLE,Int.reduceEq,Int.reduceNeg,Int.reduceAdd,Int.reduceSub,Nat.reduceLeDiff,Nat.reduceLT]
  rw [e] at k1
  rw [ldAx (a:={ a with cell:=A.w a.at',rd:=((A.by who).load a.at').s,pc:=4 }) hd (show sub _ 6 1 false=some (.int .i64 a.hs) from rfl),ldAx (a:={ a with cell:=A.w a.at',rd:=((A.by who).load a.at').s,pc:=4 }) hd (show sub _ 9 1 false=some (.int .u64 a.w) from rfl),
   ldAx (a:={ a with cell:=A.w a.at',rd:=((A.by who).load a.at').s,pc:=4 }) hd (show sub _ 13 1 false=some (.int .i64 a.size) from rfl)]
  refine behind (K:=fun _ σ=>s_a5 [.int .i64 a.hs,.int .u64 a.w,.int .i64 a.size] _ σ) (v:=undef) hN hd fun υ u1 u2 u3=>?_
  refine c_NewHelp fun id ω hid gid x=>?_
  have hx1:=u1.ext x
  have hx2:=x _ _ u2
  have ip:id≠p:=by rintro rfl; rw [u2] at hid; cases hid
  have inn:=u1.new hid
  have ids:σ.get id=none:=by
   cases e:σ.get id with
   | none=>rfl
   | some b=>rw [u3 id b e (by simp only [List.mem_cons,not_or]; exact ⟨ip,inn⟩)] at hid; cases hid
  rw [hx1.obj hx2,stAx { a with cell:=A.w a.at',rd:=((A.by who).load a.at').s,pc:=4,help:=some id } hd rfl rfl (by decide) rfl]
  simp only [w_ab_j1,w_ab_j1b,ruS,ruL,ruE,Nat.reduceAdd,reduceIte,Int.reduceLT,Int.reduceLE,Int.reduceEq,Int.reduceNeg,Int.reduceAdd,Int.reduceSub,Nat.reduceLeDiff,Nat.reduceLT]
  refine behind hN hd fun ρ r1 r2 r3=>k1 id ρ ids ip r1 r2 ?_ ((u3.trans x.keep).trans r3)
  exact r3 id _ gid (by simp only [List.mem_cons,not_or]; exact ⟨ip,inn⟩)
 ·replace k0:=k0 e
  simp only [e,w_ab_j1,w_ab_j1b,ruS,ruL,ruE,Nat.reduceAdd,reduceIte,Int.reduceLT,Int.reduceLE,Int.reduceEq,Int.reduceNeg,Int.reduceAdd,Int.reduceSub,Nat.reduceLeDiff,Nat.reduceLT]
  exact behind hN hd k0
theorem c_Ac3 (hN:N.ok) (hC:C.ok) (hA:isA N A σ) {p:Nat} {a:Ac} (hp:σ.get p=some ⟨a.l,true⟩) (hd:p ∉ N.l) (hn:C.len≤A.n) (hf:a.fit C A) (h:a.pc=3)
  (hk:∀ τ,isA N (a.step C who A).2.2 τ→τ.get p=some ⟨(a.step C who A).2.1.l,true⟩→Keep (p :: N.l) σ τ→K (.bool (a.step C who A).1) τ) :
  s_ab [.pointer (some ⟨p,0,none⟩),N.env C who] K σ:=by
 have hT:=hC.T; have hS:=hC.S; have hC3:=hC.C; have hl:=len_bd hC
 have hch:C.chunk C.C=6+C.T+2*C.S+3*C.C:=rfl
 have h3:=hf.w
 have h2:=hf.hs
 have hV:=slV_bd a.w
 have hsb:0≤C.slot a.hs∧C.slot a.hs<A.n:=by unfold Cf.slot; omega
 have g4:∀ (k:Nat) (x y z w x' y' z' w':Int),gStore 4 [.pointer (some ⟨k,0,some 0⟩),.agg #[.int .i64 x,.int .i64 y,.int .i64 z,.int .i64 w]] [.int .i64 x',.int .i64 y',.int .i64 z',.int .i64 w']=some [.int .i64 x,.int .i64 y,.int .i64 z,.int .i64 w]:=fun _ _ _ _ _ _ _ _ _=>rfl
 have g0:∀ (k:Nat) (v x' y' z' w':Int),gStore 1 [.pointer (some ⟨k,0,some 0⟩),.int .i64 v] [.int .i64 x',.int .i64 y',.int .i64 z',.int .i64 w']=some [.int .i64 v,.int .i64 y',.int .i64 z',.int .i64 w']:=fun _ _ _ _ _ _=>rfl
 have g3:∀ (k:Nat) (v x' y' z' w':Int),gStore 1 [.pointer (some ⟨k,3,some 0⟩),.int .i64 v] [.int .i64 x',.int .i64 y',.int .i64 z',.int .i64 w']=some [.int .i64 x',.int .i64 y',.int .i64 z',.int .i64 v]:=fun _ _ _ _ _ _=>rfl
 rw [hA.obj hp]
 unfold Ac.step at hk
 rw [if_neg (by omega),if_neg (by omega),if_neg (by omega),if_pos h] at hk
 simp only [s_ab,w_ab,ruS,ruL,ruE,Nat.reduceAdd,reduceIte,Int.reduceLT,Int.reduceLE,Int.reduceEq,Int.reduceNeg,Int.reduceAdd,Int.reduceSub,Nat.reduceLeDiff,Nat.reduceLT]
 rw [ldAx hd (show sub _ 8 1 false=some (.int .i64 a.pc) from rfl)]
 simp only [h,ruS,ruL,ruE,Nat.reduceAdd,reduceIte,Int.reduceLT,Int.reduceLE,Int.reduceEq,Int.reduceNeg,Int.reduceAdd,Int.reduceSub,Nat.reduceLeDiff,Nat.reduceLT]
 rw [ldAx hd (show sub _ 9 1 false=some (.int .u64 a.w) from rfl),c_wSlot h3.1 h3.2]
 simp only [g4,g0,g3,ruS,ruL,ruE,Nat.reduceAdd,reduceIte,Int.reduceLT,Int.reduceLE,Int.reduceEq,Int.reduceNeg,Int.reduceAdd,Int.reduceSub,Nat.reduceLeDiff,Nat.reduceLT]
 rw [IntWalk.i64_in (slV a.w+1) (by omega)]
 rw [ldAx hd (show sub _ 6 1 false=some (.int .i64 a.hs) from rfl),c_Slot hC h2.1 (by omega),ldAx hd (show sub _ 9 1 false=some (.int .u64 a.w) from rfl)]
 simp only [sub4,ruS,ruL,ruE,Nat.reduceAdd,reduceIte,Int.reduceLT,Int.reduceLE,Int.reduceEq,Int.reduceNeg,Int.reduceAdd,Int.reduceSub,Nat.reduceLeDiff,Nat.reduceLT]
 rw [c_PutSlot,c_Cas hN hsb.1 hsb.2,stAx { a with pc:=0 } hd rfl rfl (by decide) rfl]
 simp only [w_ab_j1,w_ab_j1b,ruS,ruL,ruE,Nat.reduceAdd,reduceIte,Int.reduceLT,Int.reduceLE,Int.reduceEq,Int.reduceNeg,Int.reduceAdd,Int.reduceSub,Nat.reduceLeDiff,Nat.reduceLT]
 exact behind hN hd hk
theorem c_Ac4 (hN:N.ok) (hC:C.ok) (hA:isA N A σ) {p q:Nat} {a:Ac} {t:Hl} (hp:σ.get p=some ⟨a.l,true⟩) (hd:p ∉ N.l) (hq:σ.get q=some ⟨[] ++ t.l ++ [],true⟩) (hqd:q ∉ N.l) (hqp:q≠p) (hw:∀ i,0≤A.w i∧A.w i<18446744073709551616) (hn:C.len≤A.n)
  (h:a.pc=4) (ha:a.help=some q) (hf:t.fit C)
  (k0:(t.step C who A).1=false→∀ τ,isA N (t.step C who A).2.2 τ→τ.get p=some ⟨a.l,true⟩→τ.get q=some ⟨[] ++ (t.step C who A).2.1.l ++ [],true⟩→Keep (q :: p :: N.l) σ τ→K (.bool false) τ)
  (k2:(t.step C who A).1=true→∀ τ,isA N (t.step C who A).2.2 τ→τ.get p=some ⟨({ a with pc:=0 }:Ac).l,true⟩→Keep (q :: p :: N.l) σ τ→K (.bool false) τ) :
  s_ab [.pointer (some ⟨p,0,none⟩),N.env C who] K σ:=by
 have hpL:∀ i ∈ p :: N.l,i ∈ q :: p :: N.l:=fun i hi=>List.mem_cons_of_mem _ hi
 have hqL:∀ i ∈ q :: N.l,i ∈ q :: p :: N.l:=fun i hi=>by rcases List.mem_cons.1 hi with rfl | hi <;> simp [*]
 rw [hA.obj hp]
 simp only [s_ab,w_ab,ruS,ruL,ruE,Nat.reduceAdd,reduceIte,Int.reduceLT,Int.reduceLE,Int.reduceEq,Int.reduceNeg,Int.reduceAdd,Int.reduceSub,Nat.reduceLeDiff,Nat.reduceLT]
 rw [ldAx hd (show sub _ 8 1 false=some (.int .i64 a.pc) from rfl)]
 simp only [h,ruS,ruL,ruE,Nat.reduceAdd,reduceIte,Int.reduceLT,Int.reduceLE,Int.reduceEq,Int.reduceNeg,Int.reduceAdd,Int.reduceSub,Nat.reduceLeDiff,Nat.reduceLT]
 rw [ldAx hd (show sub _ 14 1 false=some (obP a.help) from rfl),ha,obP_s,← hA.obj hp]
 refine c_Help_Step hN hC hA (t:=t) (pre:=[]) (post:=[]) hq hqd hw hn hf fun τ hA' hq' hK=>?_
 have hp':τ.get p=some ⟨a.l,true⟩:=hK.get hp (by simp only [List.mem_cons,not_or]; exact ⟨fun e=>hqp e.symm,hd⟩)
 have hK2:=hK.mono hqL
 generalize t.step C who A=r at *
 obtain ⟨d,t',A'⟩:=r
 dsimp only at *
 cases d with
 | false=>simp only [w_ab_j1,w_ab_j1b,ruS,ruL,ruE,Nat.reduceAdd,reduceIte,Int.reduceLT,Int.reduceLE,Int.reduceEq,Int.reduceNeg,Int.reduceAdd,Int.reduceSub,Nat.reduceLeDiff,Nat.reduceLT]; exact k0 rfl τ hA' hp' hq' hK2
 | true=>
  simp only [ruS,ruL,ruE,Nat.reduceAdd,reduceIte,Int.reduceLT,Int.reduceLE,Int.reduceEq,Int.reduceNeg,Int.reduceAdd,Int.reduceSub,Nat.reduceLeDiff,Nat.reduceLT]
  rw [hA'.obj hp',stAx { a with pc:=0 } hd rfl rfl (by decide) rfl]
  simp only [w_ab_j1,w_ab_j1b,ruS,ruL,ruE,Nat.reduceAdd,reduceIte,Int.reduceLT,Int.reduceLE,Int.reduceEq,Int.reduceNeg,Int.reduceAdd,Int.reduceSub,Nat.reduceLeDiff,Nat.reduceLT]
  exact behind hN hd fun υ u1 u2 u3=>k2 rfl υ u1 u2 (hK2.trans (u3.mono hpL))
theorem c_Ac5 (hN:N.ok) (hC:C.ok) (hA:isA N A σ) {p:Nat} {a:Ac} (hp:σ.get p=some ⟨a.l,true⟩) (hd:p ∉ N.l) (hf:a.fit C A) (h:a.pc=5)
  (hk:∀ τ,isA N (a.step C who A).2.2 τ→τ.get p=some ⟨(a.step C who A).2.1.l,true⟩→Keep (p :: N.l) σ τ→K (.bool (a.step C who A).1) τ) :
  s_ab [.pointer (some ⟨p,0,none⟩),N.env C who] K σ:=by
 have hbd:=hf.bd
 have h2:=hf.a2 (.inr h)
 have h3:=hf.w
 have h4:=hf.cell
 have b3:∀ (x:Int) (K:Value→Prop),xF (fBuild [(0,1),(1,1),(2,1)] [.int .i64 0,.bool false,.int .i64 0] [0]) [.int .i64 x] K=K (.agg #[.int .i64 x,.bool false,.int .i64 0]):=fun _ K=>nr rfl
 rw [hA.obj hp]
 unfold Ac.step at hk
 rw [if_neg (by omega),if_neg (by omega),if_neg (by omega),if_neg (by omega),if_pos h] at hk
 simp only [s_ab,w_ab,ruS,ruL,ruE,Nat.reduceAdd,reduceIte,Int.reduceLT,Int.reduceLE,Int.reduceEq,Int.reduceNeg,Int.reduceAdd,Int.reduceSub,Nat.reduceLeDiff,Nat.reduceLT]
 rw [ldAx hd (show sub _ 8 1 false=some (.int .i64 a.pc) from rfl)]
 simp only [h,ruS,ruL,ruE,Nat.reduceAdd,reduceIte,Int.reduceLT,Int.reduceLE,Int.reduceEq,Int.reduceNeg,Int.reduceAdd,Int.reduceSub,Nat.reduceLeDiff,Nat.reduceLT]
 rw [stAx { a with pc:=0 } hd rfl rfl (by decide) rfl,c_Aat (a:={ a with pc:=0 }) hd h3 (by show 0≤a.at'∧a.at'<_; omega)]
 rw [ldAx (a:={ a with pc:=0 }) hd (show sub _ 10 1 false=some (.int .u64 a.cell) from rfl),ldAx (a:={ a with pc:=0 }) hd (show sub _ 3 1 false=some (.int .i64 a.v) from rfl),b3,c_PutCell]
 rw [show ({ a with pc:=0 }:Ac).at'=a.at' from rfl,c_Cas hN h2.1 h2.2]
 by_cases e:A.w a.at'=a.cell
 ·rw [if_pos e] at hk
  simp only [e,ruS,ruL,ruE,Nat.reduceAdd,reduceIte,Int.reduceLT,Int.reduceLE,Int.reduceEq,Int.reduceNeg,Int.reduceAdd,Int.reduceSub,Nat.reduceLeDiff,Nat.reduceLT]
  rw [ldAx (a:={ a with pc:=0 }) hd (show sub _ 10 1 false=some (.int .u64 a.cell) from rfl),c_wCell h4.1 h4.2]
  simp only [xFldV,List.toList_toArray,ruS,ruL,ruE,Nat.reduceAdd,reduceIte,Int.reduceLT,Int.reduceLE,Int.reduceEq,Int.reduceNeg,Int.reduceAdd,Int.reduceSub,Nat.reduceLeDiff,Nat.reduceLT]
  rw [c_Now,c_Aend hd]
  exact behind hN hd hk
 ·rw [if_neg e] at hk
  simp only [e,w_ab_j1,w_ab_j1b,ruS,ruL,ruE,Nat.reduceAdd,reduceIte,Int.reduceLT,Int.reduceLE,Int.reduceEq,Int.reduceNeg,Int.reduceAdd,Int.reduceSub,Nat.reduceLeDiff,Nat.reduceLT]
  exact behind hN hd hk
theorem c_Ac6 (hN:N.ok) (hC:C.ok) (hA:isA N A σ) {p:Nat} {a:Ac} (hp:σ.get p=some ⟨a.l,true⟩) (hd:p ∉ N.l) (hw:∀ i,0≤A.w i∧A.w i<18446744073709551616) (hn:C.len≤A.n) (hf:a.fit C A) (h:a.pc=6)
  (hk:∀ τ,isA N (a.step C who A).2.2 τ→τ.get p=some ⟨(a.step C who A).2.1.l,true⟩→Keep (p :: N.l) σ τ→K (.bool (a.step C who A).1) τ) :
  s_ab [.pointer (some ⟨p,0,none⟩),N.env C who] K σ:=by
 have hT:=hC.T; have hS:=hC.S; have hC3:=hC.C; have hl:=len_bd hC
 have hch:C.chunk C.C=6+C.T+2*C.S+3*C.C:=rfl
 have h2:=hf.hs
 have h3:=hf.w
 have h4:=hf.cell
 have hsb:0≤C.slot a.hs∧C.slot a.hs<A.n:=by unfold Cf.slot; omega
 have hwa:=hw (C.slot a.hs)
 have g4:∀ (k:Nat) (x y z w x' y' z' w':Int),gStore 4 [.pointer (some ⟨k,0,some 0⟩),.agg #[.int .i64 x,.int .i64 y,.int .i64 z,.int .i64 w]] [.int .i64 x',.int .i64 y',.int .i64 z',.int .i64 w']=some [.int .i64 x,.int .i64 y,.int .i64 z,.int .i64 w]:=fun _ _ _ _ _ _ _ _ _=>rfl
 rw [hA.obj hp]
 unfold Ac.step at hk
 rw [if_neg (by omega),if_neg (by omega),if_neg (by omega),if_neg (by omega),if_neg (by omega)] at hk
 simp only [s_ab,w_ab,ruS,ruL,ruE,Nat.reduceAdd,reduceIte,Int.reduceLT,Int.reduceLE,Int.reduceEq,Int.reduceNeg,Int.reduceAdd,Int.reduceSub,Nat.reduceLeDiff,Nat.reduceLT]
 rw [ldAx hd (show sub _ 8 1 false=some (.int .i64 a.pc) from rfl)]
 simp only [h,s_ad,w_ad,ruS,ruL,ruE,Nat.reduceAdd,reduceIte,Int.reduceLT,Int.reduceLE,Int.reduceEq,Int.reduceNeg,Int.reduceAdd,Int.reduceSub,Nat.reduceLeDiff,Nat.reduceLT]
 rw [ldAx hd (show sub _ 6 1 false=some (.int .i64 a.hs) from rfl),c_Slot hC h2.1 (by omega),c_Load hN hsb.1 hsb.2,c_wSlot hwa.1 hwa.2]
 simp only [g4,ruS,ruL,ruE,Nat.reduceAdd,reduceIte,Int.reduceLT,Int.reduceLE,Int.reduceEq,Int.reduceNeg,Int.reduceAdd,Int.reduceSub,Nat.reduceLeDiff,Nat.reduceLT]
 rw [ldAx hd (show sub _ 10 1 false=some (.int .u64 a.cell) from rfl),c_wCell h4.1 h4.2]
 simp only [xFldV,List.toList_toArray,sub4,ruS,ruL,ruE,Nat.reduceAdd,reduceIte,Int.reduceLT,Int.reduceLE,Int.reduceEq,Int.reduceNeg,Int.reduceAdd,Int.reduceSub,Nat.reduceLeDiff,Nat.reduceLT]
 rw [ldAx hd (show sub _ 6 2 true=some (.agg #[.int .i64 a.hs,.int .i64 a.hg]) from rfl),c_Live]
 by_cases hl':lives (A.w (C.slot a.hs)) a.hg
 ·have e:decide ((slS (A.w (C.slot a.hs))=1∨slS (A.w (C.slot a.hs))=2∨slS (A.w (C.slot a.hs))=4)∧slG (A.w (C.slot a.hs))=a.hg)=true:=decide_eq_true hl'
  rw [if_pos hl'] at hk
  simp only [e,ruS,ruL,ruE,Nat.reduceAdd,reduceIte,Int.reduceLT,Int.reduceLE,Int.reduceEq,Int.reduceNeg,Int.reduceAdd,Int.reduceSub,Nat.reduceLeDiff,Nat.reduceLT]
  rw [ldAx hd (show sub _ 9 1 false=some (.int .u64 a.w) from rfl),c_wSlot h3.1 h3.2]
  simp only [xFldV,List.toList_toArray,ruS,ruL,ruE,Nat.reduceAdd,reduceIte,Int.reduceLT,Int.reduceLE,Int.reduceEq,Int.reduceNeg,Int.reduceAdd,Int.reduceSub,Nat.reduceLeDiff,Nat.reduceLT]
  by_cases c1:slA (A.w (C.slot a.hs))=slA a.w
  ·rw [if_pos c1] at hk
   simp only [c1,ne_eq,not_true_eq_false,ruS,ruL,ruE,Nat.reduceAdd,reduceIte,Int.reduceLT,Int.reduceLE,Int.reduceEq,Int.reduceNeg,Int.reduceAdd,Int.reduceSub,Nat.reduceLeDiff,Nat.reduceLT]
   rw [ldAx hd (show sub _ 0 1 false=some (.int .i64 a.kd) from rfl)]
   by_cases c2:a.kd=3
   ·rw [if_pos c2] at hk
    simp only [c2,ruS,ruL,ruE,Nat.reduceAdd,reduceIte,Int.reduceLT,Int.reduceLE,Int.reduceEq,Int.reduceNeg,Int.reduceAdd,Int.reduceSub,Nat.reduceLeDiff,Nat.reduceLT]
    rw [ldAx hd (show sub _ 12 1 false=some (.int .i64 a.rd) from rfl),c_Aend hd]
    exact behind hN hd hk
   ·rw [if_neg c2] at hk
    simp only [c2,ruS,ruL,ruE,Nat.reduceAdd,reduceIte,Int.reduceLT,Int.reduceLE,Int.reduceEq,Int.reduceNeg,Int.reduceAdd,Int.reduceSub,Nat.reduceLeDiff,Nat.reduceLT]
    rw [ldAx hd (show sub _ 12 1 false=some (.int .i64 a.rd) from rfl),c_Aend hd]
    exact behind hN hd hk
  ·rw [if_neg c1] at hk
   simp only [c1,ne_eq,not_false_eq_true,ruS,ruL,ruE,Nat.reduceAdd,reduceIte,Int.reduceLT,Int.reduceLE,Int.reduceEq,Int.reduceNeg,Int.reduceAdd,Int.reduceSub,Nat.reduceLeDiff,Nat.reduceLT]
   rw [stAx { a with pc:=0 } hd rfl rfl (by decide) rfl]
   exact behind hN hd hk
 ·have e:decide ((slS (A.w (C.slot a.hs))=1∨slS (A.w (C.slot a.hs))=2∨slS (A.w (C.slot a.hs))=4)∧slG (A.w (C.slot a.hs))=a.hg)=false:=decide_eq_false hl'
  rw [if_neg hl'] at hk
  simp only [e,ruS,ruL,ruE,Nat.reduceAdd,reduceIte,Int.reduceLT,Int.reduceLE,Int.reduceEq,Int.reduceNeg,Int.reduceAdd,Int.reduceSub,Nat.reduceLeDiff,Nat.reduceLT]
  rw [c_Now,c_Aend hd]
  exact behind hN hd hk
end Go.Fl
namespace Go.Fl
open Go
set_option linter.unusedVariables false
set_option linter.unusedSimpArgs false
variable {N:Nm} {A B:Ar} {σ:Mem} {K:Value→Mem→Prop} {C:Cf} {who:Int}
structure Ak where
 a:Ac
 h:Hl
def Ak.new (kd n ix v old:Int) (own:Bool):Ak:=⟨Ac.new kd n ix v old own,Hl.new 0 0 0⟩
def Ak.step (C:Cf) (who:Int) (A:Ar) (m:Ak):Bool × Ak × Ar:=
 if m.a.pc=4 then
  if (m.h.step C who A).1=true then (false,{ m with a:={ m.a with pc:=0 } },(m.h.step C who A).2.2) else (false,{ m with h:=(m.h.step C who A).2.1 },(m.h.step C who A).2.2)
 else ((m.a.step C who A).1,⟨(m.a.step C who A).2.1,if m.a.pc=2 then Hl.new m.a.hs m.a.w m.a.size else m.h⟩,(m.a.step C who A).2.2)
structure Ak.fit (C:Cf) (A:Ar) (m:Ak):Prop where
 a:m.a.fit C A
 h:m.a.pc=4→m.h.fit C
def Ac.wh (a:Ac) (x:Option Nat):Ac:={ a with help:=x }
theorem Ac.step_help {a:Ac} {x:Option Nat}:(a.wh x).step C who A=((a.step C who A).1,(a.step C who A).2.1.wh x,(a.step C who A).2.2):=by
 obtain ⟨kd,n,ix,v,old,own,hs,hg,pc,w,cell,seen,rd,size,help,oE,oH,oV,oS⟩:=a
 unfold Ac.step Ac.wh Ac.at' Ac.fin Ac.nxt
 dsimp only
 repeat' split
 all_goals rfl
theorem Ac.step_pc {a:Ac} (h2:a.pc≠2) (h4:a.pc≠4):(a.step C who A).2.1.pc≠4:=by
 unfold Ac.step Ac.fin
 repeat' split
 all_goals (dsimp only; omega)
structure AOb (N:Nm) (p:Nat) (O:List Nat) (m:Ak) (τ:Mem):Prop where
 obj:∃ x,τ.get p=some ⟨(m.a.wh x).l,true⟩∧(m.a.pc=4→∃ q,x=some q∧q ∈ O∧q≠p∧τ.get q=some ⟨[] ++ m.h.l ++ [],true⟩)
 own:∀ i ∈ O,i ∉ N.l
 p:p ∈ O
theorem AOb.keep {p:Nat} {O L:List Nat} {m:Ak} {τ:Mem} (h:AOb N p O m σ) (x:Keep L σ τ) (hL:∀ i ∈ O,i ∉ L):AOb N p O m τ:=by
 obtain ⟨⟨a,h1,h2⟩,h4,h5⟩:=h
 refine ⟨⟨a,x.get h1 (hL p h5),fun e=>?_⟩,h4,h5⟩
 obtain ⟨q,q1,q2,q3,q4⟩:=h2 e; exact ⟨q,q1,q2,q3,x.get q4 (hL q q2)⟩
theorem c_Acc_Step (hN:N.ok) (hC:C.ok) (hA:isA N A σ) {p:Nat} {O:List Nat} {m:Ak} (hO:AOb N p O m σ) (hw:∀ i,0≤A.w i∧A.w i<18446744073709551616) (hn:C.len≤A.n) (hf:m.fit C A)
  (hk:∀ O' τ,(∀ i ∈ O',i ∈ O∨σ.get i=none)→isA N (m.step C who A).2.2 τ→AOb N p O' (m.step C who A).2.1 τ→Keep (O ++ N.l) σ τ→K (.bool (m.step C who A).1) τ):s_ab [.pointer (some ⟨p,0,none⟩),N.env C who] K σ:=by
 obtain ⟨⟨x,hp,h3⟩,own,pO⟩:=hO
 have hd:=own p pO
 have k1:∀ {τ:Mem},Keep (p :: N.l) σ τ→Keep (O ++ N.l) σ τ:=fun k=>k.mono fun i hi=>by
  rcases List.mem_cons.1 hi with rfl | hi
  ·exact List.mem_append_left _ pO
  ·exact List.mem_append_right _ hi
 have same:∀ i ∈ O,i ∈ O∨σ.get i=none:=fun i hi=>.inl hi
 have cons:∀ {q:Nat},σ.get q=none→∀ i ∈ q :: O,i ∈ O∨σ.get i=none:=fun h i hi=>by rcases List.mem_cons.1 hi with rfl | hi; exact .inr h; exact .inl hi
 have ownc:∀ {q:Nat},q ∉ N.l→∀ i ∈ q :: O,i ∉ N.l:=fun h i hi=>by rcases List.mem_cons.1 hi with rfl | hi; exact h; exact own i hi
 have hpc:=hf.a.pc
 have hfx:(m.a.wh x).fit C A:=⟨hf.a.pc,hf.a.n,hf.a.hs,hf.a.w,hf.a.cell,hf.a.a1,hf.a.a2,hf.a.bd⟩
 have hpx:(m.a.wh x).pc=m.a.pc:=rfl
 by_cases c4:m.a.pc=4
 ·unfold Ak.step at hk
  rw [if_pos c4] at hk
  obtain ⟨q,rfl,qO,qp,gq⟩:=h3 c4
  have k2:∀ {τ:Mem},Keep (q :: p :: N.l) σ τ→Keep (O ++ N.l) σ τ:=fun k=>k.mono fun i hi=>by
   rcases List.mem_cons.1 hi with rfl | hi
   ·exact List.mem_append_left _ qO
   ·rcases List.mem_cons.1 hi with rfl | hi
    ·exact List.mem_append_left _ pO
    ·exact List.mem_append_right _ hi
  refine c_Ac4 hN hC hA (a:=m.a.wh (some q)) (t:=m.h) hp hd gq (own q qO) qp hw hn c4 rfl (hf.h c4) (fun d τ u1 u2 u3 u4=>?_) (fun d τ u1 u2 u3=>?_)
  ·rw [if_neg (by rw [d]; decide)] at hk
   exact hk O τ same u1 ⟨⟨some q,u2,fun _=>⟨q,rfl,qO,qp,u3⟩⟩,own,pO⟩ (k2 u4)
  ·rw [if_pos d] at hk
   exact hk O τ same u1 ⟨⟨some q,u2,fun e=>by dsimp only at e; omega⟩,own,pO⟩ (k2 u3)
 unfold Ak.step at hk
 rw [if_neg c4] at hk
 by_cases c2:m.a.pc=2
 ·rw [if_pos c2] at hk
  have e:=Ac.step_help (C:=C) (who:=who) (A:=A) (a:=m.a) (x:=x)
  refine c_Ac2 hN hC hA (a:=m.a.wh x) (who:=who) hp hd hw hfx c2 ?_ ?_
  ·rw [e]
   intro c τ u1 u2 u3
   exact hk O τ same u1 ⟨⟨x,u2,fun q=>absurd q c⟩,own,pO⟩ (k1 u3)
  ·rw [e]
   intro c q τ q1 q2 u1 u2 u3 u4
   exact hk (q :: O) τ (cons q1) u1 ⟨⟨some q,u2,fun _=>⟨q,rfl,List.mem_cons_self ..,q2,by rw [List.nil_append,List.append_nil]; exact u3⟩⟩,ownc (hA.new q1),List.mem_cons_of_mem _ pO⟩ (k1 u4)
 rw [if_neg c2] at hk
 have np:=Ac.step_pc (C:=C) (who:=who) (A:=A) c2 c4
 have hk':∀ τ,isA N ((m.a.wh x).step C who A).2.2 τ→τ.get p=some ⟨((m.a.wh x).step C who A).2.1.l,true⟩→Keep (p :: N.l) σ τ→K (.bool ((m.a.wh x).step C who A).1) τ:=by
  rw [Ac.step_help]
  intro τ u1 u2 u3
  exact hk O τ same u1 ⟨⟨x,u2,fun q=>absurd q np⟩,own,pO⟩ (k1 u3)
 rcases (show m.a.pc=0∨m.a.pc=1∨m.a.pc=3∨m.a.pc=5∨m.a.pc=6 by omega) with c | c | c | c | c
 ·exact c_Ac0 hN hC hA hp hd hw hn hfx c hk'
 ·exact c_Ac1 hN hC hA hp hd hw hfx c hk'
 ·exact c_Ac3 hN hC hA hp hd hn hfx c hk'
 ·exact c_Ac5 hN hC hA hp hd hfx c hk'
 ·exact c_Ac6 hN hC hA hp hd hw hn hfx c hk'
theorem AOb.done {p:Nat} {O:List Nat} {m:Ak} (hA:isA N A σ) (h:AOb N p O m σ) (hk:K (.agg #[.int .i64 m.a.oE,.int .u64 m.a.oH,.int .i64 m.a.oV,.int .i64 m.a.oS]) σ):s_aa [.pointer (some ⟨p,0,none⟩)] K σ:=by
 obtain ⟨⟨x,hp,_⟩,own,pO⟩:=h
 exact c_AccDone hA (a:=m.a.wh x) hp hk
theorem aob_new {kd n ix v old:Int} {o:Bool} (hA:isA N A σ) (hk:∀ p τ,σ.get p=none→AOb N p [p] (Ak.new kd n ix v old o) τ→Ext σ τ→K (.pointer (some ⟨p,0,none⟩)) τ):s_ag [.agg #[.int .i64 kd,.int .u64 n,.int .i64 ix,.int .i64 v,.int .i64 old],.bool o] K σ:=by
 refine c_AccNew fun p τ hp gp x=>hk p τ hp ⟨⟨none,gp,(fun e=>by cases e)⟩,fun i hi=>?_,List.mem_singleton.2 rfl⟩ x
 rw [List.mem_singleton.1 hi]; exact hA.new hp
theorem c_Acc (hN:N.ok) (hC:C.ok) (hA:isA N A σ) {kd n ix v old:Int} {o:Bool} (I:Int→Ak→Ar→Prop) (D:Ak→Ar→Prop) (h0:I 0 (Ak.new kd n ix v old o) A)
  (hs:∀ k m A,0≤k→k<200→I k m A→m.fit C A∧(∀ i,0≤A.w i∧A.w i<18446744073709551616)∧C.len≤A.n∧if (m.step C who A).1=true then D (m.step C who A).2.1 (m.step C who A).2.2 else I (k+1) (m.step C who A).2.1 (m.step C who A).2.2)
  (he:∀ m A,I 200 m A→D m A) (hk:∀ m A' τ,D m A'→isA N A' τ→Keep N.l σ τ→K (.agg #[.int .i64 m.a.oE,.int .u64 m.a.oH,.int .i64 m.a.oV,.int .i64 m.a.oS]) τ) :
  s_bd [N.env C who,.agg #[.int .i64 kd,.int .u64 n,.int .i64 ix,.int .i64 v,.int .i64 old],.bool o] K σ:=by
 have gs:∀ x y z w:Int,gStore 4 [.pointer (some ⟨6,0,some 0⟩),.agg #[.int .i64 x,.int .u64 y,.int .i64 z,.int .i64 w]] [.int .i64 0,.int .u64 0,.int .i64 0,.int .i64 0]=some [.int .i64 x,.int .u64 y,.int .i64 z,.int .i64 w]:=fun _ _ _ _=>rfl
 have g:gBox 5 [.agg #[.int .i64 kd,.int .u64 n,.int .i64 ix,.int .i64 v,.int .i64 old]] []=some [.int .i64 kd,.int .u64 n,.int .i64 ix,.int .i64 v,.int .i64 old]:=rfl
 have s5:∀ x y z u w:Value,sub [x,y,z,u,w] 0 5 true=some (.agg #[x,y,z,u,w]):=fun _ _ _ _ _=>rfl
 simp only [s_bd,w_bd,g,s5,ruS,ruL,ruE,Nat.reduceAdd,reduceIte,Int.reduceLT,Int.reduceLE,Int.reduceEq,Int.reduceNeg,Int.reduceAdd,Int.reduceSub,Nat.reduceLeDiff,Nat.reduceLT]
 refine aob_new hA fun p τ0 hp ho x0=>?_
 have fin:∀ m A' τ,D m A'→isA N A' τ→(∃ O,AOb N p O m τ)→Keep N.l σ τ→w_bd_j1 K [.pointer (some ⟨p,0,none⟩)] [[.int .i64 0,.int .u64 0,.int .i64 0,.int .i64 0]] τ:=by
  rintro m A' τ hD hA' ⟨O,hO⟩ hK
  simp only [w_bd_j1,w_bd_j1b,ruS,ruL,ruE,Nat.reduceAdd,reduceIte,Int.reduceLT,Int.reduceLE,Int.reduceEq,Int.reduceNeg,Int.reduceAdd,Int.reduceSub,Nat.reduceLeDiff,Nat.reduceLT]
  refine AOb.done hA' hO ?_
  simp only [gs,sub4,ruS,ruL,ruE,Nat.reduceAdd,reduceIte,Int.reduceLT,Int.reduceLE,Int.reduceEq,Int.reduceNeg,Int.reduceAdd,Int.reduceSub,Nat.reduceLeDiff,Nat.reduceLT]
  exact hk m A' τ hD hA' hK
 refine xLoop_i (fun i=>[.pointer (some ⟨p,0,none⟩),.int .i64 i]) [N.el C who,[.int .i64 0,.int .u64 0,.int .i64 0,.int .i64 0]] 200
  (fun i τ=>∃ m A' O,0≤i∧i≤200∧isA N A' τ∧I i m A'∧AOb N p O m τ∧(∀ j ∈ O,σ.get j=none)∧Keep N.l σ τ) ?_ ⟨_,A,[p],by omega,by omega,hA.ext x0,h0,ho,fun j hj=>by rw [List.mem_singleton.1 hj]; exact hp,x0.keep⟩
 rintro i τ ⟨m,A',O,i0,i1,hA',hI,hO,hOn,hK⟩ R hR
 simp only [w_law10_Do_l4,w_law10_Do_l4b,ruS,ruL,ruE,Nat.reduceAdd,reduceIte,Int.reduceLT,Int.reduceLE,Int.reduceEq,Int.reduceNeg,Int.reduceAdd,Int.reduceSub,Nat.reduceLeDiff,Nat.reduceLT]
 by_cases ci:i<200
 ·simp only [ci,ruS,ruL,ruE,Nat.reduceAdd,reduceIte,Int.reduceLT,Int.reduceLE,Int.reduceEq,Int.reduceNeg,Int.reduceAdd,Int.reduceSub,Nat.reduceLeDiff,Nat.reduceLT]
  obtain ⟨hf,hw,hn,hst⟩:=hs i m A' i0 ci hI
  refine c_Acc_Step hN hC hA' hO hw hn hf fun O' τ' hO' hA2 hO2 hK2=>?_
  have hK3:Keep N.l σ τ':=by
   intro j b hj hn'
   refine hK2 j b (hK j b hj hn') fun hm=>?_
   rcases List.mem_append.1 hm with h | h
   ·rw [hOn j h] at hj; cases hj
   ·exact hn' h
  have hOn':∀ j ∈ O',σ.get j=none:=by
   intro j hj
   rcases hO' j hj with h | h
   ·exact hOn j h
   ·cases e:σ.get j with
    | none=>rfl
    | some b=>rw [hK j b e (hA'.new h)] at h; cases h
  generalize m.step C who A'=r at *
  obtain ⟨d,m',A2⟩:=r
  dsimp only at *
  cases d with
  | true=>
   simp only [ruS,ruL,ruE,Nat.reduceAdd,reduceIte,Int.reduceLT,Int.reduceLE,Int.reduceEq,Int.reduceNeg,Int.reduceAdd,Int.reduceSub,Nat.reduceLeDiff,Nat.reduceLT] at hst ⊢
   exact fin m' A2 τ' hst hA2 ⟨O',hO2⟩ hK3
  | false=>
   simp only [ruS,ruL,ruE,Nat.reduceAdd,reduceIte,Int.reduceLT,Int.reduceLE,Int.reduceEq,Int.reduceNeg,Int.reduceAdd,Int.reduceSub,Nat.reduceLeDiff,Nat.reduceLT] at hst ⊢
   rw [IntWalk.i64_in (i+1) (by omega)]
   exact hR _ ci ⟨m',A2,O',by omega,by omega,hA2,hst,hO2,hOn',hK3⟩
 ·simp only [ci,ruS,ruL,ruE,Nat.reduceAdd,reduceIte,Int.reduceLT,Int.reduceLE,Int.reduceEq,Int.reduceNeg,Int.reduceAdd,Int.reduceSub,Nat.reduceLeDiff,Nat.reduceLT]
  have:i=200:=by omega
  subst this
  exact fin m A' τ (he _ _ hI) hA' ⟨O,hO⟩ hK
end Go.Fl
namespace Go.Fl
open Go
set_option linter.unusedVariables false
set_option linter.unusedSimpArgs false
variable {N:Nm} {A B:Ar} {σ:Mem} {K:Value→Mem→Prop} {C:Cf} {who:Int}
theorem Ak.new_fit (hC:C.ok) {kd n ix v old:Int} {o:Bool} (hn:0≤n∧n<18446744073709551616) (hb:(A.n:Int)≤200000000):(Ak.new kd n ix v old o).fit C A:=by
 have hS:=hC.S
 exact ⟨⟨⟨Int.le_refl 0,(by decide:(0:Int)≤6)⟩,hn,⟨Int.le_refl 0,by show (0:Int)<C.S; omega⟩,⟨Int.le_refl 0,(by decide:(0:Int)<18446744073709551616)⟩,⟨Int.le_refl 0,(by decide:(0:Int)<18446744073709551616)⟩,fun e=>(by cases e),fun e=>(by rcases e with e | e <;> cases e),hb⟩,fun e=>(by cases e)⟩
def NaI (C:Cf) (A0:Ar) (m0:Ak) (k:Int) (m:Ak) (A:Ar):Prop:=
 k=0∧m=m0∧A=A0∨k=1∧A.w=A0.w∧A.s=A0.s+1∧A.n=A0.n∧(∀ bb,A0.ok bb→A.ok (bb+1))∧m.a.pc=1∧m.a.n=m0.a.n∧m.a.own=m0.a.own∧m.a.w=A0.w (C.slot (hdSl m0.a.n))∧(m.a.hs=hdSl m0.a.n∧hdSl m0.a.n<C.S)∧slA m.a.w<C.len∧hdO (A0.w (slA m.a.w))≠m0.a.own∧m.a.cell=0
structure NaD (A0:Ar) (m:Ak) (A:Ar):Prop where
 e:m.a.oE=3∧m.a.oH=0∧m.a.oV=0
 s:A0.s≤m.a.oS∧m.a.oS=A.s∧A.s≤A0.s+2
 w:A.w=A0.w
 n:A.n=A0.n
 ok:∀ bb,A0.ok bb→A.ok (bb+2)
theorem NaI.step (hC:C.ok) {A0:Ar} {k bb kd n ix v old:Int} {own:Bool} {m:Ak} (h:NaI C A0 (Ak.new kd n ix v old own) k m A) (hn:NoDrop C A0.w n own) (h0:0≤n∧n<18446744073709551616) (ok:A0.ok bb) (hb:bb<4611686018427387904) (hl:C.len≤A0.n) (hb2:(A0.n:Int)≤200000000) :
  m.fit C A∧(A.ok (bb+1)∧C.len≤A.n∧((m.step C who A).2.2=A∨∃ a,(m.step C who A).2.2=(A.by who).load a∧0≤a∧a<C.len))∧(((m.step C who A).1=false∧NaI C A0 (Ak.new kd n ix v old own) (k+1) (m.step C who A).2.1 (m.step C who A).2.2)∨((m.step C who A).1=true∧NaD A0 (m.step C who A).2.1 (m.step C who A).2.2)):=by
 rcases h with ⟨rfl,rfl,rfl⟩ | ⟨rfl,ew,es,en,eo,h1,h2,h3,h4,h5,h6,h7,h8⟩
 ·have hT:=hC.T
  have hS:=hC.S
  have hCC:=hC.C
  have hll:=len_bd hC
  have hsb:hdSl n<C.S→0≤C.slot (hdSl n)∧C.slot (hdSl n)<C.len:=fun q=>by have:=hdSl_bd h0.1; unfold Cf.slot; unfold Cf.chunk at hll; omega
  refine ⟨Ak.new_fit hC h0 hb2,?_⟩
  suffices H:_∧_ from ⟨⟨ok_mono ok (by omega),hl,H.1⟩,H.2⟩
  have p0:(Ak.new kd n ix v old own).a.pc=0:=rfl
  have hb:=hdSl_bd h0.1
  have a1:=aft_load (who:=who) (A:=A) (a:=C.slot (hdSl n)) ok (by omega)
  have e0:(Ak.new kd n ix v old own).step C who A=(((Ak.new kd n ix v old own).a.step C who A).1,⟨((Ak.new kd n ix v old own).a.step C who A).2.1,(Ak.new kd n ix v old own).h⟩,((Ak.new kd n ix v old own).a.step C who A).2.2):=by
   unfold Ak.step; rw [if_neg (by rw [p0]; decide),if_neg (by rw [p0]; decide)]
  rw [e0]
  by_cases c:hdOk n=false∨C.S≤hdSl n
  ·have e:(Ak.new kd n ix v old own).a.step C who A=(true,({ (Ak.new kd n ix v old own).a with hs:=hdSl n,hg:=hdGe n }:Ac).fin 3 0 A.s,A):=by
    unfold Ac.step; rw [if_pos p0,if_pos (show hdOk (Ak.new kd n ix v old own).a.n=false∨C.S≤hdSl (Ak.new kd n ix v old own).a.n from c)]; rfl
   rw [e]
   refine ⟨.inl rfl,?_⟩
   exact .inr ⟨rfl,⟨rfl,rfl,rfl⟩,⟨Int.le_refl _,rfl,by dsimp only; omega⟩,rfl,rfl,fun b2 o2=>ok_mono o2 (by omega)⟩
  ·rcases hn with hn | ⟨hn1,hn⟩
   ·exact absurd hn c
   rcases hn with hn | ⟨hn,h8,h9⟩
   ·have e:(Ak.new kd n ix v old own).a.step C who A=(true,({ (Ak.new kd n ix v old own).a with hs:=hdSl n,hg:=hdGe n,w:=A.w (C.slot (hdSl n)),seen:=((A.by who).load (C.slot (hdSl n))).s,pc:=1 }:Ac).fin 3 0 ((A.by who).load (C.slot (hdSl n))).s,(A.by who).load (C.slot (hdSl n))):=by
     unfold Ac.step; rw [if_pos p0,if_neg (show ¬ (hdOk (Ak.new kd n ix v old own).a.n=false∨C.S≤hdSl (Ak.new kd n ix v old own).a.n) from c),if_neg (show ¬ lives (A.w (C.slot (hdSl (Ak.new kd n ix v old own).a.n))) (hdGe (Ak.new kd n ix v old own).a.n) from hn)]; rfl
    rw [e]
    refine ⟨.inr ⟨_,rfl,hsb hn1.2⟩,?_⟩
    exact .inr ⟨rfl,⟨rfl,rfl,rfl⟩,⟨by have:=a1.s; show A.s≤((A.by who).load (C.slot (hdSl n))).s; omega,rfl,by have:=a1.s; show ((A.by who).load (C.slot (hdSl n))).s≤_; omega⟩,rfl,rfl,fun b2 o2=>ok_mono (a1.ok (by decide) o2 o2.w) (by omega)⟩
   ·have e:(Ak.new kd n ix v old own).a.step C who A=(false,{ (Ak.new kd n ix v old own).a with hs:=hdSl n,hg:=hdGe n,w:=A.w (C.slot (hdSl n)),seen:=((A.by who).load (C.slot (hdSl n))).s,pc:=1 },(A.by who).load (C.slot (hdSl n))):=by
     unfold Ac.step; rw [if_pos p0,if_neg (show ¬ (hdOk (Ak.new kd n ix v old own).a.n=false∨C.S≤hdSl (Ak.new kd n ix v old own).a.n) from c),if_pos (show lives (A.w (C.slot (hdSl (Ak.new kd n ix v old own).a.n))) (hdGe (Ak.new kd n ix v old own).a.n) from hn)]; rfl
    rw [e]
    refine ⟨.inr ⟨_,rfl,hsb hn1.2⟩,?_⟩
    exact .inl ⟨rfl,.inr ⟨rfl,rfl,a1.s,rfl,fun b2 o2=>a1.ok (by decide) o2 o2.w,rfl,rfl,rfl,rfl,⟨rfl,hn1.2⟩,h8,h9,rfl⟩⟩
 ·have ok':=eo bb ok
  have hb':=hdSl_bd h0.1
  have hnn:(Ak.new kd n ix v old own).a.n=n:=rfl
  have hoo:(Ak.new kd n ix v old own).a.own=own:=rfl
  rw [hnn] at h2 h4 h5
  rw [hoo] at h3 h7
  refine ⟨⟨⟨by omega,by rw [h2]; exact h0,by rw [h5.1]; exact ⟨hb'.1.1,h5.2⟩,by rw [h4]; exact ok.w _,by rw [h8]; decide,fun _=>by omega,fun e=>by omega,by omega⟩,fun e=>by omega⟩,?_⟩
  suffices H:_∧_ from ⟨⟨ok',by omega,H.1⟩,H.2⟩
  have a1:=aft_load (who:=who) (A:=A) (a:=slA m.a.w) ok' (by omega)
  have e0:m.step C who A=((m.a.step C who A).1,⟨(m.a.step C who A).2.1,m.h⟩,(m.a.step C who A).2.2):=by
   unfold Ak.step; rw [if_neg (by omega),if_neg (by omega)]
  have e:m.a.step C who A=(true,({ m.a with size:=hdS (A.w (slA m.a.w)),pc:=2 }:Ac).fin 3 0 ((A.by who).load (slA m.a.w)).s,(A.by who).load (slA m.a.w)):=by
   unfold Ac.step; rw [if_neg (by omega),if_pos h1,if_pos (by rw [h3,ew]; exact h7)]
  rw [e0,e]
  refine ⟨.inr ⟨_,rfl,(slA_bd _).1,h6⟩,?_⟩
  refine .inr ⟨rfl,⟨rfl,rfl,rfl⟩,⟨by have:=a1.s; show A0.s≤((A.by who).load (slA m.a.w)).s; omega,rfl,by have:=a1.s; show ((A.by who).load (slA m.a.w)).s≤_; omega⟩,ew,en,fun b2 o2=>?_⟩
  rw [show b2+2=b2+1+1 by omega]
  exact a1.ok (by decide) (eo b2 o2) (eo b2 o2).w
theorem c_AccNo (hN:N.ok) (hC:C.ok) (hA:isA N A σ) {n bb kd ix v old:Int} {own:Bool} (h0:0≤n∧n<18446744073709551616) (ok:A.ok bb) (hb:bb<4611686018427387904) (hl:C.len≤A.n) (hb2:(A.n:Int)≤200000000) (hn:NoDrop C A.w n own)
  (hk:∀ oS A' τ,(A.s≤oS∧oS=A'.s∧A'.s≤A.s+2)→A'.w=A.w→A'.n=A.n→A'.ok (bb+2)→isA N A' τ→Keep N.l σ τ→K (.agg #[.int .i64 3,.int .u64 0,.int .i64 0,.int .i64 oS]) τ) :
  s_bd [N.env C who,.agg #[.int .i64 kd,.int .u64 n,.int .i64 ix,.int .i64 v,.int .i64 old],.bool own] K σ:=by
 refine c_Acc hN hC hA (NaI C A (Ak.new kd n ix v old own)) (NaD A) (.inl ⟨rfl,rfl,rfl⟩) (fun k m A' k0 k1 h=>?_) (fun m A' h=>?_) (fun m A' τ hD hA' hK=>?_)
 ·obtain ⟨q1,q2,q3⟩:=h.step (who:=who) hC hn h0 ok hb hl hb2
  refine ⟨q1,q2.1.w,q2.2.1,?_⟩
  rcases q3 with ⟨d,h'⟩ | ⟨d,h'⟩
  ·rw [if_neg (by rw [d]; decide)]; exact h'
  ·rw [if_pos d]; exact h'
 ·rcases h with ⟨h,_⟩ | ⟨h,_⟩ <;> omega
 ·rw [hD.e.1,hD.e.2.1,hD.e.2.2]
  exact hk m.a.oS A' τ hD.s hD.w hD.n (hD.ok bb ok) hA' hK
end Go.Fl
namespace Go.Fl
open Go
set_option linter.unusedVariables false
set_option linter.unusedSimpArgs false
variable {N:Nm} {A B:Ar} {σ:Mem} {K:Value→Mem→Prop} {C:Cf} {who:Int} {P:MP}
section
variable {i:Int} {n:Nat} {dd:Int→Do} {li:Int→Bool} {V:Int→Int→Int} {w w':Int→Int} {b:Bg}
end
theorem c_place (hN:N.ok) (hC:C.ok) (hA:isA N A σ) {n:Int} (hn:C.len≤A.n) (hw:∀ i,0≤A.w i∧A.w i<18446744073709551616) (h0:0≤n∧n<18446744073709551616) (hs:0≤hdSl n∧hdSl n<C.S):s_bm [N.env C who,.int .u64 n] K σ=K (.int .i64 (slA (A.w (C.slot (hdSl n))))) σ:=by
 have hS:=hC.S
 have hl:=len_bd hC
 have hT:=hC.T; have hCC:=hC.C
 have hch:C.chunk C.C=6+C.T+2*C.S+3*C.C:=rfl
 have b1:0≤C.slot (hdSl n):=by unfold Cf.slot; omega
 have b2:C.slot (hdSl n)<A.n:=by unfold Cf.slot; omega
 have g2:∀ x y:Int,gStore 2 [.pointer (some ⟨5,0,some 0⟩),.agg #[.int .i64 x,.int .i64 y]] [.int .i64 0,.int .i64 0]=some [.int .i64 x,.int .i64 y]:=fun _ _=>rfl
 have gb:gBox 9 [N.env C who] []=some (N.el C who):=rfl
 have p7:sub (N.el C who) 7 1 false=some N.p:=rfl
 have c7':sub (N.el C who) 0 7 true=some C.v:=rfl
 have f1':∀ (x y z w:Value) (K:Value→Prop),xF (fFldV 1 1 false) [.agg #[x,y,z,w]] K=K y:=fun _ _ _ _ K=>nr rfl
 simp only [s_bm,w_bm,gb,c_wHandleG h0.1 h0.2,g2,p7,c7',c_Slot hC hs.1 (show hdSl n≤65536 by omega),c_PeekA hN hA b1 b2,c_wSlot (hw _).1 (hw _).2,f1',ruS,ruL,ruE,Nat.reduceAdd,reduceIte,Int.reduceLT,Int.reduceLE,Int.reduceEq,Int.reduceNeg,Int.reduceAdd,Int.reduceSub,Nat.reduceLeDiff,Nat.reduceLT]
end Go.Fl
namespace Go.Fl
open Go
set_option linter.unusedVariables false
set_option linter.unusedSimpArgs false
variable {N:Nm} {A B:Ar} {σ:Mem} {K:Value→Mem→Prop} {C:Cf} {who:Int} {P:MP}
theorem c_roundsOZ (hN:N.ok) (hC:C.ok) (hA:isA N A σ) {p:Nat} {O:List Nat} {c:Co} {n q bb:Int} (Z:Co→Ar→Prop) (hn:0≤n∧n≤500) (hO:COb N p O c σ) (h0:WI C P q c A) (z0:Z c A) (hrd:0≤c.r.rd∧c.r.rd≤400) (ok:A.ok bb) (hb:bb<1152921504606846976)
  (hZ:∀ q c1 A1 r,WI C P q c1 A1→Z c1 A1→c1.r.rd≤1300→c1.may C A1 r→Z (c1.step C (-1) A1 r).1 (c1.step C (-1) A1 r).2)
  (hk:∀ q' c' A' O' τ,WI C P q' c' A'→Z c' A'→A'.ok (bb+4194304)→c'.r.rd=c.r.rd+n→(n=0∨c'.r.pc=0∧c'.r.at'=0)→isA N A' τ→COb N p O' c' τ→(∀ i ∈ O',i ∈ O∨σ.get i=none)→Keep (O ++ N.l) σ τ→K (.bool true) τ) :
  s_bn [N.env C who,.pointer (some ⟨p,0,none⟩),.int .i64 n] K σ:=by
 have hn0:=h0.st.n0
 have hq3:=h0.q3
 refine c_roundsWZ hN hC hA (fun c A=>(0≤c.r.rd∧∃ q,WI C P q c A∧A.ok (bb+(tW P c - q)))∧Z c A) hn hO h0 ⟨⟨hrd.1,q,h0,ok_mono ok (by unfold tW; omega)⟩,z0⟩ hrd (fun q1 c1 A1 r hwi hz hrd1 hm _=>?_) fun q' c' A' O' τ h hz e1=>?_
 ·obtain ⟨⟨r0,q2,hw,hok⟩,hz2⟩:=hz
  have hq1:=hw.q1 hC
  have ht:=hw.touch (who := -1) hC hrd1 r
  have hs:=hw.step (who := -1) hC hrd1 r hm
  have hb4:bb+(tW P c1 - q2)<4611686018427387904:=by unfold tW; omega
  refine ⟨?_,hZ q1 c1 A1 r hwi hz2 hrd1 hm⟩
  rcases hs with ⟨e,h'⟩ | ⟨e,h'⟩
  ·refine ⟨by rw [e]; exact r0,q2 - 1,h',ok_mono (ht.ok hok hb4 h'.bd) ?_⟩
   unfold tW; rw [e]; omega
  ·refine ⟨by rw [e.1]; omega,3000,h',ok_mono (ht.ok hok hb4 h'.bd) ?_⟩
   unfold tW; rw [e.1]; omega
 ·obtain ⟨⟨_,q2,hw,hok⟩,hz2⟩:=hz
  have hq1:=hw.q1 hC
  exact hk q' c' A' O' τ h hz2 (ok_mono hok (by unfold tW; omega)) e1
structure Mk1 (C:Cf) (n:Nat) (z:Int) (dd:Int→Do) (b:Bg):Prop where
 each:∀ l:Int,0≤l→l<n→(dd l).z=z∧(dd l).own=false
 o:∀ k,0≤k→k≤3→k≠classOf z→b.o k = -1
 st:n=0∧b.nx=0∧b.o (classOf z) = -1∨1≤n∧1≤b.nx∧b.o (classOf z)=b.nx - 1∧(dd 0).j=0∧(dd 0).i=0
 full:∀ j,0≤j→j<b.nx - 1→C.W<b.u j+roomOf (classOf z)
 nn:b.nx≤n
theorem Mk1.next (hC:C.ok) {n:Nat} {z s j:Int} {dd:Int→Do} {b b':Bg} {F:List Int} {d:Do} {w:Int→Int} (h:Mk1 C n z dd b) (ha:b.aw C w) (hz:0≤classOf z) (hF:b.F=s :: F) (hg:Got C b F (classOf z) j b') (hd:d.own=false∧d.j=j∧d.z=z∧d.i=b.u j):Mk1 C (n+1) z (addD dd n d) (b'.count j (roomOf (classOf z))):=by
 have hr:=room_bd hz (class_bd z).2
 have aN:addD dd n d n=d:=if_pos rfl
 have aO:∀ k:Int,k<n→addD dd n d k=dd k:=fun k hk=>if_neg (by omega)
 have each:∀ l:Int,0≤l→l<((n+1:Nat):Int)→(addD dd n d l).z=z∧(addD dd n d l).own=false:=fun l l0 l1=>by
  by_cases e:l=n
  ·subst e; rw [aN]; exact ⟨hd.2.2.1,hd.1⟩
  ·rw [aO l (by omega)]; exact h.each l l0 (by omega)
 have hbd:=ha.alo.bd
 rcases hg with ⟨g,ej,rfl⟩ | ⟨g,nx,ej,rfl⟩
 ·rcases h.st with ⟨a1,a2,a3⟩ | ⟨a1,a2,a3,a4,a5⟩
  ·have:=g.1; omega
  ·refine ⟨each,h.o,.inr ⟨by omega,a2,a3,by rw [aO 0 (by omega)]; exact a4,by rw [aO 0 (by omega)]; exact a5⟩,fun i i0 i1=>?_,by have:=h.nn; show b.nx≤_; omega⟩
   have i1':i<b.nx - 1:=i1
   show C.W<upd b.u j (b.u j+roomOf (classOf z)) i+_
   rw [upd_ne _ _ (by omega)]; exact h.full i i0 i1'
 ·refine ⟨each,fun k k0 k1 ne=>(upd_ne _ _ ne).trans (h.o k k0 k1 ne),.inr ⟨by omega,by show 1≤b.nx+1; omega,by show upd b.o (classOf z) b.nx (classOf z)=b.nx+1 - 1; rw [upd_same]; omega,?_,?_⟩,fun i i0 i1=>?_,by have:=h.nn; show b.nx+1≤_; omega⟩
  ·rcases h.st with ⟨a1,a2,a3⟩ | ⟨a1,a2,a3,a4,a5⟩
   ·subst a1; rw [show addD dd ((0:Nat):Int) d 0=d from if_pos rfl,hd.2.1]; omega
   ·rw [aO 0 (by omega)]; exact a4
  ·rcases h.st with ⟨a1,a2,a3⟩ | ⟨a1,a2,a3,a4,a5⟩
   ·subst a1; rw [show addD dd ((0:Nat):Int) d 0=d from if_pos rfl,hd.2.2.2,ej,a2]; exact (ha.alo.new 0 (by omega) (by omega)).2
   ·rw [aO 0 (by omega)]; exact a5
  ·have i1':i<b.nx+1 - 1:=i1
   show C.W<upd b.u j (b.u j+roomOf (classOf z)) i+_
   rw [upd_ne _ _ (by omega)]
   by_cases e:i<b.nx - 1
   ·exact h.full i i0 e
   ·rcases h.st with ⟨a1,a2,a3⟩ | ⟨a1,a2,a3,a4,a5⟩
    ·omega
    ·have ei:i=b.o (classOf z):=by omega
     by_cases q:C.W<b.u i+roomOf (classOf z)
     ·exact q
     ·exact absurd (⟨by omega,by rw [← ei]; omega⟩:good C b.o b.u (classOf z)) g
def qP (C:Cf) (w:Int→Int) (κ:Int):Qs:=⟨fun j=>chS (w (C.chunk j)),fun j=>chU (w (C.chunk j)),fun j=>IntKind.i64.wrap (w (C.chunk j+1)),fun _=>0,fun k=>w (2+k),fun j=>if j=0 then κ else 0,fun r=>w (C.slot r),w 0,0⟩
def gP (C:Cf) (z s nx:Int) (w:Int→Int):Gvn1:=⟨nx,classOf z,s,fun j=>chU (w (C.chunk j)),fun j=>IntKind.i64.wrap (w (C.chunk j+1)),fun r=>w (C.slot r)⟩
section
variable {i:Int} {n:Nat} {dd:Int→Do} {li:Int→Bool} {V:Int→Int→Int} {w:Int→Int} {b:Bg} {z:Int}
theorem Dv.one1 (hC:C.ok) (h:Dv C i n dd li V w b) (hi:i≤1000) (hli:∀ k:Int,0≤k→k<n→li k=decide (k=0)) (n1:1≤n):(MP.of C w).lv (dd 0).s=true∧(∀ r,0≤r→r<C.S→(MP.of C w).lv r=true→r=(dd 0).s)∧slA (w (C.slot (dd 0).s))=(dd 0).a C∧(MP.of C w).z (dd 0).s=(dd 0).z:=by
 have h0:=h.one hC hi (Int.le_refl 0) (by omega) (by rw [hli 0 (Int.le_refl 0) (by omega)]; rfl)
 refine ⟨h0.1,fun r r0 r1 l=>?_,h0.2.2.2.2.2.1,h0.2.2.1⟩
 obtain ⟨k,k1,k2,rfl⟩:=h.who' hC r0 r1 l
 rw [hli k k1.1 k1.2] at k2
 have:=of_decide_eq_true k2
 rw [this]
theorem UQ.init (hC:C.ok) (h8:C.C=8∧C.P=600∧C.W=34) (h:Dv C i n dd li V w b) (hi:i≤1000) (hk:Mk1 C n z dd b) (hli:∀ k:Int,0≤k→k<n→li k=decide (k=0)) (n1:1≤n) (e0:w 0=0):UQ C (gP C z (dd 0).s b.nx w) 1 (qP C w 1):=by
 have hbd:=h.dw.aw.alo.bd
 have hd0:=h.dw.hd 0 (Int.le_refl 0) (by omega)
 have ez:=(hk.each 0 (Int.le_refl 0) (by omega)).1
 have hcl:=hd0.2.1
 rw [ez] at hcl
 have hr:=room_bd hcl (class_bd z).2
 have hst:1≤n∧1≤b.nx∧b.o (classOf z)=b.nx - 1∧(dd 0).j=0∧(dd 0).i=0:=by
  rcases hk.st with ⟨a,_⟩ | a
  ·omega
  ·exact a
 have op:=fun k k0 k1=>(h.dw.aw.alo.op k k0 k1).1
 have old:=h.dw.aw.alo.old
 have u0:=old 0 (Int.le_refl 0) (by omega)
 have um0:=h.dw.um 0 (Int.le_refl 0) (by omega)
 have pl0:=h.dw.pl 0 (Int.le_refl 0) (by omega)
 have ec0:chC (w (C.chunk 0))=classOf z:=by have:=pl0.2.1; rw [hst.2.2.2.1,ez] at this; exact this
 have rm0:(dd 0).rm=roomOf (classOf z):=by unfold Do.rm; rw [ez]
 -- what lives
 have lv:∀ j,0≤j→j<8→b.lv j=if j=0 then roomOf (classOf z) else 0:=fun j j0 j1=>by
  rw [← h.dw.sm j j0 (by omega)]
  by_cases e:j=0
  ·subst e
   rw [if_pos rfl]
   have he:part dd li 0=upd (fun _=>0) 0 (roomOf (classOf z))∨True:=.inr trivial
   have hs:∀ m:Nat,m≤n→1≤m→sumN (part dd li 0) m=roomOf (classOf z):=by
    intro m hm hm1
    induction m with
    | zero=>omega
    | succ m ih=>
     show sumN (part dd li 0) m+part dd li 0 m=_
     by_cases m0:m=0
     ·subst m0
      show 0+part dd li 0 0=_
      unfold part
      rw [if_pos ⟨by rw [hli 0 (Int.le_refl 0) (by omega)]; rfl,hst.2.2.2.1⟩,rm0]; omega
     ·rw [ih (by omega) (by omega)]
      unfold part
      rw [if_neg (fun x=>by have:=x.1; rw [hli m (by omega) (by omega)] at this; have:=of_decide_eq_true this; omega)]; omega
   exact hs n (Nat.le_refl n) n1
  ·rw [if_neg e]
   refine sumN_zero fun k k0 k1=>?_
   unfold part
   rw [if_neg]
   rintro ⟨q1,q2⟩
   rw [hli k k0 k1] at q1
   have:=of_decide_eq_true q1
   subst this; omega
 have elv:∀ j,0≤j→j<8→IntKind.i64.wrap (w (C.chunk j+1))=if j=0 then roomOf (classOf z) else 0:=fun j j0 j1=>by
  rw [h.dw.aw.live j j0 (by omega),lv j j0 j1]
  split
  ·exact IntWalk.i64_in _ (by omega)
  ·decide
 refine ⟨⟨h8.1,h8.2.1⟩,⟨hst.2.1,by show b.nx≤8; omega⟩,⟨hcl,(class_bd z).2⟩,⟨(by show (if (0:Int)=0 then (1:Int) else 0)=1; exact if_pos rfl),.inl rfl⟩,fun j j0 j1=>(by show (if j=0 then (1:Int) else 0)=0; exact if_neg (by omega)),?_,fun k k0 k1 ne=>?_,rfl,rfl,rfl,⟨?_,?_,?_,?_,fun q=>?_⟩,fun j j0 j1=>⟨?_,?_⟩,u0.1,fun j j0 j1=>.inr (.inl (old j (by omega) (by have j1':j<b.nx - 1:=j1; omega)).1),fun q=>(old _ (by have q':2≤b.nx:=q; show 0≤b.nx - 1; omega) (by show b.nx - 1<b.nx; omega)).1,fun j j0 j1=>?_,fun j j0 j1 s=>?_,by show 0≤w 0; omega,.inl ?_,fun e8=>?_,fun e=>absurd e (by decide)⟩
 ·show w (2+classOf z)=b.nx
  rw [op _ hcl (class_bd z).2]; omega
 ·show w (2+k)=0
  have:=hk.o k k0 k1 ne
  rw [op k k0 k1]; omega
 ·show 0<chU (w (C.chunk 0)); rw [u0.2.1]; exact um0.2.2
 ·show chU (w (C.chunk 0))≤40; rw [u0.2.1]; omega
 ·show 1≤IntKind.i64.wrap (w (C.chunk 0+1)); rw [elv 0 (by decide) (by decide),if_pos rfl]; omega
 ·show IntKind.i64.wrap (w (C.chunk 0+1))≤17; rw [elv 0 (by decide) (by decide),if_pos rfl]; omega
 ·have q':2≤b.nx:=q
  show 1000*IntKind.i64.wrap (w (C.chunk 0+1))<600*chU (w (C.chunk 0))
  rw [elv 0 (by decide) (by decide),if_pos rfl,u0.2.1]
  have hf:=hk.full 0 (Int.le_refl 0) (by omega)
  have hm:=um0.1
  rw [ec0] at hm
  obtain ⟨t,ht⟩:=Int.dvd_of_emod_eq_zero hm
  have:2≤t:=by
   by_cases t2:t<2
   ·have:roomOf (classOf z)*t≤roomOf (classOf z)*1:=Int.mul_le_mul_of_nonneg_left (by omega) (by omega)
    omega
   ·omega
  have:roomOf (classOf z)*2≤roomOf (classOf z)*t:=Int.mul_le_mul_of_nonneg_left this (by omega)
  omega
 ·have j1':j<b.nx:=j1
  show 0<chU (w (C.chunk j))
  rw [(old j (by omega) j1').2.1]; exact (h.dw.um j (by omega) j1').2.2
 ·have j1':j<b.nx:=j1
  show IntKind.i64.wrap (w (C.chunk j+1))≤0
  rw [elv j (by omega) (by omega),if_neg (by omega)]; exact Int.le_refl 0
 ·have j0':b.nx≤j:=j0
  show chS (w (C.chunk j))=0
  rw [(h.dw.aw.alo.new j j0' (by omega)).1]; decide
 ·have s':chS (w (C.chunk j))=3:=s
  rcases (h.dw.chs j0 (by omega)).1 with q | q <;> omega
 ·show ((cnt (fun j=>decide (1≤j∧j<b.nx - 1∧chS (w (C.chunk j))=1)) 8:Nat):Int)+w 0≤6
  rw [e0]
  generalize hf:(fun j=>decide (1≤j∧j<b.nx - 1∧chS (w (C.chunk j))=1))=f
  have f0:f 0=false:=by rw [← hf]; exact decide_eq_false (by omega)
  have f7:f 7=false:=by rw [← hf]; exact decide_eq_false (by omega)
  have e:cnt f 8=(if f 0=true then 1 else 0)+(if f 1=true then 1 else 0)+(if f 2=true then 1 else 0)+(if f 3=true then 1 else 0)+(if f 4=true then 1 else 0)+(if f 5=true then 1 else 0)+(if f 6=true then 1 else 0)+(if f 7=true then 1 else 0):=by
   show 0+_+_+_+_+_+_+_+_=_
   rw [Nat.zero_add]; rfl
  have l:∀ x:Bool,(if x=true then 1 else 0)≤1:=fun x=>by cases x <;> decide
  have l1:=l (f 1); have l2:=l (f 2); have l3:=l (f 3); have l4:=l (f 4); have l5:=l (f 5); have l6:=l (f 6)
  rw [e,f0,f7]
  simp only [Bool.false_eq_true,if_false]
  omega
 ·have e8':8≤w 0:=e8
  omega
theorem QW.init1 (hC:C.ok) (h8:C.C=8∧C.W=34) (h:Dv C i n dd li V w b) (hi:i≤1000) (hli:∀ k:Int,0≤k→k<n→li k=decide (k=0)) (n1:1≤n) (ha:(dd 0).a C=C.base 0) {v pk:Int}:QW C ((MP.of C w).re (C.base 0) pk) (qP C w 1) (upd w (C.base 0) v):=by
 obtain ⟨_,hone,es,_⟩:=h.one1 hC hi hli n1
 rw [ha] at es
 have hT:=hC.T; have hS:=hC.S; have hCC:=hC.C
 have e0:C.base 0=6+C.T+2*C.S+3*C.C:=by unfold Cf.base; omega
 have base:QW C ((MP.of C w).re (C.base 0) pk) (qP C w 1) w:=by
  refine ⟨fun _ _ _=>rfl,fun _ _ _ _=>⟨rfl,rfl⟩,fun j j0 j1 e=>?_,fun _ _ _=>rfl,rfl,⟨fun j j0 j1 e r r0 r1 l x x0 x1 ea=>?_,fun j j0 j1 e=>?_,fun j j0 j1 e=>?_⟩,fun _ _ _=>rfl⟩
  ·have e':chS (w (C.chunk j))=3:=e
   rcases (h.dw.chs j0 j1).1 with q | q <;> omega
  ·have e':(if j=0 then (1:Int) else 0)=0:=e
   have ej:j≠0:=fun q=>by rw [if_pos q] at e'; exact absurd e' (by decide)
   have er:=hone r r0 r1 l
   rw [er,es] at ea
   have ea':C.base 0+0=C.base j+x:=by omega
   exact ej (base_inj hC (Int.le_refl 0) (by omega) (Int.le_refl 0) (by omega) j0 j1 x0 x1 ea').1.symm
  ·have e':(if j=0 then (1:Int) else 0)=1:=e
   by_cases ej:j=0
   ·rw [ej]; rfl
   ·rw [if_neg ej] at e'; exact absurd e' (by decide)
  ·have e':(if j=0 then (1:Int) else 0)=2:=e
   split at e' <;> omega
 have:=base.word hC (i:=0) (y:=0) (v:=v) (Int.le_refl 0) (by omega) (Int.le_refl 0)
 rw [Int.add_zero] at this; exact this
theorem QW.init2 (hC:C.ok) (h8:C.C=8∧C.W=34) {P:MP} {Q:Qs} {pk:Int} {s:Int} {w:Int→Int} (h:QW C P Q w) (hs:(0≤s∧s<C.S)∧P.lv s=true) (hone:∀ r,0≤r→r<C.S→P.lv r=true→r=s) (es:slA (w (C.slot s))=C.base 0) (hk:∀ j,1≤j→j<8→Q.kd j=0) {v:Int}:QW C (P.re (-1) pk) { Q with kd:=fun j=>if j=0 then 2 else 0 } (upd w (C.base 0) v):=by
 have hT:=hC.T; have hS:=hC.S; have hCC:=hC.C
 have e0:C.base 0=6+C.T+2*C.S+3*C.C:=by unfold Cf.base; omega
 have base:QW C (P.re (-1) pk) { Q with kd:=fun j=>if j=0 then 2 else 0 } w:=by
  refine ⟨h.st,h.c1,h.c3,h.o,h.e,⟨fun j j0 j1 e=>?_,fun j j0 j1 e=>?_,fun j j0 j1 e=>?_⟩,h.sl⟩
  ·have e':(if j=0 then (2:Int) else 0)=0:=e
   have ej:j≠0:=fun q=>by rw [if_pos q] at e'; exact absurd e' (by decide)
   exact h.kd.k0 j j0 j1 (hk j (by omega) (by omega))
  ·have e':(if j=0 then (2:Int) else 0)=1:=e
   split at e' <;> omega
  ·have e':(if j=0 then (2:Int) else 0)=2:=e
   have ej:j=0:=by
    by_cases q:j=0
    ·exact q
    ·rw [if_neg q] at e'; exact absurd e' (by decide)
   subst ej
   exact ⟨by show (-1:Int)≠C.base 0; omega,s,hs.1,hs.2,es,fun r r0 r1 l ne=>absurd (hone r r0 r1 l) ne⟩
 have:=base.word hC (i:=0) (y:=0) (v:=v) (Int.le_refl 0) (by omega) (Int.le_refl 0)
 rw [Int.add_zero] at this; exact this
theorem UQ.show' {G:Gvn1} {Q:Qs} (h:UQ C G 1 Q) (he:Q.e≤9):UQ C G 2 { Q with kd:=fun j=>if j=0 then 2 else 0 }:=
 ⟨h.c8,h.nx,h.cb,⟨(by show (if (0:Int)=0 then (2:Int) else 0)=2; exact if_pos rfl),.inr rfl⟩,fun j j0 j1=>(by show (if j=0 then (2:Int) else 0)=0; exact if_neg (by omega)),h.oc,h.oo,h.us,h.lv,h.sl,h.g0,h.gn,h.s0,h.sn,h.so,h.sf,h.q3,h.e0,h.nd,h.nq,fun _ _=>he⟩
end
end Go.Fl
namespace Go.Fl
open Go
set_option linter.unusedVariables false
set_option linter.unusedSimpArgs false
variable {N:Nm} {A B:Ar} {σ:Mem} {K:Value→Mem→Prop} {C:Cf} {who:Int}
structure Rh (N:Nm) (σ:Mem) (p n:Nat) (g:Int→Int) (τ:Mem):Prop where
 gp:τ.get p=some ⟨cells .u64 n g,true⟩
 dp:p ∉ N.l∧σ.get p=none
theorem Rh.keep {p n:Nat} {g:Int→Int} {τ υ:Mem} (h:Rh N σ p n g τ) (k:Keep N.l τ υ):Rh N σ p n g υ:=⟨k.get h.gp h.dp.1,h.dp⟩
theorem Rh.ext {p n:Nat} {g:Int→Int} {τ υ:Mem} (h:Rh N σ p n g τ) (k:Ext τ υ):Rh N σ p n g υ:=⟨k _ _ h.gp,h.dp⟩
theorem Rh.add {p n l:Nat} {g g':Int→Int} {τ:Mem} {A:Ar} (h:Rh N σ p n g τ) (hA:isA N A τ) (hE:Ext σ τ) (hn:n<1000000) (hg:∀ i:Int,0≤i→i<n→g' i=g i)
  (hk:∀ id υ,Rh N σ id (n+1) g' υ→isA N A υ→Ext σ υ→(∀ q,q≠p→τ.get q≠none→υ.get q=τ.get q)→K (.slice (some ⟨id,0,none⟩) (n+1) 1) υ):hAppendL 1 8 [.int .u64 (g' n)] [.slice (some ⟨p,0,none⟩) n 1,locS l 1 1] K τ:=by
 refine hAppendL_i (pre:=[]) (L:=cells .u64 n g) (by rw [List.nil_append]; exact h.gp) rfl (cells_len _ _ _) (by decide) rfl (by omega) fun id υ hid gid kp=>?_
 rw [cells_snoc hg] at gid
 refine hk id υ ⟨gid,hA.new hid,hE.none hid⟩ (hA.keep kp ?_) (hE.keep' kp fun j hj=>by rw [List.mem_singleton] at hj; subst hj; exact h.dp.2) fun q hq hn=>?_
 ·have:=h.dp.1
  simp only [Nm.l,List.mem_cons,List.not_mem_nil,or_false,not_or] at this ⊢
  exact ⟨Ne.symm this.1,Ne.symm this.2.1,Ne.symm this.2.2⟩
 ·cases e:τ.get q with
  | none=>exact absurd e hn
  | some x=>exact kp _ _ e (by simpa using hq)
theorem Rh.ld {p n:Nat} {g:Int→Int} {τ:Mem} {i:Int} (h:Rh N σ p n g τ) (i0:0≤i) (i1:i<n):hLoad 1 false [.pointer (some ⟨p,i.toNat*1,none⟩)] K τ=K (.int .u64 (g i)) τ:=ldCells h.gp i0 i1
theorem f1 {x y z w:Value} {K:Value→Prop}:xF (fFldV 1 1 false) [.agg #[x,y,z,w]] K=K y:=nr rfl
theorem bu1 {x:Int}:gBuildS 1 1 [.int .u64 0] [0] [.int .u64 x] []=some [.int .u64 x]:=nr rfl
theorem upL_cons {i:Int} {n:Nat}:upL i (n+1)=i :: upL (i+1) n:=rfl
structure Aw7 (C:Cf) (k:Nat) (dd:Int→Do) (li:Int→Bool) (w:Int→Int) (b:Bg):Prop where
 dw:Dw C k k dd li w b
 F:b.F=upL k (20 - k)
 st:k=0∧b.nx=0∧b.o 0 = -1∨(1≤k∧k≤6)∧b.nx=1∧b.o 0=0∧b.u 0=3*k∨k=7∧b.nx=2∧b.o 0=1
 o:∀ c,1≤c→c≤3→b.o c = -1
 lo:∀ i,lowW C i→w i=0
 each:∀ l:Int,0≤l→l<k→(dd l).own=false∧li l=true∧(dd l).j=(if l<6 then 0 else 1)
theorem Aw7.next (hC:C.ok) (h4:C.C=4) (hW:C.W=20) {k:Nat} {dd:Int→Do} {li:Int→Bool} {w w':Int→Int} {b b':Bg} {s j:Int} {F:List Int} {d:Do} (h:Aw7 C k dd li w b) (hk:k<7) (hF:b.F=s :: F) (hg:Got C b F 0 j b') (h1:d.own=false) (h2:d.j=j)
  (hd:Dw C (k+1) (k+1) (addD dd k d) (updB li k true) w' (b'.count j (roomOf 0))) (hl:∀ i,lowW C i→w' i=0):Aw7 C (k+1) (addD dd k d) (updB li k true) w' (b'.count j (roomOf 0)):=by
 obtain ⟨hdw,hF0,st,ho,hlo,he⟩:=h
 have eF:F=upL ((k+1:Nat):Int) (20 - (k+1)):=by
  rw [hF0,show 20 - k=(20 - (k+1))+1 by omega,upL_cons] at hF
  have:upL ((k:Int)+1) (20 - (k+1))=F:=(List.cons.inj hF).2
  rw [← this]; rfl
 have hu0:b.nx=0→b.u 0=0:=fun q=>(hdw.aw.alo.new 0 (by omega) (by omega)).2
 have cs:(b'.F=F)∧((1≤k+1∧k+1≤6)∧b'.nx=1∧b'.o 0=0∧b'.u 0=3*(k+1:Nat)∧j=0∨k=6∧b'.nx=2∧b'.o 0=1∧j=1)∧∀ c,1≤c→c≤3→b'.o c=b.o c:=by
  rcases hg with ⟨⟨g0,g1⟩,e,rfl⟩ | ⟨ng,nx,e,rfl⟩
  ·rw [room_0] at g1
   rcases st with ⟨_,_,q⟩ | ⟨q1,q2,q3,q4⟩ | ⟨q,_⟩
   ·omega
   ·rw [q3] at g1 e
    refine ⟨rfl,.inl ⟨by omega,q2,q3,?_,e⟩,fun _ _ _=>rfl⟩
    show upd b.u j (b.u j+roomOf 0) 0=_
    rw [e,upd_same,room_0]; omega
   ·omega
  ·have ng':¬ (0≤b.o 0∧b.u (b.o 0)+3≤C.W):=ng
   rcases st with ⟨q0,q1,q2⟩ | ⟨q1,q2,q3,q4⟩ | ⟨q,_⟩
   ·refine ⟨rfl,.inl ⟨by omega,by show b.nx+1=1; omega,by show upd b.o 0 b.nx 0=0; rw [upd_same]; omega,?_,by omega⟩,fun c c0 _=>upd_ne _ _ (by omega)⟩
    show upd b.u j (b.u j+roomOf 0) 0=_
    rw [e,q1,upd_same,room_0,hu0 q1]; omega
   ·rw [q3,q4] at ng'
    exact ⟨rfl,.inr ⟨by omega,by show b.nx+1=2; omega,by show upd b.o 0 b.nx 0=1; rw [upd_same]; omega,by omega⟩,fun c c0 _=>upd_ne _ _ (by omega)⟩
   ·omega
 obtain ⟨c1,c2,c3⟩:=cs
 refine ⟨hd,by show b'.F=_; rw [c1,eF],?_,fun c c0 c1=>by show b'.o c = -1; rw [c3 c c0 c1]; exact ho c c0 c1,hl,fun l l0 l1=>?_⟩
 ·rcases c2 with ⟨q1,q2,q3,q4,_⟩ | ⟨q1,q2,q3,_⟩
  ·exact .inr (.inl ⟨q1,q2,q3,q4⟩)
  ·exact .inr (.inr ⟨by omega,q2,q3⟩)
 ·by_cases e:l=k
  ·subst e
   have a1:addD dd k d k=d:=if_pos rfl
   have a2:updB li k true k=true:=if_pos rfl
   rw [a1,a2,h2]
   refine ⟨h1,rfl,?_⟩
   rcases c2 with ⟨q1,_,_,_,q5⟩ | ⟨q1,_,_,q5⟩
   ·rw [if_pos (by omega)]; exact q5
   ·rw [if_neg (by omega)]; exact q5
  ·have a1:addD dd k d l=dd l:=if_neg e
   have a2:updB li k true l=li l:=if_neg e
   rw [a1,a2]; exact he l l0 (by omega)
structure Aw6 (C:Cf) (k:Nat) (dd:Int→Do) (li:Int→Bool) (w:Int→Int) (b:Bg):Prop where
 dw:Dw C (7+k) 7 dd li w b
 st:b.nx=2∧b.o 0=1
 o:∀ c,1≤c→c≤3→b.o c = -1
 lo:∀ i,lowW C i→w i=0
 each:∀ l:Int,0≤l→l<7→(dd l).own=false∧li l=decide ((k:Int)≤l)∧(dd l).j=(if l<6 then 0 else 1)
theorem cnt4 {f:Int→Bool}:cnt f 4=(if f 0=true then 1 else 0)+(if f 1=true then 1 else 0)+(if f 2=true then 1 else 0)+(if f 3=true then 1 else 0):=by
 show 0+_+_+_+_=_
 rw [Nat.zero_add]; rfl
end Go.Fl
namespace Go.Fl
open Go
set_option linter.unusedVariables false
set_option linter.unusedSimpArgs false
variable {N:Nm} {A B:Ar} {σ:Mem} {K:Value→Mem→Prop} {C:Cf} {who:Int}
def q0 (C:Cf) (w:Int→Int):Qs:=⟨fun j=>chS (w (C.chunk j)),fun j=>chU (w (C.chunk j)),fun j=>IntKind.i64.wrap (w (C.chunk j+1)),fun _=>0,fun k=>w (2+k),fun j=>if j=0 then 0 else 3,fun r=>w (C.slot r),w 0,0⟩
theorem Aw6.words (hC:C.ok) (h4:C.C=4) {dd:Int→Do} {li:Int→Bool} {V:Int→Int→Int} {w:Int→Int} {b:Bg} (h:Aw6 C 6 dd li w b) (hdv:Dv C 13 7 dd li V w b) :
  (∀ j,0≤j→j<4→chS (w (C.chunk j))=if j<2 then 1 else 0)∧(w 2=2∧w 3=0∧w 4=0∧w 5=0∧w 0=0)∧QW C (MP.of C w) (q0 C w) w∧(0<chU (w (C.chunk 0))∧IntKind.i64.wrap (w (C.chunk 0+1))=0):=by
 obtain ⟨hdw,⟨s1,s2⟩,ho,hlo,he⟩:=h
 have w2:w 2=2:=by have:=(hdw.aw.alo.op 0 (by decide) (by decide)).1; rw [s2] at this; exact this
 have w345:∀ c,1≤c→c≤3→w (2+c)=0:=fun c c0 c1=>by have:=(hdw.aw.alo.op c (by omega) c1).1; rw [ho c c0 c1] at this; omega
 have hst:∀ j,0≤j→j<4→chS (w (C.chunk j))=if j<2 then 1 else 0:=fun j j0 j1=>by
  by_cases q:j<2
  ·rw [if_pos q]; exact (hdw.aw.alo.old j j0 (by omega)).1
  ·rw [if_neg q,(hdw.aw.alo.new j (by omega) (by omega)).1]; decide
 refine ⟨hst,⟨w2,w345 1 (by decide) (by decide),w345 2 (by decide) (by decide),w345 3 (by decide) (by decide),hlo 0 (.inl rfl)⟩,⟨fun _ _ _=>rfl,fun _ _ _ _=>⟨rfl,rfl⟩,fun j j0 j1 e=>?_,fun _ _ _=>rfl,rfl,⟨fun j j0 j1 e r r0 r1 l x x0 x1 ea=>?_,fun j j0 j1 e=>?_,fun j j0 j1 e=>?_⟩,fun _ _ _=>rfl⟩,?_,?_⟩
 ·have e':chS (w (C.chunk j))=3:=e
  rw [hst j j0 (by omega)] at e'
  split at e' <;> omega
 ·have e':(if j=0 then (0:Int) else 3)=0:=e
  have ej:j=0:=by
   by_cases q:j=0
   ·exact q
   ·rw [if_neg q] at e'; omega
  subst ej
  obtain ⟨k,k1,k2,rfl⟩:=hdv.who' hC r0 r1 l
  have hk:=he k k1.1 k1.2
  rw [hk.2.1] at k2
  have k6:¬ k<6:=by have:=of_decide_eq_true k2; omega
  have one:=hdv.one hC (by decide) k1.1 k1.2 (by rw [hk.2.1]; exact k2)
  obtain ⟨⟨p1,p2,p3⟩,_⟩:=hdw.pl k k1.1 k1.2
  have pu:=(aw_ule hC hdw.aw p1.1 (by omega)).2
  have rm:=(dd k).rm0
  rw [one.2.2.2.2.2.1] at ea
  have ea':C.base (dd k).j+(dd k).i=C.base 0+x:=ea
  have:=(base_inj hC p1.1 (by omega) p2 (by omega) j0 j1 x0 x1 ea').1
  rw [hk.2.2,if_neg k6] at this; omega
 ·have e':(if j=0 then (0:Int) else 3)=1:=e
  split at e' <;> omega
 ·have e':(if j=0 then (0:Int) else 3)=2:=e
  split at e' <;> omega
 ·have:=(hdw.aw.alo.old 0 (by decide) (by omega)).2.1
  rw [this]; exact (hdw.um 0 (by decide) (by omega)).2.2
 ·have hz:b.lv 0=0:=by
   rw [← hdw.sm 0 (by decide) (by omega)]
   refine sumN_zero fun k k0 k1=>?_
   unfold part
   rw [if_neg]
   rintro ⟨q1,q2⟩
   have hk:=he k k0 k1
   rw [hk.2.2] at q2
   have k6:k<6:=by
    by_cases z:k<6
    ·exact z
    ·rw [if_neg z] at q2; omega
   rw [hk.2.1] at q1
   have:=of_decide_eq_true q1; omega
  rw [hdw.aw.live 0 (by decide) (by omega),hz]; decide
structure Rch (C:Cf) (Q0:Qs) (rd:Int) (Q:Qs):Prop where
 us:Q.us=Q0.us
 lv:Q.lv=Q0.lv
 o:Q.o=Q0.o
 kd:Q.kd=Q0.kd
 k0:Q0.kd 0=0∧Q0.o 0=2∧Q0.o 1=0∧Q0.o 2=0∧Q0.o 3=0∧0<Q0.us 0∧Q0.lv 0=0
 e:Q.e=rd∧0≤rd
 s1:Q.st 1=1
 s2:Q.st 2=0
 s3:Q.st 3=0
 ph:rd=0∧Q.st 0=1∧Q.fd=0∨rd=1∧Q.st 0=3∧Q.sc 0=0∧Q.fd=0∨2≤rd∧Q.st 0=0∧Q.fd=1
theorem Rch.init {w:Int→Int} {b:Bg} (ha:b.aw C w) (hst:∀ j,0≤j→j<4→chS (w (C.chunk j))=if j<2 then 1 else 0) (w2:w 2=2∧w 3=0∧w 4=0∧w 5=0∧w 0=0) (hok:0<chU (w (C.chunk 0))∧IntKind.i64.wrap (w (C.chunk 0+1))=0):Rch C (q0 C w) 0 (q0 C w):=by
 refine ⟨rfl,rfl,rfl,rfl,⟨rfl,w2.1,w2.2.1,w2.2.2.1,w2.2.2.2.1,hok.1,hok.2⟩,⟨w2.2.2.2.2,Int.le_refl 0⟩,?_,?_,?_,.inl ⟨rfl,?_,rfl⟩⟩
 ·exact (hst 1 (by decide) (by decide)).trans (if_pos (by decide))
 ·exact (hst 2 (by decide) (by decide)).trans (if_neg (by decide))
 ·exact (hst 3 (by decide) (by decide)).trans (if_neg (by decide))
 ·exact (hst 0 (by decide) (by decide)).trans (if_pos (by decide))
theorem Rch.may {Q0 Q:Qs} {rd j:Int} (h:Rch C Q0 rd Q) (h4:C.C=4) (j0:0≤j) (j1:j<C.C) (m:mayQ C Q j):j=0∧Q.st 0=1:=by
 obtain ⟨m1,m2,_⟩:=m
 have hk:=h.k0
 have h1:=h.s1; have h2:=h.s2; have h3:=h.s3
 rcases (show j=0∨j=1∨j=2∨j=3 by omega) with rfl | rfl | rfl | rfl
 ·exact ⟨rfl,m1⟩
 ·exact absurd (by rw [h.o]; exact hk.2.1) (m2 0 (by decide) (by decide))
 ·omega
 ·omega
theorem Rch.ok {Q0 Q:Qs} {rd:Int} (h:Rch C Q0 rd Q) (h4:C.C=4):okQ C Q:=fun j j0 j1 m=>by
 rw [(h.may h4 j0 j1 m).1,h.kd]; exact .inl h.k0.1
theorem Rch.next {Q0 Q Qm:Qs} {rd:Int} (h:Rch C Q0 rd Q) (h4:C.C=4) (pk:Pk C Q Qm):Rch C Q0 (rd+1) (Qm.ep.half C.C):=by
 have hk:=h.k0
 have he:=h.e
 have h1:=h.s1; have h2:=h.s2; have h3:=h.s3
 rw [h4]
 have fr4:∀ Q':Qs,((cnt Q'.fr (4:Int).toNat:Nat):Int)=(if Q'.fr 0=true then 1 else 0)+(if Q'.fr 1=true then 1 else 0)+(if Q'.fr 2=true then 1 else 0)+(if Q'.fr 3=true then 1 else 0):=fun Q'=>by
  show ((cnt Q'.fr 4:Nat):Int)=_
  rw [cnt4]; (repeat' split) <;> rfl
 have nfr:∀ (Q':Qs) j,Q'.st j≠3→Q'.fr j=false:=fun Q' j e=>decide_eq_false fun x=>e x.1
 rcases pk with ⟨rfl,e⟩ | ⟨r,⟨r0,r1⟩,m,k,rfl⟩
 ·have n0:Qm.st 0≠1:=fun e1=>by
   have m0:mayQ C Qm 0:=⟨e1,fun k k0 k3=>by
    rw [h.o]
    rcases (show k=0∨k=1∨k=2∨k=3 by omega) with rfl | rfl | rfl | rfl <;> omega,by rw [h.us]; exact hk.2.2.2.2.2.1,.inl (by rw [h.lv]; omega)⟩
   rcases e with e | ⟨r,rb,m,k⟩
   ·exact e 0 (by decide) (by omega) m0
   ·rw [(h.may h4 rb.1 rb.2 m.1).1,h.kd,hk.1] at k; rcases k with k | ⟨k,_⟩ <;> exact absurd k (by decide)
  have f1:=nfr Qm.ep 1 (by show Qm.st 1≠3; omega)
  have f2:=nfr Qm.ep 2 (by show Qm.st 2≠3; omega)
  have f3:=nfr Qm.ep 3 (by show Qm.st 3≠3; omega)
  have st:∀ j,Qm.ep.fr j=false→(Qm.ep.half 4).st j=Qm.st j:=fun j e=>if_neg fun x=>by rw [e] at x; cases x.2
  have efd:(Qm.ep.half 4).fd=Qm.fd+(if Qm.ep.fr 0=true then 1 else 0):=by
   show Qm.fd+((cnt Qm.ep.fr (4:Int).toNat:Nat):Int)=_
   rw [fr4,f1,f2,f3]; simp
  refine ⟨h.us,h.lv,h.o,h.kd,hk,⟨by show Qm.e+1=_; omega,by omega⟩,by rw [st 1 f1]; exact h1,by rw [st 2 f2]; exact h2,by rw [st 3 f3]; exact h3,?_⟩
  rw [efd]
  rcases h.ph with ⟨_,e1,_⟩ | ⟨e1,e2,e3,e4⟩ | ⟨e1,e2,e3⟩
  ·exact absurd e1 n0
  ·have f0:Qm.ep.fr 0=true:=decide_eq_true ⟨e2,by show Qm.sc 0+2≤Qm.e+1; omega⟩
   refine .inr (.inr ⟨by omega,if_pos ⟨by decide,f0⟩,?_⟩)
   rw [if_pos f0]; omega
  ·have f0:=nfr Qm.ep 0 (by show Qm.st 0≠3; omega)
   refine .inr (.inr ⟨by omega,by rw [st 0 f0]; exact e2,?_⟩)
   rw [f0]; simp only [Bool.false_eq_true,if_false]; omega
 ·obtain ⟨rfl,e1⟩:=h.may h4 r0 r1 m
  have sn:∀ j,j≠0→(Q.qu 0).ep.st j=Q.st j:=fun j e=>upd_ne _ _ e
  have s0:(Q.qu 0).ep.st 0=3:=by show upd Q.st 0 3 0=3; exact upd_same _ _ _
  have c0:(Q.qu 0).ep.sc 0=Q.e:=by show upd Q.sc 0 Q.e 0=Q.e; exact upd_same _ _ _
  have f0:(Q.qu 0).ep.fr 0=false:=decide_eq_false fun x=>by
   have x2:(Q.qu 0).ep.sc 0+2≤Q.e+1:=x.2
   omega
  have f1:=nfr (Q.qu 0).ep 1 (by rw [sn 1 (by decide)]; omega)
  have f2:=nfr (Q.qu 0).ep 2 (by rw [sn 2 (by decide)]; omega)
  have f3:=nfr (Q.qu 0).ep 3 (by rw [sn 3 (by decide)]; omega)
  have st:∀ j,(Q.qu 0).ep.fr j=false→((Q.qu 0).ep.half 4).st j=(Q.qu 0).ep.st j:=fun j e=>if_neg fun x=>by rw [e] at x; cases x.2
  have efd:((Q.qu 0).ep.half 4).fd=Q.fd:=by
   show Q.fd+((cnt (Q.qu 0).ep.fr (4:Int).toNat:Nat):Int)=_
   rw [fr4,f0,f1,f2,f3]; simp
  refine ⟨h.us,h.lv,h.o,h.kd,hk,⟨by show Q.e+1=_; omega,by omega⟩,by rw [st 1 f1,sn 1 (by decide)]; exact h1,by rw [st 2 f2,sn 2 (by decide)]; exact h2,by rw [st 3 f3,sn 3 (by decide)]; exact h3,?_⟩
  rw [efd]
  rcases h.ph with ⟨a1,a2,a3⟩ | ⟨_,e2,_⟩ | ⟨_,e2,_⟩
  ·exact .inr (.inl ⟨by omega,by rw [st 0 f0]; exact s0,by show (Q.qu 0).ep.sc 0=0; omega,a3⟩)
  ·omega
  ·omega
theorem c_awakeW (hk:∀ τ,Ext σ τ→K (.bool true) τ):s_bk [] K σ:=by
 simp only [s_bk,w_bk,ruS,ruL,ruE,Nat.reduceAdd,reduceIte,Int.reduceLT,Int.reduceLE,Int.reduceEq,Int.reduceNeg,Int.reduceAdd,Int.reduceSub,Nat.reduceLeDiff,Nat.reduceLT]
 have hC:(cA 1 20 4 20).ok:=cA_ok (by omega) (by omega) (by omega) (by omega)
 refine c_Arena (C:=cA 1 20 4 20) hC rfl rfl rfl fun N A τ hN hF hA hE hfr=>?_
 have hT1:(cA 1 20 4 20).T=1:=rfl
 have hS:(cA 1 20 4 20).S=20:=rfl
 have h4:(cA 1 20 4 20).C=4:=rfl
 have hW:(cA 1 20 4 20).W=20:=rfl
 have hG:(cA 1 20 4 20).G=100:=rfl
 have hP:=(hF.pa hC).mono (show 2*(cA 1 20 4 20).S+2≤200 by decide)
 have dv0:=Dv.new hC hF
 have dw0:=dv0.dw
 have low0:∀ i,lowW (cA 1 20 4 20) i→A.w i=0:=fun i hi=>by
  have hi':i=0∨6≤i∧i<6+1:=hi
  rw [hF.w]
  unfold Cf.w0 Cf.fr
  rw [if_neg (by omega),if_neg (by unfold Cf.slot; omega),if_neg (by unfold Cf.slot; omega)]
 have hln:=len_bd hC
 have hnA:(A.n:Int)≤200000:=by rw [hF.n]; omega
 generalize hCe:cA 1 20 4 20=C at *
 clear hF
 have f2:∀ (x y z u w:Value) (K:Value→Prop),xF (fFldV 2 1 false) [.agg #[x,y,z,u,w]] K=K z:=fun _ _ _ _ _ K=>nr rfl
 simp only [gStoreE,ruS,ruL,ruE,Nat.reduceAdd,reduceIte,Int.reduceLT,Int.reduceLE,Int.reduceEq,Int.reduceNeg,Int.reduceAdd,Int.reduceSub,Nat.reduceLeDiff,Nat.reduceLT]
 refine hBuildS_i [] rfl fun p0 τ0 m0 g0 x0=>?_
 have r0:Rh N σ p0 0 (fun _=>0) τ0:=⟨g0,hA.new m0,hE.none m0⟩
 have a0:Aw7 C 0 (fun _=>⟨0,0,0,false,0,0⟩) (fun _=>false) A.w (Bg.fr C):=⟨dw0,by show upL 0 C.S.toNat=upL 0 20; rw [hS]; rfl,.inl ⟨rfl,rfl,rfl⟩,fun _ _ _=>rfl,low0,fun l l0 l1=>by omega⟩
 refine xLoop_r (fun x ts ls τ=>∃ (k:Nat) (p:Nat) (g:Int→Int) (dd:Int→Do) (li:Int→Bool) (V:Int→Int→Int) (A:Ar) (b:Bg),x=7 - k∧ts=[.slice (some ⟨p,0,none⟩) k 1,.int .i64 k]∧ls=[N.el C 0]∧k≤7∧Dv C k k dd li V A.w b∧Aw7 C k dd li A.w b∧Pa C A (1000+200*k)∧(A.n:Int)≤200000∧isA N A τ∧Ext σ τ∧Rh N σ p k g τ∧∀ l:Int,0≤l→l<k→g l=(dd l).n) ?_ (n:=7)
  ⟨0,p0,_,_,_,_,A,_,rfl,rfl,rfl,by omega,dv0,a0,hP.mono (by omega),hnA,hA.ext x0,hE.trans x0,r0,fun l l0 l1=>by omega⟩
 clear a0 r0 x0 g0 m0 dw0 dv0 low0 hA hE hP hnA
 rintro x ts ls τ1 ⟨k,p,g,dd,li,V,A1,b,rfl,rfl,rfl,k7,hdv,hI,hP1,hn1,hA1,hE1,hr1,hgl⟩ R hR
 simp only [w_law14_awake_l7,w_law14_awake_l7b,ruS,ruL,ruE,Nat.reduceAdd,reduceIte,Int.reduceLT,Int.reduceLE,Int.reduceEq,Int.reduceNeg,Int.reduceAdd,Int.reduceSub,Nat.reduceLeDiff,Nat.reduceLT]
 by_cases ck:(k:Int)<7
 ·simp only [ck,ruS,ruL,ruE,Nat.reduceAdd,reduceIte,Int.reduceLT,Int.reduceLE,Int.reduceEq,Int.reduceNeg,Int.reduceAdd,Int.reduceSub,Nat.reduceLeDiff,Nat.reduceLT]
  have hcl:classOf 2=0:=by decide
  refine c_MakeV hN hC hA1 hP1 (by omega) hdv (by omega) (by rw [hcl]; decide) (fun oE oV oS A' τ2 hf _ _ _ _ _ _=>?_) fun oV oS A' τ2 s F j b' d hF hg hd hdv2 hP2 hn2 hlo hA2 hK2=>?_
  ·exfalso
   rcases hf with ⟨_,q⟩ | ⟨_,_,q⟩
   ·rw [hI.F,show 20 - k=(19 - k)+1 by omega,upL_cons] at q; cases q
   ·rcases hI.st with u | u | u <;> omega
  rw [hcl] at hg hdv2
  have hdw:=hdv2.dw
  have hr2:=hr1.keep hK2
  have hE2:Ext σ τ2:=hE1.keep' hK2 fun y hy=>hfr.all y hy
  simp only [f1,bu1,ruS,ruL,ruE,Nat.reduceAdd,reduceIte,Int.reduceLT,Int.reduceLE,Int.reduceEq,Int.reduceNeg,Int.reduceAdd,Int.reduceSub,Nat.reduceLeDiff,Nat.reduceLT]
  have eg:(fun l:Int=>if l=k then d.n else g l) k=d.n:=if_pos rfl
  rw [← eg]
  refine hr2.add (g':=fun l:Int=>if l=k then d.n else g l) hA2 hE2 (by omega) (fun l l0 l1=>if_neg (by omega)) fun id υ hr3 hA3 hE3 _=>?_
  rw [IntWalk.i64_in ((k:Int)+1) (by omega)]
  refine hR (7 - (k+1)) _ _ _ (by omega) ⟨k+1,id,_,_,_,_,A',_,rfl,by simp,rfl,by omega,hdv2,hI.next hC h4 hW (by omega) hF hg hd.1 hd.2.1 hdw fun i hi=>by rw [hlo i hi]; exact hI.lo i hi,hP2.mono (by omega),by rw [hn2]; exact hn1,hA3,hE3,hr3,fun l l0 l1=>?_⟩
  unfold addD
  by_cases e:l=k
  ·simp [e]
  ·simp only [if_neg e]; exact hgl l l0 (by omega)
 -- six are let go
 have hk7:k=7:=by omega
 subst hk7
 simp only [ck,w_bk_j1,w_bk_j1b,ruS,ruL,ruE,Nat.reduceAdd,reduceIte,Int.reduceLT,Int.reduceLE,Int.reduceEq,Int.reduceNeg,Int.reduceAdd,Int.reduceSub,Nat.reduceLeDiff,Nat.reduceLT]
 have a0:Aw6 C 0 dd li A1.w b:=⟨hI.dw,by rcases hI.st with u | u | u <;> omega,hI.o,hI.lo,fun l l0 l1=>by
  have:=hI.each l l0 l1
  exact ⟨this.1,by rw [this.2.1]; exact (decide_eq_true (by omega)).symm,this.2.2⟩⟩
 refine xLoop_r (fun x ts ls τ=>∃ (m:Nat) (li:Int→Bool) (A:Ar) (b:Bg),x=6 - m∧ts=[.slice (some ⟨p,0,none⟩) 7 1,.int .i64 m]∧ls=[N.el C 0]∧m≤6∧Dv C (7+m) 7 dd li V A.w b∧Aw6 C m dd li A.w b∧Pa C A (5000+200*m)∧(A.n:Int)≤200000∧isA N A τ∧Ext σ τ∧Rh N σ p 7 g τ) ?_ (n:=6)
  ⟨0,li,A1,b,rfl,rfl,rfl,by omega,hdv,a0,hP1.mono (by omega),hn1,hA1,hE1,hr1⟩
 clear a0 hdv hI hP1 hn1 hA1 hE1 hr1 hR ck k7 li A1 b
 rintro x ts ls τ1 ⟨m,li,A1,b,rfl,rfl,rfl,m6,hdv,hI,hP1,hn1,hA1,hE1,hr1⟩ R hR
 simp only [w_law14_awake_l11,w_law14_awake_l11b,ruS,ruL,ruE,Nat.reduceAdd,reduceIte,Int.reduceLT,Int.reduceLE,Int.reduceEq,Int.reduceNeg,Int.reduceAdd,Int.reduceSub,Nat.reduceLeDiff,Nat.reduceLT]
 by_cases cm:(m:Int)<6
 ·have cm7:(m:Int)<((7:Nat):Int):=by omega
  have hem:=hI.each m (by omega) (by omega)
  simp only [cm,xIxS (show 0≤(m:Int) by omega) cm7,Nat.zero_add,ruS,ruL,ruE,Nat.reduceAdd,reduceIte,Int.reduceLT,Int.reduceLE,Int.reduceEq,Int.reduceNeg,Int.reduceAdd,Int.reduceSub,Nat.reduceLeDiff,Nat.reduceLT]
  rw [hr1.ld (by omega) cm7,hgl m (by omega) cm7,← hem.1]
  refine c_DropV hN hC hG hA1 hP1 (by omega) hdv (by omega) (by omega) cm7 (by rw [hem.2.1]; exact decide_eq_true (Int.le_refl _)) fun oH oV oS A' τ2 hdv2 hP2 hn2 hlo hA2 hK2=>?_
  rw [IntWalk.i64_in ((m:Int)+1) (by omega)]
  refine hR (6 - (m+1)) _ _ _ (by omega) ⟨m+1,updB li m false,A',{ b.less (dd m).j (roomOf (classOf (dd m).z)) with F:=(dd m).s :: b.F },rfl,by simp,rfl,by omega,by rw [show (7:Int)+((m+1:Nat):Int)=7+m+1 by omega]; exact hdv2,⟨by rw [show (7:Int)+((m+1:Nat):Int)=7+m+1 by omega]; exact hdv2.dw,hI.st,hI.o,fun i hi=>by rw [hlo i hi]; exact hI.lo i hi,fun l l0 l1=>?_⟩,hP2.mono (by omega),by rw [hn2]; exact hn1,hA2,hE1.keep' hK2 fun y hy=>hfr.all y hy,hr1.keep hK2⟩
  have hel:=hI.each l l0 l1
  refine ⟨hel.1,?_,hel.2.2⟩
  unfold updB
  by_cases e:l=m
  ·rw [if_pos e]; exact (decide_eq_false (by omega)).symm
  ·rw [if_neg e,hel.2.1]
   by_cases z:(m:Int)≤l
   ·rw [decide_eq_true z]; exact (decide_eq_true (by omega)).symm
   ·rw [decide_eq_false z]; exact (decide_eq_false (by omega)).symm
 -- the rounds
 have hm6:m=6:=by omega
 subst hm6
 have hw:=hI.words hC h4 hdv
 obtain ⟨hst,w2,hq0,hok⟩:=hw
 have e0:A1.w 0=0:=hI.lo 0 (.inl rfl)
 have hwi:=hdv.wi hC (by omega) ⟨by omega,by omega⟩ hP1.ok.w e0 (fun i i0 i1=>hI.lo _ (.inr ⟨by omega,by omega⟩)) ⟨hP1.n,by omega⟩
 simp only [cm,w_bk_j2,w_bk_j2b,ruS,ruL,ruE,Nat.reduceAdd,reduceIte,Int.reduceLT,Int.reduceLE,Int.reduceEq,Int.reduceNeg,Int.reduceAdd,Int.reduceSub,Nat.reduceLeDiff,Nat.reduceLT]
 refine c_CoNew hA1 fun q τ2 hq hco x2=>?_
 have hA2:=hA1.ext x2
 have hE2:=hE1.trans x2
 refine c_many hN hC hA2 hP1.n hP1.ok.w ?_
 have n1:cnt (fun j=>decide (chS (A1.w (C.chunk j))=1)) C.C.toNat=2:=by
  rw [h4]
  show cnt _ 4=2
  rw [cnt4,hst 0 (by decide) (by decide),hst 1 (by decide) (by decide),hst 2 (by decide) (by decide),hst 3 (by decide) (by decide)]; decide
 rw [n1]
 simp only [ruS,ruL,ruE,Nat.reduceAdd,reduceIte,Int.reduceLT,Int.reduceLE,Int.reduceEq,Int.reduceNeg,Int.reduceAdd,Int.reduceSub,Nat.reduceLeDiff,Nat.reduceLT]
 have hreach:=Rch.init hI.dw.aw hst w2 hok
 have hpos:=hok
 refine c_roundsWZ hN hC hA2 (fun c A=>∃ Q,Rch C (q0 C A1.w) c.r.rd Q∧Md C (MP.of C A1.w) Q c A.w) (n:=4) (by decide) hco hwi ⟨_,hreach,.look (by decide:(0:Int)≤2) hq0 ⟨fun _ e=>absurd rfl e,fun e=>absurd (show (0:Int)=1 from e) (by decide),fun e=>absurd (show (0:Int)=2 from e) (by decide)⟩ rfl⟩ (by decide) (fun q1 c1 A3 r hw1 hz hrd hm _=>?_) fun q' c' A' O' τ3 hwi' hz' hrd hz hA3 hco' hO' hK3=>?_
 ·obtain ⟨Q,hr,hmd⟩:=hz
  rcases hmd.step (who := -1) hC hw1 (hr.ok h4) hrd r hm with ⟨e,_,h⟩ | ⟨e,_,Qm,pk,h⟩ | ⟨e,Q',hv,h⟩
  ·exact ⟨Q,by rw [e]; exact hr,h⟩
  ·exact ⟨_,by rw [e]; exact hr.next h4 pk,h⟩
  ·obtain ⟨X,_,_,_,_,_,_,_,⟨hX,_⟩,_,_,k,m,_⟩:=hv
   rw [(hr.may h4 hX.1 hX.2 m).1,hr.kd,hr.k0.1] at k; exact absurd k (by decide)
 have hz2:c'.r.pc=0:=by
  rcases hz with q | q
  ·exact absurd q (by decide)
  ·exact q.1
 have hrd':c'.r.rd=4:=hrd
 obtain ⟨Q,hr,hmd⟩:=hz'
 rw [hrd'] at hr
 obtain ⟨qw,hfd⟩:QW C (MP.of C A1.w) Q A'.w∧c'.r.fd=Q.fd:=by
  cases hmd with
  | look _ qw tr f=>exact ⟨qw,f⟩
  | mark hp=>omega
  | walk hp=>omega
  | pend hp=>omega
  | mov hp=>omega
  | note hp=>omega
  | epo _ hp=>omega
  | set _ hp=>omega
 have hend:Q.st 0=0∧Q.fd=1:=by rcases hr.ph with ⟨e,_⟩ | ⟨e,_⟩ | ⟨_,e⟩ <;> omega
 have ck:∀ j,0≤j→j<4→chS (A'.w (C.chunk j))=if j=1 then 1 else 0:=fun j j0 j1=>by
  rw [qw.st j j0 (by omega)]
  rcases (show j=0∨j=1∨j=2∨j=3 by omega) with rfl | rfl | rfl | rfl
  ·rw [hend.1,if_neg (by decide)]
  ·rw [hr.s1,if_pos rfl]
  ·rw [hr.s2,if_neg (by decide)]
  ·rw [hr.s3,if_neg (by decide)]
 have n2:cnt (fun j=>decide (chS (A'.w (C.chunk j))=1)) C.C.toNat=1:=by
  rw [h4]
  show cnt _ 4=1
  rw [cnt4,ck 0 (by decide) (by decide),ck 1 (by decide) (by decide),ck 2 (by decide) (by decide),ck 3 (by decide) (by decide)]; decide
 have n3:cnt (fun j=>decide (chS (A'.w (C.chunk j))=0)) C.C.toNat=3:=by
  rw [h4]
  show cnt _ 4=3
  rw [cnt4,ck 0 (by decide) (by decide),ck 1 (by decide) (by decide),ck 2 (by decide) (by decide),ck 3 (by decide) (by decide)]; decide
 rw [hend.2] at hfd
 simp only [ruS,ruL,ruE,Nat.reduceAdd,reduceIte,Int.reduceLT,Int.reduceLE,Int.reduceEq,Int.reduceNeg,Int.reduceAdd,Int.reduceSub,Nat.reduceLeDiff,Nat.reduceLT]
 refine c_many hN hC hA3 hwi'.nn.1 hwi'.bd ?_
 rw [n2]
 simp only [ruS,ruL,ruE,Nat.reduceAdd,reduceIte,Int.reduceLT,Int.reduceLE,Int.reduceEq,Int.reduceNeg,Int.reduceAdd,Int.reduceSub,Nat.reduceLeDiff,Nat.reduceLT]
 refine c_many hN hC hA3 hwi'.nn.1 hwi'.bd ?_
 rw [n3]
 simp only [c_CoWork hco',f2,hfd,ruS,ruL,ruE,Nat.reduceAdd,reduceIte,Int.reduceLT,Int.reduceLE,Int.reduceEq,Int.reduceNeg,Int.reduceAdd,Int.reduceSub,Nat.reduceLeDiff,Nat.reduceLT]
 refine hk τ3 fun i bl hi=>?_
 have hi2:=hE2 i bl hi
 refine hK3 i bl hi2 fun hm=>?_
 rcases List.mem_append.1 hm with u | u
 ·rw [List.mem_singleton] at u; subst u
  rw [hE1 _ _ hi] at hq; cases hq
 ·rw [hfr.all i u] at hi; cases hi
end Go.Fl
