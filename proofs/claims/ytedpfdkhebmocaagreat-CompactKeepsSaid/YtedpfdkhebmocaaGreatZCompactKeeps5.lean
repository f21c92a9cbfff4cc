/- What the claim leans on, part 5: own readings of the program's functions, what they come to, laws of them. No condition. -/
import Derived.Test.YtedpfdkhebmocaaGreatZCompactKeeps4
namespace Go.Fl
open Go
set_option linter.unusedVariables false
set_option linter.unusedSimpArgs false
variable {C:Cf} {w:Int→Int} {P:MP} {A:Ar} {who:Int}
def no2 (C:Cf) (w:Int→Int):Prop:=∀ j,0≤j→j<C.C→chS (w (C.chunk j))≠2
def evB (cw pos:Int):Int:=530+44*(chU cw - pos) - 44*roomOf (chC cw)
structure Wpos (C:Cf) (cw pos:Int):Prop where
 x:0≤pos∧pos<chU cw
 m:pos % roomOf (chC cw)=0
 c:chC cw≤3
 u:chU cw≤C.W
 um:chU cw % roomOf (chC cw)=0
inductive WC (C:Cf) (P:MP) (T q:Int) (c:Co) (w:Int→Int):Prop where
 | p0 (hp:c.r.pc=0) (ha:c.a=none) (hs:c.s=none) (mw:MW C P (T - q) (-1) (-1) w) (n2:no2 C w) (h0:0≤c.r.at'∧c.r.at'<C.C) (hl:c.r.at'≠0→(c.seen.length:Int)=c.r.at') (hq:2*(C.C - c.r.at')+2310≤q)
 | p1 (hp:c.r.pc=1) (ha:c.a=none) (hs:c.s=none) (mw:MW C P (T - q) (-1) (-1) w) (n2:no2 C w) (h0:0≤c.r.at'∧c.r.at'<C.C) (hl:(c.seen.length:Int)=c.r.at'+1) (hq:2*(C.C - c.r.at')+2309≤q)
 | p2 (hp:c.r.pc=2) (ha:c.a=none) (hs:c.s=none) (mw:MW C P (T - q) (-1) (-1) w) (n2:no2 C w) (h0:0≤c.r.at'∧c.r.at'<4) (hl:(c.seen.length:Int)=C.C) (hq:2310 - c.r.at'≤q)
 | p3 (hp:c.r.pc=3) (ha:c.a=none) (hs:c.s=none) (mw:MW C P (T - q) (-1) (-1) w) (n2:no2 C w) (h0:0≤c.r.at'∧c.r.at'<C.C) (h1:chS c.r.w=1∧0<chU c.r.w) (hw:0≤c.r.w∧c.r.w<18446744073709551616) (hq:2306≤q)
 | p4 (hp:c.r.pc=4) (ha:c.a=none) (hs:c.s=none) (mw:MW C P (T - q) (-1) (-1) w) (ev:Evc C P c.r.at' c.r.pos c.r.w w) (px:Wpos C c.r.w c.r.pos) (hq:530+44*(chU c.r.w - c.r.pos)≤q)
 | p5 (hp:c.r.pc=5) (ha:c.a=none) (hs:c.s=none) (mv:MvI C P (T - evB c.r.w c.r.pos) c.r.at' c.r.pos c.r.w (q - evB c.r.w c.r.pos) c.m w) (h0:0≤c.r.at'∧c.r.at'<C.C) (px:Wpos C c.r.w c.r.pos) (hw:0≤c.r.w∧c.r.w<18446744073709551616) (hq:1+evB c.r.w c.r.pos≤q)
 | p6 (hp:6≤c.r.pc∧c.r.pc≤8) (ha:c.a=none) (hs:c.s=none) (mw:MW C P (T - q) (-1) (-1) w) (ev:Evc C P c.r.at' (chU c.r.w) c.r.w w) (hn:c.r.pc=7→0≤c.r.now∧c.r.now<18446744073709551616) (hq:535 - c.r.pc≤q)
 | p9 (hp:c.r.pc=9) (ha:c.a=none) (hs:c.s=none) (mw:MW C P (T - q) (-1) (-1) w) (ev:Evc C P c.r.at' 0 c.r.w w) (hq:522≤q)
 | p10 (hp:c.r.pc=10) (hs:c.s=none) (mw:MW C P (T - q) (-1) (-1) w) (n2:no2 C w) (ha:∀ v,c.a=some v→v.now=w 0∧(v.pc=1∧(0≤v.at'∧v.at'<C.T)∨v.pc=2∧0≤v.at')) (hq:520 - apA c.a≤q)
 | p11 (hp:c.r.pc=11) (ha:c.a=none) (mw:MW C P (T - q) (-1) (-1) w) (n2:no2 C w) (h0:0≤c.r.at'∧c.r.at'<C.C)
   (hs:∀ v,c.s=some v→v.ch=c.r.at'∧chS (w (C.chunk c.r.at'))=3∧v.w=w (C.chunk c.r.at')∧v.freed=false∧((v.pc=1∨v.pc=2)∧v.at'=0∨v.pc=3∧(0≤v.at'∧v.at'<chU v.w)∨v.pc=4∨v.pc=5)) (hq:50*(C.C - c.r.at') - spS c.s≤q)
structure Nw (t:Int) (c:Co):Prop where
 ev:0≤c.r.ev∧c.r.ev≤t
 lf:0≤c.r.lf∧c.r.lf≤t
 fd:0≤c.r.fd∧c.r.fd≤t
 mo:0≤c.r.mo∧c.r.mo≤t
 il:0≤c.r.idle∧c.r.idle≤c.r.rd
def tW (P:MP) (c:Co):Int:=P.N0+3000*c.r.rd+3000
structure WI (C:Cf) (P:MP) (q:Int) (c:Co) (A:Ar):Prop where
 st:MS C P
 nn:C.len≤A.n∧(A.n:Int)≤200000000
 q3:q≤3000
 wc:WC C P (tW P c) q c A.w
 nm:Nw (tW P c - q) c
theorem Nw.mono {t t':Int} {c:Co} (h:Nw t c) (ht:t≤t'):Nw t' c:=by
 have:=h.ev; have:=h.lf; have:=h.fd; have:=h.mo
 exact ⟨by omega,by omega,by omega,by omega,h.il⟩
def WR (C:Cf) (P:MP) (q:Int) (c:Co) (R:Co × Ar):Prop:=R.1.r.rd=c.r.rd∧WI C P (q - 1) R.1 R.2∨(R.1.r.rd=c.r.rd+1∧R.1.r.pc=0∧R.1.r.at'=0)∧WI C P 3000 R.1 R.2
theorem wpos_room {cw pos:Int} (h:Wpos C cw pos):(3≤roomOf (chC cw)∧roomOf (chC cw)≤17)∧pos+roomOf (chC cw)≤chU cw:=by
 have r:=room_bd (chC_bd cw).1 h.c
 refine ⟨r,?_⟩
 have e:(chU cw - pos) % roomOf (chC cw)=0:=by rw [Int.sub_emod,h.um,h.m]; rfl
 have hx:=h.x
 by_cases g:chU cw - pos<roomOf (chC cw)
 ·rw [Int.emod_eq_of_lt (by omega) g] at e; omega
 ·omega
theorem chw_n {v st:Int}:chN (chw v st)≤chN v+1:=by unfold chw putChunk; unfold chN cl; omega
theorem no2.keep {w':Int→Int} (h:no2 C w) (hk:∀ j,0≤j→j<C.C→w' (C.chunk j)=w (C.chunk j)):no2 C w':=fun j j0 j1=>by rw [hk j j0 j1]; exact h j j0 j1
section
variable {q:Int} {c:Co}
theorem WI.q1 (hC:C.ok) (h:WI C P q c A):1≤q:=by
 have hcc:=h.st.cc
 cases h.wc with
 | p0 hp ha hs mw n2 h0 hl hq=>omega
 | p1 hp ha hs mw n2 h0 hl hq=>omega
 | p2 hp ha hs mw n2 h0 hl hq=>omega
 | p3 hp ha hs mw n2 h0 h1 hw hq=>omega
 | p4 hp ha hs mw ev px hq=>have:=px.x; omega
 | p5 hp ha hs mv h0 px hw hq=>have:=wpos_room px; unfold evB at hq; omega
 | p6 hp ha hs mw ev hn hq=>omega
 | p9 hp ha hs mw ev hq=>omega
 | p10 hp hs mw n2 ha hq=>
  have:apA c.a≤10:=by
   cases e:c.a with
   | none=>decide
   | some v=>
    have:=(ha v e).2
    have hT:=hC.T
    show (if v.pc=1 then 1+v.at' else 10)≤10
    split <;> omega
  omega
 | p11 hp ha mw n2 h0 hs hq=>
  have:spS c.s≤45:=by
   cases e:c.s with
   | none=>decide
   | some v=>
    obtain ⟨_,h3,h4,_,h5⟩:=hs v e
    have:=(mw.ck _ h0.1 h0.2).u
    rw [← h4] at this
    rw [sp0]
    split
    ·omega
    ·split <;> omega
  omega
theorem WI.s0 (hC:C.ok) (h:WI C P q c A) (hp:c.r.pc=0) (r:Int):WR C P q c (c.step C who A r):=by
 have st:c.step C who A r=({ c with seen:=(if c.r.at'=0 then [] else c.seen) ++ [seeS (A.w (C.chunk c.r.at'))],r:={ c.r with pc:=1 } },(A.by who).load (C.chunk c.r.at')):=by unfold Co.step; rw [if_pos hp]
 obtain ⟨hS,nn,q3,wc,nm⟩:=h
 cases wc with
 | p0 _ ha hs mw n2 h0 hl hq=>
  rw [st]
  have hl':((if c.r.at'=0 then [] else c.seen).length:Int)=c.r.at':=by
   by_cases z:c.r.at'=0
   ·rw [if_pos z,z]; rfl
   ·rw [if_neg z]; exact hl z
  refine .inl ⟨rfl,hS,nn,by omega,.p1 rfl ha hs ((mw.mono (by omega):MW C P (tW P c - (q - 1)) (-1) (-1) A.w)) n2 h0 ?_ (by show 2*(C.C - c.r.at')+2309≤q - 1; omega),?_⟩
  ·show ((_ ++ _:List Sn).length:Int)=c.r.at'+1
   rw [List.length_append]; show ((_+1:Nat):Int)=_; omega
  ·have:=nm.mono (t':=tW P c - (q - 1)) (by omega)
   exact ⟨this.ev,this.lf,this.fd,this.mo,this.il⟩
 | p1 hp'=>omega
 | p2 hp'=>omega
 | p3 hp'=>omega
 | p4 hp'=>omega
 | p5 hp'=>omega
 | p6 hp'=>omega
 | p9 hp'=>omega
 | p10 hp'=>omega
 | p11 hp'=>omega
theorem WI.s1 (hC:C.ok) (h:WI C P q c A) (hp:c.r.pc=1) (r:Int):WR C P q c (c.step C who A r):=by
 have st:c.step C who A r=({ c with seen:=liveS c.seen c.r.at'.toNat (IntKind.i64.wrap (A.w (C.chunk c.r.at'+1))),r:={ c.r with at':=if C.C≤c.r.at'+1 then 0 else c.r.at'+1,pc:=if C.C≤c.r.at'+1 then 2 else 0 } },(A.by who).load (C.chunk c.r.at'+1)):=by unfold Co.step; rw [if_neg (by omega),if_pos hp]
 obtain ⟨hS,nn,q3,wc,nm⟩:=h
 cases wc with
 | p1 _ ha hs mw n2 h0 hl hq=>
  rw [st]
  have nm':=nm.mono (t':=tW P c - (q - 1)) (by omega)
  have hC3:=hC.C
  have len:((liveS c.seen c.r.at'.toNat (IntKind.i64.wrap (A.w (C.chunk c.r.at'+1)))).length:Int)=c.r.at'+1:=by rw [liveS_len]; exact hl
  by_cases z:C.C≤c.r.at'+1
  ·simp only [if_pos z]
   exact .inl ⟨rfl,hS,nn,by omega,.p2 rfl ha hs ((mw.mono (by omega):MW C P (tW P c - (q - 1)) (-1) (-1) A.w)) n2 ⟨Int.le_refl 0,(by decide:(0:Int)<4)⟩ (len.trans (by omega)) (by show 2310 - 0≤q - 1; omega),nm'.ev,nm'.lf,nm'.fd,nm'.mo,nm'.il⟩
  ·simp only [if_neg z]
   exact .inl ⟨rfl,hS,nn,by omega,.p0 rfl ha hs ((mw.mono (by omega):MW C P (tW P c - (q - 1)) (-1) (-1) A.w)) n2 ⟨by show 0≤c.r.at'+1; omega,by show c.r.at'+1<C.C; omega⟩ (fun _=>len) (by show 2*(C.C - (c.r.at'+1))+2310≤q - 1; omega),nm'.ev,nm'.lf,nm'.fd,nm'.mo,nm'.il⟩
 | p0 hp'=>omega
 | p2 hp'=>omega
 | p3 hp'=>omega
 | p4 hp'=>omega
 | p5 hp'=>omega
 | p6 hp'=>omega
 | p9 hp'=>omega
 | p10 hp'=>omega
 | p11 hp'=>omega
theorem WI.s2 (hC:C.ok) (h:WI C P q c A) (hp:c.r.pc=2) (r:Int) (hr:c.may C A r):WR C P q c (c.step C who A r):=by
 obtain ⟨hS,nn,q3,wc,nm⟩:=h
 cases wc with
 | p2 _ ha hs mw n2 h0 hl hq=>
  have nm':=nm.mono (t':=tW P c - (q - 1)) (by omega)
  have mw':MW C P (tW P c - (q - 1)) (-1) (-1) A.w:=mw.mono (by omega)
  by_cases c4:c.r.at'+1<4
  ·have st:c.step C who A r=({ c with seen:=opS c.seen (A.w (2+c.r.at')),r:={ c.r with at':=c.r.at'+1 } },(A.by who).load (2+c.r.at')):=by unfold Co.step; rw [if_neg (by omega),if_neg (by omega),if_pos hp,if_pos c4]
   rw [st]
   exact .inl ⟨rfl,hS,nn,by omega,.p2 hp ha hs mw' n2 ⟨by show 0≤c.r.at'+1; omega,c4⟩ (by show ((opS _ _).length:Int)=C.C; rw [opS_len]; exact hl) (by show 2310 - (c.r.at'+1)≤q - 1; omega),nm'.ev,nm'.lf,nm'.fd,nm'.mo,nm'.il⟩
  ·obtain ⟨hch,r0,r1⟩:=hr hp c4
   by_cases rn:r<0
   ·have st:c.step C who A r=({ c with seen:=opS c.seen (A.w (2+c.r.at')),r:={ c.r with at' := -1,pc:=10 } },(A.by who).load (2+c.r.at')):=by unfold Co.step; rw [if_neg (by omega),if_neg (by omega),if_pos hp,if_neg c4,if_pos rn]
    rw [st]
    exact .inl ⟨rfl,hS,nn,by omega,.p10 rfl hs mw' n2 (fun v e=>by rw [show c.a=some v from e] at ha; cases ha) (by show 520 - apA c.a≤q - 1; rw [ha]; show 520 - 0≤q - 1; omega),nm'.ev,nm'.lf,nm'.fd,nm'.mo,nm'.il⟩
   ·obtain ⟨x,hx,hm⟩:∃ x,(opS c.seen (A.w (2+c.r.at')))[r.toNat]?=some x∧x.may C:=by
     rcases hch with ⟨q,_⟩ | ⟨_,q⟩
     ·omega
     ·exact q
    have ew:wordS (opS c.seen (A.w (2+c.r.at'))) r.toNat=putChunk x.st x.cl x.us x.sp:=by unfold wordS; rw [hx]
    have st:c.step C who A r=({ c with seen:=opS c.seen (A.w (2+c.r.at')),r:={ c.r with at':=r,pc:=3,w:=putChunk x.st x.cl x.us x.sp } },(A.by who).load (2+c.r.at')):=by unfold Co.step; rw [if_neg (by omega),if_neg (by omega),if_pos hp,if_neg c4,if_neg rn,ew]
    rw [st]
    have h1:=hm.1
    have h2:=hm.2.2.1
    refine .inl ⟨rfl,hS,nn,by omega,.p3 rfl ha hs mw' n2 ⟨by show 0≤r; omega,r1⟩ ⟨?_,?_⟩ (putChunk_in _ _ _ _) (by omega),nm'.ev,nm'.lf,nm'.fd,nm'.mo,nm'.il⟩
    ·show chS (putChunk x.st x.cl x.us x.sp)=1
     rw [h1]; unfold putChunk chS cl; omega
    ·show 0<chU (putChunk x.st x.cl x.us x.sp)
     unfold putChunk chU cl; omega
 | p0 hp'=>omega
 | p1 hp'=>omega
 | p3 hp'=>omega
 | p4 hp'=>omega
 | p5 hp'=>omega
 | p6 hp'=>omega
 | p9 hp'=>omega
 | p10 hp'=>omega
 | p11 hp'=>omega
theorem WI.s3 (hC:C.ok) (h:WI C P q c A) (hp:c.r.pc=3) (hrd:c.r.rd≤1300) (r:Int):WR C P q c (c.step C who A r):=by
 obtain ⟨hS,nn,q3,wc,nm⟩:=h
 have hn0:=hS.n0
 have hT4:tW P c≤4194000:=by unfold tW; omega
 cases wc with
 | p3 _ ha hs mw n2 h0 h1 hw hq=>
  have nm':=nm.mono (t':=tW P c - (q - 1)) (by omega)
  have hcc:=hS.cc
  have st0:c.step C who A r=({ c with r:={ c.r with pos:=0,pc:=if A.w (C.chunk c.r.at')=c.r.w then 4 else 10,w:=if A.w (C.chunk c.r.at')=c.r.w then chw c.r.w 2 else c.r.w } },(A.by who).cas (C.chunk c.r.at') c.r.w (chw c.r.w 2)):=by
   unfold Co.step; rw [if_neg (by omega),if_neg (by omega),if_neg (by omega),if_pos hp]
  by_cases e:A.w (C.chunk c.r.at')=c.r.w
  ·rw [if_pos e,if_pos e,cas_yes (show (A.by who).w _=_ from e)] at st0
   rw [st0]
   obtain ⟨v1,v2,v3,v4⟩:=chw_put (w:=c.r.w) (st:=2) (by decide)
   have kk:=mw.ck _ h0.1 h0.2
   rw [e] at kk
   have kn:=chw_n (v:=c.r.w) (st:=2)
   have kn2:=kk.n
   have hmw:MW C P (tW P c - (q - 1)) (-1) (-1) (upd A.w (C.chunk c.r.at') (chw c.r.w 2)):=by
    refine mw.chunk hC hS (by omega) h0.1 h0.2 v4 ⟨by rw [v2]; exact kk.c,by rw [v3]; exact kk.u,by rw [v3,v2]; exact kk.m,by omega,fun _=>by rw [v3]; exact h1.2⟩ (.inl rfl) (fun _ x x0 x1 xm hne=>?_) (fun s a x s0 s1 l _ _ p=>⟨.inr v1,by rw [v2,e],by rw [v3,e]; exact Int.le_refl _⟩) (by omega)
    rw [v3] at x1; rw [v2] at xm
    exact mw.hd _ x h0.1 h0.2 (.inl (by rw [e]; exact h1.1)) x0 (by rw [e]; exact x1) (by rw [e]; exact xm) hne
   refine .inl ⟨rfl,hS,nn,by omega,.p4 rfl ha hs hmw ⟨h0,upd_same _ _ _,v1,fun j j0 j1 g=>?_,fun _ _ _ _ x x0 x1=>(by have x1':x<0:=x1; omega)⟩ ⟨⟨Int.le_refl 0,by show 0<chU (chw c.r.w 2); rw [v3]; exact h1.2⟩,Int.zero_emod _,by show chC (chw c.r.w 2)≤3; rw [v2]; exact kk.c,by show chU (chw c.r.w 2)≤C.W; rw [v3]; exact kk.u,by show chU (chw c.r.w 2) % roomOf (chC (chw c.r.w 2))=0; rw [v3,v2]; exact kk.m⟩ ?_,nm'.ev,nm'.lf,nm'.fd,nm'.mo,nm'.il⟩
   ·by_cases ej:j=c.r.at'
    ·exact ej
    ·have g':chS (upd A.w (C.chunk c.r.at') (chw c.r.w 2) (C.chunk j))=2:=g
     rw [upd_ne _ _ (ck_ne ej).1] at g'
     exact absurd g' (n2 j j0 j1)
   ·show 530+44*(chU (chw c.r.w 2) - 0)≤q - 1
    have:=kk.u
    rw [v3]; omega
  ·rw [if_neg e,if_neg e,cas_no (show (A.by who).w _≠_ from e)] at st0
   rw [st0]
   exact .inl ⟨rfl,hS,nn,by omega,.p10 rfl hs ((mw.mono (by omega):MW C P (tW P c - (q - 1)) (-1) (-1) A.w)) n2 (fun v e=>by rw [show c.a=some v from e] at ha; cases ha) (by show 520 - apA c.a≤q - 1; rw [ha]; show 520 - 0≤q - 1; omega),nm'.ev,nm'.lf,nm'.fd,nm'.mo,nm'.il⟩
 | p0 hp'=>omega
 | p1 hp'=>omega
 | p2 hp'=>omega
 | p4 hp'=>omega
 | p5 hp'=>omega
 | p6 hp'=>omega
 | p9 hp'=>omega
 | p10 hp'=>omega
 | p11 hp'=>omega
end
end Go.Fl
namespace Go.Fl
open Go
set_option linter.unusedVariables false
set_option linter.unusedSimpArgs false
variable {C:Cf} {w:Int→Int} {P:MP} {A:Ar} {who:Int}
section
variable {q:Int} {c:Co}
theorem Evc.on (hC:C.ok) (hS:MS C P) {t at' pos cw:Int} (h:Evc C P at' pos cw w) (mw:MW C P t (-1) (-1) w) (ht:t≤4194303) (px:Wpos C cw pos) (g:gone' C P (C.base at'+pos) w):Evc C P at' (pos+roomOf (chC cw)) cw w:=by
 refine ⟨h.ab,h.ecw,h.c2,h.s2,fun r r0 r1 l x x0 x1 e=>?_⟩
 by_cases lt:x<pos
 ·exact h.ev r r0 r1 l x x0 lt e
 have pr:=wpos_room px
 have pu:=px.u
 obtain ⟨_,v,o⟩:=mw.at' hC hS ht r0 r1 l (by omega) e
 obtain ⟨j,y,p⟩:=o.pl
 have py:=p.xb
 have pk:=(mw.ck j p.jb.1 p.jb.2).u
 have rr:=hS.rm r0 r1 l
 obtain ⟨e1,e2⟩:=base_inj hC h.ab.1 h.ab.2 x0 (by omega) p.jb.1 p.jb.2 py.1 (by omega) p.ea
 subst e1; subst e2
 have pc:=p.c
 rw [h.ecw] at pc
 have hm:=p.m
 unfold MP.rm at hm
 rw [← pc] at hm
 have e3:(x - pos) % roomOf (chC cw)=0:=by rw [Int.sub_emod,hm,px.m]; rfl
 rw [Int.emod_eq_of_lt (by omega) (by omega)] at e3
 have e4:x=pos:=by omega
 rw [e4] at e
 exact g r r0 r1 l e
theorem Evc.le {at' lim lim' cw:Int} (h:Evc C P at' lim cw w) (hl:lim'≤lim):Evc C P at' lim' cw w:=⟨h.ab,h.ecw,h.c2,h.s2,fun r r0 r1 l x x0 x1=>h.ev r r0 r1 l x x0 (by omega)⟩
theorem WI.on (hC:C.ok) (hS:MS C P) (nn:C.len≤A.n∧(A.n:Int)≤200000000) (q3:q≤3000) (ha:c.a=none) (hs:c.s=none) (hT4:tW P c≤4194000) {mo':Int} {m':Mv} (mw:MW C P (tW P c - (q - 1)) (-1) (-1) A.w) (ev:Evc C P c.r.at' c.r.pos c.r.w A.w) (px:Wpos C c.r.w c.r.pos)
  (g:gone' C P (C.base c.r.at'+c.r.pos) A.w) (hq:evB c.r.w c.r.pos+1≤q) (nm:Nw (tW P c - (q - 1)) c) (hmo:0≤mo'∧mo'≤tW P c - (q - 1)):WR C P q c ({ c with r:=({ c.r with mo:=mo' }:Cr).next (chC c.r.w) (chU c.r.w),m:=m' },A):=by
 have pr:=wpos_room px
 have px2:=px.x
 unfold evB at hq
 have ev2:=ev.on hC hS mw (by omega) px g
 refine .inl ⟨rfl,hS,nn,by omega,?_,nm.ev,nm.lf,nm.fd,hmo,nm.il⟩
 by_cases z:chU c.r.w≤c.r.pos+roomOf (chC c.r.w)
 ·have e6:(if chU c.r.w≤c.r.pos+roomOf (chC c.r.w) then (6:Int) else 4)=6:=if_pos z
  refine .p6 ⟨?_,?_⟩ ha hs mw (ev2.le z) (fun e=>?_) ?_
  ·show 6≤(if chU c.r.w≤c.r.pos+roomOf (chC c.r.w) then (6:Int) else 4); omega
  ·show (if chU c.r.w≤c.r.pos+roomOf (chC c.r.w) then (6:Int) else 4)≤8; omega
  ·have e':(if chU c.r.w≤c.r.pos+roomOf (chC c.r.w) then (6:Int) else 4)=7:=e
   omega
  ·show 535 - (if chU c.r.w≤c.r.pos+roomOf (chC c.r.w) then (6:Int) else 4)≤q - 1; omega
 ·have e4:(if chU c.r.w≤c.r.pos+roomOf (chC c.r.w) then (6:Int) else 4)=4:=if_neg z
  refine .p4 e4 ha hs mw ev2 ⟨⟨?_,?_⟩,?_,px.c,px.u,px.um⟩ ?_
  ·show 0≤c.r.pos+roomOf (chC c.r.w); omega
  ·show c.r.pos+roomOf (chC c.r.w)<chU c.r.w; omega
  ·show (c.r.pos+roomOf (chC c.r.w)) % roomOf (chC c.r.w)=0; rw [Int.add_emod_right]; exact px.m
  ·show 530+44*(chU c.r.w - (c.r.pos+roomOf (chC c.r.w)))≤q - 1; omega
theorem WI.s4 (hC:C.ok) (h:WI C P q c A) (hp:c.r.pc=4) (hrd:c.r.rd≤1300) (r:Int):WR C P q c (c.step C who A r):=by
 obtain ⟨hS,nn,q3,wc,nm⟩:=h
 have hn0:=hS.n0
 have hT4:tW P c≤4194000:=by unfold tW; omega
 cases wc with
 | p4 _ ha hs mw ev px hq=>
  have nm':=nm.mono (t':=tW P c - (q - 1)) (by omega)
  have mw':MW C P (tW P c - (q - 1)) (-1) (-1) A.w:=mw.mono (by omega)
  have pr:=wpos_room px
  have px2:=px.x
  have pk:=hS.pk
  have hu:=px.u
  have hc1:chS (A.w (C.chunk c.r.at'))=2:=by rw [ev.ecw]; exact ev.c2
  have bge:=base_ge hC ev.ab.1 ev.ab.2 px2.1
  have hT:=hC.T; have hSS:=hC.S; have hCC:=hC.C; have hcc:=hS.cc
  have hd:=mw.hd _ c.r.pos ev.ab.1 ev.ab.2 (.inr hc1) px2.1 (by rw [ev.ecw]; exact px2.2) (by rw [ev.ecw]; exact px.m) (by omega)
  by_cases k3:hdK (A.w (C.base c.r.at'+c.r.pos))=3
  ·have st:c.step C who A r=({ c with r:=c.r.next (chC c.r.w) (chU c.r.w) },(A.by who).load (C.base c.r.at'+c.r.pos)):=by
    unfold Co.step; rw [if_neg (by omega),if_neg (by omega),if_neg (by omega),if_neg (by omega),if_pos hp,if_pos k3]
   rw [st]
   refine WI.on (A:=(A.by who).load (C.base c.r.at'+c.r.pos)) (m':=c.m) (mo':=c.r.mo) hC hS nn q3 ha hs hT4 mw' ev px (fun s s0 s1 l e=>?_) (by unfold evB; omega) nm' nm'.mo
   have:=(mw.at' hC hS (by omega) s0 s1 l (by omega) e).1.1
   rw [k3] at this
   split at this <;> omega
  ·by_cases k2:hdK (A.w (C.base c.r.at'+c.r.pos))=2
   ·have st:c.step C who A r=({ c with r:={ c.r with pc:=5 },m:=Mv.new (C.base c.r.at'+c.r.pos) (hdK (A.w (C.base c.r.at'+c.r.pos))) (hdS (A.w (C.base c.r.at'+c.r.pos))) (hdT (A.w (C.base c.r.at'+c.r.pos))) (hdG (A.w (C.base c.r.at'+c.r.pos))) (hdO (A.w (C.base c.r.at'+c.r.pos))) },(A.by who).load (C.base c.r.at'+c.r.pos)):=by
     unfold Co.step; rw [if_neg (by omega),if_neg (by omega),if_neg (by omega),if_neg (by omega),if_pos hp,if_neg k3,if_pos k2]
    rw [st]
    obtain ⟨t0,c0⟩:(0≤hdT (A.w (C.base c.r.at'+c.r.pos))∧hdT (A.w (C.base c.r.at'+c.r.pos))<C.S)∧0≤classOf (hdS (A.w (C.base c.r.at'+c.r.pos))):=by
     rcases hd with e | ⟨_,e1,e2⟩ | ⟨_,e⟩
     ·exact absurd e k3
     ·exact ⟨e1,e2⟩
     ·omega
    have hz:=(class_room' c0).1
    have cwb:0≤c.r.w∧c.r.w<18446744073709551616:=by rw [← ev.ecw]; exact mw.bd _
    have eB:tW P c - evB c.r.w c.r.pos - (q - 1 - evB c.r.w c.r.pos)=tW P c - (q - 1):=by omega
    refine .inl ⟨rfl,hS,nn,by omega,.p5 rfl ha hs (.a ⟨rfl,k2,t0,c0,?_,ev,⟨px2.1,by show c.r.pos<C.W; omega⟩,?_⟩) ev.ab px cwb ?_,nm'.ev,nm'.lf,nm'.fd,nm'.mo,nm'.il⟩
    ·show MW C P (tW P c - evB c.r.w c.r.pos - (q - 1 - evB c.r.w c.r.pos)) (-1) (-1) A.w
     rw [eB]; exact mw'
    ·show 17+C.C+3*hdS (A.w (C.base c.r.at'+c.r.pos))≤q - 1 - evB c.r.w c.r.pos
     unfold evB; omega
    ·show 1+evB c.r.w c.r.pos≤q - 1
     unfold evB; omega
   ·have st:c.step C who A r=({ c with r:={ c.r with pc:=9 } },(A.by who).load (C.base c.r.at'+c.r.pos)):=by
     unfold Co.step; rw [if_neg (by omega),if_neg (by omega),if_neg (by omega),if_neg (by omega),if_pos hp,if_neg k3,if_neg k2]
    rw [st]
    exact .inl ⟨rfl,hS,nn,by omega,.p9 rfl ha hs mw' (ev.le px2.1) (by omega),nm'.ev,nm'.lf,nm'.fd,nm'.mo,nm'.il⟩
 | p0 hp'=>omega
 | p1 hp'=>omega
 | p2 hp'=>omega
 | p3 hp'=>omega
 | p5 hp'=>omega
 | p6 hp'=>omega
 | p9 hp'=>omega
 | p10 hp'=>omega
 | p11 hp'=>omega
theorem WI.s5 (hC:C.ok) (h:WI C P q c A) (hp:c.r.pc=5) (hrd:c.r.rd≤1300) (r:Int):WR C P q c (c.step C who A r):=by
 obtain ⟨hS,nn,q3,wc,nm⟩:=h
 have hn0:=hS.n0
 have hT4:tW P c≤4194000:=by unfold tW; omega
 cases wc with
 | p5 _ ha hs mv h0 px hw hq=>
  have nm':=nm.mono (t':=tW P c - (q - 1)) (by omega)
  have pr:=wpos_room px
  have hB:0≤evB c.r.w c.r.pos:=by unfold evB; omega
  have st:c.step C who A r=({ c with r:=c.r.moved (c.m.step C who A).1 (c.m.step C who A).2.1.a.out,m:=(c.m.step C who A).2.1 },(c.m.step C who A).2.2):=by
   unfold Co.step; rw [if_neg (by omega),if_neg (by omega),if_neg (by omega),if_neg (by omega),if_neg (by omega),if_pos hp]
  have en:(c.m.step C who A).2.2.n=A.n:=MvI.n c.m
  have nn':C.len≤(c.m.step C who A).2.2.n∧((c.m.step C who A).2.2.n:Int)≤200000000:=by rw [en]; exact nn
  rw [st]
  rcases mv.step (who:=who) hC hS (by omega) (by omega) with ⟨b,hm⟩ | ⟨b,hm⟩
  ·rw [b]
   have eq1:q - evB c.r.w c.r.pos - 1=q - 1 - evB c.r.w c.r.pos:=by omega
   rw [eq1] at hm
   have h2:1+evB c.r.w c.r.pos≤q - 1:=by
    by_cases z:q - 1 - evB c.r.w c.r.pos=0
    ·exfalso
     rw [z] at hm
     cases hm with
     | a h=>have:=h.qb; have:=(class_room' h.c).1; have:=hC.C; omega
     | b s v k u hc h=>have:=h.kb; have:=h.pl.kle hC; have:=hS.rm hc.sb.1 hc.sb.2 hc.l; omega
     | c s v xs hc h=>
      have:=hS.rm hc.sb.1 hc.sb.2 hc.l
      rcases h.ph with ⟨h',_,_,h1⟩ | ⟨_,_,⟨_,_,⟨_,_,_,h1⟩ | ⟨_,_,_,_,h1⟩ | ⟨_,_,_,_,h1⟩ | ⟨_,_,h1⟩⟩ | ⟨_,_,_,h1⟩⟩ | ⟨h',_,_,h1⟩
      ·rcases h' with e | ⟨e,_⟩ <;> omega
      all_goals omega
    ·omega
   exact .inl ⟨rfl,hS,nn',by omega,.p5 hp ha hs hm h0 px hw h2,nm'.ev,nm'.lf,nm'.fd,nm'.mo,nm'.il⟩
  ·rw [b]
   obtain ⟨ho,mw,ev,g⟩:=hm
   have et:tW P c - evB c.r.w c.r.pos - (q - evB c.r.w c.r.pos - 1)=tW P c - (q - 1):=by omega
   rw [et] at mw
   have nmo:=nm.mo
   unfold Cr.moved
   rw [if_neg (by simp)]
   rcases ho with o | o | o
   ·rw [o,if_pos rfl]
    exact WI.on (A:=(c.m.step C who A).2.2) (m':=(c.m.step C who A).2.1) (mo':=c.r.mo+1) hC hS nn' q3 ha hs hT4 mw ev px (g (by omega)) (by omega) nm' (by omega)
   ·rw [o,if_neg (by decide),if_pos rfl]
    exact WI.on (A:=(c.m.step C who A).2.2) (m':=(c.m.step C who A).2.1) (mo':=c.r.mo) hC hS nn' q3 ha hs hT4 mw ev px (g (by omega)) (by omega) nm' (by omega)
   ·rw [o,if_neg (by decide),if_neg (by decide)]
    exact .inl ⟨rfl,hS,nn',by omega,.p9 rfl ha hs mw (ev.le px.x.1) (by unfold evB at hq; omega),nm'.ev,nm'.lf,nm'.fd,nm'.mo,nm'.il⟩
 | p0 hp'=>omega
 | p1 hp'=>omega
 | p2 hp'=>omega
 | p3 hp'=>omega
 | p4 hp'=>omega
 | p6 hp'=>omega
 | p9 hp'=>omega
 | p10 hp'=>omega
 | p11 hp'=>omega
end
end Go.Fl
namespace Go.Fl
open Go
set_option linter.unusedVariables false
set_option linter.unusedSimpArgs false
variable {N:Nm} {σ:Mem} {K:Value→Mem→Prop} {C:Cf} {w:Int→Int} {P:MP} {A:Ar} {who:Int}
section
variable {q:Int} {c:Co}
theorem step10w (hp:c.r.pc=10) (r:Int):c.step C who A r=if ((c.a.getD Adv.new).step C who A).1=true then ({ c with a:=none,r:={ c.r with at':=0,pc:=11 } },((c.a.getD Adv.new).step C who A).2.2)
  else ({ c with a:=some ((c.a.getD Adv.new).step C who A).2.1 },((c.a.getD Adv.new).step C who A).2.2):=by
 unfold Co.step; rw [if_neg (by omega),if_neg (by omega),if_neg (by omega),if_neg (by omega),if_neg (by omega),if_neg (by omega),if_neg (by omega),if_neg (by omega),if_neg (by omega),if_neg (by omega),if_pos hp]
theorem step11w (hp:c.r.pc=11) (r:Int):c.step C who A r=if ((c.s.getD (Stl.new c.r.at')).step C who A).1=true then ({ c with s:=none,r:=c.r.settled C ((c.s.getD (Stl.new c.r.at')).step C who A).2.1.freed },((c.s.getD (Stl.new c.r.at')).step C who A).2.2)
  else ({ c with s:=some ((c.s.getD (Stl.new c.r.at')).step C who A).2.1 },((c.s.getD (Stl.new c.r.at')).step C who A).2.2):=by
 unfold Co.step; rw [if_neg (by omega),if_neg (by omega),if_neg (by omega),if_neg (by omega),if_neg (by omega),if_neg (by omega),if_neg (by omega),if_neg (by omega),if_neg (by omega),if_neg (by omega),if_neg (by omega)]
theorem WI.s6 (hC:C.ok) (h:WI C P q c A) (hp:6≤c.r.pc∧c.r.pc≤8) (hrd:c.r.rd≤1300) (r:Int):WR C P q c (c.step C who A r):=by
 obtain ⟨hS,nn,q3,wc,nm⟩:=h
 have hn0:=hS.n0
 have hT4:tW P c≤4194000:=by unfold tW; omega
 cases wc with
 | p6 _ ha hs mw ev hn hq=>
  have nm':=nm.mono (t':=tW P c - (q - 1)) (by omega)
  have mw':MW C P (tW P c - (q - 1)) (-1) (-1) A.w:=mw.mono (by omega)
  have nev:=nm.ev
  rcases (show c.r.pc=6∨c.r.pc=7∨c.r.pc=8 by omega) with e | e | e
  ·have st:c.step C who A r=({ c with r:={ c.r with now:=A.w 0,pc:=7 } },(A.by who).load 0):=by
    unfold Co.step; rw [if_neg (by omega),if_neg (by omega),if_neg (by omega),if_neg (by omega),if_neg (by omega),if_neg (by omega),if_pos e]
   rw [st]
   exact .inl ⟨rfl,hS,nn,by omega,.p6 ⟨(by decide:(6:Int)≤7),(by decide:(7:Int)≤8)⟩ ha hs mw' ev (fun _=>mw.bd 0) (by show 535 - 7≤q - 1; omega),nm'.ev,nm'.lf,nm'.fd,nm'.mo,nm'.il⟩
  ·have st:c.step C who A r=({ c with r:={ c.r with pc:=8 } },(A.by who).store (C.chunk c.r.at'+2) c.r.now):=by
    unfold Co.step; rw [if_neg (by omega),if_neg (by omega),if_neg (by omega),if_neg (by omega),if_neg (by omega),if_neg (by omega),if_neg (by omega),if_pos e]
   rw [st]
   have hmw:MW C P (tW P c - (q - 1)) (-1) (-1) (upd A.w (C.chunk c.r.at'+2) c.r.now):=mw.low hC hS (by omega) (hn e) (.inr (.inl ⟨_,ev.ab.1,ev.ab.2,.inr rfl⟩))
   refine .inl ⟨rfl,hS,nn,by omega,.p6 ⟨(by decide:(6:Int)≤8),(by decide:(8:Int)≤8)⟩ ha hs hmw ?_ (fun q=>absurd (show (8:Int)=7 from q) (by decide)) (by show 535 - 8≤q - 1; omega),nm'.ev,nm'.lf,nm'.fd,nm'.mo,nm'.il⟩
   have hSS:=hC.S
   exact ev.keep (fun j j0 j1=>.inl (upd_ne _ _ (by unfold Cf.chunk; omega))) fun s s0 s1=>.inl (upd_ne _ _ (by have:=ev.ab; unfold Cf.chunk Cf.slot; omega))
  ·have st:c.step C who A r=({ c with r:={ c.r with ev:=c.r.ev+1,pc:=10 } },(A.by who).store (C.chunk c.r.at') (chw c.r.w 3)):=by
    unfold Co.step; rw [if_neg (by omega),if_neg (by omega),if_neg (by omega),if_neg (by omega),if_neg (by omega),if_neg (by omega),if_neg (by omega),if_neg (by omega),if_pos e]
   rw [st]
   obtain ⟨v1,v2,v3,v4⟩:=chw_put (w:=c.r.w) (st:=3) (by decide)
   have kk:=mw.ck _ ev.ab.1 ev.ab.2
   rw [ev.ecw] at kk
   have kn:=chw_n (v:=c.r.w) (st:=3)
   have kn2:=kk.n
   have hmw:MW C P (tW P c - (q - 1)) (-1) (-1) (upd A.w (C.chunk c.r.at') (chw c.r.w 3)):=by
    refine mw.chunk hC hS (by omega) ev.ab.1 ev.ab.2 v4 ⟨by rw [v2]; exact kk.c,by rw [v3]; exact kk.u,by rw [v3,v2]; exact kk.m,by omega,fun _=>by rw [v3]; exact kk.p (by rw [ev.c2]; decide)⟩ (.inl rfl) (fun g=>by rw [v1] at g; omega) (fun s a x s0 s1 l _ e p=>?_) (by omega)
    have px:=p.xb
    rw [ev.ecw] at px
    have rr:=hS.rm s0 s1 l
    exact absurd (e.trans p.ea) (ev.ev s s0 s1 l x px.1 (by omega))
   refine .inl ⟨rfl,hS,nn,by omega,.p10 rfl hs hmw (fun j j0 j1 g=>?_) (fun v e=>by rw [show c.a=some v from e] at ha; cases ha) (by show 520 - apA c.a≤q - 1; rw [ha]; show 520 - 0≤q - 1; omega),by show 0≤c.r.ev+1∧c.r.ev+1≤tW P c - (q - 1); omega,nm'.lf,nm'.fd,nm'.mo,nm'.il⟩
   have g':chS (upd A.w (C.chunk c.r.at') (chw c.r.w 3) (C.chunk j))=2:=g
   by_cases ej:j=c.r.at'
   ·rw [ej,upd_same,v1] at g'; exact absurd g' (by decide)
   ·rw [upd_ne _ _ (ck_ne ej).1] at g'; exact ej (ev.s2 j j0 j1 g')
 | p0 hp'=>omega
 | p1 hp'=>omega
 | p2 hp'=>omega
 | p3 hp'=>omega
 | p4 hp'=>omega
 | p5 hp'=>omega
 | p9 hp'=>omega
 | p10 hp'=>omega
 | p11 hp'=>omega
theorem WI.s9 (hC:C.ok) (h:WI C P q c A) (hp:c.r.pc=9) (hrd:c.r.rd≤1300) (r:Int):WR C P q c (c.step C who A r):=by
 obtain ⟨hS,nn,q3,wc,nm⟩:=h
 have hn0:=hS.n0
 have hT4:tW P c≤4194000:=by unfold tW; omega
 cases wc with
 | p9 _ ha hs mw ev hq=>
  have nm':=nm.mono (t':=tW P c - (q - 1)) (by omega)
  have nlf:=nm.lf
  have st:c.step C who A r=({ c with r:={ c.r with lf:=c.r.lf+1,pc:=10 } },(A.by who).store (C.chunk c.r.at') (chw c.r.w 1)):=by
   unfold Co.step; rw [if_neg (by omega),if_neg (by omega),if_neg (by omega),if_neg (by omega),if_neg (by omega),if_neg (by omega),if_neg (by omega),if_neg (by omega),if_neg (by omega),if_pos hp]
  rw [st]
  obtain ⟨v1,v2,v3,v4⟩:=chw_put (w:=c.r.w) (st:=1) (by decide)
  have kk:=mw.ck _ ev.ab.1 ev.ab.2
  rw [ev.ecw] at kk
  have kn:=chw_n (v:=c.r.w) (st:=1)
  have kn2:=kk.n
  have hmw:MW C P (tW P c - (q - 1)) (-1) (-1) (upd A.w (C.chunk c.r.at') (chw c.r.w 1)):=by
   refine mw.chunk hC hS (by omega) ev.ab.1 ev.ab.2 v4 ⟨by rw [v2]; exact kk.c,by rw [v3]; exact kk.u,by rw [v3,v2]; exact kk.m,by omega,fun g=>by rw [v1] at g; omega⟩ (.inl rfl) (fun _ x x0 x1 xm hne=>?_) (fun s a x s0 s1 l _ _ p=>⟨.inl v1,by rw [v2,ev.ecw],by rw [v3,ev.ecw]; exact Int.le_refl _⟩) (by omega)
   rw [v3] at x1; rw [v2] at xm
   exact mw.hd _ x ev.ab.1 ev.ab.2 (.inr (by rw [ev.ecw]; exact ev.c2)) x0 (by rw [ev.ecw]; exact x1) (by rw [ev.ecw]; exact xm) hne
  refine .inl ⟨rfl,hS,nn,by omega,.p10 rfl hs hmw (fun j j0 j1 g=>?_) (fun v e=>by rw [show c.a=some v from e] at ha; cases ha) (by show 520 - apA c.a≤q - 1; rw [ha]; show 520 - 0≤q - 1; omega),nm'.ev,by show 0≤c.r.lf+1∧c.r.lf+1≤tW P c - (q - 1); omega,nm'.fd,nm'.mo,nm'.il⟩
  have g':chS (upd A.w (C.chunk c.r.at') (chw c.r.w 1) (C.chunk j))=2:=g
  by_cases ej:j=c.r.at'
  ·rw [ej,upd_same,v1] at g'; exact absurd g' (by decide)
  ·rw [upd_ne _ _ (ck_ne ej).1] at g'; exact ej (ev.s2 j j0 j1 g')
 | p0 hp'=>omega
 | p1 hp'=>omega
 | p2 hp'=>omega
 | p3 hp'=>omega
 | p4 hp'=>omega
 | p5 hp'=>omega
 | p6 hp'=>omega
 | p10 hp'=>omega
 | p11 hp'=>omega
theorem WI.s10 (hC:C.ok) (h:WI C P q c A) (hp:c.r.pc=10) (hrd:c.r.rd≤1300) (r:Int):WR C P q c (c.step C who A r):=by
 obtain ⟨hS,nn,q3,wc,nm⟩:=h
 have hn0:=hS.n0
 have hT4:tW P c≤4194000:=by unfold tW; omega
 cases wc with
 | p10 _ hs mw n2 ha hq=>
  have nm':=nm.mono (t':=tW P c - (q - 1)) (by omega)
  have mw':MW C P (tW P c - (q - 1)) (-1) (-1) A.w:=mw.mono (by omega)
  have hT:=hC.T; have hC3:=hC.C; have hcc:=hS.cc
  have ep:=mw.ep
  have e0:=(mw.bd 0).1
  have a10:apA c.a≤10:=by
   cases e:c.a with
   | none=>decide
   | some v=>
    have:=(ha v e).2
    show (if v.pc=1 then 1+v.at' else 10)≤10
    split <;> omega
  have fin:∀ A':Ar,A'.n=A.n→MW C P (tW P c - (q - 1)) (-1) (-1) A'.w→no2 C A'.w→WR C P q c ({ c with a:=none,r:={ c.r with at':=0,pc:=11 } },A'):=fun A' en hm h2=>
   .inl ⟨rfl,hS,by rw [en]; exact nn,by omega,.p11 rfl rfl hm h2 ⟨Int.le_refl 0,by show (0:Int)<C.C; omega⟩ (fun v e=>by rw [show c.s=some v from e] at hs; cases hs) (by show 50*(C.C - 0) - spS c.s≤q - 1; rw [hs]; show 50*(C.C - 0) - 0≤q - 1; omega),nm'.ev,nm'.lf,nm'.fd,nm'.mo,nm'.il⟩
  rw [step10w hp]
  cases ea:c.a with
  | none=>
   have e1:Adv.new.step C who A=(false,{ Adv.new with now:=A.w 0,pc:=1 },(A.by who).load 0):=by unfold Adv.step; rw [if_pos (show Adv.new.pc=0 from rfl)]
   rw [Option.getD_none,e1,if_neg (by simp)]
   refine .inl ⟨rfl,hS,nn,by omega,.p10 hp hs mw' n2 (fun v e=>?_) ?_,nm'.ev,nm'.lf,nm'.fd,nm'.mo,nm'.il⟩
   ·obtain rfl:(⟨1,A.w 0,0,false⟩:Adv)=v:=by injection e
    exact ⟨rfl,.inl ⟨rfl,Int.le_refl 0,by show (0:Int)<C.T; omega⟩⟩
   ·rw [ea] at hq
    have hq':520 - 0≤q:=hq
    show 520 - (if (1:Int)=1 then 1+(0:Int) else 10)≤q - 1
    rw [if_pos rfl]; omega
  | some v=>
   obtain ⟨v1,v2⟩:=ha v ea
   rw [ea] at hq
   have hq':520 - (if v.pc=1 then 1+v.at' else 10)≤q:=hq
   rw [Option.getD_some]
   rcases v2 with ⟨q1,q2⟩ | ⟨q1,q2⟩
   ·have z:=mw.pn _ q2.1 q2.2
    have cnd:¬ (A.w (6+v.at')≠0∧A.w (6+v.at')≠IntKind.u64.wrap (v.now+1)):=fun x=>x.1 z
    have e1:v.step C who A=(false,{ v with at':=v.at'+1,pc:=if C.T≤v.at'+1 then 2 else v.pc },(A.by who).load (6+v.at')):=by unfold Adv.step; rw [if_neg (by omega),if_pos q1,if_neg cnd]
    rw [e1,if_neg (by simp)]
    rw [if_pos q1] at hq'
    refine .inl ⟨rfl,hS,nn,by omega,.p10 hp hs mw' n2 (fun u e=>?_) ?_,nm'.ev,nm'.lf,nm'.fd,nm'.mo,nm'.il⟩
    ·obtain rfl:({ v with at':=v.at'+1,pc:=if C.T≤v.at'+1 then 2 else v.pc }:Adv)=u:=by injection e
     refine ⟨v1,?_⟩
     by_cases g:C.T≤v.at'+1
     ·exact .inr ⟨if_pos g,by show 0≤v.at'+1; omega⟩
     ·exact .inl ⟨(if_neg g).trans q1,by show 0≤v.at'+1; omega,by show v.at'+1<C.T; omega⟩
    ·show 520 - (if (if C.T≤v.at'+1 then (2:Int) else v.pc)=1 then 1+(v.at'+1) else 10)≤q - 1
     by_cases g:C.T≤v.at'+1
     ·rw [if_pos g,if_neg (by decide)]; omega
     ·rw [if_neg g,if_pos q1]; omega
   ·have wr:IntKind.u64.wrap (v.now+1)=A.w 0+1:=by rw [v1]; exact u64w (by omega) (by omega)
    have e1:v.step C who A=(true,{ v with went:=decide (A.w 0=v.now) },(A.by who).store 0 (A.w 0+1)):=by unfold Adv.step; rw [if_neg (by omega),if_neg (by omega),cas_yes (by exact v1.symm),wr]
    rw [e1,if_pos rfl]
    exact fin _ rfl (mw.low hC hS (by omega) (by omega) (.inl ⟨rfl,by omega⟩)) (n2.keep fun j j0 j1=>upd_ne _ _ (by have:=ck_lt hC j0 j1; omega))
 | p0 hp'=>omega
 | p1 hp'=>omega
 | p2 hp'=>omega
 | p3 hp'=>omega
 | p4 hp'=>omega
 | p5 hp'=>omega
 | p6 hp'=>omega
 | p9 hp'=>omega
 | p11 hp'=>omega
theorem WI.set (hC:C.ok) (hS:MS C P) (q3:q≤3000) (ha:c.a=none) (f:Bool) (hp:c.r.pc=11) (h0:0≤c.r.at'∧c.r.at'<C.C) (hq:50*(C.C - c.r.at') - 45≤q) {A':Ar} (nn:C.len≤A'.n∧(A'.n:Int)≤200000000) (mw:MW C P (tW P c - (q - 1)) (-1) (-1) A'.w) (n2:no2 C A'.w) (nm:Nw (tW P c - q) c) :
  WR C P q c ({ c with s:=none,r:=c.r.settled C f },A'):=by
 have nm':=nm.mono (t':=tW P c - (q - 1)) (by omega)
 have hcc:=hS.cc
 have nfd:=nm.fd
 have nil:=nm.il
 have hfd:0≤(if f=true then c.r.fd+1 else c.r.fd)∧(if f=true then c.r.fd+1 else c.r.fd)≤tW P c - (q - 1):=by split <;> omega
 unfold Cr.settled
 by_cases z:C.C≤c.r.at'+1
 ·simp only [if_pos z]
  have et:tW P { c with s:=none,r:=⟨0,c.r.x1,0,c.r.pos,c.r.w,c.r.now,c.r.x6,c.r.x7,.pointer none,c.r.ev,c.r.lf,(if f=true then c.r.fd+1 else c.r.fd),c.r.mo,c.r.rd+1,c.r.ev,c.r.lf,(if f=true then c.r.fd+1 else c.r.fd),c.r.mo,c.r.rd+1,(if c.r.ev≠c.r.ev2∨c.r.mo≠c.r.mo2∨(if f=true then c.r.fd+1 else c.r.fd)≠c.r.fd2 then 0 else c.r.idle+1)⟩ }=tW P c+3000:=by
   show P.N0+3000*(c.r.rd+1)+3000=P.N0+3000*c.r.rd+3000+3000; omega
  refine .inr ⟨⟨rfl,rfl,rfl⟩,hS,nn,by omega,.p0 rfl ha rfl ?_ n2 ⟨Int.le_refl 0,by show (0:Int)<C.C; omega⟩ (fun e=>absurd rfl e) (by show 2*(C.C - 0)+2310≤3000; omega),?_⟩
  ·rw [et]; exact mw.mono (by omega)
  ·rw [et]
   have n1:=nm'.ev; have n2:=nm'.lf; have n3:=nm'.mo
   refine ⟨by show 0≤c.r.ev∧c.r.ev≤_; omega,by show 0≤c.r.lf∧c.r.lf≤_; omega,by show 0≤(if f=true then c.r.fd+1 else c.r.fd)∧(if f=true then c.r.fd+1 else c.r.fd)≤_; omega,by show 0≤c.r.mo∧c.r.mo≤_; omega,?_⟩
   show 0≤(if c.r.ev≠c.r.ev2∨c.r.mo≠c.r.mo2∨(if f=true then c.r.fd+1 else c.r.fd)≠c.r.fd2 then 0 else c.r.idle+1)∧(if c.r.ev≠c.r.ev2∨c.r.mo≠c.r.mo2∨(if f=true then c.r.fd+1 else c.r.fd)≠c.r.fd2 then 0 else c.r.idle+1)≤c.r.rd+1
   by_cases g:c.r.ev≠c.r.ev2∨c.r.mo≠c.r.mo2∨(if f=true then c.r.fd+1 else c.r.fd)≠c.r.fd2
   ·rw [if_pos g]; omega
   ·rw [if_neg g]; omega
 ·simp only [if_neg z]
  exact .inl ⟨rfl,hS,nn,by omega,.p11 hp ha mw n2 ⟨by show 0≤c.r.at'+1; omega,by show c.r.at'+1<C.C; omega⟩ (fun v e=>by cases e) (by show 50*(C.C - (c.r.at'+1)) - 0≤q - 1; omega),nm'.ev,nm'.lf,hfd,nm'.mo,nm'.il⟩
theorem WI.s11 (hC:C.ok) (h:WI C P q c A) (hp:c.r.pc=11) (hrd:c.r.rd≤1300) (r:Int):WR C P q c (c.step C who A r):=by
 obtain ⟨hS,nn,q3,wc,nm⟩:=h
 have hn0:=hS.n0
 have hT4:tW P c≤4194000:=by unfold tW; omega
 cases wc with
 | p11 _ ha mw n2 h0 hs hq=>
  have nm':=nm.mono (t':=tW P c - (q - 1)) (by omega)
  have mw':MW C P (tW P c - (q - 1)) (-1) (-1) A.w:=mw.mono (by omega)
  have hcc:=hS.cc
  have b:=ck_lt hC h0.1 h0.2
  have kk:=mw.ck _ h0.1 h0.2
  have s45:spS c.s≤45:=by
   cases e:c.s with
   | none=>decide
   | some v=>
    obtain ⟨_,h3,h4,_,h5⟩:=hs v e
    have:=kk.u
    rw [← h4] at this
    rw [sp0]
    split
    ·omega
    ·split <;> omega
  have go:∀ (v:Stl) (A':Ar),A'.n=A.n→MW C P (tW P c - (q - 1)) (-1) (-1) A'.w→(∀ j,0≤j→j<C.C→A'.w (C.chunk j)=A.w (C.chunk j))→(v.ch=c.r.at'∧chS (A.w (C.chunk c.r.at'))=3∧v.w=A.w (C.chunk c.r.at')∧v.freed=false∧((v.pc=1∨v.pc=2)∧v.at'=0∨v.pc=3∧(0≤v.at'∧v.at'<chU v.w)∨v.pc=4∨v.pc=5))→spS c.s<spS (some v) →
    WR C P q c ({ c with s:=some v },A'):=fun v A' en hm hk hv hl=>by
   refine .inl ⟨rfl,hS,by rw [en]; exact nn,by omega,.p11 hp ha hm (n2.keep hk) h0 (fun u e=>?_) ?_,nm'.ev,nm'.lf,nm'.fd,nm'.mo,nm'.il⟩
   ·obtain rfl:v=u:=by injection e
    rw [hk _ h0.1 h0.2]; exact hv
   ·show 50*(C.C - c.r.at') - spS (some v)≤q - 1; omega
  have ho3:chS (A.w (C.chunk c.r.at'))=3→∀ s a x,Pla C P A.w s a c.r.at' x→False:=fun e s a x p=>by have:=p.st; omega
  rw [step11w hp]
  cases es:c.s with
  | none=>
   have e1:(Stl.new c.r.at').step C who A=(!decide (chS (A.w (C.chunk c.r.at'))=3),{ Stl.new c.r.at' with w:=A.w (C.chunk c.r.at'),pc:=1 },(A.by who).load (C.chunk c.r.at')):=by unfold Stl.step; rw [if_pos (show (Stl.new c.r.at').pc=0 from rfl)]; rfl
   rw [Option.getD_none,e1]
   by_cases c3:chS (A.w (C.chunk c.r.at'))=3
   ·rw [if_neg (by simp [c3])]
    exact go ⟨c.r.at',1,A.w (C.chunk c.r.at'),0,0,false⟩ ((A.by who).load (C.chunk c.r.at')) rfl mw' (fun _ _ _=>rfl) ⟨rfl,c3,rfl,rfl,.inl ⟨.inl rfl,rfl⟩⟩ (by rw [es,sp1 (by show (1:Int)≤2; decide)]; show (0:Int)<1; decide)
   ·rw [if_pos (by simp [c3])]
    exact WI.set hC hS q3 ha _ hp h0 (by omega) (A':=(A.by who).load (C.chunk c.r.at')) nn mw' n2 nm
  | some v=>
   obtain ⟨v1,v3,v4,v5,v6⟩:=hs v es
   rw [Option.getD_some]
   rcases v6 with ⟨q1 | q1,q2⟩ | ⟨q1,q2⟩ | q1 | q1
   ·have e1:v.step C who A=(false,{ v with since:=A.w (C.chunk v.ch+2),pc:=2 },(A.by who).load (C.chunk v.ch+2)):=by unfold Stl.step; rw [if_neg (by omega),if_pos q1]
    rw [e1,if_neg (by simp)]
    exact go { v with since:=A.w (C.chunk v.ch+2),pc:=2 } ((A.by who).load (C.chunk v.ch+2)) rfl mw' (fun _ _ _=>rfl) ⟨v1,v3,v4,v5,.inl ⟨.inr rfl,q2⟩⟩ (by rw [es,sp1 (by omega),sp1 (by show (2:Int)≤2; decide)]; show v.pc<2; omega)
   ·have e1:v.step C who A=(decide (A.w 0<IntKind.u64.wrap (v.since+2)),{ v with pc:=3 },(A.by who).load 0):=by unfold Stl.step; rw [if_neg (by omega),if_neg (by omega),if_pos q1]
    rw [e1]
    by_cases cd:A.w 0<IntKind.u64.wrap (v.since+2)
    ·rw [if_pos (by simp [cd])]
     exact WI.set hC hS q3 ha _ hp h0 (by omega) (A':=(A.by who).load 0) nn mw' n2 nm
    ·rw [if_neg (by simp [cd])]
     refine go { v with pc:=3 } ((A.by who).load 0) rfl mw' (fun _ _ _=>rfl) ⟨v1,v3,v4,v5,.inr (.inl ⟨rfl,by show 0≤v.at'∧v.at'<chU v.w; rw [q2,v4]; exact ⟨Int.le_refl 0,kk.p (by rw [v3]; decide)⟩⟩)⟩ ?_
     rw [es,sp1 (by omega),sp3 (by rfl)]; show v.pc<3+v.at'; omega
   ·have e1:v.step C who A=(false,{ v with at':=v.at'+1,pc:=if chU v.w≤v.at'+1 then 4 else v.pc },(A.by who).store (C.base c.r.at'+v.at') 0):=by unfold Stl.step; rw [if_neg (by omega),if_neg (by omega),if_neg (by omega),if_pos q1,v1]
    rw [e1,if_neg (by simp)]
    have ku:=kk.u
    rw [← v4] at ku
    have bb:=base_ge hC h0.1 h0.2 q2.1
    have hmw:MW C P (tW P c - (q - 1)) (-1) (-1) (upd A.w (C.base c.r.at'+v.at') 0):=mw.word hC hS (by omega) h0.1 h0.2 q2.1 (by omega) (by decide) (fun g=>by omega) (fun s a _ _ _ _ _ x p _=>ho3 v3 s a x p) (by omega)
    refine go { v with at':=v.at'+1,pc:=if chU v.w≤v.at'+1 then 4 else v.pc } ((A.by who).store (C.base c.r.at'+v.at') 0) rfl hmw (fun j j0 j1=>upd_ne _ _ (by have:=ck_lt hC j0 j1; omega)) ⟨v1,v3,v4,v5,?_⟩ ?_
    ·by_cases z:chU v.w≤v.at'+1
     ·exact .inr (.inr (.inl (if_pos z)))
     ·exact .inr (.inl ⟨(if_neg z).trans q1,by show 0≤v.at'+1; omega,by show v.at'+1<chU v.w; omega⟩)
    ·rw [es,sp3 q1]
     by_cases z:chU v.w≤v.at'+1
     ·have e:(if chU v.w≤v.at'+1 then (4:Int) else v.pc)=4:=if_pos z
      rw [sp4 (by show 4≤(if chU v.w≤v.at'+1 then (4:Int) else v.pc); omega)]
      show 3+v.at'<40+(if chU v.w≤v.at'+1 then (4:Int) else v.pc); omega
     ·have e:(if chU v.w≤v.at'+1 then (4:Int) else v.pc)=v.pc:=if_neg z
      rw [sp3 (by show (if chU v.w≤v.at'+1 then (4:Int) else v.pc)=3; omega)]
      show 3+v.at'<3+(v.at'+1); omega
   ·have e1:v.step C who A=(false,{ v with pc:=5 },(A.by who).store (C.chunk c.r.at'+1) 0):=by unfold Stl.step; rw [if_neg (by omega),if_neg (by omega),if_neg (by omega),if_neg (by omega),if_pos q1,v1]
    rw [e1,if_neg (by simp)]
    refine go { v with pc:=5 } ((A.by who).store (C.chunk c.r.at'+1) 0) rfl (mw.low hC hS (by omega) (by decide) (.inr (.inl ⟨_,h0.1,h0.2,.inl rfl⟩))) (fun j j0 j1=>upd_ne _ _ (by unfold Cf.chunk; omega)) ⟨v1,v3,v4,v5,.inr (.inr (.inr rfl))⟩ ?_
    rw [es,sp4 (by omega),sp4 (by show (4:Int)≤5; decide)]; show 40+v.pc<40+5; omega
   ·have e1:v.step C who A=(true,{ v with freed:=true },(A.by who).store (C.chunk v.ch) (putChunk 0 0 0 (chN v.w+1))):=by unfold Stl.step; rw [if_neg (by omega),if_neg (by omega),if_neg (by omega),if_neg (by omega),if_neg (by omega)]
    rw [e1,if_pos rfl,v1]
    have kn:=kk.n
    have nb:=chN_bd v.w
    rw [← v4] at kn
    obtain ⟨z1,z2,z3,z4⟩:=ch_put (st:=0) (c:=0) (us:=0) (sp:=chN v.w+1) (by decide) (by decide) (by decide) (by omega)
    have hmw:MW C P (tW P c - (q - 1)) (-1) (-1) (upd A.w (C.chunk c.r.at') (putChunk 0 0 0 (chN v.w+1))):=mw.chunk hC hS (by omega) h0.1 h0.2 (putChunk_in _ _ _ _) ⟨by rw [z2]; decide,by rw [z3]; have:=hC.W; omega,by rw [z3,Int.zero_emod],by rw [z4]; omega,fun g=>by rw [z1] at g; omega⟩ (.inl rfl) (fun g=>by rw [z1] at g; omega) (fun s a x _ _ _ _ _ p=>(ho3 v3 s a x p).elim) (by omega)
    refine WI.set hC hS q3 ha _ hp h0 (by omega) (A':=(A.by who).store (C.chunk c.r.at') (putChunk 0 0 0 (chN v.w+1))) nn hmw (fun j j0 j1 g=>?_) nm
    have g':chS (upd A.w (C.chunk c.r.at') (putChunk 0 0 0 (chN v.w+1)) (C.chunk j))=2:=g
    by_cases ej:j=c.r.at'
    ·rw [ej,upd_same,z1] at g'; exact absurd g' (by decide)
    ·rw [upd_ne _ _ (ck_ne ej).1] at g'; exact n2 j j0 j1 g'
 | p0 hp'=>omega
 | p1 hp'=>omega
 | p2 hp'=>omega
 | p3 hp'=>omega
 | p4 hp'=>omega
 | p5 hp'=>omega
 | p6 hp'=>omega
 | p9 hp'=>omega
 | p10 hp'=>omega
theorem WI.step (hC:C.ok) (h:WI C P q c A) (hrd:c.r.rd≤1300) (r:Int) (hr:c.may C A r):WR C P q c (c.step C who A r):=by
 have hw:=h.wc
 cases hw with
 | p0 hp=>exact h.s0 hC hp r
 | p1 hp=>exact h.s1 hC hp r
 | p2 hp=>exact h.s2 hC hp r hr
 | p3 hp=>exact h.s3 hC hp hrd r
 | p4 hp=>exact h.s4 hC hp hrd r
 | p5 hp=>exact h.s5 hC hp hrd r
 | p6 hp=>exact h.s6 hC hp hrd r
 | p9 hp=>exact h.s9 hC hp hrd r
 | p10 hp=>exact h.s10 hC hp hrd r
 | p11 hp=>exact h.s11 hC hp hrd r
end
end Go.Fl
namespace Go.Fl
open Go
set_option linter.unusedVariables false
set_option linter.unusedSimpArgs false
variable {N:Nm} {σ:Mem} {K:Value→Mem→Prop} {C:Cf} {w:Int→Int} {P:MP} {A:Ar} {who:Int}
section
variable {q:Int} {c:Co}
theorem WI.bd (h:WI C P q c A):∀ i,0≤A.w i∧A.w i<18446744073709551616:=by
 cases h.wc with
 | p0 hp ha hs mw=>exact mw.bd
 | p1 hp ha hs mw=>exact mw.bd
 | p2 hp ha hs mw=>exact mw.bd
 | p3 hp ha hs mw=>exact mw.bd
 | p4 hp ha hs mw=>exact mw.bd
 | p5 hp ha hs mv=>exact mv.bd
 | p6 hp ha hs mw=>exact mw.bd
 | p9 hp ha hs mw=>exact mw.bd
 | p10 hp hs mw=>exact mw.bd
 | p11 hp ha mw=>exact mw.bd
theorem WI.fit (hC:C.ok) (h:WI C P q c A) (hrd:0≤c.r.rd∧c.r.rd≤1300):c.fit C A:=by
 have bd:=h.bd
 obtain ⟨hS,nn,q3,wc,nm⟩:=h
 have hn0:=hS.n0
 have hT4:tW P c≤4194000:=by unfold tW; omega
 have q0:0≤q∨True:=.inr trivial
 have hC3:=hC.C
 have n1:=nm.ev; have n2:=nm.lf; have n3:=nm.fd; have n4:=nm.mo; have n5:=nm.il
 have q1:1≤q:=WI.q1 hC (A:=A) ⟨hS,nn,q3,wc,nm⟩
 have cn:c.r.cnt:=⟨⟨n3.1,by omega⟩,⟨hrd.1,by omega⟩,⟨n5.1,by omega⟩⟩
 have w1:0≤c.r.ev∧c.r.ev≤1000000000:=by omega
 have w2:0≤c.r.lf∧c.r.lf≤1000000000:=by omega
 have w3:0≤c.r.mo∧c.r.mo≤1000000000:=by omega
 have an:c.a=none→∀ a,c.a=some a→c.r.pc=10∧a.fit C:=fun e a e'=>by rw [e] at e'; cases e'
 have sn:c.s=none→∀ a,c.s=some a→c.r.pc=11∧a.fit C A:=fun e a e'=>by rw [e] at e'; cases e'
 cases wc with
 | p0 hp ha hs mw n2 h0 hl hq=>exact ⟨by omega,fun _=>⟨h0.1,fun e=>by omega,fun _=>h0.2⟩,fun _ z=>by rw [if_pos hp]; exact hl fun e=>z ⟨hp,e⟩,fun e=>by omega,fun e=>by omega,fun e=>by omega,fun e=>by omega,fun e=>by omega,an ha,sn hs,cn,w1,w2,w3⟩
 | p1 hp ha hs mw n2 h0 hl hq=>exact ⟨by omega,fun _=>⟨h0.1,fun e=>by omega,fun _=>h0.2⟩,fun _ z=>by rw [if_neg (by omega),if_pos hp]; exact hl,fun e=>by omega,fun e=>by omega,fun e=>by omega,fun e=>by omega,fun e=>by omega,an ha,sn hs,cn,w1,w2,w3⟩
 | p2 hp ha hs mw n2 h0 hl hq=>exact ⟨by omega,fun _=>⟨h0.1,fun e=>h0.2,fun e=>absurd hp e⟩,fun _ z=>by rw [if_neg (by omega),if_neg (by omega)]; exact hl,fun e=>mw.op _ h0.1 (by omega),fun e=>by omega,fun e=>by omega,fun e=>by omega,fun e=>by omega,an ha,sn hs,cn,w1,w2,w3⟩
 | p3 hp ha hs mw n2 h0 h1 hw hq=>exact ⟨by omega,fun _=>⟨h0.1,fun e=>by omega,fun _=>h0.2⟩,fun e=>by omega,fun e=>by omega,fun _ _=>hw,fun e=>by omega,fun e=>by omega,fun e=>by omega,an ha,sn hs,cn,w1,w2,w3⟩
 | p4 hp ha hs mw ev px hq=>
  have px2:=px.x; have pu:=px.u
  have hb:=(base_of hC ev.ab.1 ev.ab.2 px2.1 (by omega)).2.2
  exact ⟨by omega,fun _=>⟨ev.ab.1,fun e=>by omega,fun _=>ev.ab.2⟩,fun e=>by omega,fun e=>by omega,fun _ _=>by rw [← ev.ecw]; exact bd _,fun _ _=>px.c,fun _ _=>⟨px2.1,by omega⟩,fun e=>by omega,an ha,sn hs,cn,w1,w2,w3⟩
 | p5 hp ha hs mv h0 px hw hq=>
  have px2:=px.x; have pu:=px.u
  have hb:=(base_of hC h0.1 h0.2 px2.1 (by omega)).2.2
  have hB:=wpos_room px
  have hf:=mv.fit hC hS (by unfold evB; omega) (by omega) nn
  exact ⟨by omega,fun _=>⟨h0.1,fun e=>by omega,fun _=>h0.2⟩,fun e=>by omega,fun e=>by omega,fun _ _=>hw,fun _ _=>px.c,fun _ _=>⟨px2.1,by omega⟩,fun _=>hf,an ha,sn hs,cn,w1,w2,w3⟩
 | p6 hp ha hs mw ev hn hq=>exact ⟨by omega,fun _=>⟨ev.ab.1,fun e=>by omega,fun _=>ev.ab.2⟩,fun e=>by omega,fun e=>by omega,fun _ _=>by rw [← ev.ecw]; exact bd _,fun e=>by omega,fun e=>by omega,fun e=>by omega,an ha,sn hs,cn,w1,w2,w3⟩
 | p9 hp ha hs mw ev hq=>exact ⟨by omega,fun _=>⟨ev.ab.1,fun e=>by omega,fun _=>ev.ab.2⟩,fun e=>by omega,fun e=>by omega,fun _ _=>by rw [← ev.ecw]; exact bd _,fun e=>by omega,fun e=>by omega,fun e=>by omega,an ha,sn hs,cn,w1,w2,w3⟩
 | p10 hp hs mw n2 ha hq=>
  refine ⟨by omega,fun e=>absurd hp e,fun e=>by omega,fun e=>by omega,fun e=>by omega,fun e=>by omega,fun e=>by omega,fun e=>by omega,fun v e=>⟨hp,?_⟩,sn hs,cn,w1,w2,w3⟩
  have:=(ha v e).2
  exact ⟨⟨by omega,by omega⟩,by omega,fun _=>by omega⟩
 | p11 hp ha mw n2 h0 hs hq=>
  refine ⟨by omega,fun _=>⟨h0.1,fun e=>by omega,fun _=>h0.2⟩,fun e=>by omega,fun e=>by omega,fun e=>by omega,fun e=>by omega,fun e=>by omega,fun e=>by omega,an ha,fun v e=>⟨hp,?_⟩,cn,w1,w2,w3⟩
  obtain ⟨v1,v3,v4,v5,v6⟩:=hs v e
  refine ⟨⟨by omega,by omega⟩,by rw [v1]; exact h0,by rw [v4]; exact bd _,fun e3=>?_⟩
  have ku:=(mw.ck _ h0.1 h0.2).u
  rw [← v4] at ku
  have q2:0≤v.at'∧v.at'<chU v.w:=by
   rcases v6 with ⟨q,_⟩ | ⟨_,q⟩ | q | q
   ·omega
   ·exact q
   ·omega
   ·omega
  have:=(base_of hC h0.1 h0.2 q2.1 (by omega)).2.2
  rw [v1]; omega
end
theorem least {p:Nat→Prop} (h:∃ n,p n):∃ n,p n∧∀ k,p k→n≤k:=by
 obtain ⟨n,hn⟩:=h
 induction n using Nat.strongRecOn with
 | ind n ih=>
  by_cases e:∃ k,k<n∧p k
  ·obtain ⟨k,k1,k2⟩:=e; exact ih k k1 k2
  ·exact ⟨n,hn,fun k hk=>Nat.le_of_not_lt fun l=>e ⟨k,l,hk⟩⟩
theorem c_roundsWZ (hN:N.ok) (hC:C.ok) (hA:isA N A σ) {p:Nat} {O:List Nat} {c:Co} {n q:Int} (Z:Co→Ar→Prop) (hn:0≤n∧n≤500) (hO:COb N p O c σ) (h0:WI C P q c A) (z0:Z c A) (hrd:0≤c.r.rd∧c.r.rd≤400)
  (hZ:∀ q c1 A1 r,WI C P q c1 A1→Z c1 A1→c1.r.rd≤1300→c1.may C A1 r→WR C P q c1 (c1.step C (-1) A1 r)→Z (c1.step C (-1) A1 r).1 (c1.step C (-1) A1 r).2)
  (hk:∀ q' c' A' O' τ,WI C P q' c' A'→Z c' A'→c'.r.rd=c.r.rd+n→(n=0∨c'.r.pc=0∧c'.r.at'=0)→isA N A' τ→COb N p O' c' τ→(∀ i ∈ O',i ∈ O∨σ.get i=none)→Keep (O ++ N.l) σ τ→K (.bool true) τ) :
  s_bn [N.env C who,.pointer (some ⟨p,0,none⟩),.int .i64 n] K σ:=by
 obtain ⟨left,hl⟩:∃ left:Co→Ar→Int,∀ c A,(∃ n:Nat,WI C P n c A)→∃ n:Nat,left c A=n∧WI C P n c A∧∀ k:Nat,WI C P k c A→n≤k:=by
  have:∀ c:Co,∃ l:Ar→Int,∀ A,(∃ n:Nat,WI C P n c A)→∃ n:Nat,l A=n∧WI C P n c A∧∀ k:Nat,WI C P k c A→n≤k:=fun c=>by
   refine Classical.axiomOfChoice (r:=fun A (l:Int)=>(∃ n:Nat,WI C P n c A)→∃ n:Nat,l=n∧WI C P n c A∧∀ k:Nat,WI C P k c A→n≤k) fun A=>?_
   by_cases h:∃ n:Nat,WI C P n c A
   ·obtain ⟨n,h1,h2⟩:=least h
    exact ⟨n,fun _=>⟨n,rfl,h1,h2⟩⟩
   ·exact ⟨0,fun e=>absurd e h⟩
  exact Classical.axiomOfChoice this
 have nat:∀ {q:Int} {c:Co} {A:Ar},WI C P q c A→∃ n:Nat,WI C P n c A:=fun {q c A} h=>by
  have:=h.q1 hC
  obtain ⟨k,rfl⟩:=Int.eq_ofNat_of_zero_le (show 0≤q by omega)
  exact ⟨k,h⟩
 refine c_rounds hN hC hA (by omega) hO (fun c A=>(∃ n:Nat,WI C P n c A)∧Z c A) left ⟨nat h0,z0⟩ ⟨hrd.1,by omega⟩ (fun c1 A1 h1 a b=>?_) (fun c1 A1 r h1 a b hm=>?_) fun c' A' O' τ h1=>?_
 ·obtain ⟨n,e,h2,_⟩:=hl c1 A1 h1.1
  have:=h2.q1 hC
  have:=h2.q3
  exact ⟨h2.fit hC (by omega),h2.nn.1,h2.nn.2,h2.bd,by omega,by omega⟩
 ·obtain ⟨n,e,h2,_⟩:=hl c1 A1 h1.1
  have hs:=h2.step (who := -1) hC (by omega) r hm
  have hz:=hZ n c1 A1 r h2 h1.2 (by omega) hm hs
  rcases hs with ⟨e1,h3⟩ | ⟨e1,h3⟩
  ·refine ⟨⟨nat h3,hz⟩,.inl ⟨e1,?_⟩⟩
   obtain ⟨n',e',_,h4⟩:=hl _ _ (nat h3)
   have q1:=h3.q1 hC
   have:(((n:Int) - 1).toNat:Int)=n - 1:=by omega
   rw [← this] at h3
   have:=h4 _ h3
   omega
  ·exact ⟨⟨nat h3,hz⟩,.inr e1⟩
 ·obtain ⟨⟨n,h2⟩,hz⟩:=h1
  exact hk n c' A' O' τ h2 hz
end Go.Fl
namespace Go.Fl
open Go
set_option linter.unusedVariables false
set_option linter.unusedSimpArgs false
variable {N:Nm} {A B:Ar} {σ:Mem} {K:Value→Mem→Prop} {C:Cf} {who:Int}
def ckN (C:Cf) (w:Int→Int):Prop:=∀ j,0≤j→j<C.C→chN (w (C.chunk j))≤1
theorem ckN.upd {w:Int→Int} {a v:Int} (h:ckN C w) (hv:(∃ j,0≤j∧j<C.C∧a=C.chunk j)→chN v≤1):ckN C (Go.Fl.upd w a v):=fun j j0 j1=>by
 unfold Go.Fl.upd; split
 ·rename_i e; exact hv ⟨j,j0,j1,e.symm⟩
 ·exact h j j0 j1
theorem Ph.cn (hC:C.ok) {o u:Int→Int} {nx c k:Int} {p:Pl} (c0:0≤c) (c3:c≤3) (h:Ph C o u nx c k p A.w) (hq:ckN C A.w):ckN C (p.step C who A).2.2.w:=by
 have hT:=hC.T; have hS:=hC.S
 have ld:∀ a,((A.by who).load a).w=A.w:=fun _=>rfl
 obtain ⟨_,hcl,h⟩:=h
 by_cases p0:p.pc=0
 ·have e:(p.step C who A).2.2=(A.by who).load (2+p.cls):=by unfold Pl.step; rw [if_pos p0]
  rw [e,ld]; exact hq
 by_cases p1:p.pc=1
 ·have e:(p.step C who A).2.2=(A.by who).load (C.chunk p.at'):=by unfold Pl.step; rw [if_neg p0,if_pos p1]
  rw [e,ld]; exact hq
 by_cases p3:p.pc=3
 ·have e:(p.step C who A).2.2=(A.by who).load (C.chunk p.at'):=by unfold Pl.step; rw [if_neg p0,if_neg p1,if_neg (by omega),if_pos p3]; dsimp only; split <;> rfl
  rw [e,ld]; exact hq
 by_cases p2:p.pc=2
 ·have e:(p.step C who A).2.2=(A.by who).cas (C.chunk p.at') p.w (putChunk (chS p.w) (chC p.w) (chU p.w+roomOf p.cls) (chN p.w)):=by unfold Pl.step; rw [if_neg p0,if_neg p1,if_pos p2]
  rw [e]
  by_cases q:A.w (C.chunk p.at')=p.w
  ·rw [cas_yes (by exact q)]
   refine hq.upd fun ⟨j,j0,j1,ej⟩=>?_
   have h1:=hq j j0 j1
   rw [← ej,q] at h1
   have h2:=chN_bd p.w
   unfold putChunk; unfold chN cl at *; omega
  ·rw [cas_no (by exact q)]; exact hq
 by_cases p4:p.pc=4
 ·have e:(p.step C who A).2.2=(A.by who).cas (C.chunk p.at') p.w p.fresh:=by unfold Pl.step; rw [if_neg p0,if_neg p1,if_neg p2,if_neg p3,if_pos p4]; split <;> rfl
  have hat:p.w=0:=by
   rcases h with ⟨_,h⟩ | ⟨_,⟨_,h⟩ | h⟩ <;> omega
  rw [e]
  by_cases q:A.w (C.chunk p.at')=p.w
  ·rw [cas_yes (by exact q)]
   refine hq.upd fun _=>?_
   unfold Pl.fresh; rw [hat]; unfold putChunk; unfold chN cl; omega
  ·rw [cas_no (by exact q)]; exact hq
 have p5:p.pc=5:=by
  rcases h with ⟨_,h⟩ | ⟨_,⟨_,h⟩ | h⟩ <;> omega
 have e:(p.step C who A).2.2=(A.by who).cas (2+p.cls) p.opn (p.at'+1):=by unfold Pl.step; rw [if_neg p0,if_neg p1,if_neg p2,if_neg p3,if_neg p4,if_pos p5]
 rw [e]
 by_cases q:A.w (2+p.cls)=p.opn
 ·rw [cas_yes (by exact q)]
  exact hq.upd fun ⟨j,j0,j1,ej⟩=>by unfold Cf.chunk at ej; omega
 ·rw [cas_no (by exact q)]; exact hq
theorem Mkr.cn (hC:C.ok) {b:Bg} {size bb k:Int} {own:Bool} {A0:Ar} {m:Am} (h:Mkr C b size own A0 bb k m A) (hb:bb<2305843009213693952) (hAw:b.aw C A0.w) (hlv:b.lvok C) (hcl:0≤classOf size) (k0:0≤k) (hq:ckN C A.w):ckN C (m.step C who A).2.2.w:=by
 have hT:=hC.T; have hS:=hC.S; have hCC:=hC.C
 have hcl3:=(class_bd size).2
 obtain ⟨⟨⟨a,ht⟩,_⟩,_⟩:=h.step (who:=who) hC hb hAw hlv hcl k0
 have hnx:=hAw.alo.bd
 by_cases c2:m.a.pc=2
 ·have hp:∃ kk,Ph C b.o b.u b.nx (classOf size) kk m.t A.w:=by
   rcases h.ph with q | ⟨s,F,hF,q | ⟨kk,q,_⟩ | ⟨jj,b',_,hs,_,q⟩ | ⟨_,_,_,_,_,_,kk,q,_⟩⟩
   ·have:=q.2.2.2.1; omega
   ·omega
   ·exact ⟨kk,q.2.2.2.2.1⟩
   ·rcases q with q | q
    ·omega
    ·rcases q.2 with q | ⟨_,q | q⟩ <;> omega
   ·have:=q.1; omega
  obtain ⟨kk,hp⟩:=hp
  have e:(m.step C who A).2.2=(m.t.step C who A).2.2:=by
   unfold Am.step
   rw [if_neg (by omega),if_neg (by omega),if_pos c2]
   dsimp only
   (repeat' split) <;> rfl
  rw [e]
  exact hp.cn hC hcl hcl3 hq
 by_cases c1:m.a.pc=1
 ·rcases ht.kind with ⟨q,_⟩ | ⟨_,_,q⟩ | ⟨q,_⟩ | ⟨q,_⟩ | ⟨q,_⟩ | ⟨q,_⟩
  ·rcases q with q | q <;> (rw [c1] at q; exact absurd q (by decide))
  ·rw [q]; exact hq
  all_goals omega
 intro j j0 j1
 have hne:C.chunk j≠a:=by
  have hck:=C.chunk j
  rcases ht.kind with ⟨_,q | ⟨s,s0,s1,q⟩⟩ | ⟨q,_⟩ | ⟨q,_⟩ | ⟨q,q'⟩ | ⟨q,q'⟩ | ⟨q,q'⟩
  ·unfold Cf.chunk; omega
  ·unfold Cf.slot at q; unfold Cf.chunk; omega
  ·omega
  ·omega
  ·unfold Cf.chunk at *; omega
  ·obtain ⟨s,F,jj,_,_,q1,q2,q3,q4⟩:=h.ph.spot hC hAw.alo hcl hcl3 (by omega) (by omega)
   have:=base_ge hC q2.1 q2.2 q3
   unfold Cf.chunk; omega
  ·obtain ⟨s,F,jj,hF,q0,q1,q2,q3,q4⟩:=h.ph.spot hC hAw.alo hcl hcl3 (by omega) (by omega)
   have hm:=hAw.fre.c.mem s (by rw [hF]; simp)
   unfold Cf.slot at q'; unfold Cf.chunk; omega
 rw [ht.w _ hne]; exact hq j j0 j1
theorem c_MakeQ (hN:N.ok) (hC:C.ok) (hA:isA N A σ) {b:Bg} {size bb:Int} {own:Bool} (hP:Pa C A bb) (hb:bb<2305843009213693952) (hAw:b.aw C A.w) (hlv:b.lvok C) (hcl:0≤classOf size) (hq:ckN C A.w)
  (hk:∀ m A' τ,DnM C b size own A.w A.s m A'→Pa C A' (bb+100)→A'.n=A.n→(∀ j,0≤j→j<b.nx→chC (A'.w (C.chunk j))=chC (A.w (C.chunk j)))→(∀ i,lowW C i→A'.w i=A.w i)→ckN C A'.w→isA N A' τ→Keep N.l σ τ→K (.agg #[.int .i64 m.a.oE,.int .u64 m.a.oH,.int .i64 m.a.oV,.int .i64 m.a.oS]) τ) :
  s_bb [N.env C who,.int .i64 size,.bool own] K σ:=by
 have hCC:=hC.C
 refine c_Make hN hC hA (fun k m A'=>Mkr C b size own A bb k m A'∧(∀ j,0≤j→j<b.nx→chC (A'.w (C.chunk j))=chC (A.w (C.chunk j)))∧(∀ i,lowW C i→A'.w i=A.w i)∧ckN C A'.w) (fun m A'=>DnM C b size own A.w A.s m A'∧Pa C A' (bb+100)∧A'.n=A.n∧(∀ j,0≤j→j<b.nx→chC (A'.w (C.chunk j))=chC (A.w (C.chunk j)))∧(∀ i,lowW C i→A'.w i=A.w i)∧ckN C A'.w) ⟨.new hP hAw,fun _ _ _=>rfl,fun _ _=>rfl,hq⟩ ?_ (fun m A' h=>by have:=h.1.ph.kle hC; omega) fun m A' τ h=>hk m A' τ h.1 h.2.1 h.2.2.1 h.2.2.2.1 h.2.2.2.2.1 h.2.2.2.2.2
 rintro k m A' k0 k1 ⟨h,hck,hlo,hq⟩
 refine ⟨h.fit hC hAw hcl,h.pa.ok.w,h.pa.n,?_⟩
 have hkl:=h.ph.kle hC
 have hck':∀ j,0≤j→j<b.nx→chC ((m.step C who A').2.2.w (C.chunk j))=chC (A.w (C.chunk j)):=fun j j0 j1=>(h.ck hC hb hAw hlv hcl k0 j0 j1).trans (hck j j0 j1)
 have hlo':∀ i,lowW C i→(m.step C who A').2.2.w i=A.w i:=fun i hi=>(h.lo hC hb hAw hlv hcl k0 hi).trans (hlo i hi)
 have hq':ckN C (m.step C who A').2.2.w:=h.cn hC hb hAw hlv hcl k0 hq
 obtain ⟨⟨⟨a,ht⟩,hla⟩,h2⟩:=h.step (who:=who) hC hb hAw hlv hcl k0
 rcases h2 with ⟨d,h'⟩ | ⟨d,h',hP'⟩
 ·rw [if_neg (by rw [d]; decide)]; exact ⟨h',hck',hlo',hq'⟩
 ·rw [if_pos d]; exact ⟨h',hP'.mono (by omega),ht.n.trans h.n,hck',hlo',hq'⟩
structure Dv (C:Cf) (i:Int) (n:Nat) (dd:Int→Do) (li:Int→Bool) (V:Int→Int→Int) (w:Int→Int) (b:Bg):Prop where
 dw:Dw C i n dd li w b
 sf:∀ s,0≤s→s<C.S→s ∈ b.F∨∃ k:Int,(0≤k∧k<n)∧li k=true∧(dd k).s=s
 fs:∀ s,0≤s→s<C.S→s ∈ b.F→slS (w (C.slot s))=0∧slA (w (C.slot s))=0
 ls:∀ k:Int,0≤k→k<n→li k=true→w (C.slot (dd k).s)=putSlot 1 ((dd k).a C) (dd k).ge 0
 ce:∀ k:Int,0≤k→k<n→li k=true→∀ x,0≤x→x<(dd k).z→(0≤V k x∧V k x≤1099511627775)∧w ((dd k).a C+1+x)=putCell (V k x) false 0
 n1:ckN C w
def nV (V:Int→Int→Int) (n:Int):Int→Int→Int:=fun k x=>if k=n then 0 else V k x
section
variable {i:Int} {n:Nat} {dd:Int→Do} {li:Int→Bool} {V:Int→Int→Int} {w w':Int→Int} {b:Bg}
theorem Dv.mono {i':Int} (h:Dv C i n dd li V w b) (hi:i≤i'):Dv C i' n dd li V w b:=⟨h.dw.mono hi,h.sf,h.fs,h.ls,h.ce,h.n1⟩
theorem Dv.new (hC:C.ok) (h:Frsh N C A):Dv C 0 0 (fun _=>⟨0,0,0,false,0,0⟩) (fun _=>false) (fun _ _=>0) A.w (Bg.fr C):=by
 have hS:=hC.S; have hT:=hC.T
 refine ⟨Dw.new hC h,fun s s0 s1=>.inl ?_,fun s s0 s1 _=>?_,fun k k0 k1=>by omega,fun k k0 k1=>by omega,fun j j0 j1=>?_⟩
 ·show s ∈ upL 0 C.S.toNat
  have:∀ {n:Nat} {i s:Int},i≤s→s<i+n→s ∈ upL i n:=by
   intro n
   induction n with
   | zero=>intro i s h1 h2; omega
   | succ n ih=>
    intro i s h1 h2
    by_cases e:s=i
    ·subst e; exact List.mem_cons_self ..
    ·exact List.mem_cons_of_mem _ (ih (by omega) (by omega))
  exact this s0 (by omega)
 ·rw [h.w]
  unfold Cf.w0 Cf.fr
  rw [if_neg (by unfold Cf.slot; omega),if_neg (by unfold Cf.slot; omega),if_pos (by unfold Cf.slot; omega),if_pos (by unfold Cf.slot; omega)]
  exact ⟨by decide,by decide⟩
 ·have hch:C.chunk 0≤C.chunk j:=by unfold Cf.chunk; omega
  rw [h.w,w0_high hC hch]; decide
theorem Dv.same (hC:C.ok) (h:Dv C i n dd li V w b) (aw:b.aw C w') (hs:∀ t,0≤t→t<C.S→w' (C.slot t)=w (C.slot t)) (hw:∀ j x,0≤j→j<C.C→0≤x→x<b.u j→x<C.W→w' (C.base j+x)=w (C.base j+x)) (hc:∀ j,0≤j→j<b.nx→chC (w' (C.chunk j))=chC (w (C.chunk j))) (hq:ckN C w'):Dv C i n dd li V w' b:=by
 have hbd:=h.dw.aw.alo.bd
 refine ⟨h.dw.same hC aw hs hw hc,h.sf,fun s s0 s1 hm=>by rw [hs s s0 s1]; exact h.fs s s0 s1 hm,fun k k0 k1 hk=>?_,fun k k0 k1 hk x x0 x1=>?_,hq⟩
 ·have:=(h.dw.hd k k0 k1).1.2.2
  rw [hs _ this.1 this.2]; exact h.ls k k0 k1 hk
 ·obtain ⟨⟨p1,p2,p3⟩,p4,p5⟩:=h.dw.pl k k0 k1
  have hcl:=(h.dw.hd k k0 k1).2.1
  have hz:=class_room' hcl
  have pu:=(aw_ule hC h.dw.aw p1.1 (by omega)).2
  unfold Do.rm at p3
  have e:(dd k).a C+1+x=C.base (dd k).j+((dd k).i+(1+x)):=by unfold Do.a; omega
  rw [e,hw _ _ p1.1 (by omega) (by omega) (by omega) (by omega),← e]
  exact h.ce k k0 k1 hk x x0 x1
theorem Dv.make (hC:C.ok) {z s j:Int} {own:Bool} {b':Bg} {F:List Int} (h:Dv C i n dd li V w b) (hi:i≤1000) (hF:b.F=s :: F) (hc:0≤classOf z)
  (hg:Got C b F (classOf z) j b') (haw:(b'.count j (roomOf (classOf z))).aw C w') (h1:w' (C.slot s)=putSlot 1 (C.base j+b.u j) (slG (w (C.slot s))) 0) (h2:w' (C.base j+b.u j)=putHead 2 z s (slG (w (C.slot s))) own)
  (h3:∀ x,1≤x→x<roomOf (classOf z)→w' (C.base j+(b.u j+x))=0) (fw:Fw C b True w w') (hck:∀ j,0≤j→j<b.nx→chC (w' (C.chunk j))=chC (w (C.chunk j))) (hq:ckN C w') :
  Dv C (i+1) (n+1) (addD dd n (Do.mk' C b s (slG (w (C.slot s))) z own j)) (updB li n true) (nV V n) w' (b'.count j (roomOf (classOf z))):=by
 have hm:=h.dw.aw.fre.c.mem s (by rw [hF]; simp)
 have hnd:=h.dw.aw.fre.nd
 rw [hF] at hnd
 have hsF:=(List.nodup_cons.1 hnd).1
 have hge:=h.dw.gen s hm.1 hm.2
 have hS:=hC.S
 have hbd:=h.dw.aw.alo.bd
 obtain ⟨u0,u1,u2,u3,u4⟩:=hd_handle (s:=s) (g:=slG (w (C.slot s))) (by omega) (by omega)
 have hmake:=h.dw.make (own:=own) hC hi hF hc hg haw h1 h2 fw hck
 have hbF:(b'.count j (roomOf (classOf z))).F=F:=(hg.has hC).1
 generalize hd:Do.mk' C b s (slG (w (C.slot s))) z own j=d at *
 have ds:d.s=s:=by subst hd; exact u2
 have dg:d.ge=slG (w (C.slot s)):=by subst hd; exact u3
 have da:d.a C=C.base j+b.u j:=by subst hd; rfl
 have dz:d.z=z:=by subst hd; rfl
 have aN:addD dd n d n=d:=if_pos rfl
 have aO:∀ k:Int,k<n→addD dd n d k=dd k:=fun k hk=>if_neg (by omega)
 have lN:updB li n true n=true:=if_pos rfl
 have lO:∀ k:Int,k<n→updB li n true k=li k:=fun k hk=>if_neg (by omega)
 have vO:∀ (k:Int) x,k<n→nV V n k x=V k x:=fun k x hk=>if_neg (by omega)
 have wS:∀ t,0≤t→t<C.S→t≠s→w' (C.slot t)=w (C.slot t):=fun t t0 t1 ht=>fw.slot t t0 t1 fun _ F' e=>by rw [hF] at e; cases e; exact ht rfl
 have sne:∀ k:Int,0≤k→k<n→li k=true→(dd k).s≠s:=fun k k0 k1 hk=>by
  have:=(h.dw.ok k k0 k1 hk).sF; rw [hF] at this; simp only [List.mem_cons,not_or] at this; exact this.1
 refine ⟨hmake,fun t t0 t1=>?_,fun t t0 t1 ht=>?_,fun k k0 k1 hk=>?_,fun k k0 k1 hk x x0 x1=>?_,hq⟩
 ·by_cases e:t=s
  ·exact .inr ⟨n,⟨by omega,by omega⟩,lN,by rw [aN,ds]; exact e.symm⟩
  ·rcases h.sf t t0 t1 with q | ⟨k,k1,k2,k3⟩
   ·rw [hF] at q
    rw [hbF]
    rcases List.mem_cons.1 q with q | q
    ·exact absurd q e
    ·exact .inl q
   ·exact .inr ⟨k,⟨k1.1,by omega⟩,by rw [lO k k1.2]; exact k2,by rw [aO k k1.2]; exact k3⟩
 ·rw [hbF] at ht
  have e:t≠s:=fun e=>hsF (e ▸ ht)
  rw [wS t t0 t1 e]
  exact h.fs t t0 t1 (by rw [hF]; exact List.mem_cons_of_mem _ ht)
 ·by_cases e:k=n
  ·subst e; rw [aN,ds,da,dg]; exact h1
  ·have kn:k<n:=by omega
   rw [aO k kn]; rw [lO k kn] at hk
   have o:=(h.dw.hd k k0 kn).1.2.2
   rw [wS _ o.1 o.2 (sne k k0 kn hk)]; exact h.ls k k0 kn hk
 ·by_cases e:k=n
  ·subst e
   rw [aN] at x1 ⊢
   rw [dz] at x1
   have hz:=class_room' hc
   have ev:nV V n n x=0:=if_pos rfl
   rw [ev,da]
   refine ⟨by decide,?_⟩
   have:=h3 (1+x) (by omega) (by omega)
   rw [show C.base j+(b.u j+(1+x))=C.base j+b.u j+1+x by omega] at this
   rw [this]; decide
  ·have kn:k<n:=by omega
   rw [aO k kn] at x1 ⊢; rw [lO k kn] at hk; rw [vO k x kn]
   obtain ⟨⟨p1,p2,p3⟩,p4,p5⟩:=h.dw.pl k k0 kn
   have hz:=class_room' (h.dw.hd k k0 kn).2.1
   have pu:=(aw_ule hC h.dw.aw p1.1 (by omega)).2
   unfold Do.rm at p3
   have e:(dd k).a C+1+x=C.base (dd k).j+((dd k).i+(1+x)):=by unfold Do.a; omega
   rw [e,fw.word _ _ p1.1 (by omega) (by omega) (by omega) (by omega),← e]
   exact h.ce k k0 kn hk x x0 x1
theorem Dv.drop (hC:C.ok) (hG:C.G=100) {k:Int} (h:Dv C i n dd li V w b) (hi:i≤90) (k0:0≤k) (k1:k<n) (hk:li k=true)
  (fr:(dd k).fr C w w') (sl:w' (C.slot (dd k).s)=(dd k).nx C) (aw:Bg.aw { b.less (dd k).j (roomOf (classOf (dd k).z)) with F:=if C.G≤(dd k).ge then b.F else (dd k).s :: b.F } C w') :
  Dv C (i+1) n dd (updB li k false) V w' { b.less (dd k).j (roomOf (classOf (dd k).z)) with F:=(dd k).s :: b.F }:=by
 have hdw:=h.dw.drop hC hG hi k0 k1 hk fr sl aw
 have o:=h.dw.ok k k0 k1 hk
 have hgk:=h.dw.gen _ o.s.1 o.s.2
 have hge:slG (w (C.slot (dd k).s))=(dd k).ge:=by rw [o.ws,o.sg]
 have slw:w' (C.slot (dd k).s)=putSlot 0 0 ((dd k).ge+1) 0:=by rw [sl]; unfold Do.nx; rw [if_neg (by omega)]
 have oj:=o.j; have oi:=o.i
 have hzk:=class_room' o.cl
 have hub:=(aw_ule hC h.dw.aw oj.1 oj.2).2
 have hbd:=h.dw.aw.alo.bd
 have wS:∀ t,0≤t→t<C.S→t≠(dd k).s→w' (C.slot t)=w (C.slot t):=fun t t0 t1 ht=>fr.slot hC oj.1 oj.2 oi.1 t0 t1 ht
 have lT:∀ l,updB li k false l=true→l≠k∧li l=true:=fun l hl=>by
  by_cases e:l=k
  ·subst e; rw [show updB li l false l=false from if_pos rfl] at hl; cases hl
  ·rw [show updB li k false l=li l from if_neg e] at hl; exact ⟨e,hl⟩
 refine ⟨hdw,fun t t0 t1=>?_,fun t t0 t1 ht=>?_,fun l l0 l1 hl=>?_,fun l l0 l1 hl x x0 x1=>?_,fun j j0 j1=>?_⟩
 ·show t ∈ (dd k).s :: b.F∨_
  by_cases e:t=(dd k).s
  ·exact .inl (by rw [e]; exact List.mem_cons_self ..)
  ·rcases h.sf t t0 t1 with q | ⟨l,l1,l2,l3⟩
   ·exact .inl (List.mem_cons_of_mem _ q)
   ·have:l≠k:=fun e'=>e (by rw [← e',l3])
    exact .inr ⟨l,l1,by rw [show updB li k false l=li l from if_neg this]; exact l2,l3⟩
 ·by_cases e:t=(dd k).s
  ·rw [e,slw]; have z:=sl_put' (st:=0) (ad:=0) (ge:=(dd k).ge+1) (ve:=0) (by decide) (by decide) (by omega); exact ⟨z.1,z.2.1⟩
  ·rw [wS t t0 t1 e]
   rcases List.mem_cons.1 (show t ∈ (dd k).s :: b.F from ht) with q | q
   ·exact absurd q e
   ·exact h.fs t t0 t1 q
 ·obtain ⟨lk,hl'⟩:=lT l hl
  have ol:=(h.dw.hd l l0 l1).1.2.2
  rw [wS _ ol.1 ol.2 (h.dw.nsl l k l0 l1 k0 k1 hl' hk lk)]; exact h.ls l l0 l1 hl'
 ·obtain ⟨lk,hl'⟩:=lT l hl
  obtain ⟨⟨p1,p2,p3⟩,p4,p5⟩:=h.dw.pl l l0 l1
  have hz:=class_room' (h.dw.hd l l0 l1).2.1
  have pu:=(aw_ule hC h.dw.aw p1.1 (by omega)).2
  have hns:=h.dw.ns l k l0 l1 k0 k1 lk
  have rmk:=(dd k).rm0
  unfold Do.rm at p3 hns rmk
  have e:(dd l).a C+1+x=C.base (dd l).j+((dd l).i+(1+x)):=by unfold Do.a; omega
  rw [e,fr.word hC oj.1 oj.2 oi.1 (by omega) o.s p1.1 (by omega) (by omega) (by omega) fun ⟨q1,q2,q3⟩=>by
   rcases hns with q | q | q
   ·exact q q1
   ·omega
   ·omega,← e]
  exact h.ce l l0 l1 hl' x x0 x1
 ·rw [fr.chunk hC oj.1 oj.2 oi.1 o.s j0 j1]; exact h.n1 j j0 j1
end
theorem c_MakeV (hN:N.ok) (hC:C.ok) (hA:isA N A σ) {i:Int} {n:Nat} {dd:Int→Do} {li:Int→Bool} {V:Int→Int→Int} {b:Bg} {z bb:Int} {own:Bool} (hP:Pa C A bb) (hb:bb<2305843009213693952) (h:Dv C i n dd li V A.w b) (hi:i≤1000) (hcl:0≤classOf z)
  (k0:∀ oE oV oS A' τ,(oE=7∧b.F=[]∨oE=6∧¬ good C b.o b.u (classOf z)∧b.nx=C.C)→Dv C i n dd li V A'.w b→Pa C A' (bb+100)→A'.n=A.n→(∀ i,lowW C i→A'.w i=A.w i)→isA N A' τ→Keep N.l σ τ→K (.agg #[.int .i64 oE,.int .u64 0,.int .i64 oV,.int .i64 oS]) τ)
  (k1:∀ oV oS A' τ s F j b' d,b.F=s :: F→Got C b F (classOf z) j b'→(d.own=own∧d.j=j∧d.z=z∧d.i=b.u j)→Dv C (i+1) (n+1) (addD dd n d) (updB li n true) (nV V n) A'.w (b'.count j (roomOf (classOf z)))→Pa C A' (bb+100)→A'.n=A.n→(∀ i,lowW C i→A'.w i=A.w i)→isA N A' τ→Keep N.l σ τ →
   K (.agg #[.int .i64 0,.int .u64 d.n,.int .i64 oV,.int .i64 oS]) τ):s_bb [N.env C who,.int .i64 z,.bool own] K σ:=by
 refine c_MakeQ hN hC hA hP hb h.dw.aw (h.dw.lv.ok (by omega)) hcl h.n1 fun m A' τ hD hP' hn hck hlo hq hA' hK=>?_
 have hfw:=hD.fw
 rcases hD.r with ⟨e,eH,eF,haw⟩ | ⟨s,F,hF,⟨e,eH,ng,nx,haw⟩ | ⟨e,_,j,b',hg,jb,ub,eH,haw,w1,w2,w3⟩⟩
 ·rw [eH]
  exact k0 _ _ _ A' τ (.inl ⟨e,eF⟩) (h.same hC haw (fun t t0 t1=>hfw.slot t t0 t1 fun q=>by rw [e] at q; exact absurd q (by decide)) (fun j x j0 j1 x0 x1 x2=>hfw.word j x j0 j1 x0 x1 x2) hck hq) hP' hn hlo hA' hK
 ·rw [eH]
  exact k0 _ _ _ A' τ (.inr ⟨e,ng,nx⟩) (h.same hC haw (fun t t0 t1=>hfw.slot t t0 t1 fun q=>by rw [e] at q; exact absurd q (by decide)) (fun j x j0 j1 x0 x1 x2=>hfw.word j x j0 j1 x0 x1 x2) hck hq) hP' hn hlo hA' hK
 ·rw [e,eH]
  exact k1 _ _ A' τ s F j b' (Do.mk' C b s (slG (A.w (C.slot s))) z own j) hF hg ⟨rfl,rfl,rfl,rfl⟩ (h.make hC hi hF hcl hg haw w1 w2 w3 (hfw.mono fun _=>trivial) hck hq) hP' hn hlo hA' hK
theorem c_DropV (hN:N.ok) (hC:C.ok) (hG:C.G=100) (hA:isA N A σ) {i k:Int} {n:Nat} {dd:Int→Do} {li:Int→Bool} {V:Int→Int→Int} {b:Bg} {bb:Int} (hP:Pa C A bb) (hb:bb<2305843009213693952) (h:Dv C i n dd li V A.w b) (hi:i≤90) (k0:0≤k) (k1:k<n) (hk:li k=true)
  (kk:∀ oH oV oS A' τ,Dv C (i+1) n dd (updB li k false) V A'.w { b.less (dd k).j (roomOf (classOf (dd k).z)) with F:=(dd k).s :: b.F }→Pa C A' (bb+60)→A'.n=A.n→(∀ i,lowW C i→A'.w i=A.w i)→isA N A' τ→Keep N.l σ τ→K (.agg #[.int .i64 0,.int .u64 oH,.int .i64 oV,.int .i64 oS]) τ) :
  s_bc [N.env C who,.int .u64 (dd k).n,.bool (dd k).own] K σ:=by
 have o:=h.dw.ok k k0 k1 hk
 have hlv:=h.dw.lv.lv _ o.j.1 o.j.2
 refine c_DropAn hN hC hA hP hb h.dw.aw o (by omega) fun m A' τ hD hP' hn' hA' hK=>?_
 refine kk _ _ _ A' τ (h.drop hC hG hi k0 k1 hk hD.fr hD.sl hD.aw) hP' hn' (fun x hx=>?_) hA' hK
 have hx':x=0∨6≤x∧x<6+C.T:=hx
 have hbd:=base_ge hC o.j.1 o.j.2 o.i.1
 have ea:(dd k).a C=C.base (dd k).j+(dd k).i:=rfl
 have os:=o.s
 have oj:=o.j
 have hT:=hC.T
 exact hD.fr x (by unfold Cf.slot; omega) (by omega) (by unfold Cf.slot; omega) (by unfold Cf.chunk; omega) (by omega)
end Go.Fl
namespace Go.Fl
open Go
set_option linter.unusedVariables false
set_option linter.unusedSimpArgs false
variable {N:Nm} {A B:Ar} {σ:Mem} {K:Value→Mem→Prop} {C:Cf} {who:Int} {P:MP}
def MP.of (C:Cf) (w:Int→Int):MP:=⟨w,fun s=>decide (slS (w (C.slot s))=1),fun s=>slG (w (C.slot s)),fun s=>hdS (w (slA (w (C.slot s)))),fun s=>hdO (w (slA (w (C.slot s)))),fun s x=>ceV (w (slA (w (C.slot s))+1+x)),100,-1,0⟩
section
variable {i:Int} {n:Nat} {dd:Int→Do} {li:Int→Bool} {V:Int→Int→Int} {w w':Int→Int} {b:Bg}
theorem Dw.mul (hC:C.ok) (h:Dw C i n dd li w b) {k:Int} (k0:0≤k) (k1:k<n):(dd k).i % (dd k).rm=0:=by
 obtain ⟨⟨p1,p2,p3⟩,p4,p5⟩:=h.pl k k0 k1
 have rm:=(dd k).rm0
 have hr:=room_bd (h.hd k k0 k1).2.1 (class_bd (dd k).z).2
 have er:roomOf (chC (w (C.chunk (dd k).j)))=(dd k).rm:=by rw [p4]; rfl
 have hrm:3≤(dd k).rm:=hr.1
 have e1:=Int.emod_add_mul_ediv (dd k).i (dd k).rm
 have e2:=Int.emod_nonneg (dd k).i (show (dd k).rm≠0 by omega)
 have e3:=Int.emod_lt_of_pos (dd k).i (show 0<(dd k).rm by omega)
 have e4:0≤(dd k).rm*((dd k).i / (dd k).rm):=Int.mul_nonneg (by omega) (Int.ediv_nonneg p2 (by omega))
 obtain ⟨k',k1',q1,q2⟩:=h.cov (dd k).j ((dd k).rm*((dd k).i / (dd k).rm)) p1.1 p1.2 e4 (by omega) (by rw [er]; exact Int.mul_emod_right _ _)
 by_cases e:k'=k
 ·subst e; omega
 ·obtain ⟨_,p4',_⟩:=h.pl k' k1'.1 k1'.2
  have er':(dd k').rm=(dd k).rm:=by
   rw [q1,p4] at p4'
   unfold Do.rm; rw [p4']
  rcases h.ns k' k k1'.1 k1'.2 k0 k1 e with q | q | q
  ·exact absurd q1 q
  ·omega
  ·omega
theorem Dv.one (hC:C.ok) (h:Dv C i n dd li V w b) (hi:i≤1000) {k:Int} (k0:0≤k) (k1:k<n) (hk:li k=true) :
  (MP.of C w).lv (dd k).s=true∧(MP.of C w).g (dd k).s=(dd k).ge∧(MP.of C w).z (dd k).s=(dd k).z∧(MP.of C w).o (dd k).s=(dd k).own∧(∀ x,0≤x→x<(dd k).z→(MP.of C w).L (dd k).s x=V k x)∧slA (w (C.slot (dd k).s))=(dd k).a C∧(0≤(dd k).a C∧(dd k).a C≤1048575):=by
 have o:=h.dw.ok k k0 k1 hk
 have hd:=h.dw.hd k k0 k1
 obtain ⟨⟨p1,p2,p3⟩,p4,p5⟩:=h.dw.pl k k0 k1
 have hbd:=h.dw.aw.alo.bd
 have av:=(dd k).av hC o ⟨_,h.dw.aw⟩
 have hS:=hC.S
 have z:=sl_put' (st:=1) (ad:=(dd k).a C) (ge:=(dd k).ge) (ve:=0) (by decide) (by omega) (by omega)
 have hh:=hd_put (k:=2) (s:=(dd k).z) (t:=(dd k).s) (g:=(dd k).ge) (o:=(dd k).own) (by decide) (by omega) (by omega) (by omega)
 have ls:=h.ls k k0 k1 hk
 have ea:slA (w (C.slot (dd k).s))=(dd k).a C:=by rw [ls]; exact z.2.1
 refine ⟨?_,?_,?_,?_,fun x x0 x1=>?_,ea,by omega⟩
 ·show decide (slS (w (C.slot (dd k).s))=1)=true
  rw [ls,z.1]; decide
 ·show slG (w (C.slot (dd k).s))=_
  rw [ls]; exact z.2.2
 ·show hdS (w (slA (w (C.slot (dd k).s))))=_
  rw [ea,p5]; exact hh.2.1
 ·show hdO (w (slA (w (C.slot (dd k).s))))=_
  rw [ea,p5]; exact hh.2.2.2.2
 ·show ceV (w (slA (w (C.slot (dd k).s))+1+x))=_
  obtain ⟨c1,c2⟩:=h.ce k k0 k1 hk x x0 x1
  rw [ea,c2]; exact (ce_put c1 (by decide)).1
theorem Dv.who' (hC:C.ok) (h:Dv C i n dd li V w b) {s:Int} (s0:0≤s) (s1:s<C.S) (l:(MP.of C w).lv s=true):∃ k:Int,(0≤k∧k<n)∧li k=true∧(dd k).s=s:=by
 have l':slS (w (C.slot s))=1:=of_decide_eq_true l
 rcases h.sf s s0 s1 with q | q
 ·have:=h.fs s s0 s1 q; omega
 ·exact q
theorem Dv.ms (hC:C.ok) (h:Dv C i n dd li V w b) (hi:i≤1000) (cc:C.C≤8∧C.W≤40):MS C (MP.of C w):=by
 refine ⟨cc,fun s s0 s1 l=>?_,fun s s0 s1 l=>?_,.inl rfl,by show (0:Int)≤100∧(100:Int)≤1000; decide⟩
 ·obtain ⟨k,k1,k2,rfl⟩:=h.who' hC s0 s1 l
  obtain ⟨u1,u2,u3,u4,u5,u6,u7⟩:=h.one hC hi k1.1 k1.2 k2
  have hd:=h.dw.hd k k1.1 k1.2
  rw [u3,u2]
  refine ⟨hd.2.1,by omega,fun x x0 x1=>?_⟩
  rw [u5 x x0 x1]; exact (h.ce k k1.1 k1.2 k2 x x0 x1).1
 ·have l':¬ slS (w (C.slot s))=1:=of_decide_eq_false l
  show slS (w (C.slot s))≠1∧slS (w (C.slot s))≠4
  rcases h.sf s s0 s1 with q | ⟨k,k1,k2,rfl⟩
  ·have:=h.fs s s0 s1 q; omega
  ·have:=of_decide_eq_true (h.one hC hi k1.1 k1.2 k2).1
   exact absurd this l'
theorem Dv.mw (hC:C.ok) (h:Dv C i n dd li V w b) (hi:i≤1000) (cc:C.C≤8∧C.W≤40) {t:Int} (ht:1≤t) (hbw:∀ i,0≤w i∧w i<18446744073709551616) (h0:w 0≤t) (hpi:∀ i,0≤i→i<C.T→w (6+i)=0):MW C (MP.of C w) t (-1) (-1) w:=by
 have hbd:=h.dw.aw.alo.bd
 have hS:=hC.S
 refine ⟨hbw,fun j j0 j1=>?_,fun j x j0 j1 hs x0 x1 xm _=>?_,fun s s0 s1 l=>rfl,fun s s0 s1 l _=>?_,fun k k0 k1=>h.dw.op k0 k1,h0,hpi,.inl rfl⟩
 ·have hn:=h.n1 j j0 j1
  by_cases q:j<b.nx
  ·have old:=h.dw.aw.alo.old j j0 q
   have um:=h.dw.um j j0 q
   exact ⟨um.2.1,by rw [old.2.1]; exact old.2.2.2,by rw [old.2.1]; exact um.1,by omega,fun g=>by omega⟩
  ·have nw:=(h.dw.aw.alo.new j (by omega) j1).1
   rw [nw] at hn ⊢
   exact ⟨by decide,by have:=hC.W; show (0:Int)≤C.W; omega,by decide,by omega,fun g=>absurd g (by decide)⟩
 ·have hc:=h.dw.chs j0 j1
  have jn:j<b.nx:=hc.2.2 (by rcases hs with q | q <;> rcases hc.1 with u | u <;> omega)
  rw [hc.2.1] at x1
  obtain ⟨k,k1,e1,e2⟩:=h.dw.cov j x j0 jn x0 x1 xm
  obtain ⟨_,p4,p5⟩:=h.dw.pl k k1.1 k1.2
  have hd:=h.dw.hd k k1.1 k1.2
  have hz:=class_room' hd.2.1
  have hh:=hd_put (k:=2) (s:=(dd k).z) (t:=(dd k).s) (g:=(dd k).ge) (o:=(dd k).own) (by decide) (by omega) (by omega) (by omega)
  have ea:(dd k).a C=C.base j+x:=by unfold Do.a; rw [e1,e2]
  rw [ea] at p5
  rw [p5]
  exact .inr (.inl ⟨hh.1,by rw [hh.2.2.1]; exact hd.1.2.2,by rw [hh.2.1]; exact hd.2.1⟩)
 ·obtain ⟨k,k1,k2,rfl⟩:=h.who' hC s0 s1 l
  obtain ⟨u1,u2,u3,u4,u5,u6,u7⟩:=h.one hC hi k1.1 k1.2 k2
  obtain ⟨⟨p1,p2,p3⟩,p4,p5⟩:=h.dw.pl k k1.1 k1.2
  have hd:=h.dw.hd k k1.1 k1.2
  have old:=h.dw.aw.alo.old _ p1.1 p1.2
  have um:=h.dw.um _ p1.1 p1.2
  have rmz:(MP.of C w).rm (dd k).s=(dd k).rm:=by unfold MP.rm Do.rm; rw [u3]
  refine ⟨(dd k).a C,0,by rw [u2]; exact h.ls k k1.1 k1.2 k2,⟨Int.le_refl 0,by omega⟩,⟨(dd k).j,(dd k).i,rfl,⟨p1.1,by omega⟩,by rw [rmz,old.2.1]; exact ⟨p2,p3⟩,?_,by rw [u3]; exact p4,.inl old.1⟩,?_,fun x x0 x1=>?_⟩
  · -- its place is a multiple of its room
   rw [rmz]
   exact h.dw.mul hC k1.1 k1.2
  ·unfold MP.hw
   rw [if_neg (by show (dd k).a C ≠ -1; omega),u3,u2,u4]; exact p5
  ·rw [u3] at x1; rw [u5 x x0 x1]; exact (h.ce k k1.1 k1.2 k2 x x0 x1).2
end
theorem WI.init (hC:C.ok) (hS:MS C P) (mw:MW C P P.N0 (-1) (-1) A.w) (nn:C.len≤A.n∧(A.n:Int)≤200000000) (n2:no2 C A.w):WI C P (2*C.C+2310) Co.new A:=by
 have hn0:=hS.n0
 have hC3:=hC.C
 have hcc:=hS.cc
 have et:tW P Co.new - (2*C.C+2310)=P.N0+(690 - 2*C.C):=by show P.N0+3000*0+3000 - (2*C.C+2310)=_; omega
 refine ⟨hS,nn,by omega,.p0 rfl rfl rfl ?_ n2 ⟨Int.le_refl 0,by show (0:Int)<C.C; omega⟩ (fun e=>absurd rfl e) (by show 2*(C.C - 0)+2310≤2*C.C+2310; omega),?_⟩
 ·rw [et]; exact mw.mono (by omega)
 ·rw [et]
  exact ⟨⟨by decide,by show (0:Int)≤_; omega⟩,⟨by decide,by show (0:Int)≤_; omega⟩,⟨by decide,by show (0:Int)≤_; omega⟩,⟨by decide,by show (0:Int)≤_; omega⟩,by decide,by decide⟩
theorem Dv.wi (hC:C.ok) {i:Int} {n:Nat} {dd:Int→Do} {li:Int→Bool} {V:Int→Int→Int} {b:Bg} (h:Dv C i n dd li V A.w b) (hi:i≤1000) (cc:C.C≤8∧C.W≤40) (hbw:∀ i,0≤A.w i∧A.w i<18446744073709551616) (h0:A.w 0=0) (hpi:∀ i,0≤i→i<C.T→A.w (6+i)=0) (nn:C.len≤A.n∧(A.n:Int)≤200000000) :
  WI C (MP.of C A.w) (2*C.C+2310) Co.new A:=
 WI.init hC (h.ms hC hi cc) (h.mw hC hi cc (by show (1:Int)≤100; decide) hbw (by rw [h0]; show (0:Int)≤100; decide) hpi) nn fun j j0 j1=>by rcases (h.dw.chs j0 j1).1 with q | q <;> omega
def okT (C:Cf) (A:Ar) (a:Int):Prop:=a<C.base 0∨∃ j x,(0≤j∧j<C.C)∧0≤x∧a=C.base j+x∧chS (A.w (C.chunk j))≠0∧x<chU (A.w (C.chunk j))∧chU (A.w (C.chunk j))≤C.W
structure Tx (C:Cf) (A A':Ar):Prop where
 s:A'.s=IntKind.i64.wrap (A.s+1)
 la:okT C A A'.la
 ck:¬ A'.la<C.base 0→∀ j,0≤j→j<C.C→A'.w (C.chunk j)=A.w (C.chunk j)
 fm:∃ who a,A'=(A.by who).load a∨∃ v,A'=(A.by who).store a v
theorem Tx.ld {a:Int} (h:okT C A a):Tx C A ((A.by who).load a):=⟨rfl,h,fun _ _ _ _=>rfl,_,_,.inl rfl⟩
theorem Tx.st (hC:C.ok) {a v:Int} (h:okT C A a):Tx C A ((A.by who).store a v):=⟨rfl,h,fun q j j0 j1=>upd_ne _ _ (by
 have q':¬ a<C.base 0:=q
 have:=ck_lt hC j0 j1
 have e0:C.base 0=6+C.T+2*C.S+3*C.C:=by unfold Cf.base; omega
 omega),_,_,.inr ⟨_,rfl⟩⟩
theorem Tx.ok {A':Ar} {b:Int} (h:Tx C A A') (ho:A.ok b) (hb:b<4611686018427387904) (hw:∀ i,0≤A'.w i∧A'.w i<18446744073709551616):A'.ok (b+1):=by
 obtain ⟨who,a,rfl | ⟨v,rfl⟩⟩:=h.fm
 ·exact (aft_load ho (by omega)).ok (by decide) ho hw
 ·exact (aft_store ho (by omega)).ok (by decide) ho hw
theorem Tx.cs (hC:C.ok) {a o v:Int} (h:okT C A a):Tx C A ((A.by who).cas a o v):=by
 by_cases e:A.w a=o
 ·rw [cas_yes (show (A.by who).w _=_ from e)]; exact Tx.st hC h
 ·rw [cas_no (show (A.by who).w _≠_ from e)]; exact Tx.ld h
theorem Tx.ad (hC:C.ok) {a d:Int} (h:okT C A a):Tx C A ((A.by who).add a d):=by rw [add_eq]; exact Tx.st hC h
theorem okT.lo (hC:C.ok) {a:Int} (h:a=0∨a=1∨(∃ k,0≤k∧k≤3∧a=2+k)∨(∃ i,0≤i∧i<C.T∧a=6+i)∨(∃ s,0≤s∧s<C.S∧a=C.slot s)∨∃ j d,(0≤j∧j<C.C)∧(0≤d∧d≤2)∧a=C.chunk j+d):okT C A a:=by
 have e0:C.base 0=6+C.T+2*C.S+3*C.C:=by unfold Cf.base; omega
 have hT:=hC.T; have hS:=hC.S; have hC3:=hC.C
 refine .inl ?_
 rcases h with e | e | ⟨k,k0,k1,e⟩ | ⟨k,k0,k1,e⟩ | ⟨s,s0,s1,e⟩ | ⟨j,d,j0,d0,e⟩
 ·omega
 ·omega
 ·omega
 ·omega
 ·unfold Cf.slot at e; omega
 ·unfold Cf.chunk at e; omega
theorem okT.ck (hC:C.ok) {j:Int} (j0:0≤j) (j1:j<C.C) {d:Int} (hd:0≤d∧d≤2):okT C A (C.chunk j+d):=okT.lo hC (.inr (.inr (.inr (.inr (.inr ⟨j,d,⟨j0,j1⟩,hd,rfl⟩)))))
theorem okT.ck0 (hC:C.ok) {j:Int} (j0:0≤j) (j1:j<C.C):okT C A (C.chunk j):=by
 have:=okT.ck (A:=A) hC j0 j1 (d:=0) (by decide)
 rwa [Int.add_zero] at this
theorem okT.sl (hC:C.ok) {s:Int} (h:0≤s∧s<C.S):okT C A (C.slot s):=okT.lo hC (.inr (.inr (.inr (.inr (.inl ⟨s,h.1,h.2,rfl⟩)))))
theorem MvI.touch (hC:C.ok) (hS:MS C P) {T at' pos cw q:Int} {m:Mv} (h:MvI C P T at' pos cw q m A.w) (hT:T≤4194000) (hq:1≤q):Tx C A (m.step C who A).2.2:=by
 cases h with
 | a h=>
  obtain ⟨e,_⟩:=h.step (who:=who) hC hS hT
  rw [e]
  have es:m.a.hs=hdT (A.w (C.base at'+pos)):=by rw [h.em]; rfl
  exact Tx.ld (okT.sl hC (by rw [es]; exact h.t))
 | b s v k u hc h=>
  obtain ⟨⟨a,ha,e | ⟨y,_,e⟩⟩,_⟩:=h.step (who:=who) hC hS hc hT hq
  all_goals
   have hcl:0≤classOf (P.z s)∧classOf (P.z s)≤3:=⟨(hS.lv s hc.sb.1 hc.sb.2 hc.l).1,(class_bd _).2⟩
   have ho:okT C A a:=by
    rcases ha with rfl | ⟨j,j0,j1,rfl⟩
    ·exact okT.lo hC (.inr (.inr (.inl ⟨_,hcl.1,hcl.2,rfl⟩)))
    ·exact okT.ck0 hC j0 j1
   rw [e]
  ·exact Tx.ld ho
  ·exact Tx.st hC ho
 | c s v xs hc h=>
  obtain ⟨rr,gp,gx,ga,gs,gg,gS,gne⟩:=h.geo hC hS hc
  obtain ⟨c1,c2,c3,c4,c5,c6⟩:=hc.con
  have hib:=h.ib
  have px:=h.pa.xb
  have sx:=h.sp.x
  have uW:=h.uW
  have oa:∀ d,0≤d→d≤P.z s→okT C A (m.a.addr+d):=fun d d0 d1=>.inr ⟨at',pos+d,h.ev.ab,by omega,by rw [c1]; omega,by rcases h.pa.st with q | q <;> omega,by omega,uW.1⟩
  have os:∀ d,0≤d→d≤P.z s→okT C A (m.a.sa+d):=fun d d0 d1=>.inr ⟨m.a.sc,xs+d,h.sp.j,by omega,by rw [h.sp.esa]; omega,by have:=h.sp.st; omega,by omega,uW.2⟩
  have os0:okT C A m.a.sa:=by have:=os 0 (Int.le_refl 0) (by omega); rwa [Int.add_zero] at this
  have osl:okT C A (C.slot m.a.hs):=okT.sl hC (by rw [c4]; exact hc.sb)
  have hpc:(2≤m.a.pc∧m.a.pc≤10)∧(m.a.pc=4∨m.a.pc=5∨m.a.pc=6→m.a.i<P.z s):=by
   rcases h.ph with ⟨h',_⟩ | ⟨_,_,⟨_,_,⟨p,hi,_⟩ | ⟨p,hi,_⟩ | ⟨p,hi,_⟩ | ⟨p,_⟩⟩ | ⟨p,_⟩⟩ | ⟨p,_⟩
   ·rcases h' with e | ⟨e,_⟩ <;> omega
   all_goals omega
  obtain ⟨hb,hi⟩:=hpc
  unfold Mv.step
  rw [if_neg (show ¬ m.a.pc=0 by omega),if_neg (show ¬ m.a.pc=1 by omega)]
  by_cases p2:m.a.pc=2
  ·rw [if_pos p2]; exact Tx.st hC os0
  rw [if_neg p2]
  by_cases p3:m.a.pc=3
  ·rw [if_pos p3]; exact Tx.cs hC osl
  rw [if_neg p3]
  by_cases p4:m.a.pc=4
  ·rw [if_pos p4]
   have:=oa (1+m.a.i) (by omega) (by have:=hi (.inl p4); omega)
   rw [← Int.add_assoc] at this
   exact Tx.ld this
  rw [if_neg p4]
  by_cases p5:m.a.pc=5
  ·rw [if_pos p5]
   have:=oa (1+m.a.i) (by omega) (by have:=hi (.inr (.inl p5)); omega)
   rw [← Int.add_assoc] at this
   exact Tx.cs hC this
  rw [if_neg p5]
  by_cases p6:m.a.pc=6
  ·rw [if_pos p6]
   have:=os (1+m.a.i) (by omega) (by have:=hi (.inr (.inr p6)); omega)
   rw [← Int.add_assoc] at this
   exact Tx.st hC this
  rw [if_neg p6]
  by_cases p7:m.a.pc=7
  ·rw [if_pos p7]; (repeat' split) <;> exact Tx.cs hC osl
  rw [if_neg p7]
  by_cases p8:m.a.pc=8
  ·rw [if_pos p8]; exact Tx.st hC os0
  rw [if_neg p8]
  by_cases p9:m.a.pc=9
  ·rw [if_pos p9]; exact Tx.ad hC (okT.ck hC h.sp.j.1 h.sp.j.2 (by decide))
  rw [if_neg p9,if_pos (show m.a.pc=10 by omega),c1,(base_of hC h.ev.ab.1 h.ev.ab.2 gp.1 (by omega)).1]
  exact Tx.ad hC (okT.ck hC h.ev.ab.1 h.ev.ab.2 (by decide))
theorem WI.touch (hC:C.ok) {q:Int} {c:Co} (h:WI C P q c A) (hrd:c.r.rd≤1300) (r:Int):Tx C A (c.step C who A r).2:=by
 obtain ⟨hS,nn,q3,wc,nm⟩:=h
 have hn0:=hS.n0
 have hT4:tW P c≤4194000:=by unfold tW; omega
 have o0:okT C A 0:=okT.lo hC (.inl rfl)
 cases wc with
 | p0 hp ha hs mw n2 h0 hl hq=>
  unfold Co.step; rw [if_pos hp]; exact Tx.ld (okT.ck0 hC h0.1 h0.2)
 | p1 hp ha hs mw n2 h0 hl hq=>
  unfold Co.step; rw [if_neg (by omega),if_pos hp]; exact Tx.ld (okT.ck hC h0.1 h0.2 (by decide))
 | p2 hp ha hs mw n2 h0 hl hq=>
  unfold Co.step; rw [if_neg (by omega),if_neg (by omega),if_pos hp]
  (repeat' split) <;> exact Tx.ld (okT.lo hC (.inr (.inr (.inl ⟨_,h0.1,by omega,rfl⟩))))
 | p3 hp ha hs mw n2 h0 h1 hw hq=>
  unfold Co.step; rw [if_neg (by omega),if_neg (by omega),if_neg (by omega),if_pos hp]; exact Tx.cs hC (okT.ck0 hC h0.1 h0.2)
 | p4 hp ha hs mw ev px hq=>
  have o:okT C A (C.base c.r.at'+c.r.pos):=.inr ⟨_,_,ev.ab,px.x.1,rfl,by rw [ev.ecw,ev.c2]; decide,by rw [ev.ecw]; exact px.x.2,by rw [ev.ecw]; exact px.u⟩
  unfold Co.step; rw [if_neg (by omega),if_neg (by omega),if_neg (by omega),if_neg (by omega),if_pos hp]
  (repeat' split) <;> exact Tx.ld o
 | p5 hp ha hs mv h0 px hw hq=>
  have pr:=wpos_room px
  unfold Co.step; rw [if_neg (by omega),if_neg (by omega),if_neg (by omega),if_neg (by omega),if_neg (by omega),if_pos hp]
  exact mv.touch hC hS (by unfold evB; omega) (by omega)
 | p6 hp ha hs mw ev hn hq=>
  rcases (show c.r.pc=6∨c.r.pc=7∨c.r.pc=8 by omega) with e | e | e
  ·unfold Co.step; rw [if_neg (by omega),if_neg (by omega),if_neg (by omega),if_neg (by omega),if_neg (by omega),if_neg (by omega),if_pos e]; exact Tx.ld o0
  ·unfold Co.step; rw [if_neg (by omega),if_neg (by omega),if_neg (by omega),if_neg (by omega),if_neg (by omega),if_neg (by omega),if_neg (by omega),if_pos e]; exact Tx.st hC (okT.ck hC ev.ab.1 ev.ab.2 (by decide))
  ·unfold Co.step; rw [if_neg (by omega),if_neg (by omega),if_neg (by omega),if_neg (by omega),if_neg (by omega),if_neg (by omega),if_neg (by omega),if_neg (by omega),if_pos e]; exact Tx.st hC (okT.ck0 hC ev.ab.1 ev.ab.2)
 | p9 hp ha hs mw ev hq=>
  unfold Co.step; rw [if_neg (by omega),if_neg (by omega),if_neg (by omega),if_neg (by omega),if_neg (by omega),if_neg (by omega),if_neg (by omega),if_neg (by omega),if_neg (by omega),if_pos hp]; exact Tx.st hC (okT.ck0 hC ev.ab.1 ev.ab.2)
 | p10 hp hs mw n2 ha hq=>
  have hT:=hC.T
  have hst:Tx C A ((c.a.getD Adv.new).step C who A).2.2:=by
   cases ea:c.a with
   | none=>rw [Option.getD_none]; unfold Adv.step; rw [if_pos (show Adv.new.pc=0 from rfl)]; exact Tx.ld o0
   | some v=>
    obtain ⟨_,v2⟩:=ha v ea
    rw [Option.getD_some]; unfold Adv.step
    rcases v2 with ⟨q1,q2⟩ | ⟨q1,q2⟩
    ·rw [if_neg (by omega),if_pos q1]
     (repeat' split) <;> exact Tx.ld (okT.lo hC (.inr (.inr (.inr (.inl ⟨_,q2.1,q2.2,rfl⟩)))))
    ·rw [if_neg (by omega),if_neg (by omega)]; exact Tx.cs hC o0
  rw [step10w hp]
  split <;> exact hst
 | p11 hp ha mw n2 h0 hs hq=>
  have hst:Tx C A ((c.s.getD (Stl.new c.r.at')).step C who A).2.2:=by
   cases es:c.s with
   | none=>rw [Option.getD_none]; unfold Stl.step; rw [if_pos (show (Stl.new c.r.at').pc=0 from rfl)]; exact Tx.ld (okT.ck0 hC h0.1 h0.2)
   | some v=>
    obtain ⟨v1,v3,v4,v5,v6⟩:=hs v es
    rw [Option.getD_some]; unfold Stl.step; rw [v1]
    rcases v6 with ⟨q1 | q1,q2⟩ | ⟨q1,q2⟩ | q1 | q1
    ·rw [if_neg (by omega),if_pos q1]; exact Tx.ld (okT.ck hC h0.1 h0.2 (by decide))
    ·rw [if_neg (by omega),if_neg (by omega),if_pos q1]; exact Tx.ld o0
    ·rw [if_neg (by omega),if_neg (by omega),if_neg (by omega),if_pos q1]
     exact Tx.st hC (.inr ⟨_,_,h0,q2.1,rfl,by rw [v3]; decide,by rw [← v4]; exact q2.2,(mw.ck _ h0.1 h0.2).u⟩)
    ·rw [if_neg (by omega),if_neg (by omega),if_neg (by omega),if_neg (by omega),if_pos q1]; exact Tx.st hC (okT.ck hC h0.1 h0.2 (by decide))
    ·rw [if_neg (by omega),if_neg (by omega),if_neg (by omega),if_neg (by omega),if_neg (by omega)]; exact Tx.st hC (okT.ck0 hC h0.1 h0.2)
  rw [step11w hp]
  split <;> exact hst
end Go.Fl
namespace Go.Fl
open Go
set_option linter.unusedVariables false
set_option linter.unusedSimpArgs false
variable {C:Cf} {w w':Int→Int} {P:MP} {A:Ar} {who:Int}
structure Qs where
 st:Int→Int
 us:Int→Int
 lv:Int→Int
 sc:Int→Int
 o:Int→Int
 kd:Int→Int
 e:Int
 fd:Int
variable {Q Qm:Qs}
structure QW (C:Cf) (P:MP) (Q:Qs) (w:Int→Int):Prop where
 st:∀ j,0≤j→j<C.C→chS (w (C.chunk j))=Q.st j
 c1:∀ j,0≤j→j<C.C→Q.st j=1→chU (w (C.chunk j))=Q.us j∧IntKind.i64.wrap (w (C.chunk j+1))=Q.lv j
 c3:∀ j,0≤j→j<C.C→Q.st j=3→w (C.chunk j+2)=Q.sc j∧0≤Q.sc j∧Q.sc j≤Q.e
 o:∀ k,0≤k→k≤3→w (2+k)=Q.o k
 e:w 0=Q.e
 k0:∀ j,0≤j→j<C.C→Q.kd j=0→∀ r,0≤r→r<C.S→P.lv r=true→∀ x,0≤x→x<C.W→slA (w (C.slot r))≠C.base j+x
 k1:∀ j,0≤j→j<C.C→Q.kd j=1→P.pd=C.base j
def mayQ (C:Cf) (Q:Qs) (j:Int):Prop:=Q.st j=1∧(∀ k,0≤k→k≤3→Q.o k≠j+1)∧0<Q.us j∧(Q.lv j≤0∨IntKind.i64.wrap (1000*Q.lv j)<IntKind.i64.wrap (C.P*Q.us j))
def Qs.ev (Q:Qs) (r:Int):Qs:={ Q with st:=upd Q.st r 2 }
def Qs.qu (Q:Qs) (r:Int):Qs:={ Q with st:=upd Q.st r 3,sc:=upd Q.sc r Q.e }
def Qs.fr (Q:Qs) (j:Int):Bool:=decide (Q.st j=3∧Q.sc j+2≤Q.e)
def Qs.ep (Q:Qs):Qs:={ Q with e:=Q.e+1 }
def Qs.half (Q:Qs) (a:Int):Qs:={ Q with st:=fun j=>if j<a∧Q.fr j=true then 0 else Q.st j,fd:=Q.fd+cnt Q.fr a.toNat }
def Pk (C:Cf) (Q Qm:Qs):Prop:=Qm=Q∧((∀ j,0≤j→j<C.C→¬ mayQ C Q j)∨∃ r,(0≤r∧r<C.C)∧mayQ C Q r∧Q.kd r=1)∨∃ r,(0≤r∧r<C.C)∧mayQ C Q r∧Q.kd r=0∧Qm=Q.qu r
theorem QW.may (h:QW C P Q w) {j:Int} (j0:0≤j) (j1:j<C.C):(see C w 4 j).may C ↔ mayQ C Q j:=by
 have ho:opB w 4 j=false ↔ ∀ k,0≤k→k≤3→Q.o k≠j+1:=by
  have o0:=h.o 0 (by decide) (by decide)
  have o1:=h.o 1 (by decide) (by decide)
  have o2:=h.o 2 (by decide) (by decide)
  have o3:=h.o 3 (by decide) (by decide)
  rw [show (2:Int)+0=2 by decide] at o0
  rw [show (2:Int)+1=3 by decide] at o1
  rw [show (2:Int)+2=4 by decide] at o2
  rw [show (2:Int)+3=5 by decide] at o3
  unfold opB
  rw [decide_eq_false_iff_not,o0,o1,o2,o3]
  constructor
  ·intro q k k0 k3
   rcases (show k=0∨k=1∨k=2∨k=3 by omega) with rfl | rfl | rfl | rfl <;> omega
  ·intro q
   have:=q 0 (by decide) (by decide)
   have:=q 1 (by decide) (by decide)
   have:=q 2 (by decide) (by decide)
   have:=q 3 (by decide) (by decide)
   omega
 have e1:(see C w 4 j).st=Q.st j:=h.st j j0 j1
 unfold Sn.may mayQ
 rw [e1]
 constructor
 ·rintro ⟨a,b,c,d⟩
  obtain ⟨u,l⟩:=h.c1 j j0 j1 a
  have e2:(see C w 4 j).us=Q.us j:=u
  have e3:(see C w 4 j).live=Q.lv j:=l
  rw [e2] at c; rw [e2,e3] at d
  exact ⟨a,ho.1 b,c,d⟩
 ·rintro ⟨a,b,c,d⟩
  obtain ⟨u,l⟩:=h.c1 j j0 j1 a
  have e2:(see C w 4 j).us=Q.us j:=u
  have e3:(see C w 4 j).live=Q.lv j:=l
  rw [e2,e3]
  exact ⟨a,ho.2 b,c,d⟩
theorem QW.same (h:QW C P Q w) (hc:∀ j,0≤j→j<C.C→w' (C.chunk j)=w (C.chunk j)) (hl:∀ j,0≤j→j<C.C→Q.st j=1→w' (C.chunk j+1)=w (C.chunk j+1)) (hs:∀ j,0≤j→j<C.C→Q.st j=3→w' (C.chunk j+2)=w (C.chunk j+2))
  (ho:∀ k,0≤k→k≤3→w' (2+k)=w (2+k)) (he:w' 0=w 0) (hr:∀ r,0≤r→r<C.S→w' (C.slot r)=w (C.slot r)):QW C P Q w':=
 ⟨fun j j0 j1=>by rw [hc j j0 j1]; exact h.st j j0 j1,fun j j0 j1 q=>by rw [hc j j0 j1,hl j j0 j1 q]; exact h.c1 j j0 j1 q,fun j j0 j1 q=>by rw [hs j j0 j1 q]; exact h.c3 j j0 j1 q,fun k k0 k1=>by rw [ho k k0 k1]; exact h.o k k0 k1,by rw [he]; exact h.e,fun j j0 j1 q r r0 r1 l x x0 x1=>by rw [hr r r0 r1]; exact h.k0 j j0 j1 q r r0 r1 l x x0 x1,h.k1⟩
theorem QW.word (hC:C.ok) (h:QW C P Q w) {i y v:Int} (i0:0≤i) (i1:i<C.C) (y0:0≤y):QW C P Q (upd w (C.base i+y) v):=by
 have b:=base_ge hC i0 i1 y0
 have hT:=hC.T; have hS:=hC.S; have hCC:=hC.C
 refine h.same (fun j j0 j1=>upd_ne _ _ ?_) (fun j j0 j1 _=>upd_ne _ _ ?_) (fun j j0 j1 _=>upd_ne _ _ ?_) (fun k k0 k1=>upd_ne _ _ (by omega)) (upd_ne _ _ (by omega)) fun r r0 r1=>upd_ne _ _ (by unfold Cf.slot; omega)
 all_goals (have:=ck_lt hC j0 j1; omega)
theorem QW.ck (hC:C.ok) (h:QW C P Q w) {i v s:Int} (i0:0≤i) (i1:i<C.C) (hv:chS v=s) (h1:s=1→chU v=Q.us i∧IntKind.i64.wrap (w (C.chunk i+1))=Q.lv i) {sc:Int→Int} (h3:s=3→w (C.chunk i+2)=sc i∧0≤sc i∧sc i≤Q.e) (hsc:∀ j,j≠i→sc j=Q.sc j):QW C P { Q with st:=upd Q.st i s,sc:=sc } (upd w (C.chunk i) v):=by
 have bi:=ck_lt hC i0 i1
 have hT:=hC.T; have hS:=hC.S
 have ck:∀ j,j≠i→upd w (C.chunk i) v (C.chunk j)=w (C.chunk j):=fun j e=>upd_ne _ _ (ck_ne e).1
 have sn:∀ j,j≠i→upd Q.st i s j=Q.st j:=fun j e=>upd_ne _ _ e
 refine ⟨fun j j0 j1=>?_,fun j j0 j1 q=>?_,fun j j0 j1 q=>?_,fun k k0 k1=>by rw [upd_ne _ _ (by unfold Cf.chunk; omega)]; exact h.o k k0 k1,by rw [upd_ne _ _ (by omega)]; exact h.e,fun j j0 j1 q r r0 r1 l x x0 x1=>by rw [upd_ne _ _ (by unfold Cf.chunk Cf.slot; omega)]; exact h.k0 j j0 j1 q r r0 r1 l x x0 x1,h.k1⟩
 ·show chS (upd w (C.chunk i) v (C.chunk j))=upd Q.st i s j
  by_cases e:j=i
  ·subst e; rw [upd_same,upd_same]; exact hv
  ·rw [ck j e,sn j e]; exact h.st j j0 j1
 ·have q':upd Q.st i s j=1:=q
  rw [upd_ne _ _ (show C.chunk j+1≠C.chunk i by unfold Cf.chunk; omega)]
  show chU (upd w (C.chunk i) v (C.chunk j))=Q.us j∧_=Q.lv j
  by_cases e:j=i
  ·subst e; rw [upd_same] at q' ⊢; exact h1 q'
  ·rw [sn j e] at q'; rw [ck j e]; exact h.c1 j j0 j1 q'
 ·have q':upd Q.st i s j=3:=q
  rw [upd_ne _ _ (show C.chunk j+2≠C.chunk i by unfold Cf.chunk; omega)]
  show _=sc j∧0≤sc j∧sc j≤Q.e
  by_cases e:j=i
  ·subst e; rw [upd_same] at q'; exact h3 q'
  ·rw [sn j e] at q'; rw [hsc j e]; exact h.c3 j j0 j1 q'
structure Tra (C:Cf) (c:Co) (w:Int→Int):Prop where
 p0:c.r.pc=0→c.r.at'≠0→∀ i:Nat,(i:Int)<c.r.at'→c.seen[i]?=some (see C w 0 i)
 p1:c.r.pc=1→(∀ i:Nat,(i:Int)<c.r.at'→c.seen[i]?=some (see C w 0 i))∧c.seen[c.r.at'.toNat]?=some (seeS (w (C.chunk c.r.at')))
 p2:c.r.pc=2→∀ i:Nat,(i:Int)<C.C→c.seen[i]?=some (see C w c.r.at' i)
inductive Md (C:Cf) (P:MP) (Q:Qs) (c:Co) (w:Int→Int):Prop where
 | look (hp:c.r.pc≤2) (qw:QW C P Q w) (tr:Tra C c w) (f:c.r.fd=Q.fd)
 | mark (hp:c.r.pc=3) (qw:QW C P Q w) (m:mayQ C Q c.r.at') (ew:c.r.w=w (C.chunk c.r.at')) (f:c.r.fd=Q.fd)
 | walk (hp:c.r.pc=4∨c.r.pc=5) (m0:c.r.pc=5→c.m.a.pc=0) (k:Q.kd c.r.at'=0) (m:mayQ C Q c.r.at') (qw:QW C P (Q.ev c.r.at') w) (f:c.r.fd=Q.fd)
 | pend (hp:c.r.pc=4∧c.r.pos=0∨c.r.pc=9) (k:Q.kd c.r.at'=1) (m:mayQ C Q c.r.at') (qw:QW C P (Q.ev c.r.at') w) (u:chU c.r.w=Q.us c.r.at'∧IntKind.i64.wrap (w (C.chunk c.r.at'+1))=Q.lv c.r.at') (f:c.r.fd=Q.fd)
 | note (hp:6≤c.r.pc∧c.r.pc≤8) (k:Q.kd c.r.at'=0) (m:mayQ C Q c.r.at') (qw:QW C P (Q.ev c.r.at') w) (n7:c.r.pc=7→c.r.now=Q.e) (n8:c.r.pc=8→w (C.chunk c.r.at'+2)=Q.e) (f:c.r.fd=Q.fd)
 | epo (Qm:Qs) (hp:c.r.pc=10) (pk:Pk C Q Qm) (qw:QW C P Qm w) (f:c.r.fd=Qm.fd)
 | set (Qm:Qs) (hp:c.r.pc=11) (pk:Pk C Q Qm) (qw:QW C P (Qm.ep.half c.r.at') w) (s:∀ v,c.s=some v→(v.pc=2→v.since=w (C.chunk c.r.at'+2))∧(3≤v.pc→Qm.ep.fr c.r.at'=true)) (f:c.r.fd=(Qm.ep.half c.r.at').fd)
def okQ (C:Cf) (Q:Qs):Prop:=∀ j,0≤j→j<C.C→mayQ C Q j→Q.kd j=0∨Q.kd j=1
def MdR (C:Cf) (P:MP) (Q:Qs) (c:Co) (R:Co × Ar):Prop:=R.1.r.rd=c.r.rd∧Md C P Q R.1 R.2.w∨R.1.r.rd=c.r.rd+1∧∃ Qm,Pk C Q Qm∧Md C P (Qm.ep.half C.C) R.1 R.2.w
section
variable {q:Int} {c:Co}
theorem Md.s0 (hC:C.ok) (h:WI C P q c A) (z:Md C P Q c A.w) (hp:c.r.pc=0) (r:Int):MdR C P Q c (c.step C who A r):=by
 have st:c.step C who A r=({ c with seen:=(if c.r.at'=0 then [] else c.seen) ++ [seeS (A.w (C.chunk c.r.at'))],r:={ c.r with pc:=1 } },(A.by who).load (C.chunk c.r.at')):=by unfold Co.step; rw [if_pos hp]
 rw [st]
 obtain ⟨a0,hl⟩:(0≤c.r.at')∧(c.r.at'≠0→(c.seen.length:Int)=c.r.at'):=by
  cases h.wc with
  | p0 _ ha hs mw n2 h0 hl hq=>exact ⟨h0.1,hl⟩
  | p1 hp'=>omega
  | p2 hp'=>omega
  | p3 hp'=>omega
  | p4 hp'=>omega
  | p5 hp'=>omega
  | p6 hp'=>omega
  | p9 hp'=>omega
  | p10 hp'=>omega
  | p11 hp'=>omega
 cases z with
 | look _ qw tr f=>
  have hl':((if c.r.at'=0 then [] else c.seen).length:Int)=c.r.at':=by
   by_cases z:c.r.at'=0
   ·rw [if_pos z,z]; rfl
   ·rw [if_neg z]; exact hl z
  refine .inl ⟨rfl,.look (by decide:(1:Int)≤2) qw ⟨fun e=>absurd (show (1:Int)=0 from e) (by decide),fun _=>⟨fun i hi=>?_,?_⟩,fun e=>absurd (show (1:Int)=2 from e) (by decide)⟩ f⟩
  ·have hi':(i:Int)<c.r.at':=hi
   show ((if c.r.at'=0 then [] else c.seen) ++ [seeS (A.w (C.chunk c.r.at'))])[i]?=_
   rw [List.getElem?_append_left (by omega),if_neg (by omega)]
   exact tr.p0 hp (by omega) i hi'
  ·show ((if c.r.at'=0 then [] else c.seen) ++ [seeS (A.w (C.chunk c.r.at'))])[c.r.at'.toNat]?=_
   rw [List.getElem?_append_right (by omega),show c.r.at'.toNat - (if c.r.at'=0 then [] else c.seen).length=0 by omega]; rfl
 | mark hp'=>omega
 | walk hp'=>omega
 | pend hp'=>omega
 | note hp'=>omega
 | epo _ hp'=>omega
 | set _ hp'=>omega
theorem Md.s1 (hC:C.ok) (h:WI C P q c A) (z:Md C P Q c A.w) (hp:c.r.pc=1) (r:Int):MdR C P Q c (c.step C who A r):=by
 have st:c.step C who A r=({ c with seen:=liveS c.seen c.r.at'.toNat (IntKind.i64.wrap (A.w (C.chunk c.r.at'+1))),r:={ c.r with at':=if C.C≤c.r.at'+1 then 0 else c.r.at'+1,pc:=if C.C≤c.r.at'+1 then 2 else 0 } },(A.by who).load (C.chunk c.r.at'+1)):=by unfold Co.step; rw [if_neg (by omega),if_pos hp]
 rw [st]
 obtain ⟨a0,a1⟩:0≤c.r.at'∧c.r.at'<C.C:=by
  cases h.wc with
  | p1 _ ha hs mw n2 h0 hl hq=>exact h0
  | p0 hp'=>omega
  | p2 hp'=>omega
  | p3 hp'=>omega
  | p4 hp'=>omega
  | p5 hp'=>omega
  | p6 hp'=>omega
  | p9 hp'=>omega
  | p10 hp'=>omega
  | p11 hp'=>omega
 cases z with
 | look _ qw tr f=>
  obtain ⟨hs,hx⟩:=tr.p1 hp
  have el:∀ i:Nat,(i:Int)≤c.r.at'→(liveS c.seen c.r.at'.toNat (IntKind.i64.wrap (A.w (C.chunk c.r.at'+1))))[i]?=some (see C A.w 0 i):=fun i hi=>by
   by_cases e:(i:Int)=c.r.at'
   ·have ei:i=c.r.at'.toNat:=by omega
    subst ei
    rw [liveS_get hx,if_pos rfl,e]
    unfold see seeS; rw [opB_0]
   ·rw [liveS_get (hs i (by omega)),if_neg (by omega)]
  by_cases z:C.C≤c.r.at'+1
  ·simp only [if_pos z]
   exact .inl ⟨rfl,.look (by decide:(2:Int)≤2) qw ⟨fun e=>absurd (show (2:Int)=0 from e) (by decide),fun e=>absurd (show (2:Int)=1 from e) (by decide),fun _ i hi=>el i (by omega)⟩ f⟩
  ·simp only [if_neg z]
   exact .inl ⟨rfl,.look (by decide:(0:Int)≤2) qw ⟨fun _ _ i hi=>el i (by have hi':(i:Int)<c.r.at'+1:=hi; omega),fun e=>absurd (show (0:Int)=1 from e) (by decide),fun e=>absurd (show (0:Int)=2 from e) (by decide)⟩ f⟩
 | mark hp'=>omega
 | walk hp'=>omega
 | pend hp'=>omega
 | note hp'=>omega
 | epo _ hp'=>omega
 | set _ hp'=>omega
theorem Md.s2 (hC:C.ok) (h:WI C P q c A) (z:Md C P Q c A.w) (hp:c.r.pc=2) (r:Int) (hr:c.may C A r):MdR C P Q c (c.step C who A r):=by
 have a0:0≤c.r.at'∧c.r.at'<4:=by
  cases h.wc with
  | p2 _ ha hs mw n2 h0 hl hq=>exact h0
  | p0 hp'=>omega
  | p1 hp'=>omega
  | p3 hp'=>omega
  | p4 hp'=>omega
  | p5 hp'=>omega
  | p6 hp'=>omega
  | p9 hp'=>omega
  | p10 hp'=>omega
  | p11 hp'=>omega
 have bd:=h.bd
 cases z with
 | look _ qw tr f=>
  have el:∀ i:Nat,(i:Int)<C.C→(opS c.seen (A.w (2+c.r.at')))[i]?=some (see C A.w (c.r.at'+1) i):=fun i hi=>see_next a0.1 a0.2 (tr.p2 hp i hi)
  by_cases c4:c.r.at'+1<4
  ·have st:c.step C who A r=({ c with seen:=opS c.seen (A.w (2+c.r.at')),r:={ c.r with at':=c.r.at'+1 } },(A.by who).load (2+c.r.at')):=by unfold Co.step; rw [if_neg (by omega),if_neg (by omega),if_pos hp,if_pos c4]
   rw [st]
   exact .inl ⟨rfl,.look (by show c.r.pc≤2; omega) qw ⟨fun e=>absurd (show c.r.pc=0 from e) (by omega),fun e=>absurd (show c.r.pc=1 from e) (by omega),fun _=>el⟩ f⟩
  have e3:c.r.at'+1=4:=by omega
  obtain ⟨hch,r0,r1⟩:=hr hp c4
  rw [e3] at el
  by_cases rn:r<0
  ·have hnone:∀ x ∈ opS c.seen (A.w (2+c.r.at')),¬ x.may C:=by
    rcases hch with ⟨_,q⟩ | ⟨q,_⟩
    ·exact q
    ·omega
   have st:c.step C who A r=({ c with seen:=opS c.seen (A.w (2+c.r.at')),r:={ c.r with at' := -1,pc:=10 } },(A.by who).load (2+c.r.at')):=by unfold Co.step; rw [if_neg (by omega),if_neg (by omega),if_pos hp,if_neg c4,if_pos rn]
   rw [st]
   refine .inl ⟨rfl,.epo Q rfl (.inl ⟨rfl,.inl fun j j0 j1 hm=>?_⟩) qw f⟩
   have:=el j.toNat (by omega)
   rw [show ((j.toNat:Nat):Int)=j by omega] at this
   exact hnone _ (List.mem_iff_getElem?.2 ⟨_,this⟩) ((qw.may j0 j1).2 hm)
  ·obtain ⟨x,hx,hm⟩:∃ x,(opS c.seen (A.w (2+c.r.at')))[r.toNat]?=some x∧x.may C:=by
    rcases hch with ⟨q,_⟩ | ⟨_,q⟩
    ·omega
    ·exact q
   have hx':=el r.toNat (by omega)
   rw [show ((r.toNat:Nat):Int)=r by omega,hx] at hx'
   obtain rfl:x=see C A.w 4 r:=by injection hx'
   have ew:wordS (opS c.seen (A.w (2+c.r.at'))) r.toNat=A.w (C.chunk r):=by
    unfold wordS; rw [hx]
    exact putChunk_self (bd _).1 (bd _).2
   have st:c.step C who A r=({ c with seen:=opS c.seen (A.w (2+c.r.at')),r:={ c.r with at':=r,pc:=3,w:=A.w (C.chunk r) } },(A.by who).load (2+c.r.at')):=by unfold Co.step; rw [if_neg (by omega),if_neg (by omega),if_pos hp,if_neg c4,if_neg rn,ew]
   rw [st]
   exact .inl ⟨rfl,.mark rfl qw ((qw.may (by omega) r1).1 hm) rfl f⟩
 | mark hp'=>omega
 | walk hp'=>omega
 | pend hp'=>omega
 | note hp'=>omega
 | epo _ hp'=>omega
 | set _ hp'=>omega
end
end Go.Fl
namespace Go.Fl
open Go
set_option linter.unusedVariables false
set_option linter.unusedSimpArgs false
variable {C:Cf} {w w':Int→Int} {P:MP} {A:Ar} {who:Int} {Q Qm:Qs} {q:Int} {c:Co}
theorem upd2 {f:Int→Int} {a x y:Int}:upd (upd f a x) a y=upd f a y:=by funext i; unfold upd; split <;> rfl
theorem upd_old {f:Int→Int} {a x y:Int} (h:f a=y):upd (upd f a x) a y=f:=by rw [upd2,← h,upd_self]
theorem QW.eqv {Q':Qs} (h:QW C P Q w) (hs:∀ j,0≤j→j<C.C→Q'.st j=Q.st j) (h1:Q'.us=Q.us) (h2:Q'.lv=Q.lv) (h3:Q'.sc=Q.sc) (h4:Q'.o=Q.o) (h5:Q'.kd=Q.kd) (h6:Q'.e=Q.e):QW C P Q' w:=
 ⟨fun j j0 j1=>by rw [hs j j0 j1]; exact h.st j j0 j1,fun j j0 j1 e=>by rw [h1,h2]; exact h.c1 j j0 j1 (by rw [← hs j j0 j1]; exact e),fun j j0 j1 e=>by rw [h3,h6]; exact h.c3 j j0 j1 (by rw [← hs j j0 j1]; exact e),fun k k0 k1=>by rw [h4]; exact h.o k k0 k1,by rw [h6]; exact h.e,fun j j0 j1 e=>h.k0 j j0 j1 (by rw [← h5]; exact e),fun j j0 j1 e=>h.k1 j j0 j1 (by rw [← h5]; exact e)⟩
theorem QW.ep (hC:C.ok) (h:QW C P Q w):QW C P Q.ep (upd w 0 (Q.e+1)):=by
 have hT:=hC.T; have hS:=hC.S
 refine ⟨fun j j0 j1=>?_,fun j j0 j1 e=>?_,fun j j0 j1 e=>?_,fun k k0 k1=>?_,upd_same _ _ _,fun j j0 j1 e r r0 r1 l x x0 x1=>?_,h.k1⟩
 ·rw [upd_ne _ _ (by have:=ck_lt hC j0 j1; omega)]; exact h.st j j0 j1
 ·rw [upd_ne _ _ (by have:=ck_lt hC j0 j1; omega),upd_ne _ _ (by have:=ck_lt hC j0 j1; omega)]; exact h.c1 j j0 j1 e
 ·rw [upd_ne _ _ (by have:=ck_lt hC j0 j1; omega)]
  have:=h.c3 j j0 j1 e
  exact ⟨this.1,this.2.1,by show Q.sc j≤Q.e+1; omega⟩
 ·rw [upd_ne _ _ (by omega)]; exact h.o k k0 k1
 ·rw [upd_ne _ _ (by unfold Cf.slot; omega)]; exact h.k0 j j0 j1 e r r0 r1 l x x0 x1
theorem half_next {a:Int} (a0:0≤a):cnt Q.fr (a+1).toNat=cnt Q.fr a.toNat+(if Q.fr a=true then 1 else 0):=by
 rw [show (a+1).toNat=a.toNat+1 by omega]
 show cnt Q.fr a.toNat+(if Q.fr ((a.toNat:Nat):Int)=true then 1 else 0)=_
 rw [show ((a.toNat:Nat):Int)=a by omega]
theorem Md.s3 (hC:C.ok) (h:WI C P q c A) (z:Md C P Q c A.w) (ok:okQ C Q) (hp:c.r.pc=3) (r:Int):MdR C P Q c (c.step C who A r):=by
 have h0:0≤c.r.at'∧c.r.at'<C.C:=by
  cases h.wc with
  | p3 _ ha hs mw n2 h0 h1 hw hq=>exact h0
  | p0 hp'=>omega
  | p1 hp'=>omega
  | p2 hp'=>omega
  | p4 hp'=>omega
  | p5 hp'=>omega
  | p6 hp'=>omega
  | p9 hp'=>omega
  | p10 hp'=>omega
  | p11 hp'=>omega
 cases z with
 | mark _ qw m ew f=>
  have st:c.step C who A r=({ c with r:={ c.r with pos:=0,pc:=4,w:=chw c.r.w 2 } },(A.by who).store (C.chunk c.r.at') (chw c.r.w 2)):=by
   unfold Co.step; rw [if_neg (by omega),if_neg (by omega),if_neg (by omega),if_pos hp,if_pos ew.symm,if_pos ew.symm,cas_yes (show (A.by who).w _=_ from ew.symm)]
  rw [st]
  obtain ⟨v1,v2,v3,v4⟩:=chw_put (w:=c.r.w) (st:=2) (by decide)
  have hqw:QW C P (Q.ev c.r.at') (upd A.w (C.chunk c.r.at') (chw c.r.w 2)):=qw.ck hC h0.1 h0.2 v1 (fun e=>absurd e (by decide)) (sc:=Q.sc) (fun e=>absurd e (by decide)) fun _ _=>rfl
  rcases ok _ h0.1 h0.2 m with k | k
  ·exact .inl ⟨rfl,.walk (.inl rfl) (fun e=>absurd (show (4:Int)=5 from e) (by decide)) k m hqw f⟩
  ·refine .inl ⟨rfl,.pend (.inl ⟨rfl,rfl⟩) k m hqw ?_ f⟩
   have c1:=qw.c1 _ h0.1 h0.2 m.1
   show chU (chw c.r.w 2)=_∧IntKind.i64.wrap (upd A.w (C.chunk c.r.at') (chw c.r.w 2) (C.chunk c.r.at'+1))=_
   rw [v3,ew,upd_ne _ _ (by unfold Cf.chunk; omega)]; exact c1
 | look hp'=>omega
 | walk hp'=>omega
 | pend hp'=>omega
 | note hp'=>omega
 | epo _ hp'=>omega
 | set _ hp'=>omega
theorem Md.on {c':Co} {k u:Int} (hp:c.r.pc=4∨c.r.pc=5) (hk:Q.kd c.r.at'=0) (m:mayQ C Q c.r.at') (qw:QW C P (Q.ev c.r.at') w) (f:c.r.fd=Q.fd) {mv:Mv} {mo:Int}:Md C P Q { c with r:=({ c.r with mo:=mo }:Cr).next k u,m:=mv } w:=by
 by_cases z:u≤c.r.pos+roomOf k
 ·have e6:(if u≤c.r.pos+roomOf k then (6:Int) else 4)=6:=if_pos z
  refine .note ⟨?_,?_⟩ hk m qw (fun e=>?_) (fun e=>?_) f
  ·show 6≤(if u≤c.r.pos+roomOf k then (6:Int) else 4); omega
  ·show (if u≤c.r.pos+roomOf k then (6:Int) else 4)≤8; omega
  ·have e':(if u≤c.r.pos+roomOf k then (6:Int) else 4)=7:=e
   omega
  ·have e':(if u≤c.r.pos+roomOf k then (6:Int) else 4)=8:=e
   omega
 ·have e4:(if u≤c.r.pos+roomOf k then (6:Int) else 4)=4:=if_neg z
  refine .walk (.inl e4) (fun e=>?_) hk m qw f
  have e':(if u≤c.r.pos+roomOf k then (6:Int) else 4)=5:=e
  omega
theorem Md.s4 (hC:C.ok) (h:WI C P q c A) (z:Md C P Q c A.w) (hp:c.r.pc=4) (hrd:c.r.rd≤1300) (r:Int):MdR C P Q c (c.step C who A r):=by
 obtain ⟨hS,nn,q3,wc,nm⟩:=h
 have hn0:=hS.n0
 have hT4:tW P c≤4194000:=by unfold tW; omega
 cases wc with
 | p4 _ ha hs mw ev px hq=>
  have pr:=wpos_room px
  have px2:=px.x
  have pk:=hS.pk
  have hu:=px.u
  have hc1:chS (A.w (C.chunk c.r.at'))=2:=by rw [ev.ecw]; exact ev.c2
  have bge:=base_ge hC ev.ab.1 ev.ab.2 px2.1
  have hT:=hC.T; have hSS:=hC.S; have hCC:=hC.C; have hcc:=hS.cc
  have hd:=mw.hd _ c.r.pos ev.ab.1 ev.ab.2 (.inr hc1) px2.1 (by rw [ev.ecw]; exact px2.2) (by rw [ev.ecw]; exact px.m) (by omega)
  cases z with
  | walk _ m0 k m qw f=>
   by_cases k3:hdK (A.w (C.base c.r.at'+c.r.pos))=3
   ·have st:c.step C who A r=({ c with r:=c.r.next (chC c.r.w) (chU c.r.w) },(A.by who).load (C.base c.r.at'+c.r.pos)):=by
     unfold Co.step; rw [if_neg (by omega),if_neg (by omega),if_neg (by omega),if_neg (by omega),if_pos hp,if_pos k3]
    rw [st]
    exact .inl ⟨rfl,Md.on (c':=c) (mo:=c.r.mo) (mv:=c.m) (.inl hp) k m qw f⟩
   ·by_cases k2:hdK (A.w (C.base c.r.at'+c.r.pos))=2
    ·have st:c.step C who A r=({ c with r:={ c.r with pc:=5 },m:=Mv.new (C.base c.r.at'+c.r.pos) (hdK (A.w (C.base c.r.at'+c.r.pos))) (hdS (A.w (C.base c.r.at'+c.r.pos))) (hdT (A.w (C.base c.r.at'+c.r.pos))) (hdG (A.w (C.base c.r.at'+c.r.pos))) (hdO (A.w (C.base c.r.at'+c.r.pos))) },(A.by who).load (C.base c.r.at'+c.r.pos)):=by
      unfold Co.step; rw [if_neg (by omega),if_neg (by omega),if_neg (by omega),if_neg (by omega),if_pos hp,if_neg k3,if_pos k2]
     rw [st]
     exact .inl ⟨rfl,.walk (.inr rfl) (fun _=>rfl) k m qw f⟩
    ·exfalso
     rcases hd with e | ⟨e,_⟩ | ⟨e,_⟩
     ·exact k3 e
     ·exact k2 e
     ·rcases mw.pp with u | ⟨s,u1,u2,_,u4⟩
      ·omega
      ·exact qw.k0 _ ev.ab.1 ev.ab.2 k s u1.1 u1.2 u2 c.r.pos px2.1 (by omega) (by rw [u4,e])
  | pend hpp k m qw u f=>
   have hp0:c.r.pos=0:=by omega
   have epd:=qw.k1 _ ev.ab.1 ev.ab.2 k
   have hkk:hdK (A.w (C.base c.r.at'+c.r.pos))=P.pk:=by
    rcases mw.pp with u | ⟨s,u1,u2,_,u4⟩
    ·have:=base_ge hC ev.ab.1 ev.ab.2 (Int.le_refl 0); omega
    ·have:=(mw.at' hC hS (by omega) u1.1 u1.2 u2 (by omega) u4).1.1
     rw [if_pos rfl] at this
     rw [hp0,Int.add_zero,← epd]; exact this
   have st:c.step C who A r=({ c with r:={ c.r with pc:=9 } },(A.by who).load (C.base c.r.at'+c.r.pos)):=by
    unfold Co.step; rw [if_neg (by omega),if_neg (by omega),if_neg (by omega),if_neg (by omega),if_pos hp,if_neg (by omega),if_neg (by omega)]
   rw [st]
   exact .inl ⟨rfl,.pend (.inr rfl) k m qw u f⟩
  | look hp'=>omega
  | mark hp'=>omega
  | note hp'=>omega
  | epo _ hp'=>omega
  | set _ hp'=>omega
 | p0 hp'=>omega
 | p1 hp'=>omega
 | p2 hp'=>omega
 | p3 hp'=>omega
 | p5 hp'=>omega
 | p6 hp'=>omega
 | p9 hp'=>omega
 | p10 hp'=>omega
 | p11 hp'=>omega
theorem Md.s5 (hC:C.ok) (h:WI C P q c A) (z:Md C P Q c A.w) (hp:c.r.pc=5) (hrd:c.r.rd≤1300) (r:Int):MdR C P Q c (c.step C who A r):=by
 obtain ⟨hS,nn,q3,wc,nm⟩:=h
 have hn0:=hS.n0
 have hT4:tW P c≤4194000:=by unfold tW; omega
 cases wc with
 | p5 _ ha hs mv h0 px hw hq=>
  have pr:=wpos_room px
  have hu:=px.u
  have px2:=px.x
  have hB:0≤evB c.r.w c.r.pos:=by unfold evB; omega
  have st:c.step C who A r=({ c with r:=c.r.moved (c.m.step C who A).1 (c.m.step C who A).2.1.a.out,m:=(c.m.step C who A).2.1 },(c.m.step C who A).2.2):=by
   unfold Co.step; rw [if_neg (by omega),if_neg (by omega),if_neg (by omega),if_neg (by omega),if_neg (by omega),if_pos hp]
  cases z with
  | walk _ m0 k m qw f=>
   have e0:=m0 hp
   cases mv with
   | a h=>
    obtain ⟨e,⟨b,o,g⟩ | ⟨b,s,v,hc,h1⟩⟩:=h.step (who:=who) hC hS (by omega)
    ·rw [st,b,o]
     unfold Cr.moved
     rw [if_neg (by simp),if_neg (by decide),if_pos rfl]
     have ew:(c.m.step C who A).2.2.w=A.w:=by rw [e]; rfl
     refine .inl ⟨rfl,?_⟩
     show Md C P Q _ (c.m.step C who A).2.2.w
     rw [ew]
     exact Md.on (c':=c) (mo:=c.r.mo) (mv:=(c.m.step C who A).2.1) (.inr hp) k m qw f
    ·exfalso
     have hq:=h.qb
     have hz:=(class_room' h.c).1
     have hCC:=hC.C
     have sl:=h1.ob.sl hC hS (by omega) h1.mw.ck hc.sb.1 hc.sb.2 hc.l
     exact qw.k0 _ h0.1 h0.2 k s hc.sb.1 hc.sb.2 hc.l c.r.pos px2.1 (by omega) sl.2.1
   | b s v k' u hc h=>have:=h.pc; omega
   | c s v xs hc h=>
    exfalso
    rcases h.ph with ⟨h',_⟩ | ⟨_,_,⟨_,_,⟨p,_⟩ | ⟨p,_⟩ | ⟨p,_⟩ | ⟨p,_⟩⟩ | ⟨p,_⟩⟩ | ⟨p,_⟩
    ·rcases h' with e | ⟨e,_⟩ <;> omega
    all_goals omega
  | look hp'=>omega
  | mark hp'=>omega
  | pend hp'=>omega
  | note hp'=>omega
  | epo _ hp'=>omega
  | set _ hp'=>omega
 | p0 hp'=>omega
 | p1 hp'=>omega
 | p2 hp'=>omega
 | p3 hp'=>omega
 | p4 hp'=>omega
 | p6 hp'=>omega
 | p9 hp'=>omega
 | p10 hp'=>omega
 | p11 hp'=>omega
theorem Md.s6 (hC:C.ok) (h:WI C P q c A) (z:Md C P Q c A.w) (hp:6≤c.r.pc∧c.r.pc≤9) (r:Int):MdR C P Q c (c.step C who A r):=by
 have h0:0≤c.r.at'∧c.r.at'<C.C:=by
  cases h.wc with
  | p6 _ ha hs mw ev=>exact ev.ab
  | p9 _ ha hs mw ev=>exact ev.ab
  | p3 hp'=>omega
  | p0 hp'=>omega
  | p1 hp'=>omega
  | p2 hp'=>omega
  | p4 hp'=>omega
  | p5 hp'=>omega
  | p10 hp'=>omega
  | p11 hp'=>omega
 have b:=ck_lt hC h0.1 h0.2
 have bd:=h.bd
 have hT:=hC.T; have hS:=hC.S
 cases z with
 | note _ k m qw n7 n8 f=>
  rcases (show c.r.pc=6∨c.r.pc=7∨c.r.pc=8 by omega) with e | e | e
  ·have st:c.step C who A r=({ c with r:={ c.r with now:=A.w 0,pc:=7 } },(A.by who).load 0):=by
    unfold Co.step; rw [if_neg (by omega),if_neg (by omega),if_neg (by omega),if_neg (by omega),if_neg (by omega),if_neg (by omega),if_pos e]
   rw [st]
   exact .inl ⟨rfl,.note ⟨(by decide:(6:Int)≤7),(by decide:(7:Int)≤8)⟩ k m qw (fun _=>qw.e) (fun e=>absurd (show (7:Int)=8 from e) (by decide)) f⟩
  ·have st:c.step C who A r=({ c with r:={ c.r with pc:=8 } },(A.by who).store (C.chunk c.r.at'+2) c.r.now):=by
    unfold Co.step; rw [if_neg (by omega),if_neg (by omega),if_neg (by omega),if_neg (by omega),if_neg (by omega),if_neg (by omega),if_neg (by omega),if_pos e]
   rw [st]
   refine .inl ⟨rfl,.note ⟨(by decide:(6:Int)≤8),(by decide:(8:Int)≤8)⟩ k m ?_ (fun e=>absurd (show (8:Int)=7 from e) (by decide)) (fun _=>(upd_same _ _ _).trans (n7 e)) f⟩
   refine qw.same (fun j j0 j1=>upd_ne _ _ (by unfold Cf.chunk; omega)) (fun j j0 j1 _=>upd_ne _ _ (by unfold Cf.chunk; omega)) (fun j j0 j1 e3=>upd_ne _ _ fun e'=>?_) (fun k k0 k1=>upd_ne _ _ (by omega)) (upd_ne _ _ (by omega)) fun s s0 s1=>upd_ne _ _ (by unfold Cf.chunk Cf.slot; omega)
   have ej:j=c.r.at':=by unfold Cf.chunk at e'; omega
   have e3':upd Q.st c.r.at' 2 j=3:=e3
   rw [ej,upd_same] at e3'; exact absurd e3' (by decide)
  ·have st:c.step C who A r=({ c with r:={ c.r with ev:=c.r.ev+1,pc:=10 } },(A.by who).store (C.chunk c.r.at') (chw c.r.w 3)):=by
    unfold Co.step; rw [if_neg (by omega),if_neg (by omega),if_neg (by omega),if_neg (by omega),if_neg (by omega),if_neg (by omega),if_neg (by omega),if_neg (by omega),if_pos e]
   rw [st]
   obtain ⟨v1,v2,v3,v4⟩:=chw_put (w:=c.r.w) (st:=3) (by decide)
   have e0:0≤Q.e:=by have:=qw.e; have h1:=(bd 0).1; have:A.w 0=Q.e:=this; omega
   have key:=qw.ck hC h0.1 h0.2 v1 (fun e=>absurd e (by decide)) (sc:=upd Q.sc c.r.at' Q.e) (fun _=>by rw [upd_same]; exact ⟨n8 e,e0,Int.le_refl _⟩) fun j e=>upd_ne _ _ e
   refine .inl ⟨rfl,.epo (Q.qu c.r.at') rfl (.inr ⟨_,h0,m,k,rfl⟩) ?_ f⟩
   have ee:({ Q.ev c.r.at' with st:=upd (Q.ev c.r.at').st c.r.at' 3,sc:=upd Q.sc c.r.at' Q.e }:Qs)=Q.qu c.r.at':=by
    unfold Qs.ev Qs.qu; dsimp only; rw [upd2]
   rw [← ee]; exact key
 | pend hpp k m qw u f=>
  have e9:c.r.pc=9:=by omega
  have st:c.step C who A r=({ c with r:={ c.r with lf:=c.r.lf+1,pc:=10 } },(A.by who).store (C.chunk c.r.at') (chw c.r.w 1)):=by
   unfold Co.step; rw [if_neg (by omega),if_neg (by omega),if_neg (by omega),if_neg (by omega),if_neg (by omega),if_neg (by omega),if_neg (by omega),if_neg (by omega),if_neg (by omega),if_pos e9]
  rw [st]
  obtain ⟨v1,v2,v3,v4⟩:=chw_put (w:=c.r.w) (st:=1) (by decide)
  have key:=qw.ck hC h0.1 h0.2 v1 (fun _=>by rw [v3]; exact u) (sc:=Q.sc) (fun e=>absurd e (by decide)) fun _ _=>rfl
  refine .inl ⟨rfl,.epo Q rfl (.inl ⟨rfl,.inr ⟨_,h0,m,k⟩⟩) ?_ f⟩
  have ee:({ Q.ev c.r.at' with st:=upd (Q.ev c.r.at').st c.r.at' 1,sc:=Q.sc }:Qs)=Q:=by
   unfold Qs.ev; dsimp only; rw [upd_old m.1]
  rw [ee] at key; exact key
 | look hp'=>omega
 | mark hp'=>omega
 | walk hp'=>omega
 | epo _ hp'=>omega
 | set _ hp'=>omega
theorem Md.s10 (hC:C.ok) (h:WI C P q c A) (z:Md C P Q c A.w) (hp:c.r.pc=10) (hrd:c.r.rd≤1300) (r:Int):MdR C P Q c (c.step C who A r):=by
 obtain ⟨hS,nn,q3,wc,nm⟩:=h
 have hn0:=hS.n0
 have hT4:tW P c≤4194000:=by unfold tW; omega
 have q1:1≤q:=WI.q1 hC (A:=A) ⟨hS,nn,q3,wc,nm⟩
 cases wc with
 | p10 _ hs mw n2 ha hq=>
  have hT:=hC.T
  have ep:=mw.ep
  have e0:=(mw.bd 0).1
  cases z with
  | epo Qm _ pk qw f=>
   have eE:=qw.e
   have go:∀ (a:Option Adv) (A':Ar),A'.w=A.w→MdR C P Q c ({ c with a:=a },A'):=fun a A' e=>.inl ⟨rfl,.epo Qm hp pk (by rw [show ({ c with a:=a },A').2.w=A.w from e]; exact qw) f⟩
   rw [step10w hp]
   cases ea:c.a with
   | none=>
    have e1:Adv.new.step C who A=(false,{ Adv.new with now:=A.w 0,pc:=1 },(A.by who).load 0):=by unfold Adv.step; rw [if_pos (show Adv.new.pc=0 from rfl)]
    rw [Option.getD_none,e1,if_neg (by simp)]
    exact go _ _ rfl
   | some v=>
    obtain ⟨v1,v2⟩:=ha v ea
    rw [Option.getD_some]
    rcases v2 with ⟨q1,q2⟩ | ⟨q1,q2⟩
    ·have z:=mw.pn _ q2.1 q2.2
     have cnd:¬ (A.w (6+v.at')≠0∧A.w (6+v.at')≠IntKind.u64.wrap (v.now+1)):=fun x=>x.1 z
     have e1:v.step C who A=(false,{ v with at':=v.at'+1,pc:=if C.T≤v.at'+1 then 2 else v.pc },(A.by who).load (6+v.at')):=by unfold Adv.step; rw [if_neg (by omega),if_pos q1,if_neg cnd]
     rw [e1,if_neg (by simp)]
     exact go _ _ rfl
    ·have wr:IntKind.u64.wrap (v.now+1)=A.w 0+1:=by rw [v1]; exact u64w (by omega) (by omega)
     have e1:v.step C who A=(true,{ v with went:=decide (A.w 0=v.now) },(A.by who).store 0 (A.w 0+1)):=by unfold Adv.step; rw [if_neg (by omega),if_neg (by omega),cas_yes (by exact v1.symm),wr]
     rw [e1,if_pos rfl,eE]
     have key:=(qw.ep hC).eqv (Q':=Qm.ep.half 0) (fun j j0 j1=>by show (if j<0∧_ then 0 else _)=_; rw [if_neg (by omega)]) rfl rfl rfl rfl rfl rfl
     refine .inl ⟨rfl,.set Qm rfl pk key (fun v e=>by rw [show c.s=some v from e] at hs; cases hs) ?_⟩
     show c.r.fd=Qm.fd+((cnt Qm.ep.fr (0:Int).toNat:Nat):Int)
     rw [f]; show Qm.fd=Qm.fd+((0:Nat):Int); omega
  | look hp'=>omega
  | mark hp'=>omega
  | walk hp'=>omega
  | pend hp'=>omega
  | note hp'=>omega
  | set _ hp'=>omega
 | p0 hp'=>omega
 | p1 hp'=>omega
 | p2 hp'=>omega
 | p3 hp'=>omega
 | p4 hp'=>omega
 | p5 hp'=>omega
 | p6 hp'=>omega
 | p9 hp'=>omega
 | p11 hp'=>omega
theorem Md.set' (hC:C.ok) (hp:c.r.pc=11) (h0:0≤c.r.at'∧c.r.at'<C.C) (b:Bool) {A':Ar} (pk:Pk C Q Qm) (hb:Qm.ep.fr c.r.at'=b) (qw:QW C P (Qm.ep.half (c.r.at'+1)) A'.w) (f:c.r.fd=(Qm.ep.half c.r.at').fd):MdR C P Q c ({ c with s:=none,r:=c.r.settled C b },A'):=by
 have efd:(if b=true then c.r.fd+1 else c.r.fd)=(Qm.ep.half (c.r.at'+1)).fd:=by
  show _=Qm.fd+((cnt Qm.ep.fr (c.r.at'+1).toNat:Nat):Int)
  have f':c.r.fd=Qm.fd+((cnt Qm.ep.fr c.r.at'.toNat:Nat):Int):=f
  rw [half_next h0.1,hb]
  split <;> omega
 unfold Cr.settled
 by_cases z:C.C≤c.r.at'+1
 ·simp only [if_pos z]
  have ec:c.r.at'+1=C.C:=by omega
  rw [ec] at qw efd
  exact .inr ⟨rfl,Qm,pk,.look (by decide:(0:Int)≤2) qw ⟨fun _ e=>absurd rfl e,fun e=>absurd (show (0:Int)=1 from e) (by decide),fun e=>absurd (show (0:Int)=2 from e) (by decide)⟩ efd⟩
 ·simp only [if_neg z]
  exact .inl ⟨rfl,.set Qm hp pk qw (fun v e=>by cases e) efd⟩
theorem Md.s11 (hC:C.ok) (h:WI C P q c A) (z:Md C P Q c A.w) (hp:c.r.pc=11) (hrd:c.r.rd≤1300) (r:Int):MdR C P Q c (c.step C who A r):=by
 obtain ⟨hS,nn,q3,wc,nm⟩:=h
 have hn0:=hS.n0
 have hT4:tW P c≤4194000:=by unfold tW; omega
 have q1:1≤q:=WI.q1 hC (A:=A) ⟨hS,nn,q3,wc,nm⟩
 have hT:=hC.T; have hSS:=hC.S
 cases wc with
 | p11 _ ha mw n2 h0 hs hq=>
  have b:=ck_lt hC h0.1 h0.2
  have ep:=mw.ep
  cases z with
  | set Qm _ pk qw s f=>
   have sta:(Qm.ep.half c.r.at').st c.r.at'=Qm.st c.r.at':=if_neg (by omega)
   have ist:=qw.st _ h0.1 h0.2
   rw [sta] at ist
   -- it stays as it is
   have no:Qm.ep.fr c.r.at'=false→QW C P (Qm.ep.half (c.r.at'+1)) A.w:=fun e=>qw.eqv (fun j j0 j1=>by
    show (if j<c.r.at'+1∧Qm.ep.fr j=true then 0 else _)=(if j<c.r.at'∧Qm.ep.fr j=true then 0 else _)
    by_cases ej:j=c.r.at'
    ·subst ej; rw [if_neg (fun x=>by rw [e] at x; cases x.2),if_neg (by omega)]
    ·by_cases lt:j<c.r.at'∧Qm.ep.fr j=true
     ·rw [if_pos lt,if_pos ⟨by omega,lt.2⟩]
     ·rw [if_neg lt,if_neg (fun x=>lt ⟨by omega,x.2⟩)]) rfl rfl rfl rfl rfl rfl
   have go:∀ (v:Stl) (A':Ar),QW C P (Qm.ep.half c.r.at') A'.w→(v.pc=2→v.since=A'.w (C.chunk c.r.at'+2))→(3≤v.pc→Qm.ep.fr c.r.at'=true)→MdR C P Q c ({ c with s:=some v },A'):=fun v A' hq h2 h3=>.inl ⟨rfl,.set Qm hp pk hq (fun u e=>by obtain rfl:v=u:=(by injection e); exact ⟨h2,h3⟩) f⟩
   rw [step11w hp]
   cases es:c.s with
   | none=>
    have e1:(Stl.new c.r.at').step C who A=(!decide (chS (A.w (C.chunk c.r.at'))=3),{ Stl.new c.r.at' with w:=A.w (C.chunk c.r.at'),pc:=1 },(A.by who).load (C.chunk c.r.at')):=by unfold Stl.step; rw [if_pos (show (Stl.new c.r.at').pc=0 from rfl)]; rfl
    rw [Option.getD_none,e1]
    by_cases c3:chS (A.w (C.chunk c.r.at'))=3
    ·rw [if_neg (by simp [c3])]
     exact go ⟨c.r.at',1,A.w (C.chunk c.r.at'),0,0,false⟩ ((A.by who).load (C.chunk c.r.at')) qw (fun e=>absurd (show (1:Int)=2 from e) (by decide)) (fun e=>absurd (show (3:Int)≤1 from e) (by decide))
    ·rw [if_pos (by simp [c3])]
     have nf:Qm.ep.fr c.r.at'=false:=decide_eq_false fun x=>c3 (by rw [ist]; exact x.1)
     exact Md.set' hC hp h0 false (A':=(A.by who).load (C.chunk c.r.at')) pk nf (no nf) f
   | some v=>
    obtain ⟨v1,v3,v4,v5,v6⟩:=hs v es
    obtain ⟨s2,s3⟩:=s v es
    have st3:(Qm.ep.half c.r.at').st c.r.at'=3:=by rw [sta,← ist]; exact v3
    have c3:=qw.c3 _ h0.1 h0.2 st3
    rw [Option.getD_some]
    rcases v6 with ⟨q1 | q1,q2⟩ | ⟨q1,q2⟩ | q1 | q1
    ·have e1:v.step C who A=(false,{ v with since:=A.w (C.chunk v.ch+2),pc:=2 },(A.by who).load (C.chunk v.ch+2)):=by unfold Stl.step; rw [if_neg (by omega),if_pos q1]
     rw [e1,if_neg (by simp)]
     exact go { v with since:=A.w (C.chunk v.ch+2),pc:=2 } ((A.by who).load (C.chunk v.ch+2)) qw (fun _=>by show A.w (C.chunk v.ch+2)=A.w (C.chunk c.r.at'+2); rw [v1]) (fun e=>absurd (show (3:Int)≤2 from e) (by decide))
    ·have es2:=s2 q1
     have ee:A.w 0=Qm.e+1:=qw.e
     have esc:A.w (C.chunk c.r.at'+2)=Qm.sc c.r.at':=c3.1
     have eb:0≤Qm.sc c.r.at'∧Qm.sc c.r.at'≤Qm.e+1:=c3.2
     have wr:IntKind.u64.wrap (v.since+2)=Qm.sc c.r.at'+2:=by rw [es2,esc]; exact u64w (by omega) (by omega)
     have e1:v.step C who A=(decide (A.w 0<Qm.sc c.r.at'+2),{ v with pc:=3 },(A.by who).load 0):=by unfold Stl.step; rw [if_neg (by omega),if_neg (by omega),if_pos q1,wr]
     have st3':Qm.st c.r.at'=3:=by rw [← sta]; exact st3
     rw [e1]
     by_cases cd:A.w 0<Qm.sc c.r.at'+2
     ·rw [if_pos (by simp [cd])]
      have nf:Qm.ep.fr c.r.at'=false:=decide_eq_false fun x=>by have x2:Qm.sc c.r.at'+2≤Qm.e+1:=x.2; omega
      have e5:({ v with pc:=3 }:Stl).freed=false:=v5
      rw [e5]
      exact Md.set' hC hp h0 false (A':=(A.by who).load 0) pk nf (no nf) f
     ·rw [if_neg (by simp [cd])]
      exact go { v with pc:=3 } ((A.by who).load 0) qw (fun e=>absurd (show (3:Int)=2 from e) (by decide)) fun _=>decide_eq_true ⟨st3',by show Qm.sc c.r.at'+2≤Qm.e+1; omega⟩
    ·have e1:v.step C who A=(false,{ v with at':=v.at'+1,pc:=if chU v.w≤v.at'+1 then 4 else v.pc },(A.by who).store (C.base c.r.at'+v.at') 0):=by unfold Stl.step; rw [if_neg (by omega),if_neg (by omega),if_neg (by omega),if_pos q1,v1]
     rw [e1,if_neg (by simp)]
     refine go { v with at':=v.at'+1,pc:=if chU v.w≤v.at'+1 then 4 else v.pc } ((A.by who).store (C.base c.r.at'+v.at') 0) (qw.word hC h0.1 h0.2 q2.1) (fun e=>?_) fun _=>s3 (by omega)
     have e':(if chU v.w≤v.at'+1 then (4:Int) else v.pc)=2:=e
     split at e' <;> omega
    ·have e1:v.step C who A=(false,{ v with pc:=5 },(A.by who).store (C.chunk c.r.at'+1) 0):=by unfold Stl.step; rw [if_neg (by omega),if_neg (by omega),if_neg (by omega),if_neg (by omega),if_pos q1,v1]
     rw [e1,if_neg (by simp)]
     refine go { v with pc:=5 } ((A.by who).store (C.chunk c.r.at'+1) 0) ?_ (fun e=>absurd (show (5:Int)=2 from e) (by decide)) fun _=>s3 (by omega)
     refine qw.same (fun j j0 j1=>upd_ne _ _ (by unfold Cf.chunk; omega)) (fun j j0 j1 e=>upd_ne _ _ fun e'=>?_) (fun j j0 j1 _=>upd_ne _ _ (by unfold Cf.chunk; omega)) (fun k k0 k1=>upd_ne _ _ (by omega)) (upd_ne _ _ (by omega)) fun r r0 r1=>upd_ne _ _ (by unfold Cf.chunk Cf.slot; omega)
     have ej:j=c.r.at':=by unfold Cf.chunk at e'; omega
     rw [ej,st3] at e; exact absurd e (by decide)
    ·have e1:v.step C who A=(true,{ v with freed:=true },(A.by who).store (C.chunk v.ch) (putChunk 0 0 0 (chN v.w+1))):=by unfold Stl.step; rw [if_neg (by omega),if_neg (by omega),if_neg (by omega),if_neg (by omega),if_neg (by omega)]
     rw [e1,if_pos rfl,v1]
     have hf:=s3 (by omega)
     have key:=qw.ck hC h0.1 h0.2 (v:=putChunk 0 0 0 (chN v.w+1)) (s:=0) chS0 (fun e=>absurd e (by decide)) (sc:=Qm.sc) (fun e=>absurd e (by decide)) fun _ _=>rfl
     refine Md.set' hC hp h0 true (A':=(A.by who).store (C.chunk c.r.at') (putChunk 0 0 0 (chN v.w+1))) pk hf (key.eqv (fun j j0 j1=>?_) rfl rfl rfl rfl rfl rfl) f
     show (if j<c.r.at'+1∧Qm.ep.fr j=true then 0 else Qm.st j)=upd (Qm.ep.half c.r.at').st c.r.at' 0 j
     by_cases ej:j=c.r.at'
     ·subst ej; rw [upd_same,if_pos ⟨by omega,hf⟩]
     ·rw [upd_ne _ _ ej]
      show _=(if j<c.r.at'∧Qm.ep.fr j=true then 0 else Qm.st j)
      by_cases lt:j<c.r.at'∧Qm.ep.fr j=true
      ·rw [if_pos lt,if_pos ⟨by omega,lt.2⟩]
      ·rw [if_neg lt,if_neg (fun x=>lt ⟨by omega,x.2⟩)]
  | look hp'=>omega
  | mark hp'=>omega
  | walk hp'=>omega
  | pend hp'=>omega
  | note hp'=>omega
  | epo _ hp'=>omega
 | p0 hp'=>omega
 | p1 hp'=>omega
 | p2 hp'=>omega
 | p3 hp'=>omega
 | p4 hp'=>omega
 | p5 hp'=>omega
 | p6 hp'=>omega
 | p9 hp'=>omega
 | p10 hp'=>omega
theorem Md.step (hC:C.ok) (h:WI C P q c A) (z:Md C P Q c A.w) (ok:okQ C Q) (hrd:c.r.rd≤1300) (r:Int) (hr:c.may C A r):MdR C P Q c (c.step C who A r):=by
 have hw:=h.wc
 cases hw with
 | p0 hp=>exact Md.s0 hC h z hp r
 | p1 hp=>exact Md.s1 hC h z hp r
 | p2 hp=>exact Md.s2 hC h z hp r hr
 | p3 hp=>exact Md.s3 hC h z ok hp r
 | p4 hp=>exact Md.s4 hC h z hp hrd r
 | p5 hp=>exact Md.s5 hC h z hp hrd r
 | p6 hp=>exact Md.s6 hC h z ⟨hp.1,by omega⟩ r
 | p9 hp=>exact Md.s6 hC h z ⟨by omega,by omega⟩ r
 | p10 hp=>exact Md.s10 hC h z hp hrd r
 | p11 hp=>exact Md.s11 hC h z hp hrd r
end Go.Fl
namespace Go.Fl
open Go
set_option linter.unusedVariables false
set_option linter.unusedSimpArgs false
variable {N:Nm} {A B:Ar} {σ:Mem} {K:Value→Mem→Prop} {C:Cf} {who:Int}
def q0 (C:Cf) (w:Int→Int):Qs:=⟨fun j=>chS (w (C.chunk j)),fun j=>chU (w (C.chunk j)),fun j=>IntKind.i64.wrap (w (C.chunk j+1)),fun _=>0,fun k=>w (2+k),fun j=>if j=0 then 0 else 2,w 0,0⟩
theorem Aw6.words (hC:C.ok) (h4:C.C=4) {dd:Int→Do} {li:Int→Bool} {V:Int→Int→Int} {w:Int→Int} {b:Bg} (h:Aw6 C 6 dd li w b) (hdv:Dv C 13 7 dd li V w b) :
  (∀ j,0≤j→j<4→chS (w (C.chunk j))=if j<2 then 1 else 0)∧(w 2=2∧w 3=0∧w 4=0∧w 5=0∧w 0=0)∧QW C (MP.of C w) (q0 C w) w∧(0<chU (w (C.chunk 0))∧IntKind.i64.wrap (w (C.chunk 0+1))=0):=by
 obtain ⟨hdw,⟨s1,s2⟩,ho,hlo,he⟩:=h
 have w2:w 2=2:=by have:=(hdw.aw.alo.op 0 (by decide) (by decide)).1; rw [s2] at this; exact this
 have w345:∀ c,1≤c→c≤3→w (2+c)=0:=fun c c0 c1=>by have:=(hdw.aw.alo.op c (by omega) c1).1; rw [ho c c0 c1] at this; omega
 have hst:∀ j,0≤j→j<4→chS (w (C.chunk j))=if j<2 then 1 else 0:=fun j j0 j1=>by
  by_cases q:j<2
  ·rw [if_pos q]; exact (hdw.aw.alo.old j j0 (by omega)).1
  ·rw [if_neg q,(hdw.aw.alo.new j (by omega) (by omega)).1]; decide
 refine ⟨hst,⟨w2,w345 1 (by decide) (by decide),w345 2 (by decide) (by decide),w345 3 (by decide) (by decide),hlo 0 (.inl rfl)⟩,⟨fun _ _ _=>rfl,fun _ _ _ _=>⟨rfl,rfl⟩,fun j j0 j1 e=>?_,fun _ _ _=>rfl,rfl,fun j j0 j1 e r r0 r1 l x x0 x1 ea=>?_,fun j j0 j1 e=>?_⟩,?_,?_⟩
 ·have e':chS (w (C.chunk j))=3:=e
  rw [hst j j0 (by omega)] at e'
  split at e' <;> omega
 ·have e':(if j=0 then (0:Int) else 2)=0:=e
  have ej:j=0:=by
   by_cases q:j=0
   ·exact q
   ·rw [if_neg q] at e'; omega
  subst ej
  obtain ⟨k,k1,k2,rfl⟩:=hdv.who' hC r0 r1 l
  have hk:=he k k1.1 k1.2
  rw [hk.2.1] at k2
  have k6:¬ k<6:=by have:=of_decide_eq_true k2; omega
  have one:=hdv.one hC (by decide) k1.1 k1.2 (by rw [hk.2.1]; exact k2)
  obtain ⟨⟨p1,p2,p3⟩,_⟩:=hdw.pl k k1.1 k1.2
  have pu:=(aw_ule hC hdw.aw p1.1 (by omega)).2
  have rm:=(dd k).rm0
  rw [one.2.2.2.2.2.1] at ea
  have ea':C.base (dd k).j+(dd k).i=C.base 0+x:=ea
  have:=(base_inj hC p1.1 (by omega) p2 (by omega) j0 j1 x0 x1 ea').1
  rw [hk.2.2,if_neg k6] at this; omega
 ·have e':(if j=0 then (0:Int) else 2)=1:=e
  split at e' <;> omega
 ·have:=(hdw.aw.alo.old 0 (by decide) (by omega)).2.1
  rw [this]; exact (hdw.um 0 (by decide) (by omega)).2.2
 ·have hz:b.lv 0=0:=by
   rw [← hdw.sm 0 (by decide) (by omega)]
   refine sumN_zero fun k k0 k1=>?_
   unfold part
   rw [if_neg]
   rintro ⟨q1,q2⟩
   have hk:=he k k0 k1
   rw [hk.2.2] at q2
   have k6:k<6:=by
    by_cases z:k<6
    ·exact z
    ·rw [if_neg z] at q2; omega
   rw [hk.2.1] at q1
   have:=of_decide_eq_true q1; omega
  rw [hdw.aw.live 0 (by decide) (by omega),hz]; decide
structure Rch (C:Cf) (Q0:Qs) (rd:Int) (Q:Qs):Prop where
 us:Q.us=Q0.us
 lv:Q.lv=Q0.lv
 o:Q.o=Q0.o
 kd:Q.kd=Q0.kd
 k0:Q0.kd 0=0∧Q0.o 0=2∧Q0.o 1=0∧Q0.o 2=0∧Q0.o 3=0∧0<Q0.us 0∧Q0.lv 0=0
 e:Q.e=rd∧0≤rd
 s1:Q.st 1=1
 s2:Q.st 2=0
 s3:Q.st 3=0
 ph:rd=0∧Q.st 0=1∧Q.fd=0∨rd=1∧Q.st 0=3∧Q.sc 0=0∧Q.fd=0∨2≤rd∧Q.st 0=0∧Q.fd=1
theorem Rch.init {w:Int→Int} {b:Bg} (ha:b.aw C w) (hst:∀ j,0≤j→j<4→chS (w (C.chunk j))=if j<2 then 1 else 0) (w2:w 2=2∧w 3=0∧w 4=0∧w 5=0∧w 0=0) (hok:0<chU (w (C.chunk 0))∧IntKind.i64.wrap (w (C.chunk 0+1))=0):Rch C (q0 C w) 0 (q0 C w):=by
 refine ⟨rfl,rfl,rfl,rfl,⟨rfl,w2.1,w2.2.1,w2.2.2.1,w2.2.2.2.1,hok.1,hok.2⟩,⟨w2.2.2.2.2,Int.le_refl 0⟩,?_,?_,?_,.inl ⟨rfl,?_,rfl⟩⟩
 ·exact (hst 1 (by decide) (by decide)).trans (if_pos (by decide))
 ·exact (hst 2 (by decide) (by decide)).trans (if_neg (by decide))
 ·exact (hst 3 (by decide) (by decide)).trans (if_neg (by decide))
 ·exact (hst 0 (by decide) (by decide)).trans (if_pos (by decide))
theorem Rch.may {Q0 Q:Qs} {rd j:Int} (h:Rch C Q0 rd Q) (h4:C.C=4) (j0:0≤j) (j1:j<C.C) (m:mayQ C Q j):j=0∧Q.st 0=1:=by
 obtain ⟨m1,m2,_⟩:=m
 have hk:=h.k0
 have h1:=h.s1; have h2:=h.s2; have h3:=h.s3
 rcases (show j=0∨j=1∨j=2∨j=3 by omega) with rfl | rfl | rfl | rfl
 ·exact ⟨rfl,m1⟩
 ·exact absurd (by rw [h.o]; exact hk.2.1) (m2 0 (by decide) (by decide))
 ·omega
 ·omega
theorem Rch.ok {Q0 Q:Qs} {rd:Int} (h:Rch C Q0 rd Q) (h4:C.C=4):okQ C Q:=fun j j0 j1 m=>by
 rw [(h.may h4 j0 j1 m).1,h.kd]; exact .inl h.k0.1
theorem Rch.next {Q0 Q Qm:Qs} {rd:Int} (h:Rch C Q0 rd Q) (h4:C.C=4) (pk:Pk C Q Qm):Rch C Q0 (rd+1) (Qm.ep.half C.C):=by
 have hk:=h.k0
 have he:=h.e
 have h1:=h.s1; have h2:=h.s2; have h3:=h.s3
 rw [h4]
 have fr4:∀ Q':Qs,((cnt Q'.fr (4:Int).toNat:Nat):Int)=(if Q'.fr 0=true then 1 else 0)+(if Q'.fr 1=true then 1 else 0)+(if Q'.fr 2=true then 1 else 0)+(if Q'.fr 3=true then 1 else 0):=fun Q'=>by
  show ((cnt Q'.fr 4:Nat):Int)=_
  rw [cnt4]; (repeat' split) <;> rfl
 have nfr:∀ (Q':Qs) j,Q'.st j≠3→Q'.fr j=false:=fun Q' j e=>decide_eq_false fun x=>e x.1
 rcases pk with ⟨rfl,e⟩ | ⟨r,⟨r0,r1⟩,m,k,rfl⟩
 ·have n0:Qm.st 0≠1:=fun e1=>by
   have m0:mayQ C Qm 0:=⟨e1,fun k k0 k3=>by
    rw [h.o]
    rcases (show k=0∨k=1∨k=2∨k=3 by omega) with rfl | rfl | rfl | rfl <;> omega,by rw [h.us]; exact hk.2.2.2.2.2.1,.inl (by rw [h.lv]; omega)⟩
   rcases e with e | ⟨r,rb,m,k⟩
   ·exact e 0 (by decide) (by omega) m0
   ·rw [(h.may h4 rb.1 rb.2 m).1,h.kd,hk.1] at k; exact absurd k (by decide)
  have f1:=nfr Qm.ep 1 (by show Qm.st 1≠3; omega)
  have f2:=nfr Qm.ep 2 (by show Qm.st 2≠3; omega)
  have f3:=nfr Qm.ep 3 (by show Qm.st 3≠3; omega)
  have st:∀ j,Qm.ep.fr j=false→(Qm.ep.half 4).st j=Qm.st j:=fun j e=>if_neg fun x=>by rw [e] at x; cases x.2
  have efd:(Qm.ep.half 4).fd=Qm.fd+(if Qm.ep.fr 0=true then 1 else 0):=by
   show Qm.fd+((cnt Qm.ep.fr (4:Int).toNat:Nat):Int)=_
   rw [fr4,f1,f2,f3]; simp
  refine ⟨h.us,h.lv,h.o,h.kd,hk,⟨by show Qm.e+1=_; omega,by omega⟩,by rw [st 1 f1]; exact h1,by rw [st 2 f2]; exact h2,by rw [st 3 f3]; exact h3,?_⟩
  rw [efd]
  rcases h.ph with ⟨_,e1,_⟩ | ⟨e1,e2,e3,e4⟩ | ⟨e1,e2,e3⟩
  ·exact absurd e1 n0
  ·have f0:Qm.ep.fr 0=true:=decide_eq_true ⟨e2,by show Qm.sc 0+2≤Qm.e+1; omega⟩
   refine .inr (.inr ⟨by omega,if_pos ⟨by decide,f0⟩,?_⟩)
   rw [if_pos f0]; omega
  ·have f0:=nfr Qm.ep 0 (by show Qm.st 0≠3; omega)
   refine .inr (.inr ⟨by omega,by rw [st 0 f0]; exact e2,?_⟩)
   rw [f0]; simp only [Bool.false_eq_true,if_false]; omega
 ·obtain ⟨rfl,e1⟩:=h.may h4 r0 r1 m
  have sn:∀ j,j≠0→(Q.qu 0).ep.st j=Q.st j:=fun j e=>upd_ne _ _ e
  have s0:(Q.qu 0).ep.st 0=3:=by show upd Q.st 0 3 0=3; exact upd_same _ _ _
  have c0:(Q.qu 0).ep.sc 0=Q.e:=by show upd Q.sc 0 Q.e 0=Q.e; exact upd_same _ _ _
  have f0:(Q.qu 0).ep.fr 0=false:=decide_eq_false fun x=>by
   have x2:(Q.qu 0).ep.sc 0+2≤Q.e+1:=x.2
   omega
  have f1:=nfr (Q.qu 0).ep 1 (by rw [sn 1 (by decide)]; omega)
  have f2:=nfr (Q.qu 0).ep 2 (by rw [sn 2 (by decide)]; omega)
  have f3:=nfr (Q.qu 0).ep 3 (by rw [sn 3 (by decide)]; omega)
  have st:∀ j,(Q.qu 0).ep.fr j=false→((Q.qu 0).ep.half 4).st j=(Q.qu 0).ep.st j:=fun j e=>if_neg fun x=>by rw [e] at x; cases x.2
  have efd:((Q.qu 0).ep.half 4).fd=Q.fd:=by
   show Q.fd+((cnt (Q.qu 0).ep.fr (4:Int).toNat:Nat):Int)=_
   rw [fr4,f0,f1,f2,f3]; simp
  refine ⟨h.us,h.lv,h.o,h.kd,hk,⟨by show Q.e+1=_; omega,by omega⟩,by rw [st 1 f1,sn 1 (by decide)]; exact h1,by rw [st 2 f2,sn 2 (by decide)]; exact h2,by rw [st 3 f3,sn 3 (by decide)]; exact h3,?_⟩
  rw [efd]
  rcases h.ph with ⟨a1,a2,a3⟩ | ⟨_,e2,_⟩ | ⟨_,e2,_⟩
  ·exact .inr (.inl ⟨by omega,by rw [st 0 f0]; exact s0,by show (Q.qu 0).ep.sc 0=0; omega,a3⟩)
  ·omega
  ·omega
theorem c_awakeW (hk:∀ τ,Ext σ τ→K (.bool true) τ):s_bk [] K σ:=by
 simp only [s_bk,w_bk,ruS,ruL,ruE,Nat.reduceAdd,reduceIte,Int.reduceLT,Int.reduceLE,Int.reduceEq,Int.reduceNeg,Int.reduceAdd,Int.reduceSub,Nat.reduceLeDiff,Nat.reduceLT]
 have hC:(cA 1 20 4 20).ok:=cA_ok (by omega) (by omega) (by omega) (by omega)
 refine c_Arena (C:=cA 1 20 4 20) hC rfl rfl rfl fun N A τ hN hF hA hE hfr=>?_
 have hT1:(cA 1 20 4 20).T=1:=rfl
 have hS:(cA 1 20 4 20).S=20:=rfl
 have h4:(cA 1 20 4 20).C=4:=rfl
 have hW:(cA 1 20 4 20).W=20:=rfl
 have hG:(cA 1 20 4 20).G=100:=rfl
 have hP:=(hF.pa hC).mono (show 2*(cA 1 20 4 20).S+2≤200 by decide)
 have dv0:=Dv.new hC hF
 have dw0:=dv0.dw
 have low0:∀ i,lowW (cA 1 20 4 20) i→A.w i=0:=fun i hi=>by
  have hi':i=0∨6≤i∧i<6+1:=hi
  rw [hF.w]
  unfold Cf.w0 Cf.fr
  rw [if_neg (by omega),if_neg (by unfold Cf.slot; omega),if_neg (by unfold Cf.slot; omega)]
 have hln:=len_bd hC
 have hnA:(A.n:Int)≤200000:=by rw [hF.n]; omega
 generalize hCe:cA 1 20 4 20=C at *
 clear hF
 have f2:∀ (x y z u w:Value) (K:Value→Prop),xF (fFldV 2 1 false) [.agg #[x,y,z,u,w]] K=K z:=fun _ _ _ _ _ K=>nr rfl
 simp only [gStoreE,ruS,ruL,ruE,Nat.reduceAdd,reduceIte,Int.reduceLT,Int.reduceLE,Int.reduceEq,Int.reduceNeg,Int.reduceAdd,Int.reduceSub,Nat.reduceLeDiff,Nat.reduceLT]
 refine hBuildS_i [] rfl fun p0 τ0 m0 g0 x0=>?_
 have r0:Rh N σ p0 0 (fun _=>0) τ0:=⟨g0,hA.new m0,hE.none m0⟩
 have a0:Aw7 C 0 (fun _=>⟨0,0,0,false,0,0⟩) (fun _=>false) A.w (Bg.fr C):=⟨dw0,by show upL 0 C.S.toNat=upL 0 20; rw [hS]; rfl,.inl ⟨rfl,rfl,rfl⟩,fun _ _ _=>rfl,low0,fun l l0 l1=>by omega⟩
 refine xLoop_r (fun x ts ls τ=>∃ (k:Nat) (p:Nat) (g:Int→Int) (dd:Int→Do) (li:Int→Bool) (V:Int→Int→Int) (A:Ar) (b:Bg),x=7 - k∧ts=[.slice (some ⟨p,0,none⟩) k 1,.int .i64 k]∧ls=[N.el C 0]∧k≤7∧Dv C k k dd li V A.w b∧Aw7 C k dd li A.w b∧Pa C A (1000+200*k)∧(A.n:Int)≤200000∧isA N A τ∧Ext σ τ∧Rh N σ p k g τ∧∀ l:Int,0≤l→l<k→g l=(dd l).n) ?_ (n:=7)
  ⟨0,p0,_,_,_,_,A,_,rfl,rfl,rfl,by omega,dv0,a0,hP.mono (by omega),hnA,hA.ext x0,hE.trans x0,r0,fun l l0 l1=>by omega⟩
 clear a0 r0 x0 g0 m0 dw0 dv0 low0 hA hE hP hnA
 rintro x ts ls τ1 ⟨k,p,g,dd,li,V,A1,b,rfl,rfl,rfl,k7,hdv,hI,hP1,hn1,hA1,hE1,hr1,hgl⟩ R hR
 simp only [w_law14_awake_l7,w_law14_awake_l7b,ruS,ruL,ruE,Nat.reduceAdd,reduceIte,Int.reduceLT,Int.reduceLE,Int.reduceEq,Int.reduceNeg,Int.reduceAdd,Int.reduceSub,Nat.reduceLeDiff,Nat.reduceLT]
 by_cases ck:(k:Int)<7
 ·simp only [ck,ruS,ruL,ruE,Nat.reduceAdd,reduceIte,Int.reduceLT,Int.reduceLE,Int.reduceEq,Int.reduceNeg,Int.reduceAdd,Int.reduceSub,Nat.reduceLeDiff,Nat.reduceLT]
  have hcl:classOf 2=0:=by decide
  refine c_MakeV hN hC hA1 hP1 (by omega) hdv (by omega) (by rw [hcl]; decide) (fun oE oV oS A' τ2 hf _ _ _ _ _ _=>?_) fun oV oS A' τ2 s F j b' d hF hg hd hdv2 hP2 hn2 hlo hA2 hK2=>?_
  ·exfalso
   rcases hf with ⟨_,q⟩ | ⟨_,_,q⟩
   ·rw [hI.F,show 20 - k=(19 - k)+1 by omega,upL_cons] at q; cases q
   ·rcases hI.st with u | u | u <;> omega
  rw [hcl] at hg hdv2
  have hdw:=hdv2.dw
  have hr2:=hr1.keep hK2
  have hE2:Ext σ τ2:=hE1.keep' hK2 fun y hy=>hfr.all y hy
  simp only [f1,bu1,ruS,ruL,ruE,Nat.reduceAdd,reduceIte,Int.reduceLT,Int.reduceLE,Int.reduceEq,Int.reduceNeg,Int.reduceAdd,Int.reduceSub,Nat.reduceLeDiff,Nat.reduceLT]
  have eg:(fun l:Int=>if l=k then d.n else g l) k=d.n:=if_pos rfl
  rw [← eg]
  refine hr2.add (g':=fun l:Int=>if l=k then d.n else g l) hA2 hE2 (by omega) (fun l l0 l1=>if_neg (by omega)) fun id υ hr3 hA3 hE3 _=>?_
  rw [IntWalk.i64_in ((k:Int)+1) (by omega)]
  refine hR (7 - (k+1)) _ _ _ (by omega) ⟨k+1,id,_,_,_,_,A',_,rfl,by simp,rfl,by omega,hdv2,hI.next hC h4 hW (by omega) hF hg hd.1 hd.2.1 hdw fun i hi=>by rw [hlo i hi]; exact hI.lo i hi,hP2.mono (by omega),by rw [hn2]; exact hn1,hA3,hE3,hr3,fun l l0 l1=>?_⟩
  unfold addD
  by_cases e:l=k
  ·simp [e]
  ·simp only [if_neg e]; exact hgl l l0 (by omega)
 -- six are let go
 have hk7:k=7:=by omega
 subst hk7
 simp only [ck,w_bk_j1,w_bk_j1b,ruS,ruL,ruE,Nat.reduceAdd,reduceIte,Int.reduceLT,Int.reduceLE,Int.reduceEq,Int.reduceNeg,Int.reduceAdd,Int.reduceSub,Nat.reduceLeDiff,Nat.reduceLT]
 have a0:Aw6 C 0 dd li A1.w b:=⟨hI.dw,by rcases hI.st with u | u | u <;> omega,hI.o,hI.lo,fun l l0 l1=>by
  have:=hI.each l l0 l1
  exact ⟨this.1,by rw [this.2.1]; exact (decide_eq_true (by omega)).symm,this.2.2⟩⟩
 refine xLoop_r (fun x ts ls τ=>∃ (m:Nat) (li:Int→Bool) (A:Ar) (b:Bg),x=6 - m∧ts=[.slice (some ⟨p,0,none⟩) 7 1,.int .i64 m]∧ls=[N.el C 0]∧m≤6∧Dv C (7+m) 7 dd li V A.w b∧Aw6 C m dd li A.w b∧Pa C A (5000+200*m)∧(A.n:Int)≤200000∧isA N A τ∧Ext σ τ∧Rh N σ p 7 g τ) ?_ (n:=6)
  ⟨0,li,A1,b,rfl,rfl,rfl,by omega,hdv,a0,hP1.mono (by omega),hn1,hA1,hE1,hr1⟩
 clear a0 hdv hI hP1 hn1 hA1 hE1 hr1 hR ck k7 li A1 b
 rintro x ts ls τ1 ⟨m,li,A1,b,rfl,rfl,rfl,m6,hdv,hI,hP1,hn1,hA1,hE1,hr1⟩ R hR
 simp only [w_law14_awake_l11,w_law14_awake_l11b,ruS,ruL,ruE,Nat.reduceAdd,reduceIte,Int.reduceLT,Int.reduceLE,Int.reduceEq,Int.reduceNeg,Int.reduceAdd,Int.reduceSub,Nat.reduceLeDiff,Nat.reduceLT]
 by_cases cm:(m:Int)<6
 ·have cm7:(m:Int)<((7:Nat):Int):=by omega
  have hem:=hI.each m (by omega) (by omega)
  simp only [cm,xIxS (show 0≤(m:Int) by omega) cm7,Nat.zero_add,ruS,ruL,ruE,Nat.reduceAdd,reduceIte,Int.reduceLT,Int.reduceLE,Int.reduceEq,Int.reduceNeg,Int.reduceAdd,Int.reduceSub,Nat.reduceLeDiff,Nat.reduceLT]
  rw [hr1.ld (by omega) cm7,hgl m (by omega) cm7,← hem.1]
  refine c_DropV hN hC hG hA1 hP1 (by omega) hdv (by omega) (by omega) cm7 (by rw [hem.2.1]; exact decide_eq_true (Int.le_refl _)) fun oH oV oS A' τ2 hdv2 hP2 hn2 hlo hA2 hK2=>?_
  rw [IntWalk.i64_in ((m:Int)+1) (by omega)]
  refine hR (6 - (m+1)) _ _ _ (by omega) ⟨m+1,updB li m false,A',{ b.less (dd m).j (roomOf (classOf (dd m).z)) with F:=(dd m).s :: b.F },rfl,by simp,rfl,by omega,by rw [show (7:Int)+((m+1:Nat):Int)=7+m+1 by omega]; exact hdv2,⟨by rw [show (7:Int)+((m+1:Nat):Int)=7+m+1 by omega]; exact hdv2.dw,hI.st,hI.o,fun i hi=>by rw [hlo i hi]; exact hI.lo i hi,fun l l0 l1=>?_⟩,hP2.mono (by omega),by rw [hn2]; exact hn1,hA2,hE1.keep' hK2 fun y hy=>hfr.all y hy,hr1.keep hK2⟩
  have hel:=hI.each l l0 l1
  refine ⟨hel.1,?_,hel.2.2⟩
  unfold updB
  by_cases e:l=m
  ·rw [if_pos e]; exact (decide_eq_false (by omega)).symm
  ·rw [if_neg e,hel.2.1]
   by_cases z:(m:Int)≤l
   ·rw [decide_eq_true z]; exact (decide_eq_true (by omega)).symm
   ·rw [decide_eq_false z]; exact (decide_eq_false (by omega)).symm
 -- the rounds
 have hm6:m=6:=by omega
 subst hm6
 have hw:=hI.words hC h4 hdv
 obtain ⟨hst,w2,hq0,hok⟩:=hw
 have e0:A1.w 0=0:=hI.lo 0 (.inl rfl)
 have hwi:=hdv.wi hC (by omega) ⟨by omega,by omega⟩ hP1.ok.w e0 (fun i i0 i1=>hI.lo _ (.inr ⟨by omega,by omega⟩)) ⟨hP1.n,by omega⟩
 simp only [cm,w_bk_j2,w_bk_j2b,ruS,ruL,ruE,Nat.reduceAdd,reduceIte,Int.reduceLT,Int.reduceLE,Int.reduceEq,Int.reduceNeg,Int.reduceAdd,Int.reduceSub,Nat.reduceLeDiff,Nat.reduceLT]
 refine c_CoNew hA1 fun q τ2 hq hco x2=>?_
 have hA2:=hA1.ext x2
 have hE2:=hE1.trans x2
 refine c_many hN hC hA2 hP1.n hP1.ok.w ?_
 have n1:cnt (fun j=>decide (chS (A1.w (C.chunk j))=1)) C.C.toNat=2:=by
  rw [h4]
  show cnt _ 4=2
  rw [cnt4,hst 0 (by decide) (by decide),hst 1 (by decide) (by decide),hst 2 (by decide) (by decide),hst 3 (by decide) (by decide)]; decide
 rw [n1]
 simp only [ruS,ruL,ruE,Nat.reduceAdd,reduceIte,Int.reduceLT,Int.reduceLE,Int.reduceEq,Int.reduceNeg,Int.reduceAdd,Int.reduceSub,Nat.reduceLeDiff,Nat.reduceLT]
 have hreach:=Rch.init hI.dw.aw hst w2 hok
 have hpos:=hok
 refine c_roundsWZ hN hC hA2 (fun c A=>∃ Q,Rch C (q0 C A1.w) c.r.rd Q∧Md C (MP.of C A1.w) Q c A.w) (n:=4) (by decide) hco hwi ⟨_,hreach,.look (by decide:(0:Int)≤2) hq0 ⟨fun _ e=>absurd rfl e,fun e=>absurd (show (0:Int)=1 from e) (by decide),fun e=>absurd (show (0:Int)=2 from e) (by decide)⟩ rfl⟩ (by decide) (fun q1 c1 A3 r hw1 hz hrd hm _=>?_) fun q' c' A' O' τ3 hwi' hz' hrd hz hA3 hco' hO' hK3=>?_
 ·obtain ⟨Q,hr,hmd⟩:=hz
  rcases hmd.step (who := -1) hC hw1 (hr.ok h4) hrd r hm with ⟨e,h⟩ | ⟨e,Qm,pk,h⟩
  ·exact ⟨Q,by rw [e]; exact hr,h⟩
  ·exact ⟨_,by rw [e]; exact hr.next h4 pk,h⟩
 have hz2:c'.r.pc=0:=by
  rcases hz with q | q
  ·exact absurd q (by decide)
  ·exact q.1
 have hrd':c'.r.rd=4:=hrd
 obtain ⟨Q,hr,hmd⟩:=hz'
 rw [hrd'] at hr
 obtain ⟨qw,hfd⟩:QW C (MP.of C A1.w) Q A'.w∧c'.r.fd=Q.fd:=by
  cases hmd with
  | look _ qw tr f=>exact ⟨qw,f⟩
  | mark hp=>omega
  | walk hp=>omega
  | pend hp=>omega
  | note hp=>omega
  | epo _ hp=>omega
  | set _ hp=>omega
 have hend:Q.st 0=0∧Q.fd=1:=by rcases hr.ph with ⟨e,_⟩ | ⟨e,_⟩ | ⟨_,e⟩ <;> omega
 have ck:∀ j,0≤j→j<4→chS (A'.w (C.chunk j))=if j=1 then 1 else 0:=fun j j0 j1=>by
  rw [qw.st j j0 (by omega)]
  rcases (show j=0∨j=1∨j=2∨j=3 by omega) with rfl | rfl | rfl | rfl
  ·rw [hend.1,if_neg (by decide)]
  ·rw [hr.s1,if_pos rfl]
  ·rw [hr.s2,if_neg (by decide)]
  ·rw [hr.s3,if_neg (by decide)]
 have n2:cnt (fun j=>decide (chS (A'.w (C.chunk j))=1)) C.C.toNat=1:=by
  rw [h4]
  show cnt _ 4=1
  rw [cnt4,ck 0 (by decide) (by decide),ck 1 (by decide) (by decide),ck 2 (by decide) (by decide),ck 3 (by decide) (by decide)]; decide
 have n3:cnt (fun j=>decide (chS (A'.w (C.chunk j))=0)) C.C.toNat=3:=by
  rw [h4]
  show cnt _ 4=3
  rw [cnt4,ck 0 (by decide) (by decide),ck 1 (by decide) (by decide),ck 2 (by decide) (by decide),ck 3 (by decide) (by decide)]; decide
 rw [hend.2] at hfd
 simp only [ruS,ruL,ruE,Nat.reduceAdd,reduceIte,Int.reduceLT,Int.reduceLE,Int.reduceEq,Int.reduceNeg,Int.reduceAdd,Int.reduceSub,Nat.reduceLeDiff,Nat.reduceLT]
 refine c_many hN hC hA3 hwi'.nn.1 hwi'.bd ?_
 rw [n2]
 simp only [ruS,ruL,ruE,Nat.reduceAdd,reduceIte,Int.reduceLT,Int.reduceLE,Int.reduceEq,Int.reduceNeg,Int.reduceAdd,Int.reduceSub,Nat.reduceLeDiff,Nat.reduceLT]
 refine c_many hN hC hA3 hwi'.nn.1 hwi'.bd ?_
 rw [n3]
 simp only [c_CoWork hco',f2,hfd,ruS,ruL,ruE,Nat.reduceAdd,reduceIte,Int.reduceLT,Int.reduceLE,Int.reduceEq,Int.reduceNeg,Int.reduceAdd,Int.reduceSub,Nat.reduceLeDiff,Nat.reduceLT]
 refine hk τ3 fun i bl hi=>?_
 have hi2:=hE2 i bl hi
 refine hK3 i bl hi2 fun hm=>?_
 rcases List.mem_append.1 hm with u | u
 ·rw [List.mem_singleton] at u; subst u
  rw [hE1 _ _ hi] at hq; cases hq
 ·rw [hfr.all i u] at hi; cases hi
end Go.Fl
namespace Go.Fl
open Go
set_option linter.unusedVariables false
set_option linter.unusedSimpArgs false
variable {N:Nm} {A B:Ar} {σ:Mem} {K:Value→Mem→Prop} {C:Cf} {who:Int}
structure Ac where
 kd:Int
 n:Int
 ix:Int
 v:Int
 old:Int
 own:Bool
 hs:Int
 hg:Int
 pc:Int
 w:Int
 cell:Int
 seen:Int
 rd:Int
 size:Int
 help:Option Nat
 oE:Int
 oH:Int
 oV:Int
 oS:Int
def Ac.l (a:Ac):List Value:=[.int .i64 a.kd,.int .u64 a.n,.int .i64 a.ix,.int .i64 a.v,.int .i64 a.old,.bool a.own,.int .i64 a.hs,.int .i64 a.hg,.int .i64 a.pc,.int .u64 a.w,.int .u64 a.cell,.int .i64 a.seen,.int .i64 a.rd,.int .i64 a.size,obP a.help,.int .i64 a.oE,.int .u64 a.oH,.int .i64 a.oV,.int .i64 a.oS]
def Ac.new (kd n ix v old:Int) (own:Bool):Ac:=⟨kd,n,ix,v,old,own,0,0,0,0,0,0,0,0,none,0,0,0,0⟩
def Ac.nxt (a:Ac):Int:=
 if a.kd=1∨a.kd=3∧ceV a.cell≠a.old then 6 else if slS a.w=4 then 4 else if ceF a.cell=false∨ceN a.cell<slV a.w then 5 else if ceN a.cell=slV a.w∧slS a.w=2 then 3 else 0
def Ac.at' (a:Ac):Int:=slA a.w+1+a.ix
def Ac.fin (a:Ac) (e v s:Int):Ac:={ a with oE:=e,oH:=0,oV:=v,oS:=s }
theorem ldAx {p k sz:Nat} {ag:Bool} {a:Ac} {v:Value} (hd:p ∉ N.l) (h:sub a.l k sz ag=some v):hLoad sz ag [.pointer (some ⟨p,k,none⟩)] K (putA N A (σ.set p ⟨a.l,true⟩))=K v (putA N A (σ.set p ⟨a.l,true⟩)):=by
 rw [hLoad_eq ((putA_get hd).trans (Mem.get_set_same _ _ _)),h,xOs]
theorem stAx {p k:Nat} {a:Ac} (a':Ac) {x:Value} (hd:p ∉ N.l) (hx:cellsOf x 1=some [x]) (ho:oneB x=true) (hk:k+1≤19) (e:lay a.l k [x]=a'.l) :
  hStore 1 [.pointer (some ⟨p,k,none⟩),x] K (putA N A (σ.set p ⟨a.l,true⟩))=K undef (putA N A (σ.set p ⟨a'.l,true⟩)):=by
 have:=stO (K:=K) (N:=N) (A:=A) (σ:=σ) (p:=p) (pre:=[]) (L:=a.l) (post:=[]) (k:=k) (sz:=1) (x:=x) (c:=[x]) hd hx rfl hk (by simp [ho])
 rw [e] at this
 simpa only [List.nil_append,List.append_nil,List.length_nil,Nat.zero_add] using this
theorem stAxa {p k sz:Nat} {a:Ac} (a':Ac) {c:List Value} (hd:p ∉ N.l) (hl:c.length=sz) (ho:c.all oneB=true) (hk:k+sz≤19) (e:lay a.l k c=a'.l) :
  hStore sz [.pointer (some ⟨p,k,none⟩),.agg c.toArray] K (putA N A (σ.set p ⟨a.l,true⟩))=K undef (putA N A (σ.set p ⟨a'.l,true⟩)):=by
 have:=stOa (K:=K) (N:=N) (A:=A) (σ:=σ) (p:=p) (pre:=[]) (L:=a.l) (post:=[]) (k:=k) (sz:=sz) (c:=c) hd hl hk ho
 rw [e] at this
 simpa only [List.nil_append,List.append_nil,List.length_nil,Nat.zero_add] using this
theorem c_AccNew {kd n ix v old:Int} {o:Bool} (hk:∀ id τ,σ.get id=none→τ.get id=some ⟨(Ac.new kd n ix v old o).l,true⟩→Ext σ τ→K (.pointer (some ⟨id,0,none⟩)) τ) :
  s_ag [.agg #[.int .i64 kd,.int .u64 n,.int .i64 ix,.int .i64 v,.int .i64 old],.bool o] K σ:=by
 have b:∀ K:Value→Prop,xF (fBuild [(0,5),(5,1),(6,2),(8,1),(9,1),(10,1),(11,1),(12,1),(13,1),(14,1),(15,4)] [.int .i64 0,.int .u64 0,.int .i64 0,.int .i64 0,.int .i64 0,.bool false,.int .i64 0,.int .i64 0,.int .i64 0,.int .u64 0,.int .u64 0,.int .i64 0,.int .i64 0,.int .i64 0,.pointer none,.int .i64 0,.int .u64 0,.int .i64 0,.int .i64 0] [0,1]) [.agg #[.int .i64 kd,.int .u64 n,.int .i64 ix,.int .i64 v,.int .i64 old],.bool o] K =
   K (.agg (Ac.new kd n ix v old o).l.toArray):=fun K=>nr rfl
 have g:gBox 5 [.agg #[.int .i64 kd,.int .u64 n,.int .i64 ix,.int .i64 v,.int .i64 old]] []=some [.int .i64 kd,.int .u64 n,.int .i64 ix,.int .i64 v,.int .i64 old]:=rfl
 have s5:∀ x y z u w:Value,gLoad 5 true [.pointer (some ⟨2,0,some 0⟩)] [x,y,z,u,w]=some (.agg #[x,y,z,u,w]):=fun _ _ _ _ _=>rfl
 simp only [s_ag,w_ag,g,s5,locP,b,xCs,xOs,ruS,Nat.reduceAdd,reduceIte,Int.reduceLT,Int.reduceLE,Int.reduceEq,Int.reduceNeg,Int.reduceAdd,Int.reduceSub]
 exact hBox_i (cs:=(Ac.new kd n ix v old o).l) rfl hk
theorem c_AccDone (hA:isA N A σ) {p:Nat} {a:Ac} (hp:σ.get p=some ⟨a.l,true⟩) (hk:K (.agg #[.int .i64 a.oE,.int .u64 a.oH,.int .i64 a.oV,.int .i64 a.oS]) σ):s_aa [.pointer (some ⟨p,0,none⟩)] K σ:=by
 have gs:∀ x y z w:Int,gStore 4 [.pointer (some ⟨2,0,some 0⟩),.agg #[.int .i64 x,.int .u64 y,.int .i64 z,.int .i64 w]] [.int .i64 0,.int .u64 0,.int .i64 0,.int .i64 0]=some [.int .i64 x,.int .u64 y,.int .i64 z,.int .i64 w]:=fun _ _ _ _=>rfl
 simp only [s_aa,w_aa,ruS,ruL,ruE,Nat.reduceAdd,reduceIte,Int.reduceLT,Int.reduceLE,Int.reduceEq,Int.reduceNeg,Int.reduceAdd,Int.reduceSub,Nat.reduceLeDiff,Nat.reduceLT]
 rw [ldG hp (show sub a.l 15 4 true=some (.agg #[.int .i64 a.oE,.int .u64 a.oH,.int .i64 a.oV,.int .i64 a.oS]) from rfl)]
 simp only [gs,sub4,ruS,ruL,ruE,Nat.reduceAdd,reduceIte,Int.reduceLT,Int.reduceLE,Int.reduceEq,Int.reduceNeg,Int.reduceAdd,Int.reduceSub,Nat.reduceLeDiff,Nat.reduceLT]
 exact hk
theorem c_Aend {p:Nat} {a:Ac} {e v s:Int} (hd:p ∉ N.l):s_ae [.pointer (some ⟨p,0,none⟩),.int .i64 e,.int .i64 v,.int .i64 s] K (putA N A (σ.set p ⟨a.l,true⟩))=K (.bool true) (putA N A (σ.set p ⟨(a.fin e v s).l,true⟩)):=by
 have b:∀ (K:Value→Prop),xF (fBuild [(0,1),(1,1),(2,1),(3,1)] [.int .i64 0,.int .u64 0,.int .i64 0,.int .i64 0] [0,2,3]) [.int .i64 e,.int .i64 v,.int .i64 s] K=K (.agg #[.int .i64 e,.int .u64 0,.int .i64 v,.int .i64 s]):=fun K=>nr rfl
 simp only [s_ae,w_ae,b,ruS,ruL,ruE,Nat.reduceAdd,reduceIte,Int.reduceLT,Int.reduceLE,Int.reduceEq,Int.reduceNeg,Int.reduceAdd,Int.reduceSub,Nat.reduceLeDiff,Nat.reduceLT]
 have:=stAxa (K:=fun _ σ=>K (.bool true) σ) (N:=N) (A:=A) (σ:=σ) (p:=p) (a:=a) (a.fin e v s) (c:=[.int .i64 e,.int .u64 0,.int .i64 v,.int .i64 s]) (sz:=4) (k:=15) hd rfl rfl (by decide) rfl
 exact this
theorem c_Aat {p:Nat} {a:Ac} (hd:p ∉ N.l) (h3:0≤a.w∧a.w<18446744073709551616) (h:0≤a.at'∧a.at'<9223372036854775807):s_ac [.pointer (some ⟨p,0,none⟩)] K (putA N A (σ.set p ⟨a.l,true⟩))=K (.int .i64 a.at') (putA N A (σ.set p ⟨a.l,true⟩)):=by
 have hA1:=slA_bd a.w
 simp only [s_ac,w_ac,ruS,ruL,ruE,Nat.reduceAdd,reduceIte,Int.reduceLT,Int.reduceLE,Int.reduceEq,Int.reduceNeg,Int.reduceAdd,Int.reduceSub,Nat.reduceLeDiff,Nat.reduceLT]
 rw [ldAx hd (show sub _ 9 1 false=some (.int .u64 a.w) from rfl),c_wSlot h3.1 h3.2]
 simp only [xFldV,List.toList_toArray,ruS,ruL,ruE,Nat.reduceAdd,reduceIte,Int.reduceLT,Int.reduceLE,Int.reduceEq,Int.reduceNeg,Int.reduceAdd,Int.reduceSub,Nat.reduceLeDiff,Nat.reduceLT]
 rw [ldAx hd (show sub _ 2 1 false=some (.int .i64 a.ix) from rfl),IntWalk.i64_in (slA a.w+1) (by omega)]
 simp only [ruS,ruL,ruE,Nat.reduceAdd,reduceIte,Int.reduceLT,Int.reduceLE,Int.reduceEq,Int.reduceNeg,Int.reduceAdd,Int.reduceSub,Nat.reduceLeDiff,Nat.reduceLT]
 rw [show slA a.w+1+a.ix=a.at' from rfl,IntWalk.i64_in _ (by omega)]
theorem c_Anext {p:Nat} {a:Ac} (hd:p ∉ N.l) (h3:0≤a.w∧a.w<18446744073709551616) (h4:0≤a.cell∧a.cell<18446744073709551616):s_af [.pointer (some ⟨p,0,none⟩)] K (putA N A (σ.set p ⟨a.l,true⟩))=K (.int .i64 a.nxt) (putA N A (σ.set p ⟨a.l,true⟩)):=by
 have g4:∀ (k:Nat) (x y z w x' y' z' w':Int),gStore 4 [.pointer (some ⟨k,0,some 0⟩),.agg #[.int .i64 x,.int .i64 y,.int .i64 z,.int .i64 w]] [.int .i64 x',.int .i64 y',.int .i64 z',.int .i64 w']=some [.int .i64 x,.int .i64 y,.int .i64 z,.int .i64 w]:=fun _ _ _ _ _ _ _ _ _=>rfl
 have g3:∀ (k:Nat) (x z:Int) (y:Bool) (x' z':Int) (y':Bool),gStore 3 [.pointer (some ⟨k,0,some 0⟩),.agg #[.int .i64 x,.bool y,.int .i64 z]] [.int .i64 x',.bool y',.int .i64 z']=some [.int .i64 x,.bool y,.int .i64 z]:=fun _ _ _ _ _ _ _=>rfl
 simp only [s_af,w_af,ruS,ruL,ruE,Nat.reduceAdd,reduceIte,Int.reduceLT,Int.reduceLE,Int.reduceEq,Int.reduceNeg,Int.reduceAdd,Int.reduceSub,Nat.reduceLeDiff,Nat.reduceLT]
 rw [ldAx hd (show sub _ 10 1 false=some (.int .u64 a.cell) from rfl),c_wCell h4.1 h4.2]
 simp only [ruS,ruL,ruE,Nat.reduceAdd,reduceIte,Int.reduceLT,Int.reduceLE,Int.reduceEq,Int.reduceNeg,Int.reduceAdd,Int.reduceSub,Nat.reduceLeDiff,Nat.reduceLT]
 rw [ldAx hd (show sub _ 9 1 false=some (.int .u64 a.w) from rfl),c_wSlot h3.1 h3.2]
 simp only [g3,g4,ruS,ruL,ruE,Nat.reduceAdd,reduceIte,Int.reduceLT,Int.reduceLE,Int.reduceEq,Int.reduceNeg,Int.reduceAdd,Int.reduceSub,Nat.reduceLeDiff,Nat.reduceLT]
 rw [ldAx hd (show sub _ 0 1 false=some (.int .i64 a.kd) from rfl)]
 have rest:∀ b:Bool,(b=true ↔ a.kd=1∨a.kd=3∧ceV a.cell≠a.old)→w_af_j1 K [.bool b] [[.int .i64 (ceV a.cell),.bool (ceF a.cell),.int .i64 (ceN a.cell)],[.int .i64 (slS a.w),.int .i64 (slA a.w),.int .i64 (slG a.w),.int .i64 (slV a.w)]] (putA N A (σ.set p ⟨a.l,true⟩))=K (.int .i64 a.nxt) (putA N A (σ.set p ⟨a.l,true⟩)):=by
  intro b hb
  unfold Ac.nxt
  simp only [← hb]
  simp only [w_af_j1,w_af_j1b,ruS,ruL,ruE,Nat.reduceAdd,reduceIte,Int.reduceLT,Int.reduceLE,Int.reduceEq,Int.reduceNeg,Int.reduceAdd,Int.reduceSub,Nat.reduceLeDiff,Nat.reduceLT]
  cases b with
  | true=>simp only [ruS,ruL,ruE,Nat.reduceAdd,reduceIte,Int.reduceLT,Int.reduceLE,Int.reduceEq,Int.reduceNeg,Int.reduceAdd,Int.reduceSub,Nat.reduceLeDiff,Nat.reduceLT]
  | false=>
   simp only [Bool.false_eq_true,if_false,ruS,ruL,ruE,Nat.reduceAdd,reduceIte,Int.reduceLT,Int.reduceLE,Int.reduceEq,Int.reduceNeg,Int.reduceAdd,Int.reduceSub,Nat.reduceLeDiff,Nat.reduceLT]
   by_cases c1:slS a.w=4
   ·simp only [c1,ruS,ruL,ruE,Nat.reduceAdd,reduceIte,Int.reduceLT,Int.reduceLE,Int.reduceEq,Int.reduceNeg,Int.reduceAdd,Int.reduceSub,Nat.reduceLeDiff,Nat.reduceLT]
   ·simp only [c1,ruS,ruL,ruE,Nat.reduceAdd,reduceIte,Int.reduceLT,Int.reduceLE,Int.reduceEq,Int.reduceNeg,Int.reduceAdd,Int.reduceSub,Nat.reduceLeDiff,Nat.reduceLT]
    cases c2:ceF a.cell with
    | false=>simp only [w_af_j2,w_af_j2b,true_or,ruS,ruL,ruE,Nat.reduceAdd,reduceIte,Int.reduceLT,Int.reduceLE,Int.reduceEq,Int.reduceNeg,Int.reduceAdd,Int.reduceSub,Nat.reduceLeDiff,Nat.reduceLT]
    | true=>
     by_cases c3:ceN a.cell<slV a.w
     ·simp only [c3,w_af_j2,w_af_j2b,or_true,ruS,ruL,ruE,Nat.reduceAdd,reduceIte,Int.reduceLT,Int.reduceLE,Int.reduceEq,Int.reduceNeg,Int.reduceAdd,Int.reduceSub,Nat.reduceLeDiff,Nat.reduceLT]
     ·by_cases c4:ceN a.cell=slV a.w
      ·by_cases c5:slS a.w=2
       ·simp only [c3,c4,c5,Int.lt_irrefl,w_af_j2,w_af_j2b,w_af_j3,w_af_j3b,Bool.true_eq_false,or_self,and_self,ruS,ruL,ruE,Nat.reduceAdd,reduceIte,Int.reduceLT,Int.reduceLE,Int.reduceEq,Int.reduceNeg,Int.reduceAdd,Int.reduceSub,Nat.reduceLeDiff,Nat.reduceLT]
       ·simp only [c3,c4,c5,Int.lt_irrefl,w_af_j2,w_af_j2b,w_af_j3,w_af_j3b,Bool.true_eq_false,or_self,and_false,ruS,ruL,ruE,Nat.reduceAdd,reduceIte,Int.reduceLT,Int.reduceLE,Int.reduceEq,Int.reduceNeg,Int.reduceAdd,Int.reduceSub,Nat.reduceLeDiff,Nat.reduceLT]
      ·simp only [c3,c4,w_af_j2,w_af_j2b,w_af_j3,w_af_j3b,Bool.true_eq_false,or_self,false_and,ruS,ruL,ruE,Nat.reduceAdd,reduceIte,Int.reduceLT,Int.reduceLE,Int.reduceEq,Int.reduceNeg,Int.reduceAdd,Int.reduceSub,Nat.reduceLeDiff,Nat.reduceLT]
 by_cases c1:a.kd=1
 ·simp only [c1,ruS,ruL,ruE,Nat.reduceAdd,reduceIte,Int.reduceLT,Int.reduceLE,Int.reduceEq,Int.reduceNeg,Int.reduceAdd,Int.reduceSub,Nat.reduceLeDiff,Nat.reduceLT]
  exact rest true (by simp [c1])
 ·simp only [c1,ruS,ruL,ruE,Nat.reduceAdd,reduceIte,Int.reduceLT,Int.reduceLE,Int.reduceEq,Int.reduceNeg,Int.reduceAdd,Int.reduceSub,Nat.reduceLeDiff,Nat.reduceLT]
  rw [ldAx hd (show sub _ 0 1 false=some (.int .i64 a.kd) from rfl)]
  by_cases c3:a.kd=3
  ·simp only [c3,ruS,ruL,ruE,Nat.reduceAdd,reduceIte,Int.reduceLT,Int.reduceLE,Int.reduceEq,Int.reduceNeg,Int.reduceAdd,Int.reduceSub,Nat.reduceLeDiff,Nat.reduceLT]
   rw [ldAx hd (show sub _ 4 1 false=some (.int .i64 a.old) from rfl)]
   by_cases c4:ceV a.cell=a.old
   ·simp only [c4,ne_eq,not_true_eq_false,ruS,ruL,ruE,Nat.reduceAdd,reduceIte,Int.reduceLT,Int.reduceLE,Int.reduceEq,Int.reduceNeg,Int.reduceAdd,Int.reduceSub,Nat.reduceLeDiff,Nat.reduceLT]
    rw [← c4]
    exact rest false (by simp [c1,c4])
   ·simp only [c4,ne_eq,not_false_eq_true,ruS,ruL,ruE,Nat.reduceAdd,reduceIte,Int.reduceLT,Int.reduceLE,Int.reduceEq,Int.reduceNeg,Int.reduceAdd,Int.reduceSub,Nat.reduceLeDiff,Nat.reduceLT]
    exact rest true (by simp [c3,c4])
  ·simp only [c3,ruS,ruL,ruE,Nat.reduceAdd,reduceIte,Int.reduceLT,Int.reduceLE,Int.reduceEq,Int.reduceNeg,Int.reduceAdd,Int.reduceSub,Nat.reduceLeDiff,Nat.reduceLT]
   exact rest false (by simp [c1,c3])
end Go.Fl
namespace Go.Fl
open Go
set_option linter.unusedVariables false
set_option linter.unusedSimpArgs false
variable {N:Nm} {A B:Ar} {σ:Mem} {K:Value→Mem→Prop} {C:Cf} {who:Int}
def Ac.step (C:Cf) (who:Int) (A:Ar) (a:Ac):Bool × Ac × Ar:=
 if a.pc=0 then
  if hdOk a.n=false∨C.S≤hdSl a.n then (true,({ a with hs:=hdSl a.n,hg:=hdGe a.n }:Ac).fin 3 0 A.s,A)
  else if lives (A.w (C.slot (hdSl a.n))) (hdGe a.n) then (false,{ a with hs:=hdSl a.n,hg:=hdGe a.n,w:=A.w (C.slot (hdSl a.n)),seen:=((A.by who).load (C.slot (hdSl a.n))).s,pc:=1 },(A.by who).load (C.slot (hdSl a.n)))
  else (true,({ a with hs:=hdSl a.n,hg:=hdGe a.n,w:=A.w (C.slot (hdSl a.n)),seen:=((A.by who).load (C.slot (hdSl a.n))).s,pc:=1 }:Ac).fin 3 0 ((A.by who).load (C.slot (hdSl a.n))).s,(A.by who).load (C.slot (hdSl a.n)))
 else if a.pc=1 then
  if hdO (A.w (slA a.w))≠a.own then (true,({ a with size:=hdS (A.w (slA a.w)),pc:=2 }:Ac).fin 3 0 ((A.by who).load (slA a.w)).s,(A.by who).load (slA a.w))
  else if a.ix<0∨hdS (A.w (slA a.w))≤a.ix then (true,({ a with size:=hdS (A.w (slA a.w)),pc:=2 }:Ac).fin 4 0 a.seen,(A.by who).load (slA a.w))
  else (false,{ a with size:=hdS (A.w (slA a.w)),pc:=2 },(A.by who).load (slA a.w))
 else if a.pc=2 then
  (false,{ a with cell:=A.w a.at',rd:=((A.by who).load a.at').s,pc:=({ a with cell:=A.w a.at' }:Ac).nxt },(A.by who).load a.at')
 else if a.pc=3 then
  (false,{ a with pc:=0 },(A.by who).cas (C.slot a.hs) a.w (putSlot 1 (slA a.w) (slG a.w) (slV a.w+1)))
 else if a.pc=5 then
  if A.w a.at'=a.cell then (true,({ a with pc:=0 }:Ac).fin 0 (ceV a.cell) ((A.by who).cas a.at' a.cell (putCell a.v false 0)).s,(A.by who).cas a.at' a.cell (putCell a.v false 0))
  else (false,{ a with pc:=0 },(A.by who).cas a.at' a.cell (putCell a.v false 0))
 else
  if lives (A.w (C.slot a.hs)) a.hg then
   if slA (A.w (C.slot a.hs))=slA a.w then (true,a.fin (if a.kd=3 then 8 else 0) (ceV a.cell) a.rd,(A.by who).load (C.slot a.hs))
   else (false,{ a with pc:=0 },(A.by who).load (C.slot a.hs))
  else (true,a.fin 3 0 ((A.by who).load (C.slot a.hs)).s,(A.by who).load (C.slot a.hs))
structure Ac.fit (C:Cf) (A:Ar) (a:Ac):Prop where
 pc:0≤a.pc∧a.pc≤6
 n:0≤a.n∧a.n<18446744073709551616
 hs:0≤a.hs∧a.hs<C.S
 w:0≤a.w∧a.w<18446744073709551616
 cell:0≤a.cell∧a.cell<18446744073709551616
 a1:a.pc=1→slA a.w<A.n
 a2:a.pc=2∨a.pc=5→0≤a.at'∧a.at'<A.n
 bd:(A.n:Int)≤200000000
theorem c_Ac0 (hN:N.ok) (hC:C.ok) (hA:isA N A σ) {p:Nat} {a:Ac} (hp:σ.get p=some ⟨a.l,true⟩) (hd:p ∉ N.l) (hw:∀ i,0≤A.w i∧A.w i<18446744073709551616) (hn:C.len≤A.n) (hf:a.fit C A) (h:a.pc=0)
  (hk:∀ τ,isA N (a.step C who A).2.2 τ→τ.get p=some ⟨(a.step C who A).2.1.l,true⟩→Keep (p :: N.l) σ τ→K (.bool (a.step C who A).1) τ) :
  s_ab [.pointer (some ⟨p,0,none⟩),N.env C who] K σ:=by
 have hT:=hC.T; have hS:=hC.S; have hC3:=hC.C; have hl:=len_bd hC
 have hch:C.chunk C.C=6+C.T+2*C.S+3*C.C:=rfl
 have h1:=hf.n
 obtain ⟨b1,b2⟩:=hdSl_bd h1.1
 rw [hA.obj hp]
 have g2:∀ (k:Nat) (x y:Int),gStore 2 [.pointer (some ⟨k,0,some 0⟩),.agg #[.int .i64 x,.int .i64 y]] [.int .i64 0,.int .i64 0]=some [.int .i64 x,.int .i64 y]:=fun _ _ _=>rfl
 have s2:∀ x y:Value,sub [x,y] 0 2 true=some (.agg #[x,y]):=fun _ _=>rfl
 unfold Ac.step at hk
 rw [if_pos h] at hk
 simp only [s_ab,w_ab,ruS,ruL,ruE,Nat.reduceAdd,reduceIte,Int.reduceLT,Int.reduceLE,Int.reduceEq,Int.reduceNeg,Int.reduceAdd,Int.reduceSub,Nat.reduceLeDiff,Nat.reduceLT]
 rw [ldAx hd (show sub _ 8 1 false=some (.int .i64 a.pc) from rfl)]
 simp only [h,ruS,ruL,ruE,Nat.reduceAdd,reduceIte,Int.reduceLT,Int.reduceLE,Int.reduceEq,Int.reduceNeg,Int.reduceAdd,Int.reduceSub,Nat.reduceLeDiff,Nat.reduceLT]
 rw [ldAx hd (show sub _ 1 1 false=some (.int .u64 a.n) from rfl),c_wHandleG h1.1 h1.2]
 simp only [g2,s2,ruS,ruL,ruE,Nat.reduceAdd,reduceIte,Int.reduceLT,Int.reduceLE,Int.reduceEq,Int.reduceNeg,Int.reduceAdd,Int.reduceSub,Nat.reduceLeDiff,Nat.reduceLT]
 have st2:∀ K:Value→Mem→Prop,hStore 2 [.pointer (some ⟨p,6,none⟩),.agg #[.int .i64 (hdSl a.n),.int .i64 (hdGe a.n)]] K (putA N A (σ.set p ⟨a.l,true⟩))=K undef (putA N A (σ.set p ⟨({ a with hs:=hdSl a.n,hg:=hdGe a.n }:Ac).l,true⟩)):=
  fun K=>stAxa (a:=a) { a with hs:=hdSl a.n,hg:=hdGe a.n } (c:=[.int .i64 (hdSl a.n),.int .i64 (hdGe a.n)]) (sz:=2) (k:=6) hd rfl rfl (by decide) rfl
 rw [st2]
 cases hO:hdOk a.n with
 | false=>
  rw [if_pos (.inl hO)] at hk
  simp only [w_ab_j2,w_ab_j2b,ruS,ruL,ruE,Nat.reduceAdd,reduceIte,Int.reduceLT,Int.reduceLE,Int.reduceEq,Int.reduceNeg,Int.reduceAdd,Int.reduceSub,Nat.reduceLeDiff,Nat.reduceLT]
  rw [c_Now,c_Aend hd]
  exact behind hN hd hk
 | true=>
  by_cases hs:C.S≤hdSl a.n
  ·rw [if_pos (.inr hs)] at hk
   simp only [hs,w_ab_j2,w_ab_j2b,ruS,ruL,ruE,Nat.reduceAdd,reduceIte,Int.reduceLT,Int.reduceLE,Int.reduceEq,Int.reduceNeg,Int.reduceAdd,Int.reduceSub,Nat.reduceLeDiff,Nat.reduceLT]
   rw [c_Now,c_Aend hd]
   exact behind hN hd hk
  ·rw [if_neg (fun q=>by rcases q with q | q; rw [hO] at q; cases q; exact hs q)] at hk
   have hsb:0≤C.slot (hdSl a.n)∧C.slot (hdSl a.n)<A.n:=by unfold Cf.slot; omega
   have hwa:=hw (C.slot (hdSl a.n))
   simp only [hs,w_ab_j2,w_ab_j2b,ruS,ruL,ruE,Nat.reduceAdd,reduceIte,Int.reduceLT,Int.reduceLE,Int.reduceEq,Int.reduceNeg,Int.reduceAdd,Int.reduceSub,Nat.reduceLeDiff,Nat.reduceLT]
   rw [c_Slot hC b1.1 (by omega),c_Load hN hsb.1 hsb.2,stAx { a with hs:=hdSl a.n,hg:=hdGe a.n,w:=A.w (C.slot (hdSl a.n)) } hd rfl rfl (by decide) rfl]
   rw [c_Now]
   rw [stAx { a with hs:=hdSl a.n,hg:=hdGe a.n,w:=A.w (C.slot (hdSl a.n)),seen:=((A.by who).load (C.slot (hdSl a.n))).s } hd rfl rfl (by decide) rfl]
   rw [stAx { a with hs:=hdSl a.n,hg:=hdGe a.n,w:=A.w (C.slot (hdSl a.n)),seen:=((A.by who).load (C.slot (hdSl a.n))).s,pc:=1 } hd rfl rfl (by decide) rfl]
   rw [ldAx (a:={ a with hs:=hdSl a.n,hg:=hdGe a.n,w:=A.w (C.slot (hdSl a.n)),seen:=((A.by who).load (C.slot (hdSl a.n))).s,pc:=1 }) hd (show sub _ 9 1 false=some (.int .u64 (A.w (C.slot (hdSl a.n)))) from rfl),c_wSlot hwa.1 hwa.2]
   simp only [s2,ruS,ruL,ruE,Nat.reduceAdd,reduceIte,Int.reduceLT,Int.reduceLE,Int.reduceEq,Int.reduceNeg,Int.reduceAdd,Int.reduceSub,Nat.reduceLeDiff,Nat.reduceLT]
   rw [c_Live]
   by_cases hl':lives (A.w (C.slot (hdSl a.n))) (hdGe a.n)
   ·have e:decide ((slS (A.w (C.slot (hdSl a.n)))=1∨slS (A.w (C.slot (hdSl a.n)))=2∨slS (A.w (C.slot (hdSl a.n)))=4)∧slG (A.w (C.slot (hdSl a.n)))=hdGe a.n)=true:=decide_eq_true hl'
    rw [if_pos hl'] at hk
    simp only [e,w_ab_j1,w_ab_j1b,ruS,ruL,ruE,Nat.reduceAdd,reduceIte,Int.reduceLT,Int.reduceLE,Int.reduceEq,Int.reduceNeg,Int.reduceAdd,Int.reduceSub,Nat.reduceLeDiff,Nat.reduceLT]
    exact behind hN hd hk
   ·have e:decide ((slS (A.w (C.slot (hdSl a.n)))=1∨slS (A.w (C.slot (hdSl a.n)))=2∨slS (A.w (C.slot (hdSl a.n)))=4)∧slG (A.w (C.slot (hdSl a.n)))=hdGe a.n)=false:=decide_eq_false hl'
    rw [if_neg hl'] at hk
    simp only [e,ruS,ruL,ruE,Nat.reduceAdd,reduceIte,Int.reduceLT,Int.reduceLE,Int.reduceEq,Int.reduceNeg,Int.reduceAdd,Int.reduceSub,Nat.reduceLeDiff,Nat.reduceLT]
    rw [c_Now,c_Aend hd]
    exact behind hN hd hk
theorem c_Ac1 (hN:N.ok) (hC:C.ok) (hA:isA N A σ) {p:Nat} {a:Ac} (hp:σ.get p=some ⟨a.l,true⟩) (hd:p ∉ N.l) (hw:∀ i,0≤A.w i∧A.w i<18446744073709551616) (hf:a.fit C A) (h:a.pc=1)
  (hk:∀ τ,isA N (a.step C who A).2.2 τ→τ.get p=some ⟨(a.step C who A).2.1.l,true⟩→Keep (p :: N.l) σ τ→K (.bool (a.step C who A).1) τ) :
  s_ab [.pointer (some ⟨p,0,none⟩),N.env C who] K σ:=by
 have hb:=slA_bd a.w
 have hwa:=hw (slA a.w)
 have h3:=hf.w
 have h4:=hf.a1 h
 rw [hA.obj hp]
 have g5:∀ (k:Nat) (x y z w:Int) (b:Bool),gStore 5 [.pointer (some ⟨k,0,some 0⟩),.agg #[.int .i64 x,.int .i64 y,.int .i64 z,.int .i64 w,.bool b]] [.int .i64 0,.int .i64 0,.int .i64 0,.int .i64 0,.bool false]=some [.int .i64 x,.int .i64 y,.int .i64 z,.int .i64 w,.bool b]:=fun _ _ _ _ _ _=>rfl
 unfold Ac.step at hk
 rw [if_neg (by omega),if_pos h] at hk
 simp only [s_ab,w_ab,ruS,ruL,ruE,Nat.reduceAdd,reduceIte,Int.reduceLT,Int.reduceLE,Int.reduceEq,Int.reduceNeg,Int.reduceAdd,Int.reduceSub,Nat.reduceLeDiff,Nat.reduceLT]
 rw [ldAx hd (show sub _ 8 1 false=some (.int .i64 a.pc) from rfl)]
 simp only [h,ruS,ruL,ruE,Nat.reduceAdd,reduceIte,Int.reduceLT,Int.reduceLE,Int.reduceEq,Int.reduceNeg,Int.reduceAdd,Int.reduceSub,Nat.reduceLeDiff,Nat.reduceLT]
 rw [ldAx hd (show sub _ 9 1 false=some (.int .u64 a.w) from rfl),c_wSlot h3.1 h3.2]
 simp only [xFldV,List.toList_toArray,ruS,ruL,ruE,Nat.reduceAdd,reduceIte,Int.reduceLT,Int.reduceLE,Int.reduceEq,Int.reduceNeg,Int.reduceAdd,Int.reduceSub,Nat.reduceLeDiff,Nat.reduceLT]
 rw [c_Load hN hb.1 h4,c_wHead hwa.1 hwa.2]
 simp only [g5,ruS,ruL,ruE,Nat.reduceAdd,reduceIte,Int.reduceLT,Int.reduceLE,Int.reduceEq,Int.reduceNeg,Int.reduceAdd,Int.reduceSub,Nat.reduceLeDiff,Nat.reduceLT]
 rw [stAx { a with size:=hdS (A.w (slA a.w)) } hd rfl rfl (by decide) rfl,stAx { a with size:=hdS (A.w (slA a.w)),pc:=2 } hd rfl rfl (by decide) rfl,
  ldAx (a:={ a with size:=hdS (A.w (slA a.w)),pc:=2 }) hd (show sub _ 5 1 false=some (.bool a.own) from rfl)]
 by_cases e:hdO (A.w (slA a.w))=a.own
 ·rw [if_neg (fun q=>q e)] at hk
  simp only [e,xNeBB,beq_self_eq_true,ruS,ruL,ruE,Nat.reduceAdd,reduceIte,Int.reduceLT,Int.reduceLE,Int.reduceEq,Int.reduceNeg,Int.reduceAdd,Int.reduceSub,Nat.reduceLeDiff,Nat.reduceLT]
  rw [ldAx (a:={ a with size:=hdS (A.w (slA a.w)),pc:=2 }) hd (show sub _ 2 1 false=some (.int .i64 a.ix) from rfl)]
  by_cases c1:a.ix<0
  ·rw [if_pos (.inl c1)] at hk
   simp only [c1,w_ab_j3,w_ab_j3b,ruS,ruL,ruE,Nat.reduceAdd,reduceIte,Int.reduceLT,Int.reduceLE,Int.reduceEq,Int.reduceNeg,Int.reduceAdd,Int.reduceSub,Nat.reduceLeDiff,Nat.reduceLT]
   rw [ldAx (a:={ a with size:=hdS (A.w (slA a.w)),pc:=2 }) hd (show sub _ 11 1 false=some (.int .i64 a.seen) from rfl),c_Aend hd]
   exact behind hN hd hk
  ·simp only [c1,ruS,ruL,ruE,Nat.reduceAdd,reduceIte,Int.reduceLT,Int.reduceLE,Int.reduceEq,Int.reduceNeg,Int.reduceAdd,Int.reduceSub,Nat.reduceLeDiff,Nat.reduceLT]
   rw [ldAx (a:={ a with size:=hdS (A.w (slA a.w)),pc:=2 }) hd (show sub _ 2 1 false=some (.int .i64 a.ix) from rfl)]
   by_cases c2:hdS (A.w (slA a.w))≤a.ix
   ·rw [if_pos (.inr c2)] at hk
    simp only [c2,w_ab_j3,w_ab_j3b,ruS,ruL,ruE,Nat.reduceAdd,reduceIte,Int.reduceLT,Int.reduceLE,Int.reduceEq,Int.reduceNeg,Int.reduceAdd,Int.reduceSub,Nat.reduceLeDiff,Nat.reduceLT]
    rw [ldAx (a:={ a with size:=hdS (A.w (slA a.w)),pc:=2 }) hd (show sub _ 11 1 false=some (.int .i64 a.seen) from rfl),c_Aend hd]
    exact behind hN hd hk
   ·rw [if_neg (by rintro (q | q); exact c1 q; exact c2 q)] at hk
    simp only [c2,w_ab_j3,w_ab_j3b,w_ab_j1,w_ab_j1b,ruS,ruL,ruE,Nat.reduceAdd,reduceIte,Int.reduceLT,Int.reduceLE,Int.reduceEq,Int.reduceNeg,Int.reduceAdd,Int.reduceSub,Nat.reduceLeDiff,Nat.reduceLT]
    exact behind hN hd hk
 ·rw [if_pos e] at hk
  have e':(hdO (A.w (slA a.w)) == a.own)=false:=by simpa using e
  simp only [e',xNeBB,ruS,ruL,ruE,Nat.reduceAdd,reduceIte,Int.reduceLT,Int.reduceLE,Int.reduceEq,Int.reduceNeg,Int.reduceAdd,Int.reduceSub,Nat.reduceLeDiff,Nat.reduceLT]
  rw [c_Now,c_Aend hd]
  exact behind hN hd hk
end Go.Fl
namespace Go.Fl
open Go
set_option linter.unusedVariables false
set_option linter.unusedSimpArgs false
variable {N:Nm} {A B:Ar} {σ:Mem} {K:Value→Mem→Prop} {C:Cf} {who:Int}
theorem c_Ac2 (hN:N.ok) (hC:C.ok) (hA:isA N A σ) {p:Nat} {a:Ac} (hp:σ.get p=some ⟨a.l,true⟩) (hd:p ∉ N.l) (hw:∀ i,0≤A.w i∧A.w i<18446744073709551616) (hf:a.fit C A) (h:a.pc=2)
  (k0:(a.step C who A).2.1.pc≠4→∀ τ,isA N (a.step C who A).2.2 τ→τ.get p=some ⟨(a.step C who A).2.1.l,true⟩→Keep (p :: N.l) σ τ→K (.bool (a.step C who A).1) τ)
  (k1:(a.step C who A).2.1.pc=4→∀ q τ,σ.get q=none→q≠p→isA N (a.step C who A).2.2 τ→τ.get p=some ⟨({ (a.step C who A).2.1 with help:=some q }:Ac).l,true⟩→τ.get q=some ⟨(Hl.new a.hs a.w a.size).l,true⟩→Keep (p :: N.l) σ τ→K (.bool (a.step C who A).1) τ) :
  s_ab [.pointer (some ⟨p,0,none⟩),N.env C who] K σ:=by
 have hbd:=hf.bd
 have h2:=hf.a2 (.inl h)
 have h3:=hf.w
 have hwa:=hw a.at'
 rw [hA.obj hp]
 unfold Ac.step at k0 k1
 rw [if_neg (by omega),if_neg (by omega),if_pos h] at k0 k1
 simp only [s_ab,w_ab,ruS,ruL,ruE,Nat.reduceAdd,reduceIte,Int.reduceLT,Int.reduceLE,Int.reduceEq,Int.reduceNeg,Int.reduceAdd,Int.reduceSub,Nat.reduceLeDiff,Nat.reduceLT]
 rw [ldAx hd (show sub _ 8 1 false=some (.int .i64 a.pc) from rfl)]
 simp only [h,ruS,ruL,ruE,Nat.reduceAdd,reduceIte,Int.reduceLT,Int.reduceLE,Int.reduceEq,Int.reduceNeg,Int.reduceAdd,Int.reduceSub,Nat.reduceLeDiff,Nat.reduceLT]
 rw [c_Aat hd h3 (by omega),c_Load hN h2.1 h2.2,stAx { a with cell:=A.w a.at' } hd rfl rfl (by decide) rfl,c_Now,c_Anext (a:={ a with cell:=A.w a.at' }) hd h3 hwa]
 rw [stAx { a with cell:=A.w a.at',rd:=((A.by who).load a.at').s } hd rfl rfl (by decide) rfl]
 rw [stAx { a with cell:=A.w a.at',rd:=((A.by who).load a.at').s,pc:=({ a with cell:=A.w a.at' }:Ac).nxt } hd rfl rfl (by decide) rfl]
 rw [ldAx (a:={ a with cell:=A.w a.at',rd:=((A.by who).load a.at').s,pc:=({ a with cell:=A.w a.at' }:Ac).nxt }) hd (show sub _ 8 1 false=some (.int .i64 ({ a with cell:=A.w a.at' }:Ac).nxt) from rfl)]
 by_cases e:({ a with cell:=A.w a.at' }:Ac).nxt=4
 ·replace k1:=k1 e
  simp only [e,ruS,ruL,ruE,Nat.reduceAdd,reduceIte,Int.reduceLT,Int.reduceLE,Int.reduceEq,Int.reduceNeg,Int.reduceAdd,Int.reduceSub,Nat.reduceLeDiff,Nat.reduceLT]
  rw [e] at k1
  rw [ldAx (a:={ a with cell:=A.w a.at',rd:=((A.by who).load a.at').s,pc:=4 }) hd (show sub _ 6 1 false=some (.int .i64 a.hs) from rfl),ldAx (a:={ a with cell:=A.w a.at',rd:=((A.by who).load a.at').s,pc:=4 }) hd (show sub _ 9 1 false=some (.int .u64 a.w) from rfl),
   ldAx (a:={ a with cell:=A.w a.at',rd:=((A.by who).load a.at').s,pc:=4 }) hd (show sub _ 13 1 false=some (.int .i64 a.size) from rfl)]
  refine behind (K:=fun _ σ=>s_a5 [.int .i64 a.hs,.int .u64 a.w,.int .i64 a.size] _ σ) (v:=undef) hN hd fun υ u1 u2 u3=>?_
  refine c_NewHelp fun id ω hid gid x=>?_
  have hx1:=u1.ext x
  have hx2:=x _ _ u2
  have ip:id≠p:=by rintro rfl; rw [u2] at hid; cases hid
  have inn:=u1.new hid
  have ids:σ.get id=none:=by
   cases e:σ.get id with
   | none=>rfl
   | some b=>rw [u3 id b e (by simp only [List.mem_cons,not_or]; exact ⟨ip,inn⟩)] at hid; cases hid
  rw [hx1.obj hx2,stAx { a with cell:=A.w a.at',rd:=((A.by who).load a.at').s,pc:=4,help:=some id } hd rfl rfl (by decide) rfl]
  simp only [w_ab_j1,w_ab_j1b,ruS,ruL,ruE,Nat.reduceAdd,reduceIte,Int.reduceLT,Int.reduceLE,Int.reduceEq,Int.reduceNeg,Int.reduceAdd,Int.reduceSub,Nat.reduceLeDiff,Nat.reduceLT]
  refine behind hN hd fun ρ r1 r2 r3=>k1 id ρ ids ip r1 r2 ?_ ((u3.trans x.keep).trans r3)
  exact r3 id _ gid (by simp only [List.mem_cons,not_or]; exact ⟨ip,inn⟩)
 ·replace k0:=k0 e
  simp only [e,w_ab_j1,w_ab_j1b,ruS,ruL,ruE,Nat.reduceAdd,reduceIte,Int.reduceLT,Int.reduceLE,Int.reduceEq,Int.reduceNeg,Int.reduceAdd,Int.reduceSub,Nat.reduceLeDiff,Nat.reduceLT]
  exact behind hN hd k0
theorem c_Ac3 (hN:N.ok) (hC:C.ok) (hA:isA N A σ) {p:Nat} {a:Ac} (hp:σ.get p=some ⟨a.l,true⟩) (hd:p ∉ N.l) (hn:C.len≤A.n) (hf:a.fit C A) (h:a.pc=3)
  (hk:∀ τ,isA N (a.step C who A).2.2 τ→τ.get p=some ⟨(a.step C who A).2.1.l,true⟩→Keep (p :: N.l) σ τ→K (.bool (a.step C who A).1) τ) :
  s_ab [.pointer (some ⟨p,0,none⟩),N.env C who] K σ:=by
 have hT:=hC.T; have hS:=hC.S; have hC3:=hC.C; have hl:=len_bd hC
 have hch:C.chunk C.C=6+C.T+2*C.S+3*C.C:=rfl
 have h3:=hf.w
 have h2:=hf.hs
 have hV:=slV_bd a.w
 have hsb:0≤C.slot a.hs∧C.slot a.hs<A.n:=by unfold Cf.slot; omega
 have g4:∀ (k:Nat) (x y z w x' y' z' w':Int),gStore 4 [.pointer (some ⟨k,0,some 0⟩),.agg #[.int .i64 x,.int .i64 y,.int .i64 z,.int .i64 w]] [.int .i64 x',.int .i64 y',.int .i64 z',.int .i64 w']=some [.int .i64 x,.int .i64 y,.int .i64 z,.int .i64 w]:=fun _ _ _ _ _ _ _ _ _=>rfl
 have g0:∀ (k:Nat) (v x' y' z' w':Int),gStore 1 [.pointer (some ⟨k,0,some 0⟩),.int .i64 v] [.int .i64 x',.int .i64 y',.int .i64 z',.int .i64 w']=some [.int .i64 v,.int .i64 y',.int .i64 z',.int .i64 w']:=fun _ _ _ _ _ _=>rfl
 have g3:∀ (k:Nat) (v x' y' z' w':Int),gStore 1 [.pointer (some ⟨k,3,some 0⟩),.int .i64 v] [.int .i64 x',.int .i64 y',.int .i64 z',.int .i64 w']=some [.int .i64 x',.int .i64 y',.int .i64 z',.int .i64 v]:=fun _ _ _ _ _ _=>rfl
 rw [hA.obj hp]
 unfold Ac.step at hk
 rw [if_neg (by omega),if_neg (by omega),if_neg (by omega),if_pos h] at hk
 simp only [s_ab,w_ab,ruS,ruL,ruE,Nat.reduceAdd,reduceIte,Int.reduceLT,Int.reduceLE,Int.reduceEq,Int.reduceNeg,Int.reduceAdd,Int.reduceSub,Nat.reduceLeDiff,Nat.reduceLT]
 rw [ldAx hd (show sub _ 8 1 false=some (.int .i64 a.pc) from rfl)]
 simp only [h,ruS,ruL,ruE,Nat.reduceAdd,reduceIte,Int.reduceLT,Int.reduceLE,Int.reduceEq,Int.reduceNeg,Int.reduceAdd,Int.reduceSub,Nat.reduceLeDiff,Nat.reduceLT]
 rw [ldAx hd (show sub _ 9 1 false=some (.int .u64 a.w) from rfl),c_wSlot h3.1 h3.2]
 simp only [g4,g0,g3,ruS,ruL,ruE,Nat.reduceAdd,reduceIte,Int.reduceLT,Int.reduceLE,Int.reduceEq,Int.reduceNeg,Int.reduceAdd,Int.reduceSub,Nat.reduceLeDiff,Nat.reduceLT]
 rw [IntWalk.i64_in (slV a.w+1) (by omega)]
 rw [ldAx hd (show sub _ 6 1 false=some (.int .i64 a.hs) from rfl),c_Slot hC h2.1 (by omega),ldAx hd (show sub _ 9 1 false=some (.int .u64 a.w) from rfl)]
 simp only [sub4,ruS,ruL,ruE,Nat.reduceAdd,reduceIte,Int.reduceLT,Int.reduceLE,Int.reduceEq,Int.reduceNeg,Int.reduceAdd,Int.reduceSub,Nat.reduceLeDiff,Nat.reduceLT]
 rw [c_PutSlot,c_Cas hN hsb.1 hsb.2,stAx { a with pc:=0 } hd rfl rfl (by decide) rfl]
 simp only [w_ab_j1,w_ab_j1b,ruS,ruL,ruE,Nat.reduceAdd,reduceIte,Int.reduceLT,Int.reduceLE,Int.reduceEq,Int.reduceNeg,Int.reduceAdd,Int.reduceSub,Nat.reduceLeDiff,Nat.reduceLT]
 exact behind hN hd hk
theorem c_Ac4 (hN:N.ok) (hC:C.ok) (hA:isA N A σ) {p q:Nat} {a:Ac} {t:Hl} (hp:σ.get p=some ⟨a.l,true⟩) (hd:p ∉ N.l) (hq:σ.get q=some ⟨[] ++ t.l ++ [],true⟩) (hqd:q ∉ N.l) (hqp:q≠p) (hw:∀ i,0≤A.w i∧A.w i<18446744073709551616) (hn:C.len≤A.n)
  (h:a.pc=4) (ha:a.help=some q) (hf:t.fit C)
  (k0:(t.step C who A).1=false→∀ τ,isA N (t.step C who A).2.2 τ→τ.get p=some ⟨a.l,true⟩→τ.get q=some ⟨[] ++ (t.step C who A).2.1.l ++ [],true⟩→Keep (q :: p :: N.l) σ τ→K (.bool false) τ)
  (k2:(t.step C who A).1=true→∀ τ,isA N (t.step C who A).2.2 τ→τ.get p=some ⟨({ a with pc:=0 }:Ac).l,true⟩→Keep (q :: p :: N.l) σ τ→K (.bool false) τ) :
  s_ab [.pointer (some ⟨p,0,none⟩),N.env C who] K σ:=by
 have hpL:∀ i ∈ p :: N.l,i ∈ q :: p :: N.l:=fun i hi=>List.mem_cons_of_mem _ hi
 have hqL:∀ i ∈ q :: N.l,i ∈ q :: p :: N.l:=fun i hi=>by rcases List.mem_cons.1 hi with rfl | hi <;> simp [*]
 rw [hA.obj hp]
 simp only [s_ab,w_ab,ruS,ruL,ruE,Nat.reduceAdd,reduceIte,Int.reduceLT,Int.reduceLE,Int.reduceEq,Int.reduceNeg,Int.reduceAdd,Int.reduceSub,Nat.reduceLeDiff,Nat.reduceLT]
 rw [ldAx hd (show sub _ 8 1 false=some (.int .i64 a.pc) from rfl)]
 simp only [h,ruS,ruL,ruE,Nat.reduceAdd,reduceIte,Int.reduceLT,Int.reduceLE,Int.reduceEq,Int.reduceNeg,Int.reduceAdd,Int.reduceSub,Nat.reduceLeDiff,Nat.reduceLT]
 rw [ldAx hd (show sub _ 14 1 false=some (obP a.help) from rfl),ha,obP_s,← hA.obj hp]
 refine c_Help_Step hN hC hA (t:=t) (pre:=[]) (post:=[]) hq hqd hw hn hf fun τ hA' hq' hK=>?_
 have hp':τ.get p=some ⟨a.l,true⟩:=hK.get hp (by simp only [List.mem_cons,not_or]; exact ⟨fun e=>hqp e.symm,hd⟩)
 have hK2:=hK.mono hqL
 generalize t.step C who A=r at *
 obtain ⟨d,t',A'⟩:=r
 dsimp only at *
 cases d with
 | false=>simp only [w_ab_j1,w_ab_j1b,ruS,ruL,ruE,Nat.reduceAdd,reduceIte,Int.reduceLT,Int.reduceLE,Int.reduceEq,Int.reduceNeg,Int.reduceAdd,Int.reduceSub,Nat.reduceLeDiff,Nat.reduceLT]; exact k0 rfl τ hA' hp' hq' hK2
 | true=>
  simp only [ruS,ruL,ruE,Nat.reduceAdd,reduceIte,Int.reduceLT,Int.reduceLE,Int.reduceEq,Int.reduceNeg,Int.reduceAdd,Int.reduceSub,Nat.reduceLeDiff,Nat.reduceLT]
  rw [hA'.obj hp',stAx { a with pc:=0 } hd rfl rfl (by decide) rfl]
  simp only [w_ab_j1,w_ab_j1b,ruS,ruL,ruE,Nat.reduceAdd,reduceIte,Int.reduceLT,Int.reduceLE,Int.reduceEq,Int.reduceNeg,Int.reduceAdd,Int.reduceSub,Nat.reduceLeDiff,Nat.reduceLT]
  exact behind hN hd fun υ u1 u2 u3=>k2 rfl υ u1 u2 (hK2.trans (u3.mono hpL))
theorem c_Ac5 (hN:N.ok) (hC:C.ok) (hA:isA N A σ) {p:Nat} {a:Ac} (hp:σ.get p=some ⟨a.l,true⟩) (hd:p ∉ N.l) (hf:a.fit C A) (h:a.pc=5)
  (hk:∀ τ,isA N (a.step C who A).2.2 τ→τ.get p=some ⟨(a.step C who A).2.1.l,true⟩→Keep (p :: N.l) σ τ→K (.bool (a.step C who A).1) τ) :
  s_ab [.pointer (some ⟨p,0,none⟩),N.env C who] K σ:=by
 have hbd:=hf.bd
 have h2:=hf.a2 (.inr h)
 have h3:=hf.w
 have h4:=hf.cell
 have b3:∀ (x:Int) (K:Value→Prop),xF (fBuild [(0,1),(1,1),(2,1)] [.int .i64 0,.bool false,.int .i64 0] [0]) [.int .i64 x] K=K (.agg #[.int .i64 x,.bool false,.int .i64 0]):=fun _ K=>nr rfl
 rw [hA.obj hp]
 unfold Ac.step at hk
 rw [if_neg (by omega),if_neg (by omega),if_neg (by omega),if_neg (by omega),if_pos h] at hk
 simp only [s_ab,w_ab,ruS,ruL,ruE,Nat.reduceAdd,reduceIte,Int.reduceLT,Int.reduceLE,Int.reduceEq,Int.reduceNeg,Int.reduceAdd,Int.reduceSub,Nat.reduceLeDiff,Nat.reduceLT]
 rw [ldAx hd (show sub _ 8 1 false=some (.int .i64 a.pc) from rfl)]
 simp only [h,ruS,ruL,ruE,Nat.reduceAdd,reduceIte,Int.reduceLT,Int.reduceLE,Int.reduceEq,Int.reduceNeg,Int.reduceAdd,Int.reduceSub,Nat.reduceLeDiff,Nat.reduceLT]
 rw [stAx { a with pc:=0 } hd rfl rfl (by decide) rfl,c_Aat (a:={ a with pc:=0 }) hd h3 (by show 0≤a.at'∧a.at'<_; omega)]
 rw [ldAx (a:={ a with pc:=0 }) hd (show sub _ 10 1 false=some (.int .u64 a.cell) from rfl),ldAx (a:={ a with pc:=0 }) hd (show sub _ 3 1 false=some (.int .i64 a.v) from rfl),b3,c_PutCell]
 rw [show ({ a with pc:=0 }:Ac).at'=a.at' from rfl,c_Cas hN h2.1 h2.2]
 by_cases e:A.w a.at'=a.cell
 ·rw [if_pos e] at hk
  simp only [e,ruS,ruL,ruE,Nat.reduceAdd,reduceIte,Int.reduceLT,Int.reduceLE,Int.reduceEq,Int.reduceNeg,Int.reduceAdd,Int.reduceSub,Nat.reduceLeDiff,Nat.reduceLT]
  rw [ldAx (a:={ a with pc:=0 }) hd (show sub _ 10 1 false=some (.int .u64 a.cell) from rfl),c_wCell h4.1 h4.2]
  simp only [xFldV,List.toList_toArray,ruS,ruL,ruE,Nat.reduceAdd,reduceIte,Int.reduceLT,Int.reduceLE,Int.reduceEq,Int.reduceNeg,Int.reduceAdd,Int.reduceSub,Nat.reduceLeDiff,Nat.reduceLT]
  rw [c_Now,c_Aend hd]
  exact behind hN hd hk
 ·rw [if_neg e] at hk
  simp only [e,w_ab_j1,w_ab_j1b,ruS,ruL,ruE,Nat.reduceAdd,reduceIte,Int.reduceLT,Int.reduceLE,Int.reduceEq,Int.reduceNeg,Int.reduceAdd,Int.reduceSub,Nat.reduceLeDiff,Nat.reduceLT]
  exact behind hN hd hk
theorem c_Ac6 (hN:N.ok) (hC:C.ok) (hA:isA N A σ) {p:Nat} {a:Ac} (hp:σ.get p=some ⟨a.l,true⟩) (hd:p ∉ N.l) (hw:∀ i,0≤A.w i∧A.w i<18446744073709551616) (hn:C.len≤A.n) (hf:a.fit C A) (h:a.pc=6)
  (hk:∀ τ,isA N (a.step C who A).2.2 τ→τ.get p=some ⟨(a.step C who A).2.1.l,true⟩→Keep (p :: N.l) σ τ→K (.bool (a.step C who A).1) τ) :
  s_ab [.pointer (some ⟨p,0,none⟩),N.env C who] K σ:=by
 have hT:=hC.T; have hS:=hC.S; have hC3:=hC.C; have hl:=len_bd hC
 have hch:C.chunk C.C=6+C.T+2*C.S+3*C.C:=rfl
 have h2:=hf.hs
 have h3:=hf.w
 have h4:=hf.cell
 have hsb:0≤C.slot a.hs∧C.slot a.hs<A.n:=by unfold Cf.slot; omega
 have hwa:=hw (C.slot a.hs)
 have g4:∀ (k:Nat) (x y z w x' y' z' w':Int),gStore 4 [.pointer (some ⟨k,0,some 0⟩),.agg #[.int .i64 x,.int .i64 y,.int .i64 z,.int .i64 w]] [.int .i64 x',.int .i64 y',.int .i64 z',.int .i64 w']=some [.int .i64 x,.int .i64 y,.int .i64 z,.int .i64 w]:=fun _ _ _ _ _ _ _ _ _=>rfl
 rw [hA.obj hp]
 unfold Ac.step at hk
 rw [if_neg (by omega),if_neg (by omega),if_neg (by omega),if_neg (by omega),if_neg (by omega)] at hk
 simp only [s_ab,w_ab,ruS,ruL,ruE,Nat.reduceAdd,reduceIte,Int.reduceLT,Int.reduceLE,Int.reduceEq,Int.reduceNeg,Int.reduceAdd,Int.reduceSub,Nat.reduceLeDiff,Nat.reduceLT]
 rw [ldAx hd (show sub _ 8 1 false=some (.int .i64 a.pc) from rfl)]
 simp only [h,s_ad,w_ad,ruS,ruL,ruE,Nat.reduceAdd,reduceIte,Int.reduceLT,Int.reduceLE,Int.reduceEq,Int.reduceNeg,Int.reduceAdd,Int.reduceSub,Nat.reduceLeDiff,Nat.reduceLT]
 rw [ldAx hd (show sub _ 6 1 false=some (.int .i64 a.hs) from rfl),c_Slot hC h2.1 (by omega),c_Load hN hsb.1 hsb.2,c_wSlot hwa.1 hwa.2]
 simp only [g4,ruS,ruL,ruE,Nat.reduceAdd,reduceIte,Int.reduceLT,Int.reduceLE,Int.reduceEq,Int.reduceNeg,Int.reduceAdd,Int.reduceSub,Nat.reduceLeDiff,Nat.reduceLT]
 rw [ldAx hd (show sub _ 10 1 false=some (.int .u64 a.cell) from rfl),c_wCell h4.1 h4.2]
 simp only [xFldV,List.toList_toArray,sub4,ruS,ruL,ruE,Nat.reduceAdd,reduceIte,Int.reduceLT,Int.reduceLE,Int.reduceEq,Int.reduceNeg,Int.reduceAdd,Int.reduceSub,Nat.reduceLeDiff,Nat.reduceLT]
 rw [ldAx hd (show sub _ 6 2 true=some (.agg #[.int .i64 a.hs,.int .i64 a.hg]) from rfl),c_Live]
 by_cases hl':lives (A.w (C.slot a.hs)) a.hg
 ·have e:decide ((slS (A.w (C.slot a.hs))=1∨slS (A.w (C.slot a.hs))=2∨slS (A.w (C.slot a.hs))=4)∧slG (A.w (C.slot a.hs))=a.hg)=true:=decide_eq_true hl'
  rw [if_pos hl'] at hk
  simp only [e,ruS,ruL,ruE,Nat.reduceAdd,reduceIte,Int.reduceLT,Int.reduceLE,Int.reduceEq,Int.reduceNeg,Int.reduceAdd,Int.reduceSub,Nat.reduceLeDiff,Nat.reduceLT]
  rw [ldAx hd (show sub _ 9 1 false=some (.int .u64 a.w) from rfl),c_wSlot h3.1 h3.2]
  simp only [xFldV,List.toList_toArray,ruS,ruL,ruE,Nat.reduceAdd,reduceIte,Int.reduceLT,Int.reduceLE,Int.reduceEq,Int.reduceNeg,Int.reduceAdd,Int.reduceSub,Nat.reduceLeDiff,Nat.reduceLT]
  by_cases c1:slA (A.w (C.slot a.hs))=slA a.w
  ·rw [if_pos c1] at hk
   simp only [c1,ne_eq,not_true_eq_false,ruS,ruL,ruE,Nat.reduceAdd,reduceIte,Int.reduceLT,Int.reduceLE,Int.reduceEq,Int.reduceNeg,Int.reduceAdd,Int.reduceSub,Nat.reduceLeDiff,Nat.reduceLT]
   rw [ldAx hd (show sub _ 0 1 false=some (.int .i64 a.kd) from rfl)]
   by_cases c2:a.kd=3
   ·rw [if_pos c2] at hk
    simp only [c2,ruS,ruL,ruE,Nat.reduceAdd,reduceIte,Int.reduceLT,Int.reduceLE,Int.reduceEq,Int.reduceNeg,Int.reduceAdd,Int.reduceSub,Nat.reduceLeDiff,Nat.reduceLT]
    rw [ldAx hd (show sub _ 12 1 false=some (.int .i64 a.rd) from rfl),c_Aend hd]
    exact behind hN hd hk
   ·rw [if_neg c2] at hk
    simp only [c2,ruS,ruL,ruE,Nat.reduceAdd,reduceIte,Int.reduceLT,Int.reduceLE,Int.reduceEq,Int.reduceNeg,Int.reduceAdd,Int.reduceSub,Nat.reduceLeDiff,Nat.reduceLT]
    rw [ldAx hd (show sub _ 12 1 false=some (.int .i64 a.rd) from rfl),c_Aend hd]
    exact behind hN hd hk
  ·rw [if_neg c1] at hk
   simp only [c1,ne_eq,not_false_eq_true,ruS,ruL,ruE,Nat.reduceAdd,reduceIte,Int.reduceLT,Int.reduceLE,Int.reduceEq,Int.reduceNeg,Int.reduceAdd,Int.reduceSub,Nat.reduceLeDiff,Nat.reduceLT]
   rw [stAx { a with pc:=0 } hd rfl rfl (by decide) rfl]
   exact behind hN hd hk
 ·have e:decide ((slS (A.w (C.slot a.hs))=1∨slS (A.w (C.slot a.hs))=2∨slS (A.w (C.slot a.hs))=4)∧slG (A.w (C.slot a.hs))=a.hg)=false:=decide_eq_false hl'
  rw [if_neg hl'] at hk
  simp only [e,ruS,ruL,ruE,Nat.reduceAdd,reduceIte,Int.reduceLT,Int.reduceLE,Int.reduceEq,Int.reduceNeg,Int.reduceAdd,Int.reduceSub,Nat.reduceLeDiff,Nat.reduceLT]
  rw [c_Now,c_Aend hd]
  exact behind hN hd hk
end Go.Fl
namespace Go.Fl
open Go
set_option linter.unusedVariables false
set_option linter.unusedSimpArgs false
variable {N:Nm} {A B:Ar} {σ:Mem} {K:Value→Mem→Prop} {C:Cf} {who:Int}
structure Ak where
 a:Ac
 h:Hl
def Ak.new (kd n ix v old:Int) (own:Bool):Ak:=⟨Ac.new kd n ix v old own,Hl.new 0 0 0⟩
def Ak.step (C:Cf) (who:Int) (A:Ar) (m:Ak):Bool × Ak × Ar:=
 if m.a.pc=4 then
  if (m.h.step C who A).1=true then (false,{ m with a:={ m.a with pc:=0 } },(m.h.step C who A).2.2) else (false,{ m with h:=(m.h.step C who A).2.1 },(m.h.step C who A).2.2)
 else ((m.a.step C who A).1,⟨(m.a.step C who A).2.1,if m.a.pc=2 then Hl.new m.a.hs m.a.w m.a.size else m.h⟩,(m.a.step C who A).2.2)
structure Ak.fit (C:Cf) (A:Ar) (m:Ak):Prop where
 a:m.a.fit C A
 h:m.a.pc=4→m.h.fit C
def Ac.wh (a:Ac) (x:Option Nat):Ac:={ a with help:=x }
theorem Ac.step_help {a:Ac} {x:Option Nat}:(a.wh x).step C who A=((a.step C who A).1,(a.step C who A).2.1.wh x,(a.step C who A).2.2):=by
 obtain ⟨kd,n,ix,v,old,own,hs,hg,pc,w,cell,seen,rd,size,help,oE,oH,oV,oS⟩:=a
 unfold Ac.step Ac.wh Ac.at' Ac.fin Ac.nxt
 dsimp only
 repeat' split
 all_goals rfl
theorem Ac.step_pc {a:Ac} (h2:a.pc≠2) (h4:a.pc≠4):(a.step C who A).2.1.pc≠4:=by
 unfold Ac.step Ac.fin
 repeat' split
 all_goals (dsimp only; omega)
structure AOb (N:Nm) (p:Nat) (O:List Nat) (m:Ak) (τ:Mem):Prop where
 obj:∃ x,τ.get p=some ⟨(m.a.wh x).l,true⟩∧(m.a.pc=4→∃ q,x=some q∧q ∈ O∧q≠p∧τ.get q=some ⟨[] ++ m.h.l ++ [],true⟩)
 own:∀ i ∈ O,i ∉ N.l
 p:p ∈ O
theorem AOb.ext {p:Nat} {O:List Nat} {m:Ak} {τ:Mem} (h:AOb N p O m σ) (x:Ext σ τ):AOb N p O m τ:=by
 obtain ⟨⟨a,h1,h2⟩,h4,h5⟩:=h
 refine ⟨⟨a,x _ _ h1,fun e=>?_⟩,h4,h5⟩
 obtain ⟨q,q1,q2,q3,q4⟩:=h2 e; exact ⟨q,q1,q2,q3,x _ _ q4⟩
theorem AOb.keep {p:Nat} {O L:List Nat} {m:Ak} {τ:Mem} (h:AOb N p O m σ) (x:Keep L σ τ) (hL:∀ i ∈ O,i ∉ L):AOb N p O m τ:=by
 obtain ⟨⟨a,h1,h2⟩,h4,h5⟩:=h
 refine ⟨⟨a,x.get h1 (hL p h5),fun e=>?_⟩,h4,h5⟩
 obtain ⟨q,q1,q2,q3,q4⟩:=h2 e; exact ⟨q,q1,q2,q3,x.get q4 (hL q q2)⟩
theorem c_Acc_Step (hN:N.ok) (hC:C.ok) (hA:isA N A σ) {p:Nat} {O:List Nat} {m:Ak} (hO:AOb N p O m σ) (hw:∀ i,0≤A.w i∧A.w i<18446744073709551616) (hn:C.len≤A.n) (hf:m.fit C A)
  (hk:∀ O' τ,(∀ i ∈ O',i ∈ O∨σ.get i=none)→isA N (m.step C who A).2.2 τ→AOb N p O' (m.step C who A).2.1 τ→Keep (O ++ N.l) σ τ→K (.bool (m.step C who A).1) τ):s_ab [.pointer (some ⟨p,0,none⟩),N.env C who] K σ:=by
 obtain ⟨⟨x,hp,h3⟩,own,pO⟩:=hO
 have hd:=own p pO
 have k1:∀ {τ:Mem},Keep (p :: N.l) σ τ→Keep (O ++ N.l) σ τ:=fun k=>k.mono fun i hi=>by
  rcases List.mem_cons.1 hi with rfl | hi
  ·exact List.mem_append_left _ pO
  ·exact List.mem_append_right _ hi
 have same:∀ i ∈ O,i ∈ O∨σ.get i=none:=fun i hi=>.inl hi
 have cons:∀ {q:Nat},σ.get q=none→∀ i ∈ q :: O,i ∈ O∨σ.get i=none:=fun h i hi=>by rcases List.mem_cons.1 hi with rfl | hi; exact .inr h; exact .inl hi
 have ownc:∀ {q:Nat},q ∉ N.l→∀ i ∈ q :: O,i ∉ N.l:=fun h i hi=>by rcases List.mem_cons.1 hi with rfl | hi; exact h; exact own i hi
 have hpc:=hf.a.pc
 have hfx:(m.a.wh x).fit C A:=⟨hf.a.pc,hf.a.n,hf.a.hs,hf.a.w,hf.a.cell,hf.a.a1,hf.a.a2,hf.a.bd⟩
 have hpx:(m.a.wh x).pc=m.a.pc:=rfl
 by_cases c4:m.a.pc=4
 ·unfold Ak.step at hk
  rw [if_pos c4] at hk
  obtain ⟨q,rfl,qO,qp,gq⟩:=h3 c4
  have k2:∀ {τ:Mem},Keep (q :: p :: N.l) σ τ→Keep (O ++ N.l) σ τ:=fun k=>k.mono fun i hi=>by
   rcases List.mem_cons.1 hi with rfl | hi
   ·exact List.mem_append_left _ qO
   ·rcases List.mem_cons.1 hi with rfl | hi
    ·exact List.mem_append_left _ pO
    ·exact List.mem_append_right _ hi
  refine c_Ac4 hN hC hA (a:=m.a.wh (some q)) (t:=m.h) hp hd gq (own q qO) qp hw hn c4 rfl (hf.h c4) (fun d τ u1 u2 u3 u4=>?_) (fun d τ u1 u2 u3=>?_)
  ·rw [if_neg (by rw [d]; decide)] at hk
   exact hk O τ same u1 ⟨⟨some q,u2,fun _=>⟨q,rfl,qO,qp,u3⟩⟩,own,pO⟩ (k2 u4)
  ·rw [if_pos d] at hk
   exact hk O τ same u1 ⟨⟨some q,u2,fun e=>by dsimp only at e; omega⟩,own,pO⟩ (k2 u3)
 unfold Ak.step at hk
 rw [if_neg c4] at hk
 by_cases c2:m.a.pc=2
 ·rw [if_pos c2] at hk
  have e:=Ac.step_help (C:=C) (who:=who) (A:=A) (a:=m.a) (x:=x)
  refine c_Ac2 hN hC hA (a:=m.a.wh x) (who:=who) hp hd hw hfx c2 ?_ ?_
  ·rw [e]
   intro c τ u1 u2 u3
   exact hk O τ same u1 ⟨⟨x,u2,fun q=>absurd q c⟩,own,pO⟩ (k1 u3)
  ·rw [e]
   intro c q τ q1 q2 u1 u2 u3 u4
   exact hk (q :: O) τ (cons q1) u1 ⟨⟨some q,u2,fun _=>⟨q,rfl,List.mem_cons_self ..,q2,by rw [List.nil_append,List.append_nil]; exact u3⟩⟩,ownc (hA.new q1),List.mem_cons_of_mem _ pO⟩ (k1 u4)
 rw [if_neg c2] at hk
 have np:=Ac.step_pc (C:=C) (who:=who) (A:=A) c2 c4
 have hk':∀ τ,isA N ((m.a.wh x).step C who A).2.2 τ→τ.get p=some ⟨((m.a.wh x).step C who A).2.1.l,true⟩→Keep (p :: N.l) σ τ→K (.bool ((m.a.wh x).step C who A).1) τ:=by
  rw [Ac.step_help]
  intro τ u1 u2 u3
  exact hk O τ same u1 ⟨⟨x,u2,fun q=>absurd q np⟩,own,pO⟩ (k1 u3)
 rcases (show m.a.pc=0∨m.a.pc=1∨m.a.pc=3∨m.a.pc=5∨m.a.pc=6 by omega) with c | c | c | c | c
 ·exact c_Ac0 hN hC hA hp hd hw hn hfx c hk'
 ·exact c_Ac1 hN hC hA hp hd hw hfx c hk'
 ·exact c_Ac3 hN hC hA hp hd hn hfx c hk'
 ·exact c_Ac5 hN hC hA hp hd hfx c hk'
 ·exact c_Ac6 hN hC hA hp hd hw hn hfx c hk'
theorem AOb.done {p:Nat} {O:List Nat} {m:Ak} (hA:isA N A σ) (h:AOb N p O m σ) (hk:K (.agg #[.int .i64 m.a.oE,.int .u64 m.a.oH,.int .i64 m.a.oV,.int .i64 m.a.oS]) σ):s_aa [.pointer (some ⟨p,0,none⟩)] K σ:=by
 obtain ⟨⟨x,hp,_⟩,own,pO⟩:=h
 exact c_AccDone hA (a:=m.a.wh x) hp hk
theorem aob_new {kd n ix v old:Int} {o:Bool} (hA:isA N A σ) (hk:∀ p τ,σ.get p=none→AOb N p [p] (Ak.new kd n ix v old o) τ→Ext σ τ→K (.pointer (some ⟨p,0,none⟩)) τ):s_ag [.agg #[.int .i64 kd,.int .u64 n,.int .i64 ix,.int .i64 v,.int .i64 old],.bool o] K σ:=by
 refine c_AccNew fun p τ hp gp x=>hk p τ hp ⟨⟨none,gp,(fun e=>by cases e)⟩,fun i hi=>?_,List.mem_singleton.2 rfl⟩ x
 rw [List.mem_singleton.1 hi]; exact hA.new hp
theorem c_Acc (hN:N.ok) (hC:C.ok) (hA:isA N A σ) {kd n ix v old:Int} {o:Bool} (I:Int→Ak→Ar→Prop) (D:Ak→Ar→Prop) (h0:I 0 (Ak.new kd n ix v old o) A)
  (hs:∀ k m A,0≤k→k<200→I k m A→m.fit C A∧(∀ i,0≤A.w i∧A.w i<18446744073709551616)∧C.len≤A.n∧if (m.step C who A).1=true then D (m.step C who A).2.1 (m.step C who A).2.2 else I (k+1) (m.step C who A).2.1 (m.step C who A).2.2)
  (he:∀ m A,I 200 m A→D m A) (hk:∀ m A' τ,D m A'→isA N A' τ→Keep N.l σ τ→K (.agg #[.int .i64 m.a.oE,.int .u64 m.a.oH,.int .i64 m.a.oV,.int .i64 m.a.oS]) τ) :
  s_bd [N.env C who,.agg #[.int .i64 kd,.int .u64 n,.int .i64 ix,.int .i64 v,.int .i64 old],.bool o] K σ:=by
 have gs:∀ x y z w:Int,gStore 4 [.pointer (some ⟨6,0,some 0⟩),.agg #[.int .i64 x,.int .u64 y,.int .i64 z,.int .i64 w]] [.int .i64 0,.int .u64 0,.int .i64 0,.int .i64 0]=some [.int .i64 x,.int .u64 y,.int .i64 z,.int .i64 w]:=fun _ _ _ _=>rfl
 have g:gBox 5 [.agg #[.int .i64 kd,.int .u64 n,.int .i64 ix,.int .i64 v,.int .i64 old]] []=some [.int .i64 kd,.int .u64 n,.int .i64 ix,.int .i64 v,.int .i64 old]:=rfl
 have s5:∀ x y z u w:Value,sub [x,y,z,u,w] 0 5 true=some (.agg #[x,y,z,u,w]):=fun _ _ _ _ _=>rfl
 simp only [s_bd,w_bd,g,s5,ruS,ruL,ruE,Nat.reduceAdd,reduceIte,Int.reduceLT,Int.reduceLE,Int.reduceEq,Int.reduceNeg,Int.reduceAdd,Int.reduceSub,Nat.reduceLeDiff,Nat.reduceLT]
 refine aob_new hA fun p τ0 hp ho x0=>?_
 have fin:∀ m A' τ,D m A'→isA N A' τ→(∃ O,AOb N p O m τ)→Keep N.l σ τ→w_bd_j1 K [.pointer (some ⟨p,0,none⟩)] [[.int .i64 0,.int .u64 0,.int .i64 0,.int .i64 0]] τ:=by
  rintro m A' τ hD hA' ⟨O,hO⟩ hK
  simp only [w_bd_j1,w_bd_j1b,ruS,ruL,ruE,Nat.reduceAdd,reduceIte,Int.reduceLT,Int.reduceLE,Int.reduceEq,Int.reduceNeg,Int.reduceAdd,Int.reduceSub,Nat.reduceLeDiff,Nat.reduceLT]
  refine AOb.done hA' hO ?_
  simp only [gs,sub4,ruS,ruL,ruE,Nat.reduceAdd,reduceIte,Int.reduceLT,Int.reduceLE,Int.reduceEq,Int.reduceNeg,Int.reduceAdd,Int.reduceSub,Nat.reduceLeDiff,Nat.reduceLT]
  exact hk m A' τ hD hA' hK
 refine xLoop_i (fun i=>[.pointer (some ⟨p,0,none⟩),.int .i64 i]) [N.el C who,[.int .i64 0,.int .u64 0,.int .i64 0,.int .i64 0]] 200
  (fun i τ=>∃ m A' O,0≤i∧i≤200∧isA N A' τ∧I i m A'∧AOb N p O m τ∧(∀ j ∈ O,σ.get j=none)∧Keep N.l σ τ) ?_ ⟨_,A,[p],by omega,by omega,hA.ext x0,h0,ho,fun j hj=>by rw [List.mem_singleton.1 hj]; exact hp,x0.keep⟩
 rintro i τ ⟨m,A',O,i0,i1,hA',hI,hO,hOn,hK⟩ R hR
 simp only [w_law10_Do_l4,w_law10_Do_l4b,ruS,ruL,ruE,Nat.reduceAdd,reduceIte,Int.reduceLT,Int.reduceLE,Int.reduceEq,Int.reduceNeg,Int.reduceAdd,Int.reduceSub,Nat.reduceLeDiff,Nat.reduceLT]
 by_cases ci:i<200
 ·simp only [ci,ruS,ruL,ruE,Nat.reduceAdd,reduceIte,Int.reduceLT,Int.reduceLE,Int.reduceEq,Int.reduceNeg,Int.reduceAdd,Int.reduceSub,Nat.reduceLeDiff,Nat.reduceLT]
  obtain ⟨hf,hw,hn,hst⟩:=hs i m A' i0 ci hI
  refine c_Acc_Step hN hC hA' hO hw hn hf fun O' τ' hO' hA2 hO2 hK2=>?_
  have hK3:Keep N.l σ τ':=by
   intro j b hj hn'
   refine hK2 j b (hK j b hj hn') fun hm=>?_
   rcases List.mem_append.1 hm with h | h
   ·rw [hOn j h] at hj; cases hj
   ·exact hn' h
  have hOn':∀ j ∈ O',σ.get j=none:=by
   intro j hj
   rcases hO' j hj with h | h
   ·exact hOn j h
   ·cases e:σ.get j with
    | none=>rfl
    | some b=>rw [hK j b e (hA'.new h)] at h; cases h
  generalize m.step C who A'=r at *
  obtain ⟨d,m',A2⟩:=r
  dsimp only at *
  cases d with
  | true=>
   simp only [ruS,ruL,ruE,Nat.reduceAdd,reduceIte,Int.reduceLT,Int.reduceLE,Int.reduceEq,Int.reduceNeg,Int.reduceAdd,Int.reduceSub,Nat.reduceLeDiff,Nat.reduceLT] at hst ⊢
   exact fin m' A2 τ' hst hA2 ⟨O',hO2⟩ hK3
  | false=>
   simp only [ruS,ruL,ruE,Nat.reduceAdd,reduceIte,Int.reduceLT,Int.reduceLE,Int.reduceEq,Int.reduceNeg,Int.reduceAdd,Int.reduceSub,Nat.reduceLeDiff,Nat.reduceLT] at hst ⊢
   rw [IntWalk.i64_in (i+1) (by omega)]
   exact hR _ ci ⟨m',A2,O',by omega,by omega,hA2,hst,hO2,hOn',hK3⟩
 ·simp only [ci,ruS,ruL,ruE,Nat.reduceAdd,reduceIte,Int.reduceLT,Int.reduceLE,Int.reduceEq,Int.reduceNeg,Int.reduceAdd,Int.reduceSub,Nat.reduceLeDiff,Nat.reduceLT]
  have:i=200:=by omega
  subst this
  exact fin m A' τ (he _ _ hI) hA' ⟨O,hO⟩ hK
end Go.Fl
namespace Go.Fl
open Go
set_option linter.unusedVariables false
set_option linter.unusedSimpArgs false
variable {N:Nm} {A B:Ar} {σ:Mem} {K:Value→Mem→Prop} {C:Cf} {who:Int}
theorem Ak.new_fit (hC:C.ok) {kd n ix v old:Int} {o:Bool} (hn:0≤n∧n<18446744073709551616) (hb:(A.n:Int)≤200000000):(Ak.new kd n ix v old o).fit C A:=by
 have hS:=hC.S
 exact ⟨⟨⟨Int.le_refl 0,(by decide:(0:Int)≤6)⟩,hn,⟨Int.le_refl 0,by show (0:Int)<C.S; omega⟩,⟨Int.le_refl 0,(by decide:(0:Int)<18446744073709551616)⟩,⟨Int.le_refl 0,(by decide:(0:Int)<18446744073709551616)⟩,fun e=>(by cases e),fun e=>(by rcases e with e | e <;> cases e),hb⟩,fun e=>(by cases e)⟩
def NaI (C:Cf) (A0:Ar) (m0:Ak) (k:Int) (m:Ak) (A:Ar):Prop:=
 k=0∧m=m0∧A=A0∨k=1∧A.w=A0.w∧A.s=A0.s+1∧A.n=A0.n∧(∀ bb,A0.ok bb→A.ok (bb+1))∧m.a.pc=1∧m.a.n=m0.a.n∧m.a.own=m0.a.own∧m.a.w=A0.w (C.slot (hdSl m0.a.n))∧(m.a.hs=hdSl m0.a.n∧hdSl m0.a.n<C.S)∧slA m.a.w<C.len∧hdO (A0.w (slA m.a.w))≠m0.a.own∧m.a.cell=0
structure NaD (A0:Ar) (m:Ak) (A:Ar):Prop where
 e:m.a.oE=3∧m.a.oH=0∧m.a.oV=0
 s:A0.s≤m.a.oS∧m.a.oS=A.s∧A.s≤A0.s+2
 w:A.w=A0.w
 n:A.n=A0.n
 ok:∀ bb,A0.ok bb→A.ok (bb+2)
theorem NaI.step (hC:C.ok) {A0:Ar} {k bb kd n ix v old:Int} {own:Bool} {m:Ak} (h:NaI C A0 (Ak.new kd n ix v old own) k m A) (hn:NoDrop C A0.w n own) (h0:0≤n∧n<18446744073709551616) (ok:A0.ok bb) (hb:bb<4611686018427387904) (hl:C.len≤A0.n) (hb2:(A0.n:Int)≤200000000) :
  m.fit C A∧(A.ok (bb+1)∧C.len≤A.n∧((m.step C who A).2.2=A∨∃ a,(m.step C who A).2.2=(A.by who).load a∧0≤a∧a<C.len))∧(((m.step C who A).1=false∧NaI C A0 (Ak.new kd n ix v old own) (k+1) (m.step C who A).2.1 (m.step C who A).2.2)∨((m.step C who A).1=true∧NaD A0 (m.step C who A).2.1 (m.step C who A).2.2)):=by
 rcases h with ⟨rfl,rfl,rfl⟩ | ⟨rfl,ew,es,en,eo,h1,h2,h3,h4,h5,h6,h7,h8⟩
 ·have hT:=hC.T
  have hS:=hC.S
  have hCC:=hC.C
  have hll:=len_bd hC
  have hsb:hdSl n<C.S→0≤C.slot (hdSl n)∧C.slot (hdSl n)<C.len:=fun q=>by have:=hdSl_bd h0.1; unfold Cf.slot; unfold Cf.chunk at hll; omega
  refine ⟨Ak.new_fit hC h0 hb2,?_⟩
  suffices H:_∧_ from ⟨⟨ok_mono ok (by omega),hl,H.1⟩,H.2⟩
  have p0:(Ak.new kd n ix v old own).a.pc=0:=rfl
  have hb:=hdSl_bd h0.1
  have a1:=aft_load (who:=who) (A:=A) (a:=C.slot (hdSl n)) ok (by omega)
  have e0:(Ak.new kd n ix v old own).step C who A=(((Ak.new kd n ix v old own).a.step C who A).1,⟨((Ak.new kd n ix v old own).a.step C who A).2.1,(Ak.new kd n ix v old own).h⟩,((Ak.new kd n ix v old own).a.step C who A).2.2):=by
   unfold Ak.step; rw [if_neg (by rw [p0]; decide),if_neg (by rw [p0]; decide)]
  rw [e0]
  by_cases c:hdOk n=false∨C.S≤hdSl n
  ·have e:(Ak.new kd n ix v old own).a.step C who A=(true,({ (Ak.new kd n ix v old own).a with hs:=hdSl n,hg:=hdGe n }:Ac).fin 3 0 A.s,A):=by
    unfold Ac.step; rw [if_pos p0,if_pos (show hdOk (Ak.new kd n ix v old own).a.n=false∨C.S≤hdSl (Ak.new kd n ix v old own).a.n from c)]; rfl
   rw [e]
   refine ⟨.inl rfl,?_⟩
   exact .inr ⟨rfl,⟨rfl,rfl,rfl⟩,⟨Int.le_refl _,rfl,by dsimp only; omega⟩,rfl,rfl,fun b2 o2=>ok_mono o2 (by omega)⟩
  ·rcases hn with hn | ⟨hn1,hn⟩
   ·exact absurd hn c
   rcases hn with hn | ⟨hn,h8,h9⟩
   ·have e:(Ak.new kd n ix v old own).a.step C who A=(true,({ (Ak.new kd n ix v old own).a with hs:=hdSl n,hg:=hdGe n,w:=A.w (C.slot (hdSl n)),seen:=((A.by who).load (C.slot (hdSl n))).s,pc:=1 }:Ac).fin 3 0 ((A.by who).load (C.slot (hdSl n))).s,(A.by who).load (C.slot (hdSl n))):=by
     unfold Ac.step; rw [if_pos p0,if_neg (show ¬ (hdOk (Ak.new kd n ix v old own).a.n=false∨C.S≤hdSl (Ak.new kd n ix v old own).a.n) from c),if_neg (show ¬ lives (A.w (C.slot (hdSl (Ak.new kd n ix v old own).a.n))) (hdGe (Ak.new kd n ix v old own).a.n) from hn)]; rfl
    rw [e]
    refine ⟨.inr ⟨_,rfl,hsb hn1.2⟩,?_⟩
    exact .inr ⟨rfl,⟨rfl,rfl,rfl⟩,⟨by have:=a1.s; show A.s≤((A.by who).load (C.slot (hdSl n))).s; omega,rfl,by have:=a1.s; show ((A.by who).load (C.slot (hdSl n))).s≤_; omega⟩,rfl,rfl,fun b2 o2=>ok_mono (a1.ok (by decide) o2 o2.w) (by omega)⟩
   ·have e:(Ak.new kd n ix v old own).a.step C who A=(false,{ (Ak.new kd n ix v old own).a with hs:=hdSl n,hg:=hdGe n,w:=A.w (C.slot (hdSl n)),seen:=((A.by who).load (C.slot (hdSl n))).s,pc:=1 },(A.by who).load (C.slot (hdSl n))):=by
     unfold Ac.step; rw [if_pos p0,if_neg (show ¬ (hdOk (Ak.new kd n ix v old own).a.n=false∨C.S≤hdSl (Ak.new kd n ix v old own).a.n) from c),if_pos (show lives (A.w (C.slot (hdSl (Ak.new kd n ix v old own).a.n))) (hdGe (Ak.new kd n ix v old own).a.n) from hn)]; rfl
    rw [e]
    refine ⟨.inr ⟨_,rfl,hsb hn1.2⟩,?_⟩
    exact .inl ⟨rfl,.inr ⟨rfl,rfl,a1.s,rfl,fun b2 o2=>a1.ok (by decide) o2 o2.w,rfl,rfl,rfl,rfl,⟨rfl,hn1.2⟩,h8,h9,rfl⟩⟩
 ·have ok':=eo bb ok
  have hb':=hdSl_bd h0.1
  have hnn:(Ak.new kd n ix v old own).a.n=n:=rfl
  have hoo:(Ak.new kd n ix v old own).a.own=own:=rfl
  rw [hnn] at h2 h4 h5
  rw [hoo] at h3 h7
  refine ⟨⟨⟨by omega,by rw [h2]; exact h0,by rw [h5.1]; exact ⟨hb'.1.1,h5.2⟩,by rw [h4]; exact ok.w _,by rw [h8]; decide,fun _=>by omega,fun e=>by omega,by omega⟩,fun e=>by omega⟩,?_⟩
  suffices H:_∧_ from ⟨⟨ok',by omega,H.1⟩,H.2⟩
  have a1:=aft_load (who:=who) (A:=A) (a:=slA m.a.w) ok' (by omega)
  have e0:m.step C who A=((m.a.step C who A).1,⟨(m.a.step C who A).2.1,m.h⟩,(m.a.step C who A).2.2):=by
   unfold Ak.step; rw [if_neg (by omega),if_neg (by omega)]
  have e:m.a.step C who A=(true,({ m.a with size:=hdS (A.w (slA m.a.w)),pc:=2 }:Ac).fin 3 0 ((A.by who).load (slA m.a.w)).s,(A.by who).load (slA m.a.w)):=by
   unfold Ac.step; rw [if_neg (by omega),if_pos h1,if_pos (by rw [h3,ew]; exact h7)]
  rw [e0,e]
  refine ⟨.inr ⟨_,rfl,(slA_bd _).1,h6⟩,?_⟩
  refine .inr ⟨rfl,⟨rfl,rfl,rfl⟩,⟨by have:=a1.s; show A0.s≤((A.by who).load (slA m.a.w)).s; omega,rfl,by have:=a1.s; show ((A.by who).load (slA m.a.w)).s≤_; omega⟩,ew,en,fun b2 o2=>?_⟩
  rw [show b2+2=b2+1+1 by omega]
  exact a1.ok (by decide) (eo b2 o2) (eo b2 o2).w
theorem c_AccNo (hN:N.ok) (hC:C.ok) (hA:isA N A σ) {n bb kd ix v old:Int} {own:Bool} (h0:0≤n∧n<18446744073709551616) (ok:A.ok bb) (hb:bb<4611686018427387904) (hl:C.len≤A.n) (hb2:(A.n:Int)≤200000000) (hn:NoDrop C A.w n own)
  (hk:∀ oS A' τ,(A.s≤oS∧oS=A'.s∧A'.s≤A.s+2)→A'.w=A.w→A'.n=A.n→A'.ok (bb+2)→isA N A' τ→Keep N.l σ τ→K (.agg #[.int .i64 3,.int .u64 0,.int .i64 0,.int .i64 oS]) τ) :
  s_bd [N.env C who,.agg #[.int .i64 kd,.int .u64 n,.int .i64 ix,.int .i64 v,.int .i64 old],.bool own] K σ:=by
 refine c_Acc hN hC hA (NaI C A (Ak.new kd n ix v old own)) (NaD A) (.inl ⟨rfl,rfl,rfl⟩) (fun k m A' k0 k1 h=>?_) (fun m A' h=>?_) (fun m A' τ hD hA' hK=>?_)
 ·obtain ⟨q1,q2,q3⟩:=h.step (who:=who) hC hn h0 ok hb hl hb2
  refine ⟨q1,q2.1.w,q2.2.1,?_⟩
  rcases q3 with ⟨d,h'⟩ | ⟨d,h'⟩
  ·rw [if_neg (by rw [d]; decide)]; exact h'
  ·rw [if_pos d]; exact h'
 ·rcases h with ⟨h,_⟩ | ⟨h,_⟩ <;> omega
 ·rw [hD.e.1,hD.e.2.1,hD.e.2.2]
  exact hk m.a.oS A' τ hD.s hD.w hD.n (hD.ok bb ok) hA' hK
end Go.Fl
namespace Go.Fl
open Go
set_option linter.unusedVariables false
set_option linter.unusedSimpArgs false
variable {N:Nm} {A B:Ar} {σ:Mem} {K:Value→Mem→Prop} {C:Cf} {who:Int}
structure Ol (C:Cf) (w:Int→Int) (n:Int) (own:Bool) (z a:Int):Prop where
 nb:0≤n∧n<18446744073709551616
 ok:hdOk n=true
 s:hdSl n<C.S
 st:slS (w (C.slot (hdSl n)))=1
 ad:slA (w (C.slot (hdSl n)))=a
 ge:slG (w (C.slot (hdSl n)))=hdGe n
 hd:hdO (w a)=own∧hdS (w a)=z
 bd:C.base 0≤a∧a+z<C.len
 z1:1≤z
 cl:∀ x,0≤x→x<z→ceF (w (a+1+x))=false
def Looks (m:Ak) (c:Int):Prop:=m.a.kd=1∨m.a.kd=3∧ceV c≠m.a.old
def LvI (C:Cf) (A0:Ar) (m0:Ak) (z a k:Int) (m:Ak) (A:Ar):Prop:=
 k=0∧m=m0∧A=A0 ∨
 (A.w=A0.w∧A.s=A0.s+k∧A.n=A0.n∧(∀ bb,A0.ok bb→A.ok (bb+k))) ∧
  (m.a.kd=m0.a.kd∧m.a.n=m0.a.n∧m.a.ix=m0.a.ix∧m.a.v=m0.a.v∧m.a.old=m0.a.old∧m.a.own=m0.a.own∧m.a.hs=hdSl m0.a.n∧m.a.hg=hdGe m0.a.n∧m.a.w=A0.w (C.slot (hdSl m0.a.n))) ∧
  (k=1∧m.a.pc=1∧m.a.cell=0∧m.a.seen=A0.s+1∨(0≤m0.a.ix∧m0.a.ix<z)∧(k=2∧m.a.pc=2∧m.a.cell=0 ∨
   k=3∧m.a.cell=A0.w (a+1+m0.a.ix)∧m.a.rd=A0.s+3∧(m.a.pc=5∧¬ Looks m0 m.a.cell∨m.a.pc=6∧Looks m0 m.a.cell)))
structure LvD (C : Cf) (A0 : Ar) (m0 : Ak) (z a : Int) (m : Ak) (A : Ar) : Prop where
  r : ¬ (0 ≤ m0.a.ix ∧ m0.a.ix < z) ∧ m.a.oE = 4 ∧ m.a.oV = 0 ∧ m.a.oS = A0.s + 1 ∧ A.s = A0.s + 2 ∧ A.w = A0.w ∨
    (0 ≤ m0.a.ix ∧ m0.a.ix < z) ∧ A.s = A0.s + 4 ∧ m.a.oV = ceV (A0.w (a + 1 + m0.a.ix)) ∧
      (Looks m0 (A0.w (a + 1 + m0.a.ix)) ∧ m.a.oE = (if m0.a.kd = 3 then 8 else 0) ∧ m.a.oS = A0.s + 3 ∧ A.w = A0.w ∨
       ¬ Looks m0 (A0.w (a + 1 + m0.a.ix)) ∧ m.a.oE = 0 ∧ m.a.oS = A0.s + 4 ∧ A.w = upd A0.w (a + 1 + m0.a.ix) (putCell m0.a.v false 0))
  h : m.a.oH = 0
  n : A.n = A0.n
  ok : ∀ bb, A0.ok bb → A.ok (bb + 4)
theorem LvI.step (hC:C.ok) {A0:Ar} {k bb z a kd n ix v old:Int} {own:Bool} {m:Ak} (h:LvI C A0 (Ak.new kd n ix v old own) z a k m A) (ho:Ol C A0.w n own z a) (ok:A0.ok bb) (hb:bb<4611686018427387904) (hl:C.len≤A0.n) (hb2:(A0.n:Int)≤200000000) :
  m.fit C A∧((∀ i,0≤A.w i∧A.w i<18446744073709551616)∧C.len≤A.n) ∧
  (((m.step C who A).1=false∧LvI C A0 (Ak.new kd n ix v old own) z a (k+1) (m.step C who A).2.1 (m.step C who A).2.2)∨((m.step C who A).1=true∧LvD C A0 (Ak.new kd n ix v old own) z a (m.step C who A).2.1 (m.step C who A).2.2)):=by
 have hT:=hC.T
 have hS:=hC.S
 have hCC:=hC.C
 have hll:=len_bd hC
 have hsl:=hdSl_bd ho.nb.1
 have hos:=ho.s
 have hbd:=ho.bd
 have hz1:=ho.z1
 have hb0:C.base 0=6+C.T+2*C.S+3*C.C:=by unfold Cf.base; omega
 have hsb:0≤C.slot (hdSl n)∧C.slot (hdSl n)<C.base 0:=by unfold Cf.slot; omega
 have hlv:lives (A0.w (C.slot (hdSl n))) (hdGe n):=⟨.inl ho.st,ho.ge⟩
 have hn0:(Ak.new kd n ix v old own).a.n=n:=rfl
 have hk0:(Ak.new kd n ix v old own).a.kd=kd:=rfl
 have hi0:(Ak.new kd n ix v old own).a.ix=ix:=rfl
 have hv0:(Ak.new kd n ix v old own).a.v=v:=rfl
 have hd0:(Ak.new kd n ix v old own).a.old=old:=rfl
 have hw0:(Ak.new kd n ix v old own).a.own=own:=rfl
 rcases h with ⟨rfl,rfl,rfl⟩ | ⟨⟨ew,es,en,eo⟩,⟨f1,f2,f3,f4,f5,f6,f7,f8,f9⟩,h⟩
 ·refine ⟨Ak.new_fit hC ho.nb hb2,⟨ok.w,hl⟩,?_⟩
  have p0:(Ak.new kd n ix v old own).a.pc=0:=rfl
  have a1:=aft_load (who:=who) (A:=A) (a:=C.slot (hdSl n)) ok (by omega)
  have e0:(Ak.new kd n ix v old own).step C who A=(((Ak.new kd n ix v old own).a.step C who A).1,⟨((Ak.new kd n ix v old own).a.step C who A).2.1,(Ak.new kd n ix v old own).h⟩,((Ak.new kd n ix v old own).a.step C who A).2.2):=by
   unfold Ak.step; rw [if_neg (by rw [p0]; decide),if_neg (by rw [p0]; decide)]
  have e:(Ak.new kd n ix v old own).a.step C who A=(false,{ (Ak.new kd n ix v old own).a with hs:=hdSl n,hg:=hdGe n,w:=A.w (C.slot (hdSl n)),seen:=((A.by who).load (C.slot (hdSl n))).s,pc:=1 },(A.by who).load (C.slot (hdSl n))):=by
   unfold Ac.step; rw [if_pos p0,if_neg (by rw [hn0]; rintro (q | q); rw [ho.ok] at q; cases q; omega),if_pos (by rw [hn0]; exact hlv)]; rfl
  rw [e0,e]
  exact .inl ⟨rfl,.inr ⟨⟨rfl,a1.s,rfl,fun b2 o2=>a1.ok (by decide) o2 o2.w⟩,⟨rfl,rfl,rfl,rfl,rfl,rfl,rfl,rfl,rfl⟩,.inl ⟨rfl,rfl,rfl,a1.s⟩⟩⟩
 rw [hk0] at f1; rw [hn0] at f2 f7 f8 f9; rw [hi0] at f3 h; rw [hv0] at f4; rw [hd0] at f5; rw [hw0] at f6
 have ok':=eo bb ok
 have hkk:0≤k∧k≤3:=by rcases h with ⟨h,_⟩ | ⟨_,⟨h,_⟩ | ⟨h,_⟩⟩ <;> omega
 have esa:slA m.a.w=a:=by rw [f9]; exact ho.ad
 have eat:m.a.at'=a+1+ix:=by unfold Ac.at'; rw [esa,f3]
 have hcell:0≤m.a.cell∧m.a.cell<18446744073709551616:=by
  rcases h with ⟨_,_,h,_⟩ | ⟨_,⟨_,_,h⟩ | ⟨_,h,_⟩⟩
  ·rw [h]; decide
  ·rw [h]; decide
  ·rw [h]; exact ok.w _
 have hfit:m.fit C A:=by
  refine ⟨⟨?_,by rw [f2]; exact ho.nb,by rw [f7]; exact ⟨hsl.1.1,hos⟩,by rw [f9]; exact ok.w _,hcell,fun _=>by omega,fun e=>?_,by omega⟩,fun e=>?_⟩
  ·rcases h with ⟨_,h,_⟩ | ⟨_,⟨_,h,_⟩ | ⟨_,_,_,⟨h,_⟩ | ⟨h,_⟩⟩⟩ <;> omega
  ·rw [eat]
   rcases h with ⟨_,h,_⟩ | ⟨hi,_⟩ <;> omega
  ·rcases h with ⟨_,h,_⟩ | ⟨_,⟨_,h,_⟩ | ⟨_,_,_,⟨h,_⟩ | ⟨h,_⟩⟩⟩ <;> omega
 refine ⟨hfit,⟨ok'.w,by omega⟩,?_⟩
 rcases h with ⟨rfl,h1,h2,h3⟩ | ⟨hi,⟨rfl,h1,h2⟩ | ⟨rfl,h1,h2,h3⟩⟩
 ·have a1:=aft_load (who:=who) (A:=A) (a:=slA m.a.w) ok' (by omega)
  have e0:m.step C who A=((m.a.step C who A).1,⟨(m.a.step C who A).2.1,m.h⟩,(m.a.step C who A).2.2):=by
   unfold Ak.step; rw [if_neg (by omega),if_neg (by omega)]
  have own':¬ hdO (A.w (slA m.a.w))≠m.a.own:=by rw [esa,ew,f6,ho.hd.1]; simp
  by_cases c:m.a.ix<0∨hdS (A.w (slA m.a.w))≤m.a.ix
  ·have e:m.a.step C who A=(true,({ m.a with size:=hdS (A.w (slA m.a.w)),pc:=2 }:Ac).fin 4 0 m.a.seen,(A.by who).load (slA m.a.w)):=by
    unfold Ac.step; rw [if_neg (by omega),if_pos h1,if_neg own',if_pos c]
   rw [e0,e]
   rw [esa,ew,ho.hd.2,f3] at c
   exact .inr ⟨rfl,⟨.inl ⟨by rw [hi0]; omega,rfl,rfl,h3,by have:=a1.s; show ((A.by who).load (slA m.a.w)).s=_; omega,ew⟩,rfl,en,fun b2 o2=>ok_mono (a1.ok (by decide) (eo b2 o2) (eo b2 o2).w) (by omega)⟩⟩
  ·have e:m.a.step C who A=(false,{ m.a with size:=hdS (A.w (slA m.a.w)),pc:=2 },(A.by who).load (slA m.a.w)):=by
    unfold Ac.step; rw [if_neg (by omega),if_pos h1,if_neg own',if_neg c]
   rw [e0,e]
   rw [esa,ew,ho.hd.2,f3] at c
   exact .inl ⟨rfl,.inr ⟨⟨ew,by have:=a1.s; show ((A.by who).load (slA m.a.w)).s=_; omega,en,fun b2 o2=>by rw [show b2+(1+1)=b2+1+1 by omega]; exact a1.ok (by decide) (eo b2 o2) (eo b2 o2).w⟩,⟨f1,f2,f3,f4,f5,f6,f7,f8,f9⟩,.inr ⟨by rw [hi0]; omega,.inl ⟨rfl,rfl,h2⟩⟩⟩⟩
 ·have a1:=aft_load (who:=who) (A:=A) (a:=m.a.at') ok' (by omega)
  have e0:m.step C who A=((m.a.step C who A).1,⟨(m.a.step C who A).2.1,Hl.new m.a.hs m.a.w m.a.size⟩,(m.a.step C who A).2.2):=by
   unfold Ak.step; rw [if_neg (by omega),if_pos h1]
  have e:m.a.step C who A=(false,{ m.a with cell:=A.w m.a.at',rd:=((A.by who).load m.a.at').s,pc:=({ m.a with cell:=A.w m.a.at' }:Ac).nxt },(A.by who).load m.a.at'):=by
   unfold Ac.step; rw [if_neg (by omega),if_neg (by omega),if_pos h1]
  rw [e0,e]
  have ecl:A.w m.a.at'=A0.w (a+1+ix):=by rw [eat,ew]
  have hce:=ho.cl ix hi.1 hi.2
  have nx:({ m.a with cell:=A.w m.a.at' }:Ac).nxt=if m.a.kd=1∨m.a.kd=3∧ceV (A.w m.a.at')≠m.a.old then 6 else 5:=by
   unfold Ac.nxt
   dsimp only
   have hs1:¬ slS m.a.w=4:=by rw [f9,ho.st]; decide
   rw [if_neg hs1,if_pos (show ceF (A.w m.a.at')=false∨ceN (A.w m.a.at')<slV m.a.w from .inl (by rw [ecl]; exact hce))]
  refine .inl ⟨rfl,.inr ⟨⟨ew,by have:=a1.s; show ((A.by who).load m.a.at').s=_; omega,en,fun b2 o2=>by rw [show b2+(2+1)=b2+2+1 by omega]; exact a1.ok (by decide) (eo b2 o2) (eo b2 o2).w⟩,⟨f1,f2,f3,f4,f5,f6,f7,f8,f9⟩,.inr ⟨hi,.inr ⟨rfl,ecl,by have:=a1.s; show ((A.by who).load m.a.at').s=_; omega,?_⟩⟩⟩⟩
  show ({ m.a with cell:=A.w m.a.at' }:Ac).nxt=5∧¬ Looks _ (A.w m.a.at')∨({ m.a with cell:=A.w m.a.at' }:Ac).nxt=6∧Looks _ (A.w m.a.at')
  rw [nx,f1,f5]
  unfold Looks
  rw [hk0,hd0]
  by_cases c:kd=1∨kd=3∧ceV (A.w m.a.at')≠old
  ·rw [if_pos c]; exact .inr ⟨rfl,c⟩
  ·rw [if_neg c]; exact .inl ⟨rfl,c⟩
 ·have e0:m.step C who A=((m.a.step C who A).1,⟨(m.a.step C who A).2.1,m.h⟩,(m.a.step C who A).2.2):=by
   unfold Ak.step; rw [if_neg (by rcases h3 with ⟨h,_⟩ | ⟨h,_⟩ <;> omega),if_neg (by rcases h3 with ⟨h,_⟩ | ⟨h,_⟩ <;> omega)]
  rcases h3 with ⟨hp,hq⟩ | ⟨hp,hq⟩
  ·have a1:=aft_cas (who:=who) (A:=A) (a:=m.a.at') (o:=m.a.cell) (v:=putCell m.a.v false 0) ok' (by omega)
   have ec:A.w m.a.at'=m.a.cell:=by rw [eat,ew,h1]
   rw [if_pos ec] at a1
   have e:m.a.step C who A=(true,({ m.a with pc:=0 }:Ac).fin 0 (ceV m.a.cell) ((A.by who).cas m.a.at' m.a.cell (putCell m.a.v false 0)).s,(A.by who).cas m.a.at' m.a.cell (putCell m.a.v false 0)):=by
    unfold Ac.step; rw [if_neg (by omega),if_neg (by omega),if_neg (by omega),if_neg (by omega),if_pos hp,if_pos ec]
   rw [e0,e]
   refine .inr ⟨rfl,⟨.inr ⟨hi,by have:=a1.s; show ((A.by who).cas _ _ _).s=_; omega,by show ceV m.a.cell=_; rw [h1,hi0],.inr ⟨by rw [hi0,← h1]; exact hq,rfl,by have:=a1.s; show ((A.by who).cas _ _ _).s=_; omega,?_⟩⟩,rfl,by show ((A.by who).cas _ _ _).n=_; rw [a1.n,en],fun b2 o2=>?_⟩⟩
   ·show ((A.by who).cas _ _ _).w=_; rw [a1.w,ew,eat,hi0,hv0,f4]
   ·rw [show b2+4=b2+3+1 by omega]
    exact a1.ok (by decide) (eo b2 o2) fun i=>upd_cases (P:=fun x=>0≤x∧x<18446744073709551616) (putCell_in _ _ _) (ok'.w i)
  ·have a1:=aft_load (who:=who) (A:=A) (a:=C.slot m.a.hs) ok' (by omega)
   have l1:lives (A.w (C.slot m.a.hs)) m.a.hg:=by rw [f7,f8,ew]; exact hlv
   have l2:slA (A.w (C.slot m.a.hs))=slA m.a.w:=by rw [f7,f9,ew]
   have e:m.a.step C who A=(true,m.a.fin (if m.a.kd=3 then 8 else 0) (ceV m.a.cell) m.a.rd,(A.by who).load (C.slot m.a.hs)):=by
    unfold Ac.step; rw [if_neg (by omega),if_neg (by omega),if_neg (by omega),if_neg (by omega),if_neg (by omega),if_pos l1,if_pos l2]
   rw [e0,e]
   exact .inr ⟨rfl,⟨.inr ⟨hi,by have:=a1.s; show ((A.by who).load _).s=_; omega,by show ceV m.a.cell=_; rw [h1,hi0],.inl ⟨by rw [hi0,← h1]; exact hq,by show (if m.a.kd=3 then 8 else 0)=_; rw [f1,hk0],h2,ew⟩⟩,rfl,en,fun b2 o2=>by rw [show b2+4=b2+3+1 by omega]; exact a1.ok (by decide) (eo b2 o2) (eo b2 o2).w⟩⟩
theorem c_AccL (hN:N.ok) (hC:C.ok) (hA:isA N A σ) {n bb z a kd ix v old:Int} {own:Bool} (ho:Ol C A.w n own z a) (ok:A.ok bb) (hb:bb<4611686018427387904) (hl:C.len≤A.n) (hb2:(A.n:Int)≤200000000)
  (hk:∀ m A' τ,LvD C A (Ak.new kd n ix v old own) z a m A'→isA N A' τ→Keep N.l σ τ→K (.agg #[.int .i64 m.a.oE,.int .u64 0,.int .i64 m.a.oV,.int .i64 m.a.oS]) τ) :
  s_bd [N.env C who,.agg #[.int .i64 kd,.int .u64 n,.int .i64 ix,.int .i64 v,.int .i64 old],.bool own] K σ:=by
 refine c_Acc hN hC hA (LvI C A (Ak.new kd n ix v old own) z a) (LvD C A (Ak.new kd n ix v old own) z a) (.inl ⟨rfl,rfl,rfl⟩) (fun k m A' k0 k1 h=>?_) (fun m A' h=>?_) (fun m A' τ hD hA' hK=>?_)
 ·obtain ⟨q1,q2,q3⟩:=h.step (who:=who) hC ho ok hb hl hb2
  refine ⟨q1,q2.1,q2.2,?_⟩
  rcases q3 with ⟨d,h'⟩ | ⟨d,h'⟩
  ·rw [if_neg (by rw [d]; decide)]; exact h'
  ·rw [if_pos d]; exact h'
 ·rcases h with ⟨h,_⟩ | ⟨_,_,⟨h,_⟩ | ⟨_,⟨h,_⟩ | ⟨h,_⟩⟩⟩ <;> omega
 ·rw [hD.h]; exact hk m A' τ hD hA' hK
end Go.Fl
namespace Go.Fl
open Go
set_option linter.unusedVariables false
set_option linter.unusedSimpArgs false
variable {N:Nm} {A B:Ar} {σ:Mem} {K:Value→Mem→Prop} {C:Cf} {who:Int} {P:MP}
def layV (V:Int→Int→Int) (k x v:Int):Int→Int→Int:=fun k' x'=>if k'=k∧x'=x then v else V k' x'
section
variable {i:Int} {n:Nat} {dd:Int→Do} {li:Int→Bool} {V:Int→Int→Int} {w w':Int→Int} {b:Bg}
theorem Dv.lay (hC:C.ok) (h:Dv C i n dd li V w b) {k x v:Int} (k0:0≤k) (k1:k<n) (hk:li k=true) (x0:0≤x) (x1:x<(dd k).z) (hv:0≤v∧v≤1099511627775):Dv C i n dd li (layV V k x v) (upd w ((dd k).a C+1+x) (putCell v false 0)) b:=by
 obtain ⟨⟨p1,p2,p3⟩,p4,p5⟩:=h.dw.pl k k0 k1
 have hbd:=h.dw.aw.alo.bd
 have hz:=class_room' (h.dw.hd k k0 k1).2.1
 have pu:=(aw_ule hC h.dw.aw p1.1 (by omega)).2
 have p3':=p3
 unfold Do.rm at p3'
 have e:(dd k).a C+1+x=C.base (dd k).j+((dd k).i+(1+x)):=by unfold Do.a; omega
 have hT:=hC.T; have hS:=hC.S; have hCC:=hC.C
 have bg:=base_ge hC p1.1 (show (dd k).j<C.C by omega) (show 0≤(dd k).i+(1+x) by omega)
 rw [e]
 have wc:∀ j,0≤j→j<C.C→upd w (C.base (dd k).j+((dd k).i+(1+x))) (putCell v false 0) (C.chunk j)=w (C.chunk j):=fun j j0 j1=>upd_ne _ _ (by have:=ck_lt hC j0 j1; omega)
 have ws:∀ s,s<C.S→upd w (C.base (dd k).j+((dd k).i+(1+x))) (putCell v false 0) (C.slot s)=w (C.slot s):=fun s s1=>upd_ne _ _ (by unfold Cf.slot; omega)
 -- words of others
 have off:∀ l:Int,0≤l→l<n→∀ y,0≤y→y≤(dd l).z→¬ (l=k∧y=1+x)→C.base (dd l).j+((dd l).i+y)≠C.base (dd k).j+((dd k).i+(1+x)):=fun l l0 l1 y y0 y1 hne q=>by
  obtain ⟨⟨q1,q2,q3⟩,_⟩:=h.dw.pl l l0 l1
  have hzl:=class_room' (h.dw.hd l l0 l1).2.1
  have qu:=(aw_ule hC h.dw.aw q1.1 (by omega)).2
  unfold Do.rm at q3
  obtain ⟨e1,e2⟩:=base_inj hC q1.1 (by omega) (by omega) (by omega) p1.1 (by omega) (by omega) (by omega) q
  by_cases lk:l=k
  ·subst lk; exact hne ⟨rfl,by omega⟩
  ·have:=h.dw.ns l k l0 l1 k0 k1 lk
   unfold Do.rm at this
   omega
 have wh:∀ l:Int,0≤l→l<n→upd w (C.base (dd k).j+((dd k).i+(1+x))) (putCell v false 0) ((dd l).a C)=w ((dd l).a C):=fun l l0 l1=>by
  have:=off l l0 l1 0 (Int.le_refl 0) (by have:=class_room' (h.dw.hd l l0 l1).2.1; omega) (by omega)
  rw [Int.add_zero] at this
  exact upd_ne _ _ this
 refine ⟨⟨h.dw.aw.word hC p1.1 (by omega) (by omega) (by omega) (by omega),h.dw.lv,fun s s0 s1=>by rw [ws s s1]; exact h.dw.gen s s0 s1,h.dw.hd,fun l l0 l1 hl=>?_,fun l l0 l1 hl=>?_,h.dw.nsl,h.dw.ns,h.dw.sm,h.dw.nle,fun l l0 l1=>?_,fun j y j0 j1 y0 y1 ym=>?_,fun j j0 j1=>?_⟩,h.sf,fun s s0 s1 hs=>by rw [ws s s1]; exact h.fs s s0 s1 hs,fun l l0 l1 hl=>?_,fun l l0 l1 hl y y0 y1=>?_,fun j j0 j1=>?_⟩
 ·have o:=h.dw.ok l l0 l1 hl
  exact o.keep o.sF (ws _ o.s.2) (wh l l0 l1) (Int.le_refl _) o.lv
 ·rw [ws _ (h.dw.hd l l0 l1).1.2.2.2]; exact h.dw.dead l l0 l1 hl
 ·obtain ⟨q1,q2,q3⟩:=h.dw.pl l l0 l1
  exact ⟨q1,by rw [wc _ q1.1.1 (by omega)]; exact q2,by rw [wh l l0 l1]; exact q3⟩
 ·rw [wc j j0 (by omega)] at ym; exact h.dw.cov j y j0 j1 y0 y1 ym
 ·rw [wc j j0 (by omega)]; exact h.dw.um j j0 j1
 ·rw [ws _ (h.dw.hd l l0 l1).1.2.2.2]; exact h.ls l l0 l1 hl
 ·have el:(dd l).a C+1+y=C.base (dd l).j+((dd l).i+(1+y)):=by unfold Do.a; omega
  by_cases q:l=k∧y=x
  ·obtain ⟨rfl,rfl⟩:=q
   rw [show layV V l y v l y=v from if_pos ⟨rfl,rfl⟩,el,upd_same]; exact ⟨hv,rfl⟩
  ·rw [show layV V k x v l y=V l y from if_neg q,el,upd_ne _ _ (off l l0 l1 (1+y) (by omega) (by omega) (by omega)),← el]
   exact h.ce l l0 l1 hl y y0 y1
 ·rw [wc j j0 j1]; exact h.n1 j j0 j1
theorem Dv.ol (hC:C.ok) (h:Dv C i n dd li V w b) {k:Int} (k0:0≤k) (k1:k<n) (hk:li k=true):Ol C w (dd k).n (dd k).own (dd k).z ((dd k).a C):=by
 have o:=h.dw.ok k k0 k1 hk
 have hd:=h.dw.hd k k0 k1
 obtain ⟨p1,p4,p5⟩:=h.dw.pl k k0 k1
 have av:=(dd k).av hC o ⟨_,h.dw.aw⟩
 have hS:=hC.S
 have ls:=h.ls k k0 k1 hk
 have z:=sl_put' (st:=1) (ad:=(dd k).a C) (ge:=(dd k).ge) (ve:=0) (by decide) (by omega) o.ge
 have hh:=hd_put (k:=2) (s:=(dd k).z) (t:=(dd k).s) (g:=(dd k).ge) (o:=(dd k).own) (by decide) (by omega) (by omega) o.ge
 have es:hdSl (dd k).n=(dd k).s:=rfl
 have eg:hdGe (dd k).n=(dd k).ge:=rfl
 refine ⟨o.n,o.hok,by rw [es]; exact o.s.2,?_,?_,?_,?_,by omega,av.2.1,fun x x0 x1=>?_⟩
 ·rw [es,ls]; exact z.1
 ·rw [es,ls]; exact z.2.1
 ·rw [es,ls,eg]; exact z.2.2
 ·rw [p5]; exact ⟨hh.2.2.2.2,hh.2.1⟩
 ·rw [(h.ce k k0 k1 hk x x0 x1).2]; exact (ce_put (h.ce k k0 k1 hk x x0 x1).1 (by decide)).2.1
end
theorem c_WriteV (hN:N.ok) (hC:C.ok) (hA:isA N A σ) {i k x v:Int} {n:Nat} {dd:Int→Do} {li:Int→Bool} {V:Int→Int→Int} {b:Bg} {bb:Int} (hP:Pa C A bb) (hb:bb<2305843009213693952) (hb2:(A.n:Int)≤200000000) (h:Dv C i n dd li V A.w b) (k0:0≤k) (k1:k<n) (hk:li k=true) (x0:0≤x) (x1:x<(dd k).z) (hv:0≤v∧v≤1099511627775)
  (kk:∀ r A' τ,Dv C i n dd li (layV V k x v) A'.w b→Pa C A' (bb+4)→A'.n=A.n→(∀ i,lowW C i→A'.w i=A.w i)→isA N A' τ→Keep N.l σ τ→K r τ) :
  s_bd [N.env C who,.agg #[.int .i64 2,.int .u64 (dd k).n,.int .i64 x,.int .i64 v,.int .i64 0],.bool (dd k).own] K σ:=by
 have ho:=h.ol hC k0 k1 hk
 refine c_AccL hN hC hA ho hP.ok (by omega) hP.n hb2 fun m A' τ hD hA' hK=>?_
 have ew:A'.w=upd A.w ((dd k).a C+1+x) (putCell v false 0):=by
  rcases hD.r with ⟨q,_⟩ | ⟨_,_,_,⟨q,_⟩ | ⟨_,_,_,e⟩⟩
  ·exact absurd ⟨x0,x1⟩ q
  ·rcases q with q | ⟨q,_⟩
   ·exact absurd (show (2:Int)=1 from q) (by decide)
   ·exact absurd (show (2:Int)=3 from q) (by decide)
  ·exact e
 have hT:=hC.T; have hS:=hC.S; have hCC:=hC.C
 have hbd:=ho.bd
 have e0:C.base 0=6+C.T+2*C.S+3*C.C:=by unfold Cf.base; omega
 refine kk _ A' τ (by rw [ew]; exact h.lay hC k0 k1 hk x0 x1 hv) ⟨hD.ok bb hP.ok,by rw [hD.n]; exact hP.n,fun c c0 c1=>?_⟩ hD.n (fun y hy=>?_) hA' hK
 ·rw [ew,upd_ne _ _ (by omega)]; exact hP.op c c0 c1
 ·have hy':y=0∨6≤y∧y<6+C.T:=hy
  rw [ew,upd_ne _ _ (by omega)]
theorem c_ReadO (hN:N.ok) (hC:C.ok) (hA:isA N A σ) {n z a x bb:Int} {own:Bool} (ho:Ol C A.w n own z a) (ok:A.ok bb) (hb:bb<2305843009213693952) (hn:C.len≤A.n) (hb2:(A.n:Int)≤200000000) (x0:0≤x) (x1:x<z)
  (kk:∀ oS A' τ,A'.w=A.w→A'.n=A.n→A'.ok (bb+4)→isA N A' τ→Keep N.l σ τ→K (.agg #[.int .i64 0,.int .u64 0,.int .i64 (ceV (A.w (a+1+x))),.int .i64 oS]) τ) :
  s_bd [N.env C who,.agg #[.int .i64 1,.int .u64 n,.int .i64 x,.int .i64 0,.int .i64 0],.bool own] K σ:=by
 refine c_AccL hN hC hA ho ok (by omega) hn hb2 fun m A' τ hD hA' hK=>?_
 rcases hD.r with ⟨q,_⟩ | ⟨_,_,ev,⟨_,eE,_,e⟩ | ⟨q,_⟩⟩
 ·exact absurd ⟨x0,x1⟩ q
 ·have eE':m.a.oE=0:=eE
  have ev':m.a.oV=ceV (A.w (a+1+x)):=ev
  rw [eE',ev']
  exact kk _ A' τ e hD.n (hD.ok bb ok) hA' hK
 ·exact absurd (.inl rfl) q
theorem c_place (hN:N.ok) (hC:C.ok) (hA:isA N A σ) {n:Int} (hn:C.len≤A.n) (hw:∀ i,0≤A.w i∧A.w i<18446744073709551616) (h0:0≤n∧n<18446744073709551616) (hs:0≤hdSl n∧hdSl n<C.S):s_bm [N.env C who,.int .u64 n] K σ=K (.int .i64 (slA (A.w (C.slot (hdSl n))))) σ:=by
 have hS:=hC.S
 have hl:=len_bd hC
 have hT:=hC.T; have hCC:=hC.C
 have hch:C.chunk C.C=6+C.T+2*C.S+3*C.C:=rfl
 have b1:0≤C.slot (hdSl n):=by unfold Cf.slot; omega
 have b2:C.slot (hdSl n)<A.n:=by unfold Cf.slot; omega
 have g2:∀ x y:Int,gStore 2 [.pointer (some ⟨5,0,some 0⟩),.agg #[.int .i64 x,.int .i64 y]] [.int .i64 0,.int .i64 0]=some [.int .i64 x,.int .i64 y]:=fun _ _=>rfl
 have gb:gBox 9 [N.env C who] []=some (N.el C who):=rfl
 have p7:sub (N.el C who) 7 1 false=some N.p:=rfl
 have c7':sub (N.el C who) 0 7 true=some C.v:=rfl
 have f1':∀ (x y z w:Value) (K:Value→Prop),xF (fFldV 1 1 false) [.agg #[x,y,z,w]] K=K y:=fun _ _ _ _ K=>nr rfl
 simp only [s_bm,w_bm,gb,c_wHandleG h0.1 h0.2,g2,p7,c7',c_Slot hC hs.1 (show hdSl n≤65536 by omega),c_PeekA hN hA b1 b2,c_wSlot (hw _).1 (hw _).2,f1',ruS,ruL,ruE,Nat.reduceAdd,reduceIte,Int.reduceLT,Int.reduceLE,Int.reduceEq,Int.reduceNeg,Int.reduceAdd,Int.reduceSub,Nat.reduceLeDiff,Nat.reduceLT]
theorem MW.ol (hC:C.ok) (hS:MS C P) {t s n:Int} {w:Int→Int} (h:MW C P t (-1) (-1) w) (ht:t≤4194303) (s0:0≤s) (s1:s<C.S) (l:P.lv s=true) (hn:0≤n∧n<18446744073709551616) (hok:hdOk n=true) (hs:hdSl n=s) (hg:hdGe n=P.g s) :
  ∃ a,Ol C w n (P.o s) (P.z s) a∧slA (w (C.slot s))=a∧(∀ x,0≤x→x<P.z s→ceV (w (a+1+x))=P.L s x)∧hdO (w a)=P.o s∧(0≤a∧a<C.len):=by
 obtain ⟨a,v,o⟩:=h.lv s s0 s1 l (by omega)
 have sl:=o.sl hC hS ht h.ck s0 s1 l
 obtain ⟨j,x,p⟩:=o.pl
 have pb:=p.bd hC hS (h.ck j p.jb.1 p.jb.2).u s0 s1 l
 have hh:=hw_hd (a:=a) hC hS s0 s1 l
 rw [← o.hd] at hh
 have rr:=hS.rm s0 s1 l
 have hL:=(hS.lv s s0 s1 l).2.2
 have hb0:0≤C.base 0:=by have:=hC.T; have:=hC.S; have:=hC.C; unfold Cf.base; omega
 refine ⟨a,⟨hn,hok,by rw [hs]; exact s1,by rw [hs]; exact sl.1,by rw [hs]; exact sl.2.1,by rw [hs,hg]; exact sl.2.2.1,⟨hh.2.2.2.2,hh.2.1⟩,⟨pb.1.1,pb.1.2⟩,rr.2.1.1,fun x x0 x1=>?_⟩,sl.2.1,fun x x0 x1=>?_,hh.2.2.2.2,by omega⟩
 ·rw [o.ce x x0 x1]; exact (ce_put (hL x x0 x1) (by decide)).2.1
 ·rw [o.ce x x0 x1]; exact (ce_put (hL x x0 x1) (by decide)).1
theorem c_roundsO (hN:N.ok) (hC:C.ok) (hA:isA N A σ) {p:Nat} {O:List Nat} {c:Co} {n q bb:Int} (hn:0≤n∧n≤500) (hO:COb N p O c σ) (h0:WI C P q c A) (hrd:0≤c.r.rd∧c.r.rd≤400) (ok:A.ok bb) (hb:bb<1152921504606846976)
  (hk:∀ q' c' A' O' τ,WI C P q' c' A'→A'.ok (bb+4194304)→c'.r.rd=c.r.rd+n→(n=0∨c'.r.pc=0∧c'.r.at'=0)→isA N A' τ→COb N p O' c' τ→(∀ i ∈ O',i ∈ O∨σ.get i=none)→Keep (O ++ N.l) σ τ→K (.bool true) τ) :
  s_bn [N.env C who,.pointer (some ⟨p,0,none⟩),.int .i64 n] K σ:=by
 have hn0:=h0.st.n0
 have hq3:=h0.q3
 refine c_roundsWZ hN hC hA (fun c A=>0≤c.r.rd∧∃ q,WI C P q c A∧A.ok (bb+(tW P c - q))) hn hO h0 ⟨hrd.1,q,h0,ok_mono ok (by unfold tW; omega)⟩ hrd (fun q1 c1 A1 r _ hz hrd1 hm _=>?_) fun q' c' A' O' τ h hz e1=>?_
 ·obtain ⟨r0,q2,hw,hok⟩:=hz
  have hq1:=hw.q1 hC
  have ht:=hw.touch (who := -1) hC hrd1 r
  have hs:=hw.step (who := -1) hC hrd1 r hm
  have hb4:bb+(tW P c1 - q2)<4611686018427387904:=by unfold tW; omega
  rcases hs with ⟨e,h'⟩ | ⟨e,h'⟩
  ·refine ⟨by rw [e]; exact r0,q2 - 1,h',ok_mono (ht.ok hok hb4 h'.bd) ?_⟩
   unfold tW; rw [e]; omega
  ·refine ⟨by rw [e.1]; omega,3000,h',ok_mono (ht.ok hok hb4 h'.bd) ?_⟩
   unfold tW; rw [e.1]; omega
 ·obtain ⟨_,q2,hw,hok⟩:=hz
  have hq1:=hw.q1 hC
  exact hk q' c' A' O' τ h (ok_mono hok (by unfold tW; omega)) e1
structure EndW (C:Cf) (n:Nat) (dd:Int→Do) (li:Int→Bool) (V:Int→Int→Int) (w:Int→Int):Prop where
 lv:∀ k:Int,0≤k→k<n→li k=true→∃ a,Ol C w (dd k).n (dd k).own (dd k).z a∧slA (w (C.slot (dd k).s))=a∧(∀ x,0≤x→x<(dd k).z→ceV (w (a+1+x))=V k x)∧hdO (w a)=(dd k).own∧(0≤a∧a<C.len)
 dd:∀ k:Int,0≤k→k<n→li k=false→(∀ own,NoDrop C w (dd k).n own)∧(0≤slA (w (C.slot (dd k).s))∧slA (w (C.slot (dd k).s))<C.len)
theorem Dv.endW (hC:C.ok) {i t:Int} {n:Nat} {dd:Int→Do} {li:Int→Bool} {V:Int→Int→Int} {w0 w:Int→Int} {b:Bg} (h:Dv C i n dd li V w0 b) (hi:i≤1000) (cc:C.C≤8∧C.W≤40) (mw:MW C (MP.of C w0) t (-1) (-1) w) (ht:t≤4194303):EndW C n dd li V w:=by
 have hS:=h.ms hC hi cc
 have hl:=len_bd hC
 have hCC:=hC.C; have hT:=hC.T; have hSS:=hC.S
 have hch:C.chunk C.C=6+C.T+2*C.S+3*C.C:=rfl
 refine ⟨fun k k0 k1 hk=>?_,fun k k0 k1 hk=>?_⟩
 ·obtain ⟨u1,u2,u3,u4,u5,u6,u7⟩:=h.one hC hi k0 k1 hk
  have hd:=h.dw.hd k k0 k1
  obtain ⟨a,o1,o2,o3,o4,o5⟩:=mw.ol (n:=(dd k).n) hC hS ht hd.1.2.2.1 hd.1.2.2.2 u1 hd.1.1 hd.1.2.1 rfl u2.symm
  rw [u3,u4] at o1
  rw [u4] at o4
  refine ⟨a,o1,o2,fun x x0 x1=>?_,o4,o5⟩
  rw [o3 x x0 (by rw [u3]; exact x1)]; exact u5 x x0 x1
 ·have hd:=h.dw.hd k k0 k1
  have hg:=h.dw.dead k k0 k1 hk
  have hs:=hd.1.2.2
  cases l:(MP.of C w0).lv (dd k).s with
  | false=>
   have e:=mw.dd _ hs.1 hs.2 l
   have e':w (C.slot (dd k).s)=w0 (C.slot (dd k).s):=e
   have l':¬ slS (w0 (C.slot (dd k).s))=1:=of_decide_eq_false l
   have hf:=h.sf _ hs.1 hs.2
   have hz:slS (w0 (C.slot (dd k).s))=0∧slA (w0 (C.slot (dd k).s))=0:=by
    rcases hf with q | ⟨k',k1',k2,k3⟩
    ·exact h.fs _ hs.1 hs.2 q
    ·have:=of_decide_eq_true (h.one hC hi k1'.1 k1'.2 k2).1
     rw [k3] at this; exact absurd this l'
   rw [e']
   refine ⟨fun own=>.inr ⟨⟨hd.1.2.1,hs.2⟩,.inl fun q=>?_⟩,by omega⟩
   have q1:lives (w (C.slot (dd k).s)) (hdGe (dd k).n):=q
   rw [e'] at q1
   unfold lives at q1; omega
  | true=>
   obtain ⟨a,v,o⟩:=mw.lv _ hs.1 hs.2 l (by omega)
   have sl:=o.sl hC hS ht mw.ck hs.1 hs.2 l
   obtain ⟨j,x,p⟩:=o.pl
   have pb:=p.bd hC hS (mw.ck j p.jb.1 p.jb.2).u hs.1 hs.2 l
   have rr:=hS.rm hs.1 hs.2 l
   have hb0:0≤C.base 0:=by unfold Cf.base; omega
   have eg:(MP.of C w0).g (dd k).s=slG (w0 (C.slot (dd k).s)):=rfl
   refine ⟨fun own=>.inr ⟨⟨hd.1.2.1,hs.2⟩,.inl fun q=>?_⟩,by rw [sl.2.1]; omega⟩
   have q1:slG (w (C.slot (dd k).s))=(dd k).ge:=q.2
   omega
end Go.Fl
namespace Go.Fl
open Go
set_option linter.unusedVariables false
set_option linter.unusedSimpArgs false
variable {N:Nm} {A B:Ar} {σ:Mem} {K:Value→Mem→Prop} {C:Cf} {who:Int}
structure Rk (kd:IntKind) (N:Nm) (σ:Mem) (p n:Nat) (g:Int→Int) (τ:Mem):Prop where
 gp:τ.get p=some ⟨cells kd n g,true⟩
 dp:p ∉ N.l∧σ.get p=none
section
variable {kd:IntKind} {p n l:Nat} {g g':Int→Int} {τ υ:Mem}
theorem Rk.keep (h:Rk kd N σ p n g τ) (k:Keep N.l τ υ):Rk kd N σ p n g υ:=⟨k.get h.gp h.dp.1,h.dp⟩
theorem Rk.ext (h:Rk kd N σ p n g τ) (k:Ext τ υ):Rk kd N σ p n g υ:=⟨k _ _ h.gp,h.dp⟩
theorem Rk.off {q:Nat} (h:Rk kd N σ p n g τ) (k:Keep [q] τ υ) (hq:p≠q):Rk kd N σ p n g υ:=⟨k.get h.gp (by simpa using hq),h.dp⟩
theorem Rk.ld {i:Int} (h:Rk kd N σ p n g τ) (i0:0≤i) (i1:i<n):hLoad 1 false [.pointer (some ⟨p,i.toNat*1,none⟩)] K τ=K (.int kd (g i)) τ:=ldCells h.gp i0 i1
theorem Rk.add (h:Rk kd N σ p n g τ) (hA:isA N A τ) (hE:Ext σ τ) (hn:n<1000000) (hg:∀ i:Int,0≤i→i<n→g' i=g i)
  (hk:∀ id υ,τ.get id=none→Rk kd N σ id (n+1) g' υ→isA N A υ→Ext σ υ→Keep [p] τ υ→K (.slice (some ⟨id,0,none⟩) (n+1) 1) υ):hAppendL 1 8 [.int kd (g' n)] [.slice (some ⟨p,0,none⟩) n 1,locS l 1 1] K τ:=by
 refine hAppendL_i (pre:=[]) (L:=cells kd n g) (by rw [List.nil_append]; exact h.gp) rfl (cells_len _ _ _) (by decide) rfl (by omega) fun id υ hid gid kp=>?_
 rw [cells_snoc hg] at gid
 refine hk id υ hid ⟨gid,hA.new hid,hE.none hid⟩ (hA.keep kp ?_) (hE.keep' kp fun j hj=>by rw [List.mem_singleton] at hj; subst hj; exact h.dp.2) kp
 have:=h.dp.1
 simp only [Nm.l,List.mem_cons,List.not_mem_nil,or_false,not_or] at this ⊢
 exact ⟨Ne.symm this.1,Ne.symm this.2.1,Ne.symm this.2.2⟩
theorem Rk.ne {q:Nat} (h:Rk kd N σ p n g τ) (hq:τ.get q=none):p≠q:=fun e=>by subst e; have:=h.gp; rw [hq] at this; cases this
end
theorem Rk.st {kd:IntKind} {p n:Nat} {g:Int→Int} {τ:Mem} {A:Ar} {i v:Int} (h:Rk kd N σ p n g τ) (i0:0≤i) (i1:i<n) (hA:isA N A τ) (hE:Ext σ τ) (hk:∀ υ,Rk kd N σ p n (upd g i v) υ→isA N A υ→Ext σ υ→Keep [p] τ υ→K undef υ):hStore 1 [.pointer (some ⟨p,i.toNat*1,none⟩),.int kd v] K τ:=by
 rw [stCells h.gp i0 i1]
 have kq:Keep [p] τ (τ.set p ⟨cells kd n (upd g i v),true⟩):=fun j b hj hn'=>by rw [Mem.get_set_ne _ _ (by simpa using hn')]; exact hj
 refine hk _ ⟨Mem.get_set_same _ _ _,h.dp⟩ (hA.keep kq ?_) (hE.keep' kq fun j hj=>by rw [List.mem_singleton] at hj; subst hj; exact h.dp.2) kq
 have:=h.dp.1
 simp only [Nm.l,List.mem_cons,List.not_mem_nil,or_false,not_or] at this ⊢
 exact ⟨Ne.symm this.1,Ne.symm this.2.1,Ne.symm this.2.2⟩
theorem buI {x:Int}:gBuildS 1 1 [.int .i64 0] [0] [.int .i64 x] []=some [.int .i64 x]:=nr rfl
def wdV (li:Int→Bool) (V:Int→Int→Int) (k:Int):Int:=if li k=true then V k 0 else -1
theorem law_CompactKeeps (σ:Mem) (s:Value) (len:Nat) (cs:List Value) (sl:Sl σ 1 len cs s) (hm:len≤maxLen) (hf:FlatL (List.replicate len [some .i64]).flatten cs)
  (s2:Value) (len2:Nat) (cs2:List Value) (sl2:Sl σ 1 len2 cs2 s2) (hm2:len2≤maxLen) (hf2:FlatL (List.replicate len2 [none]).flatten cs2) (a0:Int) (w0:(Lit.int .i64 a0).wf=true) :
  s_be [s,s2,.int .i64 a0] (fun v _=>v=.bool true) σ:=by
 obtain ⟨g,hg,_⟩:=sl.argI hf
 obtain ⟨kp,hkp⟩:=sl2.argB hf2
 simp only [s_be,w_be,ruS,ruL,ruE,Nat.reduceAdd,reduceIte,Int.reduceLT,Int.reduceLE,Int.reduceEq,Int.reduceNeg,Int.reduceAdd,Int.reduceSub,Nat.reduceLeDiff,Nat.reduceLT]
 have hC:(cA 1 30 8 34).ok:=cA_ok (by omega) (by omega) (by omega) (by omega)
 refine c_Arena (C:=cA 1 30 8 34) hC rfl rfl rfl fun N A τ hN hF hA hE hfr=>?_
 simp only [gStoreE,ruS,ruL,ruE,Nat.reduceAdd,reduceIte,Int.reduceLT,Int.reduceLE,Int.reduceEq,Int.reduceNeg,Int.reduceAdd,Int.reduceSub,Nat.reduceLeDiff,Nat.reduceLT]
 refine c_awakeW fun τ0 x0=>?_
 have hT:(cA 1 30 8 34).T=1:=rfl
 have h8:(cA 1 30 8 34).C=8:=rfl
 have hW:(cA 1 30 8 34).W=34:=rfl
 have hG:(cA 1 30 8 34).G=100:=rfl
 have hP:=(hF.pa hC).mono (show 2*(cA 1 30 8 34).S+2≤200 by decide)
 have dv0:=Dv.new hC hF
 have low0:∀ i,lowW (cA 1 30 8 34) i→A.w i=0:=fun i hi=>by
  have hi':i=0∨6≤i∧i<6+1:=hi
  rw [hF.w]
  unfold Cf.w0 Cf.fr
  rw [if_neg (by omega),if_neg (by show ¬ i=6+1+2*(30 - 1)+1; omega),if_neg (by show ¬ (6+1≤i∧i<6+1+2*30); omega)]
 have hln:=len_bd hC
 have hnA:A.n=(cA 1 30 8 34).len.toNat:=hF.n
 have hA0:=hA.ext x0
 have hE0:=hE.trans x0
 generalize hCe:cA 1 30 8 34=C at *
 clear hF
 simp only [w_be_j1,w_be_j1b,Bool.not_true,ruS,ruL,ruE,Nat.reduceAdd,reduceIte,Int.reduceLT,Int.reduceLE,Int.reduceEq,Int.reduceNeg,Int.reduceAdd,Int.reduceSub,Nat.reduceLeDiff,Nat.reduceLT]
 refine hBuildS_i [] rfl fun p0 τ1 m0 g0 x1=>?_
 refine hBuildS_i [] rfl fun q0 τ2 m1 g1 x2=>?_
 have r0:Rk .u64 N σ p0 0 (fun _=>0) τ2:=(⟨g0,hA0.new m0,hE0.none m0⟩:Rk .u64 N σ p0 0 (fun _=>0) τ1).ext x2
 have r1:Rk .i64 N σ q0 0 (fun _=>0) τ2:=⟨g1,(hA0.ext x1).new m1,(hE0.trans x1).none m1⟩
 have n0:p0≠q0:=fun e=>by subst e; rw [g0] at m1; cases m1
 have gs:∀ x y z w:Int,gStore 4 [.pointer (some ⟨13,0,some 0⟩),.agg #[.int .i64 x,.int .u64 y,.int .i64 z,.int .i64 w]] [.int .i64 0,.int .u64 0,.int .i64 0,.int .i64 0]=some [.int .i64 x,.int .u64 y,.int .i64 z,.int .i64 w]:=fun _ _ _ _=>rfl
 have gs22:∀ x y z w:Int,gStore 4 [.pointer (some ⟨22,0,some 0⟩),.agg #[.int .i64 x,.int .u64 y,.int .i64 z,.int .i64 w]] [.int .i64 0,.int .u64 0,.int .i64 0,.int .i64 0]=some [.int .i64 x,.int .u64 y,.int .i64 z,.int .i64 w]:=fun _ _ _ _=>rfl
 have p7:sub (N.el C 0) 7 1 false=some N.p:=rfl
 have f4h:∀ (x y z u w:Value) (K:Value→Prop),xF (fFldV 4 1 false) [.agg #[x,y,z,u,w]] K=K w:=fun _ _ _ _ _ K=>nr rfl
 have f2v:∀ (x y z u:Value) (K:Value→Prop),xF (fFldV 2 1 false) [.agg #[x,y,z,u]] K=K z:=fun _ _ _ _ K=>nr rfl
 have b5:∀ (x y z u:Int) (K:Value→Prop),xF (fBuild [(0,1),(1,1),(2,1),(3,1),(4,1)] [.int .i64 0,.int .u64 0,.int .i64 0,.int .i64 0,.int .i64 0] [0,1,2,3]) [.int .i64 x,.int .u64 y,.int .i64 z,.int .i64 u] K=K (.agg #[.int .i64 x,.int .u64 y,.int .i64 z,.int .i64 u,.int .i64 0]):=fun _ _ _ _ K=>nr rfl
 have b3:∀ (x y z:Int) (K:Value→Prop),xF (fBuild [(0,1),(1,1),(2,1),(3,1),(4,1)] [.int .i64 0,.int .u64 0,.int .i64 0,.int .i64 0,.int .i64 0] [0,1,2]) [.int .i64 x,.int .u64 y,.int .i64 z] K=K (.agg #[.int .i64 x,.int .u64 y,.int .i64 z,.int .i64 0,.int .i64 0]):=fun _ _ _ K=>nr rfl
 have b2:∀ (x y:Int) (K:Value→Prop),xF (fBuild [(0,1),(1,1),(2,1),(3,1),(4,1)] [.int .i64 0,.int .u64 0,.int .i64 0,.int .i64 0,.int .i64 0] [0,1]) [.int .i64 x,.int .u64 y] K=K (.agg #[.int .i64 x,.int .u64 y,.int .i64 0,.int .i64 0,.int .i64 0]):=fun _ _ K=>nr rfl
 -- all is told: rounds,and what is read
 have fin:∀ (i:Int) (n pm ps pw:Nat) gm gz gw dd li V A b τ,Dv C i n dd li V A.w b→i≤100→(∀ i,lowW C i→A.w i=0)→Pa C A 100000→A.n=C.len.toNat→isA N A τ→Ext σ τ →
   Rk .u64 N σ pm n gm τ→Rk .i64 N σ ps n gz τ→Rk .i64 N σ pw n gw τ→(∀ k:Int,0≤k→k<n→gm k=(dd k).n∧gz k=(dd k).z∧gw k=wdV li V k)→(∀ k:Int,0≤k→k<n→(0≤V k 0∧V k 0≤2500)∧∀ x,0≤x→x<(dd k).z→V k x=V k 0+x) →
   w_be_j3 (fun v _=>v=.bool true) [.int .i64 a0,.slice (some ⟨pm,0,none⟩) n 1,.slice (some ⟨ps,0,none⟩) n 1,.slice (some ⟨pw,0,none⟩) n 1] [N.el C 0] τ:=by
  intro i n pm ps pw gm gz gw dd li V A b τ hdv hi hlo hP hn hA hE hrm hrs hrw hrow hval
  have e0:A.w 0=0:=hlo 0 (.inl rfl)
  have hwi:=hdv.wi hC (by omega) ⟨by omega,by omega⟩ hP.ok.w e0 (fun i i0 i1=>hlo _ (.inr ⟨by omega,by omega⟩)) ⟨hP.n,by omega⟩
  have hnle:=hdv.dw.nle
  simp only [w_be_j3,w_be_j3b,ruS,ruL,ruE,Nat.reduceAdd,reduceIte,Int.reduceLT,Int.reduceLE,Int.reduceEq,Int.reduceNeg,Int.reduceAdd,Int.reduceSub,Nat.reduceLeDiff,Nat.reduceLT]
  refine c_CoNew hA fun p τ2 hp hco x2=>?_
  have hr:1≤1+a0 % 4∧1+a0 % 4≤4:=by omega
  simp only [andI3,ruS,ruL,ruE,Nat.reduceAdd,reduceIte,Int.reduceLT,Int.reduceLE,Int.reduceEq,Int.reduceNeg,Int.reduceAdd,Int.reduceSub,Nat.reduceLeDiff,Nat.reduceLT]
  rw [IntWalk.i64_in (1+a0 % 4) (by omega)]
  refine c_roundsO hN hC (hA.ext x2) (n:=1+a0 % 4) (by omega) hco hwi (by decide) hP.ok (by decide) fun q' c' A' O' τ3 hwi' hok' hrd hz hA3 hco' hO' hK3=>?_
  have hz':c'.r.pc=0∧c'.r.at'=0:=by
   rcases hz with q | q
   ·omega
   ·exact q
  have hrd':c'.r.rd=1+a0 % 4:=by rw [hrd]; show 0+_=_; omega
  have hen:EndW C n dd li V A'.w:=by
   have hq1:=hwi'.q1 hC
   have tbd:1≤q'→tW (MP.of C A.w) c' - q'≤4194303:=fun _=>by
    have e:(MP.of C A.w).N0=100:=rfl
    unfold tW; rw [e]; omega
   cases hwi'.wc with
   | p0 hp' ha hs mw=>exact hdv.endW hC (by omega) ⟨by omega,by omega⟩ mw (tbd hq1)
   | p1 hp'=>omega
   | p2 hp'=>omega
   | p3 hp'=>omega
   | p4 hp'=>omega
   | p5 hp'=>omega
   | p6 hp'=>omega
   | p9 hp'=>omega
   | p10 hp'=>omega
   | p11 hp'=>omega
  have hbd:=hwi'.bd
  have hnn:=hwi'.nn
  have hrow3:∀ {kd:IntKind} {p2:Nat} {g2:Int→Int},Rk kd N σ p2 n g2 τ→Rk kd N σ p2 n g2 τ3:=fun {kd p2 g2} h=>by
   refine ⟨hK3 _ _ (x2 _ _ h.gp) fun hm=>?_,h.dp⟩
   rcases List.mem_append.1 hm with u | u
   ·rw [List.mem_singleton] at u; subst u; have:=h.gp; rw [hp] at this; cases this
   ·exact h.dp.1 u
  have hrm3:=hrow3 hrm
  have hrs3:=hrow3 hrs
  have hrw3:=hrow3 hrw
  have hE3:Ext σ τ3:=by
   refine (hE.trans x2).keep' hK3 fun j hj=>?_
   rcases List.mem_append.1 hj with u | u
   ·rw [List.mem_singleton] at u; subst u; exact hE.none hp
   ·exact hfr.all j u
  clear hrow3 hwi hwi' hco hco' hO' hA hE hrm hrs hrw hP hlo hK3 x2 hz hp
  simp only [Bool.not_true,ruS,ruL,ruE,Nat.reduceAdd,reduceIte,Int.reduceLT,Int.reduceLE,Int.reduceEq,Int.reduceNeg,Int.reduceAdd,Int.reduceSub,Nat.reduceLeDiff,Nat.reduceLT]
  -- each is read
  refine xLoop_r (fun x ts ls υ=>∃ (m:Int) (A2:Ar),x=(n - m).toNat∧ts=[.slice (some ⟨pm,0,none⟩) n 1,.slice (some ⟨ps,0,none⟩) n 1,.slice (some ⟨pw,0,none⟩) n 1,.int .i64 m]∧ls=[N.el C 0]∧(0≤m∧m≤n)∧A2.w=A'.w∧A2.n=A'.n∧A2.ok (5000000+100*m)∧isA N A2 υ∧Rk .u64 N σ pm n gm υ∧Rk .i64 N σ ps n gz υ∧Rk .i64 N σ pw n gw υ) ?_ (n:=n)
   ⟨0,A',by simp,rfl,rfl,⟨Int.le_refl 0,by omega⟩,rfl,rfl,ok_mono hok' (by omega),hA3,hrm3,hrs3,hrw3⟩
  clear hA3 hrm3 hrs3 hrw3 hok'
  rintro x ts ls υ ⟨m,A2,rfl,rfl,rfl,⟨m0,m1⟩,ew2,en2,ok2,hA2,hrm2,hrs2,hrw2⟩ R hR
  simp only [w_law14_CompactKeeps_l30,w_law14_CompactKeeps_l30b,xLen,ruS,ruL,ruE,Nat.reduceAdd,reduceIte,Int.reduceLT,Int.reduceLE,Int.reduceEq,Int.reduceNeg,Int.reduceAdd,Int.reduceSub,Nat.reduceLeDiff,Nat.reduceLT]
  by_cases cm:m<n
  rotate_left
  ·simp only [cm,w_be_j4,w_be_j4b,ruS,ruL,ruE,Nat.reduceAdd,reduceIte,Int.reduceLT,Int.reduceLE,Int.reduceEq,Int.reduceNeg,Int.reduceAdd,Int.reduceSub,Nat.reduceLeDiff,Nat.reduceLT]
  have hd:=hdv.dw.hd m m0 cm
  have hrm':=hrow m m0 cm
  have hvm:=hval m m0 cm
  have hzm:=class_room' hd.2.1
  have hbd2:∀ i,0≤A2.w i∧A2.w i<18446744073709551616:=fun i=>by rw [ew2]; exact hbd i
  have es:hdSl (dd m).n=(dd m).s:=rfl
  obtain ⟨a,ea,ab,hlive⟩:∃ a,slA (A2.w (C.slot (dd m).s))=a∧(0≤a∧a<C.len)∧(li m=true→Ol C A2.w (dd m).n (dd m).own (dd m).z a∧(∀ x,0≤x→x<(dd m).z→ceV (A2.w (a+1+x))=V m x)∧hdO (A2.w a)=(dd m).own):=by
   rw [ew2]
   cases l:li m with
   | true=>
    obtain ⟨a,o1,o2,o3,o4,o5⟩:=hen.lv m m0 cm l
    exact ⟨a,o2,o5,fun _=>⟨o1,o3,o4⟩⟩
   | false=>
    obtain ⟨o1,o2⟩:=hen.dd m m0 cm l
    exact ⟨_,rfl,o2,fun e=>by cases e⟩
  have an:a<A2.n:=by rw [en2]; omega
  simp only [cm,p7,xIxS m0 cm,Nat.zero_add,ruS,ruL,ruE,Nat.reduceAdd,reduceIte,Int.reduceLT,Int.reduceLE,Int.reduceEq,Int.reduceNeg,Int.reduceAdd,Int.reduceSub,Nat.reduceLeDiff,Nat.reduceLT]
  rw [hrm2.ld m0 cm,hrm'.1,c_place hN hC hA2 (by rw [en2]; exact hnn.1) hbd2 hd.1.1 (by rw [es]; exact hd.1.2.2),es,ea]
  simp only [c_PeekA hN hA2 ab.1 an,c_wHead (hbd2 a).1 (hbd2 a).2,f4h,ruS,ruL,ruE,Nat.reduceAdd,reduceIte,Int.reduceLT,Int.reduceLE,Int.reduceEq,Int.reduceNeg,Int.reduceAdd,Int.reduceSub,Nat.reduceLeDiff,Nat.reduceLT]
  -- each word of it
  refine xLoop_r (fun x ts ls υ'=>∃ (k:Int) (A4:Ar),x=((dd m).z - k).toNat∧ts=[.slice (some ⟨pm,0,none⟩) n 1,.slice (some ⟨ps,0,none⟩) n 1,.slice (some ⟨pw,0,none⟩) n 1,.int .i64 m,.bool (hdO (A2.w a)),.int .i64 k]∧ls=[N.el C 0]∧(0≤k∧k≤(dd m).z)∧A4.w=A2.w∧A4.n=A2.n∧A4.ok (5000000+100*m+4*k)∧isA N A4 υ'∧Rk .u64 N σ pm n gm υ'∧Rk .i64 N σ ps n gz υ'∧Rk .i64 N σ pw n gw υ') ?_ (n:=(dd m).z.toNat)
   ⟨0,A2,by simp,rfl,rfl,⟨Int.le_refl 0,by omega⟩,rfl,rfl,ok_mono ok2 (by omega),hA2,hrm2,hrs2,hrw2⟩
  clear hA2 hrm2 hrs2 hrw2
  rintro x ts ls υ' ⟨k,A4,rfl,rfl,rfl,⟨k0,k1⟩,ew4,en4,ok4,hA4,hrm4,hrs4,hrw4⟩ R2 hR2
  simp only [w_law14_CompactKeeps_l34,w_law14_CompactKeeps_l34b,xIxS m0 cm,Nat.zero_add,ruS,ruL,ruE,Nat.reduceAdd,reduceIte,Int.reduceLT,Int.reduceLE,Int.reduceEq,Int.reduceNeg,Int.reduceAdd,Int.reduceSub,Nat.reduceLeDiff,Nat.reduceLT]
  rw [hrs4.ld m0 cm,hrm'.2.1]
  by_cases ck:k<(dd m).z
  rotate_left
  ·have hk:k=(dd m).z:=by omega
   subst hk
   simp only [ck,w_be_j5,w_be_j5b,ruS,ruL,ruE,Nat.reduceAdd,reduceIte,Int.reduceLT,Int.reduceLE,Int.reduceEq,Int.reduceNeg,Int.reduceAdd,Int.reduceSub,Nat.reduceLeDiff,Nat.reduceLT]
   rw [IntWalk.i64_in (m+1) (by omega)]
   exact hR (n - (m+1)).toNat _ _ _ (by omega) ⟨m+1,A4,rfl,rfl,rfl,⟨by omega,by omega⟩,ew4.trans ew2,en4.trans en2,ok_mono ok4 (by omega),hA4,hrm4,hrs4,hrw4⟩
  simp only [ck,xIxS m0 cm,Nat.zero_add,ruS,ruL,ruE,Nat.reduceAdd,reduceIte,Int.reduceLT,Int.reduceLE,Int.reduceEq,Int.reduceNeg,Int.reduceAdd,Int.reduceSub,Nat.reduceLeDiff,Nat.reduceLT]
  rw [hrm4.ld m0 cm,hrm'.1]
  simp only [b3,ruS,ruL,ruE,Nat.reduceAdd,reduceIte,Int.reduceLT,Int.reduceLE,Int.reduceEq,Int.reduceNeg,Int.reduceAdd,Int.reduceSub,Nat.reduceLeDiff,Nat.reduceLT]
  have on:∀ A5 υ2,A5.w=A4.w→A5.n=A4.n→A5.ok (5000000+100*m+4*(k+1))→isA N A5 υ2→Keep N.l υ' υ2→R2 [.slice (some ⟨pm,0,none⟩) n 1,.slice (some ⟨ps,0,none⟩) n 1,.slice (some ⟨pw,0,none⟩) n 1,.int .i64 m,.bool (hdO (A2.w a)),.int .i64 (k+1)] [N.el C 0] υ2:=fun A5 υ2 e1 e2 e3 e4 e5=>
   hR2 ((dd m).z - (k+1)).toNat _ _ _ (by omega) ⟨k+1,A5,rfl,rfl,rfl,⟨by omega,by omega⟩,e1.trans ew4,e2.trans en4,e3,e4,hrm4.keep e5,hrs4.keep e5,hrw4.keep e5⟩
  cases l:li m with
  | true=>
   obtain ⟨o1,o3,o4⟩:=hlive l
   rw [o4] at on ⊢
   rw [← ew4] at o1
   refine c_ReadO hN hC hA4 o1 ok4 (by omega) (by rw [en4,en2]; exact hnn.1) (by rw [en4,en2]; exact hnn.2) k0 ck fun oS A5 υ2 e1 e2 e3 e4 e5=>?_
   have hrw5:=hrw4.keep e5
   have egw:gw m=V m 0:=by rw [hrm'.2.2]; unfold wdV; rw [if_pos l]
   have ev:ceV (A4.w (a+1+k))=V m 0+k:=by rw [ew4,o3 k k0 ck]; exact hvm.2 k k0 ck
   rw [ev]
   simp only [gs22,xIxS m0 cm,Nat.zero_add,ruS,ruL,ruE,Nat.reduceAdd,reduceIte,Int.reduceLT,Int.reduceLE,Int.reduceEq,Int.reduceNeg,Int.reduceAdd,Int.reduceSub,Nat.reduceLeDiff,Nat.reduceLT]
   rw [hrw5.ld m0 cm,egw]
   have nlt:¬ V m 0<0:=by omega
   have ge0:(0:Int)≤V m 0:=hvm.1.1
   simp only [nlt,ge0,xIxS m0 cm,Nat.zero_add,ruS,ruL,ruE,Nat.reduceAdd,reduceIte,Int.reduceLT,Int.reduceLE,Int.reduceEq,Int.reduceNeg,Int.reduceAdd,Int.reduceSub,Nat.reduceLeDiff,Nat.reduceLT]
   rw [hrw5.ld m0 cm,egw]
   simp only [nlt,ge0,xIxS m0 cm,Nat.zero_add,ruS,ruL,ruE,Nat.reduceAdd,reduceIte,Int.reduceLT,Int.reduceLE,Int.reduceEq,Int.reduceNeg,Int.reduceAdd,Int.reduceSub,Nat.reduceLeDiff,Nat.reduceLT]
   rw [hrw5.ld m0 cm,egw]
   simp only [ruS,ruL,ruE,Nat.reduceAdd,reduceIte,Int.reduceLT,Int.reduceLE,Int.reduceEq,Int.reduceNeg,Int.reduceAdd,Int.reduceSub,Nat.reduceLeDiff,Nat.reduceLT]
   rw [IntWalk.i64_in (V m 0+k) (by omega)]
   simp only [w_be_j6,w_be_j6b,ruS,ruL,ruE,Nat.reduceAdd,reduceIte,Int.reduceLT,Int.reduceLE,Int.reduceEq,Int.reduceNeg,Int.reduceAdd,Int.reduceSub,Nat.reduceLeDiff,Nat.reduceLT]
   rw [IntWalk.i64_in (k+1) (by omega)]
   exact on A5 υ2 e1 e2 (ok_mono e3 (by omega)) e4 e5
  | false=>
   have hnd:=(hen.dd m m0 cm l).1 (hdO (A2.w a))
   rw [← ew2,← ew4] at hnd
   refine c_AccNo hN hC hA4 hd.1.1 ok4 (by omega) (by rw [en4,en2]; exact hnn.1) (by rw [en4,en2]; exact hnn.2) (by rw [ew4]; rw [ew4] at hnd; exact hnd) fun oS A5 υ2 _ e1 e2 e3 e4 e5=>?_
   have hrw5:=hrw4.keep e5
   have egw:gw m = -1:=by rw [hrm'.2.2]; unfold wdV; rw [if_neg (by rw [l]; simp)]
   simp only [gs22,xIxS m0 cm,Nat.zero_add,ruS,ruL,ruE,Nat.reduceAdd,reduceIte,Int.reduceLT,Int.reduceLE,Int.reduceEq,Int.reduceNeg,Int.reduceAdd,Int.reduceSub,Nat.reduceLeDiff,Nat.reduceLT]
   rw [hrw5.ld m0 cm,egw]
   simp only [xIxS m0 cm,Nat.zero_add,ruS,ruL,ruE,Nat.reduceAdd,reduceIte,Int.reduceLT,Int.reduceLE,Int.reduceEq,Int.reduceNeg,Int.reduceAdd,Int.reduceSub,Nat.reduceLeDiff,Nat.reduceLT]
   rw [hrw5.ld m0 cm,egw]
   simp only [w_be_j6,w_be_j6b,ruS,ruL,ruE,Nat.reduceAdd,reduceIte,Int.reduceLT,Int.reduceLE,Int.reduceEq,Int.reduceNeg,Int.reduceAdd,Int.reduceSub,Nat.reduceLeDiff,Nat.reduceLT]
   rw [IntWalk.i64_in (k+1) (by omega)]
   exact on A5 υ2 e1 e2 (ok_mono e3 (by omega)) e4 e5
 -- who is let go
 have drops:∀ (i0:Int) (n pm ps:Nat) gm gz dd li V A b τ,Dv C i0 n dd li V A.w b→i0≤40→n≤25→(∀ k:Int,0≤k→k<n→li k=true)→(∀ i,lowW C i→A.w i=0)→Pa C A 8000→A.n=C.len.toNat→isA N A τ→Ext σ τ →
   Rk .u64 N σ pm n gm τ→Rk .i64 N σ ps n gz τ→(∀ k:Int,0≤k→k<n→gm k=(dd k).n∧gz k=(dd k).z)→(∀ k:Int,0≤k→k<n→(0≤V k 0∧V k 0≤2500)∧∀ x,0≤x→x<(dd k).z→V k x=V k 0+x) →
   w_be_j2 (fun v _=>v=.bool true) [s2,.int .i64 a0,.slice (some ⟨pm,0,none⟩) n 1,.slice (some ⟨ps,0,none⟩) n 1] [N.el C 0] τ:=by
  intro i0 n pm ps gm gz dd li V A b τ hdv hi0 hn25 hli hlo hP hn hA hE hrm hrs hrow hval
  simp only [w_be_j2,w_be_j2b,ruS,ruL,ruE,Nat.reduceAdd,reduceIte,Int.reduceLT,Int.reduceLE,Int.reduceEq,Int.reduceNeg,Int.reduceAdd,Int.reduceSub,Nat.reduceLeDiff,Nat.reduceLT]
  refine hBuildS_i [] rfl fun pw τ3 mw gw0 x3=>?_
  refine xLoop_r (fun x ts ls υ=>∃ (m:Nat) (pw:Nat) (gw:Int→Int) (li:Int→Bool) (A:Ar) (b:Bg),x=n - m∧ts=[s2,.int .i64 a0,.slice (some ⟨pm,0,none⟩) n 1,.slice (some ⟨ps,0,none⟩) n 1,.slice (some ⟨pw,0,none⟩) m 1,.int .i64 m]∧ls=[N.el C 0]∧m≤n∧Dv C (i0+m) n dd li V A.w b∧(∀ k:Int,(m:Int)≤k→k<n→li k=true)∧(∀ i,lowW C i→A.w i=0)∧Pa C A (8000+200*m)∧A.n=C.len.toNat∧isA N A υ∧Ext σ υ ∧
    Rk .u64 N σ pm n gm υ∧Rk .i64 N σ ps n gz υ∧Rk .i64 N σ pw m gw υ∧(pm≠pw∧ps≠pw)∧∀ k:Int,0≤k→k<m→gw k=wdV li V k) ?_ (n:=n)
   ⟨0,pw,fun _=>0,li,A,b,rfl,rfl,rfl,by omega,hdv.mono (by omega),fun k k0 k1=>hli k (by omega) k1,hlo,hP.mono (by omega),hn,hA.ext x3,hE.trans x3,hrm.ext x3,hrs.ext x3,⟨gw0,hA.new mw,hE.none mw⟩,⟨hrm.ne mw,hrs.ne mw⟩,fun k k0 k1=>by omega⟩
  clear hdv hli hlo hP hn hA hE hrm hrs gw0 mw x3
  rintro x ts ls υ ⟨m,pw,gw,li,A,b,rfl,rfl,rfl,mn,hdv,hli,hlo,hP,hn,hA,hE,hrm,hrs,hrw,⟨ne1,ne2⟩,hgw⟩ R hR
  simp only [w_law14_CompactKeeps_l19,w_law14_CompactKeeps_l19b,xLen,ruS,ruL,ruE,Nat.reduceAdd,reduceIte,Int.reduceLT,Int.reduceLE,Int.reduceEq,Int.reduceNeg,Int.reduceAdd,Int.reduceSub,Nat.reduceLeDiff,Nat.reduceLT]
  by_cases cm:(m:Int)<n
  rotate_left
  ·simp only [cm,ruS,ruL,ruE,Nat.reduceAdd,reduceIte,Int.reduceLT,Int.reduceLE,Int.reduceEq,Int.reduceNeg,Int.reduceAdd,Int.reduceSub,Nat.reduceLeDiff,Nat.reduceLT]
   have hmn:m=n:=by omega
   subst hmn
   exact fin (i0+m) m pm ps pw gm gz gw dd li V A b υ hdv (by omega) hlo (hP.mono (by omega)) hn hA hE hrm hrs hrw (fun k k0 k1=>⟨(hrow k k0 k1).1,(hrow k k0 k1).2,hgw k k0 k1⟩) hval
  have m0:(0:Int)≤m:=by omega
  have hk:=hli m (Int.le_refl _) cm
  have ho:=hdv.ol hC m0 cm hk
  have hd:=hdv.dw.hd m m0 cm
  have hrm':=hrow m m0 cm
  have hvm:=hval m m0 cm
  have hzm:=class_room' hd.2.1
  have es:hdSl (dd m).n=(dd m).s:=rfl
  have hab:=ho.bd
  have hb0:0≤C.base 0:=by have:=hC.S; unfold Cf.base; omega
  have hpn:=hP.n
  have hnle:=hdv.dw.nle
  simp only [cm,p7,xIxS m0 cm,Nat.zero_add,ruS,ruL,ruE,Nat.reduceAdd,reduceIte,Int.reduceLT,Int.reduceLE,Int.reduceEq,Int.reduceNeg,Int.reduceAdd,Int.reduceSub,Nat.reduceLeDiff,Nat.reduceLT]
  rw [hrm.ld m0 cm,hrm'.1,c_place hN hC hA hP.n hP.ok.w hd.1.1 (by rw [es]; exact hd.1.2.2),ho.ad]
  simp only [c_PeekA hN hA (show 0≤(dd m).a C by omega) (show (dd m).a C<A.n by omega),c_wHead (hP.ok.w _).1 (hP.ok.w _).2,f4h,xIxS m0 cm,Nat.zero_add,ruS,ruL,ruE,Nat.reduceAdd,reduceIte,Int.reduceLT,Int.reduceLE,Int.reduceEq,Int.reduceNeg,Int.reduceAdd,Int.reduceSub,Nat.reduceLeDiff,Nat.reduceLT]
  rw [hrm.ld m0 cm,hrm'.1,ho.hd.1]
  simp only [b2,ruS,ruL,ruE,Nat.reduceAdd,reduceIte,Int.reduceLT,Int.reduceLE,Int.reduceEq,Int.reduceNeg,Int.reduceAdd,Int.reduceSub,Nat.reduceLeDiff,Nat.reduceLT]
  refine c_ReadO hN hC hA ho hP.ok (by omega) hP.n (by omega) (Int.le_refl 0) (by omega) fun oS A5 υ2 e1 e2 e3 e4 e5=>?_
  have hP5:Pa C A5 (8000+200*m+4):=⟨e3,by rw [e2]; exact hP.n,fun c c0 c1=>by rw [e1]; exact hP.op c c0 c1⟩
  have hdv5:Dv C (i0+m) n dd li V A5.w b:=by rw [e1]; exact hdv
  have hce:=hdv.ce m m0 cm hk 0 (Int.le_refl 0) (by omega)
  have ev:ceV (A.w ((dd m).a C+1+0))=V m 0:=by rw [hce.2]; exact (ce_put hce.1 (by decide)).1
  have hE2:Ext σ υ2:=hE.keep' e5 fun y hy=>hfr.all y hy
  have hrw2:=hrw.keep e5
  have hrm2:=hrm.keep e5
  have hrs2:=hrs.keep e5
  rw [ev]
  simp only [f2v,buI,ruS,ruL,ruE,Nat.reduceAdd,reduceIte,Int.reduceLT,Int.reduceLE,Int.reduceEq,Int.reduceNeg,Int.reduceAdd,Int.reduceSub,Nat.reduceLeDiff,Nat.reduceLT]
  have eg:(fun l:Int=>if l=m then V m 0 else gw l) m=V m 0:=if_pos rfl
  rw [← eg]
  refine hrw2.add (g':=fun l:Int=>if l=m then V m 0 else gw l) e4 hE2 (by omega) (fun l l0 l1=>if_neg (by omega)) fun id υ3 hid hrw3 hA3 hE3 hK3=>?_
  have hrm3:=hrm2.off hK3 ne1
  have hrs3:=hrs2.off hK3 ne2
  have ne3:=hrm2.ne hid
  have ne4:=hrs2.ne hid
  have lo5:∀ i,lowW C i→A5.w i=0:=fun i hi=>by rw [e1]; exact hlo i hi
  have on:w_be_j7 (fun v _=>v=.bool true) (w_be_j3 fun v _=>v=.bool true) R [s2,.int .i64 a0,.slice (some ⟨pm,0,none⟩) n 1,.slice (some ⟨ps,0,none⟩) n 1,.slice (some ⟨id,0,none⟩) (m+1) 1,.int .i64 m] [N.el C 0] υ3:=by
   simp only [w_be_j7,w_be_j7b,ruS,ruL,ruE,Nat.reduceAdd,reduceIte,Int.reduceLT,Int.reduceLE,Int.reduceEq,Int.reduceNeg,Int.reduceAdd,Int.reduceSub,Nat.reduceLeDiff,Nat.reduceLT]
   rw [IntWalk.i64_in ((m:Int)+1) (by omega)]
   refine hR (n - (m+1)) _ _ _ (by omega) ⟨m+1,id,_,li,A5,b,rfl,by simp,rfl,by omega,hdv5.mono (by omega),fun k k0 k1=>hli k (by omega) k1,lo5,hP5.mono (by omega),by rw [e2]; exact hn,hA3,hE3,hrm3,hrs3,hrw3,⟨ne3,ne4⟩,fun k k0 k1=>?_⟩
   by_cases e:k=m
   ·subst e; simp only [if_pos]; unfold wdV; rw [if_pos hk]
   ·simp only [if_neg e]; exact hgw k k0 (by omega)
  have hk3:=hkp.keep hE3
  simp only [hk3.len,ruS,ruL,ruE,Nat.reduceAdd,reduceIte,Int.reduceLT,Int.reduceLE,Int.reduceEq,Int.reduceNeg,Int.reduceAdd,Int.reduceSub,Nat.reduceLeDiff,Nat.reduceLT]
  by_cases c3:(m:Int)<len2
  rotate_left
  ·simp only [c3,w_be_j8,w_be_j8b,ruS,ruL,ruE,Nat.reduceAdd,reduceIte,Int.reduceLT,Int.reduceLE,Int.reduceEq,Int.reduceNeg,Int.reduceAdd,Int.reduceSub,Nat.reduceLeDiff,Nat.reduceLT]; exact on
  simp only [c3,ruS,ruL,ruE,Nat.reduceAdd,reduceIte,Int.reduceLT,Int.reduceLE,Int.reduceEq,Int.reduceNeg,Int.reduceAdd,Int.reduceSub,Nat.reduceLeDiff,Nat.reduceLT]
  rw [hk3.ix m0 c3]
  cases hb:kp m with
  | true=>simp only [Bool.not_true,w_be_j8,w_be_j8b,ruS,ruL,ruE,Nat.reduceAdd,reduceIte,Int.reduceLT,Int.reduceLE,Int.reduceEq,Int.reduceNeg,Int.reduceAdd,Int.reduceSub,Nat.reduceLeDiff,Nat.reduceLT]; exact on
  | false=>
   have cm1:(m:Int)<((m+1:Nat):Int):=by omega
   simp only [Bool.not_false,w_be_j8,w_be_j8b,xIxS m0 cm,Nat.zero_add,ruS,ruL,ruE,Nat.reduceAdd,reduceIte,Int.reduceLT,Int.reduceLE,Int.reduceEq,Int.reduceNeg,Int.reduceAdd,Int.reduceSub,Nat.reduceLeDiff,Nat.reduceLT]
   rw [hrm3.ld m0 cm,hrm'.1]
   refine c_DropV hN hC hG hA3 hP5 (by omega) hdv5 (by omega) m0 cm hk fun oH oV oS' A6 υ4 hdv6 hP6 hn6 hlo6 hA6 hK6=>?_
   have hE6:Ext σ υ4:=hE3.keep' hK6 fun y hy=>hfr.all y hy
   have hrw6:=hrw3.keep hK6
   simp only [xIxS m0 cm1,Nat.zero_add,ruS,ruL,ruE,Nat.reduceAdd,reduceIte,Int.reduceLT,Int.reduceLE,Int.reduceEq,Int.reduceNeg,Int.reduceAdd,Int.reduceSub,Nat.reduceLeDiff,Nat.reduceLT]
   refine hrw6.st m0 cm1 hA6 hE6 fun υ5 hrw7 hA7 hE7 hK7=>?_
   have hrm7:=(hrm3.keep hK6).off hK7 ne3
   have hrs7:=(hrs3.keep hK6).off hK7 ne4
   simp only [w_be_j7,w_be_j7b,ruS,ruL,ruE,Nat.reduceAdd,reduceIte,Int.reduceLT,Int.reduceLE,Int.reduceEq,Int.reduceNeg,Int.reduceAdd,Int.reduceSub,Nat.reduceLeDiff,Nat.reduceLT]
   rw [IntWalk.i64_in ((m:Int)+1) (by omega)]
   refine hR (n - (m+1)) _ _ _ (by omega) ⟨m+1,id,_,updB li m false,A6,_,rfl,by simp,rfl,by omega,by rw [show i0+((m+1:Nat):Int)=i0+m+1 by omega]; exact hdv6,fun k k0 k1=>?_,fun x hx=>by rw [hlo6 x hx]; exact lo5 x hx,hP6.mono (by omega),by rw [hn6,e2]; exact hn,hA7,hE7,hrm7,hrs7,hrw7,⟨ne3,ne4⟩,fun k k0 k1=>?_⟩
   ·rw [show updB li m false k=li k from if_neg (by omega)]; exact hli k (by omega) k1
   ·by_cases e:k=m
    ·subst e; rw [upd_same]; unfold wdV; rw [show updB li m false m=false from if_pos rfl]; rfl
    ·rw [upd_ne _ _ e]
     simp only [if_neg e]
     rw [hgw k k0 (by omega)]; unfold wdV; rw [show updB li m false k=li k from if_neg e]
 refine xLoop_r (fun x ts ls τ=>∃ (i:Int) (n:Nat) (pm ps:Nat) (gm gz:Int→Int) (dd:Int→Do) (li:Int→Bool) (V:Int→Int→Int) (A:Ar) (b:Bg),x=(25 - i).toNat∧ts=[s,s2,.int .i64 a0,.slice (some ⟨pm,0,none⟩) n 1,.slice (some ⟨ps,0,none⟩) n 1,.int .i64 i]∧ls=[N.el C 0]∧(0≤i∧i≤25)∧Dv C i n dd li V A.w b∧(∀ k:Int,0≤k→k<n→li k=true)∧(∀ i,lowW C i→A.w i=0)∧Pa C A (1000+200*i)∧A.n=C.len.toNat∧isA N A τ∧Ext σ τ ∧
   Rk .u64 N σ pm n gm τ∧Rk .i64 N σ ps n gz τ∧pm≠ps∧(∀ k:Int,0≤k→k<n→gm k=(dd k).n∧gz k=(dd k).z)∧(∀ k:Int,0≤k→k<n→(0≤V k 0∧V k 0≤2500)∧∀ x,0≤x→x<(dd k).z→V k x=V k 0+x)) ?_ (n:=25)
  ⟨0,0,p0,q0,_,_,_,_,_,A,_,rfl,rfl,rfl,⟨Int.le_refl 0,by decide⟩,dv0,fun k k0 k1=>by omega,low0,hP.mono (by omega),hnA,(hA0.ext x1).ext x2,(hE0.trans x1).trans x2,r0,r1,n0,fun k k0 k1=>by omega,fun k k0 k1=>by omega⟩
 clear dv0 low0 hP hnA hA0 hE0 hA hE x0 r0 r1 n0 g0 g1 m0 m1 x1 x2
 rintro x ts ls τ3 ⟨i,n,pm,ps,gm,gz,dd,li,V,A1,b,rfl,rfl,rfl,⟨i0,i1⟩,hdv,hli,hlo,hP1,hn1,hA1,hE1,hrm,hrs,nep,hrow,hval⟩ R hR
 have hg1:=hg.keep hE1
 have hnle:=hdv.dw.nle
 have fin':=drops i n pm ps gm gz dd li V A1 b τ3 hdv (by omega) (by omega) hli hlo (hP1.mono (by omega)) hn1 hA1 hE1 hrm hrs hrow hval
 simp only [w_law14_CompactKeeps_l7,w_law14_CompactKeeps_l7b,hg1.len,ruS,ruL,ruE,Nat.reduceAdd,reduceIte,Int.reduceLT,Int.reduceLE,Int.reduceEq,Int.reduceNeg,Int.reduceAdd,Int.reduceSub,Nat.reduceLeDiff,Nat.reduceLT]
 by_cases c1:i<len
 rotate_left
 ·simp only [c1,ruS,ruL,ruE,Nat.reduceAdd,reduceIte,Int.reduceLT,Int.reduceLE,Int.reduceEq,Int.reduceNeg,Int.reduceAdd,Int.reduceSub,Nat.reduceLeDiff,Nat.reduceLT]; exact fin'
 by_cases c2:i<25
 rotate_left
 ·simp only [c1,c2,ruS,ruL,ruE,Nat.reduceAdd,reduceIte,Int.reduceLT,Int.reduceLE,Int.reduceEq,Int.reduceNeg,Int.reduceAdd,Int.reduceSub,Nat.reduceLeDiff,Nat.reduceLT]; exact fin'
 clear fin drops fin'
 simp only [c1,c2,w_be_j9,w_be_j9b,ruS,ruL,ruE,Nat.reduceAdd,reduceIte,Int.reduceLT,Int.reduceLE,Int.reduceEq,Int.reduceNeg,Int.reduceAdd,Int.reduceSub,Nat.reduceLeDiff,Nat.reduceLT]
 rw [hg1.ix i0 c1]
 simp only [andI15,xRem (show (5:Int)≠0 by decide),ruS,ruL,ruE,Nat.reduceAdd,reduceIte,Int.reduceLT,Int.reduceLE,Int.reduceEq,Int.reduceNeg,Int.reduceAdd,Int.reduceSub,Nat.reduceLeDiff,Nat.reduceLT]
 have hz:0≤classOf (1+g i % 16):=by unfold classOf; (repeat' split) <;> omega
 have hzb:1≤1+g i % 16∧1+g i % 16≤16:=by omega
 generalize 1+g i % 16=z at hz hzb
 rw [IntWalk.i64_in z (by omega)]
 refine c_MakeV hN hC hA1 hP1 (by omega) hdv (by omega) hz (fun oE oV oS A' τ4 hf hdv' hP2 hn2 hlo2 hA2 hK2=>?_) fun oV oS A' τ4 s' F j b' d hF hgt hd hdv' hP2 hn2 hlo2 hA2 hK2=>?_
 ·have hE0:¬ oE=0:=by omega
  simp only [gs,hE0,w_be_j10,w_be_j10b,ruS,ruL,ruE,Nat.reduceAdd,reduceIte,Int.reduceLT,Int.reduceLE,Int.reduceEq,Int.reduceNeg,Int.reduceAdd,Int.reduceSub,Nat.reduceLeDiff,Nat.reduceLT]
  rw [IntWalk.i64_in (i+1) (by omega)]
  exact hR (25 - (i+1)).toNat _ _ _ (by omega) ⟨i+1,n,pm,ps,gm,gz,dd,li,V,A',b,rfl,rfl,rfl,⟨by omega,by omega⟩,hdv'.mono (by omega),hli,fun x hx=>by rw [hlo2 x hx]; exact hlo x hx,hP2.mono (by omega),by rw [hn2]; exact hn1,hA2,hE1.keep' hK2 fun y hy=>hfr.all y hy,hrm.keep hK2,hrs.keep hK2,nep,hrow,hval⟩
 ·have hE2:Ext σ τ4:=hE1.keep' hK2 fun y hy=>hfr.all y hy
  have hrm2:=hrm.keep hK2
  have hrs2:=hrs.keep hK2
  simp only [gs,bu1,buI,ruS,ruL,ruE,Nat.reduceAdd,reduceIte,Int.reduceLT,Int.reduceLE,Int.reduceEq,Int.reduceNeg,Int.reduceAdd,Int.reduceSub,Nat.reduceLeDiff,Nat.reduceLT]
  have eg:(fun l:Int=>if l=n then d.n else gm l) n=d.n:=if_pos rfl
  rw [← eg]
  refine hrm2.add (g':=fun l:Int=>if l=n then d.n else gm l) hA2 hE2 (by omega) (fun l l0 l1=>if_neg (by omega)) fun id υ hid hrm3 hA3 hE3 hK3=>?_
  have hrs3:=hrs2.off hK3 (Ne.symm nep)
  have ne3:=hrs2.ne hid
  rw [eg]
  have eg2:(fun l:Int=>if l=n then z else gz l) n=z:=if_pos rfl
  rw [← eg2]
  refine hrs3.add (g':=fun l:Int=>if l=n then z else gz l) hA3 hE3 (by omega) (fun l l0 l1=>if_neg (by omega)) fun id2 υ2 hid2 hrs4 hA4 hE4 hK4=>?_
  have hrm4:=hrm3.off hK4 (Ne.symm ne3)
  have ne4:=hrm3.ne hid2
  rw [eg2]
  have ed:addD dd n d n=d:=if_pos rfl
  -- its words
  refine xLoop_r (fun x ts ls υ=>∃ (k:Int) (V':Int→Int→Int) (A5:Ar),x=(z - k).toNat∧ts=[s,s2,.int .i64 a0,.slice (some ⟨id,0,none⟩) (n+1) 1,.slice (some ⟨id2,0,none⟩) (n+1) 1,.int .i64 i,.int .i64 z,.int .i64 k]∧ls=[N.el C 0,[.int .i64 0,.int .u64 d.n,.int .i64 oV,.int .i64 oS]]∧(0≤k∧k≤z)∧Dv C (i+1) (n+1) (addD dd n d) (updB li n true) V' A5.w (b'.count j (roomOf (classOf z)))∧(∀ i,lowW C i→A5.w i=0)∧Pa C A5 (1000+200*i+100+4*k)∧A5.n=C.len.toNat∧isA N A5 υ∧Ext σ υ ∧
    Rk .u64 N σ id (n+1) (fun l:Int=>if l=n then d.n else gm l) υ∧Rk .i64 N σ id2 (n+1) (fun l:Int=>if l=n then z else gz l) υ∧(∀ l x:Int,l≠n→V' l x=V l x)∧∀ x,0≤x→x<k→V' n x=100*i+x) ?_ (n:=z.toNat)
   ⟨0,_,A',by simp,rfl,rfl,⟨Int.le_refl 0,by omega⟩,hdv',fun x hx=>by rw [hlo2 x hx]; exact hlo x hx,hP2.mono (by omega),by rw [hn2]; exact hn1,hA4,hE4,hrm4,hrs4,fun l x hl=>if_neg hl,fun x x0 x1=>by omega⟩
  clear hrm hrs hrm2 hrs2 hrm3 hrs3 hrm4 hrs4 hA2 hA3 hA4 hE2 hE3 hE4 hK2 hK3 hK4 hdv hP1 hA1 hdv' hP2 hlo2 hn2
  rintro x ts ls υ3 ⟨k,V',A5,rfl,rfl,rfl,⟨k0,k1⟩,hdv5,hlo5,hP5,hn5,hA5,hE5,hrm5,hrs5,hV1,hV2⟩ R3 hR3
  simp only [w_law14_CompactKeeps_l14,w_law14_CompactKeeps_l14b,ruS,ruL,ruE,Nat.reduceAdd,reduceIte,Int.reduceLT,Int.reduceLE,Int.reduceEq,Int.reduceNeg,Int.reduceAdd,Int.reduceSub,Nat.reduceLeDiff,Nat.reduceLT]
  by_cases ck:k<z
  rotate_left
  ·have hk:k=z:=by omega
   subst hk
   simp only [ck,w_be_j10,w_be_j10b,ruS,ruL,ruE,Nat.reduceAdd,reduceIte,Int.reduceLT,Int.reduceLE,Int.reduceEq,Int.reduceNeg,Int.reduceAdd,Int.reduceSub,Nat.reduceLeDiff,Nat.reduceLT]
   rw [IntWalk.i64_in (i+1) (by omega)]
   refine hR (25 - (i+1)).toNat _ _ _ (by omega) ⟨i+1,n+1,id,id2,_,_,_,_,V',A5,_,rfl,by simp,rfl,⟨by omega,by omega⟩,hdv5,fun l l0 l1=>?_,hlo5,hP5.mono (by omega),hn5,hA5,hE5,hrm5,hrs5,ne4,fun l l0 l1=>?_,fun l l0 l1=>?_⟩
   ·by_cases e:l=n
    ·exact if_pos e
    ·rw [show updB li n true l=li l from if_neg e]; exact hli l l0 (by omega)
   ·by_cases e:l=n
    ·subst e; rw [ed]; exact ⟨if_pos rfl,by rw [hd.2.2.1]; exact if_pos rfl⟩
    ·rw [show addD dd n d l=dd l from if_neg e]
     simp only [if_neg e]; exact hrow l l0 (by omega)
   ·by_cases e:l=n
    ·subst e
     rw [ed,hd.2.2.1,hV2 0 (Int.le_refl 0) (by omega)]
     exact ⟨by omega,fun x x0 x1=>by rw [hV2 x x0 x1]; omega⟩
    ·rw [show addD dd n d l=dd l from if_neg e,hV1 l 0 e]
     have:=hval l l0 (by omega)
     exact ⟨this.1,fun x x0 x1=>by rw [hV1 l x e]; exact this.2 x x0 x1⟩
  have hnl:=hdv5.dw.nle
  have sb1:sub [.int .i64 0,.int .u64 d.n,.int .i64 oV,.int .i64 oS] 1 1 false=some (.int .u64 d.n):=rfl
  simp only [ck,sb1,xRem (show (5:Int)≠0 by decide),ruS,ruL,ruE,Nat.reduceAdd,reduceIte,Int.reduceLT,Int.reduceLE,Int.reduceEq,Int.reduceNeg,Int.reduceAdd,Int.reduceSub,Nat.reduceLeDiff,Nat.reduceLT]
  rw [IntWalk.i64_in (100*i) (by omega),IntWalk.i64_in (100*i+k) (by omega)]
  simp only [b5,ruS,ruL,ruE,Nat.reduceAdd,reduceIte,Int.reduceLT,Int.reduceLE,Int.reduceEq,Int.reduceNeg,Int.reduceAdd,Int.reduceSub,Nat.reduceLeDiff,Nat.reduceLT]
  have key:=c_WriteV (who:=0) (k:=n) (x:=k) (v:=100*i+k) (K:=fun _ σ=>R3 [s,s2,.int .i64 a0,.slice (some ⟨id,0,none⟩) (n+1) 1,.slice (some ⟨id2,0,none⟩) (n+1) 1,.int .i64 i,.int .i64 z,.int .i64 (k+1)] [N.el C 0,[.int .i64 0,.int .u64 d.n,.int .i64 oV,.int .i64 oS]] σ) hN hC hA5 hP5 (by omega) (by omega) hdv5 (by omega) (by omega) (if_pos rfl) k0 (by rw [ed,hd.2.2.1]; exact ck) (by omega) fun r A6 υ4 hdv6 hP6 hn6 hlo6 hA6 hK6=>
   hR3 (z - (k+1)).toNat _ _ _ (by omega) ⟨k+1,_,A6,rfl,rfl,rfl,⟨by omega,by omega⟩,hdv6,fun x hx=>by rw [hlo6 x hx]; exact hlo5 x hx,hP6.mono (by omega),by rw [hn6]; exact hn5,hA6,hE5.keep' hK6 fun y hy=>hfr.all y hy,hrm5.keep hK6,hrs5.keep hK6,fun l x hl=>by unfold layV; rw [if_neg (fun q=>hl q.1)]; exact hV1 l x hl,fun x x0 x1=>by
    unfold layV
    by_cases e:x=k
    ·rw [if_pos ⟨rfl,e⟩,e]
    ·rw [if_neg (fun q=>e q.2)]; exact hV2 x x0 (by omega)⟩
  rw [ed,hd.1] at key
  simp only [IntWalk.i64_in (k+1) (by omega : -9223372036854775808≤k+1∧k+1≤9223372036854775807)]
  exact key
end Go.Fl
