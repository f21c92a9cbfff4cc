/- What the claim leans on, part 5: own readings of the program's functions, what they come to, laws of them. No condition. -/
import Derived.Test.YtedpfdkhebmocaaGreatZCompactSteps4
namespace Go.Fl
open Go
set_option linter.unusedVariables false
set_option linter.unusedSimpArgs false
variable {N:Nm} {A B:Ar} {σ:Mem} {K:Value→Mem→Prop} {C:Cf} {who:Int} {P:TP} {w:Int→Int}
theorem chS0 {n:Int}:chS (putChunk 0 0 0 n) = 0:=by unfold putChunk chS cl; omega
theorem sp0 {v:Stl}:spS (some v) = if v.pc ≤ 2 then v.pc else if v.pc = 3 then 3 + v.at' else 40 + v.pc:=rfl
theorem sp1 {v:Stl} (h:v.pc ≤ 2):spS (some v) = v.pc:=by rw [sp0,if_pos h]
theorem sp3 {v:Stl} (h:v.pc = 3):spS (some v) = 3 + v.at':=by rw [sp0,if_neg (by omega),if_pos h]
theorem sp4 {v:Stl} (h:4 ≤ v.pc):spS (some v) = 40 + v.pc:=by rw [sp0,if_neg (by omega),if_neg (by omega)]
theorem Tim.eqv {w':Int→Int} {pc at' now ev ev2 fd fd2 rd idle:Int} (h:Tim C P w pc at' now ev ev2 fd fd2 rd idle) (h8:pc ≠ 8) (h0:w' 0 = w 0) (hc:∀ j,0 ≤ j→j < C.C→w' (C.chunk j) = w (C.chunk j)) (h2:∀ j,0 ≤ j→j < C.C→w' (C.chunk j + 2) = w (C.chunk j + 2)):Tim C P w' pc at' now ev ev2 fd fd2 rd idle:=by
 have k1:=kS_congr (C:=C) (P:=P) (w:=w) (w':=w') (s:=1) hc
 have k3:=kS_congr (C:=C) (P:=P) (w:=w) (w':=w') (s:=3) hc
 refine ⟨by rw [h0]; exact h.e,by rw [k1]; exact h.kt,h.eb,by rw [h0]; exact h.n7,fun e=>absurd e h8,fun a b j j0 j1 d q=>?_,fun a b j j0 j1 d q=>?_,fun a b=>by rw [k3]; exact h.fq a b,h.fi,fun a=>?_,h.ks⟩
 ·rw [hc j j0 j1] at q; rw [h2 j j0 j1,h0]; exact h.uq a b j j0 j1 d q
 ·rw [hc j j0 j1] at q; rw [h2 j j0 j1,h0]; exact h.us a b j j0 j1 d q
 ·rw [h0]
  have:=h.pq a
  exact ⟨this.1,this.2.1,this.2.2.1,fun j j0 j1 d q=>by rw [hc j j0 j1] at q; rw [h2 j j0 j1]; exact this.2.2.2 j j0 j1 d q⟩
section
variable {c:Co}
theorem TI.s11 (hC:C.ok) (h:TI C P c A) (hp:c.r.pc = 11) (hrd:c.r.rd ≤ 1000000) (r:Int):TI C P (c.step C (-1) A r).1 (c.step C (-1) A r).2∧((c.step C (-1) A r).1.r.rd = c.r.rd∧leftT C (c.step C (-1) A r).1 < leftT C c ∨
  (c.step C (-1) A r).1.r.rd = c.r.rd + 1∧(c.step C (-1) A r).1.r.pc = 0∧(c.step C (-1) A r).1.r.at' = 0):=by
 obtain ⟨hS,nn,w64,tw,cl,nm,tm⟩:=h
 have cl0:=cl; have nm0:=nm; have tm0:=tm
 rw [hp] at cl nm tm
 obtain ⟨⟨a0,a1⟩,hv⟩:=cl.p11 rfl
 have hcc:=hS.cc
 have e0:=hS.e0
 have te:=tm.e
 rw [if_pos rfl] at te
 have hr0:=nm.nn
 have b:=ck_lt hC a0 a1
 have an:c.a = none:=cl.an (by decide)
 have st2:∀ j,0 ≤ j→j < C.C→P.D j = true→chS (A.w (C.chunk j)) ≠ 2:=fun j j0 j1 d q=>absurd (cl.st2 j j0 j1 d q).2.1 (by decide)
 have hsp:spS c.s ≤ 45:=by
  unfold spS
  split
  ·decide
  ·rename_i u e
   obtain ⟨_,hDu,_,_,_,q⟩:=hv u e
   have hU:=(hS.dd _ a0 a1 hDu).2.1
   split
   ·omega
   ·split
    ·rcases q with q | q | ⟨_,q | q⟩ <;> omega
    ·rcases q with q | q | ⟨_,q | q⟩ <;> omega
 have go:∀ (v:Stl) (w':Int→Int) (A':Ar),A'.w = w'→A'.n = A.n→(∀ i,0 ≤ w' i∧w' i < 18446744073709551616)→TW C P w'→(∀ j,0 ≤ j→j < C.C→w' (C.chunk j) = A.w (C.chunk j))→(∀ j,0 ≤ j→j < C.C→w' (C.chunk j + 2) = A.w (C.chunk j + 2))→w' 0 = A.w 0 →
   (v.ch = c.r.at'∧P.D c.r.at' = true∧chS (w' (C.chunk c.r.at')) = 3∧v.w = w' (C.chunk c.r.at')∧v.freed = false∧(v.pc = 1∧v.at' = 0 ∨ v.pc = 2∧v.at' = 0∧v.since = w' (C.chunk c.r.at' + 2) ∨
    P.pn = false∧(v.pc = 3∧(0 ≤ v.at'∧v.at' < chU (P.w0 (C.chunk c.r.at')))∧(∀ x,0 ≤ x→x < v.at'→w' (C.base c.r.at' + x) = 0) ∨ (v.pc = 4 ∨ v.pc = 5)∧∀ x,0 ≤ x→x < chU (P.w0 (C.chunk c.r.at'))→w' (C.base c.r.at' + x) = 0))) →
   spS c.s < spS (some v)→TI C P { c with s:=some v } A'∧(({ c with s:=some v }:Co).r.rd = c.r.rd∧leftT C { c with s:=some v } < leftT C c ∨ ({ c with s:=some v }:Co).r.rd = c.r.rd + 1∧({ c with s:=some v }:Co).r.pc = 0∧({ c with s:=some v }:Co).r.at' = 0):=by
  intro v w' A' hw hn h64 htw hc h2 h0 hvv hl
  refine ⟨TI.of (pc:=c.r.pc) (s:=some v) w' hw hS (by rw [hn]; exact nn) h64 htw ?_ (nm0.keep hc Iff.rfl) (tm0.eqv (by omega) h0 hc h2),.inl ⟨rfl,?_⟩⟩
  ·rw [hp]
   refine ⟨by decide,fun q=>absurd q (by decide),fun q=>absurd q (by decide),fun q=>absurd q (by decide),fun q=>absurd q (by decide),fun q=>absurd q (by decide),fun q=>absurd q (by decide),fun _ q=>absurd q (by decide),fun q=>absurd q (by decide),fun _=>an,fun _=>⟨⟨a0,a1⟩,fun u e=>by cases e; exact hvv⟩,fun q=>absurd rfl q,fun j j0 j1 d q=>?_⟩
   rw [hc j j0 j1] at q; exact absurd q (st2 j j0 j1 d)
  ·rw [left11 hp,left11 (c:={ c with s:=some v }) hp]; show 50 * (C.C - c.r.at') - spS (some v) < _; omega
 -- it is done,and nothing is another one
 have fin0:(chS (A.w (C.chunk c.r.at')) = 3→P.D c.r.at' = true→A.w 0 < A.w (C.chunk c.r.at' + 2) + 2)→∀ A':Ar,A'.w = A.w→A'.n = A.n→TI C P { c with s:=none,r:=c.r.settled C false } A'∧(({ c with s:=none,r:=c.r.settled C false }:Co).r.rd = c.r.rd∧leftT C { c with s:=none,r:=c.r.settled C false } < leftT C c ∨
   ({ c with s:=none,r:=c.r.settled C false }:Co).r.rd = c.r.rd + 1∧({ c with s:=none,r:=c.r.settled C false }:Co).r.pc = 0∧({ c with s:=none,r:=c.r.settled C false }:Co).r.at' = 0):=by
  intro hq A' hw hn
  refine TI.fin hC false hp hw hS (by rw [hn]; exact nn) w64 tw ⟨a0,a1⟩ an st2 hsp nm ?_ fun e=>by cases e
  refine ⟨tm.e,tm.kt,tm.eb,tm.n7,fun q=>absurd q (by decide),tm.uq,fun a _ j j0 j1 d q=>?_,tm.fq,tm.fi,tm.pq,tm.ks⟩
  have:=tm.us a rfl j j0 j1 d q
  refine ⟨this.1,?_⟩
  rcases this.2 with ⟨u1,u2⟩ | u | u
  ·by_cases e:j = c.r.at'
   ·subst e; have:=hq q d; omega
   ·exact .inl ⟨u1,by omega⟩
  ·exact .inr (.inl u)
  ·exact .inr (.inr u)
 rw [step11 hp]
 cases es:c.s with
 | none =>
  have e1:(Stl.new c.r.at').step C (-1) A = (!decide (chS (A.w (C.chunk c.r.at')) = 3),{ Stl.new c.r.at' with w:=A.w (C.chunk c.r.at'),pc:=1 },(A.by (-1)).load (C.chunk c.r.at')):=by unfold Stl.step; rw [if_pos (show (Stl.new c.r.at').pc = 0 from rfl)]; rfl
  rw [Option.getD_none,e1]
  by_cases c3:chS (A.w (C.chunk c.r.at')) = 3
  ·rw [if_neg (by simp [c3])]
   have hD:P.D c.r.at' = true:=by
    cases d:P.D c.r.at' with
    | true=>rfl
    | false =>
     rw [(tw.un hC a0 a1 d).1] at c3
     have:=(hS.nd _ a0 a1 d).2
     omega
   exact go ⟨c.r.at',1,A.w (C.chunk c.r.at'),0,0,false⟩ A.w ((A.by (-1)).load (C.chunk c.r.at')) rfl rfl w64 tw (fun _ _ _=>rfl) (fun _ _ _=>rfl) rfl ⟨rfl,hD,c3,rfl,rfl,.inl ⟨rfl,rfl⟩⟩ (by rw [es,sp1 (by show (1:Int) ≤ 2; decide)]; show (0:Int) < 1; decide)
  ·rw [if_pos (by simp [c3])]
   exact fin0 (fun q=>absurd q c3) ((A.by (-1)).load (C.chunk c.r.at')) rfl rfl
 | some v =>
  obtain ⟨v1,hD,v3,v4,v5,v6⟩:=hv v es
  have hdd:=hS.dd _ a0 a1 hD
  have hqu:=tw.qu _ a0 a1 hD (.inr v3)
  rw [Option.getD_some]
  rcases v6 with ⟨q1,q2⟩ | ⟨q1,q2,q3⟩ | ⟨qp,⟨q1,q2,q3⟩ | ⟨q1,q2⟩⟩
  ·have e1:v.step C (-1) A = (false,{ v with since:=A.w (C.chunk v.ch + 2),pc:=2 },(A.by (-1)).load (C.chunk v.ch + 2)):=by unfold Stl.step; rw [if_neg (by omega),if_pos q1]
   rw [e1,if_neg (by simp)]
   exact go { v with since:=A.w (C.chunk v.ch + 2),pc:=2 } A.w ((A.by (-1)).load (C.chunk v.ch + 2)) rfl rfl w64 tw (fun _ _ _=>rfl) (fun _ _ _=>rfl) rfl ⟨v1,hD,v3,v4,v5,.inr (.inl ⟨rfl,q2,by rw [v1]⟩)⟩ (by
    rw [es,sp1 (by omega),sp1 (by show (2:Int) ≤ 2; decide)]; show v.pc < 2; omega)
  ·have hsn:0 ≤ v.since∧v.since ≤ A.w 0:=by
    rw [q3]
    refine ⟨(w64 _).1,?_⟩
    cases pn:P.pn with
    | true=>exact ((tm.pq pn).2.2.2 _ a0 a1 hD v3).2
    | false=>have:=(tm.us pn rfl _ a0 a1 hD v3).1; omega
   have wr:IntKind.u64.wrap (v.since + 2) = v.since + 2:=u64w (by omega) (by omega)
   have e1:v.step C (-1) A = (decide (A.w 0 < v.since + 2),{ v with pc:=3 },(A.by (-1)).load 0):=by unfold Stl.step; rw [if_neg (by omega),if_neg (by omega),if_pos q1,wr]
   rw [e1]
   by_cases cw:A.w 0 < v.since + 2
   ·rw [if_pos (by simp [cw])]
    show TI C P { c with s:=none,r:=c.r.settled C v.freed } _∧_
    rw [v5]
    exact fin0 (fun _ _=>by rw [← q3]; exact cw) ((A.by (-1)).load 0) rfl rfl
   ·rw [if_neg (by simp [cw])]
    have pf:P.pn = false:=by
     cases pn:P.pn with
     | false=>rfl
     | true =>
      have h1:=(tm.pq pn).2.1
      have h2:=((tm.pq pn).2.2.2 _ a0 a1 hD v3).1
      rw [← q3] at h2
      omega
    exact go { v with pc:=3 } A.w ((A.by (-1)).load 0) rfl rfl w64 tw (fun _ _ _=>rfl) (fun _ _ _=>rfl) rfl ⟨v1,hD,v3,v4,v5,.inr (.inr ⟨pf,.inl ⟨rfl,⟨by show 0 ≤ v.at'; omega,by show v.at' < _; have:=hdd.2.1; omega⟩,fun x x0 x1=>by have:x < v.at':=x1; omega⟩⟩)⟩ (by
     rw [es,sp1 (by omega),sp3 rfl]; show v.pc < 3 + v.at'; omega)
  ·have e1:v.step C (-1) A = (false,{ v with at':=v.at' + 1,pc:=if chU v.w ≤ v.at' + 1 then 4 else v.pc },(A.by (-1)).store (C.base c.r.at' + v.at') 0):=by unfold Stl.step; rw [if_neg (by omega),if_neg (by omega),if_neg (by omega),if_pos q1,v1]
   rw [e1,if_neg (by simp)]
   have hW:=hdd.2.1
   have bb:=base_ge hC a0 a1 q2.1
   have wck:∀ j,0 ≤ j→j < C.C→upd A.w (C.base c.r.at' + v.at') 0 (C.chunk j) = A.w (C.chunk j):=fun j j0 j1=>upd_ne _ _ (by have:=ck_lt hC j0 j1; omega)
   have zz:∀ x,0 ≤ x→x < v.at' + 1→upd A.w (C.base c.r.at' + v.at') 0 (C.base c.r.at' + x) = 0:=fun x x0 x1=>by
    unfold upd; split
    ·rfl
    ·exact q3 x x0 (by omega)
   refine go { v with at':=v.at' + 1,pc:=if chU v.w ≤ v.at' + 1 then 4 else v.pc } (upd A.w (C.base c.r.at' + v.at') 0) ((A.by (-1)).store (C.base c.r.at' + v.at') 0) rfl rfl (w64u w64 (by decide)) (tw.nul hC a0 a1 hD v3 q2.1 (by omega)) wck (fun j j0 j1=>upd_ne _ _ (by have:=ck_lt hC j0 j1; omega)) (upd_ne _ _ (by omega)) ⟨v1,hD,by rw [wck _ a0 a1]; exact v3,by rw [wck _ a0 a1]; exact v4,v5,.inr (.inr ⟨qp,?_⟩)⟩ ?_
   ·have eu:chU v.w = chU (P.w0 (C.chunk c.r.at')):=by rw [v4]; exact hqu.1
    by_cases z:chU v.w ≤ v.at' + 1
    ·exact .inr ⟨.inl (by show (if chU v.w ≤ v.at' + 1 then (4:Int) else v.pc) = 4; rw [if_pos z]),fun x x0 x1=>zz x x0 (by omega)⟩
    ·exact .inl ⟨by show (if chU v.w ≤ v.at' + 1 then (4:Int) else v.pc) = 3; rw [if_neg z]; exact q1,⟨by show 0 ≤ v.at' + 1; omega,by show v.at' + 1 < _; omega⟩,zz⟩
   ·rw [es,sp3 q1]
    by_cases z:chU v.w ≤ v.at' + 1
    ·have e:(if chU v.w ≤ v.at' + 1 then (4:Int) else v.pc) = 4:=if_pos z
     rw [sp4 (by show 4 ≤ (if chU v.w ≤ v.at' + 1 then (4:Int) else v.pc); omega)]
     show 3 + v.at' < 40 + (if chU v.w ≤ v.at' + 1 then (4:Int) else v.pc); omega
    ·have e:(if chU v.w ≤ v.at' + 1 then (4:Int) else v.pc) = v.pc:=if_neg z
     rw [sp3 (by show (if chU v.w ≤ v.at' + 1 then (4:Int) else v.pc) = 3; omega)]
     show 3 + v.at' < 3 + (v.at' + 1); omega
  ·rcases q1 with q1 | q1
   ·have e1:v.step C (-1) A = (false,{ v with pc:=5 },(A.by (-1)).store (C.chunk c.r.at' + 1) 0):=by unfold Stl.step; rw [if_neg (by omega),if_neg (by omega),if_neg (by omega),if_neg (by omega),if_pos q1,v1]
    rw [e1,if_neg (by simp)]
    have wck:∀ j,0 ≤ j→j < C.C→upd A.w (C.chunk c.r.at' + 1) 0 (C.chunk j) = A.w (C.chunk j):=fun j j0 j1=>upd_ne _ _ (by unfold Cf.chunk; omega)
    refine go { v with pc:=5 } (upd A.w (C.chunk c.r.at' + 1) 0) ((A.by (-1)).store (C.chunk c.r.at' + 1) 0) rfl rfl (w64u w64 (by decide)) (tw.ck12 hC a0 a1 hD (by rw [v3]; decide) (.inl rfl)) wck (fun j j0 j1=>upd_ne _ _ (by unfold Cf.chunk; omega)) (upd_ne _ _ (by omega)) ⟨v1,hD,by rw [wck _ a0 a1]; exact v3,by rw [wck _ a0 a1]; exact v4,v5,.inr (.inr ⟨qp,.inr ⟨.inr rfl,fun x x0 x1=>?_⟩⟩)⟩ ?_
    ·rw [upd_ne _ _ (by have:=base_ge hC a0 a1 x0; omega)]; exact q2 x x0 x1
    ·rw [es,sp4 (by omega),sp4 (by show (4:Int) ≤ 5; decide)]; show 40 + v.pc < 40 + 5; omega
   ·have e1:v.step C (-1) A = (true,{ v with freed:=true },(A.by (-1)).store (C.chunk v.ch) (putChunk 0 0 0 (chN v.w + 1))):=by unfold Stl.step; rw [if_neg (by omega),if_neg (by omega),if_neg (by omega),if_neg (by omega),if_neg (by omega)]
    rw [e1,if_pos rfl,v1]
    have hs0:chS (putChunk 0 0 0 (chN v.w + 1)) = 0:=chS0
    have all0:∀ x,0 ≤ x→x < C.W→A.w (C.base c.r.at' + x) = 0:=fun x x0 x1=>by
     by_cases z:x < chU (P.w0 (C.chunk c.r.at'))
     ·exact q2 x x0 z
     ·exact tw.qn _ x a0 a1 hD v3 (by omega) x1
    have htw:=tw.ck (v:=putChunk 0 0 0 (chN v.w + 1)) hC a0 a1 hD (by rw [hs0]; decide) (fun q=>by rw [hs0] at q; exact absurd q (by decide)) (fun q=>by rw [hs0] at q; rcases q with q | q <;> exact absurd q (by decide)) (fun q=>by rw [hs0] at q; exact absurd q (by decide)) (fun _=>all0)
    have k1:=kS_same (P:=P) (w:=A.w) (i:=c.r.at') (v:=putChunk 0 0 0 (chN v.w + 1)) (s:=1) (by rw [v3]; decide) (by rw [hs0]; decide)
    have k3:=kS_off (P:=P) (w:=A.w) (v:=putChunk 0 0 0 (chN v.w + 1)) (s:=3) a0 a1 hD v3 (by rw [hs0]; decide)
    have q3:∀ j,chS (upd A.w (C.chunk c.r.at') (putChunk 0 0 0 (chN v.w + 1)) (C.chunk j)) = 3→j ≠ c.r.at'∧chS (A.w (C.chunk j)) = 3:=fun j q=>by
     by_cases e:j = c.r.at'
     ·subst e; rw [upd_same,hs0] at q; exact absurd q (by decide)
     ·rw [upd_ne _ _ (ck_ne e).1] at q; exact ⟨e,q⟩
    have w2:∀ j,upd A.w (C.chunk c.r.at') (putChunk 0 0 0 (chN v.w + 1)) (C.chunk j + 2) = A.w (C.chunk j + 2):=fun j=>upd_ne _ _ (by unfold Cf.chunk; omega)
    have ne0:upd A.w (C.chunk c.r.at') (putChunk 0 0 0 (chN v.w + 1)) 0 = A.w 0:=upd_ne _ _ (by omega)
    have kn:=kS_nn (C:=C) (P:=P) (w:=upd A.w (C.chunk c.r.at') (putChunk 0 0 0 (chN v.w + 1))) (s:=3)
    refine TI.fin (w':=upd A.w (C.chunk c.r.at') (putChunk 0 0 0 (chN v.w + 1))) (A':=(A.by (-1)).store (C.chunk c.r.at') (putChunk 0 0 0 (chN v.w + 1))) hC true hp rfl hS nn (w64u w64 (putChunk_in _ _ _ _)) htw ⟨a0,a1⟩ an (fun j j0 j1 d q=>?_) hsp ?_ ?_ fun _ q=>?_
    ·by_cases e:j = c.r.at'
     ·subst e; rw [upd_same,hs0] at q; exact absurd q (by decide)
     ·rw [upd_ne _ _ (ck_ne e).1] at q; exact st2 j j0 j1 d q
    ·rw [if_pos rfl]
     have:=nm.ck
     have:=nm.cq
     exact ⟨by rw [k1]; exact nm.ck,by omega,nm.z,by omega⟩
    ·rw [if_pos rfl]
     refine ⟨by rw [ne0]; exact tm.e,by rw [k1]; exact tm.kt,tm.eb,fun q=>absurd q (by decide),fun q=>absurd q (by decide),fun _ q=>absurd q (by decide),fun a _ j j0 j1 d q=>?_,fun a u=>?_,tm.fi,fun a=>(by rw [qp] at a; cases a),tm.ks⟩
     ·obtain ⟨e,q'⟩:=q3 j q
      rw [w2,ne0]
      have:=tm.us a rfl j j0 j1 d q'
      refine ⟨this.1,?_⟩
      rcases this.2 with ⟨u1,u2⟩ | u | u
      ·exact .inl ⟨u1,by omega⟩
      ·exact .inr (.inl u)
      ·exact .inr (.inr u)
     ·have:=(tm.fq a u).1; omega
    ·have:=(tm.fq q.2 q.1).1; omega
theorem TI.step (hC:C.ok) (h:TI C P c A) (hrd:c.r.rd ≤ 1000000) (r:Int) (hr:c.may C A r):TI C P (c.step C (-1) A r).1 (c.step C (-1) A r).2∧((c.step C (-1) A r).1.r.rd = c.r.rd∧leftT C (c.step C (-1) A r).1 < leftT C c ∨
  (c.step C (-1) A r).1.r.rd = c.r.rd + 1∧(c.step C (-1) A r).1.r.pc = 0∧(c.step C (-1) A r).1.r.at' = 0):=by
 have hb:=h.cl.pb
 rcases (show c.r.pc = 0 ∨ c.r.pc = 1 ∨ c.r.pc = 2 ∨ c.r.pc = 3 ∨ c.r.pc = 4 ∨ c.r.pc = 5 ∨ c.r.pc = 6 ∨ c.r.pc = 7 ∨ c.r.pc = 8 ∨ c.r.pc = 10 ∨ c.r.pc = 11 by omega) with q | q | q | q | q | q | q | q | q | q | q
 ·exact ⟨(h.s0 hC q r).1,.inl (h.s0 hC q r).2⟩
 ·exact ⟨(h.s1 hC q r).1,.inl (h.s1 hC q r).2⟩
 ·exact ⟨(h.s2 hC q r hr).1,.inl (h.s2 hC q r hr).2⟩
 ·exact ⟨(h.s3 hC q r).1,.inl (h.s3 hC q r).2⟩
 ·exact ⟨(h.s4 hC q r).1,.inl (h.s4 hC q r).2⟩
 ·exact ⟨(h.s5 hC q r).1,.inl (h.s5 hC q r).2⟩
 ·exact ⟨(h.s6 hC q r).1,.inl (h.s6 hC q r).2⟩
 ·exact ⟨(h.s7 hC q r).1,.inl (h.s7 hC q r).2⟩
 ·exact ⟨(h.s8 hC q r).1,.inl (h.s8 hC q r).2⟩
 ·exact ⟨(h.s10 hC q hrd r).1,.inl (h.s10 hC q hrd r).2⟩
 ·exact h.s11 hC q hrd r
theorem TI.fit (hC:C.ok) (h:TI C P c A) (hrd:c.r.rd ≤ 1000000):c.fit C A∧1 ≤ leftT C c∧leftT C c ≤ 3000:=by
 have hhd:=fun q=>h.head hC q
 obtain ⟨hS,nn,w64,tw,cl,nm,tm⟩:=h
 have hb:=cl.pb
 have hcc:=hS.cc
 have hC3:=hC.C
 have hT:=hC.T
 have low:=low_lt hC
 have k1:=kS_nn (C:=C) (P:=P) (w:=A.w) (s:=1)
 have k3:=kS_nn (C:=C) (P:=P) (w:=A.w) (s:=3)
 have k3l:=kS_le (C:=C) (P:=P) (w:=A.w) (s:=3) (by omega)
 have hev:0 ≤ c.r.ev∧c.r.ev ≤ 64:=by
  have h1:=nm.cq; have h2:=nm.ck; have h3:=nm.nn; have h4:=hS.k0
  split at h2 <;> omega
 have hfd:=nm.cq
 have hr:=nm.nn
 have ap:0 ≤ apA c.a∧apA c.a ≤ 10:=by
  cases e:c.a with
  | none=>decide
  | some v =>
   by_cases q:c.r.pc = 10
   ·rw [q] at cl
    have:=(cl.p10 rfl v e).2
    show 0 ≤ (if v.pc = 1 then 1 + v.at' else 10)∧(if v.pc = 1 then 1 + v.at' else 10) ≤ 10
    split <;> omega
   ·rw [cl.an q] at e; cases e
 have sp:0 ≤ spS c.s∧spS c.s ≤ 45:=by
  cases e:c.s with
  | none=>decide
  | some v =>
   by_cases q:c.r.pc = 11
   ·rw [q] at cl
    obtain ⟨⟨a0,a1⟩,hv⟩:=cl.p11 rfl
    obtain ⟨_,hDu,_,_,_,q⟩:=hv v e
    have hU:=(hS.dd _ a0 a1 hDu).2.1
    rw [sp0]
    rcases q with q | q | ⟨_,q | q⟩
    ·rw [if_pos (by omega)]; omega
    ·rw [if_pos (by omega)]; omega
    ·rw [if_neg (by omega),if_pos q.1]; omega
    ·rw [if_neg (by omega),if_neg (by omega)]; omega
   ·rw [cl.sn q] at e; cases e
 have at0:c.r.pc ≠ 10→0 ≤ c.r.at'∧(c.r.pc = 2→c.r.at' < 4)∧(c.r.pc ≠ 2→c.r.at' < C.C):=fun q=>by
  rcases (show c.r.pc = 0 ∨ c.r.pc = 1 ∨ c.r.pc = 2 ∨ c.r.pc = 3 ∨ (4 ≤ c.r.pc∧c.r.pc ≤ 8) ∨ c.r.pc = 11 by omega) with e | e | e | e | e | e
  ·have:=(cl.p0 e).1; omega
  ·have:=(cl.p1 e).1; omega
  ·have:=(cl.p2 e).1; omega
  ·have:=(cl.p3 e).1; omega
  ·have:=(cl.p8 e.1 e.2).1; omega
  ·have:=(cl.p11 e).1; omega
 have h48:4 ≤ c.r.pc→c.r.pc ≤ 5→chC c.r.w ≤ 3∧(0 ≤ c.r.pos∧C.base c.r.at' + c.r.pos < A.n)∧(chU c.r.w - c.r.pos ≤ 40∧1 ≤ chU c.r.w - c.r.pos):=fun q1 q2=>by
  obtain ⟨⟨⟨a0,a1⟩,hD⟩,⟨p0,p1⟩,pm,cb,⟨eC,eU⟩,uW,hh⟩:=hhd (by omega)
  have hb:=(base_of hC a0 a1 p0 (by omega)).2.2
  omega
 have hm5:c.r.pc = 5→c.m.fit C A:=fun q=>by
  obtain ⟨⟨⟨a0,a1⟩,hD⟩,⟨p0,p1⟩,pm,cb,⟨eC,eU⟩,uW,hh⟩:=hhd (by omega)
  obtain ⟨h2,hm⟩:=cl.p5 q
  rcases hh with u | ⟨_,u2,u3,_⟩
  ·rw [u] at h2; exact absurd h2 (by decide)
  ·rw [hm]
   exact ⟨by show (0:Int) ≤ 0∧(0:Int) ≤ 11; decide,u2,by show (0:Int) ≤ 0∧(0:Int) < 18446744073709551616; decide,by show (0:Int) ≤ 0∧(0:Int) < 18446744073709551616; decide,u3,by show (0:Int) ≤ 0∧(0:Int) ≤ 65536; decide,by show (0:Int) ≤ 0∧(0:Int) ≤ 65536; decide,nn.2,
    fun e=>absurd (show (0:Int) = 1 from e) (by decide),fun e=>absurd (show (0:Int) = 2 ∨ (0:Int) = 8 ∨ (0:Int) = 11 from e) (by decide),fun e=>absurd (show (0:Int) = 4 ∨ (0:Int) = 5 from e) (by decide),fun e=>absurd (show (0:Int) = 6 from e) (by decide),fun e=>absurd (show (0:Int) = 9 from e) (by decide),fun e=>absurd (show (0:Int) = 10 from e) (by decide)⟩
 refine ⟨⟨⟨hb.1,hb.2.1⟩,at0,fun q z=>?_,fun q=>?_,fun a b=>?_,fun a b=>(h48 a b).1,fun a b=>(h48 a b).2.1,hm5,fun v e=>?_,fun v e=>?_,⟨⟨hr.1,by omega⟩,⟨by omega,by omega⟩,⟨hr.2.1,by omega⟩⟩,by omega,by rw [nm.z.1]; decide,by rw [nm.z.2.1]; decide⟩,?_⟩
 ·rcases (show c.r.pc = 0 ∨ c.r.pc = 1 ∨ c.r.pc = 2 by omega) with e | e | e
  ·rw [if_pos e]; exact ((cl.p0 e).2 fun q=>z ⟨e,q⟩).1
  ·rw [if_neg (by omega),if_pos e]; exact (cl.p1 e).2.1
  ·rw [if_neg (by omega),if_neg (by omega)]; exact (cl.p2 e).2.1
 ·have:=(cl.p2 q).1
  have hSS:=hC.S
  rw [tw.low hC (by omega) (by omega)]
  exact hS.op _ (by omega) (by omega)
 ·rcases (show c.r.pc = 3 ∨ (4 ≤ c.r.pc∧c.r.pc ≤ 8) by omega) with e | e
  ·rw [(cl.p3 e).2.2.2]; exact w64 _
  ·rw [(cl.p8 e.1 e.2).2.2.2]; exact w64 _
 ·by_cases q:c.r.pc = 10
  ·have:=(cl.p10 q v e).2
   exact ⟨q,⟨by omega,by omega⟩,by omega,fun _=>by omega⟩
  ·rw [cl.an q] at e; cases e
 ·by_cases q:c.r.pc = 11
  ·obtain ⟨⟨a0,a1⟩,hv⟩:=cl.p11 q
   obtain ⟨u1,hDu,u3,u4,_,u6⟩:=hv v e
   have hU:=(hS.dd _ a0 a1 hDu).2.1
   refine ⟨q,⟨by omega,by omega⟩,by rw [u1]; exact ⟨a0,a1⟩,by rw [u4]; exact w64 _,fun e3=>?_⟩
   rcases u6 with q | q | ⟨_,q | q⟩
   ·omega
   ·omega
   ·have:=(base_of hC a0 a1 q.2.1.1 (by omega)).2.2
    rw [u1]; omega
   ·omega
  ·rw [cl.sn q] at e; cases e
 ·rcases (show c.r.pc = 0 ∨ c.r.pc = 1 ∨ c.r.pc = 2 ∨ c.r.pc = 3 ∨ c.r.pc = 4 ∨ c.r.pc = 5 ∨ c.r.pc = 6 ∨ c.r.pc = 7 ∨ c.r.pc = 8 ∨ c.r.pc = 10 ∨ c.r.pc = 11 by omega) with e | e | e | e | e | e | e | e | e | e | e
  ·have:=at0 (by omega); unfold leftT; rw [if_pos e]; omega
  ·have:=at0 (by omega); unfold leftT; rw [if_neg (by omega),if_pos e]; omega
  ·have:=at0 (by omega); unfold leftT; rw [if_neg (by omega),if_neg (by omega),if_pos e]; omega
  ·unfold leftT; rw [if_neg (by omega),if_neg (by omega),if_neg (by omega),if_pos e]; omega
  ·have:=h48 (by omega) (by omega); unfold leftT; rw [if_neg (by omega),if_neg (by omega),if_neg (by omega),if_neg (by omega),if_pos e]; omega
  ·have:=h48 (by omega) (by omega); unfold leftT; rw [if_neg (by omega),if_neg (by omega),if_neg (by omega),if_neg (by omega),if_neg (by omega),if_pos e]; omega
  ·unfold leftT; rw [if_neg (by omega),if_neg (by omega),if_neg (by omega),if_neg (by omega),if_neg (by omega),if_neg (by omega),if_pos e]; omega
  ·unfold leftT; rw [if_neg (by omega),if_neg (by omega),if_neg (by omega),if_neg (by omega),if_neg (by omega),if_neg (by omega),if_neg (by omega),if_pos e]; omega
  ·unfold leftT; rw [if_neg (by omega),if_neg (by omega),if_neg (by omega),if_neg (by omega),if_neg (by omega),if_neg (by omega),if_neg (by omega),if_neg (by omega),if_pos e]; omega
  ·rw [left10 e]; omega
  ·have:=at0 (by omega); rw [left11 e]; omega
end
theorem c_roundsT (hN:N.ok) (hC:C.ok) (hA:isA N A σ) {p:Nat} {O:List Nat} {c:Co} {n:Int} (hn:0 ≤ n∧n ≤ 1000) (hO:COb N p O c σ) (h0:TI C P c A) (hrd:c.r.rd ≤ 10000)
  (hk:∀ c' A' O' τ,TI C P c' A'→c'.r.rd = c.r.rd + n→(n = 0 ∨ c'.r.pc = 0∧c'.r.at' = 0)→isA N A' τ→COb N p O' c' τ→(∀ i ∈ O',i ∈ O ∨ σ.get i = none)→Keep (O ++ N.l) σ τ→K (.bool true) τ) :
  s_bn [N.env C who,.pointer (some ⟨p,0,none⟩),.int .i64 n] K σ:=by
 have hr:=h0.nm.nn
 refine c_rounds hN hC hA hn hO (fun c A=>TI C P c A) (fun c _=>leftT C c) h0 ⟨by omega,by omega⟩ (fun c1 A1 h1 a b=>?_) (fun c1 A1 r h1 a b hm=>?_) hk
 ·obtain ⟨f1,f2,f3⟩:=h1.fit hC (by omega)
  exact ⟨f1,h1.nn.1,h1.nn.2,h1.w64,f2,f3⟩
 ·exact h1.step hC (by omega) r hm
end Go.Fl
namespace Go.Fl
open Go
set_option linter.unusedVariables false
set_option linter.unusedSimpArgs false
variable {N:Nm} {A B:Ar} {σ:Mem} {K:Value→Mem→Prop} {C:Cf} {who:Int}
theorem sumN_zero {f:Int→Int}:∀ {n:Nat},(∀ i:Int,0 ≤ i→i < n→f i = 0)→sumN f n = 0
 | 0,_=>rfl
 | n + 1,h=>by show sumN f n + f n = 0; rw [sumN_zero (n:=n) fun i i0 i1=>h i i0 (by omega),h n (by omega) (by omega)]; rfl
section
variable {i:Int} {n:Nat} {dd:Int→Do} {li:Int→Bool} {w:Int→Int} {b:Bg}
theorem Dw.op (h:Dw C i n dd li w b) {k:Int} (k0:0 ≤ k) (k3:k ≤ 3):0 ≤ w (2 + k)∧w (2 + k) ≤ C.C:=by
 have:=h.aw.alo.op k k0 k3
 have:=h.aw.alo.bd
 omega
theorem Dw.chs (h:Dw C i n dd li w b) {j:Int} (j0:0 ≤ j) (j1:j < C.C):(chS (w (C.chunk j)) = 0 ∨ chS (w (C.chunk j)) = 1)∧chU (w (C.chunk j)) = b.u j∧(chS (w (C.chunk j)) = 1→j < b.nx):=by
 by_cases q:j < b.nx
 ·have:=h.aw.alo.old j j0 q
  exact ⟨.inr this.1,this.2.1,fun _=>q⟩
 ·have:=h.aw.alo.new j (by omega) j1
  rw [this.1,this.2]
  exact ⟨.inl (by decide),by decide,fun e=>absurd e (by decide)⟩
theorem Dw.ni (h:Dw C i n dd li w b) {j x:Int} (j0:0 ≤ j) (j1:j < C.C) (x0:chU (w (C.chunk j)) ≤ x) (x1:x < C.W):w (C.base j + x) = 0 :=
 h.aw.nil j x j0 j1 (by rw [← (h.chs j0 j1).2.1]; exact x0) x1
theorem Dw.gone (hC:C.ok) (h:Dw C i n dd li w b) (hi:i ≤ 1000) {k:Int} (k0:0 ≤ k) (k1:k < n) (hk:li k = false):goneH C w ((dd k).a C):=by
 obtain ⟨⟨p1,p2,p3⟩,p4,p5⟩:=h.pl k k0 k1
 have hd:=h.hd k k0 k1
 have hS:=hC.S
 have hz:=class_room' hd.2.1
 have:=hd_put (k:=2) (s:=(dd k).z) (t:=(dd k).s) (g:=(dd k).ge) (o:=(dd k).own) (by decide) (by omega) (by omega) (by omega)
 have hdead:=h.dead k k0 k1 hk
 refine .inr ?_
 rw [p5,this.1,this.2.1,this.2.2.1,this.2.2.2.1]
 exact ⟨rfl,hd.1.2.2,hd.2.1,.inl (by omega)⟩
theorem Dw.ts (hC:C.ok) (h:Dw C i n dd li w b) (hi:i ≤ 1000) (cc:C.C ≤ 8∧C.W ≤ 40) (hg:∀ k:Int,0 ≤ k→k < n→opB w 4 (dd k).j = false→li k = false) {K0 Ks r0:Int} {pn:Bool} (k0:K0 ≤ 64) (e0:0 ≤ w 0∧w 0 ≤ 1000000)
  (hpi:pn = false→∀ i,0 ≤ i→i < C.T→w (6 + i) = 0) (hpj:pn = true→C.T = 2∧w 6 = 0∧w 7 = w 0 + 1):TS C ⟨K0,Ks,r0,w 0,pn,w,fun j=>decide (0 ≤ j∧j < b.nx) && !opB w 4 j⟩:=by
 have hbd:=h.aw.alo.bd
 refine ⟨cc,fun k k0 k3=>h.op k0 k3,fun j j0 j1 hD=>?_,fun j j0 j1 hD=>?_,fun j x j0 j1 x0 x1=>h.ni j0 j1 x0 x1,hpi,hpj,e0,k0⟩
 ·simp only [Bool.and_eq_true,decide_eq_true_eq,Bool.not_eq_true'] at hD
  obtain ⟨⟨_,jn⟩,ho⟩:=hD
  have hold:=h.aw.alo.old j j0 jn
  have hum:=h.um j j0 jn
  have hz:b.lv j = 0:=by
   rw [← h.sm j j0 j1]
   refine sumN_zero fun k k0 k1=>?_
   unfold part
   rw [if_neg]
   rintro ⟨q1,q2⟩
   rw [hg k k0 k1 (by rw [q2]; exact ho)] at q1; cases q1
  show chC (w (C.chunk j)) ≤ 3∧(0 < chU (w (C.chunk j))∧chU (w (C.chunk j)) ≤ C.W)∧opB w 4 j = false∧IntKind.i64.wrap (w (C.chunk j + 1)) ≤ 0∧chS (w (C.chunk j)) = 1∧∀ x,0 ≤ x→x < chU (w (C.chunk j))→x % roomOf (chC (w (C.chunk j))) = 0→goneH C w (C.base j + x)
  refine ⟨hum.2.1,by rw [hold.2.1]; exact ⟨hum.2.2,hold.2.2.2⟩,ho,by rw [h.aw.live j j0 j1,hz]; decide,hold.1,fun x x0 x1 xm=>?_⟩
  rw [hold.2.1] at x1
  obtain ⟨k,⟨k0,k1⟩,e1,e2⟩:=h.cov j x j0 jn x0 x1 xm
  have:=h.gone hC hi k0 k1 (hg k k0 k1 (by rw [e1]; exact ho))
  rw [show (dd k).a C = C.base (dd k).j + (dd k).i from rfl,e1,e2] at this
  exact this
 ·have hc:=h.chs j0 j1
  refine ⟨fun hm=>?_,hc.1⟩
  have h1:chS (w (C.chunk j)) = 1:=hm.1
  have h2:opB w 4 j = false:=hm.2.1
  have hjn:=hc.2.2 h1
  have hD':(decide (0 ≤ j∧j < b.nx) && !opB w 4 j) = false:=hD
  rw [h2] at hD'
  simp [j0,hjn] at hD'
end
theorem TI.init (hC:C.ok) {K0 Ks:Int} {pn:Bool} {D:Int→Bool} (hS:TS C ⟨K0,Ks,0,A.w 0,pn,A.w,D⟩) (nn:C.len ≤ A.n∧(A.n:Int) ≤ 200000000) (w64:∀ i,0 ≤ A.w i∧A.w i < 18446744073709551616)
  (hK:kS C ⟨K0,Ks,0,A.w 0,pn,A.w,D⟩ A.w 1 = K0) (hKs:Ks = K0):TI C ⟨K0,Ks,0,A.w 0,pn,A.w,D⟩ Co.new A:=by
 have hs1:∀ j,0 ≤ j→j < C.C→D j = true→chS (A.w (C.chunk j)) = 1:=fun j j0 j1 d=>(hS.dd j j0 j1 d).2.2.2.2.1
 have k3:kS C ⟨K0,Ks,0,A.w 0,pn,A.w,D⟩ A.w 3 = 0:=kS_none fun j j0 j1 d q=>by rw [hs1 j j0 j1 d] at q; exact absurd q (by decide)
 have kn:=kS_nn (C:=C) (P:=⟨K0,Ks,0,A.w 0,pn,A.w,D⟩) (w:=A.w) (s:=1)
 have hCC:=hC.C
 refine TI.of (pc:=0) (at':=0) A.w rfl hS nn w64 ⟨fun _ _ _=>rfl,fun _ _ _ _ _=>⟨rfl,rfl⟩,fun _ _ _ _ _ _ _ _=>rfl,fun j j0 j1 d q=>?_,fun j x j0 j1 d q=>?_,fun j x j0 j1 d q=>?_⟩ ?_ ?_ ?_
 ·rw [hs1 j j0 j1 d] at q; rcases q with q | q <;> exact absurd q (by decide)
 ·rw [hs1 j j0 j1 d] at q; exact absurd q (by decide)
 ·rw [hs1 j j0 j1 d] at q; exact absurd q (by decide)
 ·exact ⟨by decide,fun q=>absurd q (by decide),fun _=>⟨⟨Int.le_refl 0,by omega⟩,fun q=>absurd rfl q⟩,fun q=>absurd q (by decide),fun q=>absurd q (by decide),fun q=>absurd q (by decide),fun q=>absurd q (by decide),fun q=>absurd q (by decide),fun q=>absurd q (by decide),fun _=>rfl,fun q=>absurd q (by decide),fun _=>rfl,fun j j0 j1 d q=>by rw [hs1 j j0 j1 d] at q; exact absurd q (by decide)⟩
 ·exact ⟨by rw [if_neg (by decide),hK]; show (0:Int) + 0 + K0 = K0; omega,by rw [k3]; rfl,⟨rfl,rfl,rfl⟩,⟨by decide,by decide,by decide,Int.le_refl 0,Int.le_refl 0⟩⟩
 ·refine ⟨⟨(w64 0).1,by show A.w 0 ≤ A.w 0 + (0 - 0) + _; rw [if_neg (by decide)]; omega⟩,.inl ?_,⟨Int.le_refl 0,fun q=>absurd rfl q,fun _=>rfl,fun q=>absurd q (by decide)⟩,fun q=>absurd q (by decide),fun q=>absurd q (by decide),fun _ _ j j0 j1 d q=>by rw [hs1 j j0 j1 d] at q; exact absurd q (by decide),fun _ q=>absurd q (by decide),fun _ q=>?_,fun _ q=>?_,fun _=>⟨Int.le_refl _,by show A.w 0 ≤ A.w 0 + 1; omega,rfl,fun j j0 j1 d q=>by rw [hs1 j j0 j1 d] at q; exact absurd q (by decide)⟩,?_⟩
  ·rw [if_neg (by decide),hK]; show K0 + (0 - 0) + 0 ≤ Ks; omega
  ·have:Ks + 2 ≤ (0:Int) - 0:=q; omega
  ·have:Ks + 3 ≤ (0:Int) - 0:=q; omega
  ·show 0 ≤ Ks; omega
end Go.Fl
namespace Go.Fl
open Go
set_option linter.unusedVariables false
set_option linter.unusedSimpArgs false
variable {N:Nm} {A B:Ar} {σ:Mem} {K:Value→Mem→Prop} {C:Cf} {who:Int}
section
variable {i:Int} {n:Nat} {dd:Int→Do} {li:Int→Bool} {w w':Int→Int} {b:Bg}
theorem Dw.same (hC:C.ok) (h:Dw C i n dd li w b) (aw:b.aw C w') (hs:∀ t,0 ≤ t→t < C.S→w' (C.slot t) = w (C.slot t)) (hw:∀ j x,0 ≤ j→j < C.C→0 ≤ x→x < b.u j→x < C.W→w' (C.base j + x) = w (C.base j + x)) (hc:∀ j,0 ≤ j→j < b.nx→chC (w' (C.chunk j)) = chC (w (C.chunk j))):Dw C i n dd li w' b:=by
 have hbd:=h.aw.alo.bd
 have wh:∀ k:Int,0 ≤ k→k < n→w' ((dd k).a C) = w ((dd k).a C):=fun k k0 k1=>by
  obtain ⟨⟨p1,p2,p3⟩,_⟩:=h.pl k k0 k1
  have pu:=(aw_ule hC h.aw p1.1 (by omega)).2
  have rm:=(dd k).rm0
  exact hw _ _ p1.1 (by omega) p2 (by omega) (by omega)
 refine ⟨aw,h.lv,fun s s0 s1=>by rw [hs s s0 s1]; exact h.gen s s0 s1,h.hd,fun k k0 k1 hk=>?_,fun k k0 k1 hk=>?_,h.nsl,h.ns,h.sm,h.nle,fun k k0 k1=>?_,fun j x j0 j1 x0 x1 xm=>?_,fun j j0 j1=>?_⟩
 ·have o:=h.ok k k0 k1 hk
  exact o.keep o.sF (hs _ o.s.1 o.s.2) (wh k k0 k1) (Int.le_refl _) o.lv
 ·have:=(h.hd k k0 k1).1.2.2
  rw [hs _ this.1 this.2]; exact h.dead k k0 k1 hk
 ·obtain ⟨p1,p2,p3⟩:=h.pl k k0 k1
  exact ⟨p1,by rw [hc _ p1.1.1 p1.1.2]; exact p2,by rw [wh k k0 k1]; exact p3⟩
 ·rw [hc j j0 j1] at xm; exact h.cov j x j0 j1 x0 x1 xm
 ·rw [hc j j0 j1]; exact h.um j j0 j1
end
theorem c_MakeW (hN:N.ok) (hC:C.ok) (hA:isA N A σ) {i:Int} {n:Nat} {dd:Int→Do} {li:Int→Bool} {b:Bg} {z bb:Int} {own:Bool} (hP:Pa C A bb) (hb:bb < 2305843009213693952) (h:Dw C i n dd li A.w b) (hi:i ≤ 1000) (hcl:0 ≤ classOf z)
  (k0:∀ oE oV oS A' τ,(oE = 7∧b.F = [] ∨ oE = 6∧¬ good C b.o b.u (classOf z)∧b.nx = C.C)→Dw C i n dd li A'.w b→Pa C A' (bb + 100)→A'.n = A.n→(∀ i,lowW C i→A'.w i = A.w i)→isA N A' τ→Keep N.l σ τ→K (.agg #[.int .i64 oE,.int .u64 0,.int .i64 oV,.int .i64 oS]) τ)
  (k1:∀ oV oS A' τ s F j b' d,b.F = s :: F→Got C b F (classOf z) j b'→(d.own = own∧d.j = j∧d.z = z∧d.i = b.u j)→Dw C (i + 1) (n + 1) (addD dd n d) (updB li n true) A'.w (b'.count j (roomOf (classOf z)))→Pa C A' (bb + 100)→A'.n = A.n→(∀ i,lowW C i→A'.w i = A.w i)→isA N A' τ→Keep N.l σ τ →
   K (.agg #[.int .i64 0,.int .u64 d.n,.int .i64 oV,.int .i64 oS]) τ):s_bb [N.env C who,.int .i64 z,.bool own] K σ:=by
 refine c_MakeK hN hC hA hP hb h.aw (h.lv.ok (by omega)) hcl fun m A' τ hD hP' hn hck hlo hA' hK=>?_
 have hfw:=hD.fw
 rcases hD.r with ⟨e,eH,eF,haw⟩ | ⟨s,F,hF,⟨e,eH,ng,nx,haw⟩ | ⟨e,_,j,b',hg,jb,ub,eH,haw,w1,w2,w3⟩⟩
 ·rw [eH]
  exact k0 _ _ _ A' τ (.inl ⟨e,eF⟩) (h.same hC haw (fun t t0 t1=>hfw.slot t t0 t1 fun q=>by rw [e] at q; exact absurd q (by decide)) (fun j x j0 j1 x0 x1 x2=>hfw.word j x j0 j1 x0 x1 x2) hck) hP' hn hlo hA' hK
 ·rw [eH]
  exact k0 _ _ _ A' τ (.inr ⟨e,ng,nx⟩) (h.same hC haw (fun t t0 t1=>hfw.slot t t0 t1 fun q=>by rw [e] at q; exact absurd q (by decide)) (fun j x j0 j1 x0 x1 x2=>hfw.word j x j0 j1 x0 x1 x2) hck) hP' hn hlo hA' hK
 ·rw [e,eH]
  exact k1 _ _ A' τ s F j b' (Do.mk' C b s (slG (A.w (C.slot s))) z own j) hF hg ⟨rfl,rfl,rfl,rfl⟩ (h.make hC hi hF hcl hg haw w1 w2 (hfw.mono fun _=>trivial) hck) hP' hn hlo hA' hK
theorem c_DropAn (hN:N.ok) (hC:C.ok) (hA:isA N A σ) {b:Bg} {d:Do} {bb:Int} (hP:Pa C A bb) (hb:bb < 2305843009213693952) (hAw:b.aw C A.w) (hd:d.ok C b A.w) (hlv:b.lv d.j < 18446744073709551616)
  (hk:∀ m A' τ,DnD C b d A.w A.s m A'→Pa C A' (bb + 60)→A'.n = A.n→isA N A' τ→Keep N.l σ τ→K (.agg #[.int .i64 0,.int .u64 m.d.oH,.int .i64 m.d.oV,.int .i64 m.d.oS]) τ) :
  s_bc [N.env C who,.int .u64 d.n,.bool d.own] K σ:=by
 have av:=d.av hC hd ⟨_,hAw⟩
 refine c_Drop hN hC hA (fun k m A'=>DrI C b d A.w A.s k m A'∧A'.ok (bb + k)∧A'.n = A.n∧A'.s = A.s + k) (fun m A'=>DnD C b d A.w A.s m A'∧A'.ok (bb + 60)∧A'.n = A.n∧A'.s ≤ A.s + 60)
  ⟨⟨rfl,rfl,.inl ⟨rfl,Int.le_refl 0,rfl,rfl,rfl⟩⟩,by simpa using hP.ok,rfl,by omega⟩ ?_ (fun m A' h=>by have:=h.1.kle av.2.2.1; omega) ?_
 ·rintro k m A' k0 k1 ⟨h,ok,en,es⟩
  have hkl:=h.kle av.2.2.1
  have hnn:=hP.n
  refine ⟨h.fit hC hd hAw ok.w hP.ok.w (by omega),ok.w,by omega,?_⟩
  obtain ⟨td,h'⟩:=h.step (who:=who) hC hd hAw ok (by omega) (by omega) hlv
  have t1:=td.s
  have t2:=td.n
  have t3:=td.ok _ ok
  rcases h' with ⟨e,h'⟩ | ⟨e,h'⟩
  ·rw [if_neg (by rw [e]; decide)]
   exact ⟨h',by rw [show bb + (k + 1) = bb + k + 1 by omega]; exact t3,by omega,by omega⟩
  ·rw [if_pos e]
   exact ⟨h',ok_mono t3 (by omega),by omega,by omega⟩
 ·rintro m A' τ ⟨hD,ok,en,es⟩ hA' hK
  rw [hD.e]
  have:=hP.n
  exact hk m A' τ hD (Bg.aw.pa hC hD.aw ok (by omega)) en hA' hK
theorem c_DropW (hN:N.ok) (hC:C.ok) (hG:C.G = 100) (hA:isA N A σ) {i k:Int} {n:Nat} {dd:Int→Do} {li:Int→Bool} {b:Bg} {bb:Int} (hP:Pa C A bb) (hb:bb < 2305843009213693952) (h:Dw C i n dd li A.w b) (hi:i ≤ 90) (k0:0 ≤ k) (k1:k < n) (hk:li k = true)
  (kk:∀ oH oV oS A' τ,Dw C (i + 1) n dd (updB li k false) A'.w { b.less (dd k).j (roomOf (classOf (dd k).z)) with F:=(dd k).s :: b.F }→Pa C A' (bb + 60)→A'.n = A.n→(∀ i,lowW C i→A'.w i = A.w i)→isA N A' τ→Keep N.l σ τ→K (.agg #[.int .i64 0,.int .u64 oH,.int .i64 oV,.int .i64 oS]) τ) :
  s_bc [N.env C who,.int .u64 (dd k).n,.bool (dd k).own] K σ:=by
 have o:=h.ok k k0 k1 hk
 have hlv:=h.lv.lv _ o.j.1 o.j.2
 refine c_DropAn hN hC hA hP hb h.aw o (by omega) fun m A' τ hD hP' hn' hA' hK=>?_
 refine kk _ _ _ A' τ (h.drop hC hG hi k0 k1 hk hD.fr hD.sl hD.aw) hP' hn' (fun x hx=>?_) hA' hK
 have hx':x = 0 ∨ 6 ≤ x∧x < 6 + C.T:=hx
 have hbd:=base_ge hC o.j.1 o.j.2 o.i.1
 have ea:(dd k).a C = C.base (dd k).j + (dd k).i:=rfl
 have os:=o.s
 have oj:=o.j
 have hT:=hC.T
 exact hD.fr x (by unfold Cf.slot; omega) (by omega) (by unfold Cf.slot; omega) (by unfold Cf.chunk; omega) (by omega)
end Go.Fl
namespace Go.Fl
open Go
set_option linter.unusedVariables false
set_option linter.unusedSimpArgs false
variable {N:Nm} {A B:Ar} {σ:Mem} {K:Value→Mem→Prop} {C:Cf} {who:Int}
structure Rh (N:Nm) (σ:Mem) (p n:Nat) (g:Int→Int) (τ:Mem):Prop where
 gp:τ.get p = some ⟨cells .u64 n g,true⟩
 dp:p ∉ N.l∧σ.get p = none
theorem Rh.keep {p n:Nat} {g:Int→Int} {τ υ:Mem} (h:Rh N σ p n g τ) (k:Keep N.l τ υ):Rh N σ p n g υ:=⟨k.get h.gp h.dp.1,h.dp⟩
theorem Rh.ext {p n:Nat} {g:Int→Int} {τ υ:Mem} (h:Rh N σ p n g τ) (k:Ext τ υ):Rh N σ p n g υ:=⟨k _ _ h.gp,h.dp⟩
theorem Rh.add {p n l:Nat} {g g':Int→Int} {τ:Mem} {A:Ar} (h:Rh N σ p n g τ) (hA:isA N A τ) (hE:Ext σ τ) (hn:n < 1000000) (hg:∀ i:Int,0 ≤ i→i < n→g' i = g i)
  (hk:∀ id υ,Rh N σ id (n + 1) g' υ→isA N A υ→Ext σ υ→(∀ q,q ≠ p→τ.get q ≠ none→υ.get q = τ.get q)→K (.slice (some ⟨id,0,none⟩) (n + 1) 1) υ):hAppendL 1 8 [.int .u64 (g' n)] [.slice (some ⟨p,0,none⟩) n 1,locS l 1 1] K τ:=by
 refine hAppendL_i (pre:=[]) (L:=cells .u64 n g) (by rw [List.nil_append]; exact h.gp) rfl (cells_len _ _ _) (by decide) rfl (by omega) fun id υ hid gid kp=>?_
 rw [cells_snoc hg] at gid
 refine hk id υ ⟨gid,hA.new hid,hE.none hid⟩ (hA.keep kp ?_) (hE.keep' kp fun j hj=>by rw [List.mem_singleton] at hj; subst hj; exact h.dp.2) fun q hq hn=>?_
 ·have:=h.dp.1
  simp only [Nm.l,List.mem_cons,List.not_mem_nil,or_false,not_or] at this ⊢
  exact ⟨Ne.symm this.1,Ne.symm this.2.1,Ne.symm this.2.2⟩
 ·cases e:τ.get q with
  | none=>exact absurd e hn
  | some x=>exact kp _ _ e (by simpa using hq)
theorem Rh.ld {p n:Nat} {g:Int→Int} {τ:Mem} {i:Int} (h:Rh N σ p n g τ) (i0:0 ≤ i) (i1:i < n):hLoad 1 false [.pointer (some ⟨p,i.toNat * 1,none⟩)] K τ = K (.int .u64 (g i)) τ:=ldCells h.gp i0 i1
theorem f1 {x y z w:Value} {K:Value→Prop}:xF (fFldV 1 1 false) [.agg #[x,y,z,w]] K = K y:=nr rfl
theorem bu1 {x:Int}:gBuildS 1 1 [.int .u64 0] [0] [.int .u64 x] [] = some [.int .u64 x]:=nr rfl
theorem upL_cons {i:Int} {n:Nat}:upL i (n + 1) = i :: upL (i + 1) n:=rfl
structure Aw7 (C:Cf) (k:Nat) (dd:Int→Do) (li:Int→Bool) (w:Int→Int) (b:Bg):Prop where
 dw:Dw C k k dd li w b
 F:b.F = upL k (20 - k)
 st:k = 0∧b.nx = 0∧b.o 0 = -1 ∨ (1 ≤ k∧k ≤ 6)∧b.nx = 1∧b.o 0 = 0∧b.u 0 = 3 * k ∨ k = 7∧b.nx = 2∧b.o 0 = 1
 o:∀ c,1 ≤ c→c ≤ 3→b.o c = -1
 lo:∀ i,lowW C i→w i = 0
 each:∀ l:Int,0 ≤ l→l < k→(dd l).own = false∧li l = true∧(dd l).j = (if l < 6 then 0 else 1)
theorem Aw7.next (hC:C.ok) (h4:C.C = 4) (hW:C.W = 20) {k:Nat} {dd:Int→Do} {li:Int→Bool} {w w':Int→Int} {b b':Bg} {s j:Int} {F:List Int} {d:Do} (h:Aw7 C k dd li w b) (hk:k < 7) (hF:b.F = s :: F) (hg:Got C b F 0 j b') (h1:d.own = false) (h2:d.j = j)
  (hd:Dw C (k + 1) (k + 1) (addD dd k d) (updB li k true) w' (b'.count j (roomOf 0))) (hl:∀ i,lowW C i→w' i = 0):Aw7 C (k + 1) (addD dd k d) (updB li k true) w' (b'.count j (roomOf 0)):=by
 obtain ⟨hdw,hF0,st,ho,hlo,he⟩:=h
 have eF:F = upL ((k + 1:Nat):Int) (20 - (k + 1)):=by
  rw [hF0,show 20 - k = (20 - (k + 1)) + 1 by omega,upL_cons] at hF
  have:upL ((k:Int) + 1) (20 - (k + 1)) = F:=(List.cons.inj hF).2
  rw [← this]; rfl
 have hu0:b.nx = 0→b.u 0 = 0:=fun q=>(hdw.aw.alo.new 0 (by omega) (by omega)).2
 have cs:(b'.F = F)∧((1 ≤ k + 1∧k + 1 ≤ 6)∧b'.nx = 1∧b'.o 0 = 0∧b'.u 0 = 3 * (k + 1:Nat)∧j = 0 ∨ k = 6∧b'.nx = 2∧b'.o 0 = 1∧j = 1)∧∀ c,1 ≤ c→c ≤ 3→b'.o c = b.o c:=by
  rcases hg with ⟨⟨g0,g1⟩,e,rfl⟩ | ⟨ng,nx,e,rfl⟩
  ·rw [room_0] at g1
   rcases st with ⟨_,_,q⟩ | ⟨q1,q2,q3,q4⟩ | ⟨q,_⟩
   ·omega
   ·rw [q3] at g1 e
    refine ⟨rfl,.inl ⟨by omega,q2,q3,?_,e⟩,fun _ _ _=>rfl⟩
    show upd b.u j (b.u j + roomOf 0) 0 = _
    rw [e,upd_same,room_0]; omega
   ·omega
  ·have ng':¬ (0 ≤ b.o 0∧b.u (b.o 0) + 3 ≤ C.W):=ng
   rcases st with ⟨q0,q1,q2⟩ | ⟨q1,q2,q3,q4⟩ | ⟨q,_⟩
   ·refine ⟨rfl,.inl ⟨by omega,by show b.nx + 1 = 1; omega,by show upd b.o 0 b.nx 0 = 0; rw [upd_same]; omega,?_,by omega⟩,fun c c0 _=>upd_ne _ _ (by omega)⟩
    show upd b.u j (b.u j + roomOf 0) 0 = _
    rw [e,q1,upd_same,room_0,hu0 q1]; omega
   ·rw [q3,q4] at ng'
    exact ⟨rfl,.inr ⟨by omega,by show b.nx + 1 = 2; omega,by show upd b.o 0 b.nx 0 = 1; rw [upd_same]; omega,by omega⟩,fun c c0 _=>upd_ne _ _ (by omega)⟩
   ·omega
 obtain ⟨c1,c2,c3⟩:=cs
 refine ⟨hd,by show b'.F = _; rw [c1,eF],?_,fun c c0 c1=>by show b'.o c = -1; rw [c3 c c0 c1]; exact ho c c0 c1,hl,fun l l0 l1=>?_⟩
 ·rcases c2 with ⟨q1,q2,q3,q4,_⟩ | ⟨q1,q2,q3,_⟩
  ·exact .inr (.inl ⟨q1,q2,q3,q4⟩)
  ·exact .inr (.inr ⟨by omega,q2,q3⟩)
 ·by_cases e:l = k
  ·subst e
   have a1:addD dd k d k = d:=if_pos rfl
   have a2:updB li k true k = true:=if_pos rfl
   rw [a1,a2,h2]
   refine ⟨h1,rfl,?_⟩
   rcases c2 with ⟨q1,_,_,_,q5⟩ | ⟨q1,_,_,q5⟩
   ·rw [if_pos (by omega)]; exact q5
   ·rw [if_neg (by omega)]; exact q5
  ·have a1:addD dd k d l = dd l:=if_neg e
   have a2:updB li k true l = li l:=if_neg e
   rw [a1,a2]; exact he l l0 (by omega)
structure Aw6 (C:Cf) (k:Nat) (dd:Int→Do) (li:Int→Bool) (w:Int→Int) (b:Bg):Prop where
 dw:Dw C (7 + k) 7 dd li w b
 st:b.nx = 2∧b.o 0 = 1
 o:∀ c,1 ≤ c→c ≤ 3→b.o c = -1
 lo:∀ i,lowW C i→w i = 0
 each:∀ l:Int,0 ≤ l→l < 7→(dd l).own = false∧li l = decide ((k:Int) ≤ l)∧(dd l).j = (if l < 6 then 0 else 1)
theorem Aw6.ti (hC:C.ok) (hT:C.T = 1) (h4:C.C = 4) (hW:C.W = 20) {dd:Int→Do} {li:Int→Bool} {b:Bg} (h:Aw6 C 6 dd li A.w b) (w64:∀ i,0 ≤ A.w i∧A.w i < 18446744073709551616) (nn:C.len ≤ A.n∧(A.n:Int) ≤ 200000000) :
  TI C ⟨1,1,0,A.w 0,false,A.w,fun j=>decide (0 ≤ j∧j < b.nx) && !opB A.w 4 j⟩ Co.new A∧(∀ j,0 ≤ j→j < 4→chS (A.w (C.chunk j)) = if j < 2 then 1 else 0)∧∀ j,(decide (0 ≤ j∧j < b.nx) && !opB A.w 4 j) = decide (j = 0):=by
 obtain ⟨hdw,⟨s1,s2⟩,ho,hlo,he⟩:=h
 have w2:A.w 2 = 2:=by have:=(hdw.aw.alo.op 0 (by decide) (by decide)).1; rw [s2] at this; exact this
 have w345:∀ c,1 ≤ c→c ≤ 3→A.w (2 + c) = 0:=fun c c0 c1=>by have:=(hdw.aw.alo.op c (by omega) c1).1; rw [ho c c0 c1] at this; omega
 have w3:=w345 1 (by decide) (by decide)
 have w4:=w345 2 (by decide) (by decide)
 have w5:=w345 3 (by decide) (by decide)
 rw [show (2:Int) + 1 = 3 by decide] at w3
 rw [show (2:Int) + 2 = 4 by decide] at w4
 rw [show (2:Int) + 3 = 5 by decide] at w5
 have op:∀ j,0 ≤ j→opB A.w 4 j = decide (j = 1):=fun j j0=>by
  unfold opB
  rw [w2,w3,w4,w5]
  by_cases q:j = 1
  ·subst q; decide
  ·rw [decide_eq_false q]; exact decide_eq_false (by omega)
 have hD:∀ j,(decide (0 ≤ j∧j < b.nx) && !opB A.w 4 j) = decide (j = 0):=fun j=>by
  rw [s1]
  by_cases j0:0 ≤ j
  ·rw [op j j0]
   by_cases q:j = 0
   ·subst q; decide
   ·by_cases q1:j = 1
    ·subst q1; decide
    ·simp [q,q1]; omega
  ·rw [decide_eq_false (show ¬ (0 ≤ j∧j < 2) by omega),Bool.false_and,decide_eq_false (show ¬ j = 0 by omega)]
 have hst:∀ j,0 ≤ j→j < 4→chS (A.w (C.chunk j)) = if j < 2 then 1 else 0:=fun j j0 j1=>by
  by_cases q:j < 2
  ·rw [if_pos q]; exact (hdw.aw.alo.old j j0 (by omega)).1
  ·rw [if_neg q,(hdw.aw.alo.new j (by omega) (by omega)).1]; decide
 have e0:A.w 0 = 0:=hlo 0 (.inl rfl)
 have hS:=hdw.ts hC (by omega) (by omega) (fun k k0 k1 q=>by
  have:=he k k0 k1
  rw [this.2.1]
  by_cases z:k < 6
  ·exact decide_eq_false (by omega)
  ·rw [this.2.2,if_neg z,op 1 (by decide)] at q; cases q) (K0:=1) (Ks:=1) (r0:=0) (pn:=false) (by decide) (by omega) (fun _ i i0 i1=>hlo _ (.inr ⟨by omega,by omega⟩)) (fun e=>by cases e)
 refine ⟨TI.init hC hS nn w64 ?_ rfl,hst,hD⟩
 unfold kS
 rw [h4]
 have c:=hst
 show ((cnt (fun j=>(decide (0 ≤ j∧j < b.nx) && !opB A.w 4 j) && decide (chS (A.w (C.chunk j)) = 1)) 4:Nat):Int) = 1
 rw [cnt_congr (g:=fun j=>decide (j = 0)) fun j j0 j1=>?_]
 ·decide
 ·rw [hD]
  by_cases q:j = 0
  ·subst q; rw [c 0 (by decide) (by decide)]; decide
  ·rw [decide_eq_false q,Bool.false_and]
theorem cnt4 {f:Int→Bool}:cnt f 4 = (if f 0 = true then 1 else 0) + (if f 1 = true then 1 else 0) + (if f 2 = true then 1 else 0) + (if f 3 = true then 1 else 0):=by
 show 0 + _ + _ + _ + _ = _
 rw [Nat.zero_add]; rfl
theorem c_awake14 (hk:∀ τ,Ext σ τ→K (.bool true) τ):s_bk [] K σ:=by
 simp only [s_bk,w_bk,ruS,ruL,ruE,Nat.reduceAdd,reduceIte,Int.reduceLT,Int.reduceLE,Int.reduceEq,Int.reduceNeg,Int.reduceAdd,Int.reduceSub,Nat.reduceLeDiff,Nat.reduceLT]
 have hC:(cA 1 20 4 20).ok:=cA_ok (by omega) (by omega) (by omega) (by omega)
 refine c_Arena (C:=cA 1 20 4 20) hC rfl rfl rfl fun N A τ hN hF hA hE hfr=>?_
 have hT1:(cA 1 20 4 20).T = 1:=rfl
 have hS:(cA 1 20 4 20).S = 20:=rfl
 have h4:(cA 1 20 4 20).C = 4:=rfl
 have hW:(cA 1 20 4 20).W = 20:=rfl
 have hG:(cA 1 20 4 20).G = 100:=rfl
 have hP:=(hF.pa hC).mono (show 2 * (cA 1 20 4 20).S + 2 ≤ 200 by decide)
 have dw0:=Dw.new hC hF
 have low0:∀ i,lowW (cA 1 20 4 20) i→A.w i = 0:=fun i hi=>by
  have hi':i = 0 ∨ 6 ≤ i∧i < 6 + 1:=hi
  rw [hF.w]
  unfold Cf.w0 Cf.fr
  rw [if_neg (by omega),if_neg (by unfold Cf.slot; omega),if_neg (by unfold Cf.slot; omega)]
 have hln:=len_bd hC
 have hnA:(A.n:Int) ≤ 200000:=by rw [hF.n]; omega
 generalize hCe:cA 1 20 4 20 = C at *
 clear hF
 have f2:∀ (x y z u w:Value) (K:Value→Prop),xF (fFldV 2 1 false) [.agg #[x,y,z,u,w]] K = K z:=fun _ _ _ _ _ K=>nr rfl
 simp only [gStoreE,ruS,ruL,ruE,Nat.reduceAdd,reduceIte,Int.reduceLT,Int.reduceLE,Int.reduceEq,Int.reduceNeg,Int.reduceAdd,Int.reduceSub,Nat.reduceLeDiff,Nat.reduceLT]
 refine hBuildS_i [] rfl fun p0 τ0 m0 g0 x0=>?_
 have r0:Rh N σ p0 0 (fun _=>0) τ0:=⟨g0,hA.new m0,hE.none m0⟩
 have a0:Aw7 C 0 (fun _=>⟨0,0,0,false,0,0⟩) (fun _=>false) A.w (Bg.fr C):=⟨dw0,by show upL 0 C.S.toNat = upL 0 20; rw [hS]; rfl,.inl ⟨rfl,rfl,rfl⟩,fun _ _ _=>rfl,low0,fun l l0 l1=>by omega⟩
 refine xLoop_r (fun x ts ls τ=>∃ (k:Nat) (p:Nat) (g:Int→Int) (dd:Int→Do) (li:Int→Bool) (A:Ar) (b:Bg),x = 7 - k∧ts = [.slice (some ⟨p,0,none⟩) k 1,.int .i64 k]∧ls = [N.el C 0]∧k ≤ 7∧Aw7 C k dd li A.w b∧Pa C A (1000 + 200 * k)∧(A.n:Int) ≤ 200000∧isA N A τ∧Ext σ τ∧Rh N σ p k g τ∧∀ l:Int,0 ≤ l→l < k→g l = (dd l).n) ?_ (n:=7)
  ⟨0,p0,_,_,_,A,_,rfl,rfl,rfl,by omega,a0,hP.mono (by omega),hnA,hA.ext x0,hE.trans x0,r0,fun l l0 l1=>by omega⟩
 clear a0 r0 x0 g0 m0 dw0 low0 hA hE hP hnA
 rintro x ts ls τ1 ⟨k,p,g,dd,li,A1,b,rfl,rfl,rfl,k7,hI,hP1,hn1,hA1,hE1,hr1,hgl⟩ R hR
 simp only [w_law14_awake_l7,w_law14_awake_l7b,ruS,ruL,ruE,Nat.reduceAdd,reduceIte,Int.reduceLT,Int.reduceLE,Int.reduceEq,Int.reduceNeg,Int.reduceAdd,Int.reduceSub,Nat.reduceLeDiff,Nat.reduceLT]
 by_cases ck:(k:Int) < 7
 ·simp only [ck,ruS,ruL,ruE,Nat.reduceAdd,reduceIte,Int.reduceLT,Int.reduceLE,Int.reduceEq,Int.reduceNeg,Int.reduceAdd,Int.reduceSub,Nat.reduceLeDiff,Nat.reduceLT]
  have hcl:classOf 2 = 0:=by decide
  refine c_MakeW hN hC hA1 hP1 (by omega) hI.dw (by omega) (by rw [hcl]; decide) (fun oE oV oS A' τ2 hf _ _ _ _ _ _=>?_) fun oV oS A' τ2 s F j b' d hF hg hd hdw hP2 hn2 hlo hA2 hK2=>?_
  ·exfalso
   rcases hf with ⟨_,q⟩ | ⟨_,_,q⟩
   ·rw [hI.F,show 20 - k = (19 - k) + 1 by omega,upL_cons] at q; cases q
   ·rcases hI.st with u | u | u <;> omega
  rw [hcl] at hg hdw
  have hr2:=hr1.keep hK2
  have hE2:Ext σ τ2:=hE1.keep' hK2 fun y hy=>hfr.all y hy
  simp only [f1,bu1,ruS,ruL,ruE,Nat.reduceAdd,reduceIte,Int.reduceLT,Int.reduceLE,Int.reduceEq,Int.reduceNeg,Int.reduceAdd,Int.reduceSub,Nat.reduceLeDiff,Nat.reduceLT]
  have eg:(fun l:Int=>if l = k then d.n else g l) k = d.n:=if_pos rfl
  rw [← eg]
  refine hr2.add (g':=fun l:Int=>if l = k then d.n else g l) hA2 hE2 (by omega) (fun l l0 l1=>if_neg (by omega)) fun id υ hr3 hA3 hE3 _=>?_
  rw [IntWalk.i64_in ((k:Int) + 1) (by omega)]
  refine hR (7 - (k + 1)) _ _ _ (by omega) ⟨k + 1,id,_,_,_,A',_,rfl,by simp,rfl,by omega,hI.next hC h4 hW (by omega) hF hg hd.1 hd.2.1 hdw fun i hi=>by rw [hlo i hi]; exact hI.lo i hi,hP2.mono (by omega),by rw [hn2]; exact hn1,hA3,hE3,hr3,fun l l0 l1=>?_⟩
  unfold addD
  by_cases e:l = k
  ·simp [e]
  ·simp only [if_neg e]; exact hgl l l0 (by omega)
 -- six are let go
 have hk7:k = 7:=by omega
 subst hk7
 simp only [ck,w_bk_j1,w_bk_j1b,ruS,ruL,ruE,Nat.reduceAdd,reduceIte,Int.reduceLT,Int.reduceLE,Int.reduceEq,Int.reduceNeg,Int.reduceAdd,Int.reduceSub,Nat.reduceLeDiff,Nat.reduceLT]
 have a0:Aw6 C 0 dd li A1.w b:=⟨hI.dw,by rcases hI.st with u | u | u <;> omega,hI.o,hI.lo,fun l l0 l1=>by
  have:=hI.each l l0 l1
  exact ⟨this.1,by rw [this.2.1]; exact (decide_eq_true (by omega)).symm,this.2.2⟩⟩
 refine xLoop_r (fun x ts ls τ=>∃ (m:Nat) (li:Int→Bool) (A:Ar) (b:Bg),x = 6 - m∧ts = [.slice (some ⟨p,0,none⟩) 7 1,.int .i64 m]∧ls = [N.el C 0]∧m ≤ 6∧Aw6 C m dd li A.w b∧Pa C A (5000 + 200 * m)∧(A.n:Int) ≤ 200000∧isA N A τ∧Ext σ τ∧Rh N σ p 7 g τ) ?_ (n:=6)
  ⟨0,li,A1,b,rfl,rfl,rfl,by omega,a0,hP1.mono (by omega),hn1,hA1,hE1,hr1⟩
 clear a0 hI hP1 hn1 hA1 hE1 hr1 hR ck k7 li A1 b
 rintro x ts ls τ1 ⟨m,li,A1,b,rfl,rfl,rfl,m6,hI,hP1,hn1,hA1,hE1,hr1⟩ R hR
 simp only [w_law14_awake_l11,w_law14_awake_l11b,ruS,ruL,ruE,Nat.reduceAdd,reduceIte,Int.reduceLT,Int.reduceLE,Int.reduceEq,Int.reduceNeg,Int.reduceAdd,Int.reduceSub,Nat.reduceLeDiff,Nat.reduceLT]
 by_cases cm:(m:Int) < 6
 ·have cm7:(m:Int) < ((7:Nat):Int):=by omega
  have hem:=hI.each m (by omega) (by omega)
  simp only [cm,xIxS (show 0 ≤ (m:Int) by omega) cm7,Nat.zero_add,ruS,ruL,ruE,Nat.reduceAdd,reduceIte,Int.reduceLT,Int.reduceLE,Int.reduceEq,Int.reduceNeg,Int.reduceAdd,Int.reduceSub,Nat.reduceLeDiff,Nat.reduceLT]
  rw [hr1.ld (by omega) cm7,hgl m (by omega) cm7,← hem.1]
  refine c_DropW hN hC hG hA1 hP1 (by omega) hI.dw (by omega) (by omega) cm7 (by rw [hem.2.1]; exact decide_eq_true (Int.le_refl _)) fun oH oV oS A' τ2 hdw hP2 hn2 hlo hA2 hK2=>?_
  rw [IntWalk.i64_in ((m:Int) + 1) (by omega)]
  refine hR (6 - (m + 1)) _ _ _ (by omega) ⟨m + 1,updB li m false,A',{ b.less (dd m).j (roomOf (classOf (dd m).z)) with F:=(dd m).s :: b.F },rfl,by simp,rfl,by omega,⟨by rw [show (7:Int) + ((m + 1:Nat):Int) = 7 + m + 1 by omega]; exact hdw,hI.st,hI.o,fun i hi=>by rw [hlo i hi]; exact hI.lo i hi,fun l l0 l1=>?_⟩,hP2.mono (by omega),by rw [hn2]; exact hn1,hA2,hE1.keep' hK2 fun y hy=>hfr.all y hy,hr1.keep hK2⟩
  have hel:=hI.each l l0 l1
  refine ⟨hel.1,?_,hel.2.2⟩
  unfold updB
  by_cases e:l = m
  ·rw [if_pos e]; exact (decide_eq_false (by omega)).symm
  ·rw [if_neg e,hel.2.1]
   by_cases z:(m:Int) ≤ l
   ·rw [decide_eq_true z]; exact (decide_eq_true (by omega)).symm
   ·rw [decide_eq_false z]; exact (decide_eq_false (by omega)).symm
 -- the rounds
 have hm6:m = 6:=by omega
 subst hm6
 obtain ⟨hti,hst,hD⟩:=hI.ti hC hT1 h4 hW hP1.ok.w ⟨hP1.n,by omega⟩
 simp only [cm,w_bk_j2,w_bk_j2b,ruS,ruL,ruE,Nat.reduceAdd,reduceIte,Int.reduceLT,Int.reduceLE,Int.reduceEq,Int.reduceNeg,Int.reduceAdd,Int.reduceSub,Nat.reduceLeDiff,Nat.reduceLT]
 refine c_CoNew hA1 fun q τ2 hq hco x2=>?_
 have hA2:=hA1.ext x2
 have hE2:=hE1.trans x2
 refine c_many hN hC hA2 hP1.n hP1.ok.w ?_
 have n1:cnt (fun j=>decide (chS (A1.w (C.chunk j)) = 1)) C.C.toNat = 2:=by
  rw [h4]
  show cnt _ 4 = 2
  rw [cnt4,hst 0 (by decide) (by decide),hst 1 (by decide) (by decide),hst 2 (by decide) (by decide),hst 3 (by decide) (by decide)]; decide
 rw [n1]
 simp only [ruS,ruL,ruE,Nat.reduceAdd,reduceIte,Int.reduceLT,Int.reduceLE,Int.reduceEq,Int.reduceNeg,Int.reduceAdd,Int.reduceSub,Nat.reduceLeDiff,Nat.reduceLT]
 refine c_roundsT hN hC hA2 (n:=4) (by decide) hco hti (by decide) fun c' A' O' τ3 hti' hrd hz hA3 hco' hO' hK3=>?_
 have hz':c'.r.pc = 0∧c'.r.at' = 0:=by
  rcases hz with q | q
  ·exact absurd q (by decide)
  ·exact q
 have hrd':c'.r.rd = 4:=hrd
 obtain ⟨tS,tn,t64,tw,cl,nm,tm⟩:=hti'
 have k1:kS C ⟨1,1,0,A1.w 0,false,A1.w,fun j=>decide (0 ≤ j∧j < b.nx) && !opB A1.w 4 j⟩ A'.w 1 = 0:=by
  have h1:=kS_nn (C:=C) (P:=⟨1,1,0,A1.w 0,false,A1.w,fun j=>decide (0 ≤ j∧j < b.nx) && !opB A1.w 4 j⟩) (w:=A'.w) (s:=1)
  rcases tm.kt with u | u
  ·rw [hrd',hz'.1,if_neg (by decide)] at u
   have u':kS C ⟨1,1,0,A1.w 0,false,A1.w,fun j=>decide (0 ≤ j∧j < b.nx) && !opB A1.w 4 j⟩ A'.w 1 + (4 - 0) + 0 ≤ 1:=u
   omega
  ·exact u
 have k3:=(tm.fq rfl (by rw [hrd']; show (1:Int) + 2 ≤ 4 - 0; decide)).1
 have hfd:c'.r.fd = 1:=by
  have u1:=nm.ck
  have u2:=nm.cq
  rw [hz'.1,if_neg (by decide),k1] at u1
  rw [k3] at u2
  have u1':c'.r.ev + 0 + 0 = 1:=u1
  omega
 have ck:∀ j,0 ≤ j→j < 4→chS (A'.w (C.chunk j)) = if j = 1 then 1 else 0:=fun j j0 j1=>by
  by_cases z:j = 0
  ·subst z
   have hd0:(fun j=>decide (0 ≤ j∧j < b.nx) && !opB A1.w 4 j) 0 = true:=by show (decide (0 ≤ (0:Int)∧(0:Int) < b.nx) && !opB A1.w 4 0) = true; rw [hD]; decide
   have e1:=kS_zero k1 (Int.le_refl 0) (by omega) hd0
   have e3:=kS_zero k3 (Int.le_refl 0) (by omega) hd0
   have e2:chS (A'.w (C.chunk 0)) ≠ 2:=fun u=>by have:=(cl.st2 0 (Int.le_refl 0) (by omega) hd0 u).1; omega
   have:=chS_bd (A'.w (C.chunk 0))
   rw [if_neg (by decide)]; omega
  ·have hd0:(fun j=>decide (0 ≤ j∧j < b.nx) && !opB A1.w 4 j) j = false:=by show (decide (0 ≤ j∧j < b.nx) && !opB A1.w 4 j) = false; rw [hD]; exact decide_eq_false z
   have e:=(tw.un hC j0 (by omega) hd0).1
   rw [e]
   show chS (A1.w (C.chunk j)) = _
   rw [hst j j0 j1]
   by_cases q:j = 1
   ·subst q; decide
   ·rw [if_neg (by omega),if_neg q]
 have n2:cnt (fun j=>decide (chS (A'.w (C.chunk j)) = 1)) C.C.toNat = 1:=by
  rw [h4]
  show cnt _ 4 = 1
  rw [cnt4,ck 0 (by decide) (by decide),ck 1 (by decide) (by decide),ck 2 (by decide) (by decide),ck 3 (by decide) (by decide)]; decide
 have n3:cnt (fun j=>decide (chS (A'.w (C.chunk j)) = 0)) C.C.toNat = 3:=by
  rw [h4]
  show cnt _ 4 = 3
  rw [cnt4,ck 0 (by decide) (by decide),ck 1 (by decide) (by decide),ck 2 (by decide) (by decide),ck 3 (by decide) (by decide)]; decide
 simp only [ruS,ruL,ruE,Nat.reduceAdd,reduceIte,Int.reduceLT,Int.reduceLE,Int.reduceEq,Int.reduceNeg,Int.reduceAdd,Int.reduceSub,Nat.reduceLeDiff,Nat.reduceLT]
 refine c_many hN hC hA3 tn.1 t64 ?_
 rw [n2]
 simp only [ruS,ruL,ruE,Nat.reduceAdd,reduceIte,Int.reduceLT,Int.reduceLE,Int.reduceEq,Int.reduceNeg,Int.reduceAdd,Int.reduceSub,Nat.reduceLeDiff,Nat.reduceLT]
 refine c_many hN hC hA3 tn.1 t64 ?_
 rw [n3]
 simp only [c_CoWork hco',f2,hfd,ruS,ruL,ruE,Nat.reduceAdd,reduceIte,Int.reduceLT,Int.reduceLE,Int.reduceEq,Int.reduceNeg,Int.reduceAdd,Int.reduceSub,Nat.reduceLeDiff,Nat.reduceLT]
 refine hk τ3 fun i bl hi=>?_
 have hi2:=hE2 i bl hi
 refine hK3 i bl hi2 fun hm=>?_
 rcases List.mem_append.1 hm with u | u
 ·rw [List.mem_singleton] at u; subst u
  rw [hE1 _ _ hi] at hq; cases hq
 ·rw [hfr.all i u] at hi; cases hi
end Go.Fl
namespace Go.Fl
open Go
set_option linter.unusedVariables false
set_option linter.unusedSimpArgs false
variable {C:Cf} {w:Int→Int}
structure MP where
 w0:Int→Int
 lv:Int→Bool
 g:Int→Int
 z:Int→Int
 o:Int→Bool
 L:Int→Int→Int
 N0:Int
 pd:Int
 pk:Int
variable {P:MP}
structure MS (C:Cf) (P:MP):Prop where
 cc:C.C ≤ 8∧C.W ≤ 40
 lv:∀ s,0 ≤ s→s < C.S→P.lv s = true→0 ≤ classOf (P.z s)∧(0 ≤ P.g s∧P.g s ≤ 65535)∧∀ k,0 ≤ k→k < P.z s→0 ≤ P.L s k∧P.L s k ≤ 1099511627775
 dd:∀ s,0 ≤ s→s < C.S→P.lv s = false→slS (P.w0 (C.slot s)) ≠ 1∧slS (P.w0 (C.slot s)) ≠ 4
 pk:P.pk = 0 ∨ P.pk = 1
 n0:0 ≤ P.N0∧P.N0 ≤ 1000
def MP.rm (P:MP) (s:Int):Int:=roomOf (classOf (P.z s))
def MP.hw (P:MP) (s a:Int):Int:=putHead (if a = P.pd then P.pk else 2) (P.z s) s (P.g s) (P.o s)
structure Pla (C:Cf) (P:MP) (w:Int→Int) (s a j x:Int):Prop where
 ea:a = C.base j + x
 jb:0 ≤ j∧j < C.C
 xb:0 ≤ x∧x + P.rm s ≤ chU (w (C.chunk j))
 m:x % P.rm s = 0
 c:chC (w (C.chunk j)) = classOf (P.z s)
 st:chS (w (C.chunk j)) = 1 ∨ chS (w (C.chunk j)) = 2
structure ObR (C:Cf) (P:MP) (t:Int) (w:Int→Int) (s a v:Int):Prop where
 sw:w (C.slot s) = putSlot 1 a (P.g s) v
 vb:0 ≤ v∧v ≤ t
 pl:∃ j x,Pla C P w s a j x
 hd:w a = P.hw s a
 ce:∀ k,0 ≤ k→k < P.z s→w (a + 1 + k) = putCell (P.L s k) false 0
def HdOk (C:Cf) (P:MP) (v a:Int):Prop:=hdK v = 3 ∨ (hdK v = 2∧(0 ≤ hdT v∧hdT v < C.S)∧0 ≤ classOf (hdS v)) ∨ a = P.pd∧hdK v = P.pk
structure CkOk (C:Cf) (t v:Int):Prop where
 c:chC v ≤ 3
 u:chU v ≤ C.W
 m:chU v % roomOf (chC v) = 0
 n:chN v ≤ t
 p:2 ≤ chS v→0 < chU v
structure MW (C:Cf) (P:MP) (t ms cp:Int) (w:Int→Int):Prop where
 bd:∀ i,0 ≤ w i∧w i < 18446744073709551616
 ck:∀ j,0 ≤ j→j < C.C→CkOk C t (w (C.chunk j))
 hd:∀ j x,0 ≤ j→j < C.C→(chS (w (C.chunk j)) = 1 ∨ chS (w (C.chunk j)) = 2)→0 ≤ x→x < chU (w (C.chunk j))→x % roomOf (chC (w (C.chunk j))) = 0→C.base j + x ≠ cp→HdOk C P (w (C.base j + x)) (C.base j + x)
 dd:∀ s,0 ≤ s→s < C.S→P.lv s = false→w (C.slot s) = P.w0 (C.slot s)
 lv:∀ s,0 ≤ s→s < C.S→P.lv s = true→s ≠ ms→∃ a v,ObR C P t w s a v
 op:∀ k,0 ≤ k→k ≤ 3→0 ≤ w (2 + k)∧w (2 + k) ≤ C.C
 ep:w 0 ≤ t
 pn:∀ i,0 ≤ i→i < C.T→w (6 + i) = 0
 pp:P.pd = -1 ∨ ∃ r,(0 ≤ r∧r < C.S)∧P.lv r = true∧r ≠ ms∧slA (w (C.slot r)) = P.pd
theorem MS.rm (hS:MS C P) {s:Int} (s0:0 ≤ s) (s1:s < C.S) (l:P.lv s = true):(3 ≤ P.rm s∧P.rm s ≤ 17)∧(1 ≤ P.z s∧P.z s ≤ 16)∧P.z s + 1 ≤ P.rm s:=by
 have h:=(hS.lv s s0 s1 l).1
 exact ⟨room_bd h (class_bd _).2,class_room' h⟩
theorem Pla.bd (hC:C.ok) (hS:MS C P) {s a j x:Int} (h:Pla C P w s a j x) (hu:chU (w (C.chunk j)) ≤ C.W) (s0:0 ≤ s) (s1:s < C.S) (l:P.lv s = true):(C.base 0 ≤ a∧a + P.z s < C.len)∧x + P.z s < C.W:=by
 have r:=hS.rm s0 s1 l
 have hx:=h.xb
 have b0:=base_ge hC h.jb.1 h.jb.2 hx.1
 have b1:=(base_of hC (i:=x + P.z s) h.jb.1 h.jb.2 (by omega) (by omega)).2.2
 rw [h.ea]
 have e0:C.base 0 = 6 + C.T + 2 * C.S + 3 * C.C:=by unfold Cf.base; omega
 exact ⟨⟨by omega,by omega⟩,by omega⟩
theorem Pla.apart {s a j x r y d k:Int} (h:Pla C P w s a j x) (hz:P.z s + 1 ≤ P.rm s) (h3:3 ≤ P.rm s) (hr:r = P.rm s) (hy:y % r = 0) (hd:0 ≤ d∧d < r) (hk:0 ≤ k∧k ≤ P.z s) (e:x + k = y + d):x = y:=by
 have hm:=h.m
 rw [hr] at hy hd
 have e1:(x - y) % P.rm s = 0:=by rw [Int.sub_emod,hm,hy]; rfl
 have e2:x - y = d - k:=by omega
 obtain ⟨c,hc⟩:=Int.dvd_of_emod_eq_zero e1
 have:c = 0:=by
  by_cases p:0 < c
  ·have:P.rm s * 1 ≤ P.rm s * c:=Int.mul_le_mul_of_nonneg_left (by omega) (by omega)
   omega
  ·by_cases n:c < 0
   ·have:P.rm s * c ≤ P.rm s * (-1):=Int.mul_le_mul_of_nonneg_left (by omega) (by omega)
    omega
   ·omega
 subst this
 omega
section
variable {t ms cp:Int}
theorem ObR.sl (hC:C.ok) (hS:MS C P) {s a v:Int} (h:ObR C P t w s a v) (ht:t ≤ 4194303) (hu:∀ j,0 ≤ j→j < C.C→CkOk C t (w (C.chunk j))) (s0:0 ≤ s) (s1:s < C.S) (l:P.lv s = true) :
  slS (w (C.slot s)) = 1∧slA (w (C.slot s)) = a∧slG (w (C.slot s)) = P.g s∧slV (w (C.slot s)) = v:=by
 obtain ⟨j,x,p⟩:=h.pl
 have b:=(p.bd hC hS (hu j p.jb.1 p.jb.2).u s0 s1 l).1
 have r:=hS.rm s0 s1 l
 have hl:=len_bd hC
 have hb:0 ≤ C.base 0:=by have:=base_ge hC p.jb.1 p.jb.2 p.xb.1; have:=hC.T; have:=hC.S; have:=hC.C; unfold Cf.base; omega
 have hv:=h.vb
 rw [h.sw]
 exact sl_put (by decide) (by omega) (hS.lv s s0 s1 l).2.1 (by omega)
theorem hw_hd (hC:C.ok) (hS:MS C P) {s a:Int} (s0:0 ≤ s) (s1:s < C.S) (l:P.lv s = true):hdK (P.hw s a) = (if a = P.pd then P.pk else 2)∧hdS (P.hw s a) = P.z s∧hdT (P.hw s a) = s∧hdG (P.hw s a) = P.g s∧hdO (P.hw s a) = P.o s:=by
 have r:=hS.rm s0 s1 l
 have pk:=hS.pk
 have hSS:=hC.S
 refine hd_put ?_ (by omega) (by omega) (hS.lv s s0 s1 l).2.1
 split <;> omega
theorem MW.at' (hC:C.ok) (hS:MS C P) (h:MW C P t ms cp w) (ht:t ≤ 4194303) {s a:Int} (s0:0 ≤ s) (s1:s < C.S) (l:P.lv s = true) (hm:s ≠ ms) (e:slA (w (C.slot s)) = a) :
  (hdK (w a) = (if a = P.pd then P.pk else 2)∧hdS (w a) = P.z s∧hdT (w a) = s∧hdG (w a) = P.g s∧hdO (w a) = P.o s)∧∃ v,ObR C P t w s a v:=by
 obtain ⟨a',v,o⟩:=h.lv s s0 s1 l hm
 have:=(o.sl hC hS ht h.ck s0 s1 l).2.1
 have ea:a' = a:=by omega
 subst ea
 rw [o.hd]
 exact ⟨hw_hd hC hS s0 s1 l,v,o⟩
theorem ObR.keep {t' s a v:Int} {w':Int→Int} (h:ObR C P t w s a v) (ht:t ≤ t') (hs:w' (C.slot s) = w (C.slot s)) (hc:∀ j x,Pla C P w s a j x→Pla C P w' s a j x) (hz:0 ≤ P.z s) (hw:∀ i,0 ≤ i→i ≤ P.z s→w' (a + i) = w (a + i)):ObR C P t' w' s a v:=by
 obtain ⟨j,x,p⟩:=h.pl
 refine ⟨by rw [hs]; exact h.sw,by have:=h.vb; omega,⟨j,x,hc j x p⟩,?_,fun k k0 k1=>?_⟩
 ·have:=hw 0 (Int.le_refl 0) hz
  rw [Int.add_zero] at this
  rw [this]; exact h.hd
 ·have:=hw (1 + k) (by omega) (by omega)
  rw [← Int.add_assoc] at this
  rw [this]; exact h.ce k k0 k1
theorem CkOk.mono {t' v:Int} (h:CkOk C t v) (ht:t ≤ t'):CkOk C t' v:=⟨h.c,h.u,h.m,by have:=h.n; omega,h.p⟩
theorem MW.mono {t':Int} (h:MW C P t ms cp w) (ht:t ≤ t'):MW C P t' ms cp w :=
 ⟨h.bd,fun j j0 j1=>(h.ck j j0 j1).mono ht,h.hd,h.dd,fun s s0 s1 l hm=>by
  obtain ⟨a,v,o⟩:=h.lv s s0 s1 l hm
  exact ⟨a,v,o.sw,by have:=o.vb; omega,o.pl,o.hd,o.ce⟩,h.op,by have:=h.ep; omega,h.pn,h.pp⟩
theorem MW.chunk (hC:C.ok) (hS:MS C P) {t' i v cp':Int} (h:MW C P t ms cp w) (ht:t ≤ t') (i0:0 ≤ i) (i1:i < C.C) (hv:0 ≤ v∧v < 18446744073709551616) (hck:CkOk C t' v) (hcp:cp = cp' ∨ cp = -1)
  (hh:chS v = 1 ∨ chS v = 2→∀ x,0 ≤ x→x < chU v→x % roomOf (chC v) = 0→C.base i + x ≠ cp'→HdOk C P (w (C.base i + x)) (C.base i + x))
  (ho:∀ s a x,0 ≤ s→s < C.S→P.lv s = true→s ≠ ms→slA (w (C.slot s)) = a→Pla C P w s a i x→(chS v = 1 ∨ chS v = 2)∧chC v = chC (w (C.chunk i))∧chU (w (C.chunk i)) ≤ chU v) (h4:t ≤ 4194303):MW C P t' ms cp' (upd w (C.chunk i) v):=by
 have bi:=ck_lt hC i0 i1
 have ck:∀ j,j ≠ i→upd w (C.chunk i) v (C.chunk j) = w (C.chunk j):=fun j e=>upd_ne _ _ (ck_ne e).1
 have cb:∀ j x,0 ≤ j→j < C.C→0 ≤ x→upd w (C.chunk i) v (C.base j + x) = w (C.base j + x):=fun j x j0 j1 x0=>upd_ne _ _ (by have:=base_ge hC j0 j1 x0; omega)
 have cs:∀ s,s < C.S→upd w (C.chunk i) v (C.slot s) = w (C.slot s):=fun s s1=>upd_ne _ _ (by unfold Cf.chunk Cf.slot; omega)
 have hT:=hC.T; have hSS:=hC.S
 refine ⟨w64u h.bd hv,fun j j0 j1=>?_,fun j x j0 j1 hs x0 x1 xm hne=>?_,fun s s0 s1 l=>by rw [cs s s1]; exact h.dd s s0 s1 l,fun s s0 s1 l hm=>?_,fun k k0 k1=>by rw [upd_ne _ _ (by unfold Cf.chunk; omega)]; exact h.op k k0 k1,by rw [upd_ne _ _ (by omega)]; have:=h.ep; omega,fun k k0 k1=>by rw [upd_ne _ _ (by unfold Cf.chunk; omega)]; exact h.pn k k0 k1,?_⟩
 ·by_cases e:j = i
  ·subst e; rw [upd_same]; exact hck
  ·rw [ck j e]; exact (h.ck j j0 j1).mono ht
 ·rw [cb j x j0 j1 x0]
  by_cases e:j = i
  ·subst e; rw [upd_same] at hs x1 xm; exact hh hs x x0 x1 xm hne
  ·rw [ck j e] at hs x1 xm
   refine h.hd j x j0 j1 hs x0 x1 xm ?_
   rcases hcp with q | q
   ·rw [q]; exact hne
   ·have:=base_ge hC j0 j1 x0; have:=hC.T; have:=hC.C; omega
 ·obtain ⟨a,u,o⟩:=h.lv s s0 s1 l hm
  have osl:=(o.sl hC hS h4 h.ck s0 s1 l).2.1
  obtain ⟨j,x,p⟩:=o.pl
  have b:=(p.bd hC hS (h.ck j p.jb.1 p.jb.2).u s0 s1 l).1
  have e0:C.base 0 = 6 + C.T + 2 * C.S + 3 * C.C:=by unfold Cf.base; omega
  refine ⟨a,u,o.keep ht (cs s s1) (fun k y q=>?_) (by have:=hS.rm s0 s1 l; omega) fun d d0 d1=>upd_ne _ _ (by omega)⟩
  by_cases e:k = i
  ·subst e
   obtain ⟨u1,u2,u3⟩:=ho s a y s0 s1 l hm osl q
   have qx:=q.xb
   exact ⟨q.ea,q.jb,by rw [upd_same]; omega,q.m,by rw [upd_same,u2]; exact q.c,by rw [upd_same]; exact u1⟩
  ·exact ⟨q.ea,q.jb,by rw [ck k e]; exact q.xb,q.m,by rw [ck k e]; exact q.c,by rw [ck k e]; exact q.st⟩
 ·rcases h.pp with q | ⟨r,q1,q2,q3,q4⟩
  ·exact .inl q
  ·exact .inr ⟨r,q1,q2,q3,by rw [cs r q1.2]; exact q4⟩
theorem MW.low (hC:C.ok) (hS:MS C P) {t' a v:Int} (h:MW C P t ms cp w) (ht:t ≤ t') (hv:0 ≤ v∧v < 18446744073709551616) (ha:a = 0∧v ≤ t' ∨ (∃ j,0 ≤ j∧j < C.C∧(a = C.chunk j + 1 ∨ a = C.chunk j + 2)) ∨ ∃ k,0 ≤ k∧k ≤ 3∧a = 2 + k∧v ≤ C.C):MW C P t' ms cp (upd w a v):=by
 have hT:=hC.T; have hSS:=hC.S; have hCC:=hC.C
 have e0:C.base 0 = 6 + C.T + 2 * C.S + 3 * C.C:=by unfold Cf.base; omega
 have al:0 ≤ a∧a < C.base 0:=by
  rcases ha with ⟨rfl,_⟩ | ⟨j,j0,j1,q⟩ | ⟨k,k0,k1,rfl,_⟩
  ·omega
  ·unfold Cf.chunk at q; omega
  ·omega
 have nc:∀ j,0 ≤ j→C.chunk j ≠ a:=fun j j0=>by
  rcases ha with ⟨rfl,_⟩ | ⟨k,k0,k1,q⟩ | ⟨k,k0,k1,rfl,_⟩
  ·unfold Cf.chunk; omega
  ·unfold Cf.chunk at *; omega
  ·unfold Cf.chunk; omega
 have ns:∀ s,0 ≤ s→s < C.S→C.slot s ≠ a:=fun s s0 s1=>by
  rcases ha with ⟨rfl,_⟩ | ⟨k,k0,k1,q⟩ | ⟨k,k0,k1,rfl,_⟩
  ·unfold Cf.slot; omega
  ·unfold Cf.slot; unfold Cf.chunk at q; omega
  ·unfold Cf.slot; omega
 have ck:∀ j,0 ≤ j→upd w a v (C.chunk j) = w (C.chunk j):=fun j j0=>upd_ne _ _ (nc j j0)
 have cb:∀ j x,0 ≤ j→j < C.C→0 ≤ x→upd w a v (C.base j + x) = w (C.base j + x):=fun j x j0 j1 x0=>upd_ne _ _ (by have:=base_ge hC j0 j1 x0; omega)
 refine ⟨w64u h.bd hv,fun j j0 j1=>by rw [ck j j0]; exact (h.ck j j0 j1).mono ht,fun j x j0 j1 hs x0 x1 xm hne=>?_,fun s s0 s1 l=>by rw [upd_ne _ _ (ns s s0 s1)]; exact h.dd s s0 s1 l,fun s s0 s1 l hm=>?_,fun k k0 k1=>?_,?_,fun k k0 k1=>?_,?_⟩
 ·rw [ck j j0] at hs x1 xm; rw [cb j x j0 j1 x0]; exact h.hd j x j0 j1 hs x0 x1 xm hne
 ·obtain ⟨b,u,o⟩:=h.lv s s0 s1 l hm
  obtain ⟨j,x,p⟩:=o.pl
  have bb:=(p.bd hC hS (h.ck j p.jb.1 p.jb.2).u s0 s1 l).1
  exact ⟨b,u,o.keep ht (upd_ne _ _ (ns s s0 s1)) (fun k y q=>⟨q.ea,q.jb,by rw [ck k q.jb.1]; exact q.xb,q.m,by rw [ck k q.jb.1]; exact q.c,by rw [ck k q.jb.1]; exact q.st⟩) (by have:=hS.rm s0 s1 l; omega) fun d d0 d1=>upd_ne _ _ (by omega)⟩
 ·unfold upd; split
  ·rcases ha with ⟨rfl,_⟩ | ⟨j,j0,j1,q⟩ | ⟨_,_,_,_,q⟩
   ·omega
   ·unfold Cf.chunk at q; omega
   ·exact ⟨hv.1,q⟩
  ·exact h.op k k0 k1
 ·unfold upd; split
  ·rcases ha with ⟨_,q⟩ | ⟨j,j0,j1,q⟩ | ⟨_,_,_,q,_⟩
   ·exact q
   ·unfold Cf.chunk at q; omega
   ·omega
  ·have:=h.ep; omega
 ·rw [upd_ne _ _ ?_]; exact h.pn k k0 k1
  rcases ha with ⟨rfl,_⟩ | ⟨j,j0,j1,q⟩ | ⟨_,_,_,q,_⟩
  ·omega
  ·unfold Cf.chunk at q; omega
  ·omega
 ·rcases h.pp with q | ⟨r,q1,q2,q3,q4⟩
  ·exact .inl q
  ·exact .inr ⟨r,q1,q2,q3,by rw [upd_ne _ _ (ns r q1.1 q1.2)]; exact q4⟩
theorem MW.word (hC:C.ok) (hS:MS C P) {t' i y v:Int} (h:MW C P t ms cp w) (ht:t ≤ t') (i0:0 ≤ i) (i1:i < C.C) (y0:0 ≤ y) (y1:y < C.W) (hv:0 ≤ v∧v < 18446744073709551616)
  (hh:chS (w (C.chunk i)) = 1 ∨ chS (w (C.chunk i)) = 2→y < chU (w (C.chunk i))→y % roomOf (chC (w (C.chunk i))) = 0→C.base i + y ≠ cp→HdOk C P v (C.base i + y))
  (ho:∀ s a,0 ≤ s→s < C.S→P.lv s = true→s ≠ ms→slA (w (C.slot s)) = a→∀ x,Pla C P w s a i x→¬ (x ≤ y∧y ≤ x + P.z s)) (h4:t ≤ 4194303):MW C P t' ms cp (upd w (C.base i + y) v):=by
 have hT:=hC.T; have hSS:=hC.S; have hCC:=hC.C
 have bb:=base_ge hC i0 i1 y0
 have ck:∀ j,0 ≤ j→j < C.C→upd w (C.base i + y) v (C.chunk j) = w (C.chunk j):=fun j j0 j1=>upd_ne _ _ (by have:=ck_lt hC j0 j1; omega)
 have cs:∀ s,s < C.S→upd w (C.base i + y) v (C.slot s) = w (C.slot s):=fun s s1=>upd_ne _ _ (by unfold Cf.slot; omega)
 refine ⟨w64u h.bd hv,fun j j0 j1=>by rw [ck j j0 j1]; exact (h.ck j j0 j1).mono ht,fun j x j0 j1 hs x0 x1 xm hne=>?_,fun s s0 s1 l=>by rw [cs s s1]; exact h.dd s s0 s1 l,fun s s0 s1 l hm=>?_,fun k k0 k1=>by rw [upd_ne _ _ (by omega)]; exact h.op k k0 k1,by rw [upd_ne _ _ (by omega)]; have:=h.ep; omega,fun k k0 k1=>by rw [upd_ne _ _ (by omega)]; exact h.pn k k0 k1,?_⟩
 ·rw [ck j j0 j1] at hs x1 xm
  by_cases e:C.base j + x = C.base i + y
  ·have hu:=(h.ck j j0 j1).u
   obtain ⟨rfl,rfl⟩:=base_inj hC j0 j1 x0 (by omega) i0 i1 y0 y1 e
   rw [upd_same]; exact hh hs x1 xm hne
  ·rw [upd_ne _ _ e]; exact h.hd j x j0 j1 hs x0 x1 xm hne
 ·obtain ⟨a,u,o⟩:=h.lv s s0 s1 l hm
  have osl:=(o.sl hC hS h4 h.ck s0 s1 l).2.1
  obtain ⟨j,x,p⟩:=o.pl
  have hb:=p.bd hC hS (h.ck j p.jb.1 p.jb.2).u s0 s1 l
  have px:=p.xb
  refine ⟨a,u,o.keep ht (cs s s1) (fun k x' q=>⟨q.ea,q.jb,by rw [ck k q.jb.1 q.jb.2]; exact q.xb,q.m,by rw [ck k q.jb.1 q.jb.2]; exact q.c,by rw [ck k q.jb.1 q.jb.2]; exact q.st⟩) (by have:=hS.rm s0 s1 l; omega) fun d d0 d1=>upd_ne _ _ fun e=>?_⟩
  have e':C.base j + (x + d) = C.base i + y:=by rw [← e,p.ea]; omega
  obtain ⟨rfl,rfl⟩:=base_inj hC p.jb.1 p.jb.2 (by omega) (by omega) i0 i1 y0 y1 e'
  exact ho s a s0 s1 l hm osl x p ⟨by omega,by omega⟩
 ·rcases h.pp with q | ⟨r,q1,q2,q3,q4⟩
  ·exact .inl q
  ·exact .inr ⟨r,q1,q2,q3,by rw [cs r q1.2]; exact q4⟩
theorem MW.slot (hC:C.ok) (hS:MS C P) {t' s v ms':Int} (h:MW C P t ms cp w) (ht:t ≤ t') (s0:0 ≤ s) (s1:s < C.S) (l:P.lv s = true) (hv:0 ≤ v∧v < 18446744073709551616)
  (hms:∀ r,0 ≤ r→r ≠ ms'→r ≠ s→r ≠ ms) (hms':∀ r,0 ≤ r→r ≠ ms→r ≠ s→r ≠ ms') (hpd:s ≠ ms→slA (w (C.slot s)) ≠ P.pd) (ho:s ≠ ms'→∃ a u,ObR C P t' (upd w (C.slot s) v) s a u):MW C P t' ms' cp (upd w (C.slot s) v):=by
 have hT:=hC.T; have hSS:=hC.S; have hCC:=hC.C
 have hsl:C.slot s < 6 + C.T + 2 * C.S∧6 + C.T ≤ C.slot s:=by unfold Cf.slot; omega
 have ck:∀ j,0 ≤ j→j < C.C→upd w (C.slot s) v (C.chunk j) = w (C.chunk j):=fun j j0 j1=>upd_ne _ _ (by unfold Cf.chunk; omega)
 have cb:∀ j x,0 ≤ j→j < C.C→0 ≤ x→upd w (C.slot s) v (C.base j + x) = w (C.base j + x):=fun j x j0 j1 x0=>upd_ne _ _ (by have:=base_ge hC j0 j1 x0; omega)
 have cs:∀ r,r ≠ s→upd w (C.slot s) v (C.slot r) = w (C.slot r):=fun r e=>upd_ne _ _ (by unfold Cf.slot; omega)
 have e0:C.base 0 = 6 + C.T + 2 * C.S + 3 * C.C:=by unfold Cf.base; omega
 refine ⟨w64u h.bd hv,fun j j0 j1=>by rw [ck j j0 j1]; exact (h.ck j j0 j1).mono ht,fun j x j0 j1 hs x0 x1 xm hne=>?_,fun r r0 r1 lr=>?_,fun r r0 r1 lr hm=>?_,fun k k0 k1=>by rw [upd_ne _ _ (by omega)]; exact h.op k k0 k1,by rw [upd_ne _ _ (by omega)]; have:=h.ep; omega,fun k k0 k1=>by rw [upd_ne _ _ (by omega)]; exact h.pn k k0 k1,?_⟩
 ·rw [ck j j0 j1] at hs x1 xm; rw [cb j x j0 j1 x0]; exact h.hd j x j0 j1 hs x0 x1 xm hne
 ·rw [cs r fun e=>by rw [e,l] at lr; cases lr]; exact h.dd r r0 r1 lr
 ·by_cases e:r = s
  ·subst e; exact ho hm
  ·obtain ⟨a,u,o⟩:=h.lv r r0 r1 lr (hms r r0 hm e)
   obtain ⟨j,x,p⟩:=o.pl
   have bb:=(p.bd hC hS (h.ck j p.jb.1 p.jb.2).u r0 r1 lr).1
   exact ⟨a,u,o.keep ht (cs r e) (fun k y q=>⟨q.ea,q.jb,by rw [ck k q.jb.1 q.jb.2]; exact q.xb,q.m,by rw [ck k q.jb.1 q.jb.2]; exact q.c,by rw [ck k q.jb.1 q.jb.2]; exact q.st⟩) (by have:=hS.rm r0 r1 lr; omega) fun d d0 d1=>upd_ne _ _ (by omega)⟩
 ·rcases h.pp with q | ⟨r,q1,q2,q3,q4⟩
  ·exact .inl q
  ·have e:r ≠ s:=fun e=>by subst e; exact hpd q3 q4
   exact .inr ⟨r,q1,q2,hms' r q1.1 q3 e,by rw [cs r e]; exact q4⟩
theorem MW.fin (hC:C.ok) (h:MW C P t ms cp w) (ho:∃ a u,ObR C P t w ms a u) (hh:HdOk C P (w cp) cp):MW C P t (-1) (-1) w:=by
 refine ⟨h.bd,h.ck,fun j x j0 j1 hs x0 x1 xm hne=>?_,h.dd,fun s s0 s1 l hm=>?_,h.op,h.ep,h.pn,?_⟩
 ·by_cases e:C.base j + x = cp
  ·rw [e]; exact hh
  ·exact h.hd j x j0 j1 hs x0 x1 xm e
 ·by_cases e:s = ms
  ·subst e; exact ho
  ·exact h.lv s s0 s1 l e
 ·rcases h.pp with q | ⟨r,q1,q2,q3,q4⟩
  ·exact .inl q
  ·exact .inr ⟨r,q1,q2,by omega,q4⟩
end
end Go.Fl
namespace Go.Fl
open Go
set_option linter.unusedVariables false
set_option linter.unusedSimpArgs false
variable {N:Nm} {A B:Ar} {σ:Mem} {K:Value→Mem→Prop} {C:Cf} {who:Int}
structure Cw (C:Cf) (c:Int) (w w0:Int→Int):Prop where
 o:w (2 + c) = w0 (2 + c)
 k:∀ j,0 ≤ j→j < C.C→w (C.chunk j) = w0 (C.chunk j)
theorem Cw.refl {c:Int} {w:Int→Int}:Cw C c w w:=⟨rfl,fun _ _ _=>rfl⟩
theorem Cw.trans {c:Int} {w w1 w2:Int→Int} (h:Cw C c w w1) (k:Cw C c w1 w2):Cw C c w w2:=⟨h.o.trans k.o,fun j j0 j1=>(h.k j j0 j1).trans (k.k j j0 j1)⟩
theorem Cw.upd {c a v:Int} {w w0:Int→Int} (h:Cw C c w w0) (ho:a ≠ 2 + c) (hk:∀ j,0 ≤ j→j < C.C→a ≠ C.chunk j):Cw C c (upd w a v) w0 :=
 ⟨by rw [upd_ne _ _ (Ne.symm ho)]; exact h.o,fun j j0 j1=>by rw [upd_ne _ _ (Ne.symm (hk j j0 j1))]; exact h.k j j0 j1⟩
theorem Cw.both {c a v:Int} {w w0:Int→Int} (h:Cw C c w w0):Cw C c (Go.Fl.upd w a v) (Go.Fl.upd w0 a v):=by
 refine ⟨?_,fun j j0 j1=>?_⟩
 ·unfold Go.Fl.upd; split
  ·rfl
  ·exact h.o
 ·unfold Go.Fl.upd; split
  ·rfl
  ·exact h.k j j0 j1
structure Tb (C:Cf) (c:Int) (w0:Int→Int):Prop where
 cb:0 ≤ c∧c ≤ 3
 o:0 ≤ w0 (2 + c)∧w0 (2 + c) ≤ C.C
 w:∀ j,0 ≤ j→j < C.C→0 ≤ w0 (C.chunk j)∧w0 (C.chunk j) < 18446744073709551616
 n:∀ j,0 ≤ j→j < C.C→chS (w0 (C.chunk j)) = 0→chN (w0 (C.chunk j)) < 68719476735
def gdT (C:Cf) (c:Int) (w0:Int→Int):Prop:=1 ≤ w0 (2 + c)∧chS (w0 (C.chunk (w0 (2 + c) - 1))) = 1∧chC (w0 (C.chunk (w0 (2 + c) - 1))) = c∧chU (w0 (C.chunk (w0 (2 + c) - 1))) + roomOf c ≤ C.W
def ffT (C:Cf) (w0:Int→Int) (f:Int):Prop:=(0 ≤ f∧f < C.C)∧chS (w0 (C.chunk f)) = 0∧chN (w0 (C.chunk f)) < 68719476735∧∀ j,0 ≤ j→j < f→chS (w0 (C.chunk j)) ≠ 0
def frT (c n:Int):Int:=putChunk 1 c 0 (n + 1)
def t1 (C:Cf) (c f:Int) (w0:Int→Int):Int→Int:=upd w0 (C.chunk f) (frT c (chN (w0 (C.chunk f))))
def t2 (C:Cf) (c f:Int) (w0:Int→Int):Int→Int:=upd (t1 C c f w0) (2 + c) (f + 1)
def PlG (C:Cf) (c:Int) (w0:Int→Int) (k:Int) (t:Pl) (w:Int→Int):Prop :=
 (t.cls = c∧t.ok = false)∧(
  Cw C c w w0∧(
   t.pc = 0∧t = Pl.new c∧k = 0 ∨
   t.pc = 1∧1 ≤ w0 (2 + c)∧t.opn = w0 (2 + c)∧t.at' = w0 (2 + c) - 1∧(0 ≤ t.w∧t.w < 18446744073709551616)∧k = 1 ∨
   t.pc = 2∧gdT C c w0∧(0 ≤ t.opn∧t.opn < 18446744073709551616)∧t.at' = w0 (2 + c) - 1∧t.w = w0 (C.chunk t.at')∧k = 2 ∨
   ¬ gdT C c w0∧t.opn = w0 (2 + c)∧(0 ≤ t.at'∧t.at' < C.C)∧(∀ j,0 ≤ j→j < t.at'→chS (w0 (C.chunk j)) ≠ 0)∧k ≤ 3 + t.at'∧(t.pc = 3∧(0 ≤ t.w∧t.w < 18446744073709551616) ∨ t.pc = 4∧ffT C w0 t.at'∧t.w = w0 (C.chunk t.at'))∧(t.pc = 3→k ≤ 2 + t.at')) ∨
  ¬ gdT C c w0∧∃ f,ffT C w0 f∧(
   t.pc = 5∧Cw C c w (t1 C c f w0)∧t.opn = w0 (2 + c)∧t.at' = f∧(0 ≤ t.w∧t.w < 18446744073709551616)∧k ≤ 5 + f ∨
   Cw C c w (t2 C c f w0)∧(t.pc = 0∧(0 ≤ t.opn∧t.opn < 18446744073709551616)∧(0 ≤ t.at'∧t.at' < C.C)∧(0 ≤ t.w∧t.w < 18446744073709551616)∧k ≤ 6 + f ∨
    t.pc = 1∧(0 ≤ t.opn∧t.opn < 18446744073709551616)∧t.at' = f∧(0 ≤ t.w∧t.w < 18446744073709551616)∧k ≤ 7 + f ∨
    t.pc = 2∧(0 ≤ t.opn∧t.opn < 18446744073709551616)∧t.at' = f∧t.w = frT c (chN (w0 (C.chunk f)))∧k ≤ 8 + f)))
def PlD (C:Cf) (c:Int) (w0:Int→Int) (t:Pl) (w:Int→Int):Prop :=
 t.cls = c∧(
  gdT C c w0∧t.ok = true∧t.sc = w0 (2 + c) - 1∧t.sa = C.base t.sc + chU (w0 (C.chunk t.sc))∧Cw C c w (upd w0 (C.chunk t.sc) (putChunk 1 c (chU (w0 (C.chunk t.sc)) + roomOf c) (chN (w0 (C.chunk t.sc))))) ∨
  ¬ gdT C c w0∧(∃ f,ffT C w0 f∧t.ok = true∧t.sc = f∧t.sa = C.base f∧Cw C c w (upd (t2 C c f w0) (C.chunk f) (putChunk 1 c (roomOf c) (chN (w0 (C.chunk f)) + 1)))) ∨
  ¬ gdT C c w0∧t.ok = false∧Cw C c w w0∧∀ j,0 ≤ j→j < C.C→chS (w0 (C.chunk j)) ≠ 0)
theorem PlG.new {c:Int} {w:Int→Int}:PlG C c w 0 (Pl.new c) w:=⟨⟨rfl,rfl⟩,.inl ⟨Cw.refl,.inl ⟨rfl,rfl,rfl⟩⟩⟩
theorem PlG.keep {c k:Int} {w0 w w':Int→Int} {t:Pl} (h:PlG C c w0 k t w) (x:Cw C c w' w):PlG C c w0 k t w':=by
 obtain ⟨h1,⟨h2,h3⟩ | ⟨h2,f,h3,⟨h4,h5,h6⟩ | ⟨h4,h5⟩⟩⟩:=h
 ·exact ⟨h1,.inl ⟨x.trans h2,h3⟩⟩
 ·exact ⟨h1,.inr ⟨h2,f,h3,.inl ⟨h4,x.trans h5,h6⟩⟩⟩
 ·exact ⟨h1,.inr ⟨h2,f,h3,.inr ⟨x.trans h4,h5⟩⟩⟩
theorem PlD.keep {c:Int} {w0 w w':Int→Int} {t:Pl} (h:PlD C c w0 t w) (x:Cw C c w' w):PlD C c w0 t w':=by
 obtain ⟨h0,⟨h1,h2,h3,h4,h5⟩ | ⟨h1,f,h2,h3,h4,h5,h6⟩ | ⟨h1,h2,h3,h4⟩⟩:=h
 ·exact ⟨h0,.inl ⟨h1,h2,h3,h4,x.trans h5⟩⟩
 ·exact ⟨h0,.inr (.inl ⟨h1,f,h2,h3,h4,h5,x.trans h6⟩)⟩
 ·exact ⟨h0,.inr (.inr ⟨h1,h2,x.trans h3,h4⟩)⟩
theorem PlG.kle (hC:C.ok) {c k:Int} {w0 w:Int→Int} {t:Pl} (h:PlG C c w0 k t w):k ≤ 8 + C.C:=by
 have:=hC.C
 obtain ⟨h1,⟨h2,⟨_,_,h⟩ | ⟨_,_,_,_,_,h⟩ | ⟨_,_,_,_,_,h⟩ | ⟨_,_,h3,_,h,_⟩⟩ | ⟨h2,f,h3,⟨h4,_,_,_,_,h⟩ | ⟨h4,⟨_,_,_,_,h⟩ | ⟨_,_,_,_,h⟩ | ⟨_,_,_,_,h⟩⟩⟩⟩:=h
 ·omega
 ·omega
 ·omega
 ·omega
 all_goals (have:=h3.1; omega)
theorem PlG.fit (hC:C.ok) {c k:Int} {w0 w:Int→Int} {t:Pl} (h:PlG C c w0 k t w) (hT:Tb C c w0):t.fit C∧w (2 + t.cls) ≤ C.C:=by
 have hCC:=hC.C
 have h0:=hT.cb
 have ho:=hT.o
 obtain ⟨⟨hc,_⟩,h⟩:=h
 refine ⟨⟨by rw [hc]; exact h0,?_,?_,?_⟩,?_⟩
 ·rcases h with ⟨h2,⟨_,e,h⟩ | ⟨_,_,e,_,_,h⟩ | ⟨_,_,e,_,_,h⟩ | ⟨_,e,h3,_,h,_⟩⟩ | ⟨h2,f,h3,⟨h4,_,e,_,_,h⟩ | ⟨h4,⟨_,e,_,_,h⟩ | ⟨_,e,_,_,h⟩ | ⟨_,e,_,_,h⟩⟩⟩
  ·rw [e]; exact ⟨Int.le_refl 0,(by decide:(0:Int) < 18446744073709551616)⟩
  ·omega
  ·exact e
  ·omega
  ·omega
  ·exact e
  ·exact e
  ·exact e
 ·rcases h with ⟨h2,⟨_,e,h⟩ | ⟨_,_,_,e,_,h⟩ | ⟨_,g,_,e,_,h⟩ | ⟨_,_,e,_,h,_⟩⟩ | ⟨h2,f,h3,⟨h4,_,_,e,_,h⟩ | ⟨h4,⟨_,_,e,_,h⟩ | ⟨_,_,e,_,h⟩ | ⟨_,_,e,_,h⟩⟩⟩
  ·rw [e]; exact ⟨Int.le_refl 0,by show (0:Int) < C.C; omega⟩
  ·omega
  ·have:=g.1; omega
  ·exact e
  ·rw [e]; exact h3.1
  ·exact e
  ·rw [e]; exact h3.1
  ·rw [e]; exact h3.1
 ·rcases h with ⟨h2,⟨_,e,h⟩ | ⟨_,_,_,_,e,h⟩ | ⟨_,g,_,e1,e,h⟩ | ⟨_,_,e1,_,_,⟨_,e⟩ | ⟨_,_,e⟩,_⟩⟩ | ⟨h2,f,h3,⟨h4,_,_,_,e,h⟩ | ⟨h4,⟨_,_,_,e,h⟩ | ⟨_,_,_,e,h⟩ | ⟨_,_,_,e,h⟩⟩⟩
  ·rw [e]; exact ⟨Int.le_refl 0,(by decide:(0:Int) < 18446744073709551616)⟩
  ·exact e
  ·rw [e]; exact hT.w _ (by have:=g.1; omega) (by omega)
  ·exact e
  ·rw [e]; exact hT.w _ e1.1 e1.2
  ·exact e
  ·exact e
  ·exact e
  ·rw [e]; exact putChunk_in _ _ _ _
 ·rw [hc]
  rcases h with ⟨h2,_⟩ | ⟨h2,f,h3,⟨_,h4,_⟩ | ⟨h4,_⟩⟩
  ·rw [h2.o]; exact ho.2
  ·rw [h4.o]; unfold t1; rw [upd_ne _ _ (by have:=hC.T; have:=hC.S; have:=h3.1; unfold Cf.chunk; omega)]; exact ho.2
  ·rw [h4.o]; unfold t2; rw [upd_same]; have:=h3.1; omega
def PlA (C:Cf) (c a:Int):Prop:=a = 2 + c ∨ ∃ j,0 ≤ j∧j < C.C∧a = C.chunk j
structure PlT (C:Cf) (who c:Int) (A A':Ar):Prop where
 ex:∃ a,PlA C c a∧(A' = (A.by who).load a ∨ ∃ v,(0 ≤ v∧v < 18446744073709551616)∧A' = (A.by who).store a v)
theorem PlG.step (hC:C.ok) {c k:Int} {w0:Int→Int} {t:Pl} (h:PlG C c w0 k t A.w) (hT:Tb C c w0) :
  PlT C who c A (t.step C who A).2.2∧((t.step C who A).1 = false∧PlG C c w0 (k + 1) (t.step C who A).2.1 (t.step C who A).2.2.w ∨ (t.step C who A).1 = true∧PlD C c w0 (t.step C who A).2.1 (t.step C who A).2.2.w):=by
 have hCC:=hC.C
 have h0:=hT.cb
 have ho:=hT.o
 have hW:=hC.W
 have hTT:=hC.T
 have hSS:=hC.S
 have hr:=room_bd h0.1 h0.2
 have ne1:∀ j,0 ≤ j→C.chunk j ≠ 2 + c:=fun j j0=>by unfold Cf.chunk; omega
 have inj:∀ i j,C.chunk i = C.chunk j→i = j:=fun i j e=>by unfold Cf.chunk at e; omega
 have ld:∀ a,PlA C c a→PlT C who c A ((A.by who).load a):=fun a ha=>⟨a,ha,.inl rfl⟩
 have pk:∀ j,0 ≤ j→j < C.C→PlA C c (C.chunk j):=fun j j0 j1=>.inr ⟨j,j0,j1,rfl⟩
 have po:PlA C c (2 + c):=.inl rfl
 have lw:∀ a,((A.by who).load a).w = A.w:=fun _=>rfl
 obtain ⟨⟨hc,hok⟩,h⟩:=h
 rcases h with ⟨h2,⟨p,e,hk⟩ | ⟨p,e1,e2,e3,e4,hk⟩ | ⟨p,g,e1,e2,e3,hk⟩ | ⟨g,e1,e2,e3,hk,hp,hk4⟩⟩ | ⟨g,f,hf,⟨p,h2,e1,e2,e3,hk⟩ | ⟨h2,⟨p,e1,e2,e3,hk⟩ | ⟨p,e1,e2,e3,hk⟩ | ⟨p,e1,e2,e3,hk⟩⟩⟩
 · -- look
  have hw1:IntKind.i64.wrap (A.w (2 + t.cls)) = A.w (2 + t.cls):=IntWalk.i64_in _ (by rw [hc,h2.o]; omega)
  have es:t.step C who A = (false,(if A.w (2 + t.cls) - 1 < 0 then { t with opn:=A.w (2 + t.cls),at':=0,pc:=3 } else { t with opn:=A.w (2 + t.cls),at':=A.w (2 + t.cls) - 1,pc:=1 }),(A.by who).load (2 + t.cls)):=by
   unfold Pl.step; rw [if_pos p]; dsimp only; rw [hw1]
  have tw:0 ≤ t.w∧t.w < 18446744073709551616:=by rw [e]; exact ⟨Int.le_refl 0,(by decide:(0:Int) < 18446744073709551616)⟩
  rw [es,hc]
  refine ⟨ld _ po,.inl ⟨rfl,?_⟩⟩
  rw [h2.o]
  by_cases q:w0 (2 + c) - 1 < 0
  ·rw [if_pos q]
   exact ⟨⟨by first | exact hc | rfl,hok⟩,.inl ⟨h2,.inr (.inr (.inr ⟨fun x=>by have:=x.1; omega,rfl,⟨Int.le_refl 0,by show (0:Int) < C.C; omega⟩,fun j j0 j1=>(by have:j < 0:=j1; omega),by show k + 1 ≤ 3 + 0; omega,.inl ⟨rfl,tw⟩,fun _=>by show k + 1 ≤ 2 + 0; omega⟩))⟩⟩
  ·rw [if_neg q]
   exact ⟨⟨by first | exact hc | rfl,hok⟩,.inl ⟨h2,.inr (.inl ⟨rfl,by omega,rfl,rfl,tw,by omega⟩)⟩⟩
 · -- see
  have hat:0 ≤ t.at'∧t.at' < C.C:=by omega
  have ew:A.w (C.chunk t.at') = w0 (C.chunk t.at'):=h2.k _ hat.1 hat.2
  have es:t.step C who A = (false,(if chS (A.w (C.chunk t.at')) ≠ 1 ∨ chC (A.w (C.chunk t.at')) ≠ t.cls ∨ C.W < chU (A.w (C.chunk t.at')) + roomOf t.cls then { t with w:=A.w (C.chunk t.at'),at':=0,pc:=3 } else { t with w:=A.w (C.chunk t.at'),pc:=2 }),(A.by who).load (C.chunk t.at')):=by
   unfold Pl.step; rw [if_neg (by omega),if_pos p]
  have tw:=hT.w _ hat.1 hat.2
  rw [es]
  refine ⟨ld _ (pk _ hat.1 hat.2),.inl ⟨rfl,?_⟩⟩
  rw [ew,hc]
  by_cases q:chS (w0 (C.chunk t.at')) ≠ 1 ∨ chC (w0 (C.chunk t.at')) ≠ c ∨ C.W < chU (w0 (C.chunk t.at')) + roomOf c
  ·rw [if_pos q]
   exact ⟨⟨by first | exact hc | rfl,hok⟩,.inl ⟨h2,.inr (.inr (.inr ⟨fun x=>by obtain ⟨_,x1,x2,x3⟩:=x; rw [← e3] at x1 x2 x3; omega,e2,⟨Int.le_refl 0,by show (0:Int) < C.C; omega⟩,fun j j0 j1=>(by have:j < 0:=j1; omega),by show k + 1 ≤ 3 + 0; omega,.inl ⟨rfl,tw⟩,fun _=>by show k + 1 ≤ 2 + 0; omega⟩))⟩⟩
  ·rw [if_neg q]
   exact ⟨⟨by first | exact hc | rfl,hok⟩,.inl ⟨h2,.inr (.inr (.inl ⟨rfl,⟨by omega,by rw [← e3]; omega,by rw [← e3]; omega,by rw [← e3]; omega⟩,by show 0 ≤ t.opn∧t.opn < _; omega,e3,rfl,by omega⟩))⟩⟩
 · -- get
  have hat:0 ≤ t.at'∧t.at' < C.C:=by have:=g.1; omega
  have ew:A.w (C.chunk t.at') = t.w:=by rw [h2.k _ hat.1 hat.2,e3]
  have es:t.step C who A = (true,{ t with pc:=0,sa:=C.base t.at' + chU t.w,sc:=t.at',ok:=true },(A.by who).store (C.chunk t.at') (putChunk (chS t.w) (chC t.w) (chU t.w + roomOf t.cls) (chN t.w))):=by
   unfold Pl.step; rw [if_neg (by omega),if_neg (by omega),if_pos p]
   dsimp only
   rw [if_pos ew,cas_yes (show (A.by who).w _ = _ from ew),decide_eq_true ew]
  rw [es]
  refine ⟨⟨_,pk _ hat.1 hat.2,.inr ⟨_,putChunk_in _ _ _ _,rfl⟩⟩,.inr ⟨rfl,hc,.inl ⟨g,rfl,e2,by dsimp only; rw [e3],?_⟩⟩⟩
  obtain ⟨g1,g2,g3,g4⟩:=g
  rw [← e2,← e3] at g2 g3
  dsimp only
  rw [store_w,g2,g3,hc,e3]
  exact h2.both
 ·rcases hp with ⟨p,tw⟩ | ⟨p,hf,e4⟩
  · -- scan
   have ew:A.w (C.chunk t.at') = w0 (C.chunk t.at'):=h2.k _ e2.1 e2.2
   have tw2:=hT.w _ e2.1 e2.2
   by_cases q:chS (A.w (C.chunk t.at')) ≠ 0
   ·have es:t.step C who A = (decide (C.C ≤ t.at' + 1),{ t with w:=A.w (C.chunk t.at'),at':=t.at' + 1,pc:=3 },(A.by who).load (C.chunk t.at')):=by
     unfold Pl.step; rw [if_neg (by omega),if_neg (by omega),if_neg (by omega),if_pos p]
     dsimp only
     rw [if_pos q]; rfl
    have all:∀ j,0 ≤ j→j < t.at' + 1→chS (w0 (C.chunk j)) ≠ 0:=fun j j0 j1=>by
     by_cases ej:j = t.at'
     ·rw [ej,← ew]; exact q
     ·exact e3 j j0 (by omega)
    rw [es]
    refine ⟨ld _ (pk _ e2.1 e2.2),?_⟩
    by_cases q2:C.C ≤ t.at' + 1
    ·exact .inr ⟨decide_eq_true q2,hc,.inr (.inr ⟨g,hok,h2,fun j j0 j1=>all j j0 (by omega)⟩)⟩
    ·exact .inl ⟨decide_eq_false q2,⟨by first | exact hc | rfl,hok⟩,.inl ⟨h2,.inr (.inr (.inr ⟨g,e1,⟨by dsimp only; omega,by dsimp only; omega⟩,all,by dsimp only; omega,.inl ⟨by first | rfl | exact p,by dsimp only; rw [ew]; exact tw2⟩,fun _=>by have:=hk4 p; dsimp only; omega⟩))⟩⟩
   ·have es:t.step C who A = (false,{ t with w:=A.w (C.chunk t.at'),pc:=4 },(A.by who).load (C.chunk t.at')):=by
     unfold Pl.step; rw [if_neg (by omega),if_neg (by omega),if_neg (by omega),if_pos p]
     dsimp only
     rw [if_neg q]
    rw [es]
    have q':chS (w0 (C.chunk t.at')) = 0:=by rw [← ew]; omega
    exact ⟨ld _ (pk _ e2.1 e2.2),.inl ⟨rfl,⟨by first | exact hc | rfl,hok⟩,.inl ⟨h2,.inr (.inr (.inr ⟨g,e1,e2,e3,by have:=hk4 p; dsimp only; omega,.inr ⟨rfl,⟨e2,q',hT.n _ e2.1 e2.2 q',e3⟩,ew⟩,fun x=>by have x':(4:Int) = 3:=x; omega⟩))⟩⟩⟩
  · -- take
   have ew:A.w (C.chunk t.at') = t.w:=by rw [h2.k _ e2.1 e2.2,e4]
   have es:t.step C who A = (false,{ t with pc:=5 },(A.by who).store (C.chunk t.at') t.fresh):=by
    unfold Pl.step; rw [if_neg (by omega),if_neg (by omega),if_neg (by omega),if_neg (by omega),if_pos p,if_pos ew,cas_yes (show (A.by who).w _ = _ from ew)]
   have efr:t.fresh = frT c (chN (w0 (C.chunk t.at'))):=by unfold Pl.fresh frT; rw [hc,e4]
   have tw:=hT.w _ e2.1 e2.2
   rw [es]
   refine ⟨⟨_,pk _ e2.1 e2.2,.inr ⟨_,putChunk_in _ _ _ _,rfl⟩⟩,.inl ⟨rfl,⟨by first | exact hc | rfl,hok⟩,.inr ⟨g,t.at',hf,.inl ⟨rfl,?_,e1,rfl,by show 0 ≤ t.w∧t.w < _; rw [e4]; exact tw,by omega⟩⟩⟩⟩
   dsimp only
   rw [store_w,efr]
   exact h2.both
 · -- open
  have ew:A.w (2 + t.cls) = t.opn:=by
   rw [hc,h2.o,e1]; unfold t1; rw [upd_ne _ _ (Ne.symm (ne1 _ hf.1.1))]
  have es:t.step C who A = (false,{ t with pc:=0 },(A.by who).store (2 + t.cls) (t.at' + 1)):=by
   unfold Pl.step; rw [if_neg (by omega),if_neg (by omega),if_neg (by omega),if_neg (by omega),if_neg (by omega),if_pos p,if_pos ew,cas_yes (show (A.by who).w _ = _ from ew)]
  have hf1:=hf.1
  rw [es,hc,e2]
  refine ⟨⟨_,po,.inr ⟨_,by omega,rfl⟩⟩,.inl ⟨rfl,⟨by first | exact hc | rfl,hok⟩,.inr ⟨g,f,hf,.inr ⟨?_,.inl ⟨rfl,by show 0 ≤ t.opn∧t.opn < _; omega,by dsimp only; omega,e3,by omega⟩⟩⟩⟩⟩
  dsimp only
  rw [store_w]
  exact h2.both
 · -- look
  have hf1:=hf.1
  have ew:A.w (2 + t.cls) = f + 1:=by rw [hc,h2.o]; unfold t2; rw [upd_same]
  have hw1:IntKind.i64.wrap (f + 1) = f + 1:=IntWalk.i64_in _ (by omega)
  have es:t.step C who A = (false,{ t with opn:=f + 1,at':=f,pc:=1 },(A.by who).load (2 + t.cls)):=by
   unfold Pl.step; rw [if_pos p]; dsimp only; rw [ew,hw1,if_neg (by omega),show f + 1 - 1 = f by omega]
  rw [es,hc]
  exact ⟨ld _ po,.inl ⟨rfl,⟨by first | exact hc | rfl,hok⟩,.inr ⟨g,f,hf,.inr ⟨h2,.inr (.inl ⟨rfl,by dsimp only; omega,rfl,e3,by omega⟩)⟩⟩⟩⟩
 · -- see
  have hf1:=hf.1
  have ew:A.w (C.chunk t.at') = frT c (chN (w0 (C.chunk f))):=by
   rw [e2,h2.k _ hf1.1 hf1.2]; unfold t2; rw [upd_ne _ _ (ne1 _ hf1.1)]; unfold t1; rw [upd_same]
  have hN:=chN_bd (w0 (C.chunk f))
  have hf2:=hf.2.2.1
  obtain ⟨z1,z2,z3,z4⟩:=ch_put (st:=1) (c:=c) (us:=0) (sp:=chN (w0 (C.chunk f)) + 1) (by decide) (by omega) (by decide) (by omega)
  have es:t.step C who A = (false,{ t with w:=frT c (chN (w0 (C.chunk f))),pc:=2 },(A.by who).load (C.chunk t.at')):=by
   unfold Pl.step; rw [if_neg (by omega),if_pos p]
   dsimp only
   rw [ew,if_neg]
   unfold frT; rw [z1,z2,z3,hc]; omega
  rw [es,e2]
  exact ⟨ld _ (pk _ hf1.1 hf1.2),.inl ⟨rfl,⟨by first | exact hc | rfl,hok⟩,.inr ⟨g,f,hf,.inr ⟨h2,.inr (.inr ⟨rfl,e1,by first | exact e2 | rfl,rfl,by omega⟩)⟩⟩⟩⟩
 · -- get
  have hf1:=hf.1
  have ew:A.w (C.chunk t.at') = t.w:=by
   rw [e2,e3,h2.k _ hf1.1 hf1.2]; unfold t2; rw [upd_ne _ _ (ne1 _ hf1.1)]; unfold t1; rw [upd_same]
  have hN:=chN_bd (w0 (C.chunk f))
  have hf2:=hf.2.2.1
  obtain ⟨z1,z2,z3,z4⟩:=ch_put (st:=1) (c:=c) (us:=0) (sp:=chN (w0 (C.chunk f)) + 1) (by decide) (by omega) (by decide) (by omega)
  have es:t.step C who A = (true,{ t with pc:=0,sa:=C.base t.at' + chU t.w,sc:=t.at',ok:=true },(A.by who).store (C.chunk t.at') (putChunk (chS t.w) (chC t.w) (chU t.w + roomOf t.cls) (chN t.w))):=by
   unfold Pl.step; rw [if_neg (by omega),if_neg (by omega),if_pos p]
   dsimp only
   rw [if_pos ew,cas_yes (show (A.by who).w _ = _ from ew),decide_eq_true ew]
  rw [es,e3,e2]
  unfold frT
  rw [z1,z2,z3,z4,hc]
  refine ⟨⟨_,pk _ hf1.1 hf1.2,.inr ⟨_,putChunk_in _ _ _ _,rfl⟩⟩,.inr ⟨rfl,by first | exact hc | rfl,.inr (.inl ⟨g,f,hf,rfl,rfl,by dsimp only; omega,?_⟩)⟩⟩
  dsimp only
  rw [store_w,show 0 + roomOf c = roomOf c by omega]
  exact h2.both
end Go.Fl
namespace Go.Fl
open Go
set_option linter.unusedVariables false
set_option linter.unusedSimpArgs false
variable {C:Cf} {w:Int→Int} {P:MP} {A:Ar} {who:Int}
structure Evc (C:Cf) (P:MP) (at' lim cw:Int) (w:Int→Int):Prop where
 ab:0 ≤ at'∧at' < C.C
 ecw:w (C.chunk at') = cw
 c2:chS cw = 2
 s2:∀ j,0 ≤ j→j < C.C→chS (w (C.chunk j)) = 2→j = at'
 ev:∀ r,0 ≤ r→r < C.S→P.lv r = true→∀ x,0 ≤ x→x < lim→slA (w (C.slot r)) ≠ C.base at' + x
theorem Evc.keep {at' lim cw:Int} {w':Int→Int} (h:Evc C P at' lim cw w) (hk:∀ j,0 ≤ j→j < C.C→w' (C.chunk j) = w (C.chunk j) ∨ j ≠ at'∧chS (w' (C.chunk j)) ≠ 2) (hs:∀ r,0 ≤ r→r < C.S→w' (C.slot r) = w (C.slot r) ∨ ∀ x,0 ≤ x→x < lim→slA (w' (C.slot r)) ≠ C.base at' + x):Evc C P at' lim cw w':=by
 refine ⟨h.ab,?_,h.c2,fun j j0 j1 q=>?_,fun r r0 r1 l x x0 x1=>?_⟩
 ·rcases hk at' h.ab.1 h.ab.2 with q | q
  ·rw [q]; exact h.ecw
  ·exact absurd rfl q.1
 ·rcases hk j j0 j1 with e | e
  ·rw [e] at q; exact h.s2 j j0 j1 q
  ·exact absurd q e.2
 ·rcases hs r r0 r1 with e | e
  ·rw [e]; exact h.ev r r0 r1 l x x0 x1
  ·exact e x x0 x1
structure MvC (C:Cf) (P:MP) (at' pos s:Int) (m:Mv):Prop where
 sb:0 ≤ s∧s < C.S
 l:P.lv s = true
 con:m.a.addr = C.base at' + pos∧m.a.hk = 2∧m.a.hz = P.z s∧m.a.hs = s∧m.a.hg = P.g s∧m.a.ho = P.o s
 nn:m.a.nn = 0
structure Mv0 (C:Cf) (P:MP) (T at' pos cw q:Int) (m:Mv) (w:Int→Int):Prop where
 em:m = Mv.new (C.base at' + pos) (hdK (w (C.base at' + pos))) (hdS (w (C.base at' + pos))) (hdT (w (C.base at' + pos))) (hdG (w (C.base at' + pos))) (hdO (w (C.base at' + pos)))
 k:hdK (w (C.base at' + pos)) = 2
 t:0 ≤ hdT (w (C.base at' + pos))∧hdT (w (C.base at' + pos)) < C.S
 c:0 ≤ classOf (hdS (w (C.base at' + pos)))
 mw:MW C P (T - q) (-1) (-1) w
 ev:Evc C P at' pos cw w
 x:0 ≤ pos∧pos < C.W
 qb:17 + C.C + 3 * hdS (w (C.base at' + pos)) ≤ q
structure Mv1 (C:Cf) (P:MP) (T at' pos cw s v q:Int) (m:Mv) (w u:Int→Int) (k:Int):Prop where
 pc:m.a.pc = 1
 got:m.a.got = false
 mw:MW C P (T - q) (-1) (-1) u
 ob:ObR C P (T - q) u s (C.base at' + pos) v
 pa:Pla C P u s (C.base at' + pos) at' pos
 np:C.base at' + pos ≠ P.pd
 aw:m.a.w = putSlot 1 (C.base at' + pos) (P.g s) v
 ev:Evc C P at' pos cw u
 off:∀ i,i ≠ 2 + classOf (P.z s)→(∀ j,0 ≤ j→j < C.C→i ≠ C.chunk j)→w i = u i
 pl:PlG C (classOf (P.z s)) u k m.t w
 i:m.a.i = 0
 cell:m.a.cell = 0
 bd:∀ i,0 ≤ w i∧w i < 18446744073709551616
 kb:0 ≤ k∧16 + C.C + 3 * P.z s - k ≤ q
structure Spot (C:Cf) (P:MP) (at' s sa sc xs:Int) (w:Int→Int):Prop where
 esa:sa = C.base sc + xs
 j:0 ≤ sc∧sc < C.C
 ne:sc ≠ at'
 x:0 ≤ xs∧xs + P.rm s ≤ chU (w (C.chunk sc))
 m:xs % P.rm s = 0
 c:chC (w (C.chunk sc)) = classOf (P.z s)
 st:chS (w (C.chunk sc)) = 1
 nu:∀ r,0 ≤ r→r < C.S→P.lv r = true→r ≠ s→slA (w (C.slot r)) ≠ sa
 np:sa ≠ P.pd
def cpd (C:Cf) (P:MP) (s sa i:Int) (w:Int→Int):Prop:=∀ k,0 ≤ k→k < i→w (sa + 1 + k) = putCell (P.L s k) false 0
structure Mv2 (C:Cf) (P:MP) (T at' pos cw s v xs q:Int) (m:Mv) (w:Int→Int):Prop where
 got:m.a.got = true
 vb:0 ≤ v∧v ≤ T - q
 aw:m.a.w = putSlot 1 (C.base at' + pos) (P.g s) v
 ha:w (C.base at' + pos) = putHead 2 (P.z s) s (P.g s) (P.o s)
 pa:Pla C P w s (C.base at' + pos) at' pos
 uW:chU (w (C.chunk at')) ≤ C.W∧chU (w (C.chunk m.a.sc)) ≤ C.W
 sp:Spot C P at' s m.a.sa m.a.sc xs w
 ev:Evc C P at' pos cw w
 ib:0 ≤ m.a.i∧m.a.i ≤ P.z s
 cb:0 ≤ m.a.cell∧m.a.cell < 18446744073709551616
 ph:(m.a.pc = 2 ∨ m.a.pc = 3∧w m.a.sa = putHead 1 (P.z s) s (P.g s) (P.o s))∧MW C P (T - q) (-1) m.a.sa w∧ObR C P (T - q) w s (C.base at' + pos) v∧8 + 3 * P.z s - m.a.pc ≤ q ∨
  w m.a.sa = putHead 1 (P.z s) s (P.g s) (P.o s)∧MW C P (T - q) s m.a.sa w∧(
   w (C.slot s) = putSlot 2 (C.base at' + pos) (P.g s) v∧cpd C P s m.a.sa m.a.i w∧(
    m.a.pc = 4∧m.a.i < P.z s∧(∀ k,m.a.i ≤ k→k < P.z s→w (C.base at' + pos + 1 + k) = putCell (P.L s k) false 0)∧4 + 3 * (P.z s - m.a.i) ≤ q ∨
    m.a.pc = 5∧m.a.i < P.z s∧(∀ k,m.a.i ≤ k→k < P.z s→w (C.base at' + pos + 1 + k) = putCell (P.L s k) false 0)∧m.a.cell = putCell (P.L s m.a.i) false 0∧3 + 3 * (P.z s - m.a.i) ≤ q ∨
    m.a.pc = 6∧m.a.i < P.z s∧(∀ k,m.a.i + 1 ≤ k→k < P.z s→w (C.base at' + pos + 1 + k) = putCell (P.L s k) false 0)∧m.a.cell = putCell (P.L s m.a.i) false 0∧2 + 3 * (P.z s - m.a.i) ≤ q ∨
    m.a.pc = 7∧m.a.i = P.z s∧4 ≤ q) ∨
   m.a.pc = 8∧w (C.slot s) = putSlot 1 m.a.sa (P.g s) (v + 1)∧cpd C P s m.a.sa (P.z s) w∧3 ≤ q) ∨
  (m.a.pc = 9 ∨ m.a.pc = 10)∧MW C P (T - q) (-1) (-1) w∧slA (w (C.slot s)) = m.a.sa∧11 - m.a.pc ≤ q
def gone' (C:Cf) (P:MP) (a:Int) (w:Int→Int):Prop:=∀ r,0 ≤ r→r < C.S→P.lv r = true→slA (w (C.slot r)) ≠ a
theorem Mv0.step (hC:C.ok) (hS:MS C P) {T at' pos cw q:Int} {m:Mv} (h:Mv0 C P T at' pos cw q m A.w) (hT:T ≤ 4194000) :
  (m.step C who A).2.2 = (A.by who).load (C.slot m.a.hs)∧((m.step C who A).1 = true∧(m.step C who A).2.1.a.out = 2∧gone' C P (C.base at' + pos) A.w ∨
   (m.step C who A).1 = false∧∃ s v,MvC C P at' pos s (m.step C who A).2.1∧Mv1 C P T at' pos cw s v (q - 1) (m.step C who A).2.1 A.w A.w 0):=by
 have hS':=h.mw
 have hq:=h.qb
 have hz:=(class_room' h.c).1
 have hCC:=hC.C
 have ht:T - q ≤ 4194303:=by omega
 have pk:=hS.pk
 have npd:C.base at' + pos ≠ P.pd ∨ True:=.inr trivial
 have e0:m.a.pc = 0:=by rw [h.em]; rfl
 have eg:m.a.got = false:=by rw [h.em]; rfl
 have es:m.a.hs = hdT (A.w (C.base at' + pos)):=by rw [h.em]; rfl
 have eG:m.a.hg = hdG (A.w (C.base at' + pos)):=by rw [h.em]; rfl
 have ea:m.a.addr = C.base at' + pos:=by rw [h.em]; rfl
 have hs0:0 ≤ m.a.hs∧m.a.hs < C.S:=by rw [es]; exact h.t
 -- who is told live
 have dead:P.lv m.a.hs = false→slS (A.w (C.slot m.a.hs)) ≠ 1∧slS (A.w (C.slot m.a.hs)) ≠ 4:=fun l=>by
  rw [h.mw.dd _ hs0.1 hs0.2 l]; exact hS.dd _ hs0.1 hs0.2 l
 have live:P.lv m.a.hs = true→∃ a v,ObR C P (T - q) A.w m.a.hs a v∧slS (A.w (C.slot m.a.hs)) = 1∧slA (A.w (C.slot m.a.hs)) = a∧slG (A.w (C.slot m.a.hs)) = P.g m.a.hs∧slV (A.w (C.slot m.a.hs)) = v:=fun l=>by
  obtain ⟨a,v,o⟩:=h.mw.lv _ hs0.1 hs0.2 l (by omega)
  exact ⟨a,v,o,o.sl hC hS ht h.mw.ck hs0.1 hs0.2 l⟩
 have n4:slS (A.w (C.slot m.a.hs)) ≠ 4:=by
  cases l:P.lv m.a.hs with
  | false=>exact (dead l).2
  | true=>obtain ⟨a,v,o,u,_⟩:=live l; omega
 have nv:slS (A.w (C.slot m.a.hs)) = 1→slV (A.w (C.slot m.a.hs)) ≤ T - q∧P.lv m.a.hs = true:=fun u=>by
  cases l:P.lv m.a.hs with
  | false=>exact absurd u (dead l).1
  | true=>obtain ⟨a,v,o,u1,u2,u3,u4⟩:=live l; have:=o.vb; exact ⟨by omega,rfl⟩
 unfold Mv.step
 rw [if_pos e0,if_neg (fun q=>n4 q.1)]
 by_cases c2:slS (A.w (C.slot m.a.hs)) ≠ 1 ∨ slG (A.w (C.slot m.a.hs)) ≠ m.a.hg ∨ slA (A.w (C.slot m.a.hs)) ≠ m.a.addr
 ·rw [if_pos c2]
  refine ⟨rfl,.inl ⟨by dsimp only; rw [eg]; rfl,rfl,fun r r0 r1 l e=>?_⟩⟩
  obtain ⟨⟨_,_,f3,f4,_⟩,v,o⟩:=h.mw.at' hC hS ht r0 r1 l (by omega) e
  have er:r = m.a.hs:=by rw [es]; exact f3.symm
  subst er
  obtain ⟨a,v,o,u1,u2,u3,u4⟩:=live l
  rcases c2 with c | c | c
  ·exact c u1
  ·exact c (by rw [u3,eG]; exact f4.symm)
  ·exact c (by rw [ea]; exact e)
 ·rw [if_neg c2]
  have b1:slS (A.w (C.slot m.a.hs)) = 1:=Decidable.byContradiction fun q=>c2 (.inl q)
  have b2:slG (A.w (C.slot m.a.hs)) = m.a.hg:=Decidable.byContradiction fun q=>c2 (.inr (.inl q))
  have b3:slA (A.w (C.slot m.a.hs)) = m.a.addr:=Decidable.byContradiction fun q=>c2 (.inr (.inr q))
  obtain ⟨nv1,l⟩:=nv b1
  have v3:¬ 4194302 ≤ slV (A.w (C.slot m.a.hs)):=by omega
  rw [if_neg v3,if_neg (by rw [eg]; simp)]
  obtain ⟨⟨f1,f2,f3,f4,f5⟩,v,o⟩:=h.mw.at' hC hS ht hs0.1 hs0.2 l (by omega) (b3.trans ea)
  have np:C.base at' + pos ≠ P.pd:=fun e=>by rw [if_pos e,h.k] at f1; omega
  obtain ⟨j,x,p⟩:=o.pl
  have pb:=p.bd hC hS (h.mw.ck j p.jb.1 p.jb.2).u hs0.1 hs0.2 l
  have rr:=hS.rm hs0.1 hs0.2 l
  obtain ⟨rfl,rfl⟩:=base_inj hC h.ev.ab.1 h.ev.ab.2 h.x.1 h.x.2 p.jb.1 p.jb.2 p.xb.1 (by omega) p.ea
  refine ⟨rfl,.inr ⟨rfl,m.a.hs,v,⟨hs0,l,⟨ea,by rw [h.em]; exact h.k,?_,rfl,?_,?_⟩,by rw [h.em]; rfl⟩,⟨rfl,eg,h.mw.mono (by omega),?_,p,np,o.sw,h.ev,fun _ _ _=>rfl,?_,by rw [h.em]; rfl,by rw [h.em]; rfl,h.mw.bd,Int.le_refl 0,by rw [← f2]; omega⟩⟩⟩
  ·rw [← f2,h.em]; rfl
  ·rw [← f4,h.em]; rfl
  ·rw [← f5,h.em]; rfl
  ·exact o.keep (by omega) rfl (fun _ _ q=>q) (by omega) fun _ _ _=>rfl
  ·rw [← f2]
   show PlG C _ A.w 0 (Pl.new (classOf m.a.hz)) A.w
   rw [show m.a.hz = hdS (A.w (C.base at' + pos)) by rw [h.em]; rfl]
   exact PlG.new
end Go.Fl
namespace Go.Fl
open Go
set_option linter.unusedVariables false
set_option linter.unusedSimpArgs false
variable {C:Cf} {w:Int→Int} {P:MP} {A:Ar} {who:Int}
theorem Cw.eq {c:Int} {w X u:Int→Int} (h:Cw C c w X) (h1:∀ i,i ≠ 2 + c→(∀ j,0 ≤ j→j < C.C→i ≠ C.chunk j)→w i = u i) (h2:∀ i,i ≠ 2 + c→(∀ j,0 ≤ j→j < C.C→i ≠ C.chunk j)→X i = u i):w = X:=by
 funext i
 by_cases e:i = 2 + c
 ·rw [e]; exact h.o
 ·by_cases q:∃ j,(0 ≤ j∧j < C.C)∧i = C.chunk j
  ·obtain ⟨j,⟨j0,j1⟩,rfl⟩:=q; exact h.k j j0 j1
  ·have q':∀ j,0 ≤ j→j < C.C→i ≠ C.chunk j:=fun j j0 j1 e=>q ⟨j,⟨j0,j1⟩,e⟩
   rw [h1 i e q',h2 i e q']
theorem MW.tb (hC:C.ok) {t ms cp c:Int} (h:MW C P t ms cp w) (ht:t ≤ 4194303) (hc:0 ≤ c∧c ≤ 3):Tb C c w :=
 ⟨hc,h.op c hc.1 hc.2,fun j j0 j1=>h.bd _,fun j j0 j1 _=>by have:=(h.ck j j0 j1).n; omega⟩
theorem MW.get1 (hC:C.ok) (hS:MS C P) {t t' c j:Int} (h:MW C P t (-1) (-1) w) (ht:t ≤ t') (h4:t' ≤ 4194303) (hc:0 ≤ c∧c ≤ 3) (j0:0 ≤ j) (j1:j < C.C) (h1:chS (w (C.chunk j)) = 1) (h2:chC (w (C.chunk j)) = c) (h3:chU (w (C.chunk j)) + roomOf c ≤ C.W) :
  MW C P t' (-1) (C.base j + chU (w (C.chunk j))) (upd w (C.chunk j) (putChunk 1 c (chU (w (C.chunk j)) + roomOf c) (chN (w (C.chunk j))))):=by
 have r:=room_bd hc.1 hc.2
 have k:=h.ck j j0 j1
 have u:=chU_bd (w (C.chunk j))
 have n:=chN_bd (w (C.chunk j))
 have hW:=hC.W
 obtain ⟨v1,v2,v3,v4⟩:=ch_put (st:=1) (c:=c) (us:=chU (w (C.chunk j)) + roomOf c) (sp:=chN (w (C.chunk j))) (by decide) (by omega) (by omega) n
 have km:=k.m
 rw [h2] at km
 have kn:=k.n
 refine h.chunk hC hS ht j0 j1 (putChunk_in _ _ _ _) ⟨by rw [v2]; exact hc.2,by rw [v3]; exact h3,by rw [v3,v2,Int.add_emod_right]; exact km,by rw [v4]; omega,fun q=>by rw [v1] at q; omega⟩ (.inr rfl) (fun _ x x0 x1 xm hne=>?_) (fun s a x s0 s1 l _ e p=>?_) (by omega)
 ·rw [v3] at x1
  rw [v2] at xm
  by_cases q:x < chU (w (C.chunk j))
  ·exact h.hd j x j0 j1 (.inl h1) x0 q (by rw [h2]; exact xm) (by have:=base_ge hC j0 j1 x0; have:=hC.T; have:=hC.S; have:=hC.C; omega)
  ·exfalso
   refine hne ?_
   have e1:(x - chU (w (C.chunk j))) % roomOf c = 0:=by rw [Int.sub_emod,xm,km]; rfl
   rw [Int.emod_eq_of_lt (by omega) (by omega)] at e1
   omega
 ·rw [v1,v2,v3]; exact ⟨.inl rfl,h2.symm,by omega⟩
theorem MW.get2 (hC:C.ok) (hS:MS C P) {t t' c f:Int} (h:MW C P t (-1) (-1) w) (ht:t + 1 ≤ t') (h4:t' ≤ 4194303) (hc:0 ≤ c∧c ≤ 3) (j0:0 ≤ f) (j1:f < C.C) (h1:chS (w (C.chunk f)) = 0) :
  MW C P t' (-1) (C.base f) (upd (t2 C c f w) (C.chunk f) (putChunk 1 c (roomOf c) (chN (w (C.chunk f)) + 1))):=by
 have r:=room_bd hc.1 hc.2
 have n:=(h.ck f j0 j1).n
 have n0:=chN_bd (w (C.chunk f))
 have hW:=hC.W; have hCC:=hC.C
 obtain ⟨a1,a2,a3,a4⟩:=ch_put (st:=1) (c:=c) (us:=0) (sp:=chN (w (C.chunk f)) + 1) (by decide) (by omega) (by omega) (by omega)
 obtain ⟨v1,v2,v3,v4⟩:=ch_put (st:=1) (c:=c) (us:=roomOf c) (sp:=chN (w (C.chunk f)) + 1) (by decide) (by omega) (by omega) (by omega)
 have g1:MW C P t' (-1) (-1) (t1 C c f w):=h.chunk hC hS (by omega) j0 j1 (putChunk_in _ _ _ _) ⟨by unfold frT; rw [a2]; exact hc.2,by unfold frT; rw [a3]; omega,by unfold frT; rw [a3,Int.zero_emod],by unfold frT; rw [a4]; omega,fun q=>by unfold frT at q; rw [a1] at q; omega⟩ (.inl rfl)
  (fun _ x x0 x1=>by unfold frT at x1; rw [a3] at x1; omega) (fun s a x s0 s1 l _ e p=>by have:=p.st; omega) (by omega)
 have g2:MW C P t' (-1) (-1) (t2 C c f w):=g1.low hC hS (Int.le_refl _) (by omega) (.inr (.inr ⟨c,hc.1,hc.2,rfl,by omega⟩))
 have ef:t2 C c f w (C.chunk f) = frT c (chN (w (C.chunk f))):=by unfold t2 t1; rw [upd_ne _ _ (by have:=hC.T; have:=hC.S; unfold Cf.chunk; omega),upd_same]
 refine g2.chunk hC hS (Int.le_refl _) j0 j1 (putChunk_in _ _ _ _) ⟨by rw [v2]; exact hc.2,by rw [v3]; omega,by rw [v3,v2,Int.emod_self],by rw [v4]; omega,fun q=>by rw [v1] at q; omega⟩ (.inr rfl) (fun _ x x0 x1 xm hne=>?_) (fun s a x s0 s1 l _ e p=>?_) h4
 ·rw [v3] at x1
  rw [v2] at xm
  rw [Int.emod_eq_of_lt x0 x1] at xm
  rw [xm,Int.add_zero] at hne
  exact absurd rfl hne
 ·have:=hS.rm s0 s1 l
  have px:=p.xb
  rw [ef] at px
  unfold frT at px
  rw [a3] at px
  omega
theorem Mv1.step (hC:C.ok) (hS:MS C P) {T at' pos cw s v q k:Int} {m:Mv} {u:Int→Int} (hc:MvC C P at' pos s m) (h:Mv1 C P T at' pos cw s v q m A.w u k) (hT:T ≤ 4194000) (hq:1 ≤ q) :
  PlT C who (classOf (P.z s)) A (m.step C who A).2.2∧((m.step C who A).1 = false∧MvC C P at' pos s (m.step C who A).2.1∧((∃ k',Mv1 C P T at' pos cw s v (q - 1) (m.step C who A).2.1 (m.step C who A).2.2.w u k') ∨ ∃ xs,Mv2 C P T at' pos cw s v xs (q - 1) (m.step C who A).2.1 (m.step C who A).2.2.w) ∨
   (m.step C who A).1 = true∧(m.step C who A).2.1.a.out = 4∧(m.step C who A).2.2.w = u):=by
 have rr:=hS.rm hc.sb.1 hc.sb.2 hc.l
 have hcl:0 ≤ classOf (P.z s)∧classOf (P.z s) ≤ 3:=⟨(hS.lv s hc.sb.1 hc.sb.2 hc.l).1,(class_bd _).2⟩
 have tb:=h.mw.tb hC (c:=classOf (P.z s)) (by omega) hcl
 have hk:=h.kb
 have kle:=h.pl.kle hC
 obtain ⟨tt,hres⟩:=h.pl.step (who:=who) hC tb
 have pcs:m.a.pc = 1:=h.pc
 have got:=h.got
 -- the other words
 have off':∀ i,i ≠ 2 + classOf (P.z s)→(∀ j,0 ≤ j→j < C.C→i ≠ C.chunk j)→(m.t.step C who A).2.2.w i = u i:=fun i i0 i1=>by
  obtain ⟨a,ha,e | ⟨y,_,e⟩⟩:=tt.ex
  ·rw [e]; exact h.off i i0 i1
  ·rw [e,store_w,upd_ne _ _ ?_]
   ·exact h.off i i0 i1
   ·rcases ha with rfl | ⟨j,j0,j1,rfl⟩
    ·exact i0
    ·exact i1 j j0 j1
 have bd':∀ i,0 ≤ (m.t.step C who A).2.2.w i∧(m.t.step C who A).2.2.w i < 18446744073709551616:=by
  obtain ⟨a,ha,e | ⟨y,yb,e⟩⟩:=tt.ex
  ·rw [e]; exact h.bd
  ·rw [e]; exact w64u h.bd yb
 have es:m.step C who A = if (m.t.step C who A).1 = false then (false,{ m with t:=(m.t.step C who A).2.1 },(m.t.step C who A).2.2)
  else if (m.t.step C who A).2.1.ok = true then (false,⟨{ m.a with sa:=(m.t.step C who A).2.1.sa,sc:=(m.t.step C who A).2.1.sc,got:=true,pc:=2 },(m.t.step C who A).2.1⟩,(m.t.step C who A).2.2)
  else (true,⟨({ m.a with sa:=0,sc:=0,got:=false,pc:=2 }:Mo).endm 4,(m.t.step C who A).2.1⟩,(m.t.step C who A).2.2):=by
  unfold Mv.step; rw [if_neg (by omega),if_pos pcs]
 rw [es]
 rcases hres with ⟨b,hg⟩ | ⟨b,hd⟩
 ·rw [if_pos b]
  refine ⟨tt,.inl ⟨rfl,⟨hc.sb,hc.l,hc.con,hc.nn⟩,.inl ⟨k + 1,pcs,got,h.mw.mono (by omega),?_,h.pa,h.np,h.aw,h.ev,off',hg,h.i,h.cell,bd',by omega⟩⟩⟩
  exact h.ob.keep (by omega) rfl (fun _ _ q=>q) (by omega) fun _ _ _=>rfl
 ·have b':¬ (m.t.step C who A).1 = false:=by rw [b]; simp
  rw [if_neg b']
  have hT3:=hC.T; have hS3:=hC.S; have hC3:=hC.C
  have lowc:∀ j,0 ≤ j→C.chunk j ≠ 2 + classOf (P.z s):=fun j j0=>by unfold Cf.chunk; omega
  have at0:=h.ev.ab
  have c2:chS (u (C.chunk at')) = 2:=by rw [h.ev.ecw]; exact h.ev.c2
  have pax:=h.pa.xb
  have ukat:=(h.mw.ck at' at0.1 at0.2).u
  have pb:=h.pa.bd hC hS ukat hc.sb.1 hc.sb.2 hc.l
  have e0:C.base 0 = 6 + C.T + 2 * C.S + 3 * C.C:=by unfold Cf.base; omega
  -- who has words has a place of its own
  have fin:∀ (j xs:Int) (X:Int→Int),(0 ≤ j∧j < C.C)→chS (u (C.chunk j)) ≠ 2→(0 ≤ xs∧xs < C.W)→(m.t.step C who A).2.1.sa = C.base j + xs→(m.t.step C who A).2.1.sc = j→(m.t.step C who A).2.2.w = X→(∀ i,i ≠ 2 + classOf (P.z s)→i ≠ C.chunk j→X i = u i) →
    MW C P (T - (q - 1)) (-1) (C.base j + xs) X→xs + P.rm s ≤ chU (X (C.chunk j))→xs % P.rm s = 0→chC (X (C.chunk j)) = classOf (P.z s)→chS (X (C.chunk j)) = 1→(chS (u (C.chunk j)) = 0 ∨ chU (u (C.chunk j)) ≤ xs) →
    Mv2 C P T at' pos cw s v xs (q - 1) ⟨{ m.a with sa:=(m.t.step C who A).2.1.sa,sc:=(m.t.step C who A).2.1.sc,got:=true,pc:=2 },(m.t.step C who A).2.1⟩ (m.t.step C who A).2.2.w:=by
   intro j xs X hj hj2 hxs esa esc eX eo hmw x1 x2 x3 x4 x5
   rw [esa,esc,eX]
   have ne:j ≠ at':=fun e=>hj2 (by rw [e]; exact c2)
   have xs_:∀ r,0 ≤ r→r < C.S→X (C.slot r) = u (C.slot r):=fun r r0 r1=>eo _ (by unfold Cf.slot; omega) (by unfold Cf.slot Cf.chunk; omega)
   have xc:∀ i,i ≠ j→0 ≤ i→X (C.chunk i) = u (C.chunk i):=fun i e i0=>eo _ (lowc i i0) (ck_ne e).1
   have xb:∀ i y,0 ≤ i→i < C.C→0 ≤ y→X (C.base i + y) = u (C.base i + y):=fun i y i0 i1 y0=>eo _ (by have:=base_ge hC i0 i1 y0; omega) (by have:=base_ge hC i0 i1 y0; have:=ck_lt hC hj.1 hj.2; omega)
   have xa:∀ d,0 ≤ d→X (C.base at' + pos + d) = u (C.base at' + pos + d):=fun d d0=>by rw [Int.add_assoc]; exact xb _ _ at0.1 at0.2 (by omega)
   have nu':∀ r,0 ≤ r→r < C.S→P.lv r = true→slA (u (C.slot r)) ≠ C.base j + xs:=fun r r0 r1 l e=>by
    obtain ⟨_,v',o⟩:=h.mw.at' hC hS (by omega) r0 r1 l (by omega) e
    obtain ⟨j',x',p⟩:=o.pl
    have px:=p.xb
    have pu:=(h.mw.ck j' p.jb.1 p.jb.2).u
    have prm:=hS.rm r0 r1 l
    obtain ⟨e1,e2⟩:=base_inj hC hj.1 hj.2 hxs.1 hxs.2 p.jb.1 p.jb.2 px.1 (by omega) p.ea
    subst e1
    rcases x5 with q | q
    ·have:=p.st; omega
    ·omega
   refine ⟨rfl,by have:=h.ob.vb; omega,h.aw,?_,⟨rfl,at0,?_,h.pa.m,?_,?_⟩,?_,⟨rfl,hj,ne,⟨hxs.1,x1⟩,x2,x3,x4,fun r r0 r1 l _=>by rw [xs_ r r0 r1]; exact nu' r r0 r1 l,?_⟩,?_,?_,?_,.inl ⟨.inl rfl,hmw,?_,by show 8 + 3 * P.z s - 2 ≤ q - 1; omega⟩⟩
   ·have:=xa 0 (Int.le_refl 0)
    rw [Int.add_zero] at this
    rw [this,h.ob.hd]; unfold MP.hw; rw [if_neg h.np]
   ·rw [xc at' (Ne.symm ne) at0.1]; exact pax
   ·rw [xc at' (Ne.symm ne) at0.1]; exact h.pa.c
   ·rw [xc at' (Ne.symm ne) at0.1]; exact h.pa.st
   ·exact ⟨(hmw.ck at' at0.1 at0.2).u,(hmw.ck j hj.1 hj.2).u⟩
   ·intro e
    rcases h.mw.pp with q | ⟨r,q1,q2,q3,q4⟩
    ·have e':C.base j + xs = P.pd:=e
     have:=base_ge hC hj.1 hj.2 hxs.1; omega
    ·exact nu' r q1.1 q1.2 q2 (by rw [q4]; exact e.symm)
   ·refine h.ev.keep (fun i i0 i1=>?_) fun r r0 r1=>.inl (xs_ r r0 r1)
    by_cases e:i = j
    ·exact .inr ⟨by rw [e]; exact ne,by rw [e,x4]; decide⟩
    ·exact .inl (xc i e i0)
   ·show 0 ≤ m.a.i∧m.a.i ≤ P.z s
    rw [h.i]; omega
   ·show 0 ≤ m.a.cell∧m.a.cell < _
    rw [h.cell]; decide
   ·refine h.ob.keep (by omega) (xs_ s hc.sb.1 hc.sb.2) (fun i y p=>?_) (by omega) fun d d0 _=>xa d d0
    have pe:=p.xb
    have pu:=(h.mw.ck i p.jb.1 p.jb.2).u
    obtain ⟨e1,e2⟩:=base_inj hC at0.1 at0.2 pax.1 (by omega) p.jb.1 p.jb.2 pe.1 (by omega) p.ea
    have ei:i ≠ j:=by omega
    exact ⟨p.ea,p.jb,by rw [xc i ei p.jb.1]; exact p.xb,p.m,by rw [xc i ei p.jb.1]; exact p.c,by rw [xc i ei p.jb.1]; exact p.st⟩
  obtain ⟨_,⟨g,ok,e1,e2,e3⟩ | ⟨g,f,hf,ok,e1,e2,e3⟩ | ⟨g,ok,e1,e2⟩⟩:=hd
  ·rw [if_pos ok]
   have g1:0 ≤ (m.t.step C who A).2.1.sc∧(m.t.step C who A).2.1.sc < C.C:=by have:=h.mw.op _ hcl.1 hcl.2; have:=g.1; omega
   obtain ⟨_,g2,g3,g4⟩:=g
   rw [← e1] at g2 g3 g4
   have kk:=h.mw.ck _ g1.1 g1.2
   have km:=kk.m
   rw [g3] at km
   have ub:=chU_bd (u (C.chunk (m.t.step C who A).2.1.sc))
   have hX:=e3.eq off' (fun i i0 i1=>upd_ne _ _ (i1 _ g1.1 g1.2))
   have hm:=h.mw.get1 (t':=T - (q - 1)) hC hS (by omega) (by omega) hcl g1.1 g1.2 g2 g3 g4
   obtain ⟨v1,v2,v3,_⟩:=ch_put (st:=1) (c:=classOf (P.z s)) (us:=chU (u (C.chunk (m.t.step C who A).2.1.sc)) + roomOf (classOf (P.z s))) (sp:=chN (u (C.chunk (m.t.step C who A).2.1.sc))) (by decide) (by omega) (by have:=room_bd hcl.1 hcl.2; have:=hS.cc; omega) (chN_bd _)
   refine ⟨tt,.inl ⟨rfl,⟨hc.sb,hc.l,hc.con,hc.nn⟩,.inr ⟨_,fin _ _ _ g1 (by rw [g2]; decide) ⟨ub.1,by have:=rr.1; unfold MP.rm at this; omega⟩ e2 rfl hX (fun i i0 i1=>upd_ne _ _ i1) hm ?_ km ?_ ?_ (.inr (Int.le_refl _))⟩⟩⟩
   ·rw [upd_same,v3]; exact Int.le_refl _
   ·rw [upd_same,v2]
   ·rw [upd_same,v1]
  ·rw [if_pos ok]
   obtain ⟨f1,f2,f3,f4⟩:=hf
   have hX:=e3.eq off' (fun i i0 i1=>by rw [upd_ne _ _ (i1 _ f1.1 f1.2)]; unfold t2 t1; rw [upd_ne _ _ i0,upd_ne _ _ (i1 _ f1.1 f1.2)])
   have hm:=h.mw.get2 (t':=T - (q - 1)) hC hS (by omega) (by omega) hcl f1.1 f1.2 f2
   obtain ⟨v1,v2,v3,_⟩:=ch_put (st:=1) (c:=classOf (P.z s)) (us:=roomOf (classOf (P.z s))) (sp:=chN (u (C.chunk f)) + 1) (by decide) (by omega) (by have:=room_bd hcl.1 hcl.2; omega) (by have:=(h.mw.ck f f1.1 f1.2).n; have:=chN_bd (u (C.chunk f)); omega)
   refine ⟨tt,.inl ⟨rfl,⟨hc.sb,hc.l,hc.con,hc.nn⟩,.inr ⟨0,fin f 0 _ f1 (by rw [f2]; decide) ⟨Int.le_refl 0,by have:=hC.W; omega⟩ (by rw [Int.add_zero]; exact e2) e1 hX (fun i i0 i1=>by rw [upd_ne _ _ i1]; unfold t2 t1; rw [upd_ne _ _ i0,upd_ne _ _ i1]) (by rw [Int.add_zero]; exact hm) ?_ (Int.zero_emod _) ?_ ?_ (.inl f2)⟩⟩⟩
   ·rw [upd_same,v3]; unfold MP.rm; omega
   ·rw [upd_same,v2]
   ·rw [upd_same,v1]
  ·have ok':¬ (m.t.step C who A).2.1.ok = true:=by rw [ok]; simp
   rw [if_neg ok']
   exact ⟨tt,.inr ⟨rfl,rfl,e1.eq off' fun _ _ _=>rfl⟩⟩
end Go.Fl
namespace Go.Fl
open Go
set_option linter.unusedVariables false
set_option linter.unusedSimpArgs false
variable {C:Cf} {w:Int→Int} {P:MP} {A:Ar} {who:Int}
theorem mod_off {p d r:Int} (h:p % r = 0) (h0:0 < d) (h1:d < r):(p + d) % r ≠ 0:=by
 rw [Int.add_emod,h,Int.zero_add,Int.emod_emod,Int.emod_eq_of_lt (by omega) h1]; omega
section
variable {T at' pos cw s v xs q:Int} {m:Mv}
theorem Pla.off (hC:C.ok) (hS:MS C P) {r j b x y:Int} (s0:0 ≤ s∧s < C.S) (sl:P.lv s = true) (r0:0 ≤ r) (r1:r < C.S) (l:P.lv r = true) (p:Pla C P w r b j x) (hc:chC (w (C.chunk j)) = classOf (P.z s)) (hm:y % P.rm s = 0) (hne:b ≠ C.base j + y) {d:Int} (hd:0 ≤ d∧d < P.rm s):¬ (x ≤ y + d∧y + d ≤ x + P.z r):=fun ⟨h1,h2⟩=>by
 have rs:=hS.rm s0.1 s0.2 sl
 have rr:=hS.rm r0 r1 l
 have e:P.rm s = P.rm r:=by unfold MP.rm; rw [← hc,p.c]
 have:=p.apart (k:=y + d - x) rr.2.2 rr.1.1 e hm hd (by omega) (by omega)
 subst this
 exact hne p.ea
theorem Mv2.geo (hC:C.ok) (hS:MS C P) (hc:MvC C P at' pos s m) (h:Mv2 C P T at' pos cw s v xs q m w):((3 ≤ P.rm s∧P.rm s ≤ 17)∧(1 ≤ P.z s∧P.z s ≤ 16)∧P.z s + 1 ≤ P.rm s)∧(0 ≤ pos∧pos + P.rm s ≤ C.W)∧(0 ≤ xs∧xs + P.rm s ≤ C.W)∧(C.base 0 ≤ C.base at' + pos∧C.base at' + pos ≤ 1048575)∧(C.base 0 ≤ m.a.sa∧m.a.sa ≤ 1048575)∧(0 ≤ P.g s∧P.g s ≤ 65535)∧(0 ≤ s∧s ≤ 65535)∧(∀ x y,0 ≤ x→x < C.W→0 ≤ y→y < C.W→C.base at' + x ≠ C.base m.a.sc + y):=by
 have rr:=hS.rm hc.sb.1 hc.sb.2 hc.l
 have px:=h.pa.xb
 have sx:=h.sp.x
 have u:=h.uW
 have b1:=base_of hC h.ev.ab.1 h.ev.ab.2 px.1 (by omega)
 have b2:=base_of hC h.sp.j.1 h.sp.j.2 sx.1 (by omega)
 have l:=len_bd hC
 have g1:=base_ge hC h.ev.ab.1 h.ev.ab.2 px.1
 have g2:=base_ge hC h.sp.j.1 h.sp.j.2 sx.1
 have e0:C.base 0 = 6 + C.T + 2 * C.S + 3 * C.C:=by unfold Cf.base; omega
 have hs:=h.sp.esa
 have hSS:=hC.S
 have hcs:=hc.sb
 refine ⟨rr,⟨px.1,by omega⟩,⟨sx.1,by omega⟩,⟨by omega,by omega⟩,⟨by omega,by omega⟩,(hS.lv s hc.sb.1 hc.sb.2 hc.l).2.1,⟨hcs.1,by omega⟩,fun x y x0 x1 y0 y1 e=>h.sp.ne (base_inj hC h.ev.ab.1 h.ev.ab.2 x0 x1 h.sp.j.1 h.sp.j.2 y0 y1 e).1.symm⟩
theorem Spot.keep {sa sc:Int} {w':Int→Int} (h:Spot C P at' s sa sc xs w) (hk:w' (C.chunk sc) = w (C.chunk sc)) (hs:∀ r,0 ≤ r→r < C.S→r ≠ s→w' (C.slot r) = w (C.slot r)):Spot C P at' s sa sc xs w' :=
 ⟨h.esa,h.j,h.ne,by rw [hk]; exact h.x,h.m,by rw [hk]; exact h.c,by rw [hk]; exact h.st,fun r r0 r1 l ne=>by rw [hs r r0 r1 ne]; exact h.nu r r0 r1 l ne,h.np⟩
theorem Pla.keep {a j x:Int} {w':Int→Int} (h:Pla C P w s a j x) (hk:w' (C.chunk j) = w (C.chunk j)):Pla C P w' s a j x :=
 ⟨h.ea,h.jb,by rw [hk]; exact h.xb,h.m,by rw [hk]; exact h.c,by rw [hk]; exact h.st⟩
theorem Mv2.next (h:Mv2 C P T at' pos cw s v xs q m w) {m':Mv} {w':Int→Int} (e:m'.a.got = m.a.got∧m'.a.sa = m.a.sa∧m'.a.sc = m.a.sc∧m'.a.w = m.a.w) (hi:0 ≤ m'.a.i∧m'.a.i ≤ P.z s) (hb:0 ≤ m'.a.cell∧m'.a.cell < 18446744073709551616)
  (hk:∀ j,0 ≤ j→j < C.C→w' (C.chunk j) = w (C.chunk j)) (hs:∀ r,0 ≤ r→r < C.S→r ≠ s→w' (C.slot r) = w (C.slot r)) (hss:w' (C.slot s) = w (C.slot s) ∨ ∀ x,0 ≤ x→x < pos→slA (w' (C.slot s)) ≠ C.base at' + x) (ha:w' (C.base at' + pos) = w (C.base at' + pos))
  (ph:(m'.a.pc = 2 ∨ m'.a.pc = 3∧w' m.a.sa = putHead 1 (P.z s) s (P.g s) (P.o s))∧MW C P (T - (q - 1)) (-1) m.a.sa w'∧ObR C P (T - (q - 1)) w' s (C.base at' + pos) v∧8 + 3 * P.z s - m'.a.pc ≤ q - 1 ∨
  w' m.a.sa = putHead 1 (P.z s) s (P.g s) (P.o s)∧MW C P (T - (q - 1)) s m.a.sa w'∧(
   w' (C.slot s) = putSlot 2 (C.base at' + pos) (P.g s) v∧cpd C P s m.a.sa m'.a.i w'∧(
    m'.a.pc = 4∧m'.a.i < P.z s∧(∀ k,m'.a.i ≤ k→k < P.z s→w' (C.base at' + pos + 1 + k) = putCell (P.L s k) false 0)∧4 + 3 * (P.z s - m'.a.i) ≤ q - 1 ∨
    m'.a.pc = 5∧m'.a.i < P.z s∧(∀ k,m'.a.i ≤ k→k < P.z s→w' (C.base at' + pos + 1 + k) = putCell (P.L s k) false 0)∧m'.a.cell = putCell (P.L s m'.a.i) false 0∧3 + 3 * (P.z s - m'.a.i) ≤ q - 1 ∨
    m'.a.pc = 6∧m'.a.i < P.z s∧(∀ k,m'.a.i + 1 ≤ k→k < P.z s→w' (C.base at' + pos + 1 + k) = putCell (P.L s k) false 0)∧m'.a.cell = putCell (P.L s m'.a.i) false 0∧2 + 3 * (P.z s - m'.a.i) ≤ q - 1 ∨
    m'.a.pc = 7∧m'.a.i = P.z s∧4 ≤ q - 1) ∨
   m'.a.pc = 8∧w' (C.slot s) = putSlot 1 m.a.sa (P.g s) (v + 1)∧cpd C P s m.a.sa (P.z s) w'∧3 ≤ q - 1) ∨
  (m'.a.pc = 9 ∨ m'.a.pc = 10)∧MW C P (T - (q - 1)) (-1) (-1) w'∧slA (w' (C.slot s)) = m.a.sa∧11 - m'.a.pc ≤ q - 1):Mv2 C P T at' pos cw s v xs (q - 1) m' w':=by
 obtain ⟨e1,e2,e3,e4⟩:=e
 refine ⟨by rw [e1]; exact h.got,by have:=h.vb; omega,by rw [e4]; exact h.aw,by rw [ha]; exact h.ha,h.pa.keep (hk _ h.ev.ab.1 h.ev.ab.2),?_,?_,?_,hi,hb,?_⟩
 ·rw [e3,hk _ h.ev.ab.1 h.ev.ab.2,hk _ h.sp.j.1 h.sp.j.2]; exact h.uW
 ·rw [e2,e3]; exact h.sp.keep (hk _ h.sp.j.1 h.sp.j.2) hs
 ·refine h.ev.keep (fun j j0 j1=>.inl (hk j j0 j1)) fun r r0 r1=>?_
  by_cases e:r = s
  ·subst e; exact hss
  ·exact .inl (hs r r0 r1 e)
 ·rw [e2]; exact ph
def Mv2R (C:Cf) (P:MP) (T at' pos cw s v xs q:Int) (R:Bool × Mv × Ar):Prop :=
 R.1 = false∧MvC C P at' pos s R.2.1∧Mv2 C P T at' pos cw s v xs (q - 1) R.2.1 R.2.2.w ∨ R.1 = true∧R.2.1.a.out = 1∧MW C P (T - (q - 1)) (-1) (-1) R.2.2.w∧Evc C P at' pos cw R.2.2.w∧gone' C P (C.base at' + pos) R.2.2.w
theorem Mv2.step2 (hC:C.ok) (hS:MS C P) (hc:MvC C P at' pos s m) (h:Mv2 C P T at' pos cw s v xs q m A.w) (hT:T ≤ 4194000) (hq:1 ≤ q) (hp:m.a.pc = 2):Mv2R C P T at' pos cw s v xs q (m.step C who A):=by
 obtain ⟨rr,gp,gx,ga,gs,gg,gS,gne⟩:=h.geo hC hS hc
 have hCC:=hC.C; have hTT:=hC.T; have hcsb:=hc.sb
 obtain ⟨c1,c2,c3,c4,c5,c6⟩:=hc.con
 have es:m.step C who A = (false,{ m with a:={ m.a with pc:=3 } },(A.by who).store m.a.sa (m.a.hd 1)):=by
  unfold Mv.step; rw [if_neg (by omega),if_neg (by omega),if_pos hp]
 have eh:m.a.hd 1 = putHead 1 (P.z s) s (P.g s) (P.o s):=by unfold Mo.hd; rw [c3,c4,c5,c6]
 rcases h.ph with ⟨_,mw,ob,hq'⟩ | ⟨_,_,⟨_,_,h'⟩ | ⟨h',_⟩⟩ | ⟨h',_⟩
 ·rw [es,eh]
  have e0:C.base 0 = 6 + C.T + 2 * C.S + 3 * C.C:=by unfold Cf.base; omega
  have sla:=(ob.sl hC hS (by omega) mw.ck hc.sb.1 hc.sb.2 hc.l).2.1
  have ws:∀ i,i ≠ m.a.sa→((A.by who).store m.a.sa (putHead 1 (P.z s) s (P.g s) (P.o s))).w i = A.w i:=fun i e=>upd_ne _ _ e
  have hmw:MW C P (T - (q - 1)) (-1) m.a.sa ((A.by who).store m.a.sa (putHead 1 (P.z s) s (P.g s) (P.o s))).w:=by
   show MW C P (T - (q - 1)) (-1) m.a.sa (upd A.w m.a.sa _)
   have:=mw.word (i:=m.a.sc) (y:=xs) (v:=putHead 1 (P.z s) s (P.g s) (P.o s)) (t':=T - (q - 1)) hC hS (by omega) h.sp.j.1 h.sp.j.2 gx.1 (by omega) (putHead_in _ _ _ _ _) (fun _ _ _ e=>absurd h.sp.esa.symm e) (fun r b r0 r1 l _ e x p=>?_) (by omega)
   ·rw [← h.sp.esa] at this; exact this
   ·have:=Pla.off (y:=xs) (d:=0) hC hS hc.sb hc.l r0 r1 l p h.sp.c h.sp.m (fun e'=>?_) (by omega)
    ·rw [Int.add_zero] at this; exact this
    ·by_cases er:r = s
     ·subst er
      exact gne pos xs (by omega) (by omega) gx.1 (by omega) (by rw [← sla,e,e'])
     ·exact h.sp.nu r r0 r1 l er (by rw [e,e',h.sp.esa])
  refine .inl ⟨rfl,⟨hc.sb,hc.l,hc.con,hc.nn⟩,h.next ⟨rfl,rfl,rfl,rfl⟩ h.ib h.cb (fun j j0 j1=>ws _ (by have:=ck_lt hC j0 j1; omega)) (fun r r0 r1 _=>ws _ (by unfold Cf.slot; omega)) (.inl (ws _ (by have:=hc.sb; unfold Cf.slot; omega))) (ws _ ?_) (.inl ⟨.inr ⟨rfl,upd_same _ _ _⟩,hmw,?_,by show 8 + 3 * P.z s - 3 ≤ q - 1; omega⟩)⟩
  ·rw [h.sp.esa]; exact gne _ _ (by omega) (by omega) gx.1 (by omega)
  ·refine ob.keep (by omega) (ws _ (by have:=hc.sb; unfold Cf.slot; omega)) (fun j x p=>p.keep (ws _ (by have:=ck_lt hC p.jb.1 p.jb.2; omega))) (by omega) fun d d0 d1=>ws _ ?_
   rw [h.sp.esa,Int.add_assoc]; exact gne _ _ (by omega) (by omega) gx.1 (by omega)
 ·omega
 ·omega
 ·omega
theorem Mv2.step3 (hC:C.ok) (hS:MS C P) (hc:MvC C P at' pos s m) (h:Mv2 C P T at' pos cw s v xs q m A.w) (hT:T ≤ 4194000) (hq:1 ≤ q) (hp:m.a.pc = 3):Mv2R C P T at' pos cw s v xs q (m.step C who A):=by
 obtain ⟨rr,gp,gx,ga,gs,gg,gS,gne⟩:=h.geo hC hS hc
 have hCC:=hC.C; have hTT:=hC.T; have hcsb:=hc.sb
 obtain ⟨c1,c2,c3,c4,c5,c6⟩:=hc.con
 have hvb:=h.vb
 rcases h.ph with ⟨hsa,mw,ob,hq'⟩ | ⟨_,_,⟨_,_,h'⟩ | ⟨h',_⟩⟩ | ⟨h',_⟩
 ·have hsa':A.w m.a.sa = putHead 1 (P.z s) s (P.g s) (P.o s):=by
   rcases hsa with e | e
   ·omega
   ·exact e.2
  have ew:A.w (C.slot m.a.hs) = m.a.w:=by rw [c4,ob.sw,h.aw]
  have es:m.step C who A = (false,{ m with a:={ m.a with i:=0,pc:=4 } },(A.by who).store (C.slot m.a.hs) (m.a.as 2 m.a.addr 0)):=by
   unfold Mv.step; rw [if_neg (by omega),if_neg (by omega),if_neg (by omega),if_pos hp,if_pos ew,cas_yes (show (A.by who).w _ = _ from ew)]
  have hb0:0 ≤ C.base 0:=by have:=hC.T; have:=hC.S; have:=hC.C; unfold Cf.base; omega
  have ea:m.a.as 2 m.a.addr 0 = putSlot 2 (C.base at' + pos) (P.g s) v:=by
   obtain ⟨z1,z2,z3,z4⟩:=sl_put (st:=1) (ad:=C.base at' + pos) (ge:=P.g s) (ve:=v) (by decide) (by omega) gg (by omega)
   unfold Mo.as; rw [h.aw,z3,z4,c1,Int.add_zero]
  rw [es,ea,c4]
  have e0:C.base 0 = 6 + C.T + 2 * C.S + 3 * C.C:=by unfold Cf.base; omega
  have sls:=ob.sl hC hS (by omega) mw.ck hc.sb.1 hc.sb.2 hc.l
  have np:C.base at' + pos ≠ P.pd:=fun e=>by
   have h1:=(hw_hd (a:=C.base at' + pos) hC hS hc.sb.1 hc.sb.2 hc.l).1
   rw [← ob.hd,h.ha,if_pos e] at h1
   rw [(hd_put (by decide) (by omega) (by omega) gg).1] at h1
   have:=hS.pk; omega
  have hsl:C.slot s < C.base 0:=by have:=hc.sb; unfold Cf.slot; omega
  have ws:∀ i,i ≠ C.slot s→((A.by who).store (C.slot s) (putSlot 2 (C.base at' + pos) (P.g s) v)).w i = A.w i:=fun i e=>upd_ne _ _ e
  have zs:=sl_put' (st:=2) (ad:=C.base at' + pos) (ge:=P.g s) (ve:=v) (by decide) (by omega) gg
  have wa:∀ d,0 ≤ d→((A.by who).store (C.slot s) (putSlot 2 (C.base at' + pos) (P.g s) v)).w (C.base at' + pos + d) = A.w (C.base at' + pos + d):=fun d d0=>ws _ (by omega)
  refine .inl ⟨rfl,⟨hc.sb,hc.l,hc.con,hc.nn⟩,h.next ⟨rfl,rfl,rfl,rfl⟩ ⟨Int.le_refl 0,by show (0:Int) ≤ P.z s; omega⟩ h.cb (fun j j0 j1=>ws _ (by have:=hc.sb; unfold Cf.slot Cf.chunk; omega)) (fun r r0 r1 ne=>ws _ (by unfold Cf.slot; omega)) (.inr fun x x0 x1=>?_) (ws _ (by omega)) (.inr (.inl ⟨?_,?_,.inl ⟨upd_same _ _ _,fun k k0 k1=>?_,.inl ⟨rfl,by show (0:Int) < P.z s; omega,fun k k0 k1=>?_,by show 4 + 3 * (P.z s - 0) ≤ q - 1; omega⟩⟩⟩))⟩
  ·show slA (upd A.w (C.slot s) _ (C.slot s)) ≠ _
   rw [upd_same,zs.2.1]; omega
  ·rw [ws _ (by omega)]; exact hsa'
  ·exact mw.slot hC hS (by omega) hc.sb.1 hc.sb.2 hc.l (putSlot_in _ _ _ _) (fun r _ _ _=>by omega) (fun r _ _ e=>e) (fun _=>by rw [sls.2.1]; exact np) fun e=>absurd rfl e
  ·have k1':k < 0:=k1
   omega
  ·have k0':0 ≤ k:=k0
   rw [Int.add_assoc,wa _ (by omega),← Int.add_assoc]; exact ob.ce k k0' k1
 ·omega
 ·omega
 ·omega
theorem Mv2.step45 (hC:C.ok) (hS:MS C P) (hc:MvC C P at' pos s m) (h:Mv2 C P T at' pos cw s v xs q m A.w) (hT:T ≤ 4194000) (hq:1 ≤ q) (hp:m.a.pc = 4 ∨ m.a.pc = 5):Mv2R C P T at' pos cw s v xs q (m.step C who A):=by
 obtain ⟨rr,gp,gx,ga,gs,gg,gS,gne⟩:=h.geo hC hS hc
 have hCC:=hC.C; have hTT:=hC.T; have hcsb:=hc.sb
 obtain ⟨c1,c2,c3,c4,c5,c6⟩:=hc.con
 have hvb:=h.vb
 have hib:=h.ib
 have hL:=(hS.lv s hc.sb.1 hc.sb.2 hc.l).2.2
 have hb0:0 ≤ C.base 0:=by have:=hC.T; have:=hC.S; have:=hC.C; unfold Cf.base; omega
 rcases h.ph with ⟨h',_⟩ | ⟨hsa,mw,⟨hsl,cp,⟨p,hi,ce,hq'⟩ | ⟨p,hi,ce,ec,hq'⟩ | ⟨p,_⟩ | ⟨p,_⟩⟩ | ⟨h',_⟩⟩ | ⟨h',_⟩
 ·rcases h' with e | ⟨e,_⟩ <;> omega
 · -- it loads
  have eL:=hL m.a.i hib.1 hi
  have ecell:A.w (m.a.addr + 1 + m.a.i) = putCell (P.L s m.a.i) false 0:=by rw [c1]; exact ce _ (Int.le_refl _) hi
  have nf:¬ (ceF (A.w (m.a.addr + 1 + m.a.i)) = true∧ceN (A.w (m.a.addr + 1 + m.a.i)) = slV m.a.w):=fun ⟨e,_⟩=>by rw [ecell,(ce_put eL (by decide)).2.1] at e; cases e
  have es:m.step C who A = (false,{ m with a:={ m.a with cell:=A.w (m.a.addr + 1 + m.a.i),pc:=5 } },(A.by who).load (m.a.addr + 1 + m.a.i)):=by
   unfold Mv.step; rw [if_neg (by omega),if_neg (by omega),if_neg (by omega),if_neg (by omega),if_pos p,if_neg nf]
  rw [es]
  refine .inl ⟨rfl,⟨hc.sb,hc.l,hc.con,hc.nn⟩,h.next ⟨rfl,rfl,rfl,rfl⟩ hib (mw.bd _) (fun _ _ _=>rfl) (fun _ _ _ _=>rfl) (.inl rfl) rfl (.inr (.inl ⟨hsa,mw.mono (by omega),.inl ⟨hsl,cp,.inr (.inl ⟨rfl,hi,ce,ecell,by show 3 + 3 * (P.z s - m.a.i) ≤ q - 1; omega⟩)⟩⟩))⟩
 · -- it freezes
  have eL:=hL m.a.i hib.1 hi
  have ew:A.w (m.a.addr + 1 + m.a.i) = m.a.cell:=by rw [c1,ec]; exact ce _ (Int.le_refl _) hi
  have es:m.step C who A = (false,{ m with a:={ m.a with pc:=6 } },(A.by who).store (m.a.addr + 1 + m.a.i) (putCell (ceV m.a.cell) true (slV m.a.w))):=by
   unfold Mv.step; rw [if_neg (by omega),if_neg (by omega),if_neg (by omega),if_neg (by omega),if_neg (by omega),if_pos p,if_pos ew,cas_yes (show (A.by who).w _ = _ from ew)]
  rw [es]
  have ea:m.a.addr + 1 + m.a.i = C.base at' + (pos + (1 + m.a.i)):=by rw [c1]; omega
  rw [ea]
  have e0:C.base 0 = 6 + C.T + 2 * C.S + 3 * C.C:=by unfold Cf.base; omega
  have ws:∀ i,i ≠ C.base at' + (pos + (1 + m.a.i))→((A.by who).store (C.base at' + (pos + (1 + m.a.i))) (putCell (ceV m.a.cell) true (slV m.a.w))).w i = A.w i:=fun i e=>upd_ne _ _ e
  have wsc:∀ y,0 ≤ y→y < C.W→((A.by who).store (C.base at' + (pos + (1 + m.a.i))) (putCell (ceV m.a.cell) true (slV m.a.w))).w (C.base m.a.sc + y) = A.w (C.base m.a.sc + y):=fun y y0 y1=>ws _ fun e=>gne (pos + (1 + m.a.i)) y (by omega) (by omega) y0 y1 e.symm
  refine .inl ⟨rfl,⟨hc.sb,hc.l,hc.con,hc.nn⟩,h.next ⟨rfl,rfl,rfl,rfl⟩ hib h.cb (fun j j0 j1=>ws _ (by have:=ck_lt hC j0 j1; omega)) (fun r r0 r1 ne=>ws _ (by unfold Cf.slot; omega)) (.inl (ws _ (by have:=hc.sb; unfold Cf.slot; omega))) (ws _ (by omega)) (.inr (.inl ⟨?_,?_,.inl ⟨?_,fun k k0 k1=>?_,.inr (.inr (.inl ⟨rfl,hi,fun k k0 k1=>?_,ec,by show 2 + 3 * (P.z s - m.a.i) ≤ q - 1; omega⟩))⟩⟩))⟩
  ·rw [h.sp.esa,wsc _ gx.1 (by omega),← h.sp.esa]; exact hsa
  ·refine mw.word hC hS (by omega) h.ev.ab.1 h.ev.ab.2 (by omega) (by omega) (putCell_in _ _ _) (fun _ _ e=>?_) (fun r b r0 r1 l ne e x p=>?_) (by omega)
   ·rw [h.pa.c] at e
    exact absurd e (mod_off h.pa.m (by omega) (by unfold MP.rm at rr; omega))
   ·refine Pla.off hC hS hc.sb hc.l r0 r1 l p h.pa.c h.pa.m (fun e'=>?_) (by omega)
    obtain ⟨⟨_,_,f3,_,_⟩,_⟩:=mw.at' hC hS (by omega) r0 r1 l ne (e.trans e')
    rw [h.ha,(hd_put (by decide) (by omega) (by omega) gg).2.2.1] at f3
    exact ne f3.symm
  ·rw [ws _ (by have:=hc.sb; unfold Cf.slot; omega)]; exact hsl
  ·have k1':k < m.a.i:=k1
   have:=wsc (xs + (1 + k)) (by omega) (by omega)
   rw [show C.base m.a.sc + (xs + (1 + k)) = m.a.sa + 1 + k by rw [h.sp.esa]; omega] at this
   rw [this]; exact cp k k0 k1'
  ·have k0':m.a.i + 1 ≤ k:=k0
   rw [ws _ (by omega)]; exact ce k (by omega) k1
 ·omega
 ·omega
 ·omega
 ·omega
end
end Go.Fl
namespace Go.Fl
open Go
set_option linter.unusedVariables false
set_option linter.unusedSimpArgs false
variable {C:Cf} {w:Int→Int} {P:MP} {A:Ar} {who:Int}
section
variable {T at' pos cw s v xs q:Int} {m:Mv}
theorem Mv2.step6 (hC:C.ok) (hS:MS C P) (hc:MvC C P at' pos s m) (h:Mv2 C P T at' pos cw s v xs q m A.w) (hT:T ≤ 4194000) (hq:1 ≤ q) (hp:m.a.pc = 6):Mv2R C P T at' pos cw s v xs q (m.step C who A):=by
 obtain ⟨rr,gp,gx,ga,gs,gg,gS,gne⟩:=h.geo hC hS hc
 have hCC:=hC.C; have hTT:=hC.T; have hcsb:=hc.sb
 obtain ⟨c1,c2,c3,c4,c5,c6⟩:=hc.con
 have hvb:=h.vb
 have hib:=h.ib
 have hL:=(hS.lv s hc.sb.1 hc.sb.2 hc.l).2.2
 have hb0:0 ≤ C.base 0:=by have:=hC.T; have:=hC.S; have:=hC.C; unfold Cf.base; omega
 rcases h.ph with ⟨h',_⟩ | ⟨hsa,mw,⟨hsl,cp,⟨p,_⟩ | ⟨p,_⟩ | ⟨p,hi,ce,ec,hq'⟩ | ⟨p,_⟩⟩ | ⟨h',_⟩⟩ | ⟨h',_⟩
 ·rcases h' with e | ⟨e,_⟩ <;> omega
 ·omega
 ·omega
 ·have eL:=hL m.a.i hib.1 hi
  have ev:ceV m.a.cell = P.L s m.a.i:=by rw [ec]; exact (ce_put eL (by decide)).1
  have es:m.step C who A = (false,{ m with a:={ m.a with i:=m.a.i + 1,pc:=if m.a.hz ≤ m.a.i + 1 then 7 else 4 } },(A.by who).store (m.a.sa + 1 + m.a.i) (putCell (ceV m.a.cell) false 0)):=by
   unfold Mv.step; rw [if_neg (by omega),if_neg (by omega),if_neg (by omega),if_neg (by omega),if_neg (by omega),if_neg (by omega),if_pos p]
  rw [es,ev,c3]
  have ea:m.a.sa + 1 + m.a.i = C.base m.a.sc + (xs + (1 + m.a.i)):=by rw [h.sp.esa]; omega
  have e0:C.base 0 = 6 + C.T + 2 * C.S + 3 * C.C:=by unfold Cf.base; omega
  have hmw:MW C P (T - (q - 1)) s m.a.sa ((A.by who).store (m.a.sa + 1 + m.a.i) (putCell (P.L s m.a.i) false 0)).w:=by
   rw [ea]
   refine mw.word hC hS (by omega) h.sp.j.1 h.sp.j.2 (by omega) (by omega) (putCell_in _ _ _) (fun _ _ e=>?_) (fun r b r0 r1 l ne e x p=>?_) (by omega)
   ·rw [h.sp.c] at e
    exact absurd e (mod_off h.sp.m (by omega) (by unfold MP.rm at rr; omega))
   ·exact Pla.off hC hS hc.sb hc.l r0 r1 l p h.sp.c h.sp.m (fun e'=>h.sp.nu r r0 r1 l ne (by rw [e,e',h.sp.esa])) (by omega)
  have ws:∀ i,i ≠ m.a.sa + 1 + m.a.i→((A.by who).store (m.a.sa + 1 + m.a.i) (putCell (P.L s m.a.i) false 0)).w i = A.w i:=fun i e=>upd_ne _ _ e
  have wsa:∀ y,0 ≤ y→y < C.W→((A.by who).store (m.a.sa + 1 + m.a.i) (putCell (P.L s m.a.i) false 0)).w (C.base at' + y) = A.w (C.base at' + y):=fun y y0 y1=>ws _ (by rw [ea]; exact gne y _ y0 y1 (by omega) (by omega))
  have e47:(if P.z s ≤ m.a.i + 1 then (7:Int) else 4) = 7∧P.z s = m.a.i + 1 ∨ (if P.z s ≤ m.a.i + 1 then (7:Int) else 4) = 4∧m.a.i + 1 < P.z s:=by split <;> omega
  refine .inl ⟨rfl,⟨hc.sb,hc.l,hc.con,hc.nn⟩,h.next ⟨rfl,rfl,rfl,rfl⟩ ⟨by show 0 ≤ m.a.i + 1; omega,by show m.a.i + 1 ≤ _; omega⟩ h.cb (fun j j0 j1=>ws _ (by have:=ck_lt hC j0 j1; omega)) (fun r r0 r1 ne=>ws _ (by unfold Cf.slot; omega)) (.inl (ws _ (by have:=hc.sb; unfold Cf.slot; omega))) (wsa _ (by omega) (by omega)) (.inr (.inl ⟨?_,hmw,.inl ⟨?_,fun k k0 k1=>?_,?_⟩⟩))⟩
  ·rw [ws _ (by omega)]; exact hsa
  ·rw [ws _ (by have:=hc.sb; unfold Cf.slot; omega)]; exact hsl
  ·have k1':k < m.a.i + 1:=k1
   by_cases e:k = m.a.i
   ·rw [e]; exact upd_same _ _ _
   ·rw [ws _ (by omega)]; exact cp k k0 (by omega)
  ·rcases e47 with ⟨e,le⟩ | ⟨e,le⟩
   ·exact .inr (.inr (.inr ⟨e,by show m.a.i + 1 = P.z s; omega,by omega⟩))
   ·refine .inl ⟨e,le,fun k k0 k1=>?_,by show 4 + 3 * (P.z s - (m.a.i + 1)) ≤ q - 1; omega⟩
    have k0':m.a.i + 1 ≤ k:=k0
    have:=wsa (pos + (1 + k)) (by omega) (by omega)
    rw [show C.base at' + (pos + (1 + k)) = C.base at' + pos + 1 + k by omega] at this
    rw [this]; exact ce k k0' k1
 ·omega
 ·omega
 ·omega
theorem Mv2.step7 (hC:C.ok) (hS:MS C P) (hc:MvC C P at' pos s m) (h:Mv2 C P T at' pos cw s v xs q m A.w) (hT:T ≤ 4194000) (hq:1 ≤ q) (hp:m.a.pc = 7):Mv2R C P T at' pos cw s v xs q (m.step C who A):=by
 obtain ⟨rr,gp,gx,ga,gs,gg,gS,gne⟩:=h.geo hC hS hc
 have hCC:=hC.C; have hTT:=hC.T; have hcsb:=hc.sb
 obtain ⟨c1,c2,c3,c4,c5,c6⟩:=hc.con
 have hvb:=h.vb
 have hib:=h.ib
 have hb0:0 ≤ C.base 0:=by have:=hC.T; have:=hC.S; have:=hC.C; unfold Cf.base; omega
 rcases h.ph with ⟨h',_⟩ | ⟨hsa,mw,⟨hsl,cp,⟨p,_⟩ | ⟨p,_⟩ | ⟨p,_⟩ | ⟨p,hi,hq'⟩⟩ | ⟨h',_⟩⟩ | ⟨h',_⟩
 ·rcases h' with e | ⟨e,_⟩ <;> omega
 ·omega
 ·omega
 ·omega
 ·obtain ⟨z1,z2,z3,z4⟩:=sl_put (st:=1) (ad:=C.base at' + pos) (ge:=P.g s) (ve:=v) (by decide) (by omega) gg (by omega)
  have ea:m.a.as 2 m.a.addr 0 = putSlot 2 (C.base at' + pos) (P.g s) v:=by unfold Mo.as; rw [h.aw,z3,z4,c1,Int.add_zero]
  have eb:m.a.as 1 m.a.sa 1 = putSlot 1 m.a.sa (P.g s) (v + 1):=by unfold Mo.as; rw [h.aw,z3,z4]
  have ew:A.w (C.slot m.a.hs) = m.a.as 2 m.a.addr 0:=by rw [ea,c4]; exact hsl
  have es:m.step C who A = (false,{ m with a:={ m.a with pc:=8 } },(A.by who).store (C.slot m.a.hs) (m.a.as 1 m.a.sa 1)):=by
   unfold Mv.step; rw [if_neg (by omega),if_neg (by omega),if_neg (by omega),if_neg (by omega),if_neg (by omega),if_neg (by omega),if_neg (by omega),if_pos p,if_pos ew,cas_yes (show (A.by who).w _ = _ from ew)]
  rw [es,eb,c4]
  have e0:C.base 0 = 6 + C.T + 2 * C.S + 3 * C.C:=by unfold Cf.base; omega
  have hsb:C.slot s < C.base 0:=by have:=hc.sb; unfold Cf.slot; omega
  have ws:∀ i,i ≠ C.slot s→((A.by who).store (C.slot s) (putSlot 1 m.a.sa (P.g s) (v + 1))).w i = A.w i:=fun i e=>upd_ne _ _ e
  have zs:=sl_put' (st:=1) (ad:=m.a.sa) (ge:=P.g s) (ve:=v + 1) (by decide) (by omega) gg
  refine .inl ⟨rfl,⟨hc.sb,hc.l,hc.con,hc.nn⟩,h.next ⟨rfl,rfl,rfl,rfl⟩ hib h.cb (fun j j0 j1=>ws _ (by have:=hc.sb; unfold Cf.slot Cf.chunk; omega)) (fun r r0 r1 ne=>ws _ (by unfold Cf.slot; omega)) (.inr fun x x0 x1=>?_) (ws _ (by omega)) (.inr (.inl ⟨?_,?_,.inr ⟨rfl,upd_same _ _ _,fun k k0 k1=>?_,by omega⟩⟩))⟩
  ·show slA (upd A.w (C.slot s) _ (C.slot s)) ≠ _
   rw [upd_same,zs.2.1,h.sp.esa]; exact fun e=>gne x xs x0 (by omega) gx.1 (by omega) e.symm
  ·rw [ws _ (by omega)]; exact hsa
  ·exact mw.slot hC hS (by omega) hc.sb.1 hc.sb.2 hc.l (putSlot_in _ _ _ _) (fun r _ e _=>e) (fun r _ e _=>e) (fun e=>absurd rfl e) fun e=>absurd rfl e
  ·rw [ws _ (by omega)]; exact cp k k0 (by omega)
 ·omega
 ·omega
theorem Mv2.step8 (hC:C.ok) (hS:MS C P) (hc:MvC C P at' pos s m) (h:Mv2 C P T at' pos cw s v xs q m A.w) (hT:T ≤ 4194000) (hq:1 ≤ q) (hp:m.a.pc = 8):Mv2R C P T at' pos cw s v xs q (m.step C who A):=by
 obtain ⟨rr,gp,gx,ga,gs,gg,gS,gne⟩:=h.geo hC hS hc
 have hCC:=hC.C; have hTT:=hC.T; have hcsb:=hc.sb
 obtain ⟨c1,c2,c3,c4,c5,c6⟩:=hc.con
 have hvb:=h.vb
 have hib:=h.ib
 have hb0:0 ≤ C.base 0:=by have:=hC.T; have:=hC.S; have:=hC.C; unfold Cf.base; omega
 rcases h.ph with ⟨h',_⟩ | ⟨hsa,mw,⟨hsl,cp,⟨p,_⟩ | ⟨p,_⟩ | ⟨p,_⟩ | ⟨p,_⟩⟩ | ⟨p,hsl,cp,hq'⟩⟩ | ⟨h',_⟩
 ·rcases h' with e | ⟨e,_⟩ <;> omega
 ·omega
 ·omega
 ·omega
 ·omega
 ·have es:m.step C who A = (false,{ m with a:={ m.a with pc:=9 } },(A.by who).store m.a.sa (m.a.hd 2)):=by
   unfold Mv.step; rw [if_neg (by omega),if_neg (by omega),if_neg (by omega),if_neg (by omega),if_neg (by omega),if_neg (by omega),if_neg (by omega),if_neg (by omega),if_pos p]
  have eh:m.a.hd 2 = putHead 2 (P.z s) s (P.g s) (P.o s):=by unfold Mo.hd; rw [c3,c4,c5,c6]
  rw [es,eh]
  have e0:C.base 0 = 6 + C.T + 2 * C.S + 3 * C.C:=by unfold Cf.base; omega
  have ws:∀ i,i ≠ m.a.sa→((A.by who).store m.a.sa (putHead 2 (P.z s) s (P.g s) (P.o s))).w i = A.w i:=fun i e=>upd_ne _ _ e
  have wsl:((A.by who).store m.a.sa (putHead 2 (P.z s) s (P.g s) (P.o s))).w (C.slot s) = putSlot 1 m.a.sa (P.g s) (v + 1):=by rw [ws _ (by have:=hc.sb; unfold Cf.slot; omega)]; exact hsl
  have hh:=hd_put (k:=2) (s:=P.z s) (t:=s) (g:=P.g s) (o:=P.o s) (by decide) (by omega) (by omega) gg
  have hmw:MW C P (T - (q - 1)) s m.a.sa ((A.by who).store m.a.sa (putHead 2 (P.z s) s (P.g s) (P.o s))).w:=by
   have:=mw.word (i:=m.a.sc) (y:=xs) (v:=putHead 2 (P.z s) s (P.g s) (P.o s)) (t':=T - (q - 1)) hC hS (by omega) h.sp.j.1 h.sp.j.2 gx.1 (by omega) (putHead_in _ _ _ _ _) (fun _ _ _ e=>absurd h.sp.esa.symm e) (fun r b r0 r1 l ne e x p=>?_) (by omega)
   ·rw [← h.sp.esa] at this; exact this
   ·have:=Pla.off (y:=xs) (d:=0) hC hS hc.sb hc.l r0 r1 l p h.sp.c h.sp.m (fun e'=>h.sp.nu r r0 r1 l ne (by rw [e,e',h.sp.esa])) (by omega)
    rw [Int.add_zero] at this; exact this
  have wck:∀ j,0 ≤ j→j < C.C→((A.by who).store m.a.sa (putHead 2 (P.z s) s (P.g s) (P.o s))).w (C.chunk j) = A.w (C.chunk j):=fun j j0 j1=>ws _ (by have:=ck_lt hC j0 j1; omega)
  refine .inl ⟨rfl,⟨hc.sb,hc.l,hc.con,hc.nn⟩,h.next ⟨rfl,rfl,rfl,rfl⟩ hib h.cb wck (fun r r0 r1 ne=>ws _ (by unfold Cf.slot; omega)) (.inl (by rw [wsl,hsl])) (ws _ ?_) (.inr (.inr ⟨.inl rfl,?_,?_,by show 11 - 9 ≤ q - 1; omega⟩))⟩
  ·rw [h.sp.esa]; exact gne _ _ (by omega) (by omega) gx.1 (by omega)
  ·refine hmw.fin hC ⟨m.a.sa,v + 1,wsl,by omega,⟨m.a.sc,xs,⟨h.sp.esa,h.sp.j,?_,h.sp.m,?_,?_⟩⟩,?_,fun k k0 k1=>?_⟩ ?_
   ·rw [wck _ h.sp.j.1 h.sp.j.2]; exact h.sp.x
   ·rw [wck _ h.sp.j.1 h.sp.j.2]; exact h.sp.c
   ·rw [wck _ h.sp.j.1 h.sp.j.2]; exact .inl h.sp.st
   ·unfold MP.hw; rw [if_neg h.sp.np]; exact upd_same _ _ _
   ·rw [ws _ (by omega)]; exact cp k k0 k1
   ·have e:((A.by who).store m.a.sa (putHead 2 (P.z s) s (P.g s) (P.o s))).w m.a.sa = putHead 2 (P.z s) s (P.g s) (P.o s):=upd_same _ _ _
    rw [e]
    exact .inr (.inl ⟨hh.1,by rw [hh.2.2.1]; exact hc.sb,by rw [hh.2.1]; exact (hS.lv s hc.sb.1 hc.sb.2 hc.l).1⟩)
  ·rw [wsl]; exact (sl_put' (by decide) (by omega) gg).2.1
 ·omega
theorem Mv2.step9 (hC:C.ok) (hS:MS C P) (hc:MvC C P at' pos s m) (h:Mv2 C P T at' pos cw s v xs q m A.w) (hT:T ≤ 4194000) (hq:1 ≤ q) (hp:m.a.pc = 9 ∨ m.a.pc = 10):Mv2R C P T at' pos cw s v xs q (m.step C who A):=by
 obtain ⟨rr,gp,gx,ga,gs,gg,gS,gne⟩:=h.geo hC hS hc
 have hCC:=hC.C; have hTT:=hC.T; have hcsb:=hc.sb
 obtain ⟨c1,c2,c3,c4,c5,c6⟩:=hc.con
 have hib:=h.ib
 rcases h.ph with ⟨h',_⟩ | ⟨hsa,mw,⟨hsl,cp,⟨p,_⟩ | ⟨p,_⟩ | ⟨p,_⟩ | ⟨p,_⟩⟩ | ⟨p,_⟩⟩ | ⟨_,mw,hsl,hq'⟩
 ·rcases h' with e | ⟨e,_⟩ <;> omega
 ·omega
 ·omega
 ·omega
 ·omega
 ·omega
 ·have e0:C.base 0 = 6 + C.T + 2 * C.S + 3 * C.C:=by unfold Cf.base; omega
  have frame:∀ (j y:Int) (A':Ar),0 ≤ j→j < C.C→A'.w = upd A.w (C.chunk j + 1) (IntKind.u64.wrap y)→MW C P (T - (q - 1)) (-1) (-1) A'.w∧(∀ i,0 ≤ i→i < C.C→A'.w (C.chunk i) = A.w (C.chunk i))∧(∀ r,0 ≤ r→r < C.S→A'.w (C.slot r) = A.w (C.slot r))∧A'.w (C.base at' + pos) = A.w (C.base at' + pos):=fun j y A' j0 j1 e=>by
   have b:=ck_lt hC j0 j1
   rw [e]
   refine ⟨mw.low hC hS (by omega) (wrap_in _) (.inr (.inl ⟨j,j0,j1,.inl rfl⟩)),fun i i0 i1=>upd_ne _ _ (by unfold Cf.chunk; omega),fun r r0 r1=>upd_ne _ _ (by unfold Cf.slot Cf.chunk; omega),upd_ne _ _ (by omega)⟩
  rcases hp with p | p
  ·have es:m.step C who A = (false,{ m with a:={ m.a with pc:=10 } },(A.by who).add (C.chunk m.a.sc + 1) (IntKind.u64.wrap (roomOf (classOf m.a.hz)))):=by
    unfold Mv.step; rw [if_neg (by omega),if_neg (by omega),if_neg (by omega),if_neg (by omega),if_neg (by omega),if_neg (by omega),if_neg (by omega),if_neg (by omega),if_neg (by omega),if_pos p]
   rw [es]
   obtain ⟨f1,f2,f3,f4⟩:=frame m.a.sc _ ((A.by who).add (C.chunk m.a.sc + 1) (IntKind.u64.wrap (roomOf (classOf m.a.hz)))) h.sp.j.1 h.sp.j.2 rfl
   refine .inl ⟨rfl,⟨hc.sb,hc.l,hc.con,hc.nn⟩,h.next ⟨rfl,rfl,rfl,rfl⟩ hib h.cb f2 (fun r r0 r1 _=>f3 r r0 r1) (.inl (f3 _ hc.sb.1 hc.sb.2)) f4 (.inr (.inr ⟨.inr rfl,f1,?_,by show 11 - 10 ≤ q - 1; omega⟩))⟩
   rw [f3 _ hc.sb.1 hc.sb.2]; exact hsl
  ·have eo:ofC C m.a.addr = at':=by rw [c1]; exact (base_of hC h.ev.ab.1 h.ev.ab.2 gp.1 (by omega)).1
   have es:m.step C who A = (true,{ m with a:={ m.a with out:=1 } },(A.by who).add (C.chunk (ofC C m.a.addr) + 1) (IntKind.u64.wrap (-roomOf (classOf m.a.hz)))):=by
    unfold Mv.step; rw [if_neg (by omega),if_neg (by omega),if_neg (by omega),if_neg (by omega),if_neg (by omega),if_neg (by omega),if_neg (by omega),if_neg (by omega),if_neg (by omega),if_neg (by omega),if_pos p]
   rw [es,eo]
   obtain ⟨f1,f2,f3,f4⟩:=frame at' _ ((A.by who).add (C.chunk at' + 1) (IntKind.u64.wrap (-roomOf (classOf m.a.hz)))) h.ev.ab.1 h.ev.ab.2 rfl
   refine .inr ⟨rfl,rfl,f1,h.ev.keep (fun j j0 j1=>.inl (f2 j j0 j1)) (fun r r0 r1=>.inl (f3 r r0 r1)),fun r r0 r1 l e=>?_⟩
   obtain ⟨⟨_,_,g3,_,_⟩,_⟩:=f1.at' hC hS (by omega) r0 r1 l (by omega) e
   rw [show (true,{ m with a:={ m.a with out:=1 } },(A.by who).add (C.chunk at' + 1) (IntKind.u64.wrap (-roomOf (classOf m.a.hz)))).2.2.w (C.base at' + pos) = A.w (C.base at' + pos) from f4,h.ha,(hd_put (by decide) (by omega) (by omega) gg).2.2.1] at g3
   subst g3
   rw [show (true,{ m with a:={ m.a with out:=1 } },(A.by who).add (C.chunk at' + 1) (IntKind.u64.wrap (-roomOf (classOf m.a.hz)))).2.2.w (C.slot s) = A.w (C.slot s) from f3 _ r0 r1,hsl,h.sp.esa] at e
   exact gne pos xs gp.1 (by omega) gx.1 (by omega) e.symm
end
inductive MvI (C:Cf) (P:MP) (T at' pos cw q:Int) (m:Mv) (w:Int→Int):Prop where
 | a (h:Mv0 C P T at' pos cw q m w)
 | b (s v k:Int) (u:Int→Int) (hc:MvC C P at' pos s m) (h:Mv1 C P T at' pos cw s v q m w u k)
 | c (s v xs:Int) (hc:MvC C P at' pos s m) (h:Mv2 C P T at' pos cw s v xs q m w)
structure MvE (C:Cf) (P:MP) (T at' pos cw q:Int) (m:Mv) (w:Int→Int):Prop where
 o:m.a.out = 1 ∨ m.a.out = 2 ∨ m.a.out = 4
 mw:MW C P (T - q) (-1) (-1) w
 ev:Evc C P at' pos cw w
 g:m.a.out ≠ 4→gone' C P (C.base at' + pos) w
section
variable {T at' pos cw q:Int} {m:Mv}
theorem MvI.step (hC:C.ok) (hS:MS C P) (h:MvI C P T at' pos cw q m A.w) (hT:T ≤ 4194000) (hq:1 ≤ q) :
  (m.step C who A).1 = false∧MvI C P T at' pos cw (q - 1) (m.step C who A).2.1 (m.step C who A).2.2.w ∨ (m.step C who A).1 = true∧MvE C P T at' pos cw (q - 1) (m.step C who A).2.1 (m.step C who A).2.2.w:=by
 cases h with
 | a h =>
  obtain ⟨e,⟨b,o,g⟩ | ⟨b,s,v,hc,h1⟩⟩:=h.step (who:=who) hC hS hT
  ·refine .inr ⟨b,.inr (.inl o),?_,?_,fun _=>?_⟩
   ·rw [e]; exact h.mw.mono (by omega)
   ·rw [e]; exact h.ev
   ·rw [e]; exact g
  ·refine .inl ⟨b,.b s v 0 A.w hc ?_⟩
   rw [e]; exact h1
 | b s v k u hc h =>
  obtain ⟨_,⟨b,hc',⟨k',h1⟩ | ⟨xs,h2⟩⟩ | ⟨b,o,e⟩⟩:=h.step (who:=who) hC hS hc hT hq
  ·exact .inl ⟨b,.b s v k' u hc' h1⟩
  ·exact .inl ⟨b,.c s v xs hc' h2⟩
  ·exact .inr ⟨b,.inr (.inr o),by rw [e]; exact h.mw.mono (by omega),by rw [e]; exact h.ev,fun ne=>absurd o ne⟩
 | c s v xs hc h =>
  have hr:Mv2R C P T at' pos cw s v xs q (m.step C who A):=by
   have hpc:m.a.pc = 2 ∨ m.a.pc = 3 ∨ (m.a.pc = 4 ∨ m.a.pc = 5) ∨ m.a.pc = 6 ∨ m.a.pc = 7 ∨ m.a.pc = 8 ∨ m.a.pc = 9 ∨ m.a.pc = 10:=by
    rcases h.ph with ⟨h',_⟩ | ⟨_,_,⟨_,_,⟨p,_⟩ | ⟨p,_⟩ | ⟨p,_⟩ | ⟨p,_⟩⟩ | ⟨p,_⟩⟩ | ⟨p,_⟩
    ·rcases h' with e | ⟨e,_⟩ <;> omega
    all_goals omega
   rcases hpc with p | p | p | p | p | p | p
   ·exact h.step2 hC hS hc hT hq p
   ·exact h.step3 hC hS hc hT hq p
   ·exact h.step45 hC hS hc hT hq p
   ·exact h.step6 hC hS hc hT hq p
   ·exact h.step7 hC hS hc hT hq p
   ·exact h.step8 hC hS hc hT hq p
   ·exact h.step9 hC hS hc hT hq p
  rcases hr with ⟨b,hc',h'⟩ | ⟨b,o,h1,h2,h3⟩
  ·exact .inl ⟨b,.c s v xs hc' h'⟩
  ·exact .inr ⟨b,.inl o,h1,h2,fun _=>h3⟩
theorem Pl.step_n (t:Pl):(t.step C who A).2.2.n = A.n:=by
 have cn:∀ a o v,((A.by who).cas a o v).n = A.n:=fun a o v=>by unfold Ar.cas; split <;> rfl
 unfold Pl.step
 by_cases c0:t.pc = 0
 ·rw [if_pos c0]; rfl
 by_cases c1:t.pc = 1
 ·rw [if_neg c0,if_pos c1]; rfl
 by_cases c2:t.pc = 2
 ·rw [if_neg c0,if_neg c1,if_pos c2]; exact cn _ _ _
 by_cases c3:t.pc = 3
 ·rw [if_neg c0,if_neg c1,if_neg c2,if_pos c3]; dsimp only; split <;> rfl
 by_cases c4:t.pc = 4
 ·rw [if_neg c0,if_neg c1,if_neg c2,if_neg c3,if_pos c4]; split <;> exact cn _ _ _
 ·rw [if_neg c0,if_neg c1,if_neg c2,if_neg c3,if_neg c4]; split <;> exact cn _ _ _
theorem MvI.n (m:Mv):(m.step C who A).2.2.n = A.n:=by
 have hp:(m.t.step C who A).2.2.n = A.n:=Pl.step_n m.t
 have cn:∀ a o v,((A.by who).cas a o v).n = A.n:=fun a o v=>by unfold Ar.cas; split <;> rfl
 unfold Mv.step
 by_cases c0:m.a.pc = 0
 ·rw [if_pos c0]; (repeat' split) <;> rfl
 rw [if_neg c0]
 by_cases c1:m.a.pc = 1
 ·rw [if_pos c1]; (repeat' split) <;> exact hp
 rw [if_neg c1]
 by_cases c2:m.a.pc = 2
 ·rw [if_pos c2]; rfl
 rw [if_neg c2]
 by_cases c3:m.a.pc = 3
 ·rw [if_pos c3]; exact cn _ _ _
 rw [if_neg c3]
 by_cases c4:m.a.pc = 4
 ·rw [if_pos c4]; rfl
 rw [if_neg c4]
 by_cases c5:m.a.pc = 5
 ·rw [if_pos c5]; exact cn _ _ _
 rw [if_neg c5]
 by_cases c6:m.a.pc = 6
 ·rw [if_pos c6]; rfl
 rw [if_neg c6]
 by_cases c7:m.a.pc = 7
 ·rw [if_pos c7]; (repeat' split) <;> exact cn _ _ _
 rw [if_neg c7]
 by_cases c8:m.a.pc = 8
 ·rw [if_pos c8]; rfl
 rw [if_neg c8]
 by_cases c9:m.a.pc = 9
 ·rw [if_pos c9]; rfl
 rw [if_neg c9]
 by_cases ca:m.a.pc = 10
 ·rw [if_pos ca]; rfl
 ·rw [if_neg ca]; rfl
theorem MvI.bd (h:MvI C P T at' pos cw q m w):∀ i,0 ≤ w i∧w i < 18446744073709551616:=by
 cases h with
 | a h=>exact h.mw.bd
 | b s v k u hc h=>exact h.bd
 | c s v xs hc h =>
  rcases h.ph with ⟨_,mw,_⟩ | ⟨_,mw,_⟩ | ⟨_,mw,_⟩ <;> exact mw.bd
theorem MvI.fit (hC:C.ok) (hS:MS C P) (h:MvI C P T at' pos cw q m A.w) (hT:T ≤ 4194000) (hq:1 ≤ q) (hn:C.len ≤ A.n∧(A.n:Int) ≤ 200000000):m.fit C A:=by
 have hCC:=hC.C
 cases h with
 | a h =>
  have e:m.a.pc = 0:=by rw [h.em]; rfl
  rw [h.em]
  exact ⟨by show (0:Int) ≤ 0∧(0:Int) ≤ 11; decide,h.t,by show (0:Int) ≤ 0∧(0:Int) < 18446744073709551616; decide,by show (0:Int) ≤ 0∧(0:Int) < 18446744073709551616; decide,h.c,by show (0:Int) ≤ 0∧(0:Int) ≤ 65536; decide,by show (0:Int) ≤ 0∧(0:Int) ≤ 65536; decide,hn.2,
   fun e=>absurd (show (0:Int) = 1 from e) (by decide),fun e=>absurd (show (0:Int) = 2 ∨ (0:Int) = 8 ∨ (0:Int) = 11 from e) (by decide),fun e=>absurd (show (0:Int) = 4 ∨ (0:Int) = 5 from e) (by decide),fun e=>absurd (show (0:Int) = 6 from e) (by decide),fun e=>absurd (show (0:Int) = 9 from e) (by decide),fun e=>absurd (show (0:Int) = 10 from e) (by decide)⟩
 | b s v k u hc h =>
  obtain ⟨c1,c2,c3,c4,c5,c6⟩:=hc.con
  have hcl:0 ≤ classOf (P.z s)∧classOf (P.z s) ≤ 3:=⟨(hS.lv s hc.sb.1 hc.sb.2 hc.l).1,(class_bd _).2⟩
  have rr:=hS.rm hc.sb.1 hc.sb.2 hc.l
  have hk:=h.kb
  have kle:=h.pl.kle hC
  have pf:=h.pl.fit hC (h.mw.tb hC (by omega) hcl)
  have p:=h.pc
  have hi:=h.i
  have hce:=h.cell
  have hnn:=hc.nn
  exact ⟨by omega,by rw [c4]; exact hc.sb,by rw [h.aw]; exact putSlot_in _ _ _ _,by rw [hce]; decide,by rw [c3]; exact hcl.1,by omega,by omega,hn.2,fun _=>pf,fun e=>by omega,fun e=>by omega,fun e=>by omega,fun e=>by omega,fun e=>by omega⟩
 | c s v xs hc h =>
  obtain ⟨rr,gp,gx,ga,gs,gg,gS,gne⟩:=h.geo hC hS hc
  obtain ⟨c1,c2,c3,c4,c5,c6⟩:=hc.con
  have hcl:0 ≤ classOf (P.z s)∧classOf (P.z s) ≤ 3:=⟨(hS.lv s hc.sb.1 hc.sb.2 hc.l).1,(class_bd _).2⟩
  have hib:=h.ib
  have hnn:=hc.nn
  have hb0:0 ≤ C.base 0:=by have:=hC.T; have:=hC.S; have:=hC.C; unfold Cf.base; omega
  have l1:=(base_of hC (i:=pos + P.z s) h.ev.ab.1 h.ev.ab.2 (by omega) (by omega)).2.2
  have l2:=(base_of hC (i:=xs + P.z s) h.sp.j.1 h.sp.j.2 (by omega) (by omega)).2.2
  have hsa:=h.sp.esa
  have hpc:(2 ≤ m.a.pc∧m.a.pc ≤ 10)∧(m.a.pc = 4 ∨ m.a.pc = 5 ∨ m.a.pc = 6→m.a.i < P.z s):=by
   rcases h.ph with ⟨h',_⟩ | ⟨_,_,⟨_,_,⟨p,hi,_⟩ | ⟨p,hi,_⟩ | ⟨p,hi,_⟩ | ⟨p,_⟩⟩ | ⟨p,_⟩⟩ | ⟨p,_⟩
   ·rcases h' with e | ⟨e,_⟩ <;> omega
   all_goals omega
  refine ⟨by omega,by rw [c4]; exact hc.sb,by rw [h.aw]; exact putSlot_in _ _ _ _,h.cb,by rw [c3]; exact hcl.1,by omega,by omega,hn.2,fun e=>by omega,fun e=>by omega,fun e=>?_,fun e=>?_,fun _=>h.sp.j,fun e=>?_⟩
  ·have:=hpc.2 (by omega); rw [c1]; omega
  ·have:=hpc.2 (by omega); omega
  ·rw [c1,(base_of hC h.ev.ab.1 h.ev.ab.2 gp.1 (by omega)).1]; exact ⟨by omega,h.ev.ab⟩
end
end Go.Fl
namespace Go.Fl
open Go
set_option linter.unusedVariables false
set_option linter.unusedSimpArgs false
variable {C:Cf} {w:Int→Int} {P:MP} {A:Ar} {who:Int}
def no2 (C:Cf) (w:Int→Int):Prop:=∀ j,0 ≤ j→j < C.C→chS (w (C.chunk j)) ≠ 2
def evB (cw pos:Int):Int:=530 + 44 * (chU cw - pos) - 44 * roomOf (chC cw)
structure Wpos (C:Cf) (cw pos:Int):Prop where
 x:0 ≤ pos∧pos < chU cw
 m:pos % roomOf (chC cw) = 0
 c:chC cw ≤ 3
 u:chU cw ≤ C.W
 um:chU cw % roomOf (chC cw) = 0
inductive WC (C:Cf) (P:MP) (T q:Int) (c:Co) (w:Int→Int):Prop where
 | p0 (hp:c.r.pc = 0) (ha:c.a = none) (hs:c.s = none) (mw:MW C P (T - q) (-1) (-1) w) (n2:no2 C w) (h0:0 ≤ c.r.at'∧c.r.at' < C.C) (hl:c.r.at' ≠ 0→(c.seen.length:Int) = c.r.at') (hq:2 * (C.C - c.r.at') + 2310 ≤ q)
 | p1 (hp:c.r.pc = 1) (ha:c.a = none) (hs:c.s = none) (mw:MW C P (T - q) (-1) (-1) w) (n2:no2 C w) (h0:0 ≤ c.r.at'∧c.r.at' < C.C) (hl:(c.seen.length:Int) = c.r.at' + 1) (hq:2 * (C.C - c.r.at') + 2309 ≤ q)
 | p2 (hp:c.r.pc = 2) (ha:c.a = none) (hs:c.s = none) (mw:MW C P (T - q) (-1) (-1) w) (n2:no2 C w) (h0:0 ≤ c.r.at'∧c.r.at' < 4) (hl:(c.seen.length:Int) = C.C) (hq:2310 - c.r.at' ≤ q)
 | p3 (hp:c.r.pc = 3) (ha:c.a = none) (hs:c.s = none) (mw:MW C P (T - q) (-1) (-1) w) (n2:no2 C w) (h0:0 ≤ c.r.at'∧c.r.at' < C.C) (h1:chS c.r.w = 1∧0 < chU c.r.w) (hw:0 ≤ c.r.w∧c.r.w < 18446744073709551616) (hq:2306 ≤ q)
 | p4 (hp:c.r.pc = 4) (ha:c.a = none) (hs:c.s = none) (mw:MW C P (T - q) (-1) (-1) w) (ev:Evc C P c.r.at' c.r.pos c.r.w w) (px:Wpos C c.r.w c.r.pos) (hq:530 + 44 * (chU c.r.w - c.r.pos) ≤ q)
 | p5 (hp:c.r.pc = 5) (ha:c.a = none) (hs:c.s = none) (mv:MvI C P (T - evB c.r.w c.r.pos) c.r.at' c.r.pos c.r.w (q - evB c.r.w c.r.pos) c.m w) (h0:0 ≤ c.r.at'∧c.r.at' < C.C) (px:Wpos C c.r.w c.r.pos) (hw:0 ≤ c.r.w∧c.r.w < 18446744073709551616) (hq:1 + evB c.r.w c.r.pos ≤ q)
 | p6 (hp:6 ≤ c.r.pc∧c.r.pc ≤ 8) (ha:c.a = none) (hs:c.s = none) (mw:MW C P (T - q) (-1) (-1) w) (ev:Evc C P c.r.at' (chU c.r.w) c.r.w w) (hn:c.r.pc = 7→0 ≤ c.r.now∧c.r.now < 18446744073709551616) (hq:535 - c.r.pc ≤ q)
 | p9 (hp:c.r.pc = 9) (ha:c.a = none) (hs:c.s = none) (mw:MW C P (T - q) (-1) (-1) w) (ev:Evc C P c.r.at' 0 c.r.w w) (hq:522 ≤ q)
 | p10 (hp:c.r.pc = 10) (hs:c.s = none) (mw:MW C P (T - q) (-1) (-1) w) (n2:no2 C w) (ha:∀ v,c.a = some v→v.now = w 0∧(v.pc = 1∧(0 ≤ v.at'∧v.at' < C.T) ∨ v.pc = 2∧0 ≤ v.at')) (hq:520 - apA c.a ≤ q)
 | p11 (hp:c.r.pc = 11) (ha:c.a = none) (mw:MW C P (T - q) (-1) (-1) w) (n2:no2 C w) (h0:0 ≤ c.r.at'∧c.r.at' < C.C)
   (hs:∀ v,c.s = some v→v.ch = c.r.at'∧chS (w (C.chunk c.r.at')) = 3∧v.w = w (C.chunk c.r.at')∧v.freed = false∧((v.pc = 1 ∨ v.pc = 2)∧v.at' = 0 ∨ v.pc = 3∧(0 ≤ v.at'∧v.at' < chU v.w) ∨ v.pc = 4 ∨ v.pc = 5)) (hq:50 * (C.C - c.r.at') - spS c.s ≤ q)
structure Nw (t:Int) (c:Co):Prop where
 ev:0 ≤ c.r.ev∧c.r.ev ≤ t
 lf:0 ≤ c.r.lf∧c.r.lf ≤ t
 fd:0 ≤ c.r.fd∧c.r.fd ≤ t
 mo:0 ≤ c.r.mo∧c.r.mo ≤ t
 il:0 ≤ c.r.idle∧c.r.idle ≤ c.r.rd
def tW (P:MP) (c:Co):Int:=P.N0 + 3000 * c.r.rd + 3000
structure WI (C:Cf) (P:MP) (q:Int) (c:Co) (A:Ar):Prop where
 st:MS C P
 nn:C.len ≤ A.n∧(A.n:Int) ≤ 200000000
 q3:q ≤ 3000
 wc:WC C P (tW P c) q c A.w
 nm:Nw (tW P c - q) c
theorem Nw.mono {t t':Int} {c:Co} (h:Nw t c) (ht:t ≤ t'):Nw t' c:=by
 have:=h.ev; have:=h.lf; have:=h.fd; have:=h.mo
 exact ⟨by omega,by omega,by omega,by omega,h.il⟩
def WR (C:Cf) (P:MP) (q:Int) (c:Co) (R:Co × Ar):Prop:=R.1.r.rd = c.r.rd∧WI C P (q - 1) R.1 R.2 ∨ (R.1.r.rd = c.r.rd + 1∧R.1.r.pc = 0∧R.1.r.at' = 0)∧WI C P 3000 R.1 R.2
theorem wpos_room {cw pos:Int} (h:Wpos C cw pos):(3 ≤ roomOf (chC cw)∧roomOf (chC cw) ≤ 17)∧pos + roomOf (chC cw) ≤ chU cw:=by
 have r:=room_bd (chC_bd cw).1 h.c
 refine ⟨r,?_⟩
 have e:(chU cw - pos) % roomOf (chC cw) = 0:=by rw [Int.sub_emod,h.um,h.m]; rfl
 have hx:=h.x
 by_cases g:chU cw - pos < roomOf (chC cw)
 ·rw [Int.emod_eq_of_lt (by omega) g] at e; omega
 ·omega
theorem chw_n {v st:Int}:chN (chw v st) ≤ chN v + 1:=by unfold chw putChunk; unfold chN cl; omega
theorem no2.keep {w':Int→Int} (h:no2 C w) (hk:∀ j,0 ≤ j→j < C.C→w' (C.chunk j) = w (C.chunk j)):no2 C w':=fun j j0 j1=>by rw [hk j j0 j1]; exact h j j0 j1
section
variable {q:Int} {c:Co}
theorem WI.q1 (hC:C.ok) (h:WI C P q c A):1 ≤ q:=by
 have hcc:=h.st.cc
 cases h.wc with
 | p0 hp ha hs mw n2 h0 hl hq=>omega
 | p1 hp ha hs mw n2 h0 hl hq=>omega
 | p2 hp ha hs mw n2 h0 hl hq=>omega
 | p3 hp ha hs mw n2 h0 h1 hw hq=>omega
 | p4 hp ha hs mw ev px hq=>have:=px.x; omega
 | p5 hp ha hs mv h0 px hw hq=>have:=wpos_room px; unfold evB at hq; omega
 | p6 hp ha hs mw ev hn hq=>omega
 | p9 hp ha hs mw ev hq=>omega
 | p10 hp hs mw n2 ha hq =>
  have:apA c.a ≤ 10:=by
   cases e:c.a with
   | none=>decide
   | some v =>
    have:=(ha v e).2
    have hT:=hC.T
    show (if v.pc = 1 then 1 + v.at' else 10) ≤ 10
    split <;> omega
  omega
 | p11 hp ha mw n2 h0 hs hq =>
  have:spS c.s ≤ 45:=by
   cases e:c.s with
   | none=>decide
   | some v =>
    obtain ⟨_,h3,h4,_,h5⟩:=hs v e
    have:=(mw.ck _ h0.1 h0.2).u
    rw [← h4] at this
    rw [sp0]
    split
    ·omega
    ·split <;> omega
  omega
theorem WI.s0 (hC:C.ok) (h:WI C P q c A) (hp:c.r.pc = 0) (r:Int):WR C P q c (c.step C who A r):=by
 have st:c.step C who A r = ({ c with seen:=(if c.r.at' = 0 then [] else c.seen) ++ [seeS (A.w (C.chunk c.r.at'))],r:={ c.r with pc:=1 } },(A.by who).load (C.chunk c.r.at')):=by unfold Co.step; rw [if_pos hp]
 obtain ⟨hS,nn,q3,wc,nm⟩:=h
 cases wc with
 | p0 _ ha hs mw n2 h0 hl hq =>
  rw [st]
  have hl':((if c.r.at' = 0 then [] else c.seen).length:Int) = c.r.at':=by
   by_cases z:c.r.at' = 0
   ·rw [if_pos z,z]; rfl
   ·rw [if_neg z]; exact hl z
  refine .inl ⟨rfl,hS,nn,by omega,.p1 rfl ha hs ((mw.mono (by omega):MW C P (tW P c - (q - 1)) (-1) (-1) A.w)) n2 h0 ?_ (by show 2 * (C.C - c.r.at') + 2309 ≤ q - 1; omega),?_⟩
  ·show ((_ ++ _:List Sn).length:Int) = c.r.at' + 1
   rw [List.length_append]; show ((_ + 1:Nat):Int) = _; omega
  ·have:=nm.mono (t':=tW P c - (q - 1)) (by omega)
   exact ⟨this.ev,this.lf,this.fd,this.mo,this.il⟩
 | p1 hp'=>omega
 | p2 hp'=>omega
 | p3 hp'=>omega
 | p4 hp'=>omega
 | p5 hp'=>omega
 | p6 hp'=>omega
 | p9 hp'=>omega
 | p10 hp'=>omega
 | p11 hp'=>omega
theorem WI.s1 (hC:C.ok) (h:WI C P q c A) (hp:c.r.pc = 1) (r:Int):WR C P q c (c.step C who A r):=by
 have st:c.step C who A r = ({ c with seen:=liveS c.seen c.r.at'.toNat (IntKind.i64.wrap (A.w (C.chunk c.r.at' + 1))),r:={ c.r with at':=if C.C ≤ c.r.at' + 1 then 0 else c.r.at' + 1,pc:=if C.C ≤ c.r.at' + 1 then 2 else 0 } },(A.by who).load (C.chunk c.r.at' + 1)):=by unfold Co.step; rw [if_neg (by omega),if_pos hp]
 obtain ⟨hS,nn,q3,wc,nm⟩:=h
 cases wc with
 | p1 _ ha hs mw n2 h0 hl hq =>
  rw [st]
  have nm':=nm.mono (t':=tW P c - (q - 1)) (by omega)
  have hC3:=hC.C
  have len:((liveS c.seen c.r.at'.toNat (IntKind.i64.wrap (A.w (C.chunk c.r.at' + 1)))).length:Int) = c.r.at' + 1:=by rw [liveS_len]; exact hl
  by_cases z:C.C ≤ c.r.at' + 1
  ·simp only [if_pos z]
   exact .inl ⟨rfl,hS,nn,by omega,.p2 rfl ha hs ((mw.mono (by omega):MW C P (tW P c - (q - 1)) (-1) (-1) A.w)) n2 ⟨Int.le_refl 0,(by decide:(0:Int) < 4)⟩ (len.trans (by omega)) (by show 2310 - 0 ≤ q - 1; omega),nm'.ev,nm'.lf,nm'.fd,nm'.mo,nm'.il⟩
  ·simp only [if_neg z]
   exact .inl ⟨rfl,hS,nn,by omega,.p0 rfl ha hs ((mw.mono (by omega):MW C P (tW P c - (q - 1)) (-1) (-1) A.w)) n2 ⟨by show 0 ≤ c.r.at' + 1; omega,by show c.r.at' + 1 < C.C; omega⟩ (fun _=>len) (by show 2 * (C.C - (c.r.at' + 1)) + 2310 ≤ q - 1; omega),nm'.ev,nm'.lf,nm'.fd,nm'.mo,nm'.il⟩
 | p0 hp'=>omega
 | p2 hp'=>omega
 | p3 hp'=>omega
 | p4 hp'=>omega
 | p5 hp'=>omega
 | p6 hp'=>omega
 | p9 hp'=>omega
 | p10 hp'=>omega
 | p11 hp'=>omega
theorem WI.s2 (hC:C.ok) (h:WI C P q c A) (hp:c.r.pc = 2) (r:Int) (hr:c.may C A r):WR C P q c (c.step C who A r):=by
 obtain ⟨hS,nn,q3,wc,nm⟩:=h
 cases wc with
 | p2 _ ha hs mw n2 h0 hl hq =>
  have nm':=nm.mono (t':=tW P c - (q - 1)) (by omega)
  have mw':MW C P (tW P c - (q - 1)) (-1) (-1) A.w:=mw.mono (by omega)
  by_cases c4:c.r.at' + 1 < 4
  ·have st:c.step C who A r = ({ c with seen:=opS c.seen (A.w (2 + c.r.at')),r:={ c.r with at':=c.r.at' + 1 } },(A.by who).load (2 + c.r.at')):=by unfold Co.step; rw [if_neg (by omega),if_neg (by omega),if_pos hp,if_pos c4]
   rw [st]
   exact .inl ⟨rfl,hS,nn,by omega,.p2 hp ha hs mw' n2 ⟨by show 0 ≤ c.r.at' + 1; omega,c4⟩ (by show ((opS _ _).length:Int) = C.C; rw [opS_len]; exact hl) (by show 2310 - (c.r.at' + 1) ≤ q - 1; omega),nm'.ev,nm'.lf,nm'.fd,nm'.mo,nm'.il⟩
  ·obtain ⟨hch,r0,r1⟩:=hr hp c4
   by_cases rn:r < 0
   ·have st:c.step C who A r = ({ c with seen:=opS c.seen (A.w (2 + c.r.at')),r:={ c.r with at':=-1,pc:=10 } },(A.by who).load (2 + c.r.at')):=by unfold Co.step; rw [if_neg (by omega),if_neg (by omega),if_pos hp,if_neg c4,if_pos rn]
    rw [st]
    exact .inl ⟨rfl,hS,nn,by omega,.p10 rfl hs mw' n2 (fun v e=>by rw [show c.a = some v from e] at ha; cases ha) (by show 520 - apA c.a ≤ q - 1; rw [ha]; show 520 - 0 ≤ q - 1; omega),nm'.ev,nm'.lf,nm'.fd,nm'.mo,nm'.il⟩
   ·obtain ⟨x,hx,hm⟩:∃ x,(opS c.seen (A.w (2 + c.r.at')))[r.toNat]? = some x∧x.may C:=by
     rcases hch with ⟨q,_⟩ | ⟨_,q⟩
     ·omega
     ·exact q
    have ew:wordS (opS c.seen (A.w (2 + c.r.at'))) r.toNat = putChunk x.st x.cl x.us x.sp:=by unfold wordS; rw [hx]
    have st:c.step C who A r = ({ c with seen:=opS c.seen (A.w (2 + c.r.at')),r:={ c.r with at':=r,pc:=3,w:=putChunk x.st x.cl x.us x.sp } },(A.by who).load (2 + c.r.at')):=by unfold Co.step; rw [if_neg (by omega),if_neg (by omega),if_pos hp,if_neg c4,if_neg rn,ew]
    rw [st]
    have h1:=hm.1
    have h2:=hm.2.2.1
    refine .inl ⟨rfl,hS,nn,by omega,.p3 rfl ha hs mw' n2 ⟨by show 0 ≤ r; omega,r1⟩ ⟨?_,?_⟩ (putChunk_in _ _ _ _) (by omega),nm'.ev,nm'.lf,nm'.fd,nm'.mo,nm'.il⟩
    ·show chS (putChunk x.st x.cl x.us x.sp) = 1
     rw [h1]; unfold putChunk chS cl; omega
    ·show 0 < chU (putChunk x.st x.cl x.us x.sp)
     unfold putChunk chU cl; omega
 | p0 hp'=>omega
 | p1 hp'=>omega
 | p3 hp'=>omega
 | p4 hp'=>omega
 | p5 hp'=>omega
 | p6 hp'=>omega
 | p9 hp'=>omega
 | p10 hp'=>omega
 | p11 hp'=>omega
theorem WI.s3 (hC:C.ok) (h:WI C P q c A) (hp:c.r.pc = 3) (hrd:c.r.rd ≤ 1300) (r:Int):WR C P q c (c.step C who A r):=by
 obtain ⟨hS,nn,q3,wc,nm⟩:=h
 have hn0:=hS.n0
 have hT4:tW P c ≤ 4194000:=by unfold tW; omega
 cases wc with
 | p3 _ ha hs mw n2 h0 h1 hw hq =>
  have nm':=nm.mono (t':=tW P c - (q - 1)) (by omega)
  have hcc:=hS.cc
  have st0:c.step C who A r = ({ c with r:={ c.r with pos:=0,pc:=if A.w (C.chunk c.r.at') = c.r.w then 4 else 10,w:=if A.w (C.chunk c.r.at') = c.r.w then chw c.r.w 2 else c.r.w } },(A.by who).cas (C.chunk c.r.at') c.r.w (chw c.r.w 2)):=by
   unfold Co.step; rw [if_neg (by omega),if_neg (by omega),if_neg (by omega),if_pos hp]
  by_cases e:A.w (C.chunk c.r.at') = c.r.w
  ·rw [if_pos e,if_pos e,cas_yes (show (A.by who).w _ = _ from e)] at st0
   rw [st0]
   obtain ⟨v1,v2,v3,v4⟩:=chw_put (w:=c.r.w) (st:=2) (by decide)
   have kk:=mw.ck _ h0.1 h0.2
   rw [e] at kk
   have kn:=chw_n (v:=c.r.w) (st:=2)
   have kn2:=kk.n
   have hmw:MW C P (tW P c - (q - 1)) (-1) (-1) (upd A.w (C.chunk c.r.at') (chw c.r.w 2)):=by
    refine mw.chunk hC hS (by omega) h0.1 h0.2 v4 ⟨by rw [v2]; exact kk.c,by rw [v3]; exact kk.u,by rw [v3,v2]; exact kk.m,by omega,fun _=>by rw [v3]; exact h1.2⟩ (.inl rfl) (fun _ x x0 x1 xm hne=>?_) (fun s a x s0 s1 l _ _ p=>⟨.inr v1,by rw [v2,e],by rw [v3,e]; exact Int.le_refl _⟩) (by omega)
    rw [v3] at x1; rw [v2] at xm
    exact mw.hd _ x h0.1 h0.2 (.inl (by rw [e]; exact h1.1)) x0 (by rw [e]; exact x1) (by rw [e]; exact xm) hne
   refine .inl ⟨rfl,hS,nn,by omega,.p4 rfl ha hs hmw ⟨h0,upd_same _ _ _,v1,fun j j0 j1 g=>?_,fun _ _ _ _ x x0 x1=>(by have x1':x < 0:=x1; omega)⟩ ⟨⟨Int.le_refl 0,by show 0 < chU (chw c.r.w 2); rw [v3]; exact h1.2⟩,Int.zero_emod _,by show chC (chw c.r.w 2) ≤ 3; rw [v2]; exact kk.c,by show chU (chw c.r.w 2) ≤ C.W; rw [v3]; exact kk.u,by show chU (chw c.r.w 2) % roomOf (chC (chw c.r.w 2)) = 0; rw [v3,v2]; exact kk.m⟩ ?_,nm'.ev,nm'.lf,nm'.fd,nm'.mo,nm'.il⟩
   ·by_cases ej:j = c.r.at'
    ·exact ej
    ·have g':chS (upd A.w (C.chunk c.r.at') (chw c.r.w 2) (C.chunk j)) = 2:=g
     rw [upd_ne _ _ (ck_ne ej).1] at g'
     exact absurd g' (n2 j j0 j1)
   ·show 530 + 44 * (chU (chw c.r.w 2) - 0) ≤ q - 1
    have:=kk.u
    rw [v3]; omega
  ·rw [if_neg e,if_neg e,cas_no (show (A.by who).w _ ≠ _ from e)] at st0
   rw [st0]
   exact .inl ⟨rfl,hS,nn,by omega,.p10 rfl hs ((mw.mono (by omega):MW C P (tW P c - (q - 1)) (-1) (-1) A.w)) n2 (fun v e=>by rw [show c.a = some v from e] at ha; cases ha) (by show 520 - apA c.a ≤ q - 1; rw [ha]; show 520 - 0 ≤ q - 1; omega),nm'.ev,nm'.lf,nm'.fd,nm'.mo,nm'.il⟩
 | p0 hp'=>omega
 | p1 hp'=>omega
 | p2 hp'=>omega
 | p4 hp'=>omega
 | p5 hp'=>omega
 | p6 hp'=>omega
 | p9 hp'=>omega
 | p10 hp'=>omega
 | p11 hp'=>omega
end
end Go.Fl
namespace Go.Fl
open Go
set_option linter.unusedVariables false
set_option linter.unusedSimpArgs false
variable {C:Cf} {w:Int→Int} {P:MP} {A:Ar} {who:Int}
section
variable {q:Int} {c:Co}
theorem Evc.on (hC:C.ok) (hS:MS C P) {t at' pos cw:Int} (h:Evc C P at' pos cw w) (mw:MW C P t (-1) (-1) w) (ht:t ≤ 4194303) (px:Wpos C cw pos) (g:gone' C P (C.base at' + pos) w):Evc C P at' (pos + roomOf (chC cw)) cw w:=by
 refine ⟨h.ab,h.ecw,h.c2,h.s2,fun r r0 r1 l x x0 x1 e=>?_⟩
 by_cases lt:x < pos
 ·exact h.ev r r0 r1 l x x0 lt e
 have pr:=wpos_room px
 have pu:=px.u
 obtain ⟨_,v,o⟩:=mw.at' hC hS ht r0 r1 l (by omega) e
 obtain ⟨j,y,p⟩:=o.pl
 have py:=p.xb
 have pk:=(mw.ck j p.jb.1 p.jb.2).u
 have rr:=hS.rm r0 r1 l
 obtain ⟨e1,e2⟩:=base_inj hC h.ab.1 h.ab.2 x0 (by omega) p.jb.1 p.jb.2 py.1 (by omega) p.ea
 subst e1; subst e2
 have pc:=p.c
 rw [h.ecw] at pc
 have hm:=p.m
 unfold MP.rm at hm
 rw [← pc] at hm
 have e3:(x - pos) % roomOf (chC cw) = 0:=by rw [Int.sub_emod,hm,px.m]; rfl
 rw [Int.emod_eq_of_lt (by omega) (by omega)] at e3
 have e4:x = pos:=by omega
 rw [e4] at e
 exact g r r0 r1 l e
theorem Evc.le {at' lim lim' cw:Int} (h:Evc C P at' lim cw w) (hl:lim' ≤ lim):Evc C P at' lim' cw w:=⟨h.ab,h.ecw,h.c2,h.s2,fun r r0 r1 l x x0 x1=>h.ev r r0 r1 l x x0 (by omega)⟩
theorem WI.on (hC:C.ok) (hS:MS C P) (nn:C.len ≤ A.n∧(A.n:Int) ≤ 200000000) (q3:q ≤ 3000) (ha:c.a = none) (hs:c.s = none) (hT4:tW P c ≤ 4194000) {mo':Int} {m':Mv} (mw:MW C P (tW P c - (q - 1)) (-1) (-1) A.w) (ev:Evc C P c.r.at' c.r.pos c.r.w A.w) (px:Wpos C c.r.w c.r.pos)
  (g:gone' C P (C.base c.r.at' + c.r.pos) A.w) (hq:evB c.r.w c.r.pos + 1 ≤ q) (nm:Nw (tW P c - (q - 1)) c) (hmo:0 ≤ mo'∧mo' ≤ tW P c - (q - 1)):WR C P q c ({ c with r:=({ c.r with mo:=mo' }:Cr).next (chC c.r.w) (chU c.r.w),m:=m' },A):=by
 have pr:=wpos_room px
 have px2:=px.x
 unfold evB at hq
 have ev2:=ev.on hC hS mw (by omega) px g
 refine .inl ⟨rfl,hS,nn,by omega,?_,nm.ev,nm.lf,nm.fd,hmo,nm.il⟩
 by_cases z:chU c.r.w ≤ c.r.pos + roomOf (chC c.r.w)
 ·have e6:(if chU c.r.w ≤ c.r.pos + roomOf (chC c.r.w) then (6:Int) else 4) = 6:=if_pos z
  refine .p6 ⟨?_,?_⟩ ha hs mw (ev2.le z) (fun e=>?_) ?_
  ·show 6 ≤ (if chU c.r.w ≤ c.r.pos + roomOf (chC c.r.w) then (6:Int) else 4); omega
  ·show (if chU c.r.w ≤ c.r.pos + roomOf (chC c.r.w) then (6:Int) else 4) ≤ 8; omega
  ·have e':(if chU c.r.w ≤ c.r.pos + roomOf (chC c.r.w) then (6:Int) else 4) = 7:=e
   omega
  ·show 535 - (if chU c.r.w ≤ c.r.pos + roomOf (chC c.r.w) then (6:Int) else 4) ≤ q - 1; omega
 ·have e4:(if chU c.r.w ≤ c.r.pos + roomOf (chC c.r.w) then (6:Int) else 4) = 4:=if_neg z
  refine .p4 e4 ha hs mw ev2 ⟨⟨?_,?_⟩,?_,px.c,px.u,px.um⟩ ?_
  ·show 0 ≤ c.r.pos + roomOf (chC c.r.w); omega
  ·show c.r.pos + roomOf (chC c.r.w) < chU c.r.w; omega
  ·show (c.r.pos + roomOf (chC c.r.w)) % roomOf (chC c.r.w) = 0; rw [Int.add_emod_right]; exact px.m
  ·show 530 + 44 * (chU c.r.w - (c.r.pos + roomOf (chC c.r.w))) ≤ q - 1; omega
theorem WI.s4 (hC:C.ok) (h:WI C P q c A) (hp:c.r.pc = 4) (hrd:c.r.rd ≤ 1300) (r:Int):WR C P q c (c.step C who A r):=by
 obtain ⟨hS,nn,q3,wc,nm⟩:=h
 have hn0:=hS.n0
 have hT4:tW P c ≤ 4194000:=by unfold tW; omega
 cases wc with
 | p4 _ ha hs mw ev px hq =>
  have nm':=nm.mono (t':=tW P c - (q - 1)) (by omega)
  have mw':MW C P (tW P c - (q - 1)) (-1) (-1) A.w:=mw.mono (by omega)
  have pr:=wpos_room px
  have px2:=px.x
  have pk:=hS.pk
  have hu:=px.u
  have hc1:chS (A.w (C.chunk c.r.at')) = 2:=by rw [ev.ecw]; exact ev.c2
  have bge:=base_ge hC ev.ab.1 ev.ab.2 px2.1
  have hT:=hC.T; have hSS:=hC.S; have hCC:=hC.C; have hcc:=hS.cc
  have hd:=mw.hd _ c.r.pos ev.ab.1 ev.ab.2 (.inr hc1) px2.1 (by rw [ev.ecw]; exact px2.2) (by rw [ev.ecw]; exact px.m) (by omega)
  by_cases k3:hdK (A.w (C.base c.r.at' + c.r.pos)) = 3
  ·have st:c.step C who A r = ({ c with r:=c.r.next (chC c.r.w) (chU c.r.w) },(A.by who).load (C.base c.r.at' + c.r.pos)):=by
    unfold Co.step; rw [if_neg (by omega),if_neg (by omega),if_neg (by omega),if_neg (by omega),if_pos hp,if_pos k3]
   rw [st]
   refine WI.on (A:=(A.by who).load (C.base c.r.at' + c.r.pos)) (m':=c.m) (mo':=c.r.mo) hC hS nn q3 ha hs hT4 mw' ev px (fun s s0 s1 l e=>?_) (by unfold evB; omega) nm' nm'.mo
   have:=(mw.at' hC hS (by omega) s0 s1 l (by omega) e).1.1
   rw [k3] at this
   split at this <;> omega
  ·by_cases k2:hdK (A.w (C.base c.r.at' + c.r.pos)) = 2
   ·have st:c.step C who A r = ({ c with r:={ c.r with pc:=5 },m:=Mv.new (C.base c.r.at' + c.r.pos) (hdK (A.w (C.base c.r.at' + c.r.pos))) (hdS (A.w (C.base c.r.at' + c.r.pos))) (hdT (A.w (C.base c.r.at' + c.r.pos))) (hdG (A.w (C.base c.r.at' + c.r.pos))) (hdO (A.w (C.base c.r.at' + c.r.pos))) },(A.by who).load (C.base c.r.at' + c.r.pos)):=by
     unfold Co.step; rw [if_neg (by omega),if_neg (by omega),if_neg (by omega),if_neg (by omega),if_pos hp,if_neg k3,if_pos k2]
    rw [st]
    obtain ⟨t0,c0⟩:(0 ≤ hdT (A.w (C.base c.r.at' + c.r.pos))∧hdT (A.w (C.base c.r.at' + c.r.pos)) < C.S)∧0 ≤ classOf (hdS (A.w (C.base c.r.at' + c.r.pos))):=by
     rcases hd with e | ⟨_,e1,e2⟩ | ⟨_,e⟩
     ·exact absurd e k3
     ·exact ⟨e1,e2⟩
     ·omega
    have hz:=(class_room' c0).1
    have cwb:0 ≤ c.r.w∧c.r.w < 18446744073709551616:=by rw [← ev.ecw]; exact mw.bd _
    have eB:tW P c - evB c.r.w c.r.pos - (q - 1 - evB c.r.w c.r.pos) = tW P c - (q - 1):=by omega
    refine .inl ⟨rfl,hS,nn,by omega,.p5 rfl ha hs (.a ⟨rfl,k2,t0,c0,?_,ev,⟨px2.1,by show c.r.pos < C.W; omega⟩,?_⟩) ev.ab px cwb ?_,nm'.ev,nm'.lf,nm'.fd,nm'.mo,nm'.il⟩
    ·show MW C P (tW P c - evB c.r.w c.r.pos - (q - 1 - evB c.r.w c.r.pos)) (-1) (-1) A.w
     rw [eB]; exact mw'
    ·show 17 + C.C + 3 * hdS (A.w (C.base c.r.at' + c.r.pos)) ≤ q - 1 - evB c.r.w c.r.pos
     unfold evB; omega
    ·show 1 + evB c.r.w c.r.pos ≤ q - 1
     unfold evB; omega
   ·have st:c.step C who A r = ({ c with r:={ c.r with pc:=9 } },(A.by who).load (C.base c.r.at' + c.r.pos)):=by
     unfold Co.step; rw [if_neg (by omega),if_neg (by omega),if_neg (by omega),if_neg (by omega),if_pos hp,if_neg k3,if_neg k2]
    rw [st]
    exact .inl ⟨rfl,hS,nn,by omega,.p9 rfl ha hs mw' (ev.le px2.1) (by omega),nm'.ev,nm'.lf,nm'.fd,nm'.mo,nm'.il⟩
 | p0 hp'=>omega
 | p1 hp'=>omega
 | p2 hp'=>omega
 | p3 hp'=>omega
 | p5 hp'=>omega
 | p6 hp'=>omega
 | p9 hp'=>omega
 | p10 hp'=>omega
 | p11 hp'=>omega
theorem WI.s5 (hC:C.ok) (h:WI C P q c A) (hp:c.r.pc = 5) (hrd:c.r.rd ≤ 1300) (r:Int):WR C P q c (c.step C who A r):=by
 obtain ⟨hS,nn,q3,wc,nm⟩:=h
 have hn0:=hS.n0
 have hT4:tW P c ≤ 4194000:=by unfold tW; omega
 cases wc with
 | p5 _ ha hs mv h0 px hw hq =>
  have nm':=nm.mono (t':=tW P c - (q - 1)) (by omega)
  have pr:=wpos_room px
  have hB:0 ≤ evB c.r.w c.r.pos:=by unfold evB; omega
  have st:c.step C who A r = ({ c with r:=c.r.moved (c.m.step C who A).1 (c.m.step C who A).2.1.a.out,m:=(c.m.step C who A).2.1 },(c.m.step C who A).2.2):=by
   unfold Co.step; rw [if_neg (by omega),if_neg (by omega),if_neg (by omega),if_neg (by omega),if_neg (by omega),if_pos hp]
  have en:(c.m.step C who A).2.2.n = A.n:=MvI.n c.m
  have nn':C.len ≤ (c.m.step C who A).2.2.n∧((c.m.step C who A).2.2.n:Int) ≤ 200000000:=by rw [en]; exact nn
  rw [st]
  rcases mv.step (who:=who) hC hS (by omega) (by omega) with ⟨b,hm⟩ | ⟨b,hm⟩
  ·rw [b]
   have eq1:q - evB c.r.w c.r.pos - 1 = q - 1 - evB c.r.w c.r.pos:=by omega
   rw [eq1] at hm
   have h2:1 + evB c.r.w c.r.pos ≤ q - 1:=by
    by_cases z:q - 1 - evB c.r.w c.r.pos = 0
    ·exfalso
     rw [z] at hm
     cases hm with
     | a h=>have:=h.qb; have:=(class_room' h.c).1; have:=hC.C; omega
     | b s v k u hc h=>have:=h.kb; have:=h.pl.kle hC; have:=hS.rm hc.sb.1 hc.sb.2 hc.l; omega
     | c s v xs hc h =>
      have:=hS.rm hc.sb.1 hc.sb.2 hc.l
      rcases h.ph with ⟨h',_,_,h1⟩ | ⟨_,_,⟨_,_,⟨_,_,_,h1⟩ | ⟨_,_,_,_,h1⟩ | ⟨_,_,_,_,h1⟩ | ⟨_,_,h1⟩⟩ | ⟨_,_,_,h1⟩⟩ | ⟨h',_,_,h1⟩
      ·rcases h' with e | ⟨e,_⟩ <;> omega
      all_goals omega
    ·omega
   exact .inl ⟨rfl,hS,nn',by omega,.p5 hp ha hs hm h0 px hw h2,nm'.ev,nm'.lf,nm'.fd,nm'.mo,nm'.il⟩
  ·rw [b]
   obtain ⟨ho,mw,ev,g⟩:=hm
   have et:tW P c - evB c.r.w c.r.pos - (q - evB c.r.w c.r.pos - 1) = tW P c - (q - 1):=by omega
   rw [et] at mw
   have nmo:=nm.mo
   unfold Cr.moved
   rw [if_neg (by simp)]
   rcases ho with o | o | o
   ·rw [o,if_pos rfl]
    exact WI.on (A:=(c.m.step C who A).2.2) (m':=(c.m.step C who A).2.1) (mo':=c.r.mo + 1) hC hS nn' q3 ha hs hT4 mw ev px (g (by omega)) (by omega) nm' (by omega)
   ·rw [o,if_neg (by decide),if_pos rfl]
    exact WI.on (A:=(c.m.step C who A).2.2) (m':=(c.m.step C who A).2.1) (mo':=c.r.mo) hC hS nn' q3 ha hs hT4 mw ev px (g (by omega)) (by omega) nm' (by omega)
   ·rw [o,if_neg (by decide),if_neg (by decide)]
    exact .inl ⟨rfl,hS,nn',by omega,.p9 rfl ha hs mw (ev.le px.x.1) (by unfold evB at hq; omega),nm'.ev,nm'.lf,nm'.fd,nm'.mo,nm'.il⟩
 | p0 hp'=>omega
 | p1 hp'=>omega
 | p2 hp'=>omega
 | p3 hp'=>omega
 | p4 hp'=>omega
 | p6 hp'=>omega
 | p9 hp'=>omega
 | p10 hp'=>omega
 | p11 hp'=>omega
end
end Go.Fl
namespace Go.Fl
open Go
set_option linter.unusedVariables false
set_option linter.unusedSimpArgs false
variable {N:Nm} {σ:Mem} {K:Value→Mem→Prop} {C:Cf} {w:Int→Int} {P:MP} {A:Ar} {who:Int}
section
variable {q:Int} {c:Co}
theorem step10w (hp:c.r.pc = 10) (r:Int):c.step C who A r = if ((c.a.getD Adv.new).step C who A).1 = true then ({ c with a:=none,r:={ c.r with at':=0,pc:=11 } },((c.a.getD Adv.new).step C who A).2.2)
  else ({ c with a:=some ((c.a.getD Adv.new).step C who A).2.1 },((c.a.getD Adv.new).step C who A).2.2):=by
 unfold Co.step; rw [if_neg (by omega),if_neg (by omega),if_neg (by omega),if_neg (by omega),if_neg (by omega),if_neg (by omega),if_neg (by omega),if_neg (by omega),if_neg (by omega),if_neg (by omega),if_pos hp]
theorem step11w (hp:c.r.pc = 11) (r:Int):c.step C who A r = if ((c.s.getD (Stl.new c.r.at')).step C who A).1 = true then ({ c with s:=none,r:=c.r.settled C ((c.s.getD (Stl.new c.r.at')).step C who A).2.1.freed },((c.s.getD (Stl.new c.r.at')).step C who A).2.2)
  else ({ c with s:=some ((c.s.getD (Stl.new c.r.at')).step C who A).2.1 },((c.s.getD (Stl.new c.r.at')).step C who A).2.2):=by
 unfold Co.step; rw [if_neg (by omega),if_neg (by omega),if_neg (by omega),if_neg (by omega),if_neg (by omega),if_neg (by omega),if_neg (by omega),if_neg (by omega),if_neg (by omega),if_neg (by omega),if_neg (by omega)]
theorem WI.s6 (hC:C.ok) (h:WI C P q c A) (hp:6 ≤ c.r.pc∧c.r.pc ≤ 8) (hrd:c.r.rd ≤ 1300) (r:Int):WR C P q c (c.step C who A r):=by
 obtain ⟨hS,nn,q3,wc,nm⟩:=h
 have hn0:=hS.n0
 have hT4:tW P c ≤ 4194000:=by unfold tW; omega
 cases wc with
 | p6 _ ha hs mw ev hn hq =>
  have nm':=nm.mono (t':=tW P c - (q - 1)) (by omega)
  have mw':MW C P (tW P c - (q - 1)) (-1) (-1) A.w:=mw.mono (by omega)
  have nev:=nm.ev
  rcases (show c.r.pc = 6 ∨ c.r.pc = 7 ∨ c.r.pc = 8 by omega) with e | e | e
  ·have st:c.step C who A r = ({ c with r:={ c.r with now:=A.w 0,pc:=7 } },(A.by who).load 0):=by
    unfold Co.step; rw [if_neg (by omega),if_neg (by omega),if_neg (by omega),if_neg (by omega),if_neg (by omega),if_neg (by omega),if_pos e]
   rw [st]
   exact .inl ⟨rfl,hS,nn,by omega,.p6 ⟨(by decide:(6:Int) ≤ 7),(by decide:(7:Int) ≤ 8)⟩ ha hs mw' ev (fun _=>mw.bd 0) (by show 535 - 7 ≤ q - 1; omega),nm'.ev,nm'.lf,nm'.fd,nm'.mo,nm'.il⟩
  ·have st:c.step C who A r = ({ c with r:={ c.r with pc:=8 } },(A.by who).store (C.chunk c.r.at' + 2) c.r.now):=by
    unfold Co.step; rw [if_neg (by omega),if_neg (by omega),if_neg (by omega),if_neg (by omega),if_neg (by omega),if_neg (by omega),if_neg (by omega),if_pos e]
   rw [st]
   have hmw:MW C P (tW P c - (q - 1)) (-1) (-1) (upd A.w (C.chunk c.r.at' + 2) c.r.now):=mw.low hC hS (by omega) (hn e) (.inr (.inl ⟨_,ev.ab.1,ev.ab.2,.inr rfl⟩))
   refine .inl ⟨rfl,hS,nn,by omega,.p6 ⟨(by decide:(6:Int) ≤ 8),(by decide:(8:Int) ≤ 8)⟩ ha hs hmw ?_ (fun q=>absurd (show (8:Int) = 7 from q) (by decide)) (by show 535 - 8 ≤ q - 1; omega),nm'.ev,nm'.lf,nm'.fd,nm'.mo,nm'.il⟩
   have hSS:=hC.S
   exact ev.keep (fun j j0 j1=>.inl (upd_ne _ _ (by unfold Cf.chunk; omega))) fun s s0 s1=>.inl (upd_ne _ _ (by have:=ev.ab; unfold Cf.chunk Cf.slot; omega))
  ·have st:c.step C who A r = ({ c with r:={ c.r with ev:=c.r.ev + 1,pc:=10 } },(A.by who).store (C.chunk c.r.at') (chw c.r.w 3)):=by
    unfold Co.step; rw [if_neg (by omega),if_neg (by omega),if_neg (by omega),if_neg (by omega),if_neg (by omega),if_neg (by omega),if_neg (by omega),if_neg (by omega),if_pos e]
   rw [st]
   obtain ⟨v1,v2,v3,v4⟩:=chw_put (w:=c.r.w) (st:=3) (by decide)
   have kk:=mw.ck _ ev.ab.1 ev.ab.2
   rw [ev.ecw] at kk
   have kn:=chw_n (v:=c.r.w) (st:=3)
   have kn2:=kk.n
   have hmw:MW C P (tW P c - (q - 1)) (-1) (-1) (upd A.w (C.chunk c.r.at') (chw c.r.w 3)):=by
    refine mw.chunk hC hS (by omega) ev.ab.1 ev.ab.2 v4 ⟨by rw [v2]; exact kk.c,by rw [v3]; exact kk.u,by rw [v3,v2]; exact kk.m,by omega,fun _=>by rw [v3]; exact kk.p (by rw [ev.c2]; decide)⟩ (.inl rfl) (fun g=>by rw [v1] at g; omega) (fun s a x s0 s1 l _ e p=>?_) (by omega)
    have px:=p.xb
    rw [ev.ecw] at px
    have rr:=hS.rm s0 s1 l
    exact absurd (e.trans p.ea) (ev.ev s s0 s1 l x px.1 (by omega))
   refine .inl ⟨rfl,hS,nn,by omega,.p10 rfl hs hmw (fun j j0 j1 g=>?_) (fun v e=>by rw [show c.a = some v from e] at ha; cases ha) (by show 520 - apA c.a ≤ q - 1; rw [ha]; show 520 - 0 ≤ q - 1; omega),by show 0 ≤ c.r.ev + 1∧c.r.ev + 1 ≤ tW P c - (q - 1); omega,nm'.lf,nm'.fd,nm'.mo,nm'.il⟩
   have g':chS (upd A.w (C.chunk c.r.at') (chw c.r.w 3) (C.chunk j)) = 2:=g
   by_cases ej:j = c.r.at'
   ·rw [ej,upd_same,v1] at g'; exact absurd g' (by decide)
   ·rw [upd_ne _ _ (ck_ne ej).1] at g'; exact ej (ev.s2 j j0 j1 g')
 | p0 hp'=>omega
 | p1 hp'=>omega
 | p2 hp'=>omega
 | p3 hp'=>omega
 | p4 hp'=>omega
 | p5 hp'=>omega
 | p9 hp'=>omega
 | p10 hp'=>omega
 | p11 hp'=>omega
theorem WI.s9 (hC:C.ok) (h:WI C P q c A) (hp:c.r.pc = 9) (hrd:c.r.rd ≤ 1300) (r:Int):WR C P q c (c.step C who A r):=by
 obtain ⟨hS,nn,q3,wc,nm⟩:=h
 have hn0:=hS.n0
 have hT4:tW P c ≤ 4194000:=by unfold tW; omega
 cases wc with
 | p9 _ ha hs mw ev hq =>
  have nm':=nm.mono (t':=tW P c - (q - 1)) (by omega)
  have nlf:=nm.lf
  have st:c.step C who A r = ({ c with r:={ c.r with lf:=c.r.lf + 1,pc:=10 } },(A.by who).store (C.chunk c.r.at') (chw c.r.w 1)):=by
   unfold Co.step; rw [if_neg (by omega),if_neg (by omega),if_neg (by omega),if_neg (by omega),if_neg (by omega),if_neg (by omega),if_neg (by omega),if_neg (by omega),if_neg (by omega),if_pos hp]
  rw [st]
  obtain ⟨v1,v2,v3,v4⟩:=chw_put (w:=c.r.w) (st:=1) (by decide)
  have kk:=mw.ck _ ev.ab.1 ev.ab.2
  rw [ev.ecw] at kk
  have kn:=chw_n (v:=c.r.w) (st:=1)
  have kn2:=kk.n
  have hmw:MW C P (tW P c - (q - 1)) (-1) (-1) (upd A.w (C.chunk c.r.at') (chw c.r.w 1)):=by
   refine mw.chunk hC hS (by omega) ev.ab.1 ev.ab.2 v4 ⟨by rw [v2]; exact kk.c,by rw [v3]; exact kk.u,by rw [v3,v2]; exact kk.m,by omega,fun g=>by rw [v1] at g; omega⟩ (.inl rfl) (fun _ x x0 x1 xm hne=>?_) (fun s a x s0 s1 l _ _ p=>⟨.inl v1,by rw [v2,ev.ecw],by rw [v3,ev.ecw]; exact Int.le_refl _⟩) (by omega)
   rw [v3] at x1; rw [v2] at xm
   exact mw.hd _ x ev.ab.1 ev.ab.2 (.inr (by rw [ev.ecw]; exact ev.c2)) x0 (by rw [ev.ecw]; exact x1) (by rw [ev.ecw]; exact xm) hne
  refine .inl ⟨rfl,hS,nn,by omega,.p10 rfl hs hmw (fun j j0 j1 g=>?_) (fun v e=>by rw [show c.a = some v from e] at ha; cases ha) (by show 520 - apA c.a ≤ q - 1; rw [ha]; show 520 - 0 ≤ q - 1; omega),nm'.ev,by show 0 ≤ c.r.lf + 1∧c.r.lf + 1 ≤ tW P c - (q - 1); omega,nm'.fd,nm'.mo,nm'.il⟩
  have g':chS (upd A.w (C.chunk c.r.at') (chw c.r.w 1) (C.chunk j)) = 2:=g
  by_cases ej:j = c.r.at'
  ·rw [ej,upd_same,v1] at g'; exact absurd g' (by decide)
  ·rw [upd_ne _ _ (ck_ne ej).1] at g'; exact ej (ev.s2 j j0 j1 g')
 | p0 hp'=>omega
 | p1 hp'=>omega
 | p2 hp'=>omega
 | p3 hp'=>omega
 | p4 hp'=>omega
 | p5 hp'=>omega
 | p6 hp'=>omega
 | p10 hp'=>omega
 | p11 hp'=>omega
theorem WI.s10 (hC:C.ok) (h:WI C P q c A) (hp:c.r.pc = 10) (hrd:c.r.rd ≤ 1300) (r:Int):WR C P q c (c.step C who A r):=by
 obtain ⟨hS,nn,q3,wc,nm⟩:=h
 have hn0:=hS.n0
 have hT4:tW P c ≤ 4194000:=by unfold tW; omega
 cases wc with
 | p10 _ hs mw n2 ha hq =>
  have nm':=nm.mono (t':=tW P c - (q - 1)) (by omega)
  have mw':MW C P (tW P c - (q - 1)) (-1) (-1) A.w:=mw.mono (by omega)
  have hT:=hC.T; have hC3:=hC.C; have hcc:=hS.cc
  have ep:=mw.ep
  have e0:=(mw.bd 0).1
  have a10:apA c.a ≤ 10:=by
   cases e:c.a with
   | none=>decide
   | some v =>
    have:=(ha v e).2
    show (if v.pc = 1 then 1 + v.at' else 10) ≤ 10
    split <;> omega
  have fin:∀ A':Ar,A'.n = A.n→MW C P (tW P c - (q - 1)) (-1) (-1) A'.w→no2 C A'.w→WR C P q c ({ c with a:=none,r:={ c.r with at':=0,pc:=11 } },A'):=fun A' en hm h2 =>
   .inl ⟨rfl,hS,by rw [en]; exact nn,by omega,.p11 rfl rfl hm h2 ⟨Int.le_refl 0,by show (0:Int) < C.C; omega⟩ (fun v e=>by rw [show c.s = some v from e] at hs; cases hs) (by show 50 * (C.C - 0) - spS c.s ≤ q - 1; rw [hs]; show 50 * (C.C - 0) - 0 ≤ q - 1; omega),nm'.ev,nm'.lf,nm'.fd,nm'.mo,nm'.il⟩
  rw [step10w hp]
  cases ea:c.a with
  | none =>
   have e1:Adv.new.step C who A = (false,{ Adv.new with now:=A.w 0,pc:=1 },(A.by who).load 0):=by unfold Adv.step; rw [if_pos (show Adv.new.pc = 0 from rfl)]
   rw [Option.getD_none,e1,if_neg (by simp)]
   refine .inl ⟨rfl,hS,nn,by omega,.p10 hp hs mw' n2 (fun v e=>?_) ?_,nm'.ev,nm'.lf,nm'.fd,nm'.mo,nm'.il⟩
   ·obtain rfl:(⟨1,A.w 0,0,false⟩:Adv) = v:=by injection e
    exact ⟨rfl,.inl ⟨rfl,Int.le_refl 0,by show (0:Int) < C.T; omega⟩⟩
   ·rw [ea] at hq
    have hq':520 - 0 ≤ q:=hq
    show 520 - (if (1:Int) = 1 then 1 + (0:Int) else 10) ≤ q - 1
    rw [if_pos rfl]; omega
  | some v =>
   obtain ⟨v1,v2⟩:=ha v ea
   rw [ea] at hq
   have hq':520 - (if v.pc = 1 then 1 + v.at' else 10) ≤ q:=hq
   rw [Option.getD_some]
   rcases v2 with ⟨q1,q2⟩ | ⟨q1,q2⟩
   ·have z:=mw.pn _ q2.1 q2.2
    have cnd:¬ (A.w (6 + v.at') ≠ 0∧A.w (6 + v.at') ≠ IntKind.u64.wrap (v.now + 1)):=fun x=>x.1 z
    have e1:v.step C who A = (false,{ v with at':=v.at' + 1,pc:=if C.T ≤ v.at' + 1 then 2 else v.pc },(A.by who).load (6 + v.at')):=by unfold Adv.step; rw [if_neg (by omega),if_pos q1,if_neg cnd]
    rw [e1,if_neg (by simp)]
    rw [if_pos q1] at hq'
    refine .inl ⟨rfl,hS,nn,by omega,.p10 hp hs mw' n2 (fun u e=>?_) ?_,nm'.ev,nm'.lf,nm'.fd,nm'.mo,nm'.il⟩
    ·obtain rfl:({ v with at':=v.at' + 1,pc:=if C.T ≤ v.at' + 1 then 2 else v.pc }:Adv) = u:=by injection e
     refine ⟨v1,?_⟩
     by_cases g:C.T ≤ v.at' + 1
     ·exact .inr ⟨if_pos g,by show 0 ≤ v.at' + 1; omega⟩
     ·exact .inl ⟨(if_neg g).trans q1,by show 0 ≤ v.at' + 1; omega,by show v.at' + 1 < C.T; omega⟩
    ·show 520 - (if (if C.T ≤ v.at' + 1 then (2:Int) else v.pc) = 1 then 1 + (v.at' + 1) else 10) ≤ q - 1
     by_cases g:C.T ≤ v.at' + 1
     ·rw [if_pos g,if_neg (by decide)]; omega
     ·rw [if_neg g,if_pos q1]; omega
   ·have wr:IntKind.u64.wrap (v.now + 1) = A.w 0 + 1:=by rw [v1]; exact u64w (by omega) (by omega)
    have e1:v.step C who A = (true,{ v with went:=decide (A.w 0 = v.now) },(A.by who).store 0 (A.w 0 + 1)):=by unfold Adv.step; rw [if_neg (by omega),if_neg (by omega),cas_yes (by exact v1.symm),wr]
    rw [e1,if_pos rfl]
    exact fin _ rfl (mw.low hC hS (by omega) (by omega) (.inl ⟨rfl,by omega⟩)) (n2.keep fun j j0 j1=>upd_ne _ _ (by have:=ck_lt hC j0 j1; omega))
 | p0 hp'=>omega
 | p1 hp'=>omega
 | p2 hp'=>omega
 | p3 hp'=>omega
 | p4 hp'=>omega
 | p5 hp'=>omega
 | p6 hp'=>omega
 | p9 hp'=>omega
 | p11 hp'=>omega
theorem WI.set (hC:C.ok) (hS:MS C P) (q3:q ≤ 3000) (ha:c.a = none) (f:Bool) (hp:c.r.pc = 11) (h0:0 ≤ c.r.at'∧c.r.at' < C.C) (hq:50 * (C.C - c.r.at') - 45 ≤ q) {A':Ar} (nn:C.len ≤ A'.n∧(A'.n:Int) ≤ 200000000) (mw:MW C P (tW P c - (q - 1)) (-1) (-1) A'.w) (n2:no2 C A'.w) (nm:Nw (tW P c - q) c) :
  WR C P q c ({ c with s:=none,r:=c.r.settled C f },A'):=by
 have nm':=nm.mono (t':=tW P c - (q - 1)) (by omega)
 have hcc:=hS.cc
 have nfd:=nm.fd
 have nil:=nm.il
 have hfd:0 ≤ (if f = true then c.r.fd + 1 else c.r.fd)∧(if f = true then c.r.fd + 1 else c.r.fd) ≤ tW P c - (q - 1):=by split <;> omega
 unfold Cr.settled
 by_cases z:C.C ≤ c.r.at' + 1
 ·simp only [if_pos z]
  have et:tW P { c with s:=none,r:=⟨0,c.r.x1,0,c.r.pos,c.r.w,c.r.now,c.r.x6,c.r.x7,.pointer none,c.r.ev,c.r.lf,(if f = true then c.r.fd + 1 else c.r.fd),c.r.mo,c.r.rd + 1,c.r.ev,c.r.lf,(if f = true then c.r.fd + 1 else c.r.fd),c.r.mo,c.r.rd + 1,(if c.r.ev ≠ c.r.ev2 ∨ c.r.mo ≠ c.r.mo2 ∨ (if f = true then c.r.fd + 1 else c.r.fd) ≠ c.r.fd2 then 0 else c.r.idle + 1)⟩ } = tW P c + 3000:=by
   show P.N0 + 3000 * (c.r.rd + 1) + 3000 = P.N0 + 3000 * c.r.rd + 3000 + 3000; omega
  refine .inr ⟨⟨rfl,rfl,rfl⟩,hS,nn,by omega,.p0 rfl ha rfl ?_ n2 ⟨Int.le_refl 0,by show (0:Int) < C.C; omega⟩ (fun e=>absurd rfl e) (by show 2 * (C.C - 0) + 2310 ≤ 3000; omega),?_⟩
  ·rw [et]; exact mw.mono (by omega)
  ·rw [et]
   have n1:=nm'.ev; have n2:=nm'.lf; have n3:=nm'.mo
   refine ⟨by show 0 ≤ c.r.ev∧c.r.ev ≤ _; omega,by show 0 ≤ c.r.lf∧c.r.lf ≤ _; omega,by show 0 ≤ (if f = true then c.r.fd + 1 else c.r.fd)∧(if f = true then c.r.fd + 1 else c.r.fd) ≤ _; omega,by show 0 ≤ c.r.mo∧c.r.mo ≤ _; omega,?_⟩
   show 0 ≤ (if c.r.ev ≠ c.r.ev2 ∨ c.r.mo ≠ c.r.mo2 ∨ (if f = true then c.r.fd + 1 else c.r.fd) ≠ c.r.fd2 then 0 else c.r.idle + 1)∧(if c.r.ev ≠ c.r.ev2 ∨ c.r.mo ≠ c.r.mo2 ∨ (if f = true then c.r.fd + 1 else c.r.fd) ≠ c.r.fd2 then 0 else c.r.idle + 1) ≤ c.r.rd + 1
   by_cases g:c.r.ev ≠ c.r.ev2 ∨ c.r.mo ≠ c.r.mo2 ∨ (if f = true then c.r.fd + 1 else c.r.fd) ≠ c.r.fd2
   ·rw [if_pos g]; omega
   ·rw [if_neg g]; omega
 ·simp only [if_neg z]
  exact .inl ⟨rfl,hS,nn,by omega,.p11 hp ha mw n2 ⟨by show 0 ≤ c.r.at' + 1; omega,by show c.r.at' + 1 < C.C; omega⟩ (fun v e=>by cases e) (by show 50 * (C.C - (c.r.at' + 1)) - 0 ≤ q - 1; omega),nm'.ev,nm'.lf,hfd,nm'.mo,nm'.il⟩
theorem WI.s11 (hC:C.ok) (h:WI C P q c A) (hp:c.r.pc = 11) (hrd:c.r.rd ≤ 1300) (r:Int):WR C P q c (c.step C who A r):=by
 obtain ⟨hS,nn,q3,wc,nm⟩:=h
 have hn0:=hS.n0
 have hT4:tW P c ≤ 4194000:=by unfold tW; omega
 cases wc with
 | p11 _ ha mw n2 h0 hs hq =>
  have nm':=nm.mono (t':=tW P c - (q - 1)) (by omega)
  have mw':MW C P (tW P c - (q - 1)) (-1) (-1) A.w:=mw.mono (by omega)
  have hcc:=hS.cc
  have b:=ck_lt hC h0.1 h0.2
  have kk:=mw.ck _ h0.1 h0.2
  have s45:spS c.s ≤ 45:=by
   cases e:c.s with
   | none=>decide
   | some v =>
    obtain ⟨_,h3,h4,_,h5⟩:=hs v e
    have:=kk.u
    rw [← h4] at this
    rw [sp0]
    split
    ·omega
    ·split <;> omega
  have go:∀ (v:Stl) (A':Ar),A'.n = A.n→MW C P (tW P c - (q - 1)) (-1) (-1) A'.w→(∀ j,0 ≤ j→j < C.C→A'.w (C.chunk j) = A.w (C.chunk j))→(v.ch = c.r.at'∧chS (A.w (C.chunk c.r.at')) = 3∧v.w = A.w (C.chunk c.r.at')∧v.freed = false∧((v.pc = 1 ∨ v.pc = 2)∧v.at' = 0 ∨ v.pc = 3∧(0 ≤ v.at'∧v.at' < chU v.w) ∨ v.pc = 4 ∨ v.pc = 5))→spS c.s < spS (some v) →
    WR C P q c ({ c with s:=some v },A'):=fun v A' en hm hk hv hl=>by
   refine .inl ⟨rfl,hS,by rw [en]; exact nn,by omega,.p11 hp ha hm (n2.keep hk) h0 (fun u e=>?_) ?_,nm'.ev,nm'.lf,nm'.fd,nm'.mo,nm'.il⟩
   ·obtain rfl:v = u:=by injection e
    rw [hk _ h0.1 h0.2]; exact hv
   ·show 50 * (C.C - c.r.at') - spS (some v) ≤ q - 1; omega
  have ho3:chS (A.w (C.chunk c.r.at')) = 3→∀ s a x,Pla C P A.w s a c.r.at' x→False:=fun e s a x p=>by have:=p.st; omega
  rw [step11w hp]
  cases es:c.s with
  | none =>
   have e1:(Stl.new c.r.at').step C who A = (!decide (chS (A.w (C.chunk c.r.at')) = 3),{ Stl.new c.r.at' with w:=A.w (C.chunk c.r.at'),pc:=1 },(A.by who).load (C.chunk c.r.at')):=by unfold Stl.step; rw [if_pos (show (Stl.new c.r.at').pc = 0 from rfl)]; rfl
   rw [Option.getD_none,e1]
   by_cases c3:chS (A.w (C.chunk c.r.at')) = 3
   ·rw [if_neg (by simp [c3])]
    exact go ⟨c.r.at',1,A.w (C.chunk c.r.at'),0,0,false⟩ ((A.by who).load (C.chunk c.r.at')) rfl mw' (fun _ _ _=>rfl) ⟨rfl,c3,rfl,rfl,.inl ⟨.inl rfl,rfl⟩⟩ (by rw [es,sp1 (by show (1:Int) ≤ 2; decide)]; show (0:Int) < 1; decide)
   ·rw [if_pos (by simp [c3])]
    exact WI.set hC hS q3 ha _ hp h0 (by omega) (A':=(A.by who).load (C.chunk c.r.at')) nn mw' n2 nm
  | some v =>
   obtain ⟨v1,v3,v4,v5,v6⟩:=hs v es
   rw [Option.getD_some]
   rcases v6 with ⟨q1 | q1,q2⟩ | ⟨q1,q2⟩ | q1 | q1
   ·have e1:v.step C who A = (false,{ v with since:=A.w (C.chunk v.ch + 2),pc:=2 },(A.by who).load (C.chunk v.ch + 2)):=by unfold Stl.step; rw [if_neg (by omega),if_pos q1]
    rw [e1,if_neg (by simp)]
    exact go { v with since:=A.w (C.chunk v.ch + 2),pc:=2 } ((A.by who).load (C.chunk v.ch + 2)) rfl mw' (fun _ _ _=>rfl) ⟨v1,v3,v4,v5,.inl ⟨.inr rfl,q2⟩⟩ (by rw [es,sp1 (by omega),sp1 (by show (2:Int) ≤ 2; decide)]; show v.pc < 2; omega)
   ·have e1:v.step C who A = (decide (A.w 0 < IntKind.u64.wrap (v.since + 2)),{ v with pc:=3 },(A.by who).load 0):=by unfold Stl.step; rw [if_neg (by omega),if_neg (by omega),if_pos q1]
    rw [e1]
    by_cases cd:A.w 0 < IntKind.u64.wrap (v.since + 2)
    ·rw [if_pos (by simp [cd])]
     exact WI.set hC hS q3 ha _ hp h0 (by omega) (A':=(A.by who).load 0) nn mw' n2 nm
    ·rw [if_neg (by simp [cd])]
     refine go { v with pc:=3 } ((A.by who).load 0) rfl mw' (fun _ _ _=>rfl) ⟨v1,v3,v4,v5,.inr (.inl ⟨rfl,by show 0 ≤ v.at'∧v.at' < chU v.w; rw [q2,v4]; exact ⟨Int.le_refl 0,kk.p (by rw [v3]; decide)⟩⟩)⟩ ?_
     rw [es,sp1 (by omega),sp3 (by rfl)]; show v.pc < 3 + v.at'; omega
   ·have e1:v.step C who A = (false,{ v with at':=v.at' + 1,pc:=if chU v.w ≤ v.at' + 1 then 4 else v.pc },(A.by who).store (C.base c.r.at' + v.at') 0):=by unfold Stl.step; rw [if_neg (by omega),if_neg (by omega),if_neg (by omega),if_pos q1,v1]
    rw [e1,if_neg (by simp)]
    have ku:=kk.u
    rw [← v4] at ku
    have bb:=base_ge hC h0.1 h0.2 q2.1
    have hmw:MW C P (tW P c - (q - 1)) (-1) (-1) (upd A.w (C.base c.r.at' + v.at') 0):=mw.word hC hS (by omega) h0.1 h0.2 q2.1 (by omega) (by decide) (fun g=>by omega) (fun s a _ _ _ _ _ x p _=>ho3 v3 s a x p) (by omega)
    refine go { v with at':=v.at' + 1,pc:=if chU v.w ≤ v.at' + 1 then 4 else v.pc } ((A.by who).store (C.base c.r.at' + v.at') 0) rfl hmw (fun j j0 j1=>upd_ne _ _ (by have:=ck_lt hC j0 j1; omega)) ⟨v1,v3,v4,v5,?_⟩ ?_
    ·by_cases z:chU v.w ≤ v.at' + 1
     ·exact .inr (.inr (.inl (if_pos z)))
     ·exact .inr (.inl ⟨(if_neg z).trans q1,by show 0 ≤ v.at' + 1; omega,by show v.at' + 1 < chU v.w; omega⟩)
    ·rw [es,sp3 q1]
     by_cases z:chU v.w ≤ v.at' + 1
     ·have e:(if chU v.w ≤ v.at' + 1 then (4:Int) else v.pc) = 4:=if_pos z
      rw [sp4 (by show 4 ≤ (if chU v.w ≤ v.at' + 1 then (4:Int) else v.pc); omega)]
      show 3 + v.at' < 40 + (if chU v.w ≤ v.at' + 1 then (4:Int) else v.pc); omega
     ·have e:(if chU v.w ≤ v.at' + 1 then (4:Int) else v.pc) = v.pc:=if_neg z
      rw [sp3 (by show (if chU v.w ≤ v.at' + 1 then (4:Int) else v.pc) = 3; omega)]
      show 3 + v.at' < 3 + (v.at' + 1); omega
   ·have e1:v.step C who A = (false,{ v with pc:=5 },(A.by who).store (C.chunk c.r.at' + 1) 0):=by unfold Stl.step; rw [if_neg (by omega),if_neg (by omega),if_neg (by omega),if_neg (by omega),if_pos q1,v1]
    rw [e1,if_neg (by simp)]
    refine go { v with pc:=5 } ((A.by who).store (C.chunk c.r.at' + 1) 0) rfl (mw.low hC hS (by omega) (by decide) (.inr (.inl ⟨_,h0.1,h0.2,.inl rfl⟩))) (fun j j0 j1=>upd_ne _ _ (by unfold Cf.chunk; omega)) ⟨v1,v3,v4,v5,.inr (.inr (.inr rfl))⟩ ?_
    rw [es,sp4 (by omega),sp4 (by show (4:Int) ≤ 5; decide)]; show 40 + v.pc < 40 + 5; omega
   ·have e1:v.step C who A = (true,{ v with freed:=true },(A.by who).store (C.chunk v.ch) (putChunk 0 0 0 (chN v.w + 1))):=by unfold Stl.step; rw [if_neg (by omega),if_neg (by omega),if_neg (by omega),if_neg (by omega),if_neg (by omega)]
    rw [e1,if_pos rfl,v1]
    have kn:=kk.n
    have nb:=chN_bd v.w
    rw [← v4] at kn
    obtain ⟨z1,z2,z3,z4⟩:=ch_put (st:=0) (c:=0) (us:=0) (sp:=chN v.w + 1) (by decide) (by decide) (by decide) (by omega)
    have hmw:MW C P (tW P c - (q - 1)) (-1) (-1) (upd A.w (C.chunk c.r.at') (putChunk 0 0 0 (chN v.w + 1))):=mw.chunk hC hS (by omega) h0.1 h0.2 (putChunk_in _ _ _ _) ⟨by rw [z2]; decide,by rw [z3]; have:=hC.W; omega,by rw [z3,Int.zero_emod],by rw [z4]; omega,fun g=>by rw [z1] at g; omega⟩ (.inl rfl) (fun g=>by rw [z1] at g; omega) (fun s a x _ _ _ _ _ p=>(ho3 v3 s a x p).elim) (by omega)
    refine WI.set hC hS q3 ha _ hp h0 (by omega) (A':=(A.by who).store (C.chunk c.r.at') (putChunk 0 0 0 (chN v.w + 1))) nn hmw (fun j j0 j1 g=>?_) nm
    have g':chS (upd A.w (C.chunk c.r.at') (putChunk 0 0 0 (chN v.w + 1)) (C.chunk j)) = 2:=g
    by_cases ej:j = c.r.at'
    ·rw [ej,upd_same,z1] at g'; exact absurd g' (by decide)
    ·rw [upd_ne _ _ (ck_ne ej).1] at g'; exact n2 j j0 j1 g'
 | p0 hp'=>omega
 | p1 hp'=>omega
 | p2 hp'=>omega
 | p3 hp'=>omega
 | p4 hp'=>omega
 | p5 hp'=>omega
 | p6 hp'=>omega
 | p9 hp'=>omega
 | p10 hp'=>omega
theorem WI.step (hC:C.ok) (h:WI C P q c A) (hrd:c.r.rd ≤ 1300) (r:Int) (hr:c.may C A r):WR C P q c (c.step C who A r):=by
 have hw:=h.wc
 cases hw with
 | p0 hp=>exact h.s0 hC hp r
 | p1 hp=>exact h.s1 hC hp r
 | p2 hp=>exact h.s2 hC hp r hr
 | p3 hp=>exact h.s3 hC hp hrd r
 | p4 hp=>exact h.s4 hC hp hrd r
 | p5 hp=>exact h.s5 hC hp hrd r
 | p6 hp=>exact h.s6 hC hp hrd r
 | p9 hp=>exact h.s9 hC hp hrd r
 | p10 hp=>exact h.s10 hC hp hrd r
 | p11 hp=>exact h.s11 hC hp hrd r
end
end Go.Fl
namespace Go.Fl
open Go
set_option linter.unusedVariables false
set_option linter.unusedSimpArgs false
variable {N:Nm} {σ:Mem} {K:Value→Mem→Prop} {C:Cf} {w:Int→Int} {P:MP} {A:Ar} {who:Int}
section
variable {q:Int} {c:Co}
theorem WI.bd (h:WI C P q c A):∀ i,0 ≤ A.w i∧A.w i < 18446744073709551616:=by
 cases h.wc with
 | p0 hp ha hs mw=>exact mw.bd
 | p1 hp ha hs mw=>exact mw.bd
 | p2 hp ha hs mw=>exact mw.bd
 | p3 hp ha hs mw=>exact mw.bd
 | p4 hp ha hs mw=>exact mw.bd
 | p5 hp ha hs mv=>exact mv.bd
 | p6 hp ha hs mw=>exact mw.bd
 | p9 hp ha hs mw=>exact mw.bd
 | p10 hp hs mw=>exact mw.bd
 | p11 hp ha mw=>exact mw.bd
theorem WI.fit (hC:C.ok) (h:WI C P q c A) (hrd:0 ≤ c.r.rd∧c.r.rd ≤ 1300):c.fit C A:=by
 have bd:=h.bd
 obtain ⟨hS,nn,q3,wc,nm⟩:=h
 have hn0:=hS.n0
 have hT4:tW P c ≤ 4194000:=by unfold tW; omega
 have q0:0 ≤ q ∨ True:=.inr trivial
 have hC3:=hC.C
 have n1:=nm.ev; have n2:=nm.lf; have n3:=nm.fd; have n4:=nm.mo; have n5:=nm.il
 have q1:1 ≤ q:=WI.q1 hC (A:=A) ⟨hS,nn,q3,wc,nm⟩
 have cn:c.r.cnt:=⟨⟨n3.1,by omega⟩,⟨hrd.1,by omega⟩,⟨n5.1,by omega⟩⟩
 have w1:0 ≤ c.r.ev∧c.r.ev ≤ 1000000000:=by omega
 have w2:0 ≤ c.r.lf∧c.r.lf ≤ 1000000000:=by omega
 have w3:0 ≤ c.r.mo∧c.r.mo ≤ 1000000000:=by omega
 have an:c.a = none→∀ a,c.a = some a→c.r.pc = 10∧a.fit C:=fun e a e'=>by rw [e] at e'; cases e'
 have sn:c.s = none→∀ a,c.s = some a→c.r.pc = 11∧a.fit C A:=fun e a e'=>by rw [e] at e'; cases e'
 cases wc with
 | p0 hp ha hs mw n2 h0 hl hq=>exact ⟨by omega,fun _=>⟨h0.1,fun e=>by omega,fun _=>h0.2⟩,fun _ z=>by rw [if_pos hp]; exact hl fun e=>z ⟨hp,e⟩,fun e=>by omega,fun e=>by omega,fun e=>by omega,fun e=>by omega,fun e=>by omega,an ha,sn hs,cn,w1,w2,w3⟩
 | p1 hp ha hs mw n2 h0 hl hq=>exact ⟨by omega,fun _=>⟨h0.1,fun e=>by omega,fun _=>h0.2⟩,fun _ z=>by rw [if_neg (by omega),if_pos hp]; exact hl,fun e=>by omega,fun e=>by omega,fun e=>by omega,fun e=>by omega,fun e=>by omega,an ha,sn hs,cn,w1,w2,w3⟩
 | p2 hp ha hs mw n2 h0 hl hq=>exact ⟨by omega,fun _=>⟨h0.1,fun e=>h0.2,fun e=>absurd hp e⟩,fun _ z=>by rw [if_neg (by omega),if_neg (by omega)]; exact hl,fun e=>mw.op _ h0.1 (by omega),fun e=>by omega,fun e=>by omega,fun e=>by omega,fun e=>by omega,an ha,sn hs,cn,w1,w2,w3⟩
 | p3 hp ha hs mw n2 h0 h1 hw hq=>exact ⟨by omega,fun _=>⟨h0.1,fun e=>by omega,fun _=>h0.2⟩,fun e=>by omega,fun e=>by omega,fun _ _=>hw,fun e=>by omega,fun e=>by omega,fun e=>by omega,an ha,sn hs,cn,w1,w2,w3⟩
 | p4 hp ha hs mw ev px hq =>
  have px2:=px.x; have pu:=px.u
  have hb:=(base_of hC ev.ab.1 ev.ab.2 px2.1 (by omega)).2.2
  exact ⟨by omega,fun _=>⟨ev.ab.1,fun e=>by omega,fun _=>ev.ab.2⟩,fun e=>by omega,fun e=>by omega,fun _ _=>by rw [← ev.ecw]; exact bd _,fun _ _=>px.c,fun _ _=>⟨px2.1,by omega⟩,fun e=>by omega,an ha,sn hs,cn,w1,w2,w3⟩
 | p5 hp ha hs mv h0 px hw hq =>
  have px2:=px.x; have pu:=px.u
  have hb:=(base_of hC h0.1 h0.2 px2.1 (by omega)).2.2
  have hB:=wpos_room px
  have hf:=mv.fit hC hS (by unfold evB; omega) (by omega) nn
  exact ⟨by omega,fun _=>⟨h0.1,fun e=>by omega,fun _=>h0.2⟩,fun e=>by omega,fun e=>by omega,fun _ _=>hw,fun _ _=>px.c,fun _ _=>⟨px2.1,by omega⟩,fun _=>hf,an ha,sn hs,cn,w1,w2,w3⟩
 | p6 hp ha hs mw ev hn hq=>exact ⟨by omega,fun _=>⟨ev.ab.1,fun e=>by omega,fun _=>ev.ab.2⟩,fun e=>by omega,fun e=>by omega,fun _ _=>by rw [← ev.ecw]; exact bd _,fun e=>by omega,fun e=>by omega,fun e=>by omega,an ha,sn hs,cn,w1,w2,w3⟩
 | p9 hp ha hs mw ev hq=>exact ⟨by omega,fun _=>⟨ev.ab.1,fun e=>by omega,fun _=>ev.ab.2⟩,fun e=>by omega,fun e=>by omega,fun _ _=>by rw [← ev.ecw]; exact bd _,fun e=>by omega,fun e=>by omega,fun e=>by omega,an ha,sn hs,cn,w1,w2,w3⟩
 | p10 hp hs mw n2 ha hq =>
  refine ⟨by omega,fun e=>absurd hp e,fun e=>by omega,fun e=>by omega,fun e=>by omega,fun e=>by omega,fun e=>by omega,fun e=>by omega,fun v e=>⟨hp,?_⟩,sn hs,cn,w1,w2,w3⟩
  have:=(ha v e).2
  exact ⟨⟨by omega,by omega⟩,by omega,fun _=>by omega⟩
 | p11 hp ha mw n2 h0 hs hq =>
  refine ⟨by omega,fun _=>⟨h0.1,fun e=>by omega,fun _=>h0.2⟩,fun e=>by omega,fun e=>by omega,fun e=>by omega,fun e=>by omega,fun e=>by omega,fun e=>by omega,an ha,fun v e=>⟨hp,?_⟩,cn,w1,w2,w3⟩
  obtain ⟨v1,v3,v4,v5,v6⟩:=hs v e
  refine ⟨⟨by omega,by omega⟩,by rw [v1]; exact h0,by rw [v4]; exact bd _,fun e3=>?_⟩
  have ku:=(mw.ck _ h0.1 h0.2).u
  rw [← v4] at ku
  have q2:0 ≤ v.at'∧v.at' < chU v.w:=by
   rcases v6 with ⟨q,_⟩ | ⟨_,q⟩ | q | q
   ·omega
   ·exact q
   ·omega
   ·omega
  have:=(base_of hC h0.1 h0.2 q2.1 (by omega)).2.2
  rw [v1]; omega
end
end Go.Fl
namespace Go.Fl
open Go
set_option linter.unusedVariables false
set_option linter.unusedSimpArgs false
variable {N:Nm} {A B:Ar} {σ:Mem} {K:Value→Mem→Prop} {C:Cf} {who:Int}
def ckN (C:Cf) (w:Int→Int):Prop:=∀ j,0 ≤ j→j < C.C→chN (w (C.chunk j)) ≤ 1
theorem ckN.upd {w:Int→Int} {a v:Int} (h:ckN C w) (hv:(∃ j,0 ≤ j∧j < C.C∧a = C.chunk j)→chN v ≤ 1):ckN C (Go.Fl.upd w a v):=fun j j0 j1=>by
 unfold Go.Fl.upd; split
 ·rename_i e; exact hv ⟨j,j0,j1,e.symm⟩
 ·exact h j j0 j1
theorem Ph.cn (hC:C.ok) {o u:Int→Int} {nx c k:Int} {p:Pl} (c0:0 ≤ c) (c3:c ≤ 3) (h:Ph C o u nx c k p A.w) (hq:ckN C A.w):ckN C (p.step C who A).2.2.w:=by
 have hT:=hC.T; have hS:=hC.S
 have ld:∀ a,((A.by who).load a).w = A.w:=fun _=>rfl
 obtain ⟨_,hcl,h⟩:=h
 by_cases p0:p.pc = 0
 ·have e:(p.step C who A).2.2 = (A.by who).load (2 + p.cls):=by unfold Pl.step; rw [if_pos p0]
  rw [e,ld]; exact hq
 by_cases p1:p.pc = 1
 ·have e:(p.step C who A).2.2 = (A.by who).load (C.chunk p.at'):=by unfold Pl.step; rw [if_neg p0,if_pos p1]
  rw [e,ld]; exact hq
 by_cases p3:p.pc = 3
 ·have e:(p.step C who A).2.2 = (A.by who).load (C.chunk p.at'):=by unfold Pl.step; rw [if_neg p0,if_neg p1,if_neg (by omega),if_pos p3]; dsimp only; split <;> rfl
  rw [e,ld]; exact hq
 by_cases p2:p.pc = 2
 ·have e:(p.step C who A).2.2 = (A.by who).cas (C.chunk p.at') p.w (putChunk (chS p.w) (chC p.w) (chU p.w + roomOf p.cls) (chN p.w)):=by unfold Pl.step; rw [if_neg p0,if_neg p1,if_pos p2]
  rw [e]
  by_cases q:A.w (C.chunk p.at') = p.w
  ·rw [cas_yes (by exact q)]
   refine hq.upd fun ⟨j,j0,j1,ej⟩=>?_
   have h1:=hq j j0 j1
   rw [← ej,q] at h1
   have h2:=chN_bd p.w
   unfold putChunk; unfold chN cl at *; omega
  ·rw [cas_no (by exact q)]; exact hq
 by_cases p4:p.pc = 4
 ·have e:(p.step C who A).2.2 = (A.by who).cas (C.chunk p.at') p.w p.fresh:=by unfold Pl.step; rw [if_neg p0,if_neg p1,if_neg p2,if_neg p3,if_pos p4]; split <;> rfl
  have hat:p.w = 0:=by
   rcases h with ⟨_,h⟩ | ⟨_,⟨_,h⟩ | h⟩ <;> omega
  rw [e]
  by_cases q:A.w (C.chunk p.at') = p.w
  ·rw [cas_yes (by exact q)]
   refine hq.upd fun _=>?_
   unfold Pl.fresh; rw [hat]; unfold putChunk; unfold chN cl; omega
  ·rw [cas_no (by exact q)]; exact hq
 have p5:p.pc = 5:=by
  rcases h with ⟨_,h⟩ | ⟨_,⟨_,h⟩ | h⟩ <;> omega
 have e:(p.step C who A).2.2 = (A.by who).cas (2 + p.cls) p.opn (p.at' + 1):=by unfold Pl.step; rw [if_neg p0,if_neg p1,if_neg p2,if_neg p3,if_neg p4,if_pos p5]
 rw [e]
 by_cases q:A.w (2 + p.cls) = p.opn
 ·rw [cas_yes (by exact q)]
  exact hq.upd fun ⟨j,j0,j1,ej⟩=>by unfold Cf.chunk at ej; omega
 ·rw [cas_no (by exact q)]; exact hq
theorem Mkr.cn (hC:C.ok) {b:Bg} {size bb k:Int} {own:Bool} {A0:Ar} {m:Am} (h:Mkr C b size own A0 bb k m A) (hb:bb < 2305843009213693952) (hAw:b.aw C A0.w) (hlv:b.lvok C) (hcl:0 ≤ classOf size) (k0:0 ≤ k) (hq:ckN C A.w):ckN C (m.step C who A).2.2.w:=by
 have hT:=hC.T; have hS:=hC.S; have hCC:=hC.C
 have hcl3:=(class_bd size).2
 obtain ⟨⟨⟨a,ht⟩,_⟩,_⟩:=h.step (who:=who) hC hb hAw hlv hcl k0
 have hnx:=hAw.alo.bd
 by_cases c2:m.a.pc = 2
 ·have hp:∃ kk,Ph C b.o b.u b.nx (classOf size) kk m.t A.w:=by
   rcases h.ph with q | ⟨s,F,hF,q | ⟨kk,q,_⟩ | ⟨jj,b',_,hs,_,q⟩ | ⟨_,_,_,_,_,_,kk,q,_⟩⟩
   ·have:=q.2.2.2.1; omega
   ·omega
   ·exact ⟨kk,q.2.2.2.2.1⟩
   ·rcases q with q | q
    ·omega
    ·rcases q.2 with q | ⟨_,q | q⟩ <;> omega
   ·have:=q.1; omega
  obtain ⟨kk,hp⟩:=hp
  have e:(m.step C who A).2.2 = (m.t.step C who A).2.2:=by
   unfold Am.step
   rw [if_neg (by omega),if_neg (by omega),if_pos c2]
   dsimp only
   (repeat' split) <;> rfl
  rw [e]
  exact hp.cn hC hcl hcl3 hq
 by_cases c1:m.a.pc = 1
 ·rcases ht.kind with ⟨q,_⟩ | ⟨_,_,q⟩ | ⟨q,_⟩ | ⟨q,_⟩ | ⟨q,_⟩ | ⟨q,_⟩
  ·rcases q with q | q <;> (rw [c1] at q; exact absurd q (by decide))
  ·rw [q]; exact hq
  all_goals omega
 intro j j0 j1
 have hne:C.chunk j ≠ a:=by
  have hck:=C.chunk j
  rcases ht.kind with ⟨_,q | ⟨s,s0,s1,q⟩⟩ | ⟨q,_⟩ | ⟨q,_⟩ | ⟨q,q'⟩ | ⟨q,q'⟩ | ⟨q,q'⟩
  ·unfold Cf.chunk; omega
  ·unfold Cf.slot at q; unfold Cf.chunk; omega
  ·omega
  ·omega
  ·unfold Cf.chunk at *; omega
  ·obtain ⟨s,F,jj,_,_,q1,q2,q3,q4⟩:=h.ph.spot hC hAw.alo hcl hcl3 (by omega) (by omega)
   have:=base_ge hC q2.1 q2.2 q3
   unfold Cf.chunk; omega
  ·obtain ⟨s,F,jj,hF,q0,q1,q2,q3,q4⟩:=h.ph.spot hC hAw.alo hcl hcl3 (by omega) (by omega)
   have hm:=hAw.fre.c.mem s (by rw [hF]; simp)
   unfold Cf.slot at q'; unfold Cf.chunk; omega
 rw [ht.w _ hne]; exact hq j j0 j1
theorem c_MakeQ (hN:N.ok) (hC:C.ok) (hA:isA N A σ) {b:Bg} {size bb:Int} {own:Bool} (hP:Pa C A bb) (hb:bb < 2305843009213693952) (hAw:b.aw C A.w) (hlv:b.lvok C) (hcl:0 ≤ classOf size) (hq:ckN C A.w)
  (hk:∀ m A' τ,DnM C b size own A.w A.s m A'→Pa C A' (bb + 100)→A'.n = A.n→(∀ j,0 ≤ j→j < b.nx→chC (A'.w (C.chunk j)) = chC (A.w (C.chunk j)))→(∀ i,lowW C i→A'.w i = A.w i)→ckN C A'.w→isA N A' τ→Keep N.l σ τ→K (.agg #[.int .i64 m.a.oE,.int .u64 m.a.oH,.int .i64 m.a.oV,.int .i64 m.a.oS]) τ) :
  s_bb [N.env C who,.int .i64 size,.bool own] K σ:=by
 have hCC:=hC.C
 refine c_Make hN hC hA (fun k m A'=>Mkr C b size own A bb k m A'∧(∀ j,0 ≤ j→j < b.nx→chC (A'.w (C.chunk j)) = chC (A.w (C.chunk j)))∧(∀ i,lowW C i→A'.w i = A.w i)∧ckN C A'.w) (fun m A'=>DnM C b size own A.w A.s m A'∧Pa C A' (bb + 100)∧A'.n = A.n∧(∀ j,0 ≤ j→j < b.nx→chC (A'.w (C.chunk j)) = chC (A.w (C.chunk j)))∧(∀ i,lowW C i→A'.w i = A.w i)∧ckN C A'.w) ⟨.new hP hAw,fun _ _ _=>rfl,fun _ _=>rfl,hq⟩ ?_ (fun m A' h=>by have:=h.1.ph.kle hC; omega) fun m A' τ h=>hk m A' τ h.1 h.2.1 h.2.2.1 h.2.2.2.1 h.2.2.2.2.1 h.2.2.2.2.2
 rintro k m A' k0 k1 ⟨h,hck,hlo,hq⟩
 refine ⟨h.fit hC hAw hcl,h.pa.ok.w,h.pa.n,?_⟩
 have hkl:=h.ph.kle hC
 have hck':∀ j,0 ≤ j→j < b.nx→chC ((m.step C who A').2.2.w (C.chunk j)) = chC (A.w (C.chunk j)):=fun j j0 j1=>(h.ck hC hb hAw hlv hcl k0 j0 j1).trans (hck j j0 j1)
 have hlo':∀ i,lowW C i→(m.step C who A').2.2.w i = A.w i:=fun i hi=>(h.lo hC hb hAw hlv hcl k0 hi).trans (hlo i hi)
 have hq':ckN C (m.step C who A').2.2.w:=h.cn hC hb hAw hlv hcl k0 hq
 obtain ⟨⟨⟨a,ht⟩,hla⟩,h2⟩:=h.step (who:=who) hC hb hAw hlv hcl k0
 rcases h2 with ⟨d,h'⟩ | ⟨d,h',hP'⟩
 ·rw [if_neg (by rw [d]; decide)]; exact ⟨h',hck',hlo',hq'⟩
 ·rw [if_pos d]; exact ⟨h',hP'.mono (by omega),ht.n.trans h.n,hck',hlo',hq'⟩
structure Dv (C:Cf) (i:Int) (n:Nat) (dd:Int→Do) (li:Int→Bool) (V:Int→Int→Int) (w:Int→Int) (b:Bg):Prop where
 dw:Dw C i n dd li w b
 sf:∀ s,0 ≤ s→s < C.S→s ∈ b.F ∨ ∃ k:Int,(0 ≤ k∧k < n)∧li k = true∧(dd k).s = s
 fs:∀ s,0 ≤ s→s < C.S→s ∈ b.F→slS (w (C.slot s)) = 0∧slA (w (C.slot s)) = 0
 ls:∀ k:Int,0 ≤ k→k < n→li k = true→w (C.slot (dd k).s) = putSlot 1 ((dd k).a C) (dd k).ge 0
 ce:∀ k:Int,0 ≤ k→k < n→li k = true→∀ x,0 ≤ x→x < (dd k).z→(0 ≤ V k x∧V k x ≤ 1099511627775)∧w ((dd k).a C + 1 + x) = putCell (V k x) false 0
 n1:ckN C w
def nV (V:Int→Int→Int) (n:Int):Int→Int→Int:=fun k x=>if k = n then 0 else V k x
section
variable {i:Int} {n:Nat} {dd:Int→Do} {li:Int→Bool} {V:Int→Int→Int} {w w':Int→Int} {b:Bg}
theorem Dv.mono {i':Int} (h:Dv C i n dd li V w b) (hi:i ≤ i'):Dv C i' n dd li V w b:=⟨h.dw.mono hi,h.sf,h.fs,h.ls,h.ce,h.n1⟩
theorem Dv.new (hC:C.ok) (h:Frsh N C A):Dv C 0 0 (fun _=>⟨0,0,0,false,0,0⟩) (fun _=>false) (fun _ _=>0) A.w (Bg.fr C):=by
 have hS:=hC.S; have hT:=hC.T
 refine ⟨Dw.new hC h,fun s s0 s1=>.inl ?_,fun s s0 s1 _=>?_,fun k k0 k1=>by omega,fun k k0 k1=>by omega,fun j j0 j1=>?_⟩
 ·show s ∈ upL 0 C.S.toNat
  have:∀ {n:Nat} {i s:Int},i ≤ s→s < i + n→s ∈ upL i n:=by
   intro n
   induction n with
   | zero=>intro i s h1 h2; omega
   | succ n ih =>
    intro i s h1 h2
    by_cases e:s = i
    ·subst e; exact List.mem_cons_self ..
    ·exact List.mem_cons_of_mem _ (ih (by omega) (by omega))
  exact this s0 (by omega)
 ·rw [h.w]
  unfold Cf.w0 Cf.fr
  rw [if_neg (by unfold Cf.slot; omega),if_neg (by unfold Cf.slot; omega),if_pos (by unfold Cf.slot; omega),if_pos (by unfold Cf.slot; omega)]
  exact ⟨by decide,by decide⟩
 ·have hch:C.chunk 0 ≤ C.chunk j:=by unfold Cf.chunk; omega
  rw [h.w,w0_high hC hch]; decide
theorem Dv.same (hC:C.ok) (h:Dv C i n dd li V w b) (aw:b.aw C w') (hs:∀ t,0 ≤ t→t < C.S→w' (C.slot t) = w (C.slot t)) (hw:∀ j x,0 ≤ j→j < C.C→0 ≤ x→x < b.u j→x < C.W→w' (C.base j + x) = w (C.base j + x)) (hc:∀ j,0 ≤ j→j < b.nx→chC (w' (C.chunk j)) = chC (w (C.chunk j))) (hq:ckN C w'):Dv C i n dd li V w' b:=by
 have hbd:=h.dw.aw.alo.bd
 refine ⟨h.dw.same hC aw hs hw hc,h.sf,fun s s0 s1 hm=>by rw [hs s s0 s1]; exact h.fs s s0 s1 hm,fun k k0 k1 hk=>?_,fun k k0 k1 hk x x0 x1=>?_,hq⟩
 ·have:=(h.dw.hd k k0 k1).1.2.2
  rw [hs _ this.1 this.2]; exact h.ls k k0 k1 hk
 ·obtain ⟨⟨p1,p2,p3⟩,p4,p5⟩:=h.dw.pl k k0 k1
  have hcl:=(h.dw.hd k k0 k1).2.1
  have hz:=class_room' hcl
  have pu:=(aw_ule hC h.dw.aw p1.1 (by omega)).2
  unfold Do.rm at p3
  have e:(dd k).a C + 1 + x = C.base (dd k).j + ((dd k).i + (1 + x)):=by unfold Do.a; omega
  rw [e,hw _ _ p1.1 (by omega) (by omega) (by omega) (by omega),← e]
  exact h.ce k k0 k1 hk x x0 x1
theorem Dv.make (hC:C.ok) {z s j:Int} {own:Bool} {b':Bg} {F:List Int} (h:Dv C i n dd li V w b) (hi:i ≤ 1000) (hF:b.F = s :: F) (hc:0 ≤ classOf z)
  (hg:Got C b F (classOf z) j b') (haw:(b'.count j (roomOf (classOf z))).aw C w') (h1:w' (C.slot s) = putSlot 1 (C.base j + b.u j) (slG (w (C.slot s))) 0) (h2:w' (C.base j + b.u j) = putHead 2 z s (slG (w (C.slot s))) own)
  (h3:∀ x,1 ≤ x→x < roomOf (classOf z)→w' (C.base j + (b.u j + x)) = 0) (fw:Fw C b True w w') (hck:∀ j,0 ≤ j→j < b.nx→chC (w' (C.chunk j)) = chC (w (C.chunk j))) (hq:ckN C w') :
  Dv C (i + 1) (n + 1) (addD dd n (Do.mk' C b s (slG (w (C.slot s))) z own j)) (updB li n true) (nV V n) w' (b'.count j (roomOf (classOf z))):=by
 have hm:=h.dw.aw.fre.c.mem s (by rw [hF]; simp)
 have hnd:=h.dw.aw.fre.nd
 rw [hF] at hnd
 have hsF:=(List.nodup_cons.1 hnd).1
 have hge:=h.dw.gen s hm.1 hm.2
 have hS:=hC.S
 have hbd:=h.dw.aw.alo.bd
 obtain ⟨u0,u1,u2,u3,u4⟩:=hd_handle (s:=s) (g:=slG (w (C.slot s))) (by omega) (by omega)
 have hmake:=h.dw.make (own:=own) hC hi hF hc hg haw h1 h2 fw hck
 have hbF:(b'.count j (roomOf (classOf z))).F = F:=(hg.has hC).1
 generalize hd:Do.mk' C b s (slG (w (C.slot s))) z own j = d at *
 have ds:d.s = s:=by subst hd; exact u2
 have dg:d.ge = slG (w (C.slot s)):=by subst hd; exact u3
 have da:d.a C = C.base j + b.u j:=by subst hd; rfl
 have dz:d.z = z:=by subst hd; rfl
 have aN:addD dd n d n = d:=if_pos rfl
 have aO:∀ k:Int,k < n→addD dd n d k = dd k:=fun k hk=>if_neg (by omega)
 have lN:updB li n true n = true:=if_pos rfl
 have lO:∀ k:Int,k < n→updB li n true k = li k:=fun k hk=>if_neg (by omega)
 have vO:∀ (k:Int) x,k < n→nV V n k x = V k x:=fun k x hk=>if_neg (by omega)
 have wS:∀ t,0 ≤ t→t < C.S→t ≠ s→w' (C.slot t) = w (C.slot t):=fun t t0 t1 ht=>fw.slot t t0 t1 fun _ F' e=>by rw [hF] at e; cases e; exact ht rfl
 have sne:∀ k:Int,0 ≤ k→k < n→li k = true→(dd k).s ≠ s:=fun k k0 k1 hk=>by
  have:=(h.dw.ok k k0 k1 hk).sF; rw [hF] at this; simp only [List.mem_cons,not_or] at this; exact this.1
 refine ⟨hmake,fun t t0 t1=>?_,fun t t0 t1 ht=>?_,fun k k0 k1 hk=>?_,fun k k0 k1 hk x x0 x1=>?_,hq⟩
 ·by_cases e:t = s
  ·exact .inr ⟨n,⟨by omega,by omega⟩,lN,by rw [aN,ds]; exact e.symm⟩
  ·rcases h.sf t t0 t1 with q | ⟨k,k1,k2,k3⟩
   ·rw [hF] at q
    rw [hbF]
    rcases List.mem_cons.1 q with q | q
    ·exact absurd q e
    ·exact .inl q
   ·exact .inr ⟨k,⟨k1.1,by omega⟩,by rw [lO k k1.2]; exact k2,by rw [aO k k1.2]; exact k3⟩
 ·rw [hbF] at ht
  have e:t ≠ s:=fun e=>hsF (e ▸ ht)
  rw [wS t t0 t1 e]
  exact h.fs t t0 t1 (by rw [hF]; exact List.mem_cons_of_mem _ ht)
 ·by_cases e:k = n
  ·subst e; rw [aN,ds,da,dg]; exact h1
  ·have kn:k < n:=by omega
   rw [aO k kn]; rw [lO k kn] at hk
   have o:=(h.dw.hd k k0 kn).1.2.2
   rw [wS _ o.1 o.2 (sne k k0 kn hk)]; exact h.ls k k0 kn hk
 ·by_cases e:k = n
  ·subst e
   rw [aN] at x1 ⊢
   rw [dz] at x1
   have hz:=class_room' hc
   have ev:nV V n n x = 0:=if_pos rfl
   rw [ev,da]
   refine ⟨by decide,?_⟩
   have:=h3 (1 + x) (by omega) (by omega)
   rw [show C.base j + (b.u j + (1 + x)) = C.base j + b.u j + 1 + x by omega] at this
   rw [this]; decide
  ·have kn:k < n:=by omega
   rw [aO k kn] at x1 ⊢; rw [lO k kn] at hk; rw [vO k x kn]
   obtain ⟨⟨p1,p2,p3⟩,p4,p5⟩:=h.dw.pl k k0 kn
   have hz:=class_room' (h.dw.hd k k0 kn).2.1
   have pu:=(aw_ule hC h.dw.aw p1.1 (by omega)).2
   unfold Do.rm at p3
   have e:(dd k).a C + 1 + x = C.base (dd k).j + ((dd k).i + (1 + x)):=by unfold Do.a; omega
   rw [e,fw.word _ _ p1.1 (by omega) (by omega) (by omega) (by omega),← e]
   exact h.ce k k0 kn hk x x0 x1
theorem Dv.drop (hC:C.ok) (hG:C.G = 100) {k:Int} (h:Dv C i n dd li V w b) (hi:i ≤ 90) (k0:0 ≤ k) (k1:k < n) (hk:li k = true)
  (fr:(dd k).fr C w w') (sl:w' (C.slot (dd k).s) = (dd k).nx C) (aw:Bg.aw { b.less (dd k).j (roomOf (classOf (dd k).z)) with F:=if C.G ≤ (dd k).ge then b.F else (dd k).s :: b.F } C w') :
  Dv C (i + 1) n dd (updB li k false) V w' { b.less (dd k).j (roomOf (classOf (dd k).z)) with F:=(dd k).s :: b.F }:=by
 have hdw:=h.dw.drop hC hG hi k0 k1 hk fr sl aw
 have o:=h.dw.ok k k0 k1 hk
 have hgk:=h.dw.gen _ o.s.1 o.s.2
 have hge:slG (w (C.slot (dd k).s)) = (dd k).ge:=by rw [o.ws,o.sg]
 have slw:w' (C.slot (dd k).s) = putSlot 0 0 ((dd k).ge + 1) 0:=by rw [sl]; unfold Do.nx; rw [if_neg (by omega)]
 have oj:=o.j; have oi:=o.i
 have hzk:=class_room' o.cl
 have hub:=(aw_ule hC h.dw.aw oj.1 oj.2).2
 have hbd:=h.dw.aw.alo.bd
 have wS:∀ t,0 ≤ t→t < C.S→t ≠ (dd k).s→w' (C.slot t) = w (C.slot t):=fun t t0 t1 ht=>fr.slot hC oj.1 oj.2 oi.1 t0 t1 ht
 have lT:∀ l,updB li k false l = true→l ≠ k∧li l = true:=fun l hl=>by
  by_cases e:l = k
  ·subst e; rw [show updB li l false l = false from if_pos rfl] at hl; cases hl
  ·rw [show updB li k false l = li l from if_neg e] at hl; exact ⟨e,hl⟩
 refine ⟨hdw,fun t t0 t1=>?_,fun t t0 t1 ht=>?_,fun l l0 l1 hl=>?_,fun l l0 l1 hl x x0 x1=>?_,fun j j0 j1=>?_⟩
 ·show t ∈ (dd k).s :: b.F ∨ _
  by_cases e:t = (dd k).s
  ·exact .inl (by rw [e]; exact List.mem_cons_self ..)
  ·rcases h.sf t t0 t1 with q | ⟨l,l1,l2,l3⟩
   ·exact .inl (List.mem_cons_of_mem _ q)
   ·have:l ≠ k:=fun e'=>e (by rw [← e',l3])
    exact .inr ⟨l,l1,by rw [show updB li k false l = li l from if_neg this]; exact l2,l3⟩
 ·by_cases e:t = (dd k).s
  ·rw [e,slw]; have z:=sl_put' (st:=0) (ad:=0) (ge:=(dd k).ge + 1) (ve:=0) (by decide) (by decide) (by omega); exact ⟨z.1,z.2.1⟩
  ·rw [wS t t0 t1 e]
   rcases List.mem_cons.1 (show t ∈ (dd k).s :: b.F from ht) with q | q
   ·exact absurd q e
   ·exact h.fs t t0 t1 q
 ·obtain ⟨lk,hl'⟩:=lT l hl
  have ol:=(h.dw.hd l l0 l1).1.2.2
  rw [wS _ ol.1 ol.2 (h.dw.nsl l k l0 l1 k0 k1 hl' hk lk)]; exact h.ls l l0 l1 hl'
 ·obtain ⟨lk,hl'⟩:=lT l hl
  obtain ⟨⟨p1,p2,p3⟩,p4,p5⟩:=h.dw.pl l l0 l1
  have hz:=class_room' (h.dw.hd l l0 l1).2.1
  have pu:=(aw_ule hC h.dw.aw p1.1 (by omega)).2
  have hns:=h.dw.ns l k l0 l1 k0 k1 lk
  have rmk:=(dd k).rm0
  unfold Do.rm at p3 hns rmk
  have e:(dd l).a C + 1 + x = C.base (dd l).j + ((dd l).i + (1 + x)):=by unfold Do.a; omega
  rw [e,fr.word hC oj.1 oj.2 oi.1 (by omega) o.s p1.1 (by omega) (by omega) (by omega) fun ⟨q1,q2,q3⟩=>by
   rcases hns with q | q | q
   ·exact q q1
   ·omega
   ·omega,← e]
  exact h.ce l l0 l1 hl' x x0 x1
 ·rw [fr.chunk hC oj.1 oj.2 oi.1 o.s j0 j1]; exact h.n1 j j0 j1
end
theorem c_MakeV (hN:N.ok) (hC:C.ok) (hA:isA N A σ) {i:Int} {n:Nat} {dd:Int→Do} {li:Int→Bool} {V:Int→Int→Int} {b:Bg} {z bb:Int} {own:Bool} (hP:Pa C A bb) (hb:bb < 2305843009213693952) (h:Dv C i n dd li V A.w b) (hi:i ≤ 1000) (hcl:0 ≤ classOf z)
  (k0:∀ oE oV oS A' τ,(oE = 7∧b.F = [] ∨ oE = 6∧¬ good C b.o b.u (classOf z)∧b.nx = C.C)→Dv C i n dd li V A'.w b→Pa C A' (bb + 100)→A'.n = A.n→(∀ i,lowW C i→A'.w i = A.w i)→isA N A' τ→Keep N.l σ τ→K (.agg #[.int .i64 oE,.int .u64 0,.int .i64 oV,.int .i64 oS]) τ)
  (k1:∀ oV oS A' τ s F j b' d,b.F = s :: F→Got C b F (classOf z) j b'→(d.own = own∧d.j = j∧d.z = z∧d.i = b.u j)→Dv C (i + 1) (n + 1) (addD dd n d) (updB li n true) (nV V n) A'.w (b'.count j (roomOf (classOf z)))→Pa C A' (bb + 100)→A'.n = A.n→(∀ i,lowW C i→A'.w i = A.w i)→isA N A' τ→Keep N.l σ τ →
   K (.agg #[.int .i64 0,.int .u64 d.n,.int .i64 oV,.int .i64 oS]) τ):s_bb [N.env C who,.int .i64 z,.bool own] K σ:=by
 refine c_MakeQ hN hC hA hP hb h.dw.aw (h.dw.lv.ok (by omega)) hcl h.n1 fun m A' τ hD hP' hn hck hlo hq hA' hK=>?_
 have hfw:=hD.fw
 rcases hD.r with ⟨e,eH,eF,haw⟩ | ⟨s,F,hF,⟨e,eH,ng,nx,haw⟩ | ⟨e,_,j,b',hg,jb,ub,eH,haw,w1,w2,w3⟩⟩
 ·rw [eH]
  exact k0 _ _ _ A' τ (.inl ⟨e,eF⟩) (h.same hC haw (fun t t0 t1=>hfw.slot t t0 t1 fun q=>by rw [e] at q; exact absurd q (by decide)) (fun j x j0 j1 x0 x1 x2=>hfw.word j x j0 j1 x0 x1 x2) hck hq) hP' hn hlo hA' hK
 ·rw [eH]
  exact k0 _ _ _ A' τ (.inr ⟨e,ng,nx⟩) (h.same hC haw (fun t t0 t1=>hfw.slot t t0 t1 fun q=>by rw [e] at q; exact absurd q (by decide)) (fun j x j0 j1 x0 x1 x2=>hfw.word j x j0 j1 x0 x1 x2) hck hq) hP' hn hlo hA' hK
 ·rw [e,eH]
  exact k1 _ _ A' τ s F j b' (Do.mk' C b s (slG (A.w (C.slot s))) z own j) hF hg ⟨rfl,rfl,rfl,rfl⟩ (h.make hC hi hF hcl hg haw w1 w2 w3 (hfw.mono fun _=>trivial) hck hq) hP' hn hlo hA' hK
theorem c_DropV (hN:N.ok) (hC:C.ok) (hG:C.G = 100) (hA:isA N A σ) {i k:Int} {n:Nat} {dd:Int→Do} {li:Int→Bool} {V:Int→Int→Int} {b:Bg} {bb:Int} (hP:Pa C A bb) (hb:bb < 2305843009213693952) (h:Dv C i n dd li V A.w b) (hi:i ≤ 90) (k0:0 ≤ k) (k1:k < n) (hk:li k = true)
  (kk:∀ oH oV oS A' τ,Dv C (i + 1) n dd (updB li k false) V A'.w { b.less (dd k).j (roomOf (classOf (dd k).z)) with F:=(dd k).s :: b.F }→Pa C A' (bb + 60)→A'.n = A.n→(∀ i,lowW C i→A'.w i = A.w i)→isA N A' τ→Keep N.l σ τ→K (.agg #[.int .i64 0,.int .u64 oH,.int .i64 oV,.int .i64 oS]) τ) :
  s_bc [N.env C who,.int .u64 (dd k).n,.bool (dd k).own] K σ:=by
 have o:=h.dw.ok k k0 k1 hk
 have hlv:=h.dw.lv.lv _ o.j.1 o.j.2
 refine c_DropAn hN hC hA hP hb h.dw.aw o (by omega) fun m A' τ hD hP' hn' hA' hK=>?_
 refine kk _ _ _ A' τ (h.drop hC hG hi k0 k1 hk hD.fr hD.sl hD.aw) hP' hn' (fun x hx=>?_) hA' hK
 have hx':x = 0 ∨ 6 ≤ x∧x < 6 + C.T:=hx
 have hbd:=base_ge hC o.j.1 o.j.2 o.i.1
 have ea:(dd k).a C = C.base (dd k).j + (dd k).i:=rfl
 have os:=o.s
 have oj:=o.j
 have hT:=hC.T
 exact hD.fr x (by unfold Cf.slot; omega) (by omega) (by unfold Cf.slot; omega) (by unfold Cf.chunk; omega) (by omega)
end Go.Fl
namespace Go.Fl
open Go
set_option linter.unusedVariables false
set_option linter.unusedSimpArgs false
variable {N:Nm} {A B:Ar} {σ:Mem} {K:Value→Mem→Prop} {C:Cf} {who:Int} {P:MP}
def MP.of (C:Cf) (w:Int→Int):MP:=⟨w,fun s=>decide (slS (w (C.slot s)) = 1),fun s=>slG (w (C.slot s)),fun s=>hdS (w (slA (w (C.slot s)))),fun s=>hdO (w (slA (w (C.slot s)))),fun s x=>ceV (w (slA (w (C.slot s)) + 1 + x)),100,-1,0⟩
section
variable {i:Int} {n:Nat} {dd:Int→Do} {li:Int→Bool} {V:Int→Int→Int} {w w':Int→Int} {b:Bg}
theorem Dw.mul (hC:C.ok) (h:Dw C i n dd li w b) {k:Int} (k0:0 ≤ k) (k1:k < n):(dd k).i % (dd k).rm = 0:=by
 obtain ⟨⟨p1,p2,p3⟩,p4,p5⟩:=h.pl k k0 k1
 have rm:=(dd k).rm0
 have hr:=room_bd (h.hd k k0 k1).2.1 (class_bd (dd k).z).2
 have er:roomOf (chC (w (C.chunk (dd k).j))) = (dd k).rm:=by rw [p4]; rfl
 have hrm:3 ≤ (dd k).rm:=hr.1
 have e1:=Int.emod_add_mul_ediv (dd k).i (dd k).rm
 have e2:=Int.emod_nonneg (dd k).i (show (dd k).rm ≠ 0 by omega)
 have e3:=Int.emod_lt_of_pos (dd k).i (show 0 < (dd k).rm by omega)
 have e4:0 ≤ (dd k).rm * ((dd k).i / (dd k).rm):=Int.mul_nonneg (by omega) (Int.ediv_nonneg p2 (by omega))
 obtain ⟨k',k1',q1,q2⟩:=h.cov (dd k).j ((dd k).rm * ((dd k).i / (dd k).rm)) p1.1 p1.2 e4 (by omega) (by rw [er]; exact Int.mul_emod_right _ _)
 by_cases e:k' = k
 ·subst e; omega
 ·obtain ⟨_,p4',_⟩:=h.pl k' k1'.1 k1'.2
  have er':(dd k').rm = (dd k).rm:=by
   rw [q1,p4] at p4'
   unfold Do.rm; rw [p4']
  rcases h.ns k' k k1'.1 k1'.2 k0 k1 e with q | q | q
  ·exact absurd q1 q
  ·omega
  ·omega
theorem Dv.one (hC:C.ok) (h:Dv C i n dd li V w b) (hi:i ≤ 1000) {k:Int} (k0:0 ≤ k) (k1:k < n) (hk:li k = true) :
  (MP.of C w).lv (dd k).s = true∧(MP.of C w).g (dd k).s = (dd k).ge∧(MP.of C w).z (dd k).s = (dd k).z∧(MP.of C w).o (dd k).s = (dd k).own∧(∀ x,0 ≤ x→x < (dd k).z→(MP.of C w).L (dd k).s x = V k x)∧slA (w (C.slot (dd k).s)) = (dd k).a C∧(0 ≤ (dd k).a C∧(dd k).a C ≤ 1048575):=by
 have o:=h.dw.ok k k0 k1 hk
 have hd:=h.dw.hd k k0 k1
 obtain ⟨⟨p1,p2,p3⟩,p4,p5⟩:=h.dw.pl k k0 k1
 have hbd:=h.dw.aw.alo.bd
 have av:=(dd k).av hC o ⟨_,h.dw.aw⟩
 have hS:=hC.S
 have z:=sl_put' (st:=1) (ad:=(dd k).a C) (ge:=(dd k).ge) (ve:=0) (by decide) (by omega) (by omega)
 have hh:=hd_put (k:=2) (s:=(dd k).z) (t:=(dd k).s) (g:=(dd k).ge) (o:=(dd k).own) (by decide) (by omega) (by omega) (by omega)
 have ls:=h.ls k k0 k1 hk
 have ea:slA (w (C.slot (dd k).s)) = (dd k).a C:=by rw [ls]; exact z.2.1
 refine ⟨?_,?_,?_,?_,fun x x0 x1=>?_,ea,by omega⟩
 ·show decide (slS (w (C.slot (dd k).s)) = 1) = true
  rw [ls,z.1]; decide
 ·show slG (w (C.slot (dd k).s)) = _
  rw [ls]; exact z.2.2
 ·show hdS (w (slA (w (C.slot (dd k).s)))) = _
  rw [ea,p5]; exact hh.2.1
 ·show hdO (w (slA (w (C.slot (dd k).s)))) = _
  rw [ea,p5]; exact hh.2.2.2.2
 ·show ceV (w (slA (w (C.slot (dd k).s)) + 1 + x)) = _
  obtain ⟨c1,c2⟩:=h.ce k k0 k1 hk x x0 x1
  rw [ea,c2]; exact (ce_put c1 (by decide)).1
theorem Dv.who' (hC:C.ok) (h:Dv C i n dd li V w b) {s:Int} (s0:0 ≤ s) (s1:s < C.S) (l:(MP.of C w).lv s = true):∃ k:Int,(0 ≤ k∧k < n)∧li k = true∧(dd k).s = s:=by
 have l':slS (w (C.slot s)) = 1:=of_decide_eq_true l
 rcases h.sf s s0 s1 with q | q
 ·have:=h.fs s s0 s1 q; omega
 ·exact q
theorem Dv.ms (hC:C.ok) (h:Dv C i n dd li V w b) (hi:i ≤ 1000) (cc:C.C ≤ 8∧C.W ≤ 40):MS C (MP.of C w):=by
 refine ⟨cc,fun s s0 s1 l=>?_,fun s s0 s1 l=>?_,.inl rfl,by show (0:Int) ≤ 100∧(100:Int) ≤ 1000; decide⟩
 ·obtain ⟨k,k1,k2,rfl⟩:=h.who' hC s0 s1 l
  obtain ⟨u1,u2,u3,u4,u5,u6,u7⟩:=h.one hC hi k1.1 k1.2 k2
  have hd:=h.dw.hd k k1.1 k1.2
  rw [u3,u2]
  refine ⟨hd.2.1,by omega,fun x x0 x1=>?_⟩
  rw [u5 x x0 x1]; exact (h.ce k k1.1 k1.2 k2 x x0 x1).1
 ·have l':¬ slS (w (C.slot s)) = 1:=of_decide_eq_false l
  show slS (w (C.slot s)) ≠ 1∧slS (w (C.slot s)) ≠ 4
  rcases h.sf s s0 s1 with q | ⟨k,k1,k2,rfl⟩
  ·have:=h.fs s s0 s1 q; omega
  ·have:=of_decide_eq_true (h.one hC hi k1.1 k1.2 k2).1
   exact absurd this l'
theorem Dv.mw (hC:C.ok) (h:Dv C i n dd li V w b) (hi:i ≤ 1000) (cc:C.C ≤ 8∧C.W ≤ 40) {t:Int} (ht:1 ≤ t) (hbw:∀ i,0 ≤ w i∧w i < 18446744073709551616) (h0:w 0 ≤ t) (hpi:∀ i,0 ≤ i→i < C.T→w (6 + i) = 0):MW C (MP.of C w) t (-1) (-1) w:=by
 have hbd:=h.dw.aw.alo.bd
 have hS:=hC.S
 refine ⟨hbw,fun j j0 j1=>?_,fun j x j0 j1 hs x0 x1 xm _=>?_,fun s s0 s1 l=>rfl,fun s s0 s1 l _=>?_,fun k k0 k1=>h.dw.op k0 k1,h0,hpi,.inl rfl⟩
 ·have hn:=h.n1 j j0 j1
  by_cases q:j < b.nx
  ·have old:=h.dw.aw.alo.old j j0 q
   have um:=h.dw.um j j0 q
   exact ⟨um.2.1,by rw [old.2.1]; exact old.2.2.2,by rw [old.2.1]; exact um.1,by omega,fun g=>by omega⟩
  ·have nw:=(h.dw.aw.alo.new j (by omega) j1).1
   rw [nw] at hn ⊢
   exact ⟨by decide,by have:=hC.W; show (0:Int) ≤ C.W; omega,by decide,by omega,fun g=>absurd g (by decide)⟩
 ·have hc:=h.dw.chs j0 j1
  have jn:j < b.nx:=hc.2.2 (by rcases hs with q | q <;> rcases hc.1 with u | u <;> omega)
  rw [hc.2.1] at x1
  obtain ⟨k,k1,e1,e2⟩:=h.dw.cov j x j0 jn x0 x1 xm
  obtain ⟨_,p4,p5⟩:=h.dw.pl k k1.1 k1.2
  have hd:=h.dw.hd k k1.1 k1.2
  have hz:=class_room' hd.2.1
  have hh:=hd_put (k:=2) (s:=(dd k).z) (t:=(dd k).s) (g:=(dd k).ge) (o:=(dd k).own) (by decide) (by omega) (by omega) (by omega)
  have ea:(dd k).a C = C.base j + x:=by unfold Do.a; rw [e1,e2]
  rw [ea] at p5
  rw [p5]
  exact .inr (.inl ⟨hh.1,by rw [hh.2.2.1]; exact hd.1.2.2,by rw [hh.2.1]; exact hd.2.1⟩)
 ·obtain ⟨k,k1,k2,rfl⟩:=h.who' hC s0 s1 l
  obtain ⟨u1,u2,u3,u4,u5,u6,u7⟩:=h.one hC hi k1.1 k1.2 k2
  obtain ⟨⟨p1,p2,p3⟩,p4,p5⟩:=h.dw.pl k k1.1 k1.2
  have hd:=h.dw.hd k k1.1 k1.2
  have old:=h.dw.aw.alo.old _ p1.1 p1.2
  have um:=h.dw.um _ p1.1 p1.2
  have rmz:(MP.of C w).rm (dd k).s = (dd k).rm:=by unfold MP.rm Do.rm; rw [u3]
  refine ⟨(dd k).a C,0,by rw [u2]; exact h.ls k k1.1 k1.2 k2,⟨Int.le_refl 0,by omega⟩,⟨(dd k).j,(dd k).i,rfl,⟨p1.1,by omega⟩,by rw [rmz,old.2.1]; exact ⟨p2,p3⟩,?_,by rw [u3]; exact p4,.inl old.1⟩,?_,fun x x0 x1=>?_⟩
  · -- its place is a multiple of its room
   rw [rmz]
   exact h.dw.mul hC k1.1 k1.2
  ·unfold MP.hw
   rw [if_neg (by show (dd k).a C ≠ -1; omega),u3,u2,u4]; exact p5
  ·rw [u3] at x1; rw [u5 x x0 x1]; exact (h.ce k k1.1 k1.2 k2 x x0 x1).2
end
theorem WI.init (hC:C.ok) (hS:MS C P) (mw:MW C P P.N0 (-1) (-1) A.w) (nn:C.len ≤ A.n∧(A.n:Int) ≤ 200000000) (n2:no2 C A.w):WI C P (2 * C.C + 2310) Co.new A:=by
 have hn0:=hS.n0
 have hC3:=hC.C
 have hcc:=hS.cc
 have et:tW P Co.new - (2 * C.C + 2310) = P.N0 + (690 - 2 * C.C):=by show P.N0 + 3000 * 0 + 3000 - (2 * C.C + 2310) = _; omega
 refine ⟨hS,nn,by omega,.p0 rfl rfl rfl ?_ n2 ⟨Int.le_refl 0,by show (0:Int) < C.C; omega⟩ (fun e=>absurd rfl e) (by show 2 * (C.C - 0) + 2310 ≤ 2 * C.C + 2310; omega),?_⟩
 ·rw [et]; exact mw.mono (by omega)
 ·rw [et]
  exact ⟨⟨by decide,by show (0:Int) ≤ _; omega⟩,⟨by decide,by show (0:Int) ≤ _; omega⟩,⟨by decide,by show (0:Int) ≤ _; omega⟩,⟨by decide,by show (0:Int) ≤ _; omega⟩,by decide,by decide⟩
theorem Dv.wi (hC:C.ok) {i:Int} {n:Nat} {dd:Int→Do} {li:Int→Bool} {V:Int→Int→Int} {b:Bg} (h:Dv C i n dd li V A.w b) (hi:i ≤ 1000) (cc:C.C ≤ 8∧C.W ≤ 40) (hbw:∀ i,0 ≤ A.w i∧A.w i < 18446744073709551616) (h0:A.w 0 = 0) (hpi:∀ i,0 ≤ i→i < C.T→A.w (6 + i) = 0) (nn:C.len ≤ A.n∧(A.n:Int) ≤ 200000000) :
  WI C (MP.of C A.w) (2 * C.C + 2310) Co.new A :=
 WI.init hC (h.ms hC hi cc) (h.mw hC hi cc (by show (1:Int) ≤ 100; decide) hbw (by rw [h0]; show (0:Int) ≤ 100; decide) hpi) nn fun j j0 j1=>by rcases (h.dw.chs j0 j1).1 with q | q <;> omega
def okT (C:Cf) (A:Ar) (a:Int):Prop:=a < C.base 0 ∨ ∃ j x,(0 ≤ j∧j < C.C)∧0 ≤ x∧a = C.base j + x∧chS (A.w (C.chunk j)) ≠ 0∧x < chU (A.w (C.chunk j))∧chU (A.w (C.chunk j)) ≤ C.W
structure Tx (C:Cf) (A A':Ar):Prop where
 s:A'.s = IntKind.i64.wrap (A.s + 1)
 la:okT C A A'.la
 ck:¬ A'.la < C.base 0→∀ j,0 ≤ j→j < C.C→A'.w (C.chunk j) = A.w (C.chunk j)
 fm:∃ who a,A' = (A.by who).load a ∨ ∃ v,A' = (A.by who).store a v
theorem Tx.ld {a:Int} (h:okT C A a):Tx C A ((A.by who).load a):=⟨rfl,h,fun _ _ _ _=>rfl,_,_,.inl rfl⟩
theorem Tx.st (hC:C.ok) {a v:Int} (h:okT C A a):Tx C A ((A.by who).store a v):=⟨rfl,h,fun q j j0 j1=>upd_ne _ _ (by
 have q':¬ a < C.base 0:=q
 have:=ck_lt hC j0 j1
 have e0:C.base 0 = 6 + C.T + 2 * C.S + 3 * C.C:=by unfold Cf.base; omega
 omega),_,_,.inr ⟨_,rfl⟩⟩
theorem Tx.ok {A':Ar} {b:Int} (h:Tx C A A') (ho:A.ok b) (hb:b < 4611686018427387904) (hw:∀ i,0 ≤ A'.w i∧A'.w i < 18446744073709551616):A'.ok (b + 1):=by
 obtain ⟨who,a,rfl | ⟨v,rfl⟩⟩:=h.fm
 ·exact (aft_load ho (by omega)).ok (by decide) ho hw
 ·exact (aft_store ho (by omega)).ok (by decide) ho hw
theorem Tx.cs (hC:C.ok) {a o v:Int} (h:okT C A a):Tx C A ((A.by who).cas a o v):=by
 by_cases e:A.w a = o
 ·rw [cas_yes (show (A.by who).w _ = _ from e)]; exact Tx.st hC h
 ·rw [cas_no (show (A.by who).w _ ≠ _ from e)]; exact Tx.ld h
theorem Tx.ad (hC:C.ok) {a d:Int} (h:okT C A a):Tx C A ((A.by who).add a d):=by rw [add_eq]; exact Tx.st hC h
theorem okT.lo (hC:C.ok) {a:Int} (h:a = 0 ∨ a = 1 ∨ (∃ k,0 ≤ k∧k ≤ 3∧a = 2 + k) ∨ (∃ i,0 ≤ i∧i < C.T∧a = 6 + i) ∨ (∃ s,0 ≤ s∧s < C.S∧a = C.slot s) ∨ ∃ j d,(0 ≤ j∧j < C.C)∧(0 ≤ d∧d ≤ 2)∧a = C.chunk j + d):okT C A a:=by
 have e0:C.base 0 = 6 + C.T + 2 * C.S + 3 * C.C:=by unfold Cf.base; omega
 have hT:=hC.T; have hS:=hC.S; have hC3:=hC.C
 refine .inl ?_
 rcases h with e | e | ⟨k,k0,k1,e⟩ | ⟨k,k0,k1,e⟩ | ⟨s,s0,s1,e⟩ | ⟨j,d,j0,d0,e⟩
 ·omega
 ·omega
 ·omega
 ·omega
 ·unfold Cf.slot at e; omega
 ·unfold Cf.chunk at e; omega
theorem okT.ck (hC:C.ok) {j:Int} (j0:0 ≤ j) (j1:j < C.C) {d:Int} (hd:0 ≤ d∧d ≤ 2):okT C A (C.chunk j + d):=okT.lo hC (.inr (.inr (.inr (.inr (.inr ⟨j,d,⟨j0,j1⟩,hd,rfl⟩)))))
theorem okT.ck0 (hC:C.ok) {j:Int} (j0:0 ≤ j) (j1:j < C.C):okT C A (C.chunk j):=by
 have:=okT.ck (A:=A) hC j0 j1 (d:=0) (by decide)
 rwa [Int.add_zero] at this
theorem okT.sl (hC:C.ok) {s:Int} (h:0 ≤ s∧s < C.S):okT C A (C.slot s):=okT.lo hC (.inr (.inr (.inr (.inr (.inl ⟨s,h.1,h.2,rfl⟩)))))
theorem MvI.touch (hC:C.ok) (hS:MS C P) {T at' pos cw q:Int} {m:Mv} (h:MvI C P T at' pos cw q m A.w) (hT:T ≤ 4194000) (hq:1 ≤ q):Tx C A (m.step C who A).2.2:=by
 cases h with
 | a h =>
  obtain ⟨e,_⟩:=h.step (who:=who) hC hS hT
  rw [e]
  have es:m.a.hs = hdT (A.w (C.base at' + pos)):=by rw [h.em]; rfl
  exact Tx.ld (okT.sl hC (by rw [es]; exact h.t))
 | b s v k u hc h =>
  obtain ⟨⟨a,ha,e | ⟨y,_,e⟩⟩,_⟩:=h.step (who:=who) hC hS hc hT hq
  all_goals
   have hcl:0 ≤ classOf (P.z s)∧classOf (P.z s) ≤ 3:=⟨(hS.lv s hc.sb.1 hc.sb.2 hc.l).1,(class_bd _).2⟩
   have ho:okT C A a:=by
    rcases ha with rfl | ⟨j,j0,j1,rfl⟩
    ·exact okT.lo hC (.inr (.inr (.inl ⟨_,hcl.1,hcl.2,rfl⟩)))
    ·exact okT.ck0 hC j0 j1
   rw [e]
  ·exact Tx.ld ho
  ·exact Tx.st hC ho
 | c s v xs hc h =>
  obtain ⟨rr,gp,gx,ga,gs,gg,gS,gne⟩:=h.geo hC hS hc
  obtain ⟨c1,c2,c3,c4,c5,c6⟩:=hc.con
  have hib:=h.ib
  have px:=h.pa.xb
  have sx:=h.sp.x
  have uW:=h.uW
  have oa:∀ d,0 ≤ d→d ≤ P.z s→okT C A (m.a.addr + d):=fun d d0 d1=>.inr ⟨at',pos + d,h.ev.ab,by omega,by rw [c1]; omega,by rcases h.pa.st with q | q <;> omega,by omega,uW.1⟩
  have os:∀ d,0 ≤ d→d ≤ P.z s→okT C A (m.a.sa + d):=fun d d0 d1=>.inr ⟨m.a.sc,xs + d,h.sp.j,by omega,by rw [h.sp.esa]; omega,by have:=h.sp.st; omega,by omega,uW.2⟩
  have os0:okT C A m.a.sa:=by have:=os 0 (Int.le_refl 0) (by omega); rwa [Int.add_zero] at this
  have osl:okT C A (C.slot m.a.hs):=okT.sl hC (by rw [c4]; exact hc.sb)
  have hpc:(2 ≤ m.a.pc∧m.a.pc ≤ 10)∧(m.a.pc = 4 ∨ m.a.pc = 5 ∨ m.a.pc = 6→m.a.i < P.z s):=by
   rcases h.ph with ⟨h',_⟩ | ⟨_,_,⟨_,_,⟨p,hi,_⟩ | ⟨p,hi,_⟩ | ⟨p,hi,_⟩ | ⟨p,_⟩⟩ | ⟨p,_⟩⟩ | ⟨p,_⟩
   ·rcases h' with e | ⟨e,_⟩ <;> omega
   all_goals omega
  obtain ⟨hb,hi⟩:=hpc
  unfold Mv.step
  rw [if_neg (show ¬ m.a.pc = 0 by omega),if_neg (show ¬ m.a.pc = 1 by omega)]
  by_cases p2:m.a.pc = 2
  ·rw [if_pos p2]; exact Tx.st hC os0
  rw [if_neg p2]
  by_cases p3:m.a.pc = 3
  ·rw [if_pos p3]; exact Tx.cs hC osl
  rw [if_neg p3]
  by_cases p4:m.a.pc = 4
  ·rw [if_pos p4]
   have:=oa (1 + m.a.i) (by omega) (by have:=hi (.inl p4); omega)
   rw [← Int.add_assoc] at this
   exact Tx.ld this
  rw [if_neg p4]
  by_cases p5:m.a.pc = 5
  ·rw [if_pos p5]
   have:=oa (1 + m.a.i) (by omega) (by have:=hi (.inr (.inl p5)); omega)
   rw [← Int.add_assoc] at this
   exact Tx.cs hC this
  rw [if_neg p5]
  by_cases p6:m.a.pc = 6
  ·rw [if_pos p6]
   have:=os (1 + m.a.i) (by omega) (by have:=hi (.inr (.inr p6)); omega)
   rw [← Int.add_assoc] at this
   exact Tx.st hC this
  rw [if_neg p6]
  by_cases p7:m.a.pc = 7
  ·rw [if_pos p7]; (repeat' split) <;> exact Tx.cs hC osl
  rw [if_neg p7]
  by_cases p8:m.a.pc = 8
  ·rw [if_pos p8]; exact Tx.st hC os0
  rw [if_neg p8]
  by_cases p9:m.a.pc = 9
  ·rw [if_pos p9]; exact Tx.ad hC (okT.ck hC h.sp.j.1 h.sp.j.2 (by decide))
  rw [if_neg p9,if_pos (show m.a.pc = 10 by omega),c1,(base_of hC h.ev.ab.1 h.ev.ab.2 gp.1 (by omega)).1]
  exact Tx.ad hC (okT.ck hC h.ev.ab.1 h.ev.ab.2 (by decide))
theorem WI.touch (hC:C.ok) {q:Int} {c:Co} (h:WI C P q c A) (hrd:c.r.rd ≤ 1300) (r:Int):Tx C A (c.step C who A r).2:=by
 obtain ⟨hS,nn,q3,wc,nm⟩:=h
 have hn0:=hS.n0
 have hT4:tW P c ≤ 4194000:=by unfold tW; omega
 have o0:okT C A 0:=okT.lo hC (.inl rfl)
 cases wc with
 | p0 hp ha hs mw n2 h0 hl hq =>
  unfold Co.step; rw [if_pos hp]; exact Tx.ld (okT.ck0 hC h0.1 h0.2)
 | p1 hp ha hs mw n2 h0 hl hq =>
  unfold Co.step; rw [if_neg (by omega),if_pos hp]; exact Tx.ld (okT.ck hC h0.1 h0.2 (by decide))
 | p2 hp ha hs mw n2 h0 hl hq =>
  unfold Co.step; rw [if_neg (by omega),if_neg (by omega),if_pos hp]
  (repeat' split) <;> exact Tx.ld (okT.lo hC (.inr (.inr (.inl ⟨_,h0.1,by omega,rfl⟩))))
 | p3 hp ha hs mw n2 h0 h1 hw hq =>
  unfold Co.step; rw [if_neg (by omega),if_neg (by omega),if_neg (by omega),if_pos hp]; exact Tx.cs hC (okT.ck0 hC h0.1 h0.2)
 | p4 hp ha hs mw ev px hq =>
  have o:okT C A (C.base c.r.at' + c.r.pos):=.inr ⟨_,_,ev.ab,px.x.1,rfl,by rw [ev.ecw,ev.c2]; decide,by rw [ev.ecw]; exact px.x.2,by rw [ev.ecw]; exact px.u⟩
  unfold Co.step; rw [if_neg (by omega),if_neg (by omega),if_neg (by omega),if_neg (by omega),if_pos hp]
  (repeat' split) <;> exact Tx.ld o
 | p5 hp ha hs mv h0 px hw hq =>
  have pr:=wpos_room px
  unfold Co.step; rw [if_neg (by omega),if_neg (by omega),if_neg (by omega),if_neg (by omega),if_neg (by omega),if_pos hp]
  exact mv.touch hC hS (by unfold evB; omega) (by omega)
 | p6 hp ha hs mw ev hn hq =>
  rcases (show c.r.pc = 6 ∨ c.r.pc = 7 ∨ c.r.pc = 8 by omega) with e | e | e
  ·unfold Co.step; rw [if_neg (by omega),if_neg (by omega),if_neg (by omega),if_neg (by omega),if_neg (by omega),if_neg (by omega),if_pos e]; exact Tx.ld o0
  ·unfold Co.step; rw [if_neg (by omega),if_neg (by omega),if_neg (by omega),if_neg (by omega),if_neg (by omega),if_neg (by omega),if_neg (by omega),if_pos e]; exact Tx.st hC (okT.ck hC ev.ab.1 ev.ab.2 (by decide))
  ·unfold Co.step; rw [if_neg (by omega),if_neg (by omega),if_neg (by omega),if_neg (by omega),if_neg (by omega),if_neg (by omega),if_neg (by omega),if_neg (by omega),if_pos e]; exact Tx.st hC (okT.ck0 hC ev.ab.1 ev.ab.2)
 | p9 hp ha hs mw ev hq =>
  unfold Co.step; rw [if_neg (by omega),if_neg (by omega),if_neg (by omega),if_neg (by omega),if_neg (by omega),if_neg (by omega),if_neg (by omega),if_neg (by omega),if_neg (by omega),if_pos hp]; exact Tx.st hC (okT.ck0 hC ev.ab.1 ev.ab.2)
 | p10 hp hs mw n2 ha hq =>
  have hT:=hC.T
  have hst:Tx C A ((c.a.getD Adv.new).step C who A).2.2:=by
   cases ea:c.a with
   | none=>rw [Option.getD_none]; unfold Adv.step; rw [if_pos (show Adv.new.pc = 0 from rfl)]; exact Tx.ld o0
   | some v =>
    obtain ⟨_,v2⟩:=ha v ea
    rw [Option.getD_some]; unfold Adv.step
    rcases v2 with ⟨q1,q2⟩ | ⟨q1,q2⟩
    ·rw [if_neg (by omega),if_pos q1]
     (repeat' split) <;> exact Tx.ld (okT.lo hC (.inr (.inr (.inr (.inl ⟨_,q2.1,q2.2,rfl⟩)))))
    ·rw [if_neg (by omega),if_neg (by omega)]; exact Tx.cs hC o0
  rw [step10w hp]
  split <;> exact hst
 | p11 hp ha mw n2 h0 hs hq =>
  have hst:Tx C A ((c.s.getD (Stl.new c.r.at')).step C who A).2.2:=by
   cases es:c.s with
   | none=>rw [Option.getD_none]; unfold Stl.step; rw [if_pos (show (Stl.new c.r.at').pc = 0 from rfl)]; exact Tx.ld (okT.ck0 hC h0.1 h0.2)
   | some v =>
    obtain ⟨v1,v3,v4,v5,v6⟩:=hs v es
    rw [Option.getD_some]; unfold Stl.step; rw [v1]
    rcases v6 with ⟨q1 | q1,q2⟩ | ⟨q1,q2⟩ | q1 | q1
    ·rw [if_neg (by omega),if_pos q1]; exact Tx.ld (okT.ck hC h0.1 h0.2 (by decide))
    ·rw [if_neg (by omega),if_neg (by omega),if_pos q1]; exact Tx.ld o0
    ·rw [if_neg (by omega),if_neg (by omega),if_neg (by omega),if_pos q1]
     exact Tx.st hC (.inr ⟨_,_,h0,q2.1,rfl,by rw [v3]; decide,by rw [← v4]; exact q2.2,(mw.ck _ h0.1 h0.2).u⟩)
    ·rw [if_neg (by omega),if_neg (by omega),if_neg (by omega),if_neg (by omega),if_pos q1]; exact Tx.st hC (okT.ck hC h0.1 h0.2 (by decide))
    ·rw [if_neg (by omega),if_neg (by omega),if_neg (by omega),if_neg (by omega),if_neg (by omega)]; exact Tx.st hC (okT.ck0 hC h0.1 h0.2)
  rw [step11w hp]
  split <;> exact hst
end Go.Fl
namespace Go.Fl
open Go
set_option linter.unusedVariables false
set_option linter.unusedSimpArgs false
variable {N:Nm} {A B:Ar} {σ:Mem} {K:Value→Mem→Prop} {C:Cf} {who:Int}
theorem c_CoBusy {p:Nat} {O:List Nat} {c:Co} (h:COb N p O c σ):s_am [.pointer (some ⟨p,0,none⟩)] K σ = K (.bool (decide (c.r.pc ≠ 0 ∨ 0 < c.r.at'))) σ:=by
 obtain ⟨x1,x6,x7,x8,g⟩:=h.get
 simp only [s_am,w_am,ruS,ruL,ruE,Nat.reduceAdd,reduceIte,Int.reduceLT,Int.reduceLE,Int.reduceEq,Int.reduceNeg,Int.reduceAdd,Int.reduceSub,Nat.reduceLeDiff,Nat.reduceLT]
 rw [ldG g (show sub (c.r.px x1 x6 x7 x8).l 0 1 false = some (.int .i64 c.r.pc) from rfl)]
 by_cases e:c.r.pc = 0
 ·simp only [e,ruS,ruL,ruE,Nat.reduceAdd,reduceIte,Int.reduceLT,Int.reduceLE,Int.reduceEq,Int.reduceNeg,Int.reduceAdd,Int.reduceSub,Nat.reduceLeDiff,Nat.reduceLT]
  rw [ldG g (show sub (c.r.px x1 x6 x7 x8).l 2 1 false = some (.int .i64 c.r.at') from rfl)]
  simp only [ruS,ruL,ruE,Nat.reduceAdd,reduceIte,Int.reduceLT,Int.reduceLE,Int.reduceEq,Int.reduceNeg,Int.reduceAdd,Int.reduceSub,Nat.reduceLeDiff,Nat.reduceLT]
  simp
 ·simp only [e,ruS,ruL,ruE,Nat.reduceAdd,reduceIte,Int.reduceLT,Int.reduceLE,Int.reduceEq,Int.reduceNeg,Int.reduceAdd,Int.reduceSub,Nat.reduceLeDiff,Nat.reduceLT]
  simp [e]
theorem c_CoBusyN:s_am [.pointer none] K σ = K (.bool false) σ:=by
 simp only [s_am,w_am,ruS,ruL,ruE,Nat.reduceAdd,reduceIte,Int.reduceLT,Int.reduceLE,Int.reduceEq,Int.reduceNeg,Int.reduceAdd,Int.reduceSub,Nat.reduceLeDiff,Nat.reduceLT]
theorem c_CoIdleN:s_an [.pointer none] K σ = K (.int .i64 0) σ:=by
 simp only [s_an,w_an,ruS,ruL,ruE,Nat.reduceAdd,reduceIte,Int.reduceLT,Int.reduceLE,Int.reduceEq,Int.reduceNeg,Int.reduceAdd,Int.reduceSub,Nat.reduceLeDiff,Nat.reduceLT]
theorem c_CoWorkN:s_ap [.pointer none] K σ = K (.agg #[.int .i64 0,.int .i64 0,.int .i64 0,.int .i64 0,.int .i64 0]) σ:=by
 have b:∀ K:Value→Prop,xF (fBuild [(0,1),(1,1),(2,1),(3,1),(4,1)] [.int .i64 0,.int .i64 0,.int .i64 0,.int .i64 0,.int .i64 0] []) [] K = K (.agg #[.int .i64 0,.int .i64 0,.int .i64 0,.int .i64 0,.int .i64 0]):=fun K=>nr rfl
 have g5:∀ x y z u w:Int,gStore 5 [.pointer (some ⟨2,0,some 0⟩),.agg #[.int .i64 x,.int .i64 y,.int .i64 z,.int .i64 u,.int .i64 w]] [.int .i64 0,.int .i64 0,.int .i64 0,.int .i64 0,.int .i64 0] = some [.int .i64 x,.int .i64 y,.int .i64 z,.int .i64 u,.int .i64 w]:=fun _ _ _ _ _=>rfl
 have s5:∀ {x y z u w:Value},sub [x,y,z,u,w] 0 5 true = some (.agg #[x,y,z,u,w]):=fun {_ _ _ _ _}=>rfl
 simp only [s_ap,w_ap,b,g5,s5,ruS,ruL,ruE,Nat.reduceAdd,reduceIte,Int.reduceLT,Int.reduceLE,Int.reduceEq,Int.reduceNeg,Int.reduceAdd,Int.reduceSub,Nat.reduceLeDiff,Nat.reduceLT]
theorem law_CompactSteps (σ:Mem) (s:Value) (len:Nat) (cs:List Value) (sl:Sl σ 1 len cs s) (hm:len ≤ maxLen) (hf:FlatL (List.replicate len [some .i64]).flatten cs)
  (s2:Value) (len2:Nat) (cs2:List Value) (sl2:Sl σ 1 len2 cs2 s2) (hm2:len2 ≤ maxLen) (hf2:FlatL (List.replicate len2 [none]).flatten cs2) (a0:Int) (w0:(Lit.int .i64 a0).wf = true) :
  s_bh [s,s2,.int .i64 a0] (fun v _=>v = .bool true) σ:=by
 obtain ⟨g,hg,_⟩:=sl.argI hf
 obtain ⟨kp,hkp⟩:=sl2.argB hf2
 simp only [s_bh,w_bh,ruS,ruL,ruE,Nat.reduceAdd,reduceIte,Int.reduceLT,Int.reduceLE,Int.reduceEq,Int.reduceNeg,Int.reduceAdd,Int.reduceSub,Nat.reduceLeDiff,Nat.reduceLT]
 have hC:(cA 1 30 8 34).ok:=cA_ok (by omega) (by omega) (by omega) (by omega)
 refine c_Arena (C:=cA 1 30 8 34) hC rfl rfl rfl fun N A τ hN hF hA hE hfr=>?_
 simp only [gStoreE,ruS,ruL,ruE,Nat.reduceAdd,reduceIte,Int.reduceLT,Int.reduceLE,Int.reduceEq,Int.reduceNeg,Int.reduceAdd,Int.reduceSub,Nat.reduceLeDiff,Nat.reduceLT]
 refine c_awake14 fun τ0 x0=>?_
 have hT:(cA 1 30 8 34).T = 1:=rfl
 have h8:(cA 1 30 8 34).C = 8:=rfl
 have hW:(cA 1 30 8 34).W = 34:=rfl
 have hG:(cA 1 30 8 34).G = 100:=rfl
 have hP:=(hF.pa hC).mono (show 2 * (cA 1 30 8 34).S + 2 ≤ 200 by decide)
 have dv0:=Dv.new hC hF
 have low0:∀ i,lowW (cA 1 30 8 34) i→A.w i = 0:=fun i hi=>by
  have hi':i = 0 ∨ 6 ≤ i∧i < 6 + 1:=hi
  rw [hF.w]
  unfold Cf.w0 Cf.fr
  rw [if_neg (by omega),if_neg (by show ¬ i = 6 + 1 + 2 * (30 - 1) + 1; omega),if_neg (by show ¬ (6 + 1 ≤ i∧i < 6 + 1 + 2 * 30); omega)]
 have hln:=len_bd hC
 have hnA:A.n = (cA 1 30 8 34).len.toNat:=hF.n
 have hA0:=hA.ext x0
 have hE0:=hE.trans x0
 generalize hCe:cA 1 30 8 34 = C at *
 clear hF
 simp only [w_bh_j1,w_bh_j1b,Bool.not_true,ruS,ruL,ruE,Nat.reduceAdd,reduceIte,Int.reduceLT,Int.reduceLE,Int.reduceEq,Int.reduceNeg,Int.reduceAdd,Int.reduceSub,Nat.reduceLeDiff,Nat.reduceLT]
 have gs:∀ x y z w:Int,gStore 4 [.pointer (some ⟨10,0,some 0⟩),.agg #[.int .i64 x,.int .u64 y,.int .i64 z,.int .i64 w]] [.int .i64 0,.int .u64 0,.int .i64 0,.int .i64 0] = some [.int .i64 x,.int .u64 y,.int .i64 z,.int .i64 w]:=fun _ _ _ _=>rfl
 have p7:sub (N.el C 0) 7 1 false = some N.p:=rfl
 -- all is made: steps
 have fin:∀ (i:Int) (n:Nat) dd li V A b τ,Dv C i n dd li V A.w b→i ≤ 100→(∀ i,lowW C i→A.w i = 0)→Pa C A 100000→A.n = C.len.toNat→isA N A τ→Ext σ τ →
   w_bh_j2 (fun v _=>v = .bool true) [.int .i64 a0] [N.el C 0] τ:=by
  intro i n dd li V A b τ hdv hi hlo hP hn hA hE
  have e0:A.w 0 = 0:=hlo 0 (.inl rfl)
  have hwi:=hdv.wi hC (by omega) ⟨by omega,by omega⟩ hP.ok.w e0 (fun i i0 i1=>hlo _ (.inr ⟨by omega,by omega⟩)) ⟨hP.n,by omega⟩
  have hs0:=hP.ok.s
  generalize hPe:MP.of C A.w = P at hwi
  simp only [w_bh_j2,w_bh_j2b,ruS,ruL,ruE,Nat.reduceAdd,reduceIte,Int.reduceLT,Int.reduceLE,Int.reduceEq,Int.reduceNeg,Int.reduceAdd,Int.reduceSub,Nat.reduceLeDiff,Nat.reduceLT]
  refine c_CoNew hA fun p τ2 hp hco x2=>?_
  have hmo:0 ≤ a0 % 1024∧a0 % 1024 < 1024:=by omega
  refine xLoop_r (fun x ts ls υ=>∃ (i q:Int) (c':Co) (A':Ar) (O':List Nat),x = (1200 - i).toNat∧ts = [.int .i64 a0,.pointer (some ⟨p,0,none⟩),.int .i64 i]∧ls = [N.el C 0]∧(0 ≤ i∧i ≤ 100 + a0 % 1024)∧WI C P q c' A'∧(0 ≤ c'.r.rd∧c'.r.rd ≤ i)∧(c'.r.rd = 0→q + i ≤ 2 * C.C + 2310)∧A'.s = A.s + i∧isA N A' υ∧COb N p O' c' υ) ?_ (n:=1200)
   ⟨0,_,Co.new,A,[p],rfl,rfl,rfl,⟨Int.le_refl 0,by omega⟩,hwi,⟨by decide,by decide⟩,fun _=>by omega,by omega,hA.ext x2,hco⟩
  clear hwi hco hA hE x2
  rintro x ts ls υ ⟨i,q,c',A',O',rfl,rfl,rfl,⟨i0,i1⟩,hwi,⟨r0,r1⟩,hq,hs,hA',hco⟩ R hR
  simp only [w_law14_CompactSteps_l13,w_law14_CompactSteps_l13b,andI1023,ruS,ruL,ruE,Nat.reduceAdd,reduceIte,Int.reduceLT,Int.reduceLE,Int.reduceEq,Int.reduceNeg,Int.reduceAdd,Int.reduceSub,Nat.reduceLeDiff,Nat.reduceLT]
  rw [IntWalk.i64_in (100 + a0 % 1024) (by omega)]
  by_cases ci:i < 100 + a0 % 1024
  ·simp only [ci,c_NowA hA',ruS,ruL,ruE,Nat.reduceAdd,reduceIte,Int.reduceLT,Int.reduceLE,Int.reduceEq,Int.reduceNeg,Int.reduceAdd,Int.reduceSub,Nat.reduceLeDiff,Nat.reduceLT]
   refine c_Co_Step hN hC hA' hco hwi.nn.1 hwi.nn.2 hwi.bd (hwi.fit hC ⟨r0,by omega⟩) fun r O2 τ3 hm ho2 hA2 hO2 hK2=>?_
   have hst:=hwi.step (who:=0) hC (by omega) r hm
   have htx:=hwi.touch (who:=0) hC (by omega) r
   generalize hstep:c'.step C 0 A' r = R2 at *
   obtain ⟨c2,A2⟩:=R2
   obtain ⟨ts1,tla,tck,_⟩:=htx
   dsimp only at ts1 tla tck hA2 hO2
   rw [IntWalk.i64_in (A'.s + 1) (by omega)] at ts1
   obtain ⟨q2,hw2,hr2,hq2⟩:∃ q2,WI C P q2 c2 A2∧(c'.r.rd ≤ c2.r.rd∧c2.r.rd ≤ c'.r.rd + 1)∧(c2.r.rd = 0→q2 + (i + 1) ≤ 2 * C.C + 2310):=by
    rcases hst with ⟨e,h⟩ | ⟨e,h⟩
    ·have e':c2.r.rd = c'.r.rd:=e
     exact ⟨_,h,by omega,fun z=>by have:=hq (by omega); omega⟩
    ·have e':c2.r.rd = c'.r.rd + 1:=e.1
     exact ⟨_,h,by omega,fun z=>by omega⟩
   have on:∀ v,w_bh_j4 (fun v _=>v = .bool true) (w_bh_j3 fun v _=>v = .bool true) R [.int .i64 a0,.pointer (some ⟨p,0,none⟩),.int .i64 i] [N.el C 0] v ∨ v ≠ τ3:=fun v=>by
    by_cases e:v = τ3
    ·subst e
     refine .inl ?_
     simp only [w_bh_j4,w_bh_j4b,ruS,ruL,ruE,Nat.reduceAdd,reduceIte,Int.reduceLT,Int.reduceLE,Int.reduceEq,Int.reduceNeg,Int.reduceAdd,Int.reduceSub,Nat.reduceLeDiff,Nat.reduceLT]
     rw [IntWalk.i64_in (i + 1) (by omega)]
     exact hR (1200 - (i + 1)).toNat _ _ _ (by omega) ⟨i + 1,q2,c2,A2,O2,rfl,rfl,rfl,⟨by omega,by omega⟩,hw2,⟨by omega,by omega⟩,hq2,by omega,hA2,hO2⟩
    ·exact .inr e
   have on':=(on τ3).resolve_right fun e=>e rfl
   have n1:¬ A2.s > A'.s + 1:=by omega
   have n2:¬ A2.s = A'.s:=by omega
   simp only [c_NowA hA2,ruS,ruL,ruE,Nat.reduceAdd,reduceIte,Int.reduceLT,Int.reduceLE,Int.reduceEq,Int.reduceNeg,Int.reduceAdd,Int.reduceSub,Nat.reduceLeDiff,Nat.reduceLT]
   rw [IntWalk.i64_in (A'.s + 1) (by omega)]
   have n1':decide (A'.s + 1 < A2.s) = false:=decide_eq_false (by omega)
   have n1'':decide (A2.s > A'.s + 1) = false:=decide_eq_false (by omega)
   have f0:∀ (x y z:Value) (K:Value→Prop),xF (fFldV 0 1 false) [.agg #[x,y,z]] K = K x:=fun _ _ _ K=>nr rfl
   have c7':sub (N.el C 0) 0 7 true = some C.v:=rfl
   simp only [n1,n1',n1'',n2,c_NowA hA2,p7,c7',c_LastA hA2,f0,ruS,ruL,ruE,Nat.reduceAdd,reduceIte,Int.reduceLT,Int.reduceLE,Int.reduceEq,Int.reduceNeg,Int.reduceAdd,Int.reduceSub,Nat.reduceLeDiff,Nat.reduceLT]
   have eb0:C.base 0 = 6 + C.T + 2 * C.S + 3 * C.C:=by unfold Cf.base; omega
   have hl2:=len_bd hC
   rcases tla with tl | ⟨j,y,hj,y0,ea,h1,h2,h3⟩
   ·rw [c_Of hC (by have:=hC.S; have:=hC.T; omega)]
    have eo:ofC C A2.la = -1:=by unfold ofC; rw [if_neg (by omega)]
    simp only [eo,ruS,ruL,ruE,Nat.reduceAdd,reduceIte,Int.reduceLT,Int.reduceLE,Int.reduceEq,Int.reduceNeg,Int.reduceAdd,Int.reduceSub,Nat.reduceLeDiff,Nat.reduceLT]
    exact on'
   ·have hbo:=base_of hC hj.1 hj.2 y0 (show y < C.W by omega)
    rw [← ea] at hbo
    rw [c_Of hC (by omega),hbo.1]
    have nj:¬ j < 0:=by omega
    have cb:=ck_lt hC hj.1 hj.2
    have hbg:=base_ge hC hj.1 hj.2 y0
    have hck:=tck (by omega) j hj.1 hj.2
    have hn2:=hw2.nn.1
    have hbd:=hw2.bd (C.chunk j)
    have g4s:∀ x y z w:Int,gStore 4 [.pointer (some ⟨16,0,some 0⟩),.agg #[.int .i64 x,.int .i64 y,.int .i64 z,.int .i64 w]] [.int .i64 0,.int .i64 0,.int .i64 0,.int .i64 0] = some [.int .i64 x,.int .i64 y,.int .i64 z,.int .i64 w]:=fun _ _ _ _=>rfl
    have s0:¬ chS (A2.w (C.chunk j)) = 0:=by rw [hck]; exact h1
    simp only [nj,c_Chunk hC hj.1 (show j ≤ 65536 by omega),c_PeekA hN hA2 (show 0 ≤ C.chunk j by omega) (show C.chunk j < A2.n by omega),c_wChunk hbd.1 hbd.2,g4s,s0,c_Base hC hj.1 (show j ≤ 65536 by omega),ruS,ruL,ruE,Nat.reduceAdd,reduceIte,Int.reduceLT,Int.reduceLE,Int.reduceEq,Int.reduceNeg,Int.reduceAdd,Int.reduceSub,Nat.reduceLeDiff,Nat.reduceLT]
    rw [IntWalk.i64_in (A2.la - C.base j) (by omega)]
    have n5:¬ A2.la - C.base j ≥ chU (A2.w (C.chunk j)):=by rw [hck]; omega
    have n6:¬ chU (A2.w (C.chunk j)) ≤ A2.la - C.base j:=by rw [hck]; omega
    simp only [n5,n6,w_bh_j5,w_bh_j5b,ruS,ruL,ruE,Nat.reduceAdd,reduceIte,Int.reduceLT,Int.reduceLE,Int.reduceEq,Int.reduceNeg,Int.reduceAdd,Int.reduceSub,Nat.reduceLeDiff,Nat.reduceLT]
    exact on'
  ·have hil:=hwi.nm.il
   have hbz:c'.r.pc ≠ 0 ∨ 0 < c'.r.at' ∨ 0 < c'.r.rd:=by
    by_cases z:c'.r.rd = 0
    ·have:=hq z
     cases hwi.wc with
     | p0 hp ha hs mw n2 h0 hl hq'=>right; left; omega
     | p1 hp=>left; omega
     | p2 hp=>left; omega
     | p3 hp=>left; omega
     | p4 hp=>left; omega
     | p5 hp=>left; omega
     | p6 hp=>left; omega
     | p9 hp=>left; omega
     | p10 hp=>left; omega
     | p11 hp=>left; omega
    ·omega
   have f4:∀ (x y z u w:Value) (K:Value→Prop),xF (fFldV 4 1 false) [.agg #[x,y,z,u,w]] K = K w:=fun _ _ _ _ _ K=>nr rfl
   have b5:∀ K:Value→Prop,xF (fBuild [(0,1),(1,1),(2,1),(3,1),(4,1)] [.int .i64 0,.int .i64 0,.int .i64 0,.int .i64 0,.int .i64 0] []) [] K = K (.agg #[.int .i64 0,.int .i64 0,.int .i64 0,.int .i64 0,.int .i64 0]):=fun K=>nr rfl
   simp only [ci,w_bh_j3,w_bh_j3b,c_CoWorkN,c_CoBusyN,c_CoIdleN,b5,c_CoBusy hco,c_CoIdle hco,c_CoWork hco,f4,ruS,ruL,ruE,Nat.reduceAdd,reduceIte,Int.reduceLT,Int.reduceLE,Int.reduceEq,Int.reduceNeg,Int.reduceAdd,Int.reduceSub,Nat.reduceLeDiff,Nat.reduceLT]
   have e5:∀ K:Value→Prop,xF (fBin .eql (.flat [true,true,true,true,true])) [.agg #[.int .i64 0,.int .i64 0,.int .i64 0,.int .i64 0,.int .i64 0],.agg #[.int .i64 0,.int .i64 0,.int .i64 0,.int .i64 0,.int .i64 0]] K = K (.bool true):=fun K=>nr rfl
   rw [e5]
   simp only [ruS,ruL,ruE,Nat.reduceAdd,reduceIte,Int.reduceLT,Int.reduceLE,Int.reduceEq,Int.reduceNeg,Int.reduceAdd,Int.reduceSub,Nat.reduceLeDiff,Nat.reduceLT]
   rw [decide_eq_true hil.2]
   by_cases z:c'.r.pc ≠ 0 ∨ 0 < c'.r.at'
   ·rw [if_pos z]
   ·rw [if_neg z,if_pos (by omega)]
 refine xLoop_r (fun x ts ls τ=>∃ (i:Int) (n:Nat) (dd:Int→Do) (li:Int→Bool) (V:Int→Int→Int) (A:Ar) (b:Bg),x = (25 - i).toNat∧ts = [s,s2,.int .i64 a0,.int .i64 i]∧ls = [N.el C 0]∧(0 ≤ i∧i ≤ 25)∧Dv C (2 * i) n dd li V A.w b∧(∀ i,lowW C i→A.w i = 0)∧Pa C A (1000 + 200 * i)∧A.n = C.len.toNat∧isA N A τ∧Ext σ τ) ?_ (n:=25)
  ⟨0,0,_,_,_,A,_,rfl,rfl,rfl,⟨Int.le_refl 0,by decide⟩,dv0,low0,hP.mono (by omega),hnA,hA0,hE0⟩
 clear dv0 low0 hP hnA hA0 hE0 hA hE x0
 rintro x ts ls τ1 ⟨i,n,dd,li,V,A1,b,rfl,rfl,rfl,⟨i0,i1⟩,hdv,hlo,hP1,hn1,hA1,hE1⟩ R hR
 have hg1:=hg.keep hE1
 have hk1:=hkp.keep hE1
 have fin':=fin (2 * i) n dd li V A1 b τ1 hdv (by omega) hlo (hP1.mono (by omega)) hn1 hA1 hE1
 simp only [w_law14_CompactSteps_l6,w_law14_CompactSteps_l6b,hg1.len,ruS,ruL,ruE,Nat.reduceAdd,reduceIte,Int.reduceLT,Int.reduceLE,Int.reduceEq,Int.reduceNeg,Int.reduceAdd,Int.reduceSub,Nat.reduceLeDiff,Nat.reduceLT]
 by_cases c1:i < len
 rotate_left
 ·simp only [c1,ruS,ruL,ruE,Nat.reduceAdd,reduceIte,Int.reduceLT,Int.reduceLE,Int.reduceEq,Int.reduceNeg,Int.reduceAdd,Int.reduceSub,Nat.reduceLeDiff,Nat.reduceLT]; exact fin'
 by_cases c2:i < 25
 rotate_left
 ·simp only [c1,c2,ruS,ruL,ruE,Nat.reduceAdd,reduceIte,Int.reduceLT,Int.reduceLE,Int.reduceEq,Int.reduceNeg,Int.reduceAdd,Int.reduceSub,Nat.reduceLeDiff,Nat.reduceLT]; exact fin'
 clear fin fin'
 simp only [c1,c2,w_bh_j6,w_bh_j6b,ruS,ruL,ruE,Nat.reduceAdd,reduceIte,Int.reduceLT,Int.reduceLE,Int.reduceEq,Int.reduceNeg,Int.reduceAdd,Int.reduceSub,Nat.reduceLeDiff,Nat.reduceLT]
 rw [hg1.ix i0 c1]
 simp only [andI15,ruS,ruL,ruE,Nat.reduceAdd,reduceIte,Int.reduceLT,Int.reduceLE,Int.reduceEq,Int.reduceNeg,Int.reduceAdd,Int.reduceSub,Nat.reduceLeDiff,Nat.reduceLT]
 have hz:0 ≤ classOf (1 + g i % 16):=by unfold classOf; (repeat' split) <;> omega
 have hzb:1 ≤ 1 + g i % 16∧1 + g i % 16 ≤ 16:=by omega
 generalize 1 + g i % 16 = z at hz hzb
 rw [IntWalk.i64_in z (by omega)]
 have on:∀ (n:Nat) dd li V A' b τ3,Dv C (2 * i + 2) n dd li V A'.w b→(∀ i,lowW C i→A'.w i = 0)→Pa C A' (1000 + 200 * i + 160)→A'.n = C.len.toNat→isA N A' τ3→Ext σ τ3→w_bh_j7 (fun v _=>v = .bool true) (w_bh_j2 fun v _=>v = .bool true) R [s,s2,.int .i64 a0,.int .i64 i] [N.el C 0] τ3:=by
  intro n dd li V A' b τ3 h1 h2 h3 h4 h5 h6
  simp only [w_bh_j7,w_bh_j7b,ruS,ruL,ruE,Nat.reduceAdd,reduceIte,Int.reduceLT,Int.reduceLE,Int.reduceEq,Int.reduceNeg,Int.reduceAdd,Int.reduceSub,Nat.reduceLeDiff,Nat.reduceLT]
  rw [IntWalk.i64_in (i + 1) (by omega)]
  exact hR (25 - (i + 1)).toNat _ _ _ (by omega) ⟨i + 1,n,dd,li,V,A',b,rfl,rfl,rfl,⟨by omega,by omega⟩,by rw [show 2 * (i + 1) = 2 * i + 2 by omega]; exact h1,h2,h3.mono (by omega),h4,h5,h6⟩
 refine c_MakeV hN hC hA1 hP1 (by omega) hdv (by omega) hz (fun oE oV oS A' τ2 hf hdv' hP2 hn2 hlo2 hA2 hK2=>?_) fun oV oS A' τ2 s' F j b' d hF hgt hd hdv' hP2 hn2 hlo2 hA2 hK2=>?_
 ·have hE0:¬ oE = 0:=by omega
  simp only [gs,hE0,w_bh_j8,w_bh_j8b,ruS,ruL,ruE,Nat.reduceAdd,reduceIte,Int.reduceLT,Int.reduceLE,Int.reduceEq,Int.reduceNeg,Int.reduceAdd,Int.reduceSub,Nat.reduceLeDiff,Nat.reduceLT]
  exact on n dd li V A' b τ2 (hdv'.mono (by omega)) (fun x hx=>by rw [hlo2 x hx]; exact hlo x hx) (hP2.mono (by omega)) (by rw [hn2]; exact hn1) hA2 (hE1.keep' hK2 fun y hy=>hfr.all y hy)
 ·have hE2:Ext σ τ2:=hE1.keep' hK2 fun y hy=>hfr.all y hy
  have hk2:=hkp.keep hE2
  have on1:=on (n + 1) _ _ _ A' _ τ2 (hdv'.mono (by omega)) (fun x hx=>by rw [hlo2 x hx]; exact hlo x hx) (hP2.mono (by omega)) (by rw [hn2]; exact hn1) hA2 hE2
  simp only [gs,hk2.len,ruS,ruL,ruE,Nat.reduceAdd,reduceIte,Int.reduceLT,Int.reduceLE,Int.reduceEq,Int.reduceNeg,Int.reduceAdd,Int.reduceSub,Nat.reduceLeDiff,Nat.reduceLT]
  by_cases c3:i < len2
  rotate_left
  ·simp only [c3,w_bh_j8,w_bh_j8b,ruS,ruL,ruE,Nat.reduceAdd,reduceIte,Int.reduceLT,Int.reduceLE,Int.reduceEq,Int.reduceNeg,Int.reduceAdd,Int.reduceSub,Nat.reduceLeDiff,Nat.reduceLT]; exact on1
  simp only [c3,ruS,ruL,ruE,Nat.reduceAdd,reduceIte,Int.reduceLT,Int.reduceLE,Int.reduceEq,Int.reduceNeg,Int.reduceAdd,Int.reduceSub,Nat.reduceLeDiff,Nat.reduceLT]
  rw [hk2.ix i0 c3]
  cases hb:kp i with
  | true=>simp only [Bool.not_true,w_bh_j8,w_bh_j8b,ruS,ruL,ruE,Nat.reduceAdd,reduceIte,Int.reduceLT,Int.reduceLE,Int.reduceEq,Int.reduceNeg,Int.reduceAdd,Int.reduceSub,Nat.reduceLeDiff,Nat.reduceLT]; exact on1
  | false =>
   simp only [Bool.not_false,w_bh_j8,w_bh_j8b,ruS,ruL,ruE,Nat.reduceAdd,reduceIte,Int.reduceLT,Int.reduceLE,Int.reduceEq,Int.reduceNeg,Int.reduceAdd,Int.reduceSub,Nat.reduceLeDiff,Nat.reduceLT]
   have ed:addD dd n d n = d:=if_pos rfl
   have hnn:=hdv'.dw.nle
   have key:=c_DropV (who:=0) (k:=n) (K:=fun _ σ=>w_bh_j7 (fun v _=>v = .bool true) (w_bh_j2 fun v _=>v = .bool true) R [s,s2,.int .i64 a0,.int .i64 i] [N.el C 0] σ) hN hC hG hA2 hP2 (by omega) hdv' (by omega) (by omega) (by omega) (if_pos rfl) fun oH oV oS A3 τ3 hdv3 hP3 hn3 hlo3 hA3 hK3 =>
    on (n + 1) _ _ _ A3 _ τ3 (hdv3.mono (by omega)) (fun x hx=>by rw [hlo3 x hx,hlo2 x hx]; exact hlo x hx) (hP3.mono (by omega)) (by rw [hn3,hn2]; exact hn1) hA3 (hE2.keep' hK3 fun y hy=>hfr.all y hy)
   rw [ed,hd.1] at key
   exact key
end Go.Fl
