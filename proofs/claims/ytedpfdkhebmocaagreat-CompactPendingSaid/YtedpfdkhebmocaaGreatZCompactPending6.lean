/- What the claim leans on, part 6: own readings of the program's functions, what they come to, laws of them. No condition. -/
import Derived.Test.YtedpfdkhebmocaaGreatZCompactPending5
namespace Go.Fl
open Go
set_option linter.unusedVariables false
set_option linter.unusedSimpArgs false
variable {N:Nm} {A B:Ar} {σ:Mem} {K:Value→Mem→Prop} {C:Cf} {who:Int}
theorem law_CompactPending (σ:Mem) (a0:Int) (w0:(Lit.int .i64 a0).wf=true) (a1:Int) (w1:(Lit.int .i64 a1).wf=true) (rdy:Bool) :
  s_bf [.int .i64 a0,.int .i64 a1,.bool rdy] (fun v _=>v=.bool true) σ:=by
 simp only [s_bf,w_bf,ruS,ruL,ruE,Nat.reduceAdd,reduceIte,Int.reduceLT,Int.reduceLE,Int.reduceEq,Int.reduceNeg,Int.reduceAdd,Int.reduceSub,Nat.reduceLeDiff,Nat.reduceLT]
 have hC:(cA 1 30 8 34).ok:=cA_ok (by omega) (by omega) (by omega) (by omega)
 refine c_Arena (C:=cA 1 30 8 34) hC rfl rfl rfl fun N A τ hN hF hA hE hfr=>?_
 simp only [gStoreE,ruS,ruL,ruE,Nat.reduceAdd,reduceIte,Int.reduceLT,Int.reduceLE,Int.reduceEq,Int.reduceNeg,Int.reduceAdd,Int.reduceSub,Nat.reduceLeDiff,Nat.reduceLT]
 refine c_awakeW fun τ0 x0=>?_
 have hT:(cA 1 30 8 34).T=1:=rfl
 have hS:(cA 1 30 8 34).S=30:=rfl
 have h8:(cA 1 30 8 34).C=8:=rfl
 have hW:(cA 1 30 8 34).W=34:=rfl
 have hPp:(cA 1 30 8 34).P=600:=rfl
 have hG:(cA 1 30 8 34).G=100:=rfl
 have hP:=(hF.pa hC).mono (show 2*(cA 1 30 8 34).S+2≤200 by decide)
 have dv0:=Dv.new hC hF
 have low0:∀ i,lowW (cA 1 30 8 34) i→A.w i=0:=fun i hi=>by
  have hi':i=0∨6≤i∧i<6+1:=hi
  rw [hF.w]
  unfold Cf.w0 Cf.fr
  rw [if_neg (by omega),if_neg (by show ¬ i=6+1+2*(30 - 1)+1; omega),if_neg (by show ¬ (6+1≤i∧i<6+1+2*30); omega)]
 have hln:=len_bd hC
 have hnA:A.n=(cA 1 30 8 34).len.toNat:=hF.n
 have hA0:=hA.ext x0
 have hE0:=hE.trans x0
 have F0:(Bg.fr (cA 1 30 8 34)).F.length=30:=by show (upL 0 30).length=30; rfl
 generalize hCe:cA 1 30 8 34=C at *
 clear hF
 simp only [w_bf_j1,w_bf_j1b,Bool.not_true,andI15,ruS,ruL,ruE,Nat.reduceAdd,reduceIte,Int.reduceLT,Int.reduceLE,Int.reduceEq,Int.reduceNeg,Int.reduceAdd,Int.reduceSub,Nat.reduceLeDiff,Nat.reduceLT]
 have hzb:1≤1+a0 % 16∧1+a0 % 16≤16:=by omega
 have hz:0≤classOf (1+a0 % 16):=by unfold classOf; (repeat' split) <;> omega
 generalize 1+a0 % 16=z at hz hzb
 rw [IntWalk.i64_in z (by omega)]
 have gs:∀ x y z w:Int,gStore 4 [.pointer (some ⟨12,0,some 0⟩),.agg #[.int .i64 x,.int .u64 y,.int .i64 z,.int .i64 w]] [.int .i64 0,.int .u64 0,.int .i64 0,.int .i64 0]=some [.int .i64 x,.int .u64 y,.int .i64 z,.int .i64 w]:=fun _ _ _ _=>rfl
 have p7:sub (N.el C 0) 7 1 false=some N.p:=rfl
 have c7':sub (N.el C 0) 0 7 true=some C.v:=rfl
 have f3v:∀ (x y z u w:Value) (K:Value→Prop),xF (fFldV 3 1 false) [.agg #[x,y,z,u,w]] K=K u:=fun _ _ _ _ _ K=>nr rfl
 have f0v:∀ (x y z u:Value) (K:Value→Prop),xF (fFldV 0 1 false) [.agg #[x,y,z,u]] K=K x:=fun _ _ _ _ K=>nr rfl
 have b2:∀ (x y:Int) (K:Value→Prop),xF (fBuild [(0,1),(1,1),(2,1),(3,1),(4,1)] [.int .i64 0,.int .u64 0,.int .i64 0,.int .i64 0,.int .i64 0] [0,1]) [.int .i64 x,.int .u64 y] K=K (.agg #[.int .i64 x,.int .u64 y,.int .i64 0,.int .i64 0,.int .i64 0]):=fun _ _ K=>nr rfl
 have g5:∀ (x y z u:Int) (e:Bool),gStore 5 [.pointer (some ⟨15,0,some 0⟩),.agg #[.int .i64 x,.int .i64 y,.int .i64 z,.int .i64 u,.bool e]] [.int .i64 0,.int .i64 0,.int .i64 0,.int .i64 0,.bool false]=some [.int .i64 x,.int .i64 y,.int .i64 z,.int .i64 u,.bool e]:=fun _ _ _ _ _=>rfl
 have q0:∀ {k:Nat} {x a b c d:Int} {e:Bool},gStore 1 [.pointer (some ⟨k,0,some 0⟩),.int .i64 x] [.int .i64 a,.int .i64 b,.int .i64 c,.int .i64 d,.bool e]=some [.int .i64 x,.int .i64 b,.int .i64 c,.int .i64 d,.bool e]:=fun {_ _ _ _ _ _ _}=>rfl
 have s5:∀ {a b c d:Int} {e:Bool},sub [.int .i64 a,.int .i64 b,.int .i64 c,.int .i64 d,.bool e] 0 5 true=some (.agg #[.int .i64 a,.int .i64 b,.int .i64 c,.int .i64 d,.bool e]):=fun {_ _ _ _ _}=>rfl
 refine hBuildS_i [] rfl fun pm0 τ1 m0 g0 x1=>?_
 have r0:Rh N σ pm0 0 (fun _=>0) τ1:=⟨g0,hA0.new m0,hE0.none m0⟩
 -- all but the first are let go
 have fin:∀ (n pm:Nat) gm dd li V A b τ,2≤n→Dv C (26+n) n dd li V A.w b→Mk1 C n z dd b→n≤26→(∀ k:Int,0≤k→k<n→li k=decide (k=0))→(∀ i,lowW C i→A.w i=0)→Pa C A 20000→A.n=C.len.toNat→isA N A τ→Ext σ τ→Rh N σ pm n gm τ→(∀ k:Int,0≤k→k<n→gm k=(dd k).n) →
   w_bf_j3 (fun v _=>v=.bool true) [.int .i64 a1,.bool rdy,.int .i64 z,.slice (some ⟨pm,0,none⟩) n 1] [N.el C 0] τ:=by
  intro n pm gm dd li V A b τ n2 hdv hmk hn26 hli hlo hP hn hA hE hrm hrow
  have hn0:(0:Int)<n:=by omega
  have e0:A.w 0=0:=hlo 0 (.inl rfl)
  have hb0:0≤C.base 0:=by unfold Cf.base; omega
  have hbl:=base_of hC (j:=0) (i:=0) (Int.le_refl 0) (by omega) (Int.le_refl 0) (by omega)
  rw [Int.add_zero] at hbl
  have hba:C.base 0<A.n:=by rw [hn]; omega
  have hd0:=hdv.dw.hd 0 (Int.le_refl 0) hn0
  have hst:(dd 0).a C=C.base 0:=by
   rcases hmk.st with ⟨q,_⟩ | ⟨_,_,_,q1,q2⟩
   ·omega
   ·unfold Do.a; rw [q1,q2,Int.add_zero]
  obtain ⟨hl0,hone,es,ez⟩:=hdv.one1 hC (by omega) hli (by omega)
  rw [hst] at es
  have hbw:=hP.ok.w
  have hMS:=hdv.ms hC (by omega) ⟨by omega,by omega⟩
  have hmw:=hdv.mw hC (by omega) ⟨by omega,by omega⟩ (t:=100) (by decide) hbw (by omega) (fun i i0 i1=>hlo _ (.inr ⟨by omega,by omega⟩))
  have hat:=(hmw.at' hC hMS (by decide) hd0.1.2.2.1 hd0.1.2.2.2 hl0 (by omega) es).1
  simp only [w_bf_j3,w_bf_j3b,p7,xIxS (Int.le_refl 0) hn0,ruS,ruL,ruE,Nat.reduceAdd,reduceIte,Int.reduceLT,Int.reduceLE,Int.reduceEq,Int.reduceNeg,Int.reduceAdd,Int.reduceSub,Nat.reduceLeDiff,Nat.reduceLT]
  rw [hrm.ld (Int.le_refl 0) hn0,hrow 0 (Int.le_refl 0) hn0,c_place hN hC hA hP.n hbw hd0.1.1 hd0.1.2.2]
  have e00:hdSl (dd 0).n=(dd 0).s:=rfl
  rw [e00,es]
  simp only [p7,c_PeekA hN hA hb0 hba,c_wHead (hbw _).1 (hbw _).2,g5,q0,ruS,ruL,ruE,Nat.reduceAdd,reduceIte,Int.reduceLT,Int.reduceLE,Int.reduceEq,Int.reduceNeg,Int.reduceAdd,Int.reduceSub,Nat.reduceLeDiff,Nat.reduceLT]
  have j4:∀ pk:Int,pk=0∨pk=1→w_bf_j4 (fun v _=>v=.bool true) [.int .i64 a1,.int .i64 z,.slice (some ⟨pm,0,none⟩) n 1,.int .i64 (C.base 0)] [N.el C 0,[.int .i64 pk,.int .i64 (hdS (A.w (C.base 0))),.int .i64 (hdT (A.w (C.base 0))),.int .i64 (hdG (A.w (C.base 0))),.bool (hdO (A.w (C.base 0)))]] τ:=by
   intro pk hpk
   simp only [w_bf_j4,w_bf_j4b,p7,s5,c_PutHead,ruS,ruL,ruE,Nat.reduceAdd,reduceIte,Int.reduceLT,Int.reduceLE,Int.reduceEq,Int.reduceNeg,Int.reduceAdd,Int.reduceSub,Nat.reduceLeDiff,Nat.reduceLT]
   generalize hv:putHead pk (hdS (A.w (C.base 0))) (hdT (A.w (C.base 0))) (hdG (A.w (C.base 0))) (hdO (A.w (C.base 0)))=v
   have hvb:0≤v∧v<18446744073709551616:=by rw [← hv]; exact putHead_in _ _ _ _ _
   refine c_StoreA hN hA hb0 hba hP.ok (by omega) hvb fun A1 τ1 af ok1 hA1 hK1=>?_
   have hE1:Ext σ τ1:=hE.keep' hK1 fun y hy=>hfr.all y hy
   have hrm1:=hrm.keep hK1
   have ew1:A1.w=upd A.w (C.base 0) v:=af.w
   have en1:A1.n=A.n:=af.n
   have hwh:((MP.of C A.w).re (C.base 0) pk).hw (dd 0).s (C.base 0)=v:=by
    rw [← hv]
    unfold MP.hw
    rw [if_pos (show C.base 0=((MP.of C A.w).re (C.base 0) pk).pd from rfl)]
    show putHead pk ((MP.of C A.w).z (dd 0).s) (dd 0).s ((MP.of C A.w).g (dd 0).s) ((MP.of C A.w).o (dd 0).s)=_
    rw [hat.2.1,hat.2.2.1,hat.2.2.2.1,hat.2.2.2.2]
   have hmw1:=hmw.repd hC hMS (pk:=pk) (by decide) hd0.1.2.2.1 hd0.1.2.2.2 hl0 es (.inl rfl) (.inr rfl) hpk
   rw [hwh,← ew1] at hmw1
   have hMS1:=hMS.re (pd:=C.base 0) hpk
   have hck1:∀ j,0≤j→j<C.C→A1.w (C.chunk j)=A.w (C.chunk j):=fun j j0 j1=>by
    rw [ew1]; exact upd_ne _ _ (by unfold Cf.base Cf.chunk; omega)
   have hwi1:WI C ((MP.of C A.w).re (C.base 0) pk) (2*C.C+2310) Co.new A1:=WI.init hC hMS1 hmw1 (by rw [en1]; exact ⟨hP.n,by omega⟩) fun j j0 j1=>by
    rw [hck1 j j0 j1]; rcases (hdv.dw.chs j0 j1).1 with q | q <;> omega
   have hu1:=UQ.init hC ⟨h8,hPp,hW⟩ hdv (by omega) hmk hli (by omega) e0
   have hq1:=QW.init1 hC ⟨h8,hW⟩ hdv (by omega) hli (by omega) hst (v:=v) (pk:=pk)
   rw [← ew1] at hq1
   refine c_CoNew hA1 fun p τ2 hp hco x2=>?_
   have hA2:=hA1.ext x2
   have hE2:=hE1.trans x2
   have hrm2:=hrm1.ext x2
   have hr:2≤2+a1 % 4∧2+a1 % 4≤5:=by omega
   simp only [andI3,ruS,ruL,ruE,Nat.reduceAdd,reduceIte,Int.reduceLT,Int.reduceLE,Int.reduceEq,Int.reduceNeg,Int.reduceAdd,Int.reduceSub,Nat.reduceLeDiff,Nat.reduceLT]
   rw [IntWalk.i64_in (2+a1 % 4) (by omega)]
   refine c_roundsOZ hN hC hA2 (n:=2+a1 % 4) (fun c A'=>c.r.mo=0∧∃ Q,UQ C (gP C z (dd 0).s b.nx A.w) 1 Q∧Q.e=c.r.rd∧Md C ((MP.of C A.w).re (C.base 0) pk) Q c A'.w) (by omega) hco hwi1 ⟨rfl,_,hu1,(by show A.w 0=0; exact e0),.look (by decide:(0:Int)≤2) hq1 ⟨fun _ e=>absurd rfl e,fun e=>absurd (show (0:Int)=1 from e) (by decide),fun e=>absurd (show (0:Int)=2 from e) (by decide)⟩ rfl⟩ (by decide) ok1 (by decide) (fun q1 c1 A3 r hw1 hz1 hrd hm=>?_) fun q' c' A' O' τ3 hwi' hz' hok' hrd hpc hA3 hco' hO' hK3=>?_
   ·obtain ⟨hmo,Q,hu,he,hmd⟩:=hz1
    rcases hmd.step (who := -1) hC hw1 hu.ok hrd r hm with ⟨e,em,h⟩ | ⟨e,em,Qm,pk',h⟩ | ⟨e,Q',hv',h⟩
    ·exact ⟨em.trans hmo,Q,hu,he.trans e.symm,h⟩
    ·refine ⟨em.trans hmo,_,hu.next pk',?_,h⟩
     have:Qm.e=Q.e:=by rcases pk' with ⟨rfl,_⟩ | ⟨_,_,_,_,rfl⟩ <;> rfl
     show Qm.e+1=_
     rw [this,he,e]
    ·exfalso
     obtain ⟨X,_,_,_,_,_,_,_,⟨hX,_⟩,_,_,k,m,_⟩:=hv'
     by_cases x0:X=0
     ·subst x0; rw [hu.k0.1] at k; exact absurd k (by decide)
     ·rw [hu.kn X (by omega) (by omega)] at k; exact absurd k (by decide)
   obtain ⟨hmo,Q,hu,he,hmd⟩:=hz'
   have hpc':c'.r.pc=0∧c'.r.at'=0:=by
    rcases hpc with q | q
    ·omega
    ·exact q
   obtain ⟨qw,hfd⟩:QW C ((MP.of C A.w).re (C.base 0) pk) Q A'.w∧c'.r.fd=Q.fd:=by
    cases hmd with
    | look _ qw tr f=>exact ⟨qw,f⟩
    | mark hp=>omega
    | walk hp=>omega
    | pend hp=>omega
    | mov hp=>omega
    | note hp=>omega
    | epo _ hp=>omega
    | set _ hp=>omega
   have hrd':c'.r.rd=2+a1 % 4:=by rw [hrd]; show 0+_=_; omega
   have hslA:∀ r,0≤r→r<C.S→A'.w (C.slot r)=A.w (C.slot r):=fun r r0 r1=>by
    rw [qw.sl r r0 r1,hu.sl]; rfl
   have hn3:=hwi'.nn
   have hbd3:=hwi'.bd
   have hE3:Ext σ τ3:=by
    refine hE2.keep' hK3 fun j hj=>?_
    rcases List.mem_append.1 hj with u | u
    ·rw [List.mem_singleton] at u; subst u; exact hE1.none hp
    ·exact hfr.all j u
   have hrm3:Rh N σ pm n gm τ3:=by
    refine ⟨hK3 _ _ hrm2.gp fun hm=>?_,hrm2.dp⟩
    rcases List.mem_append.1 hm with u | u
    ·rw [List.mem_singleton] at u; subst u; have:=hrm1.gp; rw [hp] at this; cases this
    ·exact hrm2.dp.1 u
   have hn1:(1:Int)<n:=by omega
   simp only [Bool.not_true,p7,xIxS (Int.le_refl 0) hn0,ruS,ruL,ruE,Nat.reduceAdd,reduceIte,Int.reduceLT,Int.reduceLE,Int.reduceEq,Int.reduceNeg,Int.reduceAdd,Int.reduceSub,Nat.reduceLeDiff,Nat.reduceLT]
   rw [hrm3.ld (Int.le_refl 0) hn0,hrow 0 (Int.le_refl 0) hn0,c_place hN hC hA3 hn3.1 hbd3 hd0.1.1 hd0.1.2.2,e00,hslA _ hd0.1.2.2.1 hd0.1.2.2.2,es]
   simp only [c_CoWork hco',f3v,hmo,w_bf_j5,w_bf_j5b,p7,xIxS (show (0:Int)≤1 by decide) hn1,ruS,ruL,ruE,Nat.reduceAdd,reduceIte,Int.reduceLT,Int.reduceLE,Int.reduceEq,Int.reduceNeg,Int.reduceAdd,Int.reduceSub,Nat.reduceLeDiff,Nat.reduceLT]
   rw [hrm3.ld (by decide) hn1,hrow 1 (by decide) hn1]
   have hd1:=hdv.dw.hd 1 (by decide) hn1
   have hdd1:=hdv.dw.dead 1 (by decide) hn1 (by rw [hli 1 (by decide) hn1]; exact decide_eq_false (by decide))
   have hnd:NoDrop C A'.w (dd 1).n false:=.inr ⟨⟨hd1.1.2.1,hd1.1.2.2.2⟩,.inl fun q=>by
    have q1:slG (A'.w (C.slot (dd 1).s))=(dd 1).ge:=q.2
    rw [hslA _ hd1.1.2.2.1 hd1.1.2.2.2] at q1
    omega⟩
   simp only [b2,ruS,ruL,ruE,Nat.reduceAdd,reduceIte,Int.reduceLT,Int.reduceLE,Int.reduceEq,Int.reduceNeg,Int.reduceAdd,Int.reduceSub,Nat.reduceLeDiff,Nat.reduceLT]
   refine c_AccNo hN hC hA3 hd1.1.1 hok' (by omega) hn3.1 hn3.2 hnd fun oS A4 τ4 _ ew4 en4 ok4 hA4 hK4=>?_
   have hE4:Ext σ τ4:=hE3.keep' hK4 fun y hy=>hfr.all y hy
   have hrm4:=hrm3.keep hK4
   have hco4:COb N p O' c' τ4:=hco'.keep hK4 hco'.own
   simp only [f0v,q0,s5,c_PutHead,p7,ruS,ruL,ruE,Nat.reduceAdd,reduceIte,Int.reduceLT,Int.reduceLE,Int.reduceEq,Int.reduceNeg,Int.reduceAdd,Int.reduceSub,Nat.reduceLeDiff,Nat.reduceLT]
   generalize hv2:putHead 2 (hdS (A.w (C.base 0))) (hdT (A.w (C.base 0))) (hdG (A.w (C.base 0))) (hdO (A.w (C.base 0)))=v2
   have hvb2:0≤v2∧v2<18446744073709551616:=by rw [← hv2]; exact putHead_in _ _ _ _ _
   have hba4:C.base 0<A4.n:=by rw [en4]; omega
   refine c_StoreA hN hA4 hb0 hba4 ok4 (by omega) hvb2 fun A5 τ5 af5 ok5 hA5 hK5=>?_
   have hE5:Ext σ τ5:=hE4.keep' hK5 fun y hy=>hfr.all y hy
   have hrm5:=hrm4.keep hK5
   have hco5:=hco4.keep hK5 hco'.own
   have ew5:A5.w=upd A'.w (C.base 0) v2:=by rw [af5.w,ew4]
   have en5:A5.n=A'.n:=af5.n.trans en4
   have es3:slA (A'.w (C.slot (dd 0).s))=C.base 0:=by rw [hslA _ hd0.1.2.2.1 hd0.1.2.2.2]; exact es
   have hwh2:(((MP.of C A.w).re (C.base 0) pk).re (-1) pk).hw (dd 0).s (C.base 0)=v2:=by
    rw [← hv2]
    unfold MP.hw
    rw [if_neg (by show ¬ C.base 0 = -1; omega)]
    show putHead 2 ((MP.of C A.w).z (dd 0).s) (dd 0).s ((MP.of C A.w).g (dd 0).s) ((MP.of C A.w).o (dd 0).s)=_
    rw [hat.2.1,hat.2.2.1,hat.2.2.2.1,hat.2.2.2.2]
   have hMS2:=hMS1.re (pd := -1) hpk
   have hck5:∀ j,0≤j→j<C.C→A5.w (C.chunk j)=A'.w (C.chunk j):=fun j j0 j1=>by
    rw [ew5]; exact upd_ne _ _ (by unfold Cf.base Cf.chunk; omega)
   have hwi5:WI C (((MP.of C A.w).re (C.base 0) pk).re (-1) pk) q' c' A5:=by
    have hq1:=hwi'.q1 hC
    have tbd:tW ((MP.of C A.w).re (C.base 0) pk) c' - q'≤4194303:=by
     have e:((MP.of C A.w).re (C.base 0) pk).N0=100:=rfl
     unfold tW; rw [e]; omega
    obtain ⟨_,nn,q3,wc,nm⟩:=hwi'
    refine ⟨hMS2,by rw [en5]; exact nn,q3,?_,nm⟩
    cases wc with
    | p0 hp' ha hs mw n2' h0 hl hq=>
     refine .p0 hp' ha hs ?_ (n2'.keep hck5) h0 hl hq
     have:=mw.repd hC hMS1 (pd := -1) (pk:=pk) tbd hd0.1.2.2.1 hd0.1.2.2.2 hl0 es3 (.inr rfl) (.inl rfl) hpk
     rw [hwh2,← ew5] at this
     exact this
    | p1 hp'=>omega
    | p2 hp'=>omega
    | p3 hp'=>omega
    | p4 hp'=>omega
    | p5 hp'=>omega
    | p6 hp'=>omega
    | p9 hp'=>omega
    | p10 hp'=>omega
    | p11 hp'=>omega
   have hone2:∀ r,0≤r→r<C.S→(((MP.of C A.w).re (C.base 0) pk).re (-1) pk).lv r=true→r=(dd 0).s:=hone
   have hu2:=hu.show' (by omega)
   have hq2:=QW.init2 (pk:=pk) (v:=v2) hC ⟨h8,hW⟩ qw ⟨hd0.1.2.2,hl0⟩ hone es3 hu.kn
   rw [← ew5] at hq2
   have hop:A5.w (2+classOf z)=b.nx:=(hq2.o _ hz (class_bd z).2).trans hu2.oc
   have hnx:=hu.nx
   have hnx':1≤b.nx∧b.nx≤8:=hnx
   have hco5w:2+classOf z<A5.n:=by have:=(class_bd z).2; rw [en5]; unfold Cf.base at hbl; omega
   have hcl3:=(class_bd z).2
   refine c_Class ?_
   simp only [c_Open hz (show classOf z≤65536 by omega),c_PeekA hN hA5 (show 0≤2+classOf z by omega) hco5w,hop,ruS,ruL,ruE,Nat.reduceAdd,reduceIte,Int.reduceLT,Int.reduceLE,Int.reduceEq,Int.reduceNeg,Int.reduceAdd,Int.reduceSub,Nat.reduceLeDiff,Nat.reduceLT]
   rw [IntWalk.i64_in b.nx (by omega),IntWalk.i64_in (b.nx - 1) (by omega)]
   have hrdb:c'.r.rd≤5:=by omega
   refine c_roundsOZ hN hC hA5 (n:=30) (fun c A'=>∃ Q,(UQ C (gP C z (dd 0).s b.nx A.w) 2 Q∨VQ C (gP C z (dd 0).s b.nx A.w) Q)∧Q.e=c.r.rd∧Md C (((MP.of C A.w).re (C.base 0) pk).re (-1) pk) Q c A'.w) (by decide) hco5 hwi5 ⟨_,.inl hu2,he,.look (by rw [hpc'.1]; decide) hq2 ⟨fun _ e=>absurd hpc'.2 e,fun e=>by omega,fun e=>by omega⟩ hfd⟩ (by omega) ok5 (by omega) (fun q1 c1 A3 r hw1 hz1 hrd hm=>?_) fun q6 c6 A6 O6 τ6 hwi6 hz6 hok6 hrd6 hpc6 hA6 hco6 hO6 hK6=>?_
   ·obtain ⟨Q,hu,he,hmd⟩:=hz1
    rcases hmd.step (who := -1) hC hw1 (by rcases hu with u | u; exact u.ok; exact u.ok) hrd r hm with ⟨e,em,h⟩ | ⟨e,em,Qm,pk',h⟩ | ⟨e,Q',hv',h⟩
    ·exact ⟨Q,hu,he.trans e.symm,h⟩
    ·refine ⟨_,?_,?_,h⟩
     ·rcases hu with u | u
      ·exact .inl (u.next pk')
      ·exact .inr (u.next pk')
     ·have:Qm.e=Q.e:=by rcases pk' with ⟨rfl,_⟩ | ⟨_,_,_,_,rfl⟩ <;> rfl
      show Qm.e+1=_
      rw [this,he,e]
    ·rcases hu with u | u
     ·have hm:=u.mv (P:=((MP.of C A.w).re (C.base 0) pk).re (-1) pk) es hone2 (by show classOf ((MP.of C A.w).z (dd 0).s)=classOf z; rw [ez,(hmk.each 0 (Int.le_refl 0) hn0).1]) hv'
      exact ⟨Q',.inr hm.1,by rw [hm.2,he,e],h⟩
     ·exact (u.no hv').elim
   obtain ⟨Q6,hu6,he6,hmd6⟩:=hz6
   have hpc7:c6.r.pc=0:=by
    rcases hpc6 with q | q
    ·exact absurd q (by decide)
    ·exact q.1
   have qw6:QW C (((MP.of C A.w).re (C.base 0) pk).re (-1) pk) Q6 A6.w:=by
    cases hmd6 with
    | look _ qw tr f=>exact qw
    | mark hp=>omega
    | walk hp=>omega
    | pend hp=>omega
    | mov hp=>omega
    | note hp=>omega
    | epo _ hp=>omega
    | set _ hp=>omega
   have hrm6:Rh N σ pm n gm τ6:=by
    refine ⟨hK6 _ _ hrm5.gp fun hm=>?_,hrm5.dp⟩
    rcases List.mem_append.1 hm with u | u
    ·rcases hO' pm u with q | q
     ·rw [List.mem_singleton] at q; subst q; have:=hrm1.gp; rw [hp] at this; cases this
     ·have:=hrm2.gp; rw [q] at this; cases this
    ·exact hrm5.dp.1 u
   have hof:=c_Of (K:=fun v135 σ=>
     xF (fBin BinOp.eql EqK.no) [Value.int IntKind.i64 (b.nx - 1),v135] fun v137=>
      xIf v137 True (xF (fIxS 1) [Value.slice (some { block:=pm,off:=0 }) n 1,Value.int IntKind.i64 0] fun v140=>
       hLoad 1 false [v140] (fun v141 σ=>s_bm [N.env C 0,v141] (fun v142 σ=>xF (fBin BinOp.neq EqK.no) [v142,Value.int IntKind.i64 (C.base 0)] fun v6=>v6=Value.bool true) σ) σ)) (σ:=τ6) hC (show C.base 0<9223372036854775808 by omega)
   simp only [Bool.not_true,ruS,ruL,ruE,Nat.reduceAdd,reduceIte,Int.reduceLT,Int.reduceLE,Int.reduceEq,Int.reduceNeg,Int.reduceAdd,Int.reduceSub,Nat.reduceLeDiff,Nat.reduceLT]
   rw [hof,hbl.1]
   by_cases e1:b.nx - 1=0
   ·simp only [e1,ruS,ruL,ruE,Nat.reduceAdd,reduceIte,Int.reduceLT,Int.reduceLE,Int.reduceEq,Int.reduceNeg,Int.reduceAdd,Int.reduceSub,Nat.reduceLeDiff,Nat.reduceLT]
   simp only [e1,xIxS (Int.le_refl 0) hn0,ruS,ruL,ruE,Nat.reduceAdd,reduceIte,Int.reduceLT,Int.reduceLE,Int.reduceEq,Int.reduceNeg,Int.reduceAdd,Int.reduceSub,Nat.reduceLeDiff,Nat.reduceLT]
   rw [hrm6.ld (Int.le_refl 0) hn0,hrow 0 (Int.le_refl 0) hn0,c_place hN hC hA6 hwi6.nn.1 hwi6.bd hd0.1.1 hd0.1.2.2,e00]
   rcases hu6 with u | u
   ·have:=u.e9 rfl (by show 2≤b.nx; omega)
    omega
   ·obtain ⟨sc,xs,⟨h1,h2⟩,h3,_,_,h6,_⟩:=u.ex
    have e6:slA (A6.w (C.slot (dd 0).s))=C.base sc+xs:=by rw [qw6.sl _ hd0.1.2.2.1 hd0.1.2.2.2]; exact h6
    have ne:¬ C.base sc+xs=C.base 0:=fun q=>h3 (base_inj hC h1.1 h1.2 h2.1 h2.2 (Int.le_refl 0) (by omega) (Int.le_refl 0) (by omega) (q.trans (Int.add_zero _).symm)).1
    rw [e6]
    simp only [ne,ruS,ruL,ruE,Nat.reduceAdd,reduceIte,Int.reduceLT,Int.reduceLE,Int.reduceEq,Int.reduceNeg,Int.reduceAdd,Int.reduceSub,Nat.reduceLeDiff,Nat.reduceLT]
  cases rdy with
  | true=>simp only [ruS,ruL,ruE,Nat.reduceAdd,reduceIte,Int.reduceLT,Int.reduceLE,Int.reduceEq,Int.reduceNeg,Int.reduceAdd,Int.reduceSub,Nat.reduceLeDiff,Nat.reduceLT]; exact j4 0 (.inl rfl)
  | false=>simp only [ruS,ruL,ruE,Nat.reduceAdd,reduceIte,Int.reduceLT,Int.reduceLE,Int.reduceEq,Int.reduceNeg,Int.reduceAdd,Int.reduceSub,Nat.reduceLeDiff,Nat.reduceLT]; exact j4 1 (.inr rfl)
 have drops:∀ (n pm:Nat) gm dd li V A b τ,2≤n→Dv C 26 n dd li V A.w b→Mk1 C n z dd b→n≤26→(∀ k:Int,0≤k→k<n→li k=true)→(∀ i,lowW C i→A.w i=0)→Pa C A 8000→A.n=C.len.toNat→isA N A τ→Ext σ τ→Rh N σ pm n gm τ→(∀ k:Int,0≤k→k<n→gm k=(dd k).n) →
   w_bf_j2 (fun v _=>v=.bool true) [.int .i64 a1,.bool rdy,.int .i64 z,.slice (some ⟨pm,0,none⟩) n 1] [N.el C 0] τ:=by
  intro n pm gm dd li V A b τ n2 hdv hmk hn26 hli hlo hP hn hA hE hrm hrow
  have nlt:¬ (n:Int)<2:=by omega
  simp only [w_bf_j2,w_bf_j2b,xLen,nlt,ruS,ruL,ruE,Nat.reduceAdd,reduceIte,Int.reduceLT,Int.reduceLE,Int.reduceEq,Int.reduceNeg,Int.reduceAdd,Int.reduceSub,Nat.reduceLeDiff,Nat.reduceLT]
  refine xLoop_r (fun x ts ls υ=>∃ (m:Int) (li:Int→Bool) (A:Ar) (b:Bg),x=(n - m).toNat∧ts=[.int .i64 a1,.bool rdy,.int .i64 z,.slice (some ⟨pm,0,none⟩) n 1,.int .i64 m]∧ls=[N.el C 0]∧(1≤m∧m≤n)∧Dv C (26+m) n dd li V A.w b∧Mk1 C n z dd b∧(∀ k:Int,0≤k→k<n→li k=decide (k=0∨m≤k))∧(∀ i,lowW C i→A.w i=0)∧Pa C A (8000+200*m)∧A.n=C.len.toNat∧isA N A υ∧Ext σ υ∧Rh N σ pm n gm υ) ?_ (n:=n - 1)
   ⟨1,li,A,b,by omega,rfl,rfl,⟨Int.le_refl 1,by omega⟩,hdv.mono (by omega),hmk,fun k k0 k1=>by rw [hli k k0 k1]; exact (decide_eq_true (by omega)).symm,hlo,hP.mono (by omega),hn,hA,hE,hrm⟩
  clear hdv hmk hli hlo hP hn hA hE hrm
  rintro x ts ls υ ⟨m,li,A,b,rfl,rfl,rfl,⟨m1,mn⟩,hdv,hmk,hli,hlo,hP,hn,hA,hE,hrm⟩ R hR
  simp only [w_law14_CompactPending_l15,w_law14_CompactPending_l15b,xLen,ruS,ruL,ruE,Nat.reduceAdd,reduceIte,Int.reduceLT,Int.reduceLE,Int.reduceEq,Int.reduceNeg,Int.reduceAdd,Int.reduceSub,Nat.reduceLeDiff,Nat.reduceLT]
  by_cases cm:m<n
  rotate_left
  ·simp only [cm,ruS,ruL,ruE,Nat.reduceAdd,reduceIte,Int.reduceLT,Int.reduceLE,Int.reduceEq,Int.reduceNeg,Int.reduceAdd,Int.reduceSub,Nat.reduceLeDiff,Nat.reduceLT]
   have hmn:m=n:=by omega
   subst hmn
   exact fin n pm gm dd li V A b υ n2 hdv hmk hn26 (fun k k0 k1=>by rw [hli k k0 k1]; exact decide_eq_decide.2 (by omega)) hlo (hP.mono (by omega)) hn hA hE hrm hrow
  have hm0:0≤m:=by omega
  simp only [cm,xIxS hm0 cm,Nat.zero_add,ruS,ruL,ruE,Nat.reduceAdd,reduceIte,Int.reduceLT,Int.reduceLE,Int.reduceEq,Int.reduceNeg,Int.reduceAdd,Int.reduceSub,Nat.reduceLeDiff,Nat.reduceLT]
  rw [hrm.ld hm0 cm,hrow m hm0 cm,← (hmk.each m hm0 cm).2]
  refine c_DropV hN hC hG hA hP (by omega) hdv (by omega) hm0 cm (by rw [hli m hm0 cm]; exact decide_eq_true (by omega)) fun oH oV oS' A6 υ4 hdv6 hP6 hn6 hlo6 hA6 hK6=>?_
  rw [IntWalk.i64_in (m+1) (by omega)]
  refine hR (n - (m+1)).toNat _ _ _ (by omega) ⟨m+1,updB li m false,A6,{ b.less (dd m).j (roomOf (classOf (dd m).z)) with F:=(dd m).s :: b.F },rfl,rfl,rfl,⟨by omega,by omega⟩,by rw [← Int.add_assoc]; exact hdv6,⟨hmk.each,hmk.o,hmk.st,hmk.full,hmk.nn⟩,fun k k0 k1=>?_,fun i hi=>by rw [hlo6 i hi]; exact hlo i hi,hP6.mono (by omega),by rw [hn6]; exact hn,hA6,hE.keep' hK6 fun y hy=>hfr.all y hy,hrm.keep hK6⟩
  by_cases e:k=m
  ·subst e; rw [show updB li k false k=false from if_pos rfl]; exact (decide_eq_false (by omega)).symm
  ·rw [show updB li m false k=li k from if_neg e,hli k k0 k1]; exact decide_eq_decide.2 (by omega)
 refine xLoop_r (fun x ts ls τ=>∃ (i:Int) (n:Nat) (pm:Nat) (gm:Int→Int) (dd:Int→Do) (li:Int→Bool) (V:Int→Int→Int) (A:Ar) (b:Bg),x=(26 - i).toNat∧ts=[.int .i64 a1,.bool rdy,.int .i64 z,.slice (some ⟨pm,0,none⟩) n 1,.int .i64 i]∧ls=[N.el C 0]∧(0≤i∧i≤26)∧(n=i∨8≤n)∧b.F.length+n=30∧Dv C i n dd li V A.w b∧Mk1 C n z dd b∧(∀ k:Int,0≤k→k<n→li k=true)∧(∀ i,lowW C i→A.w i=0)∧Pa C A (1000+200*i)∧A.n=C.len.toNat∧isA N A τ∧Ext σ τ ∧
   Rh N σ pm n gm τ∧(∀ k:Int,0≤k→k<n→gm k=(dd k).n)) ?_ (n:=26)
  ⟨0,0,pm0,_,_,_,_,A,_,rfl,rfl,rfl,⟨Int.le_refl 0,by decide⟩,.inl rfl,F0,dv0,⟨fun k k0 k1=>by omega,fun _ _ _ _=>rfl,.inl ⟨rfl,rfl,rfl⟩,fun j j0 j1=>by have j1':j<0 - 1:=j1; omega,Int.le_refl 0⟩,fun k k0 k1=>by omega,low0,hP.mono (by omega),hnA,hA0.ext x1,hE0.trans x1,r0,fun k k0 k1=>by omega⟩
 clear dv0 low0 hP hnA hA0 hE0 hA hE x0 r0 g0 m0 x1 F0
 rintro x ts ls τ3 ⟨i,n,pm,gm,dd,li,V,A1,b,rfl,rfl,rfl,⟨i0,i1⟩,hni,hFl,hdv,hmk,hli,hlo,hP1,hn1,hA1,hE1,hrm,hrow⟩ R hR
 have hnle:=hdv.dw.nle
 simp only [w_law14_CompactPending_l7,w_law14_CompactPending_l7b,ruS,ruL,ruE,Nat.reduceAdd,reduceIte,Int.reduceLT,Int.reduceLE,Int.reduceEq,Int.reduceNeg,Int.reduceAdd,Int.reduceSub,Nat.reduceLeDiff,Nat.reduceLT]
 by_cases c2:i<26
 rotate_left
 ·simp only [c2,ruS,ruL,ruE,Nat.reduceAdd,reduceIte,Int.reduceLT,Int.reduceLE,Int.reduceEq,Int.reduceNeg,Int.reduceAdd,Int.reduceSub,Nat.reduceLeDiff,Nat.reduceLT]
  exact drops n pm gm dd li V A1 b τ3 (by omega) (hdv.mono (by omega)) hmk (by omega) hli hlo (hP1.mono (by omega)) hn1 hA1 hE1 hrm hrow
 clear fin drops
 simp only [c2,ruS,ruL,ruE,Nat.reduceAdd,reduceIte,Int.reduceLT,Int.reduceLE,Int.reduceEq,Int.reduceNeg,Int.reduceAdd,Int.reduceSub,Nat.reduceLeDiff,Nat.reduceLT]
 refine c_MakeV hN hC hA1 hP1 (by omega) hdv (by omega) hz (fun oE oV oS A' τ4 hf hdv' hP2 hn2 hlo2 hA2 hK2=>?_) fun oV oS A' τ4 s' F j b' d hF hgt hd hdv' hP2 hn2 hlo2 hA2 hK2=>?_
 ·have hE0:¬ oE=0:=by omega
  have h8n:8≤n:=by
   rcases hf with ⟨_,q⟩ | ⟨_,_,q⟩
   ·rw [q] at hFl; have:n=30:=by simpa using hFl
    omega
   ·have:=hmk.nn; omega
  simp only [gs,hE0,w_bf_j6,w_bf_j6b,ruS,ruL,ruE,Nat.reduceAdd,reduceIte,Int.reduceLT,Int.reduceLE,Int.reduceEq,Int.reduceNeg,Int.reduceAdd,Int.reduceSub,Nat.reduceLeDiff,Nat.reduceLT]
  rw [IntWalk.i64_in (i+1) (by omega)]
  exact hR (26 - (i+1)).toNat _ _ _ (by omega) ⟨i+1,n,pm,gm,dd,li,V,A',b,rfl,rfl,rfl,⟨by omega,by omega⟩,.inr h8n,hFl,hdv'.mono (by omega),hmk,hli,fun x hx=>by rw [hlo2 x hx]; exact hlo x hx,hP2.mono (by omega),by rw [hn2]; exact hn1,hA2,hE1.keep' hK2 fun y hy=>hfr.all y hy,hrm.keep hK2,hrow⟩
 ·have hE2:Ext σ τ4:=hE1.keep' hK2 fun y hy=>hfr.all y hy
  have hrm2:=hrm.keep hK2
  simp only [gs,bu1,ruS,ruL,ruE,Nat.reduceAdd,reduceIte,Int.reduceLT,Int.reduceLE,Int.reduceEq,Int.reduceNeg,Int.reduceAdd,Int.reduceSub,Nat.reduceLeDiff,Nat.reduceLT]
  have eg:(fun l:Int=>if l=n then d.n else gm l) n=d.n:=if_pos rfl
  rw [← eg]
  refine hrm2.add (g':=fun l:Int=>if l=n then d.n else gm l) hA2 hE2 (by omega) (fun l l0 l1=>if_neg (by omega)) fun id υ hrm3 hA3 hE3 _=>?_
  simp only [w_bf_j6,w_bf_j6b,ruS,ruL,ruE,Nat.reduceAdd,reduceIte,Int.reduceLT,Int.reduceLE,Int.reduceEq,Int.reduceNeg,Int.reduceAdd,Int.reduceSub,Nat.reduceLeDiff,Nat.reduceLT]
  rw [IntWalk.i64_in (i+1) (by omega)]
  have hbF:(b'.count j (roomOf (classOf z))).F=F:=(hgt.has hC).1
  have ed:addD dd n d n=d:=if_pos rfl
  refine hR (26 - (i+1)).toNat _ _ _ (by omega) ⟨i+1,n+1,id,_,_,_,_,A',_,rfl,by simp,rfl,⟨by omega,by omega⟩,by omega,?_,hdv',hmk.next hC hdv.dw.aw hz hF hgt hd,fun l l0 l1=>?_,fun x hx=>by rw [hlo2 x hx]; exact hlo x hx,hP2.mono (by omega),by rw [hn2]; exact hn1,hA3,hE3,hrm3,fun l l0 l1=>?_⟩
  ·rw [hbF]; rw [hF] at hFl; simp only [List.length_cons] at hFl; omega
  ·by_cases e:l=n
   ·exact if_pos e
   ·rw [show updB li n true l=li l from if_neg e]; exact hli l l0 (by omega)
  ·by_cases e:l=n
   ·subst e; rw [ed]; exact if_pos rfl
   ·rw [show addD dd n d l=dd l from if_neg e]
    simp only [if_neg e]; exact hrow l l0 (by omega)
end Go.Fl
