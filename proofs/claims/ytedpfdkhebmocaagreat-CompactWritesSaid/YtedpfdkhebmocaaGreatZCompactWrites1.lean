/- What the claim leans on, part 1: own readings of the program's functions, what they come to, laws of them. No condition. -/
import Derived.Test.YtedpfdkhebmocaaGreatZCompactWrites0
set_option linter.unusedVariables false
set_option linter.unusedSimpArgs false
namespace Go.Fl
open Go
def dk(ops:Array Oper):Nat→Nat→Nat→Bool
 | 0,_,_=>false
 | f+1,j,p=>match ops[j]? with
  | none=>false
  | some o=>(o.after.toList.any fun e=>Region.binds .any e&&Nat.beq e.on p)||(o.after.toList.any fun e=>Region.binds .any e&&dk ops f e.on p)
def Bs(C:Cx)(ops:Array Oper):List Oper→Nat→List (Nat×Oper)→Bool
 | [],_,_=>true
 | o::l,j,seen=>(seen.all fun x=>indep C ops x.2 o||dk ops 12 j x.1)&&Bs C ops l (j+1) ((j,o)::seen)
def xR(l:List Oper):Nat→Bool:=match l with
 | []=>fun _=>true
 | o::l=>fun i=>(o.after.toList.all fun e => !(Region.binds .any e)||Nat.blt e.on i)&&xR l (i+1)
def Up(C:Cx)(ops:Array Oper)(p i:Nat):Bool:=match ops[p]?,ops[i]? with
 | some op,some oi=>indep C ops op oi||dk ops 12 i p
 | _,_=>false
def Uo(f:Nat→Nat→Bool):List Nat→Bool
 | []=>true
 | p::l=>l.all (f p)&&Uo f l
def mb(i:Nat)(l:List Nat):Bool:=l.any (Nat.beq i)
def GB:List Nat→List (List Nat)
 | []=>[[]]
 | x::l=>GB l++(GB l).map (x :: ·)
def V5(C:Cx)(ops:Array Oper)(i:Nat):Bool:=match ops[i]? with|some o=>na false (fO C o)|none=>false
def R8(al:List (List Nat×List Nat))(i:Nat):Bool:=Nat.ble ((al.map Prod.fst).filter (mb i)).length 1
def BP(C:Cx)(ops:Array Oper)(c:Nat)(xs:List Nat)(al:List (List Nat×List Nat)):Bool:=
 xR ops.toList 0&&ops.toList.all (fun o=>o.guard.isNone) && !(mb c xs) &&
 (List.range ops.size).all (fun i=>Nat.beq i c||V5 C ops i||dk ops 12 i c||(mb i xs&&R8 al i)||xs.any (fun x=>dk ops 12 i x&&R8 al x)) &&
 al.all (fun x=>Uo (fun p i=>(mb p x.1&&Nat.beq i c)||(Nat.beq p c&&mb i xs && !(mb i x.1))||Up C ops p i) x.2&&Uo (fun p i => !(Nat.beq p i)) x.2&&x.2.all (fun i=>Nat.blt i ops.size)&&(List.range ops.size).all (fun i=>mb i x.2)&&x.1.all (fun i=>mb i xs)&&Nat.ble x.2.length ops.size) &&
 (GB xs).all (fun D=>al.any (fun x=>D.all (fun y=>mb y x.1)&&x.1.all (fun y=>mb y D))||D.any (fun x=>xs.any fun y => !(mb y D)&&dk ops 12 x y))
def BQ(C:Cx)(ops:Array Oper):Bool:=xR ops.toList 0&&Bs C ops ops.toList 0 []
theorem xQ:∀{l:List Oper} {i:Nat},xR l i=true→∀{k:Nat} {o:Oper},l[k]?=some o→∀ e∈o.after,Region.binds .any e=true→e.on<i+k:=by
 intro l
 induction l with
 | nil=>intro i _ k o h;simp at h
 | cons x xs ih=>
  intro i h k o hk e he hb
  simp only[xR,Bool.and_eq_true]at h
  cases k with
  | zero=>
   simp at hk;subst hk
   have:=List.all_eq_true.1 h.1 e (by simpa using he)
   rw[hb]at this
   simp only[Bool.not_true,Bool.false_or]at this
   exact Nat.le_of_ble_eq_true this
  | succ k=>
   have:=ih h.2 (by simpa using hk) e he hb
   omega
theorem EJ{C:Cx}{ops:Array Oper}:∀{l:List Oper} {j:Nat} {seen:List (Nat×Oper)},Bs C ops l j seen=true →
  (∀{k:Nat} {o:Oper},l[k]?=some o→∀ x∈seen,indep C ops x.2 o=true∨dk ops 12 (j+k) x.1=true) ∧
  (∀{k k':Nat} {o o':Oper},k'<k→l[k]?=some o→l[k']?=some o'→indep C ops o' o=true∨dk ops 12 (j+k) (j+k')=true):=by
 intro l
 induction l with
 | nil=>intro j seen _;exact⟨fun h=>by simp at h,fun _ h=>by simp at h⟩
 | cons x xs ih=>
  intro j seen h
  simp only[Bs,Bool.and_eq_true]at h
  obtain⟨i1,i2⟩:=ih h.2
  refine⟨fun{k o} hk y hy=>?_,fun{k k' o o'} iL hk kV=>?_⟩
  ·cases k with
   | zero=>
    simp at hk;subst hk
    have:=List.all_eq_true.1 h.1 y hy
    simpa using this
   | succ k=>
    have:=i1 (k:=k) (by simpa using hk) y (by simp[hy])
    rwa [show j+(k+1)=j+1+k from by omega]
  ·cases k with
   | zero=>omega
   | succ k=>
    cases k' with
    | zero=>
     simp at kV;subst kV
     have:=i1 (k:=k) (by simpa using hk) (j,x) (by simp)
     rwa [show j+(k+1)=j+1+k from by omega]
    | succ k'=>
     have:=i2 (k:=k) (k':=k') (by omega) (by simpa using hk) (by simpa using kV)
     rwa [show j+(k+1)=j+1+k from by omega,show j+(k'+1)=j+1+k' from by omega]
theorem CW{C:Cx}(hC:C.bP){ops:Array Oper}{o:Oper}{s:St}{σ:Mem}{K K':St→Mem→Prop}(h:∀ s τ,K s τ→K' s τ)(hs:ze C ops o s σ K):ze C ops o s σ K':=by
 rw[vg]at *
 exact jh hC (fun r τ hk=>h _ _ hk) hs
theorem move{C:Cx}(hC:C.bP){ops:Array Oper}{i:Nat}{o:Oper}(hi:ops[i]?=some o){K:St→Mem→Prop}{post:List Nat}:∀{pre:List Nat} {s:St} {σ:Mem},
  (∀ p∈pre,∀ q,ops[p]?=some q→indep C ops q o=true)→kC C ops K (pre++i::post) s σ→ze C ops o s σ (fun s σ=>kC C ops K (pre++post) s σ):=by
 intro pre
 induction pre with
 | nil=>intro s σ _ h;simpa[kC,hi]using h
 | cons p pre ih=>
  intro s σ hp h
  simp only[List.cons_append,kC]at h ⊢
  cases hq:ops[p]? with
  | none=>
   simp only[hq]at h ⊢
   exact ih (fun p' h'=>hp p' (by simp[h'])) h
  | some q=>
   simp only[hq]at h ⊢
   have h2:=CW hC (fun s τ hk=>ih (fun p' h'=>hp p' (by simp[h'])) hk) h
   exact swap hC (hp p (by simp) q hq) h2
theorem mO{ops:Array Oper}{aU:Array Bool}(qB:∀ j o,ops[j]?=some o→aU.getD j false=true→∀ e∈o.after,Region.binds .any e=true→aU.getD e.on false=true) :
  ∀(f j p:Nat) (o:Oper),ops[j]?=some o→(∀ e∈o.after,Region.binds .any e=true→aU.getD e.on false=true)→dk ops f j p=true→aU.getD p false=true:=by
 intro f
 induction f with
 | zero=>intro j p o _ _ h;cases h
 | succ f ih=>
  intro j p o ho hd h
  simp only[dk,ho,Bool.or_eq_true,List.any_eq_true,Bool.and_eq_true]at h
  rcases h with⟨e,he,hb,hp⟩|⟨e,he,hb,hr⟩
  ·have:e.on=p:=Nat.eq_of_beq_eq_true hp
   rw[←this]
   exact hd e (by simpa using he) hb
  ·have hl:=hd e (by simpa using he) hb
   cases hoe:ops[e.on]? with
   | none=>
    cases f with
    | zero=>cases hr
    | succ f=>simp only[dk,hoe]at hr;cases hr
   | some oe=>exact ih _ _ oe hoe (qB _ _ hoe hl) hr
section
variable{C:Cx}{ρ0:dS}{σ0:Mem}{w0:World}{lm:Nat→Option Nat}{ρ:dS}{s:St}{σ:Mem}{a:Act}{w:World}
theorem Hu(hT:Kw C)(he:C.eqt.all (eqOk C.P)=true){ops:Array Oper}(F4:ox C ops=true)(MQ:BQ C ops=true){K:St→Mem→Prop}{Q:Exit→Act→World→Prop}
  (hQ:DH C ρ0 σ0 w0 K (Q .normal)):∀(fuel:Nat) (rem:List Nat) (aU:Array Bool) (lm:Nat→Option Nat) (ρ:dS) (s:St) (σ:Mem) (a:Act) (w:World),
   rem.length≤fuel→aU.size=ops.size→rem.Pairwise (·<·)→(∀ i,i∈rem ↔ i<ops.size∧aU.getD i false=false) →
   (∀ j o,ops[j]?=some o→aU.getD j false=true→∀ e∈o.after,Region.binds .any e=true→aU.getD e.on false=true) →
   kC C ops K rem s σ→FI C ρ0 σ0 w0 lm ρ s σ a w→wpAny C.P .any ops Q fuel aU a w:=by
 have hC:C.bP:=fun g c S h=>(hT.t g c S h).2.1
 simp only[BQ,Bool.and_eq_true]at MQ
 have tV:∀{k:Nat} {o:Oper},ops.toList[k]?=some o→∀ e∈o.after,Region.binds .any e=true→e.on<0+k:=fun h=>xQ MQ.1 h
 have U6:∀{k k':Nat} {o o':Oper},k'<k→ops.toList[k]?=some o→ops.toList[k']?=some o'→indep C ops o' o=true∨dk ops 12 (0+k) (0+k')=true:=fun h1 h2 h3=>(EJ MQ.2).2 h1 h2 h3
 have jd:∀(rem:List Nat) (aU:Array Bool),aU.size=ops.size→rem.Pairwise (·<·)→(∀ i,i∈rem ↔ i<ops.size∧aU.getD i false=false) →
   Region.ready .any ops aU=[]→rem=[]:=by
  intro rem aU lj I7 l8 qf
  cases rem with
  | nil=>rfl
  | cons i rest=>
   exfalso
   obtain⟨iL,SV⟩:=(l8 i).1 (by simp)
   have BD:i∈Region.ready .any ops aU:=by
    rw[mem_ready]
    refine⟨by simpa[lj,iL]using SV,ops[i],by simp[iL],fun e he hb=>?_⟩
    have pD:=tV (k:=i) (o:=ops[i]) (by simp[iL]) e he hb
    simp only[Nat.zero_add]at pD
    cases hl:aU.getD e.on false with
    | true=>rfl
    | false=>
     have hm:=(l8 e.on).2 ⟨by omega,hl⟩
     rcases List.mem_cons.1 hm with h|h
     ·omega
     ·have:=(List.pairwise_cons.1 I7).1 _ h;omega
   rw[qf]at BD;cases BD
 intro fuel
 induction fuel with
 | zero=>
  intro rem aU lm ρ s σ a w hlen lj I7 l8 qB h hI
  have:rem=[]:=List.length_eq_zero_iff.1 (by omega)
  subst this
  refine⟨?_,hQ _ _ _ _ _ _ h hI⟩
  cases hr:Region.ready .any ops aU with
  | nil=>rfl
  | cons i rest=>
   have BD:i∈Region.ready .any ops aU:=by rw[hr];simp
   obtain⟨h1,o,ho,_⟩:=mem_ready.1 BD
   have iL:i<ops.size:=(Array.getElem?_eq_some_iff.1 ho).1
   have:i∈([]:List Nat):=(l8 i).2 ⟨iL,by simpa[lj,iL]using h1⟩
   cases this
 | succ fuel ih=>
  intro rem aU lm ρ s σ a w hlen lj I7 l8 qB h hI
  refine⟨fun qf=>?_,fun i BD=>?_⟩
  ·have:=jd rem aU lj I7 l8 qf
   subst this
   exact hQ _ _ _ _ _ _ h hI
  ·obtain⟨h1,o,ho,l_⟩:=mem_ready.1 BD
   have iL:i<ops.size:=(Array.getElem?_eq_some_iff.1 ho).1
   have RH:i∈rem:=(l8 i).2 ⟨iL,by simpa[lj,iL]using h1⟩
   obtain⟨pre,post,rfl⟩:=List.append_of_mem RH
   have U4:∀ p∈pre,p<i:=fun p hp=>(List.pairwise_append.1 I7).2.2 p hp i (by simp)
   have RJ:∀ p∈pre,∀ q,ops[p]?=some q→indep C ops q o=true:=by
    intro p hp q hq
    rcases U6 (k:=i) (k':=p) (U4 p hp) (by simpa using ho) (by simpa using hq)with h'|h'
    ·exact h'
    ·simp only[Nat.zero_add]at h'
     have:=mO qB 12 i p o ho l_ h'
     have bG:=((l8 p).1 (by simp[hp])).2
     rw[bG]at this;cases this
   have Vc:=move hC ho RJ h
   refine lZ hT he ho Vc hI (mj F4 ho) fun xA ρ' s' σ' a' w' hk hf=>?_
   refine ih (pre++post) (aU.setIfInBounds i true) xA ρ' s' σ' a' w' (by simp at hlen ⊢;omega) (by simp[lj]) ?_ ?_ ?_ hk hf
   ·have:=List.pairwise_append.1 I7
    refine List.pairwise_append.2 ⟨this.1,(List.pairwise_cons.1 this.2.1).2,fun x hx y hy=>this.2.2 x hx y (by simp[hy])⟩
   ·intro k
    have hk:=l8 k
    simp only[List.mem_append,List.mem_cons]at hk ⊢
    by_cases e:k=i
    ·subst e
     have U9:k∉pre:=fun hp=>Nat.lt_irrefl _ (U4 k hp)
     have hnq:k∉post:=fun hp=>Nat.lt_irrefl _ ((List.pairwise_cons.1 (List.pairwise_append.1 I7).2.1).1 k hp)
     simp[U9,hnq,lj,iL]
    ·rw[getD_set_ne false (Ne.symm e)]
     simp only[e,false_or]at hk
     exact hk
   ·intro j oj RD hl e he hb
    by_cases ej:j=i
    ·subst ej
     rw[ho]at RD;cases RD
     exact getD_set_true (l_ e he hb)
    ·rw[getD_set_ne false (Ne.symm ej)]at hl
     exact getD_set_true (qB j oj RD hl e he hb)
theorem xv{f:Nat→Nat→Bool}:∀{l:List Nat},Uo f l=true→l.Pairwise (fun p i=>f p i=true)
 | [],_=>.nil
 | p::l,h=>by
  simp only[Uo,Bool.and_eq_true,List.all_eq_true]at h
  exact .cons h.1 (xv h.2)
theorem CV{C:Cx}(hC:C.bP){ops:Array Oper}{K:St→Mem→Prop}:∀(is:List Nat) (i:Nat) (dec:List (Nat×Option Bool)) (s:St) (σ:Mem),(∀ j∈is,∃ o,ops[j]?=some o∧o.guard=none)→gO C ops K (Fs ops is) i dec s σ→kC C ops K is s σ
 | [],i,dec,s,σ,_,h=>by simpa[kC,Fs,gO]using h
 | j::is,i,dec,s,σ,hg,h=>by
  obtain⟨o,ho,hn⟩:=hg j (by simp)
  have e:Fs ops (j::is)=o::Fs ops is:=by simp[Fs,ho]
  rw[e]at h
  simp only[kC,ho]
  unfold gO at h
  rw[hn]at h
  unfold ze
  rw[hn]
  exact lY hC (fun s τ hk=>CV hC is _ _ s τ (fun k hk=>hg k (by simp[hk])) hk) h
section
variable{C:Cx}{ρ0:dS}{σ0:Mem}{w0:World}{lm:Nat→Option Nat}{ρ:dS}{s:St}{σ:Mem}{a:Act}{w:World}
theorem y9{ops:Array Oper}{aU:Array Bool}(tV:∀{k:Nat} {o:Oper},ops.toList[k]?=some o→∀ e∈o.after,Region.binds .any e=true→e.on<0+k)(lj:aU.size=ops.size)(qf:Region.ready .any ops aU=[]) :
  ∀ i,i<ops.size→aU.getD i false=true:=by
 intro i
 induction i using Nat.strongRecOn with
 | _ i ih=>
  intro iL
  cases hl:aU.getD i false with
  | true=>rfl
  | false=>
   exfalso
   have BD:i∈Region.ready .any ops aU:=by
    rw[mem_ready]
    refine⟨by simpa[lj,iL]using hl,ops[i],by simp[iL],fun e he hb=>?_⟩
    have pD:=tV (k:=i) (o:=ops[i]) (by simp[iL]) e he hb
    exact ih e.on (by omega) (by omega)
   rw[qf]at BD;cases BD
theorem CS{ops:Array Oper}{p i:Nat}{o q:Oper}(h:Up C ops p i=true)(ho:ops[i]?=some o)(hq:ops[p]?=some q):indep C ops q o=true∨dk ops 12 i p=true:=by
 unfold Up at h;rw[hq,ho]at h;simpa using h
theorem C0{ops:Array Oper}{aU:Array Bool}{pre post:List Nat}{i:Nat}(lj:aU.size=ops.size)(iL:i<ops.size)(hnd:(pre++i::post).Pairwise (·≠·))(l8:∀ k,k∈pre++i::post ↔ k<ops.size∧aU.getD k false=false) :
  ∀ k,k∈pre++post ↔ k<ops.size∧(aU.setIfInBounds i true).getD k false=false:=by
 intro k
 have hk:=l8 k
 simp only[List.mem_append,List.mem_cons]at hk ⊢
 by_cases e:k=i
 ·subst e
  have U9:k∉pre:=fun hp=>(List.pairwise_append.1 hnd).2.2 k hp k (by simp) rfl
  have hnq:k∉post:=fun hp=>(List.pairwise_cons.1 (List.pairwise_append.1 hnd).2.1).1 k hp rfl
  simp[U9,hnq,lj,iL]
 ·rw[getD_set_ne false (Ne.symm e)]
  simp only[e,false_or]at hk
  exact hk
theorem FU{ops:Array Oper}{aU:Array Bool}{i:Nat}{o:Oper}(ho:ops[i]?=some o)(l_:∀ e∈o.after,Region.binds .any e=true→aU.getD e.on false=true)
  (qB:∀ j o,ops[j]?=some o→aU.getD j false=true→∀ e∈o.after,Region.binds .any e=true→aU.getD e.on false=true) :
  ∀ j o,ops[j]?=some o→(aU.setIfInBounds i true).getD j false=true→∀ e∈o.after,Region.binds .any e=true→(aU.setIfInBounds i true).getD e.on false=true:=by
 intro j oj RD hl e he hb
 by_cases ej:j=i
 ·subst ej
  rw[ho]at RD;cases RD
  exact getD_set_true (l_ e he hb)
 ·rw[getD_set_ne false (Ne.symm ej)]at hl
  exact getD_set_true (qB j oj RD hl e he hb)
theorem Fq(hT:Kw C)(he:C.eqt.all (eqOk C.P)=true){ops:Array Oper}(F4:ox C ops=true)(tV:∀{k:Nat} {o:Oper},ops.toList[k]?=some o→∀ e∈o.after,Region.binds .any e=true→e.on<0+k){K:St→Mem→Prop}{Q:Exit→Act→World→Prop}
  (hQ:DH C ρ0 σ0 w0 K (Q .normal)):∀(fuel:Nat) (rem:List Nat) (aU:Array Bool) (lm:Nat→Option Nat) (ρ:dS) (s:St) (σ:Mem) (a:Act) (w:World),
   rem.length≤fuel→aU.size=ops.size→rem.Pairwise (fun p i=>Up C ops p i=true)→rem.Pairwise (·≠·)→(∀ i,i∈rem ↔ i<ops.size∧aU.getD i false=false) →
   (∀ j o,ops[j]?=some o→aU.getD j false=true→∀ e∈o.after,Region.binds .any e=true→aU.getD e.on false=true) →
   kC C ops K rem s σ→FI C ρ0 σ0 w0 lm ρ s σ a w→wpAny C.P .any ops Q fuel aU a w:=by
 have hC:C.bP:=fun g c S h=>(hT.t g c S h).2.1
 have aaT:∀(rem:List Nat) (aU:Array Bool),aU.size=ops.size→(∀ i,i∈rem ↔ i<ops.size∧aU.getD i false=false)→Region.ready .any ops aU=[]→rem=[]:=by
  intro rem aU lj l8 qf
  refine List.eq_nil_iff_forall_not_mem.2 fun i hi=>?_
  obtain⟨h1,h2⟩:=(l8 i).1 hi
  rw[y9 tV lj qf i h1]at h2;cases h2
 intro fuel
 induction fuel with
 | zero=>
  intro rem aU lm ρ s σ a w hlen lj I7 hnd l8 qB h hI
  have:rem=[]:=List.length_eq_zero_iff.1 (by omega)
  subst this
  refine⟨?_,hQ _ _ _ _ _ _ h hI⟩
  cases hr:Region.ready .any ops aU with
  | nil=>rfl
  | cons i rest=>
   have BD:i∈Region.ready .any ops aU:=by rw[hr];simp
   obtain⟨h1,o,ho,_⟩:=mem_ready.1 BD
   have iL:i<ops.size:=(Array.getElem?_eq_some_iff.1 ho).1
   have:i∈([]:List Nat):=(l8 i).2 ⟨iL,by simpa[lj,iL]using h1⟩
   cases this
 | succ fuel ih=>
  intro rem aU lm ρ s σ a w hlen lj I7 hnd l8 qB h hI
  refine⟨fun qf=>?_,fun i BD=>?_⟩
  ·have:=aaT rem aU lj l8 qf
   subst this
   exact hQ _ _ _ _ _ _ h hI
  ·obtain⟨h1,o,ho,l_⟩:=mem_ready.1 BD
   have iL:i<ops.size:=(Array.getElem?_eq_some_iff.1 ho).1
   have RH:i∈rem:=(l8 i).2 ⟨iL,by simpa[lj,iL]using h1⟩
   obtain⟨pre,post,rfl⟩:=List.append_of_mem RH
   have G0:(pre++post).Sublist (pre++i::post):=List.Sublist.append_left (List.sublist_cons_self i post) pre
   have RJ:∀ p∈pre,∀ q,ops[p]?=some q→indep C ops q o=true:=by
    intro p hp q hq
    rcases CS ((List.pairwise_append.1 I7).2.2 p hp i (by simp)) ho hq with h'|h'
    ·exact h'
    ·have:=mO qB 12 i p o ho l_ h'
     have bG:=((l8 p).1 (by simp[hp])).2
     rw[bG]at this;cases this
   have Vc:=move hC ho RJ h
   exact lZ hT he ho Vc hI (mj F4 ho) fun xA ρ' s' σ' a' w' hk hf=>
    ih (pre++post) (aU.setIfInBounds i true) xA ρ' s' σ' a' w' (by simp at hlen ⊢;omega) (by simp[lj]) (I7.sublist G0) (hnd.sublist G0) (C0 lj iL hnd l8) (FU ho l_ qB) hk hf
theorem jc{i:Nat}{l:List Nat}:mb i l=true ↔ i∈l:=by
 unfold mb
 rw[List.any_eq_true]
 exact⟨fun⟨x,hx,e⟩=>by rw[Nat.eq_of_beq_eq_true e];exact hx,fun h=>⟨i,h,Nat.beq_refl i⟩⟩
theorem tO{p:Nat→Bool}:∀{l:List Nat},l.filter p∈GB l
 | []=>by simp[GB]
 | x::l=>by
  have ih:=tO (p:=p) (l:=l)
  unfold GB
  rw[List.filter_cons]
  split
  ·exact List.mem_append_right _ (List.mem_map.2 ⟨_,ih,rfl⟩)
  ·exact List.mem_append_left _ ih
def del(i:Nat)(l:List Nat):List Nat:=l.filter fun p => !(Nat.beq p i)
theorem BR{i:Nat}{pre post:List Nat}(h:(pre++i::post).Pairwise (·≠·)):del i (pre++i::post)=pre++post:=by
 have hp:=List.pairwise_append.1 h
 have e:∀{l:List Nat},i∉l→l.filter (fun p => !(Nat.beq p i))=l:=fun{l} hl=>List.filter_eq_self.2 fun x hx=>by
  simp only[Bool.not_eq_true']
  cases q:Nat.beq x i with
  | false=>rfl
  | true=>exact absurd (by rw[←Nat.eq_of_beq_eq_true q];exact hx) hl
 unfold del
 rw[List.filter_append,List.filter_cons,ae (by simp),e (fun hi=>hp.2.2 i hi i (by simp) rfl),e (fun hi=>(List.pairwise_cons.1 hp.2.1).1 i hi rfl)]
theorem EM{C:Cx}(hC:C.bP){ops:Array Oper}{o:Oper}(hg:o.guard=none)(hc:na false (fO C o)=true){s:St}{σ:Mem}{α:Type}{S:α→Prop}{K:α→St→Mem→Prop}(jd:∃ x,S x)(h:∀ x,S x→ze C ops o s σ (K x)) :
  ze C ops o s σ fun s τ=>∀ x,S x→K x s τ:=by
 unfold ze at *
 rw[hg]at *
 rcases FR (all:=false) hC hc s σ with d|⟨r,d⟩
 ·obtain⟨x,hx⟩:=jd
  exact absurd (h x hx) (d (K x) σ fun _=>rfl)
 ·exact(d _ σ fun _=>rfl).2 fun x hx=>(d (K x) σ fun _=>rfl).1 (h x hx)
theorem Fp(hT:Kw C)(he:C.eqt.all (eqOk C.P)=true){ops:Array Oper}(F4:ox C ops=true)(tV:∀{k:Nat} {o:Oper},ops.toList[k]?=some o→∀ e∈o.after,Region.binds .any e=true→e.on<0+k)
  {c:Nat} {xs:List Nat} (hcx:c∉xs) (SV:∀{i:Nat} {o:Oper},ops[i]?=some o→o.guard=none) {B0:List (List Nat)}
  (bE:∀{i:Nat} {o:Oper},ops[i]?=some o→i≠c→na false (fO C o)=true∨dk ops 12 i c=true∨(i∈xs∧(B0.filter (mb i)).length≤1)∨∃ x∈xs,dk ops 12 i x=true∧(B0.filter (mb x)).length≤1) {K:St→Mem→Prop} {Q:Exit→Act→World→Prop}
  (hQ:DH C ρ0 σ0 w0 K (Q .normal)):∀(fuel:Nat) (al:List (List Nat×List Nat)) (aU:Array Bool) (lm:Nat→Option Nat) (ρ:dS) (s:St) (σ:Mem) (a:Act) (w:World),
   aU.size=ops.size→(∀ x∈al,x.2.length≤fuel∧x.2.Pairwise (fun p i=>(p∈x.1∧i=c)∨(p=c∧i∈xs∧i∉x.1)∨Up C ops p i=true)∧x.2.Pairwise (·≠·)∧(∀ i,i∈x.2 ↔ i<ops.size∧aU.getD i false=false)∧(∀ y∈xs,aU.getD y false=true→y∈x.1)∧kC C ops K x.2 s σ) →
   (al.map Prod.fst).Sublist B0→(∀ D:Nat→Prop,(∀ y,D y→y∈xs)→(∀ y∈xs,aU.getD y false=true→D y)→(∀ x y,D x→y∈xs→dk ops 12 x y=true→D y)→∃ x∈al,∀ y,y∈x.1 ↔ D y) →
   (∀ j o,ops[j]?=some o→aU.getD j false=true→∀ e∈o.after,Region.binds .any e=true→aU.getD e.on false=true)→aU.getD c false=false →
   FI C ρ0 σ0 w0 lm ρ s σ a w→wpAny C.P .any ops Q fuel aU a w:=by
 have hC:C.bP:=fun g c S h=>(hT.t g c S h).2.1
 have one:=fun{K:St→Mem→Prop} {Q:Exit→Act→World→Prop} (hQ:DH C ρ0 σ0 w0 K (Q .normal))=>Fq (ρ0:=ρ0) (σ0:=σ0) (w0:=w0) hT he F4 tV hQ
 have reach:∀{aU:Array Bool},(∀ j o,ops[j]?=some o→aU.getD j false=true→∀ e∈o.after,Region.binds .any e=true→aU.getD e.on false=true)→∀{j p:Nat} {o:Oper},ops[j]?=some o→(∀ e∈o.after,Region.binds .any e=true→aU.getD e.on false=true)→dk ops 12 j p=true→aU.getD p false=true:=
  fun{aU} qB {j p o} ho hd hr=>mO qB 12 j p o ho hd hr
 have live:∀{al:List (List Nat×List Nat)} {aU:Array Bool},(∀ j o,ops[j]?=some o→aU.getD j false=true→∀ e∈o.after,Region.binds .any e=true→aU.getD e.on false=true) →
   (∀ D:Nat→Prop,(∀ y,D y→y∈xs)→(∀ y∈xs,aU.getD y false=true→D y)→(∀ x y,D x→y∈xs→dk ops 12 x y=true→D y)→∃ x∈al,∀ y,y∈x.1 ↔ D y)→∃ x∈al,∀ y,y∈x.1 ↔ y∈xs∧aU.getD y false=true:=fun{al aU} qB rW=>
  rW (fun y=>y∈xs∧aU.getD y false=true) (fun y h=>h.1) (fun y h1 h2=>⟨h1,h2⟩) fun x y hx hy hr=>⟨hy,by
   cases ho:ops[x]? with
   | none=>simp only[dk,ho]at hr;cases hr
   | some o=>exact reach qB ho (qB x o ho hx.2) hr⟩
 intro fuel
 induction fuel with
 | zero=>
  intro al aU lm ρ s σ a w lj tW G0 rW qB Ve hI
  obtain⟨x,hx,_⟩:=live qB rW
  obtain⟨h1,h2,h3,h4,h5,h6⟩:=tW x hx
  have qf:x.2=[]:=List.length_eq_zero_iff.1 (by omega)
  rw[qf]at h4 h6
  exact one hQ 0 [] aU lm ρ s σ a w (Nat.le_refl _) lj .nil .nil h4 qB h6 hI
 | succ fuel ih=>
  intro al aU lm ρ s σ a w lj tW G0 rW qB Ve hI
  refine⟨fun qf=>?_,fun i BD=>?_⟩
  ·obtain⟨x,hx,_⟩:=live qB rW
   obtain⟨h1,h2,h3,h4,h5,h6⟩:=tW x hx
   have:x.2=[]:=by
    refine List.eq_nil_iff_forall_not_mem.2 fun i hi=>?_
    obtain⟨q1,q2⟩:=(h4 i).1 hi
    rw[y9 tV lj qf i q1]at q2;cases q2
   rw[this]at h6
   exact hQ _ _ _ _ _ _ h6 hI
  ·obtain⟨h1,o,ho,l_⟩:=mem_ready.1 BD
   have iL:i<ops.size:=(Array.getElem?_eq_some_iff.1 ho).1
   have RK:i<ops.size∧aU.getD i false=false:=⟨iL,by simpa[lj,iL]using h1⟩
   have ldc:=FU ho l_ qB
   have US:(aU.setIfInBounds i true).size=ops.size:=by simp[lj]
   have mv:∀ x∈al,(i=c→∀ y∈x.1,aU.getD y false=true)→(i∈xs→i∈x.1)→ze C ops o s σ (fun s σ=>kC C ops K (del i x.2) s σ):=fun x hx g1 g2=>by
    obtain⟨_,h2,h3,h4,_,h6⟩:=tW x hx
    obtain⟨pre,post,e⟩:=List.append_of_mem ((h4 i).2 RK)
    rw[e]at h2 h3 h6 ⊢
    rw[BR h3]
    refine move hC ho (fun p hp q hq=>?_) h6
    have hpr:=(List.pairwise_append.1 h2).2.2 p hp i (by simp)
    have MN:aU.getD p false=false:=((h4 p).1 (by rw[e];simp[hp])).2
    rcases hpr with⟨r1,r2⟩|⟨r1,r2,r3⟩|r
    ·rw[g1 r2 p r1]at MN;cases MN
    ·exact absurd (g2 r2) r3
    ·rcases CS r ho hq with h'|h'
     ·exact h'
     ·rw[reach qB ho l_ h']at MN;cases MN
   have Rt:∀ x∈al,∀ k,k∈del i x.2 ↔ k<ops.size∧(aU.setIfInBounds i true).getD k false=false:=fun x hx=>by
    obtain⟨_,_,h3,h4,_⟩:=tW x hx
    obtain⟨pre,post,e⟩:=List.append_of_mem ((h4 i).2 RK)
    rw[e]at h3 h4 ⊢
    rw[BR h3]
    exact C0 lj iL h3 h4
   have Uy:∀ x∈al,(del i x.2).length≤fuel:=fun x hx=>by
    obtain⟨h1,_,h3,h4,_⟩:=tW x hx
    obtain⟨pre,post,e⟩:=List.append_of_mem ((h4 i).2 RK)
    rw[e]at h1 h3 ⊢
    rw[BR h3]
    simp at h1 ⊢;omega
   by_cases ic:i=c
   ·subst ic
    obtain⟨x,hx,hB⟩:=live qB rW
    obtain⟨h1,h2,h3,h4,h5,h6⟩:=tW x hx
    have Vc:=mv x hx (fun _ y hy=>((hB y).1 hy).2) (fun q=>absurd q hcx)
    refine lZ hT he ho Vc hI (mj F4 ho) fun xA ρ' s' σ' a' w' hk hf=>?_
    refine one hQ fuel (del i x.2) (aU.setIfInBounds i true) xA ρ' s' σ' a' w' (Uy x hx) US ?_ (h3.sublist List.filter_sublist) (Rt x hx) ldc hk hf
    have ni:i∉del i x.2:=fun q=>by
     have:=((Rt x hx i).1 q).2;simp[lj,iL]at this
    exact List.Pairwise.imp_of_mem (fun{p q} hp hq e=>by
     rcases e with⟨_,e⟩|⟨e,_⟩|e
     ·exact absurd (by rw[e]at hq;exact hq) ni
     ·exact absurd (by rw[e]at hp;exact hp) ni
     ·exact e) (h2.sublist List.filter_sublist)
   ·
    have ne':∃ x,x∈al∧(i∈xs→i∈x.1):=by
     by_cases XC:i∈xs
     ·obtain⟨x,hx,hB⟩:=rW (fun y=>y∈xs∧(aU.getD y false=true∨y=i)) (fun y h=>h.1) (fun y h1 h2=>⟨h1,.inl h2⟩) fun x y hx hy hr=>⟨hy,by
       rcases hx.2 with q|rfl
       ·cases ho':ops[x]? with
        | none=>simp only[dk,ho']at hr;cases hr
        | some o'=>exact .inl (reach qB ho' (qB x o' ho' q) hr)
       ·exact .inl (reach qB ho l_ hr)⟩
      exact⟨x,hx,fun _=>(hB i).2 ⟨XC,.inr rfl⟩⟩
     ·obtain⟨x,hx,_⟩:=live qB rW
      exact⟨x,hx,fun q=>absurd q XC⟩
    have key:ze C ops o s σ (fun s τ=>∀ x,(x∈al∧(i∈xs→i∈x.1))→kC C ops K (del i x.2) s τ):=by
     have Xd:∀{y:Nat},(B0.filter (mb y)).length≤1→(∀ x,(x∈al∧(i∈xs→i∈x.1))→y∈x.1)→ze C ops o s σ (fun s τ=>∀ x,(x∈al∧(i∈xs→i∈x.1))→kC C ops K (del i x.2) s τ):=fun{y} hy aaX=>by
      obtain⟨x,hx⟩:=ne'
      have hlen:(al.filter fun z=>mb y z.1).length≤1:=by
       have e:((al.map Prod.fst).filter (mb y)).length=(al.filter fun z=>mb y z.1).length:=by
        rw[List.filter_map,List.length_map];rfl
       rw[←e]
       exact Nat.le_trans (G0.filter _).length_le hy
      have mem:∀ z,(z∈al∧(i∈xs→i∈z.1))→z∈al.filter fun z=>mb y z.1:=fun z hz=>List.mem_filter.2 ⟨hz.1,jc.2 (aaX z hz)⟩
      have uniq:∀ z,(z∈al∧(i∈xs→i∈z.1))→z=x:=fun z hz=>by
       have m1:=mem z hz
       have m2:=mem x hx
       generalize (al.filter fun z=>mb y z.1)=l at *
       match l,hlen with
       | [],_=>cases m1
       | [b],_=>rw[List.mem_singleton.1 m1,List.mem_singleton.1 m2]
       | _::_::_,h=>simp at h
      exact CW hC (fun s τ hk z hz=>by rw[uniq z hz];exact hk) (mv x hx.1 (fun q=>absurd q ic) hx.2)
     rcases bE ho ic with d|d|⟨d1,d2⟩|⟨y,hy,d1,d2⟩
     ·exact EM hC (SV ho) d ne' fun x hx=>mv x hx.1 (fun q=>absurd q ic) hx.2
     ·rw[reach qB ho l_ d]at Ve;cases Ve
     ·exact Xd d2 fun x hx=>hx.2 d1
     ·exact Xd d2 fun x hx=>(tW x hx.1).2.2.2.2.1 y hy (reach qB ho l_ d1)
    refine lZ hT he ho key hI (mj F4 ho) fun xA ρ' s' σ' a' w' hk hf=>?_
    have Ue:∀ x,x∈al.filter (fun x => !(mb i xs)||mb i x.1) ↔ x∈al∧(i∈xs→i∈x.1):=fun x=>by
     rw[List.mem_filter]
     refine and_congr Iff.rfl ?_
     cases q:mb i xs with
     | false=>exact⟨fun _ r=>(by rw[jc.2 r]at q;cases q),fun _=>rfl⟩
     | true=>simp only[Bool.not_true,Bool.false_or,jc];exact⟨fun r _=>r,fun r=>r (jc.1 q)⟩
    refine ih ((al.filter fun x => !(mb i xs)||mb i x.1).map fun x=>(x.1,del i x.2)) (aU.setIfInBounds i true) xA ρ' s' σ' a' w' US (fun z hz=>?_) ?_ (fun D d1 d2 d3=>?_) ldc (by rw[getD_set_ne false ic];exact Ve) hf
    ·obtain⟨x,hx,rfl⟩:=List.mem_map.1 hz
     have zm:=(Ue x).1 hx
     obtain⟨h1,h2,h3,h4,h5,h6⟩:=tW x zm.1
     refine⟨Uy x zm.1,h2.sublist List.filter_sublist,h3.sublist List.filter_sublist,Rt x zm.1,fun y hy hl=>?_,hk x zm⟩
     by_cases e:y=i
     ·subst e;exact zm.2 hy
     ·rw[getD_set_ne false (Ne.symm e)]at hl;exact h5 y hy hl
    ·rw[List.map_map]
     exact(List.Sublist.map _ List.filter_sublist).trans G0
    ·obtain⟨x,hx,hB⟩:=rW D d1 (fun y hy hl=>d2 y hy (getD_set_true hl)) d3
     refine⟨(x.1,del i x.2),List.mem_map.2 ⟨x,(Ue x).2 ⟨hx,fun XC=>(hB i).2 (d2 i XC ?_)⟩,rfl⟩,hB⟩
     simp[lj,iL]
end
theorem dn(m j:Nat):(Array.replicate m false).getD j false=false:=by
 rw[Array.getD_eq_getD_getElem?,Array.getElem?_replicate]
 split<;>rfl
theorem EL{ops:Array Oper}:List.range' 0 ops.toList.length=List.range ops.size:=by
 rw[List.range_eq_range'];simp
theorem Bp(hT:Kw C)(he:C.eqt.all (eqOk C.P)=true)(hm:C.P.follows .mixedOrders=true){id:Nat}{ops:Array Oper}{draw:Bool}(F4:ox C ops=true)
  (hdi:fo ops.toList=true) (MQ:draw=true→BQ C ops=true) {K:St→Mem→Prop} {Q:Exit→Act→World→Prop} (hQ:DH C ρ0 σ0 w0 K (Q .normal))
  (h:gO C ops K ops.toList 0 [] s σ) (hI:FI C ρ0 σ0 w0 lm ρ s σ a w):(Code.region id ops draw).wp C.P Q a w:=by
 have hC:C.bP:=fun g c S h=>(hT.t g c S h).2.1
 have hx:=GW hC hdi ops.toList 0 [] s σ rfl (fun j x h=>by cases h) h
 rw[EL]at hx
 cases draw with
 | false=>exact wp_region (EK hT he F4 hQ _ _ _ _ _ _ _ hx hI)
 | true=>
  refine wp_region_any hm ?_
  have HK:FI C ρ0 σ0 w0 lm ρ s σ a { w with drawn:=w.drawn+1 }:=by
   refine⟨hI.s_.heap rfl,⟨hI.qw.le,hI.qw.same.trans ⟨rfl,rfl,rfl⟩,hI.qw.size,hI.qw.aL,hI.qw.own⟩,hI.n,hI.df,hI.tm,hI.lt,hI.lb,hI.li,hI.ld⟩
  refine Hu hT he F4 (MQ rfl) hQ ops.size (List.range ops.size) _ _ _ _ _ _ _ (by simp) (by simp) ?_ ?_ ?_ hx HK
  ·rw[List.range_eq_range'];exact List.pairwise_lt_range'
  ·intro i
   simp only[List.mem_range,dn,and_true]
  ·intro j o _ hl
   rw[dn]at hl;cases hl
theorem yJ(hT:Kw C)(he:C.eqt.all (eqOk C.P)=true)(hm:C.P.follows .mixedOrders=true){id:Nat}{ops:Array Oper}(F4:ox C ops=true)
  (hdi:fo ops.toList=true) {c:Nat} {xs:List Nat} {al:List (List Nat×List Nat)} (MQ:BP C ops c xs al=true) {K:St→Mem→Prop} {Q:Exit→Act→World→Prop} (hQ:DH C ρ0 σ0 w0 K (Q .normal))
  (h:p_ (fun is=>gO C ops K (Fs ops is) 0 [] s σ) al) (hI:FI C ρ0 σ0 w0 lm ρ s σ a w):(Code.region id ops true).wp C.P Q a w:=by
 have hC:C.bP:=fun g c S h=>(hT.t g c S h).2.1
 simp only[BP,Bool.and_eq_true]at MQ
 obtain⟨⟨⟨⟨⟨d1,d2⟩,d3⟩,d4⟩,d5⟩,d6⟩:=MQ
 have SV:∀{i:Nat} {o:Oper},ops[i]?=some o→o.guard=none:=fun{i o} ho=>by
  have:=List.all_eq_true.1 d2 o (by have:=Array.mem_of_getElem? ho;simpa using this)
  simpa using this
 have hcx:c∉xs:=fun q=>by rw[jc.2 q]at d3;cases d3
 have jV:∀{i:Nat},R8 al i=true→((al.map Prod.fst).filter (mb i)).length≤1:=fun{i} q=>Nat.le_of_ble_eq_true q
 have bE:∀{i:Nat} {o:Oper},ops[i]?=some o→i≠c→na false (fO C o)=true∨dk ops 12 i c=true∨(i∈xs∧((al.map Prod.fst).filter (mb i)).length≤1)∨∃ x∈xs,dk ops 12 i x=true∧((al.map Prod.fst).filter (mb x)).length≤1:=fun{i o} ho n1=>by
  have iL:i<ops.size:=(Array.getElem?_eq_some_iff.1 ho).1
  have q:=List.all_eq_true.1 d4 i (by simpa using iL)
  simp only[Bool.or_eq_true,Bool.and_eq_true]at q
  rcases q with(((q|q)|q)|q)|q
  ·exact absurd (Nat.eq_of_beq_eq_true q) n1
  ·unfold V5 at q;rw[ho]at q;exact .inl q
  ·exact .inr (.inl q)
  ·exact .inr (.inr (.inl ⟨jc.1 q.1,jV q.2⟩))
  ·obtain⟨x,hx,e⟩:=List.any_eq_true.1 q
   simp only[Bool.and_eq_true]at e
   exact .inr (.inr (.inr ⟨x,hx,e.1,jV e.2⟩))
 refine wp_region_any hm ?_
 have HK:FI C ρ0 σ0 w0 lm ρ s σ a { w with drawn:=w.drawn+1 }:=by
  refine⟨hI.s_.heap rfl,⟨hI.qw.le,hI.qw.same.trans ⟨rfl,rfl,rfl⟩,hI.qw.size,hI.qw.aL,hI.qw.own⟩,hI.n,hI.df,hI.tm,hI.lt,hI.lb,hI.li,hI.ld⟩
 refine Fp hT he F4 (fun h=>xQ d1 h) hcx SV bE hQ ops.size al _ _ _ _ _ _ _ (by simp) (fun x hx=>?_) (List.Sublist.refl _) (fun D e1 e2 e3=>?_) (fun j o _ hl=>by rw[dn]at hl;cases hl) (dn _ _) HK
 ·have q:=List.all_eq_true.1 d5 x hx
  simp only[Bool.and_eq_true]at q
  obtain⟨⟨⟨⟨⟨q1,q2⟩,q3⟩,q4⟩,q5⟩,q6⟩:=q
  have K7:∀ i∈x.2,i<ops.size:=fun i hi=>Nat.le_of_ble_eq_true (List.all_eq_true.1 q3 i hi)
  refine⟨Nat.le_of_ble_eq_true q6,(xv q1).imp fun{p i} q=>?_,(xv q2).imp fun{p i} q e=>?_,fun i=>?_,fun y _ hl=>(by rw[dn]at hl;cases hl),?_⟩
  ·simp only[Bool.or_eq_true,Bool.and_eq_true,Bool.not_eq_true']at q
   rcases q with(⟨r1,r2⟩|⟨⟨r1,r2⟩,r3⟩)|r
   ·exact .inl ⟨jc.1 r1,Nat.eq_of_beq_eq_true r2⟩
   ·exact .inr (.inl ⟨Nat.eq_of_beq_eq_true r1,jc.1 r2,fun z=>by rw[jc.2 z]at r3;cases r3⟩)
   ·exact .inr (.inr r)
  ·rw[e,Nat.beq_refl]at q;cases q
  ·simp only[dn,and_true]
   exact⟨K7 i,fun hi=>jc.1 (List.all_eq_true.1 q4 i (by simpa using hi))⟩
  ·exact CV hC x.2 0 [] s σ (fun j hj=>⟨ops[j]'(K7 j hj),Array.getElem?_eq_getElem (K7 j hj),SV (Array.getElem?_eq_getElem (K7 j hj))⟩) (xy h x hx)
 ·have ab6:∀ y,Decidable (D y):=fun y=>Classical.propDecidable _
  have q:=List.all_eq_true.1 d6 _ (tO (p:=fun y=>decide (D y)) (l:=xs))
  have mD:∀ y,y∈xs.filter (fun y=>decide (D y)) ↔ D y:=fun y=>by
   rw[List.mem_filter]
   exact⟨fun q=>of_decide_eq_true q.2,fun q=>⟨e1 y q,decide_eq_true q⟩⟩
  generalize xs.filter (fun y=>decide (D y))=DD at *
  simp only[Bool.or_eq_true]at q
  rcases q with q|q
  ·obtain⟨x,hx,r⟩:=List.any_eq_true.1 q
   simp only[Bool.and_eq_true]at r
   refine⟨x,hx,fun y=>⟨fun hy=>(mD y).1 (jc.1 (List.all_eq_true.1 r.2 y hy)),fun hy=>jc.1 (List.all_eq_true.1 r.1 y ((mD y).2 hy))⟩⟩
  ·obtain⟨x,hx,r⟩:=List.any_eq_true.1 q
   obtain⟨y,hy,r⟩:=List.any_eq_true.1 r
   simp only[Bool.and_eq_true,Bool.not_eq_true']at r
   have:=jc.2 ((mD y).2 (e3 x y ((mD x).1 hx) hy r.2))
   rw[this]at r;cases r.1
def codeOk(C:Cx):Code→Bool
 | .region id ops draw=>ox C ops&&fo ops.toList&&(match C.alt.lookup id with
  | none => !draw||BQ C ops
  | some (c,xs,al)=>draw&&BP C ops c xs al)
 | .seq a b | .cond _ a b=>codeOk C a&&codeOk C b
 | .block _ c | .scope c | .loop c=>codeOk C c
 | _=>true
def Ex.out:Ex→Exit
 | .normal=>.normal
 | .exit i=>.exit i
 | .ret=>.ret
def Xf(C:Cx)(ρ0:dS)(σ0:Mem)(w0:World)(Q:Ex→St→Mem→Prop)(Q':Exit→Act→World→Prop):Prop:=
 ∀ e lm ρ s σ a w,Q e s σ→FI C ρ0 σ0 w0 lm ρ s σ a w→Q' e.out a w
def qv(P:Program)(c:Code)(Q:Exit→Act→World→Prop)(a:Act)(w:World):Prop:=
 ∀ b k cs,∃ e a' w',Q e a' w'∧Arrives P (lone (b.at a (.code c :: .inLoop c::k)) cs w) b k cs e a' w'
theorem qv.round{P:Program}{c:Code}{Q:Exit→Act→World→Prop}{a:Act}{w:World}(h:c.wp P (Exit.then (qv P c Q) Q) a w):qv P c Q a w:=by
 intro b k cs
 obtain⟨e,a₁,w₁,hq,C8⟩:=h b (.inLoop c::k) cs
 cases e with
 | normal=>
  obtain⟨e₂,a₂,w₂,U3,Lj⟩:=hq b k cs
  exact⟨e₂,a₂,w₂,U3,.of_steps (Steps.trans C8 (.one step_inLoop)) Lj⟩
 | exit id=>exact⟨_,a₁,w₁,hq,.pass (x:=.inLoop c) rfl (fun _ _=>.inl (by simp)) C8⟩
 | goto l=>exact⟨_,a₁,w₁,hq,.pass (x:=.inLoop c) rfl (fun _ _=>.inl (by simp)) C8⟩
 | ret=>exact⟨_,a₁,w₁,hq,.pass (x:=.inLoop c) rfl (fun _ _=>.inl (by simp)) C8⟩
 | panic ch=>exact⟨_,a₁,w₁,hq,.pass (x:=.inLoop c) rfl (fun _ _=>.inl (by simp)) C8⟩
 | outgrown=>exact⟨_,a₁,w₁,hq,.pass (x:=.inLoop c) rfl (fun _ _=>.inl (by simp)) C8⟩
theorem qv.loop{P:Program}{c:Code}{Q:Exit→Act→World→Prop}{a:Act}{w:World}(h:qv P c Q a w):(Code.loop c).wp P Q a w:=by
 intro b k cs
 obtain⟨e,a',w',hq,C8⟩:=h b k cs
 exact⟨e,a',w',hq,.of_steps (.one step_loop) C8⟩
theorem xN{α:Type}{f:Nat→α}{t:Nat}{d:α}:∀{l:List Nat},t∈l→(l.map f).getD (l.idxOf t) d=f t
 | [],h=>by cases h
 | x::xs,h=>by
  by_cases e:x=t
  ·subst e;simp
  ·have:t∈xs:=by
    rcases List.mem_cons.1 h with h|h
    ·exact absurd h.symm e
    ·exact h
   have hb:(x == t)=false:=by simpa using e
   rw[List.idxOf_cons,hb]
   simpa using xN (f:=f) (d:=d) this
theorem oF{kt kl:List Nat}{R:List Value→List (List Value)→Mem→Prop}(h:nj C kt kl s σ R)(hI:FI C ρ0 σ0 w0 lm ρ s σ a w) :
  ∃ xA ts ls,R ts ls σ∧FI C ρ0 σ0 w0 xA ρ (CY kt kl ts ls) σ a w:=by
 unfold nj at h
 split at h
 ·rename_i hb
  simp only[Bool.and_eq_true,List.all_eq_true]at hb
  obtain⟨G2,hkt⟩:=hb
  refine⟨fun k=>if kl.contains k then lm k else none,_,_,h,hI.s_,hI.qw,hI.n,hI.df,fun t ht=>?_,fun t k ht=>?_,fun k b hk=>?_,fun k k' b h1 h2=>?_,fun k b hk=>?_⟩
  ·simp only[CY]
   cases hc:kl.contains t with
   | true=>
    have:=(G2 t (by simpa using hc))
    rw[beq_iff_eq]at this
    rw[ht]at this;cases this.2
   | false=>
    cases hc2:kt.contains t with
    | true=>
     simp only[cond_false,cond_true]
     rw[xN (by simpa using hc2)]
     exact hI.tm t ht
    | false=>simp only[cond_false];exact .Rd _
  ·simp only[CY]
   cases hc:kl.contains t with
   | true=>
    have XB:=(G2 t (by simpa using hc))
    rw[beq_iff_eq]at XB
    rw[ht]at XB
    obtain⟨h1,h2⟩:=XB
    simp at h2;subst h2
    simp only[cond_true]
    have kT:s.t k=au k:=by
     unfold IW at h1
     split at h1
     ·rename_i b hv
      have:b=k:=Nat.eq_of_beq_eq_true h1
      rw[hv,this];rfl
     ·cases h1
    rcases hI.lt k k ht with q|⟨o,b,q1,q2,q3⟩|⟨o,b,n,es,c',q1,q2,q3⟩
    ·rw[kT]at q;cases q
    ·exact .inr (.inl ⟨o,b,by rw[←kT];exact q1,by simp only[hc,if_true];exact q2,q3⟩)
    ·rw[kT]at q1;cases q1
   | false=>
    cases hc2:kt.contains t with
    | true=>
     have:=(hkt t (by simpa using hc2))
     rw[ht]at this;cases this.1
    | false=>simp only[cond_false];exact .inl rfl
  ·split at hk
   ·rename_i hc
    obtain⟨h0,arr,el,h1,h2⟩:=hI.lb k b hk
    refine⟨h0,arr,el,h1,?_⟩
    simp only[CY,hc,cond_true]
    rw[xN (by simpa using hc)]
    exact h2
   ·cases hk
  ·split at h1
   ·split at h2
    ·exact hI.li _ _ _ h1 h2
    ·cases h2
   ·cases h1
  ·split at hk
   ·exact hI.ld _ _ hk
   ·cases hk
 ·exact h.elim
theorem D4{x y:Code}{B:St→Mem→Prop}(h:sV C x y B s σ)(hI:FI C ρ0 σ0 w0 lm ρ s σ a w):∃ xA s',B s' σ∧FI C ρ0 σ0 w0 xA ρ s' σ a w:=by
 unfold sV at h
 split at h
 ·obtain⟨xA,ts,ls,h,hI⟩:=oF h hI
  exact⟨xA,_,h,hI⟩
 ·exact⟨lm,s,h,hI⟩
theorem J_(hT:Kw C)(he:C.eqt.all (eqOk C.P)=true)(hm:C.P.follows .mixedOrders=true)(c:Code):codeOk C c=true →
  ∀{Q:Ex→St→Mem→Prop} {Q':Exit→Act→World→Prop} (lm:Nat→Option Nat) (ρ:dS) (s:St) (σ:Mem) (a:Act) (w:World),
   Xf C ρ0 σ0 w0 Q Q'→Wp C c Q s σ→FI C ρ0 σ0 w0 lm ρ s σ a w→c.wp C.P Q' a w:=by
 induction c with
 | skip=>intro _ Q Q' lm ρ s σ a w hp h hI;exact wp_skip (hp .normal _ _ _ _ _ _ h hI)
 | label l=>intro _ Q Q' lm ρ s σ a w hp h hI;exact wp_label (hp .normal _ _ _ _ _ _ h hI)
 | exit l=>intro _ Q Q' lm ρ s σ a w hp h hI;exact wp_exit (hp (.exit l) _ _ _ _ _ _ h hI)
 | ret=>intro _ Q Q' lm ρ s σ a w hp h hI;exact wp_ret (hp .ret _ _ _ _ _ _ h hI)
 | seq x y ihx ihy=>
  intro hc Q Q' lm ρ s σ a w hp h hI
  simp only[codeOk,Bool.and_eq_true]at hc
  rw[B3]at h
  refine wp_seq (ihx hc.1 _ _ _ _ _ _ ?_ h hI)
  intro e lm ρ s σ a w hq hI
  cases e with
  | normal=>
   obtain⟨lm,s,hq,hI⟩:=D4 hq hI
   exact ihy hc.2 _ _ _ _ _ _ hp hq hI
  | exit i=>exact hp (.exit i) _ _ _ _ _ _ hq hI
  | ret=>exact hp .ret _ _ _ _ _ _ hq hI
 | cond c x y ihx ihy=>
  intro hc Q Q' lm ρ s σ a w hp h hI
  simp only[codeOk,Bool.and_eq_true]at hc
  unfold Wp at h
  split at h
  ·rename_i hl
   have hv:=hI.plain hl
   unfold aV at h
   split at h
   ·rename_i hb;rw[hb]at hv;exact wp_cond_true hv.fg (ihx hc.1 _ _ _ _ _ _ hp h hI)
   ·rename_i hb;rw[hb]at hv;exact wp_cond_false hv.fg (ihy hc.2 _ _ _ _ _ _ hp h hI)
   ·exact h.elim
  ·exact h.elim
 | block id x ih=>
  intro hc Q Q' lm ρ s σ a w hp h hI
  refine wp_block (ih hc _ _ _ _ _ _ ?_ h hI)
  intro e lm ρ s σ a w hq hI
  cases e with
  | normal=>exact hp .normal _ _ _ _ _ _ hq hI
  | exit i=>
   dsimp only at hq
   show if i=id then _ else _
   cases hb:Nat.beq i id
   ·rw[hb]at hq
    rw[ae (Nat.ne_of_beq_eq_false hb)]
    exact hp (.exit i) _ _ _ _ _ _ hq hI
   ·rw[hb]at hq
    rw[af (Nat.eq_of_beq_eq_true hb)]
    exact hp .normal _ _ _ _ _ _ hq hI
  | ret=>exact hp .ret _ _ _ _ _ _ hq hI
 | scope x ih=>
  intro hc Q Q' lm ρ s σ a w hp h hI
  refine wp_scope_straight (ih hc _ _ _ _ _ _ ?_ h hI)
  intro e lm ρ s σ a w hq hI
  have:=hp e _ _ _ _ _ _ hq hI
  cases e<;>exact this
 | loop x ih=>
  intro hc Q Q' lm ρ s σ a w hp h hI
  unfold Wp at h
  split at h
  ·rename_i kt kl hk
   obtain⟨lm1,ts,ls,hl,hI1⟩:=oF h hI
   refine(hl (fun ts ls σ=>∀ lm ρ a w,FI C ρ0 σ0 w0 lm ρ (CY kt kl ts ls) σ a w→qv C.P x Q' a w) ?_ _ _ _ _ hI1).loop
   rintro ts2 ls2 σ2 ⟨R,hR,hF⟩ lm2 ρ2 a2 w2 XJ
   refine qv.round (ih hc _ _ _ _ _ _ ?_ hF XJ)
   intro e lm ρ s σ a w hq hI
   cases e with
   | normal=>
    obtain⟨lm3,ts3,ls3,hq3,hI3⟩:=oF hq hI
    exact hR _ _ _ hq3 _ _ _ _ hI3
   | exit i=>exact hp (.exit i) _ _ _ _ _ _ hq hI
   | ret=>exact hp .ret _ _ _ _ _ _ hq hI
  ·exact h.elim
 | region id ops draw=>
  intro hc Q Q' lm ρ s σ a w hp h hI
  cases e:C.alt.lookup id with
  | none=>
   simp only[codeOk,e,Bool.and_eq_true,Bool.or_eq_true,Bool.not_eq_true']at hc
   simp only[Wp,e]at h
   exact Bp hT he hm hc.1.1 hc.1.2 (fun hd=>hc.2.resolve_left (by rw[hd];simp)) (fun lm ρ s σ a w hk hf=>hp .normal _ _ _ _ _ _ hk hf) h hI
  | some q=>
   obtain⟨x,y,is⟩:=q
   simp only[codeOk,e,Bool.and_eq_true]at hc
   simp only[Wp,e]at h
   obtain⟨⟨c1,c2⟩,c3,c4⟩:=hc
   subst c3
   exact yJ hT he hm c1 c2 c4 (fun lm ρ s σ a w hk hf=>hp .normal _ _ _ _ _ _ hk hf) h hI
 | rangeFunc f ps x y _ _=>intro _ Q Q' lm ρ s σ a w hp h hI;exact h.elim
 | goto l=>intro _ Q Q' lm ρ s σ a w hp h hI;exact h.elim
 | refuse l=>intro _ Q Q' lm ρ s σ a w hp h hI;exact h.elim
end
def arity:Nat→List Value→Bool
 | 0,[]=>true
 | n+1,_::xs=>arity n xs
 | _,_=>false
def resOk(C:Cx)(fn:Func):Bool:=fn.results.toList.all fun r=>match r with
 | .tmp t=>(C.loc.lookup t).isNone
 | .cell _ t=>tKnown C.P t&&(jy C.P t||bQ C.P t == 1)
def cC(C:Cx)(fn:Func)(c:Code)(np:Nat):Spec:=fun args K σ=>if arity np args=true then FnW C fn c args K σ else False
theorem zF:∀{n:Nat} {l:List Value},arity n l=true→l.length=n
 | 0,[],_=>rfl
 | n+1,_::xs,h=>by simp[zF (n:=n) (l:=xs) h]
 | 0,_::_,h=>by cases h
 | n+1,[],h=>by cases h
def xp(tmps:Array Value)(r:ResultVar):Sem Value:=
 match r with
 | .tmp t=>pure (tmps.getD t undef)
 | .cell x t=>do loadVar t (←asAddr (tmps.getD x undef))
theorem EB(fn:Func)(tmps:Array Value):results fn tmps=(do
  let vs ←fn.results.mapM (xp tmps)
  pure (if h:vs.size=1 then vs[0]else .tuple vs)):=by
 unfold results
 congr 1
theorem EE{C:Cx}{ρ0:dS}{σ0:Mem}{w0:World}{lm:Nat→Option Nat}{ρ:dS}{s:St}{σ:Mem}{a:Act}{w:World}(hI:FI C ρ0 σ0 w0 lm ρ s σ a w) :
  ∀{rs:List ResultVar} {K:List Value→Prop},(rs.all fun r=>match r with
   | .tmp t=>(C.loc.lookup t).isNone
   | .cell _ t=>tKnown C.P t&&(jy C.P t||bQ C.P t == 1))=true→pt C rs s K →
  ∃ vs pG,K vs∧(rs.mapM (xp a.tmps)).run C.P w=.ok pG w∧VL ρ vs pG∧vs.length=rs.length:=by
 intro rs
 induction rs with
 | nil=>intro K _ h;exact⟨[],[],h,by simp,.nil,rfl⟩
 | cons r rs ih=>
  intro K lI h
  simp only[List.all_cons,Bool.and_eq_true]at lI
  cases r with
  | tmp t=>
   obtain⟨vs,pG,h1,h2,h3,h4⟩:=ih lI.2 h
   exact⟨_,a.tmps.getD t undef::pG,h1,by simp only[List.mapM_cons,xp,Sem.run_bind,Sem.run_pure,Result.andThen_ok,h2],.cons (hI.tm t (by simpa using lI.1)) h3,by simp[h4]⟩
  | cell x t=>
   unfold pt at h
   split at h
   ·rename_i k hk
    obtain⟨v,hv,h⟩:=qE h
    obtain⟨vs,pG,h1,h2,h3,h4⟩:=ih lI.2 h
    simp only[Bool.and_eq_true]at lI
    unfold ah at hv
    split at hv
    ·rename_i ad cs hx
     simp at hx
     rcases hI.lt x k hk with q1|⟨o',b,q1,q2,q3⟩|⟨o',b,n',es,c',q1,q2,q3⟩
     ·rw[hx]at q1;cases q1
     ·rw[hx]at q1;cases q1
      obtain⟨_,arr,el,r1,r2⟩:=hI.lb _ _ q2
      obtain⟨hle,v',s1,s2⟩:=lW r2 hv
      refine⟨_,v'::pG,h1,?_,.cons s2 h3,by simp[h4]⟩
      have hl:=og (P:=C.P) (w:=w) lI.1.1 (by simpa using lI.1.2) r1 (o:=o') (by simpa using hle) s1
      simp only[List.mapM_cons,xp,q3,asAddr,Sem.run_bind,Sem.run_pure,Result.andThen_ok,hl,h2]
     ·rw[hx]at q1;cases q1
    ·cases hv
   ·exact h.elim
theorem tR{C:Cx}{ρ0:dS}{σ0:Mem}{w0:World}{lm:Nat→Option Nat}{ρ:dS}{s:St}{σ:Mem}{a:Act}{w:World}(hI:FI C ρ0 σ0 w0 lm ρ s σ a w)
  {fn:Func} (hr:resOk C fn=true) {K:Value→Mem→Prop} (h:pt C fn.results.toList s fun vs=>K (Cv vs) σ) :
  ∃ v v',K v σ∧(results fn a.tmps).run C.P w=.ok v' w∧V ρ v v':=by
 obtain⟨vs,pG,h1,h2,h3,h4⟩:=EE hI hr h
 have hm:(fn.results.mapM (xp a.tmps)).run C.P w=.ok pG.toArray w:=by
  rw[Array.mapM_eq_mapM_toList]
  simp only[Sem.run_map,h2,Result.andThen_ok]
 refine⟨_,if h:pG.toArray.size=1 then pG.toArray[0]else .tuple pG.toArray,h1,?_,?_⟩
 ·rw[EB]
  simp only[Sem.run_bind]
  rw[hm]
  simp only[Result.andThen_ok,Sem.run_pure]
 ·unfold Cv
  split
  ·obtain⟨x',rfl,hx⟩:=h3.one
   simpa using hx
  ·rename_i B_
   have hlen:=h3.len
   by_cases S6:pG.length=1
   ·exfalso
    rw[S6]at hlen
    obtain⟨x,hx⟩:=List.length_eq_one_iff.1 hlen
    exact B_ x hx
   ·rw[dif_neg (by simpa using S6)]
    exact V.Il h3
theorem Ju{C:Cx}(hT:Kw C)(he:C.eqt.all (eqOk C.P)=true)(hm:C.P.follows .mixedOrders=true){f:FuncId}{fn:Func}{c:Code}{np:Nat}
  (hf:C.P.funcs[f]?=some fn) (hb:fn.body=some c) (hn:fn.ntmps=C.n) (U9:Nat.ble np C.n=true) (hc:codeOk C c=true) (hr:resOk C fn=true)
  (aaP:(C.loc.all fun x => !(Nat.blt x.1 np))=true):Sound C.P f (cC C fn c np):=by
 intro args Q σ h ρ w nk hs hv
 unfold cC at h
 split at h
 ·rename_i har
  have hlen:=zF har
  have tU:nk.length=np:=by rw[←hv.len];exact hlen
  have hle:np≤C.n:=Nat.le_of_ble_eq_true U9
  refine calls_of_wp hf hb ?_
  have C6:∀ t,(nk.toArray++Array.replicate (fn.ntmps-nk.toArray.size) undef).getD t undef=nk.getD t undef:=by
   intro t
   rw[Array.getD_eq_getD_getElem?,Array.getElem?_append]
   split
   ·rename_i ht;simp[List.getD_eq_getElem?_getD]
   ·rename_i ht
    rw[Array.getElem?_replicate]
    have:nk[t]?=none:=by simpa using ht
    simp only[List.getD_eq_getElem?_getD,this,Option.getD_none]
    split<;>rfl
  have Vr:∀ t,V ρ (args.getD t undef) (nk.getD t undef):=by
   intro t
   rw[List.getD_eq_getElem?_getD,List.getD_eq_getElem?_getD]
   cases hx:args[t]? with
   | none=>
    have h1:args.length≤t:=by simpa using hx
    have:nk[t]?=none:=by simp;omega
    rw[this];exact .undef
   | some x=>
    obtain⟨x',h1,h2⟩:=hv.get hx
    rw[h1];exact h2
  have hI:FI C ρ σ w (fun _=>none) ρ ⟨fun i=>args.getD i undef,fun _=>[]⟩ σ { tmps:=nk.toArray++Array.replicate (fn.ntmps-nk.toArray.size) undef,defers:=[] } w:=by
   refine⟨hs,yU.refl _ _ _,?_,rfl,fun t _=>?_,fun t k ht=>?_,fun k b hk=>(by cases hk),fun k k' b hk=>(by cases hk),fun k b hk=>(by cases hk)⟩
   ·simp[tU,hn];omega
   ·simp only[C6];exact Vr t
   ·simp only[C6]
    have h1:=List.all_eq_true.1 aaP _ (lC ht)
    have h2:¬ t<np:=by
     intro iL
     have:Nat.blt t np=true:=Nat.ble_eq_true_of_le iL
     simp[this]at h1
    have:args[t]?=none:=by simp;omega
    rw[List.getD_eq_getElem?_getD,this]
    exact .inl rfl
  refine J_ hT he hm c hc _ _ _ _ _ _ ?_ h hI
  intro e lm ρ' s σ' a w' hq HK
  cases e with
  | exit i=>exact hq.elim
  | normal=>
   obtain⟨v,v',hk,h1,h2⟩:=tR HK hr hq
   exact⟨HK.df,v',h1,v,v',ρ',σ',rfl,hk,h2,HK.s_,HK.qw⟩
  | ret=>
   obtain⟨v,v',hk,h1,h2⟩:=tR HK hr hq
   exact⟨HK.df,v',h1,v,v',ρ',σ',rfl,hk,h2,HK.s_,HK.qw⟩
 ·exact h.elim
theorem Kc{C:Cx}(hC:C.bP){fn:Func}{c:Code}{np:Nat}(cl:vo)(hq:cl=.none→im C true c=true)(hr:cl=.read→im C false c=true)(hn:cl≠.new) :
  Good cl (cC C fn c np):=by
 have g:=Kb hC fn c cl hq hr hn
 constructor
 ·intro args K K' σ h hs
  unfold cC at *
  split at hs
  ·rename_i ha;rw[af ha];exact g.mono _ _ _ _ h hs
  ·exact hs.elim
 ·intro args K σ hs
  unfold cC at *
  split at hs
  ·exact g.live _ _ _ hs
  ·exact hs.elim
 ·intro h args
  unfold cC
  split
  ·exact g.none h args
  ·exact dq.no
 ·intro h args
  unfold cC
  split
  ·exact g.read h args
  ·exact dq.no
 ·intro h;exact absurd h hn
structure Entry(P:Program)(g:Nat)(c:vo)(S:Spec):Prop where
 sound:Sound P g S
 bP:Good c S
 call:Callable P g
theorem aS.nil{P:Program}:aS P []:=fun g c S h=>by cases h
theorem aS.cons{P:Program}{g:Nat}{c:vo}{S:Spec}{T:List (Nat×vo×Spec)}(h:Entry P g c S)(hT:aS P T):aS P ((g,c,S)::T):=by
 intro g' c' S' h'
 simp only[List.lookup_cons]at h'
 split at h'
 ·rename_i hb
  simp at hb h'
  obtain⟨rfl,rfl⟩:=h'
  subst hb
  exact⟨h.sound,h.bP,h.call⟩
 ·exact hT _ _ _ h'
def abR(C:Cx)(c:Code):vo→Bool
 | .none=>im C true c
 | .read=>im C false c
 | .new=>false
 | .write=>true
def Vw(C:Cx)(fn:Func)(c:Code)(np:Nat):Bool:=
 C.eqt.all (eqOk C.P) && Nat.beq fn.ntmps C.n && Nat.ble np C.n && codeOk C c && resOk C fn && (C.loc.all fun x => !(Nat.blt x.1 np)) && !(fn.name == "runtime.NumGoroutine")
theorem IOk.nil{P:Program}:∀ e∈([]:List (String×Nat×Nat)),qt P e:=fun _ h=>by cases h
theorem IOk.cons{P:Program}{e:String×Nat×Nat}{l:List (String×Nat×Nat)}(h:qt P e)(hl:∀ e∈l,qt P e):∀ e'∈e::l,qt P e':=fun e' he=>by
 rcases List.mem_cons.1 he with rfl|he
 ·exact h
 ·exact hl _ he
theorem entry{C:Cx}(hT:aS C.P C.T)(hm:C.P.follows .mixedOrders=true){f:FuncId}{fn:Func}{c:Code}{np:Nat}{cl:vo}
  (hf:C.P.funcs[f]?=some fn) (hb:fn.body=some c) (lI:Vw C fn c np=true) (bE:abR C c cl=true) {S:Spec} (hS:cC C fn c np=S) (hi:∀ e∈C.inv,qt C.P e:=by exact IOk.nil):Entry C.P f cl S:=by
 subst hS
 simp only[Vw,Bool.and_eq_true,Bool.not_eq_true']at lI
 obtain⟨⟨⟨⟨⟨⟨h1,h2⟩,h3⟩,h4⟩,h5⟩,h6⟩,h8⟩:=lI
 refine⟨Ju ⟨hT,hi⟩ h1 hm hf hb (Nat.eq_of_beq_eq_true h2) h3 h4 h5 h6,Kc (fun g c S h=>(hT g c S h).2.1) cl (fun e=>?_) (fun e=>?_) (fun e=>?_),fn,hf,h8,by simp[hb]⟩
 ·subst e;exact bE
 ·subst e;exact bE
 ·subst e;cases bE
theorem Entry.none{P:Program}{g:Nat}{c:vo}{S:Spec}(h:Entry P g c S)(hd:∀ args,dq true (S args)):Entry P g .none S:=
 ⟨h.sound,⟨h.bP.mono,h.bP.live,fun _=>hd,(fun h=>by cases h),(fun h=>by cases h)⟩,h.call⟩
end Go.Fl
namespace Go.Fl
open Go Go.RowKit
def DM:Option IntKind→Value→Prop
 | some k,v=>∃ n,v=.int k n∧(Lit.int k n).wf=true
 | none,v=>∃ b,v=.bool b
inductive ct:List (Option IntKind)→List Value→Prop
 | nil:ct [] []
 | cons {k:Option IntKind} {v:Value} {ks:List (Option IntKind)} {vs:List Value} (h:DM k v) (hs:ct ks vs):ct (k::ks) (v::vs)
theorem ct.len{ks:List (Option IntKind)}{vs:List Value}(h:ct ks vs):vs.length=ks.length:=by
 induction h with
 | nil=>rfl
 | cons _ _ ih=>simp[ih]
theorem ct.app{ks ks':List (Option IntKind)}{vs pG:List Value}(h:ct ks vs)(h':ct ks' pG):ct (ks++ks') (vs++pG):=by
 induction h with
 | nil=>exact h'
 | cons a _ ih=>exact .cons a ih
theorem ct.get{ks:List (Option IntKind)}{vs:List Value}(h:ct ks vs):∀{i:Nat} {v:Value},vs[i]?=some v→∃ k,ks[i]?=some k∧DM k v:=by
 induction h with
 | nil=>intro i v hi;simp at hi
 | cons a _ ih=>
  intro i v hi
  cases i with
  | zero=>simp at hi;subst hi;exact⟨_,rfl,a⟩
  | succ i=>simp at hi;simpa using ih hi
theorem DM.V{ρ:dS}{k:Option IntKind}{v:Value}(h:DM k v):V ρ v v:=by
 cases k with
 | none=>obtain⟨b,rfl⟩:=h;exact .bool b
 | some k=>obtain⟨n,rfl,_⟩:=h;exact .int k n
theorem ct.VL{ρ:dS}{ks:List (Option IntKind)}{vs:List Value}(h:ct ks vs):VL ρ vs vs:=by
 induction h with
 | nil=>exact .nil
 | cons a _ ih=>exact .cons a.V ih
def r9(P:Program)(f:TypeId→Option (List (Option IntKind))):List Field→Nat→Option (List (Option IntKind))
 | [],_=>some []
 | g::gs,off=>match f g.type,r9 P f gs (off+P.cellsOf g.type)with
  | some ks,some r=>if(Nat.beq g.offset off&&Nat.beq (P.cellsOf g.type) ks.length)=true then some (ks++r)else none
  | _,_=>none
def Di(P:Program):Nat→TypeId→Option (List (Option IntKind))
 | 0,_=>none
 | d+1,t=>match P.underlying t with
  | some .bool=>some [none]
  | some (.int k)=>some [some k]
  | some (.struct fs)=>match r9 P (Di P d) fs.toList 0 with
   | some ks=>if Nat.beq (P.cellsOf t) ks.length=true then some ks else none
   | none=>none
  | some (.array n e)=>match Di P d e with
   | some ks=>if(Nat.beq (P.cellsOf e) ks.length&&Nat.beq (P.cellsOf t) (n*ks.length))=true then some (List.replicate n ks).flatten else none
   | none=>none
  | _=>none
section
variable{H:Type}{enc:TypeId×Value→H}{P:Program}{w:World}{base:Nat}{spare:Nat→Bool}{held:Bool}
theorem F_{f:TypeId→Option (List (Option IntKind))}{cs:List Value}:∀{fs:List Field} {off:Nat} {K:List (Option IntKind)},
  (∀ g∈fs,∀ ks,f g.type=some ks→ct ks ((cs.drop g.offset).take (P.cellsOf g.type)))→r9 P f fs off=some K→ct K ((cs.drop off).take K.length)
 | [],off,K,_,h=>by simp[r9]at h;subst h;simpa using ct.nil
 | g::gs,off,K,hf,h=>by
  unfold r9 at h
  split at h
  ·rename_i ks r h1 h2
   split at h
   ·rename_i hb
    simp only[Bool.and_eq_true]at hb
    have e1:=Nat.eq_of_beq_eq_true hb.1
    have e2:=Nat.eq_of_beq_eq_true hb.2
    cases h
    have a:=hf g (by simp) ks h1
    rw[e1,e2]at a
    have b:=F_ (fun g hg=>hf g (by simp[hg])) h2
    rw[e2]at b
    rw[List.length_append,List.take_add,List.drop_drop]
    exact a.app b
   ·cases h
  ·cases h
theorem BH{ks:List (Option IntKind)}{cs:List Value}:∀{n off:Nat},(∀ i,i<n→ct ks ((cs.drop ((off+i)*ks.length)).take ks.length)) →
  ct (List.replicate n ks).flatten ((cs.drop (off*ks.length)).take (n*ks.length))
 | 0,off,_=>by simpa using ct.nil
 | n+1,off,h=>by
  rw[List.replicate_succ,List.flatten_cons,Nat.succ_mul,Nat.add_comm (n*ks.length),List.take_add,List.drop_drop]
  refine ct.app (h 0 (by omega)) ?_
  have:=BH (n:=n) (off:=off+1) (fun i hi=>by have:=h (i+1) (by omega);rwa [show off+(i+1)=off+1+i by omega]at this)
  rwa [Nat.succ_mul]at this
theorem Gy:∀{d:Nat} {t:TypeId} {ks:List (Option IntKind)} {fuel:Nat} {cs:List Value} {x:DataW H×List MemPlace},Di P d t=some ks →
  DataW.trod enc P w base spare held fuel t cs=some x→ct ks cs:=by
 intro d
 induction d with
 | zero=>intro t ks fuel cs x hk;cases hk
 | succ d ih=>
  intro t ks fuel cs x hk h
  unfold Di at hk
  split at hk
  ·rename_i ht
   obtain⟨b,rfl,_⟩:=DataW.trod_bool ht h
   cases hk
   exact .cons ⟨b,rfl⟩ .nil
  ·rename_i k ht
   obtain⟨n,rfl,_,hw⟩:=DataW.trod_int ht h
   cases hk
   exact .cons ⟨n,rfl,hw⟩ .nil
  ·rename_i fs ht
   split at hk
   ·rename_i K hK
    split at hk
    ·rename_i hb
     have e:=Nat.eq_of_beq_eq_true hb
     cases hk
     obtain⟨xs,n,_,_,hl,hlen,hf⟩:=DataW.trod_struct ht h
     have:=F_ (P:=P) (cs:=cs) (fun g hg ks hks=>by
      obtain⟨i,hi⟩:=List.getElem?_of_mem hg
      have xI:fs[i]?=some g:=by simpa using hi
      have h3:=hf i g xI
      have iL:i<xs.length:=by rw[hlen];exact(Array.getElem?_eq_some_iff.1 xI).1
      rw[List.getElem?_eq_getElem iL]at h3
      exact ih hks h3) hK
     rw[List.drop_zero,List.take_of_length_le (by omega)]at this
     exact this
    ·cases hk
   ·cases hk
  ·rename_i n e ht
   split at hk
   ·rename_i K hK
    split at hk
    ·rename_i hb
     simp only[Bool.and_eq_true]at hb
     have e1:=Nat.eq_of_beq_eq_true hb.1
     have e2:=Nat.eq_of_beq_eq_true hb.2
     cases hk
     obtain⟨xs,m,_,_,hl,hlen,hf⟩:=DataW.trod_array ht h
     have:=BH (ks:=K) (cs:=cs) (n:=n) (off:=0) (fun i hi=>by
      have h3:=hf i hi
      rw[List.getElem?_eq_getElem (by omega)]at h3
      have:=ih hK h3
      rw[e1]at this
      rwa [Nat.zero_add])
     rw[Nat.zero_mul,List.drop_zero,List.take_of_length_le (by omega)]at this
     exact this
    ·cases hk
   ·cases hk
  ·cases hk
def InW(w:World)(a:Addr)(room n:Nat)(cells:List Value):Prop:=
 a.spot=none∧cells.length=n∧n≤room∧∃ arr el fz,w.heap[a.block]?=some (.cells arr el fz)∧a.off+room≤arr.size∧uG arr a.off n=cells
theorem trod_sl{d:Nat}{t e:TypeId}{ks:List (Option IntKind)}{fuel:Nat}{cs:List Value}{x:DataW H×List MemPlace}(ht:P.underlying t=some (.slice e))(hk:Di P d e=some ks)
  (hc:P.cellsOf e=ks.length) (I8:0<ks.length) (h:DataW.trod enc P w base (fun _=>true) held fuel t cs=some x) :
  cs=[.slice none 0 0]∨∃(a:Addr) (len cap:Nat) (cells:List Value),cs=[.slice (some a) len cap]∧len≤cap∧cap≤maxLen∧ct (List.replicate len ks).flatten cells ∧
   (cap=0∨InW w a (cap*ks.length) (len*ks.length) cells):=by
 rcases DataW.trod_slice ht h with⟨h0,_⟩|⟨a,len,cap,elems,rest,n,_,rfl,rfl,hb,hl,hm,hlen,Vi,UU,_⟩
 ·exact .inl h0
 right
 obtain⟨hrl,hr⟩:=UU rfl
 have each:∀ i,i<cap→∃ cs,w.cells? base (a.add (i*ks.length)) ks.length=some cs∧ct ks cs:=by
  intro i hi
  have:∃ y,(w.cells? base (a.add (i*P.cellsOf e)) (P.cellsOf e)).bind (DataW.trod enc P w base (fun _=>true) held n e)=some y:=by
   by_cases xI:i<len
   ·exact⟨_,(Vi i xI).trans (List.getElem?_eq_getElem (by omega))⟩
   ·have:=hr (i-len) (by omega)
    rw[show len+(i-len)=i by omega]at this
    exact⟨_,this.trans (List.getElem?_eq_getElem (by omega))⟩
  obtain⟨y,hy⟩:=this
  rw[Option.bind_eq_some_iff]at hy
  obtain⟨cs,h1,h2⟩:=hy
  rw[hc]at h1
  exact⟨cs,h1,Gy hk h2⟩
 rcases Nat.eq_zero_or_pos cap with h0|h0
 ·have:len=0:=by omega
  subst this
  exact⟨a,0,cap,[],rfl,hl,hm,.nil,.inl h0⟩
 ·obtain⟨c0,h1,h2⟩:=each 0 h0
  rw[Nat.zero_mul]at h1
  have h3:=(World.cells?_some h1).2.2 0 I8
  have hl0:=(World.cells?_some h1).2.1
  rw[List.getElem?_eq_getElem (by omega)]at h3
  have ea:(a.add 0).add 0=a:=rfl
  rw[ea]at h3
  unfold World.cell? at h3
  split at h3
  ·rename_i arr el fz hh
   split at h3
   ·cases h3
   ·rename_i UT
    have hs:a.spot=none:=by simpa using UT
    have cellAt:∀ k,k<cap*ks.length→∃ v,arr[a.off+k]?=some v:=by
     intro k kV
     have hi:k / ks.length<cap:=by rw[Nat.div_lt_iff_lt_mul I8];exact kV
     obtain⟨cs,q1,q2⟩:=each _ hi
     have q3:=(World.cells?_some q1).2.2 (k % ks.length) (Nat.mod_lt _ I8)
     have q4:=(World.cells?_some q1).2.1
     rw[List.getElem?_eq_getElem (by rw[q4];exact Nat.mod_lt _ I8)]at q3
     have ee:(a.add (k / ks.length*ks.length)).add (k % ks.length)=⟨a.block,a.off+k,none⟩:=by
      have XB:k / ks.length*ks.length+k % ks.length=k:=by rw[Nat.mul_comm];exact Nat.div_add_mod k ks.length
      unfold Addr.add
      obtain⟨ab,ao,tZ⟩:=a
      simp only at hs;subst hs
      split<;>split<;>simp only[Addr.mk.injEq,true_and,and_true]<;>omega
     rw[ee]at q3
     unfold World.cell? at q3
     rw[hh]at q3
     exact⟨_,by simpa using q3⟩
    have I2:a.off+cap*ks.length≤arr.size:=by
     have hp:0<cap*ks.length:=Nat.mul_pos h0 I8
     obtain⟨v,hv⟩:=cellAt (cap*ks.length-1) (by omega)
     have:=(Array.getElem?_eq_some_iff.1 hv).1
     omega
    have hle:len*ks.length≤cap*ks.length:=Nat.mul_le_mul_right _ hl
    refine⟨a,len,cap,uG arr a.off (len*ks.length),rfl,hl,hm,?_,.inr ⟨hs,?_,hle,arr,el,fz,hh,I2,rfl⟩⟩
    ·have:=BH (ks:=ks) (cs:=arr.toList.drop a.off) (n:=len) (off:=0) (fun i hi=>by
      obtain⟨cs,q1,q2⟩:=each i (by omega)
      have:(((arr.toList.drop a.off).drop ((0+i)*ks.length)).take ks.length)=cs:=by
       have q4:=(World.cells?_some q1).2.1
       have hmul:i*ks.length+ks.length≤cap*ks.length:=by rw[←Nat.succ_mul];exact Nat.mul_le_mul_right _ (by omega)
       apply List.ext_getElem?
       intro j
       by_cases hj:j<ks.length
       ·have q3:=(World.cells?_some q1).2.2 j hj
        have ee:(a.add (i*ks.length)).add j=⟨a.block,a.off+(i*ks.length+j),none⟩:=by
         unfold Addr.add
         obtain⟨ab,ao,tZ⟩:=a
         simp only at hs;subst hs
         split<;>split<;>simp only[Addr.mk.injEq,true_and,and_true]<;>omega
        rw[ee]at q3
        unfold World.cell? at q3
        rw[hh]at q3
        rw[←q3]
        simp[hj,List.getElem?_drop]
        congr 1;omega
       ·rw[List.getElem?_eq_none (by simp;omega),List.getElem?_eq_none (by omega)]
      rw[this];exact q2)
     simpa[uG]using this
    ·simp[uG];omega
  ·cases h3
end
def Mem.empty:Mem:=⟨fun _=>none,0,fun _ _=>rfl⟩
inductive Sl(σ:Mem)(es:Nat):Nat→List Value→Value→Prop
 | nil:Sl σ es 0 [] (.slice none 0 0)
 | mk {b n:Nat} {cells:List Value} (hl:cells.length=n*es) (h:n=0∨∃ rw,σ.get b=some ⟨cells,rw⟩):Sl σ es n cells (.slice (some ⟨b,0,none⟩) n es)
theorem Sl.mono{σ τ:Mem}(h:∀ i b,σ.get i=some b→τ.get i=some b){es n:Nat}{cells:List Value}{v:Value}(s:Sl σ es n cells v):Sl τ es n cells v:=by
 cases s with
 | nil=>exact .nil
 | mk hl hg=>exact .mk hl (hg.imp id fun⟨r,q⟩=>⟨r,h _ _ q⟩)
structure Opn(w:World)(ρ:dS)(σ:Mem)(tZ kI:List Value):Prop where
 s_:lp ρ σ w
 vl:VL ρ tZ kI
 ro:∀ id b,σ.get id=some b→b.rw=false
theorem Opn.nil{w:World}:Opn w (fun _=>none) Mem.empty [] []:=
 ⟨⟨fun _ _ h=>(by cases h),fun _ _ _ _ _ _ _ h=>(by cases h),0,fun _ _=>rfl⟩,.nil,fun _ _ h=>(by cases h)⟩
theorem Opn.cell{w:World}{ρ:dS}{σ:Mem}{tZ kI:List Value}{k:Option IntKind}{v:Value}(h:Opn w ρ σ tZ kI)(hv:DM k v):Opn w ρ σ (v::tZ) (v::kI):=
 ⟨h.s_,.cons hv.V h.vl,h.ro⟩
theorem Opn.agg{w:World}{ρ:dS}{σ:Mem}{tZ kI:List Value}{ks:List (Option IntKind)}{cs:Array Value}(h:Opn w ρ σ tZ kI)(hv:ct ks cs.toList):Opn w ρ σ (.agg cs::tZ) (.agg cs::kI):=by
 refine⟨h.s_,.cons (.agg rfl fun i v v' h1 h2=>?_) h.vl,h.ro⟩
 rw[h1]at h2;cases h2
 obtain⟨k,_,hk⟩:=hv.get (i:=i) (v:=v) (by simpa using h1)
 exact hk.V
theorem Opn.yM{w:World}{ρ:dS}{σ:Mem}{tZ kI:List Value}(h:Opn w ρ σ tZ kI):Opn w ρ σ (.slice none 0 0::tZ) (.slice none 0 0::kI):=
 ⟨h.s_,.cons .yM h.vl,h.ro⟩
theorem Opn.slice{w:World}{ρ:dS}{σ:Mem}{tZ kI:List Value}(h:Opn w ρ σ tZ kI){a:Addr}{len cap es:Nat}{ks:List (Option IntKind)}{cells:List Value}(hl:len≤cap)(hf:ct ks cells)
  (hk:ks.length=len*es) (hi:cap=0∨InW w a (cap*es) (len*es) cells) :
  ∃ ρ' σ' s,Opn w ρ' σ' (s::tZ) (.slice (some a) len cap::kI)∧Sl σ' es len cells s∧∀ i b,σ.get i=some b→σ'.get i=some b:=by
 rcases hi with h0|⟨hs,hn,hle,arr,el,fz,hh,I2,hw⟩
 ·have:len=0:=by omega
  subst this;subst h0
  refine⟨ρ,σ,.slice (some ⟨0,0,none⟩) 0 es,⟨h.s_,.cons .Ke h.vl,h.ro⟩,.mk (by rw[hf.len,hk]) (.inl rfl),fun _ _ q=>q⟩
 ·obtain⟨N,hN⟩:=σ.fin
  obtain⟨M,hM⟩:=h.s_.s3
  have vk:σ.get (N+M)=none:=hN _ (by omega)
  have hρ:ρ (N+M)=none:=hM _ (by omega)
  let ρ':dS:=fun i=>if i=N+M then some ⟨a.block,a.off,cap*es⟩else ρ i
  have RI:ρ.le ρ':=by
   intro i e he
   show(if i=N+M then _ else _)=_
   split
   ·rename_i q;rw[q,hρ]at he;cases he
   ·exact he
  refine⟨ρ',σ.set (N+M) ⟨cells,false⟩,.slice (some ⟨N+M,0,none⟩) len es,⟨⟨?_,?_,N+M+1,?_⟩,?_,?_⟩,.mk (by rw[hn]) (.inr ⟨false,by simp[Mem.cE]⟩),?_⟩
  ·intro id cJ hg
   rw[Mem.cE]at hg
   split at hg
   ·rename_i q;cases hg
    refine⟨⟨a.block,a.off,cap*es⟩,arr,el,fz,by simp[ρ',q],hh,I2,by rw[hn];exact hle,?_,fun q=>(by cases q)⟩
    rw[show uG arr a.off cells.length=cells by rw[hn];exact hw]
    exact hf.VL
   ·rename_i q
    obtain⟨e,Dz,MY,fz',g1,g2,g3,g4,g5,g6⟩:=h.s_.s1 _ _ hg
    exact⟨e,Dz,MY,fz',RI _ _ g1,g2,g3,g4,g5.mono RI,g6⟩
  ·intro i j bi bj ei ej hij h1 h2 xH h3 h4
   rw[Mem.cE]at h1
   split at h1
   ·cases h1;cases xH
   ·have:=h.ro _ _ h1
    rw[this]at xH;cases xH
  ·intro i hi
   show(if i=N+M then _ else _)=_
   rw[ae (by omega)]
   exact hM _ (by omega)
  ·refine .cons ?_ (h.vl.mono RI)
   obtain⟨ab,ao,tZ⟩:=a
   simp only at hs;subst hs
   have:V ρ' (.slice (some ⟨N+M,0,none⟩) len es) (.slice (some ⟨ab,ao+0,none⟩) len cap):=V.sl (e:=⟨ab,ao,cap*es⟩) (by simp[ρ']) hl (by simp)
   simpa using this
  ·intro id b hg
   rw[Mem.cE]at hg
   split at hg
   ·cases hg;rfl
   ·exact h.ro _ _ hg
  ·intro i b hg
   rw[Mem.cE]
   split
   ·rename_i q;rw[q,vk]at hg;cases hg
   ·exact hg
theorem Opn.run{P:Program}{f:Nat}{c:vo}{S:Spec}{w:World}{ρ:dS}{σ:Mem}{tZ kI:List Value}(hE:Entry P f c S)(h:Opn w ρ σ tZ kI)
  (hS:S tZ (fun v _=>v=.bool true) σ):Calls P f kI.toArray w fun e w'=>e=.returned (.bool true)∧Below w.heap.size w w':=by
 refine(hE.sound tZ _ σ hS ρ w kI h.s_ h.vl).mono ?_
 rintro e w' ⟨v,v',ρ',σ',rfl,rfl,hv,hs,st⟩
 refine⟨by rw[hv.fg],st.same.os,st.same.tape,st.same.output,st.size,fun k hk=>st.aL k hk ?_⟩
 rintro⟨id,cJ,e,h1,h2,_⟩
 have:=h.ro _ _ h1
 rw[h2 rfl]at this
 cases this
end Go.Fl
namespace Go.Fl
open Go
abbrev KT := Value → Mem → Prop
abbrev JT := List Value → List (List Value) → Mem → Prop
abbrev xM(v : Value)(k : Value → Prop) : Prop := xF zx [v] k
abbrev xD(n : Nat)(v : Value)(k : Value → Prop) : Prop := xF (Jw n) [v] k
open Go Go.Proofs
set_option maxRecDepth 10000000
theorem aG:Tryz.prog.follows .mixedOrders=true:=by kernel_rfl
def aP(fn:Func):Code:=
  match fn.body with
  | some c=>c
  | none=>.skip
def qT(K:KT)(v3 v4 v5:Value)(σ:Mem):Prop:=xM v3 fun pd=>xM pd fun nH=>aV nH
 (xM v4 fun nZ=>xF aB [.bool true,nZ,.bool false] fun oN=>xM oN fun nY=>aV nY
 (xM v5 fun nX=>xF aB [.bool true,nX,.bool false] fun mH=>xM mH fun v2=>K v2 σ)
 (xF aB [.bool false,undef,.bool false] fun mH=>xM mH fun v2=>K v2 σ))
 (xF aB [.bool false,undef,.bool false] fun oN=>xM oN fun nY=>aV nY
 (xM v5 fun nX=>xF aB [.bool true,nX,.bool false] fun mH=>xM mH fun v2=>K v2 σ)
 (xF aB [.bool false,undef,.bool false] fun mH=>xM mH fun v2=>K v2 σ))
def zY(K:KT)(ts:List Value)(ls:List (List Value))(σ:Mem):Prop:=qT K (ts.getD 0 ar) (ts.getD 1 ar) (ts.getD 2 ar) σ
def qU(K:KT)(v3 v4:Value)(c1:List Value)(σ:Mem):Prop:=a9 (zY K) fun J3=>xD 4 (au 1) fun gL=>xO (ah 1 false [gL] c1) fun iC=>xF (aq .geq .no) [iC,.int .i64 1] fun iF=>xM iF fun gZ=>aV gZ
 (xD 4 (au 1) fun gY=>xO (ah 1 false [gY] c1) fun gP=>xF (aq .leq .no) [gP,.int .i64 65535] fun iB=>xF aB [.bool true,iB,.bool false] fun iA=>xM iA fun gX=>aV gX
 (xD 5 (au 1) fun gW=>xO (ah 1 false [gW] c1) fun fB=>xF (aq .geq .no) [fB,.int .i64 0] fun gr=>xF aB [.bool true,gr,.bool false] fun e9=>xM e9 fun fK=>aV fK
 (xD 5 (au 1) fun gD=>xO (ah 1 false [gD] c1) fun fh=>xF (aq .leq .no) [fh,.int .i64 1000] fun dY=>xF aB [.bool true,dY,.bool false] fun jo=>xM jo fun jI=>aV jI
 (xD 6 (au 1) fun jH=>xO (ah 1 false [jH] c1) fun jN=>xF (aq .geq .no) [jN,.int .i64 1] fun jG=>xF aB [.bool true,jG,.bool false] fun gn=>xM gn fun gk=>aV gk
 (xD 6 (au 1) fun gC=>xO (ah 1 false [gC] c1) fun gj=>xF (aq .leq .no) [gj,.int .i64 16] fun fT=>xF aB [.bool true,fT,.bool false] fun cQ=>xM cQ fun v5=>J3 [v3,v4,v5] [] σ)
 (xF aB [.bool false,undef,.bool false] fun cQ=>xM cQ fun v5=>J3 [v3,v4,v5] [] σ))
 (xF aB [.bool false,undef,.bool false] fun gn=>xM gn fun gk=>aV gk
 (xD 6 (au 1) fun gC=>xO (ah 1 false [gC] c1) fun gj=>xF (aq .leq .no) [gj,.int .i64 16] fun fT=>xF aB [.bool true,fT,.bool false] fun cQ=>xM cQ fun v5=>J3 [v3,v4,v5] [] σ)
 (xF aB [.bool false,undef,.bool false] fun cQ=>xM cQ fun v5=>J3 [v3,v4,v5] [] σ)))
 (xF aB [.bool false,undef,.bool false] fun jo=>xM jo fun jI=>aV jI
 (xD 6 (au 1) fun jH=>xO (ah 1 false [jH] c1) fun jN=>xF (aq .geq .no) [jN,.int .i64 1] fun jG=>xF aB [.bool true,jG,.bool false] fun gn=>xM gn fun gk=>aV gk
 (xD 6 (au 1) fun gC=>xO (ah 1 false [gC] c1) fun gj=>xF (aq .leq .no) [gj,.int .i64 16] fun fT=>xF aB [.bool true,fT,.bool false] fun cQ=>xM cQ fun v5=>J3 [v3,v4,v5] [] σ)
 (xF aB [.bool false,undef,.bool false] fun cQ=>xM cQ fun v5=>J3 [v3,v4,v5] [] σ))
 (xF aB [.bool false,undef,.bool false] fun gn=>xM gn fun gk=>aV gk
 (xD 6 (au 1) fun gC=>xO (ah 1 false [gC] c1) fun gj=>xF (aq .leq .no) [gj,.int .i64 16] fun fT=>xF aB [.bool true,fT,.bool false] fun cQ=>xM cQ fun v5=>J3 [v3,v4,v5] [] σ)
 (xF aB [.bool false,undef,.bool false] fun cQ=>xM cQ fun v5=>J3 [v3,v4,v5] [] σ))))
 (xF aB [.bool false,undef,.bool false] fun e9=>xM e9 fun fK=>aV fK
 (xD 5 (au 1) fun gD=>xO (ah 1 false [gD] c1) fun fh=>xF (aq .leq .no) [fh,.int .i64 1000] fun dY=>xF aB [.bool true,dY,.bool false] fun jo=>xM jo fun jI=>aV jI
 (xD 6 (au 1) fun jH=>xO (ah 1 false [jH] c1) fun jN=>xF (aq .geq .no) [jN,.int .i64 1] fun jG=>xF aB [.bool true,jG,.bool false] fun gn=>xM gn fun gk=>aV gk
 (xD 6 (au 1) fun gC=>xO (ah 1 false [gC] c1) fun gj=>xF (aq .leq .no) [gj,.int .i64 16] fun fT=>xF aB [.bool true,fT,.bool false] fun cQ=>xM cQ fun v5=>J3 [v3,v4,v5] [] σ)
 (xF aB [.bool false,undef,.bool false] fun cQ=>xM cQ fun v5=>J3 [v3,v4,v5] [] σ))
 (xF aB [.bool false,undef,.bool false] fun gn=>xM gn fun gk=>aV gk
 (xD 6 (au 1) fun gC=>xO (ah 1 false [gC] c1) fun gj=>xF (aq .leq .no) [gj,.int .i64 16] fun fT=>xF aB [.bool true,fT,.bool false] fun cQ=>xM cQ fun v5=>J3 [v3,v4,v5] [] σ)
 (xF aB [.bool false,undef,.bool false] fun cQ=>xM cQ fun v5=>J3 [v3,v4,v5] [] σ)))
 (xF aB [.bool false,undef,.bool false] fun jo=>xM jo fun jI=>aV jI
 (xD 6 (au 1) fun jH=>xO (ah 1 false [jH] c1) fun jN=>xF (aq .geq .no) [jN,.int .i64 1] fun jG=>xF aB [.bool true,jG,.bool false] fun gn=>xM gn fun gk=>aV gk
 (xD 6 (au 1) fun gC=>xO (ah 1 false [gC] c1) fun gj=>xF (aq .leq .no) [gj,.int .i64 16] fun fT=>xF aB [.bool true,fT,.bool false] fun cQ=>xM cQ fun v5=>J3 [v3,v4,v5] [] σ)
 (xF aB [.bool false,undef,.bool false] fun cQ=>xM cQ fun v5=>J3 [v3,v4,v5] [] σ))
 (xF aB [.bool false,undef,.bool false] fun gn=>xM gn fun gk=>aV gk
 (xD 6 (au 1) fun gC=>xO (ah 1 false [gC] c1) fun gj=>xF (aq .leq .no) [gj,.int .i64 16] fun fT=>xF aB [.bool true,fT,.bool false] fun cQ=>xM cQ fun v5=>J3 [v3,v4,v5] [] σ)
 (xF aB [.bool false,undef,.bool false] fun cQ=>xM cQ fun v5=>J3 [v3,v4,v5] [] σ)))))
 (xF aB [.bool false,undef,.bool false] fun iA=>xM iA fun gX=>aV gX
 (xD 5 (au 1) fun gW=>xO (ah 1 false [gW] c1) fun fB=>xF (aq .geq .no) [fB,.int .i64 0] fun gr=>xF aB [.bool true,gr,.bool false] fun e9=>xM e9 fun fK=>aV fK
 (xD 5 (au 1) fun gD=>xO (ah 1 false [gD] c1) fun fh=>xF (aq .leq .no) [fh,.int .i64 1000] fun dY=>xF aB [.bool true,dY,.bool false] fun jo=>xM jo fun jI=>aV jI
 (xD 6 (au 1) fun jH=>xO (ah 1 false [jH] c1) fun jN=>xF (aq .geq .no) [jN,.int .i64 1] fun jG=>xF aB [.bool true,jG,.bool false] fun gn=>xM gn fun gk=>aV gk
 (xD 6 (au 1) fun gC=>xO (ah 1 false [gC] c1) fun gj=>xF (aq .leq .no) [gj,.int .i64 16] fun fT=>xF aB [.bool true,fT,.bool false] fun cQ=>xM cQ fun v5=>J3 [v3,v4,v5] [] σ)
 (xF aB [.bool false,undef,.bool false] fun cQ=>xM cQ fun v5=>J3 [v3,v4,v5] [] σ))
 (xF aB [.bool false,undef,.bool false] fun gn=>xM gn fun gk=>aV gk
 (xD 6 (au 1) fun gC=>xO (ah 1 false [gC] c1) fun gj=>xF (aq .leq .no) [gj,.int .i64 16] fun fT=>xF aB [.bool true,fT,.bool false] fun cQ=>xM cQ fun v5=>J3 [v3,v4,v5] [] σ)
 (xF aB [.bool false,undef,.bool false] fun cQ=>xM cQ fun v5=>J3 [v3,v4,v5] [] σ)))
 (xF aB [.bool false,undef,.bool false] fun jo=>xM jo fun jI=>aV jI
 (xD 6 (au 1) fun jH=>xO (ah 1 false [jH] c1) fun jN=>xF (aq .geq .no) [jN,.int .i64 1] fun jG=>xF aB [.bool true,jG,.bool false] fun gn=>xM gn fun gk=>aV gk
 (xD 6 (au 1) fun gC=>xO (ah 1 false [gC] c1) fun gj=>xF (aq .leq .no) [gj,.int .i64 16] fun fT=>xF aB [.bool true,fT,.bool false] fun cQ=>xM cQ fun v5=>J3 [v3,v4,v5] [] σ)
 (xF aB [.bool false,undef,.bool false] fun cQ=>xM cQ fun v5=>J3 [v3,v4,v5] [] σ))
 (xF aB [.bool false,undef,.bool false] fun gn=>xM gn fun gk=>aV gk
 (xD 6 (au 1) fun gC=>xO (ah 1 false [gC] c1) fun gj=>xF (aq .leq .no) [gj,.int .i64 16] fun fT=>xF aB [.bool true,fT,.bool false] fun cQ=>xM cQ fun v5=>J3 [v3,v4,v5] [] σ)
 (xF aB [.bool false,undef,.bool false] fun cQ=>xM cQ fun v5=>J3 [v3,v4,v5] [] σ))))
 (xF aB [.bool false,undef,.bool false] fun e9=>xM e9 fun fK=>aV fK
 (xD 5 (au 1) fun gD=>xO (ah 1 false [gD] c1) fun fh=>xF (aq .leq .no) [fh,.int .i64 1000] fun dY=>xF aB [.bool true,dY,.bool false] fun jo=>xM jo fun jI=>aV jI
 (xD 6 (au 1) fun jH=>xO (ah 1 false [jH] c1) fun jN=>xF (aq .geq .no) [jN,.int .i64 1] fun jG=>xF aB [.bool true,jG,.bool false] fun gn=>xM gn fun gk=>aV gk
 (xD 6 (au 1) fun gC=>xO (ah 1 false [gC] c1) fun gj=>xF (aq .leq .no) [gj,.int .i64 16] fun fT=>xF aB [.bool true,fT,.bool false] fun cQ=>xM cQ fun v5=>J3 [v3,v4,v5] [] σ)
 (xF aB [.bool false,undef,.bool false] fun cQ=>xM cQ fun v5=>J3 [v3,v4,v5] [] σ))
 (xF aB [.bool false,undef,.bool false] fun gn=>xM gn fun gk=>aV gk
 (xD 6 (au 1) fun gC=>xO (ah 1 false [gC] c1) fun gj=>xF (aq .leq .no) [gj,.int .i64 16] fun fT=>xF aB [.bool true,fT,.bool false] fun cQ=>xM cQ fun v5=>J3 [v3,v4,v5] [] σ)
 (xF aB [.bool false,undef,.bool false] fun cQ=>xM cQ fun v5=>J3 [v3,v4,v5] [] σ)))
 (xF aB [.bool false,undef,.bool false] fun jo=>xM jo fun jI=>aV jI
 (xD 6 (au 1) fun jH=>xO (ah 1 false [jH] c1) fun jN=>xF (aq .geq .no) [jN,.int .i64 1] fun jG=>xF aB [.bool true,jG,.bool false] fun gn=>xM gn fun gk=>aV gk
 (xD 6 (au 1) fun gC=>xO (ah 1 false [gC] c1) fun gj=>xF (aq .leq .no) [gj,.int .i64 16] fun fT=>xF aB [.bool true,fT,.bool false] fun cQ=>xM cQ fun v5=>J3 [v3,v4,v5] [] σ)
 (xF aB [.bool false,undef,.bool false] fun cQ=>xM cQ fun v5=>J3 [v3,v4,v5] [] σ))
 (xF aB [.bool false,undef,.bool false] fun gn=>xM gn fun gk=>aV gk
 (xD 6 (au 1) fun gC=>xO (ah 1 false [gC] c1) fun gj=>xF (aq .leq .no) [gj,.int .i64 16] fun fT=>xF aB [.bool true,fT,.bool false] fun cQ=>xM cQ fun v5=>J3 [v3,v4,v5] [] σ)
 (xF aB [.bool false,undef,.bool false] fun cQ=>xM cQ fun v5=>J3 [v3,v4,v5] [] σ)))))
def zZ(K:KT)(ts:List Value)(ls:List (List Value))(σ:Mem):Prop:=qU K (ts.getD 0 ar) (ts.getD 1 ar) (ls.getD 0 []) σ
def qV(K:KT)(v3:Value)(c1:List Value)(σ:Mem):Prop:=a9 (zZ K) fun J2=>xD 2 (au 1) fun cH=>xO (ah 1 false [cH] c1) fun cN=>xF (aq .geq .no) [cN,.int .i64 1] fun dE=>xM dE fun dN=>aV dN
 (xD 2 (au 1) fun et=>xO (ah 1 false [et] c1) fun eW=>xF (aq .leq .no) [eW,.int .i64 64] fun v30=>xF aB [.bool true,v30,.bool false] fun eT=>xM eT fun dM=>aV dM
 (xD 3 (au 1) fun eR=>xO (ah 1 false [eR] c1) fun eQ=>xF (aq .geq .no) [eQ,.int .i64 17] fun dK=>xF aB [.bool true,dK,.bool false] fun dh=>xM dh fun fV=>aV fV
 (xD 3 (au 1) fun gu=>xO (ah 1 false [gu] c1) fun fU=>xF (aq .leq .no) [fU,.int .i64 256] fun fC=>xF aB [.bool true,fC,.bool false] fun fj=>xM fj fun v4=>J2 [v3,v4] [c1] σ)
 (xF aB [.bool false,undef,.bool false] fun fj=>xM fj fun v4=>J2 [v3,v4] [c1] σ))
 (xF aB [.bool false,undef,.bool false] fun dh=>xM dh fun fV=>aV fV
 (xD 3 (au 1) fun gu=>xO (ah 1 false [gu] c1) fun fU=>xF (aq .leq .no) [fU,.int .i64 256] fun fC=>xF aB [.bool true,fC,.bool false] fun fj=>xM fj fun v4=>J2 [v3,v4] [c1] σ)
 (xF aB [.bool false,undef,.bool false] fun fj=>xM fj fun v4=>J2 [v3,v4] [c1] σ)))
 (xF aB [.bool false,undef,.bool false] fun eT=>xM eT fun dM=>aV dM
 (xD 3 (au 1) fun eR=>xO (ah 1 false [eR] c1) fun eQ=>xF (aq .geq .no) [eQ,.int .i64 17] fun dK=>xF aB [.bool true,dK,.bool false] fun dh=>xM dh fun fV=>aV fV
 (xD 3 (au 1) fun gu=>xO (ah 1 false [gu] c1) fun fU=>xF (aq .leq .no) [fU,.int .i64 256] fun fC=>xF aB [.bool true,fC,.bool false] fun fj=>xM fj fun v4=>J2 [v3,v4] [c1] σ)
 (xF aB [.bool false,undef,.bool false] fun fj=>xM fj fun v4=>J2 [v3,v4] [c1] σ))
 (xF aB [.bool false,undef,.bool false] fun dh=>xM dh fun fV=>aV fV
 (xD 3 (au 1) fun gu=>xO (ah 1 false [gu] c1) fun fU=>xF (aq .leq .no) [fU,.int .i64 256] fun fC=>xF aB [.bool true,fC,.bool false] fun fj=>xM fj fun v4=>J2 [v3,v4] [c1] σ)
 (xF aB [.bool false,undef,.bool false] fun fj=>xM fj fun v4=>J2 [v3,v4] [c1] σ)))
def z5(K:KT)(ts:List Value)(ls:List (List Value))(σ:Mem):Prop:=qV K (ts.getD 0 ar) (ls.getD 0 []) σ
def P2(a0:Value)(K:KT)(σ:Mem):Prop:=xC (bO 7 [a0] []) fun c1=>xM (.bool false) fun v2=>a9 (z5 K) fun J1=>xD 0 (au 1) fun v6=>xO (ah 1 false [v6] c1) fun v7=>xF (aq .geq .no) [v7,.int .i64 1] fun v8=>xM v8 fun v9=>aV v9
 (xD 0 (au 1) fun v10=>xO (ah 1 false [v10] c1) fun v11=>xF (aq .leq .no) [v11,.int .i64 8] fun bA=>xF aB [.bool true,bA,.bool false] fun bm=>xM bm fun bK=>aV bK
 (xD 1 (au 1) fun bh=>xO (ah 1 false [bh] c1) fun bo=>xF (aq .geq .no) [bo,.int .i64 1] fun bB=>xF aB [.bool true,bB,.bool false] fun bM=>xM bM fun bJ=>aV bJ
 (xD 1 (au 1) fun v20=>xO (ah 1 false [v20] c1) fun b5=>xF (aq .leq .no) [b5,.int .i64 65536] fun b8=>xF aB [.bool true,b8,.bool false] fun cu=>xM cu fun v3=>J1 [v3] [c1] σ)
 (xF aB [.bool false,undef,.bool false] fun cu=>xM cu fun v3=>J1 [v3] [c1] σ))
 (xF aB [.bool false,undef,.bool false] fun bM=>xM bM fun bJ=>aV bJ
 (xD 1 (au 1) fun v20=>xO (ah 1 false [v20] c1) fun b5=>xF (aq .leq .no) [b5,.int .i64 65536] fun b8=>xF aB [.bool true,b8,.bool false] fun cu=>xM cu fun v3=>J1 [v3] [c1] σ)
 (xF aB [.bool false,undef,.bool false] fun cu=>xM cu fun v3=>J1 [v3] [c1] σ)))
 (xF aB [.bool false,undef,.bool false] fun bm=>xM bm fun bK=>aV bK
 (xD 1 (au 1) fun bh=>xO (ah 1 false [bh] c1) fun bo=>xF (aq .geq .no) [bo,.int .i64 1] fun bB=>xF aB [.bool true,bB,.bool false] fun bM=>xM bM fun bJ=>aV bJ
 (xD 1 (au 1) fun v20=>xO (ah 1 false [v20] c1) fun b5=>xF (aq .leq .no) [b5,.int .i64 65536] fun b8=>xF aB [.bool true,b8,.bool false] fun cu=>xM cu fun v3=>J1 [v3] [c1] σ)
 (xF aB [.bool false,undef,.bool false] fun cu=>xM cu fun v3=>J1 [v3] [c1] σ))
 (xF aB [.bool false,undef,.bool false] fun bM=>xM bM fun bJ=>aV bJ
 (xD 1 (au 1) fun v20=>xO (ah 1 false [v20] c1) fun b5=>xF (aq .leq .no) [b5,.int .i64 65536] fun b8=>xF aB [.bool true,b8,.bool false] fun cu=>xM cu fun v3=>J1 [v3] [c1] σ)
 (xF aB [.bool false,undef,.bool false] fun cu=>xM cu fun v3=>J1 [v3] [c1] σ)))
def Eh:Spec:=fun args K σ=>match args with
  | [a0]=>P2 a0 K σ
  | _=>False
noncomputable def NX:Cx:={ P:=Tryz.prog,T:=[],loc:=[(1,1),(6,1),(10,1),(15,1),(20,1),(24,1),(28,1),(33,1),(38,1),(42,1),(46,1),(51,1),(56,1),(61,1),(66,1)],eqt:=[],n:=77,aL:=[(1000003,[3],[1]),(1000004,[3,4],[1]),(1000005,[3,4,5],[])] }
theorem Zo:cC NX Tryz.f67 (aP Tryz.f67) 1=Eh:=by
  funext args K σ
  rcases args with _|⟨a0,_|⟨b,r⟩⟩<;>kernel_rfl
theorem abj:Entry Tryz.prog 67 .none Eh:=
  entry (C:=NX) aS.nil aG Tryz.func67 (by kernel_rfl) (by kernel_rfl) (by kernel_rfl) Zo
attribute [irreducible] qT zY qU zZ qV z5 P2 Eh
def P3(a0 a1:Value)(K:KT)(σ:Mem):Prop:=xC (bO 7 [a0] []) fun c2=>xM (.int .i64 0) fun v4=>xD 0 (au 2) fun v5=>xO (ah 1 false [v5] c2) fun v6=>xF (aq .add .no) [.int .i64 6,v6] fun v7=>xD 1 (au 2) fun v8=>xO (ah 1 false [v8] c2) fun v9=>xF (aq .mul .no) [.int .i64 2,v9] fun v10=>xF (aq .add .no) [v7,v10] fun v11=>xD 2 (au 2) fun bA=>xO (ah 1 false [bA] c2) fun bm=>xF (aq .mul .no) [.int .i64 3,bm] fun bK=>xF (aq .add .no) [v11,bK] fun bh=>xD 3 (au 2) fun bo=>xO (ah 1 false [bo] c2) fun bB=>xM a1 fun bM=>xF (aq .mul .no) [bB,bM] fun bJ=>xF (aq .add .no) [bh,bJ] fun v20=>xM v20 fun v4=>K v4 σ
def pV:Spec:=fun args K σ=>match args with
  | [a0,a1]=>P3 a0 a1 K σ
  | _=>False
noncomputable def NY:Cx:={ P:=Tryz.prog,T:=[],loc:=[(2,2),(5,2),(8,2),(12,2),(16,2)],eqt:=[],n:=21,aL:=[] }
theorem Zp:cC NY Tryz.f24 (aP Tryz.f24) 2=pV:=by
  funext args K σ
  rcases args with _|⟨a0,_|⟨a1,_|⟨b,r⟩⟩⟩<;>kernel_rfl
theorem JC:Entry Tryz.prog 24 .none pV:=
  entry (C:=NY) aS.nil aG Tryz.func24 (by kernel_rfl) (by kernel_rfl) (by kernel_rfl) Zp
attribute [irreducible] P3 pV
def PR(a0:Value)(K:KT)(σ:Mem):Prop:=xC (bO 7 [a0] []) fun c1=>xM (.int .i64 0) fun v2=>xO (ah 7 true [(au 1)] c1) fun v3=>xD 2 (au 1) fun v4=>xO (ah 1 false [v4] c1) fun v5=>pV [v3,v5] (fun v6 σ=>xM v6 fun v2=>K v2 σ) σ
def Bi:Spec:=fun args K σ=>match args with
  | [a0]=>PR a0 K σ
  | _=>False
noncomputable def NN:Cx:={ P:=Tryz.prog,T:=[(24,.none,pV)],loc:=[(1,1),(4,1)],eqt:=[],n:=7,aL:=[] }
theorem Ze:cC NN Tryz.f58 (aP Tryz.f58) 1=Bi:=by
  funext args K σ
  rcases args with _|⟨a0,_|⟨b,r⟩⟩<;>kernel_rfl
theorem VP:Entry Tryz.prog 58 .none Bi:=
  entry (C:=NN) (aS.cons JC aS.nil) aG Tryz.func58 (by kernel_rfl) (by kernel_rfl) (by kernel_rfl) Ze
attribute [irreducible] PR Bi
def vD(K:KT)(v0 v9:Value)(σ:Mem):Prop:=aV v9
 (xM (.pointer none) fun v2=>xM (.int .i64 1) fun v3=>K (.tuple #[v2,v3]) σ)
 (xM v0 fun v10=>kG 1 8 [.int .u64 0] [v10,v10] (fun v11 σ=>xM v0 fun bA=>kG 1 8 [.int .i64 0] [bA,bA] (fun bm σ=>xF (aM [(0,1),(1,1),(2,1),(3,1),(4,3)] [(.slice none 0 0),(.slice none 0 0),.int .i64 0,.int .i64 0,.int .i64 0,.int .i64 0,.bool false] [0,1]) [v11,bm] fun bK=>jD 7 [bK] (fun bh σ=>xM bh fun v2=>xM (.int .i64 0) fun v3=>K (.tuple #[v2,v3]) σ) σ) σ) σ)
def zQ(K:KT)(ts:List Value)(ls:List (List Value))(σ:Mem):Prop:=vD K (ts.getD 0 ar) (ts.getD 1 ar) σ
def PA(a0:Value)(K:KT)(σ:Mem):Prop:=xM (.pointer none) fun v2=>xM (.int .i64 0) fun v3=>a9 (zQ K) fun J1=>xM a0 fun v4=>xF (aq .lss .no) [v4,.int .i64 1] fun v5=>xM v5 fun v6=>aV v6
 (xF aB [.bool true,.bool true,undef] fun v9=>J1 [a0,v9] [] σ)
 (xM a0 fun v7=>xF (aq .gtr .no) [v7,.int .i64 1048576] fun v8=>xF aB [.bool false,.bool true,v8] fun v9=>J1 [a0,v9] [] σ)
def Ed:Spec:=fun args K σ=>match args with
  | [a0]=>PA a0 K σ
  | _=>False
noncomputable def Nu:Cx:={ P:=Tryz.prog,T:=[],loc:=[],eqt:=[],n:=16,aL:=[(1000003,[0,9],[])] }
theorem YZ:cC Nu Tryz.f68 (aP Tryz.f68) 1=Ed:=by
  funext args K σ
  rcases args with _|⟨a0,_|⟨b,r⟩⟩<;>kernel_rfl
theorem abf:Entry Tryz.prog 68 .write Ed:=
  entry (C:=Nu) aS.nil aG Tryz.func68 (by kernel_rfl) (by kernel_rfl) (by kernel_rfl) YZ
attribute [irreducible] vD zQ PA Ed
def PL(a0 a1:Value)(K:KT)(σ:Mem):Prop:=xC (bO 7 [a0] []) fun c2=>xM (.int .i64 0) fun v4=>xD 0 (au 2) fun v5=>xO (ah 1 false [v5] c2) fun v6=>xF (aq .add .no) [.int .i64 6,v6] fun v7=>xM a1 fun v8=>xF (aq .mul .no) [.int .i64 2,v8] fun v9=>xF (aq .add .no) [v7,v9] fun v10=>xM v10 fun v4=>K v4 σ
def gw:Spec:=fun args K σ=>match args with
  | [a0,a1]=>PL a0 a1 K σ
  | _=>False
noncomputable def NI:Cx:={ P:=Tryz.prog,T:=[],loc:=[(2,2),(5,2)],eqt:=[],n:=11,aL:=[] }
theorem Y_:cC NI Tryz.f63 (aP Tryz.f63) 2=gw:=by
  funext args K σ
  rcases args with _|⟨a0,_|⟨a1,_|⟨b,r⟩⟩⟩<;>kernel_rfl
theorem xS:Entry Tryz.prog 63 .none gw:=
  entry (C:=NI) aS.nil aG Tryz.func63 (by kernel_rfl) (by kernel_rfl) (by kernel_rfl) Y_
attribute [irreducible] PL gw
def O8(a0 a1:Value)(K:KT)(σ:Mem):Prop:=xM (.int .u64 0) fun v4=>xM a0 fun v5=>xF Lp [v5,.int .i64 0] fun v6=>xM a1 fun v7=>xF Jv [v6,v7] fun v8=>xF (cZ .u64) [v8] fun v9=>xM v9 fun v4=>K v4 σ
def ia:Spec:=fun args K σ=>match args with
  | [a0,a1]=>O8 a0 a1 K σ
  | _=>False
noncomputable def MZ:Cx:={ P:=Tryz.prog,T:=[],loc:=[],eqt:=[],n:=10,aL:=[] }
theorem Yx:cC MZ Tryz.f66 (aP Tryz.f66) 2=ia:=by
  funext args K σ
  rcases args with _|⟨a0,_|⟨a1,_|⟨b,r⟩⟩⟩<;>kernel_rfl
theorem Hb:Entry Tryz.prog 66 .none ia:=
  entry (C:=MZ) aS.nil aG Tryz.func66 (by kernel_rfl) (by kernel_rfl) (by kernel_rfl) Yx
attribute [irreducible] O8 ia
def PC(a0:Value)(K:KT)(σ:Mem):Prop:=xC (bO 4 [a0] []) fun c1=>xM (.int .u64 0) fun v2=>xD 0 (au 1) fun v3=>xO (ah 1 false [v3] c1) fun v4=>ia [v4,.int .i64 7] (fun v5 σ=>xD 1 (au 1) fun v6=>xO (ah 1 false [v6] c1) fun v7=>ia [v7,.int .i64 1048575] (fun v8 σ=>xF (aq .shl .no) [v8,.int .u64 3] fun v9=>xF (aq .or .no) [v5,v9] fun v10=>xD 2 (au 1) fun v11=>xO (ah 1 false [v11] c1) fun bA=>ia [bA,.int .i64 65535] (fun bm σ=>xF (aq .shl .no) [bm,.int .u64 23] fun bK=>xF (aq .or .no) [v10,bK] fun bh=>xD 3 (au 1) fun bo=>xO (ah 1 false [bo] c1) fun bB=>ia [bB,.int .i64 4194303] (fun bM σ=>xF (aq .shl .no) [bM,.int .u64 39] fun bJ=>xF (aq .or .no) [bh,bJ] fun v20=>xM v20 fun v2=>K v2 σ) σ) σ) σ) σ
def n_:Spec:=fun args K σ=>match args with
  | [a0]=>PC a0 K σ
  | _=>False
noncomputable def Nx:Cx:={ P:=Tryz.prog,T:=[(66,.none,ia)],loc:=[(1,1),(3,1),(6,1),(11,1),(16,1)],eqt:=[],n:=21,aL:=[] }
theorem Y1:cC Nx Tryz.f69 (aP Tryz.f69) 1=n_:=by
  funext args K σ
  rcases args with _|⟨a0,_|⟨b,r⟩⟩<;>kernel_rfl
theorem Hc:Entry Tryz.prog 69 .none n_:=
  entry (C:=Nx) (aS.cons Hb aS.nil) aG Tryz.func69 (by kernel_rfl) (by kernel_rfl) (by kernel_rfl) Y1
attribute [irreducible] PC n_
def vE(K:KT)(v0 v1 bJ:Value)(σ:Mem):Prop:=aV bJ
 (xM (.bool false) fun v4=>K v4 σ)
 (xM v0 fun v20=>xF ay [v20] fun b5=>xD 2 b5 fun b8=>aj 1 false [b8] (fun cu σ=>xF (aq .add .no) [cu,.int .i64 1] fun cH=>xF ay [v20] fun cN=>xD 2 cN fun dE=>ax 1 [dE,cH] (fun _v σ=>xM v0 fun dN=>xM v1 fun et=>xM v0 fun eW=>xF ay [eW] fun v30=>xD 3 v30 fun eT=>aj 1 false [eT] (fun dM σ=>xF (aM [(0,1),(1,1),(2,1)] [.int .i64 0,.int .i64 0,.bool false] [0,1]) [et,dM] fun eR=>xF ay [dN] fun eQ=>xD 4 eQ fun dK=>ax 3 [dK,eR] (fun _v σ=>xM (.bool true) fun v4=>K v4 σ) σ) σ) σ) σ)
def zR(K:KT)(ts:List Value)(ls:List (List Value))(σ:Mem):Prop:=vE K (ts.getD 0 ar) (ts.getD 1 ar) (ts.getD 2 ar) σ
def PB(a0 a1:Value)(K:KT)(σ:Mem):Prop:=xM (.bool false) fun v4=>a9 (zR K) fun J1=>xM a0 fun v5=>xF (aq .eql .ptr) [v5,.pointer none] fun v6=>xM v6 fun v7=>aV v7
 (xF aB [.bool true,.bool true,undef] fun v10=>xM v10 fun v11=>aV v11
 (xF aB [.bool true,.bool true,undef] fun bJ=>J1 [a0,a1,bJ] [] σ)
 (xM a1 fun bA=>xM a0 fun bm=>xF ay [bm] fun bK=>xD 0 bK fun bh=>aj 1 false [bh] (fun bo σ=>xF jS [bo] fun bB=>xF (aq .geq .no) [bA,bB] fun bM=>xF aB [.bool false,.bool true,bM] fun bJ=>J1 [a0,a1,bJ] [] σ) σ))
 (xM a1 fun v8=>xF (aq .lss .no) [v8,.int .i64 0] fun v9=>xF aB [.bool false,.bool true,v9] fun v10=>xM v10 fun v11=>aV v11
 (xF aB [.bool true,.bool true,undef] fun bJ=>J1 [a0,a1,bJ] [] σ)
 (xM a1 fun bA=>xM a0 fun bm=>xF ay [bm] fun bK=>xD 0 bK fun bh=>aj 1 false [bh] (fun bo σ=>xF jS [bo] fun bB=>xF (aq .geq .no) [bA,bB] fun bM=>xF aB [.bool false,.bool true,bM] fun bJ=>J1 [a0,a1,bJ] [] σ) σ))
def ta:Spec:=fun args K σ=>match args with
  | [a0,a1]=>PB a0 a1 K σ
  | _=>False
noncomputable def Nv:Cx:={ P:=Tryz.prog,T:=[],loc:=[],eqt:=[(25,.ptr)],n:=36,aL:=[(1000003,[0,1,19],[])] }
theorem Y0:cC Nv Tryz.f64 (aP Tryz.f64) 2=ta:=by
  funext args K σ
  rcases args with _|⟨a0,_|⟨a1,_|⟨b,r⟩⟩⟩<;>kernel_rfl
theorem Ls:Entry Tryz.prog 64 .write ta:=
  entry (C:=Nv) aS.nil aG Tryz.func64 (by kernel_rfl) (by kernel_rfl) (by kernel_rfl) Y0
attribute [irreducible] vE zR PB ta
def wq(K:KT)(v0 v1 v2:Value)(σ:Mem):Prop:=xM v0 fun eQ=>xF ay [eQ] fun dK=>xD 0 dK fun dh=>aj 1 false [dh] (fun fV σ=>xM v1 fun gu=>xM v2 fun fU=>xF (dx 1) [fV,gu] fun fC=>ax 1 [fC,fU] (fun _v σ=>K (.tuple #[]) σ) σ) σ
def Af(K:KT)(ts:List Value)(ls:List (List Value))(σ:Mem):Prop:=wq K (ts.getD 0 ar) (ts.getD 1 ar) (ts.getD 2 ar) σ
def P_(a0 a1 a2:Value)(K:KT)(σ:Mem):Prop:=a9 (Af K) fun J1=>xM a0 fun v6=>xM a0 fun v7=>xF ay [v7] fun v8=>xD 0 v8 fun v9=>aj 1 false [v9] (fun v10 σ=>xM a1 fun v11=>xF (dx 1) [v10,v11] fun bA=>aj 1 false [bA] (fun bm σ=>xM a2 fun bK=>xF (aq .neq .no) [bm,bK] fun bh=>xF ay [v6] fun bo=>xD 4 bo fun bB=>xD 2 bB fun bM=>ax 1 [bM,bh] (fun _v σ=>xM a0 fun bJ=>xF ay [bJ] fun v20=>xD 4 v20 fun b5=>xD 2 b5 fun b8=>aj 1 false [b8] (fun cu σ=>aV cu
 (xM a0 fun cH=>xF ay [cH] fun cN=>xD 1 cN fun dE=>aj 1 false [dE] (fun dN σ=>xM a1 fun et=>xM a0 fun eW=>xF ay [eW] fun v30=>xD 2 v30 fun eT=>aj 1 false [eT] (fun dM σ=>xF (dx 1) [dN,et] fun eR=>ax 1 [eR,dM] (fun _v σ=>J1 [a0,a1,a2] [] σ) σ) σ) σ)
 (J1 [a0,a1,a2] [] σ)) σ) σ) σ) σ
def xk:Spec:=fun args K σ=>match args with
  | [a0,a1,a2]=>P_ a0 a1 a2 K σ
  | _=>False
noncomputable def N6:Cx:={ P:=Tryz.prog,T:=[],loc:=[],eqt:=[],n:=41,aL:=[(1000004,[0,1,2],[])] }
theorem Zx:cC N6 Tryz.f65 (aP Tryz.f65) 3=xk:=by
  funext args K σ
  rcases args with _|⟨a0,_|⟨a1,_|⟨a2,_|⟨b,r⟩⟩⟩⟩<;>kernel_rfl
theorem R2:Entry Tryz.prog 65 .write xk:=
  entry (C:=N6) aS.nil aG Tryz.func65 (by kernel_rfl) (by kernel_rfl) (by kernel_rfl) Zx
attribute [irreducible] wq Af P_ xk
def Qb(a0 a1 a2:Value)(K:KT)(σ:Mem):Prop:=xM (.int .i64 0) fun v6=>xM a0 fun v7=>xM a1 fun v8=>ta [v7,v8] (fun v9 σ=>xF (mV .not) [v9] fun v10=>aV v10
 (xM (.int .i64 2) fun v6=>K v6 σ)
 (xM a0 fun v11=>xM a1 fun bA=>xM a2 fun bm=>xk [v11,bA,bm] (fun bK σ=>xM (.int .i64 0) fun v6=>K v6 σ) σ)) σ
def uw:Spec:=fun args K σ=>match args with
  | [a0,a1,a2]=>Qb a0 a1 a2 K σ
  | _=>False
noncomputable def N8:Cx:={ P:=Tryz.prog,T:=[(64,.write,ta),(65,.write,xk)],loc:=[],eqt:=[],n:=15,aL:=[] }
theorem Zz:cC N8 Tryz.f33 (aP Tryz.f33) 3=uw:=by
  funext args K σ
  rcases args with _|⟨a0,_|⟨a1,_|⟨a2,_|⟨b,r⟩⟩⟩⟩<;>kernel_rfl
theorem VS:Entry Tryz.prog 33 .write uw:=
  entry (C:=N8) (aS.cons Ls (aS.cons R2 aS.nil)) aG Tryz.func33 (by kernel_rfl) (by kernel_rfl) (by kernel_rfl) Zz
attribute [irreducible] Qb uw
def Pc(a0 a1:Value)(K:KT)(σ:Mem):Prop:=xM (.int .u64 0) fun v4=>xM a0 fun v5=>xF Jv [v5,.int .i64 65535] fun v6=>xF (aq .add .no) [v6,.int .i64 1] fun v7=>ia [v7,.int .i64 65536] (fun v8 σ=>xM a1 fun v9=>ia [v9,.int .i64 68719476735] (fun v10 σ=>xF (aq .shl .no) [v10,.int .u64 17] fun v11=>xF (aq .or .no) [v8,v11] fun bA=>xM bA fun v4=>K v4 σ) σ) σ
def rK:Spec:=fun args K σ=>match args with
  | [a0,a1]=>Pc a0 a1 K σ
  | _=>False
noncomputable def M3:Cx:={ P:=Tryz.prog,T:=[(66,.none,ia)],loc:=[],eqt:=[],n:=13,aL:=[] }
theorem YA:cC M3 Tryz.f70 (aP Tryz.f70) 2=rK:=by
  funext args K σ
  rcases args with _|⟨a0,_|⟨a1,_|⟨b,r⟩⟩⟩<;>kernel_rfl
theorem RU:Entry Tryz.prog 70 .none rK:=
  entry (C:=M3) (aS.cons Hb aS.nil) aG Tryz.func70 (by kernel_rfl) (by kernel_rfl) (by kernel_rfl) YA
attribute [irreducible] Pc rK
def Qi(K:KT)(σ:Mem):Prop:=xM (.int .i64 0) fun v0=>xM (.int .i64 1) fun v0=>K v0 σ
def th:Spec:=fun args K σ=>match args with
  | []=>Qi  K σ
  | _=>False
noncomputable def Oe:Cx:={ P:=Tryz.prog,T:=[],loc:=[],eqt:=[],n:=1,aL:=[] }
theorem ZG:cC Oe Tryz.f71 (aP Tryz.f71) 0=th:=by
  funext args K σ
  rcases args with _|⟨b,r⟩<;>kernel_rfl
theorem R3:Entry Tryz.prog 71 .none th:=
  entry (C:=Oe) aS.nil aG Tryz.func71 (by kernel_rfl) (by kernel_rfl) (by kernel_rfl) ZG
attribute [irreducible] Qi th
def vK(K:KT)(v4:Value)(c1:List Value)(σ:Mem):Prop:=xM v4 fun fj=>xO (ah 7 true [(au 1)] c1) fun gL=>xD 1 (au 1) fun iC=>xO (ah 1 false [iC] c1) fun iF=>xF (aq .sub .no) [iF,.int .i64 1] fun gZ=>gw [gL,gZ] (fun gY σ=>xF (aq .add .no) [gY,.int .i64 1] fun gP=>rK [(.int .i64 (-1)),.int .i64 0] (fun iB σ=>uw [fj,gP,iB] (fun iA σ=>xM v4 fun gX=>th [] (fun gW σ=>rK [.int .i64 0,.int .i64 0] (fun fB σ=>uw [gX,gW,fB] (fun gr σ=>xM v4 fun e9=>xM e9 fun v2=>xM (.int .i64 0) fun v3=>K (.tuple #[v2,v3]) σ) σ) σ) σ) σ) σ) σ
def zX(K:KT)(ts:List Value)(ls:List (List Value))(σ:Mem):Prop:=vK K (ts.getD 0 ar) (ls.getD 0 []) σ
def gf(K:KT)(J1 R1:JT)(v4 v20 b5:Value)(c1:List Value)(σ:Mem):Prop:=xF (aq .lss .no) [b5,v20] fun b8=>aV b8
 (xM b5 fun cu=>xM cu fun v6=>xM v4 fun cH=>xO (ah 7 true [(au 1)] c1) fun cN=>xM v6 fun dE=>gw [cN,dE] (fun dN σ=>xF (aM [(0,1),(1,1),(2,1),(3,1)] [.int .i64 0,.int .i64 0,.int .i64 0,.int .i64 0] [2]) [.int .i64 1] fun et=>n_ [et] (fun eW σ=>uw [cH,dN,eW] (fun v30 σ=>xM v4 fun eT=>xO (ah 7 true [(au 1)] c1) fun dM=>xM v6 fun eR=>gw [dM,eR] (fun eQ σ=>xF (aq .add .no) [eQ,.int .i64 1] fun dK=>xM v6 fun dh=>xF (aq .add .no) [dh,.int .i64 1] fun fV=>rK [fV,.int .i64 0] (fun gu σ=>uw [eT,dK,gu] (fun fU σ=>xF (aq .add .no) [b5,.int .i64 1] fun fC=>xM fC fun b5=>R1 [v4,v20,b5] [c1] σ) σ) σ) σ) σ) σ) σ)
 (J1 [v4] [c1] σ)
def eI(K:KT)(J1 R1:JT)(ts:List Value)(ls:List (List Value))(σ:Mem):Prop:=gf K J1 R1 (ts.getD 0 ar) (ts.getD 1 ar) (ts.getD 2 ar) (ls.getD 0 []) σ
def PS(a0:Value)(K:KT)(σ:Mem):Prop:=xC (bO 7 [a0] []) fun c1=>xM (.pointer none) fun v2=>xM (.int .i64 0) fun v3=>xO (ah 7 true [(au 1)] c1) fun v7=>Eh [v7] (fun v8 σ=>xF (mV .not) [v8] fun v9=>aV v9
 (xM (.pointer none) fun v2=>xM (.int .i64 1) fun v3=>K (.tuple #[v2,v3]) σ)
 (xO (ah 7 true [(au 1)] c1) fun v11=>Bi [v11] (fun bA σ=>Ed [bA] (fun bm σ=>xM bm fun v10=>xF (dH 0) [v10] fun bK=>xF (dH 1) [v10] fun bh=>xM bK fun v4=>xM bh fun v5=>xM v5 fun bo=>xF (aq .neq .no) [bo,.int .i64 0] fun bB=>aV bB
 (xM v5 fun bM=>xM (.pointer none) fun v2=>xM bM fun v3=>K (.tuple #[v2,v3]) σ)
 (a9 (zX K) fun J1=>xD 1 (au 1) fun bJ=>xO (ah 1 false [bJ] c1) fun v20=>xM (.int .i64 0) fun b5=>eY (eI K J1) [v4,v20,b5] [c1] σ)) σ) σ)) σ
def Eg:Spec:=fun args K σ=>match args with
  | [a0]=>PS a0 K σ
  | _=>False
noncomputable def NO:Cx:={ P:=Tryz.prog,T:=[(67,.none,Eh),(58,.none,Bi),(68,.write,Ed),(63,.none,gw),(69,.none,n_),(33,.write,uw),(70,.none,rK),(71,.none,th)],loc:=[(1,1),(19,1),(43,1)],eqt:=[],n:=55,aL:=[(8,[4,20,21],[1]),(1000013,[4],[1])] }
theorem Zf:cC NO Tryz.f40 (aP Tryz.f40) 1=Eg:=by
  funext args K σ
  rcases args with _|⟨a0,_|⟨b,r⟩⟩<;>kernel_rfl
theorem abi:Entry Tryz.prog 40 .write Eg:=
  entry (C:=NO) (aS.cons abj (aS.cons VP (aS.cons abf (aS.cons xS (aS.cons Hc (aS.cons VS (aS.cons RU (aS.cons R3 aS.nil)))))))) aG Tryz.func40 (by kernel_rfl) (by kernel_rfl) (by kernel_rfl) Zf
attribute [irreducible] vK zX gf eI PS Eg
def QE(a0 a1 a2 a3:Value)(K:KT)(σ:Mem):Prop:=xM (.bool false) fun v9=>xM a0 fun bm=>xM a1 fun bK=>xM a2 fun bh=>xM a3 fun bo=>xF (aM [(0,1),(1,1),(2,1),(3,1),(4,1),(5,1),(6,1)] [.int .i64 0,.int .i64 0,.int .i64 0,.int .i64 0,.int .i64 0,.int .i64 0,.int .i64 0] [0,1,2,3,4,5,6]) [bm,bK,bh,bo,.int .i64 100,.int .i64 600,.int .i64 3] fun bB=>xC (aH 7 [(au 10),bB] [.int .i64 0,.int .i64 0,.int .i64 0,.int .i64 0,.int .i64 0,.int .i64 0,.int .i64 0]) fun zE=>xO (ah 7 true [(au 10)] zE) fun bJ=>Eg [bJ] (fun v20 σ=>xM v20 fun bM=>xF (dH 0) [bM] fun b5=>xF (dH 1) [bM] fun b8=>xM b5 fun v11=>xM b8 fun bA=>xO (ah 7 true [(au 10)] zE) fun cu=>xM v11 fun cH=>xF (aM [(0,7),(7,1),(8,1)] [.int .i64 0,.int .i64 0,.int .i64 0,.int .i64 0,.int .i64 0,.int .i64 0,.int .i64 0,.pointer none,.int .i64 0] [0,1]) [cu,cH] fun cN=>xM bA fun dE=>xF (aq .eql .no) [dE,.int .i64 0] fun dN=>xC (aH 9 [(au 8),cN] [.int .i64 0,.int .i64 0,.int .i64 0,.int .i64 0,.int .i64 0,.int .i64 0,.int .i64 0,.pointer none,.int .i64 0]) fun c8=>xM dN fun v9=>xO (ah 9 true [(au 8)] c8) fun r8=>K (.tuple #[r8,v9]) σ) σ
def Bn:Spec:=fun args K σ=>match args with
  | [a0,a1,a2,a3]=>QE a0 a1 a2 a3 K σ
  | _=>False
noncomputable def OJ:Cx:={ P:=Tryz.prog,T:=[(40,.write,Eg)],loc:=[(8,8),(10,10)],eqt:=[],n:=28,aL:=[] }
theorem Z8:cC OJ Tryz.f9 (aP Tryz.f9) 4=Bn:=by
  funext args K σ
  rcases args with _|⟨a0,_|⟨a1,_|⟨a2,_|⟨a3,_|⟨b,r⟩⟩⟩⟩⟩<;>kernel_rfl
theorem V3:Entry Tryz.prog 9 .write Bn:=
  entry (C:=OJ) (aS.cons abi aS.nil) aG Tryz.func9 (by kernel_rfl) (by kernel_rfl) (by kernel_rfl) Z8
attribute [irreducible] QE Bn
def Qt(a0 a1:Value)(K:KT)(σ:Mem):Prop:=xM (.pointer none) fun v4=>xM a0 fun v5=>xM a1 fun v6=>xF (aM [(0,1),(1,1),(2,1),(3,5),(8,1),(9,1),(10,1),(11,2),(13,1),(14,4)] [.int .i64 0,.bool false,.int .i64 0,.int .i64 0,.int .u64 0,.int .i64 0,.int .i64 0,.bool false,.int .i64 0,.int .i64 0,.pointer none,.int .i64 0,.int .i64 0,.pointer none,.int .i64 0,.int .u64 0,.int .i64 0,.int .i64 0] [0,1]) [v5,v6] fun v7=>jD 18 [v7] (fun v8 σ=>xM v8 fun v4=>K v4 σ) σ
def CL:Spec:=fun args K σ=>match args with
  | [a0,a1]=>Qt a0 a1 K σ
  | _=>False
noncomputable def Ow:Cx:={ P:=Tryz.prog,T:=[],loc:=[],eqt:=[],n:=9,aL:=[] }
theorem ZV:cC Ow Tryz.f41 (aP Tryz.f41) 2=CL:=by
  funext args K σ
  rcases args with _|⟨a0,_|⟨a1,_|⟨b,r⟩⟩⟩<;>kernel_rfl
theorem abE:Entry Tryz.prog 41 .write CL:=
  entry (C:=Ow) aS.nil aG Tryz.func41 (by kernel_rfl) (by kernel_rfl) (by kernel_rfl) ZV
attribute [irreducible] Qt CL
def dX(K:KT)(σ:Mem):Prop:=xM (.int .i64 (-1)) fun v2=>K v2 σ
def fS(K:KT)(ts:List Value)(ls:List (List Value))(σ:Mem):Prop:=dX K σ
def dW(K:KT)(J1 R1:JT)(v0 v3 v4 bK:Value)(σ:Mem):Prop:=aV bK
 (xM v3 fun bh=>xM bh fun v2=>K v2 σ)
 (xF (aq .add .no) [v4,.int .i64 1] fun bo=>xM bo fun v4=>R1 [v0,v4] [] σ)
def fR(K:KT)(J1 R1:JT)(ts:List Value)(ls:List (List Value))(σ:Mem):Prop:=dW K J1 R1 (ts.getD 0 ar) (ts.getD 1 ar) (ts.getD 2 ar) (ts.getD 3 ar) σ
def bn(K:KT)(J1 R1:JT)(v0 v4:Value)(σ:Mem):Prop:=xF (aq .lss .no) [v4,.int .i64 4] fun v5=>aV v5
 (xM v4 fun v6=>xM v6 fun v3=>a9 (fR K J1 R1) fun J2=>xM v0 fun v7=>xF (aq .geq .no) [v7,.int .i64 1] fun v8=>xM v8 fun v9=>aV v9
 (xM v0 fun v10=>xM v3 fun v11=>xF (aq .shl .no) [.int .i64 2,v11] fun bA=>xF (aq .leq .no) [v10,bA] fun bm=>xF aB [.bool true,bm,.bool false] fun bK=>J2 [v0,v3,v4,bK] [] σ)
 (xF aB [.bool false,undef,.bool false] fun bK=>J2 [v0,v3,v4,bK] [] σ))
 (J1 [] [] σ)
def bt(K:KT)(J1 R1:JT)(ts:List Value)(ls:List (List Value))(σ:Mem):Prop:=bn K J1 R1 (ts.getD 0 ar) (ts.getD 1 ar) σ
def PZ(a0:Value)(K:KT)(σ:Mem):Prop:=xM (.int .i64 0) fun v2=>a9 (fS K) fun J1=>xM (.int .i64 0) fun v4=>eY (bt K J1) [a0,v4] [] σ
def pU:Spec:=fun args K σ=>match args with
  | [a0]=>PZ a0 K σ
  | _=>False
noncomputable def NV:Cx:={ P:=Tryz.prog,T:=[],loc:=[],eqt:=[],n:=17,aL:=[(3,[0,4],[]),(1000006,[0,3,4,14],[]),(1000008,[],[])] }
theorem Zm:cC NV Tryz.f36 (aP Tryz.f36) 1=pU:=by
  funext args K σ
  rcases args with _|⟨a0,_|⟨b,r⟩⟩<;>kernel_rfl
theorem Lu:Entry Tryz.prog 36 .write pU:=
  entry (C:=NV) aS.nil aG Tryz.func36 (by kernel_rfl) (by kernel_rfl) (by kernel_rfl) Zm
attribute [irreducible] dX fS dW fR bn bt PZ pU
def Qc(a0:Value)(K:KT)(σ:Mem):Prop:=xM (.int .i64 0) fun v2=>xM a0 fun v3=>xF (aq .eql .ptr) [v3,.pointer none] fun v4=>aV v4
 (xM (.int .i64 0) fun v2=>K v2 σ)
 (xM a0 fun v5=>xF ay [v5] fun v6=>xD 2 v6 fun v7=>aj 1 false [v7] (fun v8 σ=>xM v8 fun v2=>K v2 σ) σ)
def Ek:Spec:=fun args K σ=>match args with
  | [a0]=>Qc a0 K σ
  | _=>False
noncomputable def N9:Cx:={ P:=Tryz.prog,T:=[],loc:=[],eqt:=[(25,.ptr)],n:=9,aL:=[] }
theorem ZA:cC N9 Tryz.f47 (aP Tryz.f47) 1=Ek:=by
  funext args K σ
  rcases args with _|⟨a0,_|⟨b,r⟩⟩<;>kernel_rfl
theorem abp:Entry Tryz.prog 47 .read Ek:=
  entry (C:=N9) aS.nil aG Tryz.func47 (by kernel_rfl) (by kernel_rfl) (by kernel_rfl) ZA
attribute [irreducible] Qc Ek
def PV(a0:Value)(K:KT)(σ:Mem):Prop:=xC (bO 9 [a0] []) fun c1=>xM (.int .i64 0) fun v2=>xD 7 (au 1) fun v3=>xO (ah 1 false [v3] c1) fun v4=>Ek [v4] (fun v5 σ=>xM v5 fun v2=>K v2 σ) σ
def lX:Spec:=fun args K σ=>match args with
  | [a0]=>PV a0 K σ
  | _=>False
noncomputable def NR:Cx:={ P:=Tryz.prog,T:=[(47,.read,Ek)],loc:=[(1,1),(3,1)],eqt:=[],n:=6,aL:=[] }
theorem Zi:cC NR Tryz.f18 (aP Tryz.f18) 1=lX:=by
  funext args K σ
  rcases args with _|⟨a0,_|⟨b,r⟩⟩<;>kernel_rfl
theorem JB:Entry Tryz.prog 18 .read lX:=
  entry (C:=NR) (aS.cons abp aS.nil) aG Tryz.func18 (by kernel_rfl) (by kernel_rfl) (by kernel_rfl) Zi
attribute [irreducible] PV lX
def Qv(a0 a1 a2:Value)(K:KT)(σ:Mem):Prop:=xC (bO 9 [a1] []) fun c4=>xM a0 fun v6=>xM a2 fun v7=>xO (ah 9 true [(au 4)] c4) fun v8=>lX [v8] (fun v9 σ=>xF (aM [(0,1),(1,1),(2,1),(3,1)] [.int .i64 0,.int .u64 0,.int .i64 0,.int .i64 0] [0,3]) [v7,v9] fun v10=>xF ay [v6] fun v11=>xD 14 v11 fun bA=>ax 4 [bA,v10] (fun _v σ=>K (.tuple #[]) σ) σ) σ
def Bm:Spec:=fun args K σ=>match args with
  | [a0,a1,a2]=>Qv a0 a1 a2 K σ
  | _=>False
noncomputable def Oy:Cx:={ P:=Tryz.prog,T:=[(18,.read,lX)],loc:=[(4,4)],eqt:=[],n:=13,aL:=[] }
theorem ZX:cC Oy Tryz.f72 (aP Tryz.f72) 3=Bm:=by
  funext args K σ
  rcases args with _|⟨a0,_|⟨a1,_|⟨a2,_|⟨b,r⟩⟩⟩⟩<;>kernel_rfl
theorem abG:Entry Tryz.prog 72 .write Bm:=
  entry (C:=Oy) (aS.cons JB aS.nil) aG Tryz.func72 (by kernel_rfl) (by kernel_rfl) (by kernel_rfl) ZX
attribute [irreducible] Qv Bm
def Qg(a0 a1:Value)(K:KT)(σ:Mem):Prop:=xM a0 fun v4=>xF (aq .neq .ptr) [v4,.pointer none] fun v5=>aV v5
 (xM a0 fun v6=>xM a1 fun v7=>xF ay [v6] fun v8=>xD 3 v8 fun v9=>ax 1 [v9,v7] (fun _v σ=>K (.tuple #[]) σ) σ)
 (K (.tuple #[]) σ)
def tg:Spec:=fun args K σ=>match args with
  | [a0,a1]=>Qg a0 a1 K σ
  | _=>False
noncomputable def Oc:Cx:={ P:=Tryz.prog,T:=[],loc:=[],eqt:=[(25,.ptr)],n:=10,aL:=[] }
theorem ZE:cC Oc Tryz.f92 (aP Tryz.f92) 2=tg:=by
  funext args K σ
  rcases args with _|⟨a0,_|⟨a1,_|⟨b,r⟩⟩⟩<;>kernel_rfl
theorem Lv:Entry Tryz.prog 92 .write tg:=
  entry (C:=Oc) aS.nil aG Tryz.func92 (by kernel_rfl) (by kernel_rfl) (by kernel_rfl) ZE
attribute [irreducible] Qg tg
def Qe(a0 a1:Value)(K:KT)(σ:Mem):Prop:=xM (.int .u64 0) fun v4=>xM (.int .i64 0) fun v5=>xM a0 fun v6=>xM a1 fun v7=>ta [v6,v7] (fun v8 σ=>xF (mV .not) [v8] fun v9=>aV v9
 (xM (.int .u64 0) fun v4=>xM (.int .i64 2) fun v5=>K (.tuple #[v4,v5]) σ)
 (xM a0 fun v10=>xF ay [v10] fun v11=>xD 0 v11 fun bA=>aj 1 false [bA] (fun bm σ=>xM a1 fun bK=>xF (dx 1) [bm,bK] fun bh=>aj 1 false [bh] (fun bo σ=>xM bo fun v4=>xM (.int .i64 0) fun v5=>K (.tuple #[v4,v5]) σ) σ) σ)) σ
def El:Spec:=fun args K σ=>match args with
  | [a0,a1]=>Qe a0 a1 K σ
  | _=>False
noncomputable def N_:Cx:={ P:=Tryz.prog,T:=[(64,.write,ta)],loc:=[],eqt:=[],n:=17,aL:=[] }
theorem ZC:cC N_ Tryz.f106 (aP Tryz.f106) 2=El:=by
  funext args K σ
  rcases args with _|⟨a0,_|⟨a1,_|⟨b,r⟩⟩⟩<;>kernel_rfl
theorem abr:Entry Tryz.prog 106 .write El:=
  entry (C:=N_) (aS.cons Ls aS.nil) aG Tryz.func106 (by kernel_rfl) (by kernel_rfl) (by kernel_rfl) ZC
attribute [irreducible] Qe El
def PW(a0 a1:Value)(K:KT)(σ:Mem):Prop:=xC (bO 9 [a0] []) fun c2=>xM (.int .u64 0) fun v4=>xD 7 (au 2) fun v7=>xO (ah 1 false [v7] c2) fun v8=>xD 8 (au 2) fun v9=>xO (ah 1 false [v9] c2) fun v10=>tg [v8,v10] (fun v11 σ=>xD 7 (au 2) fun bm=>xO (ah 1 false [bm] c2) fun bK=>xM a1 fun bh=>El [bK,bh] (fun bo σ=>xM bo fun bA=>xF (dH 0) [bA] fun bB=>xF (dH 1) [bA] fun bM=>xM bB fun v5=>xM bM fun v6=>xM v5 fun bJ=>xM bJ fun v4=>K v4 σ) σ) σ
def cG:Spec:=fun args K σ=>match args with
  | [a0,a1]=>PW a0 a1 K σ
  | _=>False
noncomputable def NS:Cx:={ P:=Tryz.prog,T:=[(92,.write,tg),(106,.write,El)],loc:=[(2,2),(7,2),(9,2),(13,2)],eqt:=[],n:=20,aL:=[] }
theorem Zj:cC NS Tryz.f54 (aP Tryz.f54) 2=cG:=by
  funext args K σ
  rcases args with _|⟨a0,_|⟨a1,_|⟨b,r⟩⟩⟩<;>kernel_rfl
theorem ow:Entry Tryz.prog 54 .write cG:=
  entry (C:=NS) (aS.cons Lv (aS.cons abr aS.nil)) aG Tryz.func54 (by kernel_rfl) (by kernel_rfl) (by kernel_rfl) Zj
attribute [irreducible] PW cG
def O9(a0:Value)(K:KT)(σ:Mem):Prop:=xM (.int .i64 0) fun v2=>xM (.int .i64 0) fun v3=>xM a0 fun v4=>xF (aq .and .no) [v4,.int .u64 131071] fun v5=>xF (cZ .i64) [v5] fun v6=>xF (aq .sub .no) [v6,.int .i64 1] fun v7=>xM a0 fun v8=>xF (aq .shr .no) [v8,.int .u64 17] fun v9=>xF (aq .and .no) [v9,.int .u64 68719476735] fun v10=>xF (cZ .i64) [v10] fun v11=>xM v7 fun v2=>xM v11 fun v3=>K (.tuple #[v2,v3]) σ
def xe:Spec:=fun args K σ=>match args with
  | [a0]=>O9 a0 K σ
  | _=>False
noncomputable def M0:Cx:={ P:=Tryz.prog,T:=[],loc:=[],eqt:=[],n:=12,aL:=[] }
theorem Yy:cC M0 Tryz.f116 (aP Tryz.f116) 1=xe:=by
  funext args K σ
  rcases args with _|⟨a0,_|⟨b,r⟩⟩<;>kernel_rfl
theorem VC:Entry Tryz.prog 116 .none xe:=
  entry (C:=M0) aS.nil aG Tryz.func116 (by kernel_rfl) (by kernel_rfl) (by kernel_rfl) Yy
attribute [irreducible] O9 xe
def Qf(a0 a1 a2 a3:Value)(K:KT)(σ:Mem):Prop:=xM (.bool false) fun v8=>xM (.int .i64 0) fun v9=>xM a0 fun v10=>xM a1 fun v11=>ta [v10,v11] (fun bA σ=>xF (mV .not) [bA] fun bm=>aV bm
 (xM (.bool false) fun v8=>xM (.int .i64 2) fun v9=>K (.tuple #[v8,v9]) σ)
 (xM a0 fun bK=>xF ay [bK] fun bh=>xD 0 bh fun bo=>aj 1 false [bo] (fun bB σ=>xM a1 fun bM=>xF (dx 1) [bB,bM] fun bJ=>aj 1 false [bJ] (fun v20 σ=>xM a2 fun b5=>xF (aq .neq .no) [v20,b5] fun b8=>aV b8
 (xM (.bool false) fun v8=>xM (.int .i64 0) fun v9=>K (.tuple #[v8,v9]) σ)
 (xM a0 fun cu=>xM a1 fun cH=>xM a3 fun cN=>xk [cu,cH,cN] (fun dE σ=>xM (.bool true) fun v8=>xM (.int .i64 0) fun v9=>K (.tuple #[v8,v9]) σ) σ)) σ) σ)) σ
def Em:Spec:=fun args K σ=>match args with
  | [a0,a1,a2,a3]=>Qf a0 a1 a2 a3 K σ
  | _=>False
noncomputable def Oa:Cx:={ P:=Tryz.prog,T:=[(64,.write,ta),(65,.write,xk)],loc:=[],eqt:=[],n:=27,aL:=[] }
theorem ZD:cC Oa Tryz.f93 (aP Tryz.f93) 4=Em:=by
  funext args K σ
  rcases args with _|⟨a0,_|⟨a1,_|⟨a2,_|⟨a3,_|⟨b,r⟩⟩⟩⟩⟩<;>kernel_rfl
theorem abt:Entry Tryz.prog 93 .write Em:=
  entry (C:=Oa) (aS.cons Ls (aS.cons R2 aS.nil)) aG Tryz.func93 (by kernel_rfl) (by kernel_rfl) (by kernel_rfl) ZD
attribute [irreducible] Qf Em
def PX(a0 a1 a2 a3:Value)(K:KT)(σ:Mem):Prop:=xC (bO 9 [a0] []) fun c4=>xM (.bool false) fun v8=>xD 7 (au 4) fun v11=>xO (ah 1 false [v11] c4) fun bA=>xD 8 (au 4) fun bm=>xO (ah 1 false [bm] c4) fun bK=>tg [bA,bK] (fun bh σ=>xD 7 (au 4) fun bB=>xO (ah 1 false [bB] c4) fun bM=>xM a1 fun bJ=>xM a2 fun v20=>xM a3 fun b5=>Em [bM,bJ,v20,b5] (fun b8 σ=>xM b8 fun bo=>xF (dH 0) [bo] fun cu=>xF (dH 1) [bo] fun cH=>xM cu fun v9=>xM cH fun v10=>xM v9 fun cN=>xM cN fun v8=>K v8 σ) σ) σ
def fN:Spec:=fun args K σ=>match args with
  | [a0,a1,a2,a3]=>PX a0 a1 a2 a3 K σ
  | _=>False
noncomputable def NT:Cx:={ P:=Tryz.prog,T:=[(92,.write,tg),(93,.write,Em)],loc:=[(4,4),(11,4),(13,4),(17,4)],eqt:=[],n:=26,aL:=[] }
theorem Zk:cC NT Tryz.f49 (aP Tryz.f49) 4=fN:=by
  funext args K σ
  rcases args with _|⟨a0,_|⟨a1,_|⟨a2,_|⟨a3,_|⟨b,r⟩⟩⟩⟩⟩<;>kernel_rfl
theorem xT:Entry Tryz.prog 49 .write fN:=
  entry (C:=NT) (aS.cons Lv (aS.cons abt aS.nil)) aG Tryz.func49 (by kernel_rfl) (by kernel_rfl) (by kernel_rfl) Zk
attribute [irreducible] PX fN
def vI(K:KT)(v0:Value)(σ:Mem):Prop:=xM v0 fun rD=>xF ay [rD] fun sP=>xD 4 sP fun sO=>aj 1 false [sO] (fun tM σ=>xM tM fun v4=>K v4 σ) σ
def zV(K:KT)(ts:List Value)(ls:List (List Value))(σ:Mem):Prop:=vI K (ts.getD 0 ar) σ
def PK(a0 a1:Value)(K:KT)(σ:Mem):Prop:=xC (bO 9 [a1] []) fun c3=>xM (.bool false) fun v4=>a9 (zV K) fun J1=>xM a0 fun v7=>xF ay [v7] fun v8=>xD 0 v8 fun v9=>aj 1 false [v9] (fun v10 σ=>xF (aq .eql .no) [v10,.int .i64 0] fun fC=>xM fC fun fU=>aV fU
 (xM a0 fun fj=>xO (ah 9 true [(au 3)] c3) fun gL=>th [] (fun iC σ=>cG [gL,iC] (fun iF σ=>xF ay [fj] fun gZ=>xD 1 gZ fun gY=>ax 1 [gY,iF] (fun _v σ=>xM a0 fun iB=>xM a0 fun iA=>xF ay [iA] fun gX=>xD 1 gX fun gW=>aj 1 false [gW] (fun fB σ=>xe [fB] (fun gr σ=>xM gr fun gP=>xF (dH 0) [gP] fun e9=>xF (dH 1) [gP] fun fK=>xF ay [iB] fun gD=>xD 3 gD fun fh=>ax 1 [fh,e9] (fun _v σ=>xM a0 fun dY=>xF ay [dY] fun jo=>xD 0 jo fun jI=>ax 1 [jI,.int .i64 1] (fun _v σ=>xM a0 fun jH=>xF ay [jH] fun jN=>xD 3 jN fun jG=>aj 1 false [jG] (fun gn σ=>xF (aq .lss .no) [gn,.int .i64 0] fun gk=>xM gk fun v4=>K v4 σ) σ) σ) σ) σ) σ) σ) σ) σ)
 (xF (aq .eql .no) [v10,.int .i64 1] fun gj=>xM gj fun gC=>aV gC
 (xM a0 fun cQ=>xO (ah 9 true [(au 3)] c3) fun pd=>xD 0 (au 3) fun nH=>xO (ah 7 true [nH] c3) fun nZ=>xM a0 fun oN=>xF ay [oN] fun nY=>xD 3 nY fun nX=>aj 1 false [nX] (fun mH σ=>gw [nZ,mH] (fun rE σ=>xF (aq .add .no) [rE,.int .i64 1] fun sT=>cG [pd,sT] (fun pH σ=>xe [pH] (fun ui σ=>xM ui fun fT=>xF (dH 0) [fT] fun uh=>xF (dH 1) [fT] fun vc=>xF ay [cQ] fun ug=>xD 2 ug fun uf=>ax 1 [uf,uh] (fun _v σ=>xM a0 fun sS=>xF ay [sS] fun sR=>xD 0 sR fun sQ=>ax 1 [sQ,.int .i64 2] (fun _v σ=>J1 [a0] [] σ) σ) σ) σ) σ) σ) σ)
 (xM a0 fun bA=>xF ay [bA] fun bm=>xD 1 bm fun bK=>aj 1 false [bK] (fun bh σ=>xe [bh] (fun bo σ=>xM bo fun v11=>xF (dH 0) [v11] fun bB=>xF (dH 1) [v11] fun bM=>xM bB fun v5=>xM bM fun v6=>xM a0 fun bJ=>xF ay [bJ] fun v20=>xD 0 v20 fun b5=>ax 1 [b5,.int .i64 0] (fun _v σ=>xM a0 fun b8=>xO (ah 9 true [(au 3)] c3) fun cu=>th [] (fun cH σ=>xM a0 fun cN=>xF ay [cN] fun dE=>xD 1 dE fun dN=>aj 1 false [dN] (fun et σ=>xM a0 fun eW=>xF ay [eW] fun v30=>xD 2 v30 fun eT=>aj 1 false [eT] (fun dM σ=>xM v6 fun eR=>xF (aq .add .no) [eR,.int .i64 1] fun eQ=>rK [dM,eQ] (fun dK σ=>fN [cu,cH,et,dK] (fun dh σ=>xF ay [b8] fun fV=>xD 4 fV fun gu=>ax 1 [gu,dh] (fun _v σ=>J1 [a0] [] σ) σ) σ) σ) σ) σ) σ) σ) σ) σ))) σ
def Ef:Spec:=fun args K σ=>match args with
  | [a0,a1]=>PK a0 a1 K σ
  | _=>False
noncomputable def NH:Cx:={ P:=Tryz.prog,T:=[(71,.none,th),(54,.write,cG),(116,.none,xe),(63,.none,gw),(70,.none,rK),(49,.write,fN)],loc:=[(3,3),(71,3)],eqt:=[],n:=92,aL:=[(1000014,[0],[])] }
theorem Y':cC NH Tryz.f73 (aP Tryz.f73) 2=Ef:=by
  funext args K σ
  rcases args with _|⟨a0,_|⟨a1,_|⟨b,r⟩⟩⟩<;>kernel_rfl
theorem abh:Entry Tryz.prog 73 .write Ef:=
  entry (C:=NH) (aS.cons R3 (aS.cons ow (aS.cons VC (aS.cons xS (aS.cons RU (aS.cons xT aS.nil)))))) aG Tryz.func73 (by kernel_rfl) (by kernel_rfl) (by kernel_rfl) Y'
attribute [irreducible] vI zV PK Ef
def vr(K:KT)(v0 bA:Value)(σ:Mem):Prop:=aV bA
 (xM (.int .i64 0) fun v2=>xM (.bool false) fun v3=>K (.tuple #[v2,v3]) σ)
 (xM v0 fun bm=>xF ay [bm] fun bK=>xD 3 bK fun bh=>aj 1 false [bh] (fun bo σ=>xM bo fun v2=>xM (.bool true) fun v3=>K (.tuple #[v2,v3]) σ) σ)
def zL(K:KT)(ts:List Value)(ls:List (List Value))(σ:Mem):Prop:=vr K (ts.getD 0 ar) (ts.getD 1 ar) σ
def Pd(a0:Value)(K:KT)(σ:Mem):Prop:=xM (.int .i64 0) fun v2=>xM (.bool false) fun v3=>a9 (zL K) fun J1=>xM a0 fun v4=>xF (aq .eql .ptr) [v4,.pointer none] fun v5=>xM v5 fun v6=>aV v6
 (xF aB [.bool true,.bool true,undef] fun bA=>J1 [a0,bA] [] σ)
 (xM a0 fun v7=>xF ay [v7] fun v8=>xD 4 v8 fun v9=>aj 1 false [v9] (fun v10 σ=>xF (mV .not) [v10] fun v11=>xF aB [.bool false,.bool true,v11] fun bA=>J1 [a0,bA] [] σ) σ)
def D_:Spec:=fun args K σ=>match args with
  | [a0]=>Pd a0 K σ
  | _=>False
noncomputable def M4:Cx:={ P:=Tryz.prog,T:=[],loc:=[],eqt:=[(161,.ptr)],n:=17,aL:=[(1000003,[0,12],[])] }
theorem YB:cC M4 Tryz.f74 (aP Tryz.f74) 1=D_:=by
  funext args K σ
  rcases args with _|⟨a0,_|⟨b,r⟩⟩<;>kernel_rfl
theorem aa2:Entry Tryz.prog 74 .read D_:=
  entry (C:=M4) aS.nil aG Tryz.func74 (by kernel_rfl) (by kernel_rfl) (by kernel_rfl) YB
attribute [irreducible] vr zL Pd D_
def O_(a0:Value)(K:KT)(σ:Mem):Prop:=if true=true then(xC (mU [.int .i64 0,.int .i64 0,.int .i64 0,.int .i64 0] [] []) fun c2=>xM a0 fun v3=>xF (aq .and .no) [v3,.int .u64 7] fun v4=>xF (cZ .i64) [v4] fun v5=>xM a0 fun v6=>xF (aq .shr .no) [v6,.int .u64 3] fun v7=>xF (aq .and .no) [v7,.int .u64 1048575] fun v8=>xF (cZ .i64) [v8] fun v9=>xM a0 fun v10=>xF (aq .shr .no) [v10,.int .u64 23] fun v11=>xF (aq .and .no) [v11,.int .u64 65535] fun bA=>xF (cZ .i64) [bA] fun bm=>xM a0 fun bK=>xF (aq .shr .no) [bK,.int .u64 39] fun bh=>xF (aq .and .no) [bh,.int .u64 4194303] fun bo=>xF (cZ .i64) [bo] fun bB=>xF (aM [(0,1),(1,1),(2,1),(3,1)] [.int .i64 0,.int .i64 0,.int .i64 0,.int .i64 0] [0,1,2,3]) [v5,v9,bm,bB] fun bM=>xC (aH 4 [(au 2),bM] c2) fun c2=>xO (ah 4 true [(au 2)] c2) fun r2=>K r2 σ)else False
def fe:Spec:=fun args K σ=>match args with
  | [a0]=>O_ a0 K σ
  | _=>False
noncomputable def M1:Cx:={ P:=Tryz.prog,T:=[],loc:=[(2,2)],eqt:=[],n:=19,aL:=[] }
theorem Yz:cC M1 Tryz.f62 (aP Tryz.f62) 1=fe:=by
  funext args K σ
  rcases args with _|⟨a0,_|⟨b,r⟩⟩<;>kernel_rfl
theorem uz:Entry Tryz.prog 62 .none fe:=
  entry (C:=M1) aS.nil aG Tryz.func62 (by kernel_rfl) (by kernel_rfl) (by kernel_rfl) Yz
attribute [irreducible] O_ fe
def Pr(a0:Value)(K:KT)(σ:Mem):Prop:=xM (.pointer none) fun v2=>xM a0 fun v3=>xF (aM [(0,1),(1,1),(2,1),(3,1),(4,1),(5,2),(7,1)] [.int .i64 0,.int .i64 0,.int .u64 0,.int .i64 0,.int .u64 0,.int .i64 0,.int .i64 0,.bool false] [0]) [v3] fun v4=>jD 8 [v4] (fun v5 σ=>xM v5 fun v2=>K v2 σ) σ
def yz:Spec:=fun args K σ=>match args with
  | [a0]=>Pr a0 K σ
  | _=>False
noncomputable def Nf:Cx:={ P:=Tryz.prog,T:=[],loc:=[],eqt:=[],n:=6,aL:=[] }
theorem YM:cC Nf Tryz.f75 (aP Tryz.f75) 1=yz:=by
  funext args K σ
  rcases args with _|⟨a0,_|⟨b,r⟩⟩<;>kernel_rfl
theorem VH:Entry Tryz.prog 75 .write yz:=
  entry (C:=Nf) aS.nil aG Tryz.func75 (by kernel_rfl) (by kernel_rfl) (by kernel_rfl) YM
attribute [irreducible] Pr yz
def PO(a0:Value)(K:KT)(σ:Mem):Prop:=xM (.int .i64 0) fun v2=>xM a0 fun v3=>xF (aq .add .no) [.int .i64 2,v3] fun v4=>xM v4 fun v2=>K v2 σ
def yD:Spec:=fun args K σ=>match args with
  | [a0]=>PO a0 K σ
  | _=>False
noncomputable def NL:Cx:={ P:=Tryz.prog,T:=[],loc:=[],eqt:=[],n:=5,aL:=[] }
theorem Zc:cC NL Tryz.f35 (aP Tryz.f35) 1=yD:=by
  funext args K σ
  rcases args with _|⟨a0,_|⟨b,r⟩⟩<;>kernel_rfl
theorem VN:Entry Tryz.prog 35 .none yD:=
  entry (C:=NL) aS.nil aG Tryz.func35 (by kernel_rfl) (by kernel_rfl) (by kernel_rfl) Zc
attribute [irreducible] PO yD
def P0(a0 a1:Value)(K:KT)(σ:Mem):Prop:=xC (bO 7 [a0] []) fun c2=>xM (.int .i64 0) fun v4=>xD 0 (au 2) fun v5=>xO (ah 1 false [v5] c2) fun v6=>xF (aq .add .no) [.int .i64 6,v6] fun v7=>xD 1 (au 2) fun v8=>xO (ah 1 false [v8] c2) fun v9=>xF (aq .mul .no) [.int .i64 2,v9] fun v10=>xF (aq .add .no) [v7,v10] fun v11=>xM a1 fun bA=>xF (aq .mul .no) [.int .i64 3,bA] fun bm=>xF (aq .add .no) [v11,bm] fun bK=>xM bK fun v4=>K v4 σ
def ff:Spec:=fun args K σ=>match args with
  | [a0,a1]=>P0 a0 a1 K σ
  | _=>False
noncomputable def NW:Cx:={ P:=Tryz.prog,T:=[],loc:=[(2,2),(5,2),(8,2)],eqt:=[],n:=15,aL:=[] }
theorem Zn:cC NW Tryz.f23 (aP Tryz.f23) 2=ff:=by
  funext args K σ
  rcases args with _|⟨a0,_|⟨a1,_|⟨b,r⟩⟩⟩<;>kernel_rfl
theorem BN:Entry Tryz.prog 23 .none ff:=
  entry (C:=NW) aS.nil aG Tryz.func23 (by kernel_rfl) (by kernel_rfl) (by kernel_rfl) Zn
attribute [irreducible] P0 ff
def PI(a0:Value)(K:KT)(σ:Mem):Prop:=if true=true then(xC (mU [.int .i64 0,.int .i64 0,.int .i64 0,.int .i64 0] [] []) fun c2=>xM a0 fun v3=>xF (aq .and .no) [v3,.int .u64 3] fun v4=>xF (cZ .i64) [v4] fun v5=>xM a0 fun v6=>xF (aq .shr .no) [v6,.int .u64 2] fun v7=>xF (aq .and .no) [v7,.int .u64 63] fun v8=>xF (cZ .i64) [v8] fun v9=>xM a0 fun v10=>xF (aq .shr .no) [v10,.int .u64 8] fun v11=>xF (aq .and .no) [v11,.int .u64 1048575] fun bA=>xF (cZ .i64) [bA] fun bm=>xM a0 fun bK=>xF (aq .shr .no) [bK,.int .u64 28] fun bh=>xF (aq .and .no) [bh,.int .u64 68719476735] fun bo=>xF (cZ .i64) [bo] fun bB=>xF (aM [(0,1),(1,1),(2,1),(3,1)] [.int .i64 0,.int .i64 0,.int .i64 0,.int .i64 0] [0,1,2,3]) [v5,v9,bm,bB] fun bM=>xC (aH 4 [(au 2),bM] c2) fun c2=>xO (ah 4 true [(au 2)] c2) fun r2=>K r2 σ)else False
def iJ:Spec:=fun args K σ=>match args with
  | [a0]=>PI a0 K σ
  | _=>False
noncomputable def NF:Cx:={ P:=Tryz.prog,T:=[],loc:=[(2,2)],eqt:=[],n:=19,aL:=[] }
theorem Y8:cC NF Tryz.f22 (aP Tryz.f22) 1=iJ:=by
  funext args K σ
  rcases args with _|⟨a0,_|⟨b,r⟩⟩<;>kernel_rfl
theorem BM:Entry Tryz.prog 22 .none iJ:=
  entry (C:=NF) aS.nil aG Tryz.func22 (by kernel_rfl) (by kernel_rfl) (by kernel_rfl) Y8
attribute [irreducible] PI iJ
def PM(a0:Value)(K:KT)(σ:Mem):Prop:=xM (.int .i64 0) fun v2=>xM a0 fun v3=>xF (aq .shl .no) [.int .i64 2,v3] fun v4=>xF (aq .add .no) [.int .i64 1,v4] fun v5=>xM v5 fun v2=>K v2 σ
def nB:Spec:=fun args K σ=>match args with
  | [a0]=>PM a0 K σ
  | _=>False
noncomputable def NJ:Cx:={ P:=Tryz.prog,T:=[],loc:=[],eqt:=[],n:=6,aL:=[] }
theorem Za:cC NJ Tryz.f80 (aP Tryz.f80) 1=nB:=by
  funext args K σ
  rcases args with _|⟨a0,_|⟨b,r⟩⟩<;>kernel_rfl
theorem He:Entry Tryz.prog 80 .none nB:=
  entry (C:=NJ) aS.nil aG Tryz.func80 (by kernel_rfl) (by kernel_rfl) (by kernel_rfl) Za
attribute [irreducible] PM nB
def PF(a0:Value)(K:KT)(σ:Mem):Prop:=xC (bO 4 [a0] []) fun c1=>xM (.int .u64 0) fun v2=>xD 0 (au 1) fun v3=>xO (ah 1 false [v3] c1) fun v4=>ia [v4,.int .i64 3] (fun v5 σ=>xD 1 (au 1) fun v6=>xO (ah 1 false [v6] c1) fun v7=>ia [v7,.int .i64 63] (fun v8 σ=>xF (aq .shl .no) [v8,.int .u64 2] fun v9=>xF (aq .or .no) [v5,v9] fun v10=>xD 2 (au 1) fun v11=>xO (ah 1 false [v11] c1) fun bA=>ia [bA,.int .i64 1048575] (fun bm σ=>xF (aq .shl .no) [bm,.int .u64 8] fun bK=>xF (aq .or .no) [v10,bK] fun bh=>xD 3 (au 1) fun bo=>xO (ah 1 false [bo] c1) fun bB=>ia [bB,.int .i64 68719476735] (fun bM σ=>xF (aq .shl .no) [bM,.int .u64 28] fun bJ=>xF (aq .or .no) [bh,bJ] fun v20=>xM v20 fun v2=>K v2 σ) σ) σ) σ) σ
def oc:Spec:=fun args K σ=>match args with
  | [a0]=>PF a0 K σ
  | _=>False
noncomputable def NA:Cx:={ P:=Tryz.prog,T:=[(66,.none,ia)],loc:=[(1,1),(3,1),(6,1),(11,1),(16,1)],eqt:=[],n:=21,aL:=[] }
theorem Y4:cC NA Tryz.f91 (aP Tryz.f91) 1=oc:=by
  funext args K σ
  rcases args with _|⟨a0,_|⟨b,r⟩⟩<;>kernel_rfl
theorem Hd:Entry Tryz.prog 91 .none oc:=
  entry (C:=NA) (aS.cons Hb aS.nil) aG Tryz.func91 (by kernel_rfl) (by kernel_rfl) (by kernel_rfl) Y4
attribute [irreducible] PF oc
def Pn(a0 a1:Value)(K:KT)(σ:Mem):Prop:=xC (bO 9 [a1] []) fun c3=>xM (.bool false) fun v4=>xM a0 fun v7=>xF ay [v7] fun v8=>xD 4 v8 fun v9=>aj 1 false [v9] (fun v10 σ=>iJ [v10] (fun v11 σ=>xC (aH 4 [(au 5),v11] [.int .i64 0,.int .i64 0,.int .i64 0,.int .i64 0]) fun c5=>xD 2 (au 5) fun bA=>xO (ah 1 false [bA] c5) fun bm=>xM bm fun v6=>xD 2 (au 5) fun bK=>xO (ah 1 false [bK] c5) fun bh=>xM a0 fun bo=>xF ay [bo] fun bB=>xD 0 bB fun bM=>aj 1 false [bM] (fun bJ σ=>nB [bJ] (fun v20 σ=>xF (aq .add .no) [bh,v20] fun b5=>xD 2 (au 5) fun b8=>xC (aH 1 [b8,b5] c5) fun c5=>xM a0 fun cu=>xF ay [cu] fun cH=>xD 1 cH fun cN=>ax 1 [cN,.int .i64 0] (fun _v σ=>xO (ah 9 true [(au 3)] c3) fun dE=>xD 0 (au 3) fun dN=>xO (ah 7 true [dN] c3) fun et=>xM a0 fun eW=>xF ay [eW] fun v30=>xD 3 v30 fun eT=>aj 1 false [eT] (fun dM σ=>ff [et,dM] (fun eR σ=>xM a0 fun eQ=>xF ay [eQ] fun dK=>xD 4 dK fun dh=>aj 1 false [dh] (fun fV σ=>xO (ah 4 true [(au 5)] c5) fun gu=>oc [gu] (fun fU σ=>fN [dE,eR,fV,fU] (fun fC σ=>xF (mV .not) [fC] fun fj=>aV fj
 (xM (.bool false) fun v4=>K v4 σ)
 (xM a0 fun gL=>xM a0 fun iC=>xD 0 (au 3) fun iF=>xO (ah 7 true [iF] c3) fun gZ=>xM a0 fun gY=>xF ay [gY] fun gP=>xD 3 gP fun iB=>aj 1 false [iB] (fun iA σ=>pV [gZ,iA] (fun gX σ=>xM v6 fun gW=>xF (aq .add .no) [gX,gW] fun fB=>xM a0 fun gr=>xF ay [gr] fun e9=>xD 3 e9 fun fK=>aj 1 false [fK] (fun gD σ=>xF (aM [(0,1),(1,1)] [.int .i64 0,.int .i64 0] [0,1]) [fB,gD] fun fh=>xF ay [gL] fun dY=>xD 5 dY fun jo=>ax 2 [jo,fh] (fun _v σ=>xF ay [iC] fun jI=>xD 7 jI fun jH=>ax 1 [jH,.bool true] (fun _v σ=>xM (.bool true) fun v4=>K v4 σ) σ) σ) σ) σ) σ)) σ) σ) σ) σ) σ) σ) σ) σ) σ) σ
def GJ:Spec:=fun args K σ=>match args with
  | [a0,a1]=>Pn a0 a1 K σ
  | _=>False
noncomputable def Na:Cx:={ P:=Tryz.prog,T:=[(22,.none,iJ),(80,.none,nB),(23,.none,ff),(91,.none,oc),(49,.write,fN),(24,.none,pV)],loc:=[(3,3),(5,5),(12,5),(14,5),(22,5),(27,3),(44,3)],eqt:=[],n:=62,aL:=[] }
theorem YI:cC Na Tryz.f117 (aP Tryz.f117) 2=GJ:=by
  funext args K σ
  rcases args with _|⟨a0,_|⟨a1,_|⟨b,r⟩⟩⟩<;>kernel_rfl
theorem aa7:Entry Tryz.prog 117 .write GJ:=
  entry (C:=Na) (aS.cons BM (aS.cons He (aS.cons BN (aS.cons Hd (aS.cons xT (aS.cons JC aS.nil)))))) aG Tryz.func117 (by kernel_rfl) (by kernel_rfl) (by kernel_rfl) YI
attribute [irreducible] Pn GJ
def Pm(a0 a1:Value)(K:KT)(σ:Mem):Prop:=xC (bO 9 [a1] []) fun c3=>xM (.bool false) fun v4=>xM a0 fun v5=>xM a0 fun v6=>xM a0 fun v7=>xF ay [v7] fun v8=>xD 3 v8 fun v9=>aj 1 false [v9] (fun v10 σ=>xF (aq .add .no) [v10,.int .i64 1] fun v11=>xF ay [v5] fun bA=>xD 3 bA fun bm=>ax 1 [bm,v11] (fun _v σ=>xF ay [v6] fun bK=>xD 1 bK fun bh=>ax 1 [bh,.int .i64 3] (fun _v σ=>xM a0 fun bo=>xF ay [bo] fun bB=>xD 3 bB fun bM=>aj 1 false [bM] (fun bJ σ=>xD 0 (au 3) fun v20=>xD 2 v20 fun b5=>xO (ah 1 false [b5] c3) fun b8=>xF (aq .geq .no) [bJ,b8] fun cu=>xM cu fun v4=>K v4 σ) σ) σ) σ) σ
def CF:Spec:=fun args K σ=>match args with
  | [a0,a1]=>Pm a0 a1 K σ
  | _=>False
noncomputable def M_:Cx:={ P:=Tryz.prog,T:=[],loc:=[(3,3),(20,3),(21,3)],eqt:=[],n:=24,aL:=[] }
theorem YH:cC M_ Tryz.f118 (aP Tryz.f118) 2=CF:=by
  funext args K σ
  rcases args with _|⟨a0,_|⟨a1,_|⟨b,r⟩⟩⟩<;>kernel_rfl
theorem aa6:Entry Tryz.prog 118 .write CF:=
  entry (C:=M_) aS.nil aG Tryz.func118 (by kernel_rfl) (by kernel_rfl) (by kernel_rfl) YH
attribute [irreducible] Pm CF
def Po(a0:Value)(K:KT)(σ:Mem):Prop:=xM (.int .u64 0) fun v2=>xM a0 fun v3=>xF ay [v3] fun v4=>xD 0 v4 fun v5=>aj 1 false [v5] (fun v6 σ=>xM a0 fun v7=>xF ay [v7] fun v8=>xD 4 v8 fun v9=>aj 1 false [v9] (fun v10 σ=>iJ [v10] (fun v11 σ=>xF (b7 3 1 false) [v11] fun bA=>xF (aq .add .no) [bA,.int .i64 1] fun bm=>xF (aM [(0,1),(1,1),(2,1),(3,1)] [.int .i64 0,.int .i64 0,.int .i64 0,.int .i64 0] [0,1,3]) [.int .i64 1,v6,bm] fun bK=>oc [bK] (fun bh σ=>xM bh fun v2=>K v2 σ) σ) σ) σ) σ
def CG:Spec:=fun args K σ=>match args with
  | [a0]=>Po a0 K σ
  | _=>False
noncomputable def Nb:Cx:={ P:=Tryz.prog,T:=[(22,.none,iJ),(91,.none,oc)],loc:=[],eqt:=[],n:=16,aL:=[] }
theorem YJ:cC Nb Tryz.f119 (aP Tryz.f119) 1=CG:=by
  funext args K σ
  rcases args with _|⟨a0,_|⟨b,r⟩⟩<;>kernel_rfl
theorem aa8:Entry Tryz.prog 119 .read CG:=
  entry (C:=Nb) (aS.cons BM (aS.cons Hd aS.nil)) aG Tryz.func119 (by kernel_rfl) (by kernel_rfl) (by kernel_rfl) YJ
attribute [irreducible] Po CG
def vA(K:KT)(σ:Mem):Prop:=xM (.bool false) fun v4=>K v4 σ
def zO(K:KT)(ts:List Value)(ls:List (List Value))(σ:Mem):Prop:=vA K σ
def vz(K:KT)(J1:JT)(v0 e_:Value)(σ:Mem):Prop:=aV e_
 (xM v0 fun g_=>xM v0 fun g8=>xF ay [g_] fun iZ=>xD 3 iZ fun jO=>ax 1 [jO,.int .i64 0] (fun _v σ=>xF ay [g8] fun g7=>xD 1 g7 fun fI=>ax 1 [fI,.int .i64 3] (fun _v σ=>J1 [] [] σ) σ) σ)
 (J1 [] [] σ)
def zN(K:KT)(J1:JT)(ts:List Value)(ls:List (List Value))(σ:Mem):Prop:=vz K J1 (ts.getD 0 ar) (ts.getD 1 ar) σ
def Pp(a0 a1:Value)(K:KT)(σ:Mem):Prop:=xC (bO 9 [a1] []) fun c3=>xM (.bool false) fun v4=>a9 (zO K) fun J1=>xM a0 fun v7=>xF ay [v7] fun v8=>xD 1 v8 fun v9=>aj 1 false [v9] (fun v10 σ=>xF (aq .eql .no) [v10,.int .i64 0] fun dh=>xM dh fun dK=>aV dK
 (xM a0 fun fV=>xO (ah 9 true [(au 3)] c3) fun gu=>xM a0 fun fU=>xF ay [fU] fun fC=>xD 0 fC fun fj=>aj 1 false [fj] (fun gL σ=>yD [gL] (fun iC σ=>cG [gu,iC] (fun iF σ=>xF ay [fV] fun gZ=>xD 2 gZ fun gY=>ax 1 [gY,iF] (fun _v σ=>xM a0 fun gP=>xM a0 fun iB=>xM a0 fun iA=>xF ay [iA] fun gX=>xD 2 gX fun gW=>aj 1 false [gW] (fun fB σ=>xF (cZ .i64) [fB] fun gr=>xF (aq .sub .no) [gr,.int .i64 1] fun e9=>xF ay [gP] fun fK=>xD 3 fK fun gD=>ax 1 [gD,e9] (fun _v σ=>xF ay [iB] fun fh=>xD 1 fh fun dY=>ax 1 [dY,.int .i64 1] (fun _v σ=>xM a0 fun jo=>xF ay [jo] fun jI=>xD 3 jI fun jH=>aj 1 false [jH] (fun jN σ=>xF (aq .lss .no) [jN,.int .i64 0] fun jG=>aV jG
 (xM a0 fun gn=>xM a0 fun gk=>xF ay [gn] fun gC=>xD 3 gC fun gj=>ax 1 [gj,.int .i64 0] (fun _v σ=>xF ay [gk] fun fT=>xD 1 fT fun cQ=>ax 1 [cQ,.int .i64 3] (fun _v σ=>J1 [] [] σ) σ) σ)
 (J1 [] [] σ)) σ) σ) σ) σ) σ) σ) σ) σ)
 (xF (aq .eql .no) [v10,.int .i64 1] fun nH=>xM nH fun pd=>aV pd
 (xM a0 fun nZ=>xO (ah 9 true [(au 3)] c3) fun oN=>xD 0 (au 3) fun nY=>xO (ah 7 true [nY] c3) fun nX=>xM a0 fun mH=>xF ay [mH] fun rE=>xD 3 rE fun sT=>aj 1 false [sT] (fun pH σ=>ff [nX,pH] (fun ui σ=>cG [oN,ui] (fun uh σ=>xF ay [nZ] fun vc=>xD 4 vc fun ug=>ax 1 [ug,uh] (fun _v σ=>xM a0 fun uf=>xF ay [uf] fun sS=>xD 4 sS fun sR=>aj 1 false [sR] (fun sQ σ=>iJ [sQ] (fun rD σ=>xC (aH 4 [(au 5),rD] [.int .i64 0,.int .i64 0,.int .i64 0,.int .i64 0]) fun c5=>xM a0 fun sP=>xF ay [sP] fun sO=>xD 1 sO fun tM=>ax 1 [tM,.int .i64 2] (fun _v σ=>a9 (zN K J1) fun J2=>xD 0 (au 5) fun tL=>xO (ah 1 false [tL] c5) fun va=>xF (aq .neq .no) [va,.int .i64 1] fun tK=>xM tK fun ue=>aV ue
 (xF aB [.bool true,.bool true,undef] fun jQ=>xM jQ fun jP=>aV jP
 (xF aB [.bool true,.bool true,undef] fun e_=>J2 [a0,e_] [] σ)
 (xD 2 (au 5) fun kx=>xO (ah 1 false [kx] c5) fun jw=>xM a0 fun j7=>xF ay [j7] fun j6=>xD 0 j6 fun kP=>aj 1 false [kP] (fun h_ σ=>nB [h_] (fun iI σ=>xF (aq .add .no) [jw,iI] fun h9=>xD 0 (au 3) fun hZ=>xD 3 hZ fun hY=>xO (ah 1 false [hY] c3) fun hH=>xF (aq .gtr .no) [h9,hH] fun iH=>xF aB [.bool false,.bool true,iH] fun e_=>J2 [a0,e_] [] σ) σ) σ))
 (xD 1 (au 5) fun wP=>xO (ah 1 false [wP] c5) fun wO=>xM a0 fun wN=>xF ay [wN] fun wM=>xD 0 wM fun i_=>aj 1 false [i_] (fun lU σ=>xF (aq .neq .no) [wO,lU] fun ky=>xF aB [.bool false,.bool true,ky] fun jQ=>xM jQ fun jP=>aV jP
 (xF aB [.bool true,.bool true,undef] fun e_=>J2 [a0,e_] [] σ)
 (xD 2 (au 5) fun kx=>xO (ah 1 false [kx] c5) fun jw=>xM a0 fun j7=>xF ay [j7] fun j6=>xD 0 j6 fun kP=>aj 1 false [kP] (fun h_ σ=>nB [h_] (fun iI σ=>xF (aq .add .no) [jw,iI] fun h9=>xD 0 (au 3) fun hZ=>xD 3 hZ fun hY=>xO (ah 1 false [hY] c3) fun hH=>xF (aq .gtr .no) [h9,hH] fun iH=>xF aB [.bool false,.bool true,iH] fun e_=>J2 [a0,e_] [] σ) σ) σ)) σ)) σ) σ) σ) σ) σ) σ) σ)
 (xF (aq .eql .no) [v10,.int .i64 2] fun fG=>xM fG fun fH=>aV fH
 (xM a0 fun fk=>xO (ah 9 true [(au 3)] c3) fun fF=>GJ [fk,fF] (fun eA σ=>xM eA fun v4=>K v4 σ) σ)
 (xF (aq .eql .no) [v10,.int .i64 3] fun fD=>xM fD fun fE=>aV fE
 (xM a0 fun iG=>xO (ah 9 true [(au 3)] c3) fun gM=>xD 0 (au 3) fun iY=>xO (ah 7 true [iY] c3) fun iX=>xM a0 fun iW=>xF ay [iW] fun iV=>xD 3 iV fun iU=>aj 1 false [iU] (fun iT σ=>ff [iX,iT] (fun jv σ=>cG [gM,jv] (fun lS σ=>xF ay [iG] fun mK=>xD 4 mK fun mJ=>ax 1 [mJ,lS] (fun _v σ=>xM a0 fun mI=>xF ay [mI] fun kv=>xD 4 kv fun pR=>aj 1 false [pR] (fun rG σ=>iJ [rG] (fun pQ σ=>xF (b7 0 1 false) [pQ] fun pP=>xF (aq .neq .no) [pP,.int .i64 0] fun pN=>aV pN
 (xM a0 fun pM=>xO (ah 9 true [(au 3)] c3) fun pL=>CF [pM,pL] (fun pK σ=>xM pK fun v4=>K v4 σ) σ)
 (xM a0 fun rF=>xF ay [rF] fun pJ=>xD 1 pJ fun sU=>ax 1 [sU,.int .i64 4] (fun _v σ=>J1 [] [] σ) σ)) σ) σ) σ) σ) σ) σ)
 (xF (aq .eql .no) [v10,.int .i64 4] fun w8=>xM w8 fun w9=>aV w9
 (xO (ah 9 true [(au 3)] c3) fun w7=>xD 0 (au 3) fun wZ=>xO (ah 7 true [wZ] c3) fun wY=>xM a0 fun wX=>xF ay [wX] fun wW=>xD 3 wW fun wV=>aj 1 false [wV] (fun wU σ=>ff [wY,wU] (fun pI σ=>xM a0 fun wT=>xF ay [wT] fun wR=>xD 4 wR fun AY=>aj 1 false [AY] (fun AX σ=>xM a0 fun AW=>CG [AW] (fun AV σ=>fN [w7,pI,AX,AV] (fun AU σ=>xF (mV .not) [AU] fun AT=>aV AT
 (xM a0 fun AS=>xO (ah 9 true [(au 3)] c3) fun AR=>CF [AS,AR] (fun AQ σ=>xM AQ fun v4=>K v4 σ) σ)
 (xM a0 fun AP=>xF ay [AP] fun Cq=>xD 1 Cq fun AO=>ax 1 [AO,.int .i64 5] (fun _v σ=>J1 [] [] σ) σ)) σ) σ) σ) σ) σ)
 (xF (aq .eql .no) [v10,.int .i64 5] fun AM=>xM AM fun AN=>aV AN
 (xM a0 fun AL=>xF ay [AL] fun AK=>xD 1 AK fun wQ=>ax 1 [wQ,.int .i64 6] (fun _v σ=>xO (ah 9 true [(au 3)] c3) fun AJ=>xM a0 fun AI=>xF ay [AI] fun yw=>xD 0 yw fun AH=>aj 1 false [AH] (fun AG σ=>yD [AG] (fun AF σ=>xM a0 fun AE=>xF ay [AE] fun AD=>xD 2 AD fun Cp=>aj 1 false [Cp] (fun AB σ=>xM a0 fun AA=>xF ay [AA] fun Az=>xD 3 Az fun Cm=>aj 1 false [Cm] (fun Ay σ=>xF (aq .add .no) [Ay,.int .i64 1] fun Ax=>xF (cZ .u64) [Ax] fun Av=>fN [AJ,AF,AB,Av] (fun Au σ=>aV Au
 (xM a0 fun At=>xF ay [At] fun As=>xD 1 As fun Aq=>ax 1 [Aq,.int .i64 0] (fun _v σ=>J1 [] [] σ) σ)
 (J1 [] [] σ)) σ) σ) σ) σ) σ) σ)
 (xM a0 fun v11=>xF ay [v11] fun bA=>xD 4 bA fun bm=>aj 1 false [bm] (fun bK σ=>iJ [bK] (fun bh σ=>xF (b7 3 1 false) [bh] fun bo=>xF (aq .add .no) [bo,.int .i64 2] fun bB=>xF (aM [(0,1),(1,1),(2,1),(3,1)] [.int .i64 0,.int .i64 0,.int .i64 0,.int .i64 0] [3]) [bB] fun bM=>oc [bM] (fun bJ σ=>xM bJ fun v6=>xO (ah 9 true [(au 3)] c3) fun v20=>xD 0 (au 3) fun b5=>xO (ah 7 true [b5] c3) fun b8=>xM a0 fun cu=>xF ay [cu] fun cH=>xD 3 cH fun cN=>aj 1 false [cN] (fun dE σ=>ff [b8,dE] (fun dN σ=>xM a0 fun et=>CG [et] (fun eW σ=>xM v6 fun v30=>fN [v20,dN,eW,v30] (fun eT σ=>xM a0 fun dM=>xF ay [dM] fun eR=>xD 1 eR fun eQ=>ax 1 [eQ,.int .i64 0] (fun _v σ=>J1 [] [] σ) σ) σ) σ) σ) σ) σ) σ) σ))))))) σ
def Bc:Spec:=fun args K σ=>match args with
  | [a0,a1]=>Pp a0 a1 K σ
  | _=>False
noncomputable def Nc:Cx:={ P:=Tryz.prog,T:=[(35,.none,yD),(54,.write,cG),(23,.none,ff),(22,.none,iJ),(80,.none,nB),(117,.write,GJ),(118,.write,CF),(119,.read,CG),(49,.write,fN),(91,.none,oc)],loc:=[(3,3),(5,5),(21,3),(74,3),(92,5),(96,5),(105,5),(113,3),(114,3),(133,3),(159,3)],eqt:=[],n:=205,aL:=[(1000016,[0,117],[]),(1000032,[],[])] }
theorem YK:cC Nc Tryz.f76 (aP Tryz.f76) 2=Bc:=by
  funext args K σ
  rcases args with _|⟨a0,_|⟨a1,_|⟨b,r⟩⟩⟩<;>kernel_rfl
theorem VF:Entry Tryz.prog 76 .write Bc:=
  entry (C:=Nc) (aS.cons VN (aS.cons ow (aS.cons BN (aS.cons BM (aS.cons He (aS.cons aa7 (aS.cons aa6 (aS.cons aa8 (aS.cons xT (aS.cons Hd aS.nil)))))))))) aG Tryz.func76 (by kernel_rfl) (by kernel_rfl) (by kernel_rfl) YK
attribute [irreducible] vA zO vz zN Pp Bc
def vB(K:KT)(v0 bA:Value)(c2:List Value)(σ:Mem):Prop:=aV bA
 (xF (aM [(0,1),(1,1)] [.int .i64 0,.int .i64 0] []) [] fun bm=>xC (aH 2 [(au 2),bm] c2) fun c2=>xM (.bool false) fun v3=>xO (ah 2 true [(au 2)] c2) fun r2=>K (.tuple #[r2,v3]) σ)
 (xM v0 fun bK=>xF ay [bK] fun bh=>xD 5 bh fun bo=>aj 2 true [bo] (fun bB σ=>xC (aH 2 [(au 2),bB] c2) fun c2=>xM (.bool true) fun v3=>xO (ah 2 true [(au 2)] c2) fun r2=>K (.tuple #[r2,v3]) σ) σ)
def zP(K:KT)(ts:List Value)(ls:List (List Value))(σ:Mem):Prop:=vB K (ts.getD 0 ar) (ts.getD 1 ar) (ls.getD 0 []) σ
def Pq(a0:Value)(K:KT)(σ:Mem):Prop:=xM (.bool false) fun v3=>a9 (zP K) fun J1=>xM a0 fun v4=>xF (aq .eql .ptr) [v4,.pointer none] fun v5=>xM v5 fun v6=>aV v6
 (xF aB [.bool true,.bool true,undef] fun bA=>J1 [a0,bA] [[.int .i64 0,.int .i64 0]] σ)
 (xM a0 fun v7=>xF ay [v7] fun v8=>xD 7 v8 fun v9=>aj 1 false [v9] (fun v10 σ=>xF (mV .not) [v10] fun v11=>xF aB [.bool false,.bool true,v11] fun bA=>J1 [a0,bA] [[.int .i64 0,.int .i64 0]] σ) σ)
def Bd:Spec:=fun args K σ=>match args with
  | [a0]=>Pq a0 K σ
  | _=>False
noncomputable def Nd:Cx:={ P:=Tryz.prog,T:=[],loc:=[(2,2)],eqt:=[(119,.ptr)],n:=18,aL:=[(1000003,[0,12],[2])] }
theorem YL:cC Nd Tryz.f77 (aP Tryz.f77) 1=Bd:=by
  funext args K σ
  rcases args with _|⟨a0,_|⟨b,r⟩⟩<;>kernel_rfl
theorem VG:Entry Tryz.prog 77 .read Bd:=
  entry (C:=Nd) aS.nil aG Tryz.func77 (by kernel_rfl) (by kernel_rfl) (by kernel_rfl) YL
attribute [irreducible] vB zP Pq Bd
def Pe(a0:Value)(K:KT)(σ:Mem):Prop:=xM (.pointer none) fun v2=>xM a0 fun v3=>xF (aM [(0,1),(1,1),(2,1)] [.int .i64 0,.int .i64 0,.int .u64 0] [1]) [v3] fun v4=>jD 3 [v4] (fun v5 σ=>xM v5 fun v2=>K v2 σ) σ
def xf:Spec:=fun args K σ=>match args with
  | [a0]=>Pe a0 K σ
  | _=>False
noncomputable def M5:Cx:={ P:=Tryz.prog,T:=[],loc:=[],eqt:=[],n:=6,aL:=[] }
theorem YC:cC M5 Tryz.f78 (aP Tryz.f78) 1=xf:=by
  funext args K σ
  rcases args with _|⟨a0,_|⟨b,r⟩⟩<;>kernel_rfl
theorem VD:Entry Tryz.prog 78 .write xf:=
  entry (C:=M5) aS.nil aG Tryz.func78 (by kernel_rfl) (by kernel_rfl) (by kernel_rfl) YC
attribute [irreducible] Pe xf
def Qh(a0 a1 a2:Value)(K:KT)(σ:Mem):Prop:=xM (.int .u64 0) fun v6=>xM (.int .i64 0) fun v7=>xM a0 fun v9=>xM a1 fun v10=>ta [v9,v10] (fun v11 σ=>xF (mV .not) [v11] fun bA=>aV bA
 (xM (.int .u64 0) fun v6=>xM (.int .i64 2) fun v7=>K (.tuple #[v6,v7]) σ)
 (xM a0 fun bm=>xF ay [bm] fun bK=>xD 0 bK fun bh=>aj 1 false [bh] (fun bo σ=>xM a1 fun bB=>xF (dx 1) [bo,bB] fun bM=>aj 1 false [bM] (fun bJ σ=>xM bJ fun v8=>xM a0 fun v20=>xM a1 fun b5=>xM v8 fun b8=>xM a2 fun cu=>xF (aq .add .no) [b8,cu] fun cH=>xk [v20,b5,cH] (fun cN σ=>xM v8 fun dE=>xM dE fun v6=>xM (.int .i64 0) fun v7=>K (.tuple #[v6,v7]) σ) σ) σ) σ)) σ
def En:Spec:=fun args K σ=>match args with
  | [a0,a1,a2]=>Qh a0 a1 a2 K σ
  | _=>False
noncomputable def Od:Cx:={ P:=Tryz.prog,T:=[(64,.write,ta),(65,.write,xk)],loc:=[],eqt:=[],n:=27,aL:=[] }
theorem ZF:cC Od Tryz.f120 (aP Tryz.f120) 3=En:=by
  funext args K σ
  rcases args with _|⟨a0,_|⟨a1,_|⟨a2,_|⟨b,r⟩⟩⟩⟩<;>kernel_rfl
theorem abu:Entry Tryz.prog 120 .write En:=
  entry (C:=Od) (aS.cons Ls (aS.cons R2 aS.nil)) aG Tryz.func120 (by kernel_rfl) (by kernel_rfl) (by kernel_rfl) ZF
attribute [irreducible] Qh En
def PY(a0 a1 a2:Value)(K:KT)(σ:Mem):Prop:=xC (bO 9 [a0] []) fun c3=>xD 7 (au 3) fun v6=>xO (ah 1 false [v6] c3) fun v7=>xD 8 (au 3) fun v8=>xO (ah 1 false [v8] c3) fun v9=>tg [v7,v9] (fun v10 σ=>xD 7 (au 3) fun v11=>xO (ah 1 false [v11] c3) fun bA=>xM a1 fun bm=>xM a2 fun bK=>xF (cZ .u64) [bK] fun bh=>En [bA,bm,bh] (fun bo σ=>K (.tuple #[]) σ) σ) σ
def uv:Spec:=fun args K σ=>match args with
  | [a0,a1,a2]=>PY a0 a1 a2 K σ
  | _=>False
noncomputable def NU:Cx:={ P:=Tryz.prog,T:=[(92,.write,tg),(120,.write,En)],loc:=[(3,3),(6,3),(8,3),(11,3)],eqt:=[],n:=17,aL:=[] }
theorem Zl:cC NU Tryz.f79 (aP Tryz.f79) 3=uv:=by
  funext args K σ
  rcases args with _|⟨a0,_|⟨a1,_|⟨a2,_|⟨b,r⟩⟩⟩⟩<;>kernel_rfl
theorem R0:Entry Tryz.prog 79 .write uv:=
  entry (C:=NU) (aS.cons Lv (aS.cons abu aS.nil)) aG Tryz.func79 (by kernel_rfl) (by kernel_rfl) (by kernel_rfl) Zl
attribute [irreducible] PY uv
def vF(K:KT)(v3:Value)(σ:Mem):Prop:=xM v3 fun dE=>xM dE fun v2=>K v2 σ
def zS(K:KT)(ts:List Value)(ls:List (List Value))(σ:Mem):Prop:=vF K (ts.getD 0 ar) σ
def PD(a0:Value)(K:KT)(σ:Mem):Prop:=xC (bO 5 [a0] []) fun c1=>xM (.int .u64 0) fun v2=>xD 0 (au 1) fun v4=>xO (ah 1 false [v4] c1) fun v5=>ia [v5,.int .i64 3] (fun v6 σ=>xD 1 (au 1) fun v7=>xO (ah 1 false [v7] c1) fun v8=>ia [v8,.int .i64 65535] (fun v9 σ=>xF (aq .shl .no) [v9,.int .u64 2] fun v10=>xF (aq .or .no) [v6,v10] fun v11=>xD 2 (au 1) fun bA=>xO (ah 1 false [bA] c1) fun bm=>ia [bm,.int .i64 65535] (fun bK σ=>xF (aq .shl .no) [bK,.int .u64 18] fun bh=>xF (aq .or .no) [v11,bh] fun bo=>xD 3 (au 1) fun bB=>xO (ah 1 false [bB] c1) fun bM=>ia [bM,.int .i64 65535] (fun bJ σ=>xF (aq .shl .no) [bJ,.int .u64 34] fun v20=>xF (aq .or .no) [bo,v20] fun b5=>xM b5 fun v3=>a9 (zS K) fun J1=>xD 4 (au 1) fun b8=>xO (ah 1 false [b8] c1) fun cu=>aV cu
 (xM v3 fun cH=>xF (aq .or .no) [cH,.int .u64 1125899906842624] fun cN=>xM cN fun v3=>J1 [v3] [] σ)
 (J1 [v3] [] σ)) σ) σ) σ) σ
def Bf:Spec:=fun args K σ=>match args with
  | [a0]=>PD a0 K σ
  | _=>False
noncomputable def Ny:Cx:={ P:=Tryz.prog,T:=[(66,.none,ia)],loc:=[(1,1),(4,1),(7,1),(12,1),(17,1),(22,1)],eqt:=[],n:=27,aL:=[(1000005,[3],[])] }
theorem Y2:cC Ny Tryz.f34 (aP Tryz.f34) 1=Bf:=by
  funext args K σ
  rcases args with _|⟨a0,_|⟨b,r⟩⟩<;>kernel_rfl
theorem VK:Entry Tryz.prog 34 .none Bf:=
  entry (C:=Ny) (aS.cons Hb aS.nil) aG Tryz.func34 (by kernel_rfl) (by kernel_rfl) (by kernel_rfl) Y2
attribute [irreducible] vF zS PD Bf
def Qu(a0 a1:Value)(K:KT)(σ:Mem):Prop:=xM (.int .u64 0) fun v4=>xM a1 fun v5=>xM a0 fun v6=>xF ay [v6] fun v7=>xD 0 v7 fun v8=>aj 1 false [v8] (fun v9 σ=>xM a0 fun v10=>xF ay [v10] fun v11=>xD 8 v11 fun bA=>aj 1 false [bA] (fun bm σ=>xM a0 fun bK=>xF ay [bK] fun bh=>xD 9 bh fun bo=>aj 1 false [bo] (fun bB σ=>xM a0 fun bM=>xF ay [bM] fun bJ=>xD 1 bJ fun v20=>aj 1 false [v20] (fun b5 σ=>xF (aM [(0,1),(1,1),(2,1),(3,1),(4,1)] [.int .i64 0,.int .i64 0,.int .i64 0,.int .i64 0,.bool false] [0,1,2,3,4]) [v5,v9,bm,bB,b5] fun b8=>Bf [b8] (fun cu σ=>xM cu fun v4=>K v4 σ) σ) σ) σ) σ) σ
def CM:Spec:=fun args K σ=>match args with
  | [a0,a1]=>Qu a0 a1 K σ
  | _=>False
noncomputable def Ox:Cx:={ P:=Tryz.prog,T:=[(34,.none,Bf)],loc:=[],eqt:=[],n:=24,aL:=[] }
theorem ZW:cC Ox Tryz.f81 (aP Tryz.f81) 2=CM:=by
  funext args K σ
  rcases args with _|⟨a0,_|⟨a1,_|⟨b,r⟩⟩⟩<;>kernel_rfl
theorem abF:Entry Tryz.prog 81 .read CM:=
  entry (C:=Ox) (aS.cons VK aS.nil) aG Tryz.func81 (by kernel_rfl) (by kernel_rfl) (by kernel_rfl) ZW
attribute [irreducible] Qu CM
def PU(a0 a1 a2:Value)(K:KT)(σ:Mem):Prop:=xC (bO 9 [a0] []) fun c3=>xD 7 (au 3) fun v6=>xO (ah 1 false [v6] c3) fun v7=>xD 8 (au 3) fun v8=>xO (ah 1 false [v8] c3) fun v9=>tg [v7,v9] (fun v10 σ=>xD 7 (au 3) fun v11=>xO (ah 1 false [v11] c3) fun bA=>xM a1 fun bm=>xM a2 fun bK=>uw [bA,bm,bK] (fun bh σ=>K (.tuple #[]) σ) σ) σ
def ie:Spec:=fun args K σ=>match args with
  | [a0,a1,a2]=>PU a0 a1 a2 K σ
  | _=>False
noncomputable def NQ:Cx:={ P:=Tryz.prog,T:=[(92,.write,tg),(33,.write,uw)],loc:=[(3,3),(6,3),(8,3),(11,3)],eqt:=[],n:=16,aL:=[] }
theorem Zh:cC NQ Tryz.f56 (aP Tryz.f56) 3=ie:=by
  funext args K σ
  rcases args with _|⟨a0,_|⟨a1,_|⟨a2,_|⟨b,r⟩⟩⟩⟩<;>kernel_rfl
theorem Dk:Entry Tryz.prog 56 .write ie:=
  entry (C:=NQ) (aS.cons Lv (aS.cons VS aS.nil)) aG Tryz.func56 (by kernel_rfl) (by kernel_rfl) (by kernel_rfl) Zh
attribute [irreducible] PU ie
def PE(a0:Value)(K:KT)(σ:Mem):Prop:=xC (bO 2 [a0] []) fun c1=>xM (.int .u64 0) fun v2=>xD 0 (au 1) fun v3=>xO (ah 1 false [v3] c1) fun v4=>ia [v4,.int .i64 65535] (fun v5 σ=>xD 1 (au 1) fun v6=>xO (ah 1 false [v6] c1) fun v7=>ia [v7,.int .i64 65535] (fun v8 σ=>xF (aq .shl .no) [v8,.int .u64 16] fun v9=>xF (aq .or .no) [v5,v9] fun v10=>xM v10 fun v2=>K v2 σ) σ) σ
def Ee:Spec:=fun args K σ=>match args with
  | [a0]=>PE a0 K σ
  | _=>False
noncomputable def Nz:Cx:={ P:=Tryz.prog,T:=[(66,.none,ia)],loc:=[(1,1),(3,1),(6,1)],eqt:=[],n:=11,aL:=[] }
theorem Y3:cC Nz Tryz.f82 (aP Tryz.f82) 1=Ee:=by
  funext args K σ
  rcases args with _|⟨a0,_|⟨b,r⟩⟩<;>kernel_rfl
theorem abg:Entry Tryz.prog 82 .none Ee:=
  entry (C:=Nz) (aS.cons Hb aS.nil) aG Tryz.func82 (by kernel_rfl) (by kernel_rfl) (by kernel_rfl) Y3
attribute [irreducible] PE Ee
def vt(K:KT)(σ:Mem):Prop:=xM (.bool false) fun v4=>K v4 σ
def zM(K:KT)(ts:List Value)(ls:List (List Value))(σ:Mem):Prop:=vt K σ
def Pf(a0 a1:Value)(K:KT)(σ:Mem):Prop:=xC (bO 9 [a1] []) fun c3=>xM (.bool false) fun v4=>xM a0 fun v8=>xF ay [v8] fun v9=>xD 2 v9 fun v10=>aj 1 false [v10] (fun v11 σ=>xe [v11] (fun bA σ=>xM bA fun v7=>xF (dH 0) [v7] fun bm=>xF (dH 1) [v7] fun bK=>xM bm fun v5=>xM bK fun v6=>a9 (zM K) fun J1=>xM a0 fun bh=>xF ay [bh] fun bo=>xD 0 bo fun bB=>aj 1 false [bB] (fun bM σ=>xF (aq .eql .no) [bM,.int .i64 0] fun fV=>xM fV fun dh=>aV dh
 (xM a0 fun gu=>xM a0 fun fU=>xO (ah 9 true [(au 3)] c3) fun fC=>th [] (fun fj σ=>cG [fC,fj] (fun gL σ=>xF ay [gu] fun iC=>xD 2 iC fun iF=>ax 1 [iF,gL] (fun _v σ=>xF ay [fU] fun gZ=>xD 0 gZ fun gY=>ax 1 [gY,.int .i64 1] (fun _v σ=>J1 [] [] σ) σ) σ) σ) σ)
 (xF (aq .eql .no) [bM,.int .i64 1] fun iB=>xM iB fun gP=>aV gP
 (xO (ah 9 true [(au 3)] c3) fun iA=>xD 0 (au 3) fun gX=>xO (ah 7 true [gX] c3) fun gW=>xM a0 fun fB=>xF ay [fB] fun gr=>xD 1 gr fun e9=>aj 1 false [e9] (fun fK σ=>gw [gW,fK] (fun gD σ=>xF (aq .add .no) [gD,.int .i64 1] fun fh=>xM v5 fun dY=>rK [dY,.int .i64 0] (fun jo σ=>ie [iA,fh,jo] (fun jI σ=>xM a0 fun jH=>xF ay [jH] fun jN=>xD 0 jN fun jG=>ax 1 [jG,.int .i64 2] (fun _v σ=>J1 [] [] σ) σ) σ) σ) σ) σ)
 (xM a0 fun bJ=>xF ay [bJ] fun v20=>xD 0 v20 fun b5=>ax 1 [b5,.int .i64 0] (fun _v σ=>xO (ah 9 true [(au 3)] c3) fun b8=>th [] (fun cu σ=>xM a0 fun cH=>xF ay [cH] fun cN=>xD 2 cN fun dE=>aj 1 false [dE] (fun dN σ=>xM a0 fun et=>xF ay [et] fun eW=>xD 1 eW fun v30=>aj 1 false [v30] (fun eT σ=>xM v6 fun dM=>xF (aq .add .no) [dM,.int .i64 1] fun eR=>rK [eT,eR] (fun eQ σ=>fN [b8,cu,dN,eQ] (fun dK σ=>xM dK fun v4=>K v4 σ) σ) σ) σ) σ) σ) σ))) σ) σ) σ
def Ba:Spec:=fun args K σ=>match args with
  | [a0,a1]=>Pf a0 a1 K σ
  | _=>False
noncomputable def M6:Cx:={ P:=Tryz.prog,T:=[(116,.none,xe),(71,.none,th),(54,.write,cG),(63,.none,gw),(70,.none,rK),(56,.write,ie),(49,.write,fN)],loc:=[(3,3),(50,3)],eqt:=[],n:=64,aL:=[(1000011,[],[])] }
theorem YD:cC M6 Tryz.f83 (aP Tryz.f83) 2=Ba:=by
  funext args K σ
  rcases args with _|⟨a0,_|⟨a1,_|⟨b,r⟩⟩⟩<;>kernel_rfl
theorem VE:Entry Tryz.prog 83 .write Ba:=
  entry (C:=M6) (aS.cons VC (aS.cons R3 (aS.cons ow (aS.cons xS (aS.cons RU (aS.cons Dk (aS.cons xT aS.nil))))))) aG Tryz.func83 (by kernel_rfl) (by kernel_rfl) (by kernel_rfl) YD
attribute [irreducible] vt zM Pf Ba
def fL(K:KT)(σ:Mem):Prop:=xM (.bool false) fun v4=>K v4 σ
def jl(K:KT)(ts:List Value)(ls:List (List Value))(σ:Mem):Prop:=fL K σ
def yv(a0 a1:Value)(K:KT)(σ:Mem):Prop:=xC (bO 9 [a1] []) fun c3=>xM (.bool false) fun v4=>a9 (jl K) fun J1=>xM a0 fun v9=>xF ay [v9] fun v10=>xD 2 v10 fun v11=>aj 1 false [v11] (fun bA σ=>xF (aq .eql .no) [bA,.int .i64 0] fun v20=>xM v20 fun bJ=>aV bJ
 (xM a0 fun b5=>xF ay [b5] fun b8=>xD 0 b8 fun cu=>aj 1 false [cu] (fun cH σ=>pU [cH] (fun cN σ=>xF (aq .lss .no) [cN,.int .i64 0] fun dE=>aV dE
 (xM a0 fun dN=>xO (ah 9 true [(au 3)] c3) fun et=>Bm [dN,et,.int .i64 5] (fun eW σ=>xM (.bool true) fun v4=>K v4 σ) σ)
 (xM a0 fun v30=>xF ay [v30] fun eT=>xD 3 eT fun dM=>xO (ah 9 true [(au 3)] c3) fun eR=>Ef [dM,eR] (fun eQ σ=>aV eQ
 (xM a0 fun dh=>xF ay [dh] fun fV=>xD 3 fV fun gu=>D_ [gu] (fun fU σ=>xM fU fun dK=>xF (dH 0) [dK] fun fC=>xF (dH 1) [dK] fun fj=>xM fC fun v5=>xM fj fun v6=>xM a0 fun gL=>xM a0 fun iC=>xM v5 fun iF=>xF ay [gL] fun gZ=>xD 8 gZ fun gY=>ax 1 [gY,iF] (fun _v σ=>xF ay [iC] fun gP=>xD 2 gP fun iB=>ax 1 [iB,.int .i64 1] (fun _v σ=>xM v6 fun iA=>xF (mV .not) [iA] fun gX=>aV gX
 (xM a0 fun gW=>xO (ah 9 true [(au 3)] c3) fun fB=>Bm [gW,fB,.int .i64 7] (fun gr σ=>xM (.bool true) fun v4=>K v4 σ) σ)
 (J1 [] [] σ)) σ) σ) σ)
 (J1 [] [] σ)) σ)) σ) σ)
 (xF (aq .eql .no) [bA,.int .i64 1] fun fK=>xM fK fun e9=>aV e9
 (xM a0 fun gD=>xM a0 fun fh=>xO (ah 9 true [(au 3)] c3) fun dY=>xD 0 (au 3) fun jo=>xO (ah 7 true [jo] c3) fun jI=>xM a0 fun jH=>xF ay [jH] fun jN=>xD 8 jN fun jG=>aj 1 false [jG] (fun gn σ=>gw [jI,gn] (fun gk σ=>cG [dY,gk] (fun gC σ=>fe [gC] (fun gj σ=>xF (b7 2 1 false) [gj] fun fT=>xF ay [gD] fun cQ=>xD 9 cQ fun pd=>ax 1 [pd,fT] (fun _v σ=>xF ay [fh] fun nH=>xD 2 nH fun nZ=>ax 1 [nZ,.int .i64 2] (fun _v σ=>xM a0 fun oN=>xM a0 fun nY=>xF ay [nY] fun nX=>xD 0 nX fun mH=>aj 1 false [mH] (fun rE σ=>pU [rE] (fun sT σ=>yz [sT] (fun pH σ=>xF ay [oN] fun ui=>xD 10 ui fun uh=>ax 1 [uh,pH] (fun _v σ=>J1 [] [] σ) σ) σ) σ) σ) σ) σ) σ) σ) σ) σ)
 (xF (aq .eql .no) [bA,.int .i64 2] fun ug=>xM ug fun vc=>aV vc
 (xM a0 fun uf=>xF ay [uf] fun sS=>xD 10 sS fun sR=>aj 1 false [sR] (fun sQ σ=>xO (ah 9 true [(au 3)] c3) fun rD=>Bc [sQ,rD] (fun sP σ=>aV sP
 (xM a0 fun tM=>xF ay [tM] fun tL=>xD 10 tL fun va=>aj 1 false [va] (fun tK σ=>Bd [tK] (fun ue σ=>xM ue fun sO=>xF (dH 0) [sO] fun wP=>xF (dH 1) [sO] fun wO=>xC (aH 2 [(au 7),wP] [.int .i64 0,.int .i64 0]) fun c7=>xM wO fun v8=>xM a0 fun wN=>xM a0 fun wM=>xO (ah 2 true [(au 7)] c7) fun i_=>xF ay [wN] fun lU=>xD 11 lU fun ky=>ax 2 [ky,i_] (fun _v σ=>xF ay [wM] fun jQ=>xD 2 jQ fun jP=>ax 1 [jP,.int .i64 3] (fun _v σ=>xM v8 fun kx=>xF (mV .not) [kx] fun jw=>aV jw
 (xM a0 fun j7=>xO (ah 9 true [(au 3)] c3) fun j6=>Bm [j7,j6,.int .i64 6] (fun kP σ=>xM a0 fun h_=>xM a0 fun iI=>xM a0 fun h9=>xF ay [h9] fun hZ=>xD 8 hZ fun hY=>aj 1 false [hY] (fun hH σ=>xf [hH] (fun iH σ=>xF ay [h_] fun e_=>xD 13 e_ fun g_=>ax 1 [g_,iH] (fun _v σ=>xF ay [iI] fun g8=>xD 2 g8 fun iZ=>ax 1 [iZ,.int .i64 7] (fun _v σ=>J1 [] [] σ) σ) σ) σ) σ) σ)
 (J1 [] [] σ)) σ) σ) σ) σ)
 (J1 [] [] σ)) σ) σ)
 (xF (aq .eql .no) [bA,.int .i64 3] fun g7=>xM g7 fun jO=>aV jO
 (xO (ah 9 true [(au 3)] c3) fun fI=>xD 0 (au 3) fun fH=>xO (ah 7 true [fH] c3) fun fG=>xM a0 fun fk=>xF ay [fk] fun fF=>xD 11 fF fun eA=>xD 1 eA fun fE=>aj 1 false [fE] (fun fD σ=>ff [fG,fD] (fun iG σ=>xF (aq .add .no) [iG,.int .i64 1] fun gM=>xM a0 fun iY=>xF ay [iY] fun iX=>xD 0 iX fun iW=>aj 1 false [iW] (fun iV σ=>pU [iV] (fun iU σ=>nB [iU] (fun iT σ=>uv [fI,gM,iT] (fun jv σ=>xM a0 fun lS=>xF ay [lS] fun mK=>xD 2 mK fun mJ=>ax 1 [mJ,.int .i64 4] (fun _v σ=>J1 [] [] σ) σ) σ) σ) σ) σ) σ) σ)
 (xF (aq .eql .no) [bA,.int .i64 4] fun kv=>xM kv fun mI=>aV mI
 (xO (ah 9 true [(au 3)] c3) fun pR=>xM a0 fun rG=>xF ay [rG] fun pQ=>xD 11 pQ fun pP=>xD 0 pP fun pN=>aj 1 false [pN] (fun pM σ=>xM a0 fun pL=>CM [pL,.int .i64 1] (fun pK σ=>ie [pR,pM,pK] (fun rF σ=>xM a0 fun pJ=>xF ay [pJ] fun sU=>xD 2 sU fun w9=>ax 1 [w9,.int .i64 5] (fun _v σ=>J1 [] [] σ) σ) σ) σ) σ)
 (xF (aq .eql .no) [bA,.int .i64 5] fun w7=>xM w7 fun w8=>aV w8
 (xO (ah 9 true [(au 3)] c3) fun wZ=>xD 0 (au 3) fun wY=>xO (ah 7 true [wY] c3) fun wX=>xM a0 fun wW=>xF ay [wW] fun wV=>xD 8 wV fun wU=>aj 1 false [wU] (fun pI σ=>gw [wX,pI] (fun wT σ=>xM a0 fun wR=>xF ay [wR] fun AY=>xD 11 AY fun AX=>xD 0 AX fun AW=>aj 1 false [AW] (fun AV σ=>xM a0 fun AU=>xF ay [AU] fun AT=>xD 9 AT fun AS=>aj 1 false [AS] (fun AR σ=>xF (aM [(0,1),(1,1),(2,1),(3,1)] [.int .i64 0,.int .i64 0,.int .i64 0,.int .i64 0] [0,1,2]) [.int .i64 1,AV,AR] fun AQ=>n_ [AQ] (fun AP σ=>ie [wZ,wT,AP] (fun Cq σ=>xM a0 fun AO=>xM a0 fun AN=>xF ay [AN] fun AM=>xD 8 AM fun AL=>aj 1 false [AL] (fun AK σ=>xM a0 fun wQ=>xF ay [wQ] fun AJ=>xD 9 AJ fun AI=>aj 1 false [AI] (fun yw σ=>xF (aM [(0,1),(1,1)] [.int .i64 0,.int .i64 0] [0,1]) [AK,yw] fun AH=>Ee [AH] (fun AG σ=>xO (ah 9 true [(au 3)] c3) fun AF=>lX [AF] (fun AE σ=>xF (aM [(0,1),(1,1),(2,1),(3,1)] [.int .i64 0,.int .u64 0,.int .i64 0,.int .i64 0] [1,3]) [AG,AE] fun AD=>xF ay [AO] fun Cp=>xD 14 Cp fun AB=>ax 4 [AB,AD] (fun _v σ=>xM a0 fun AA=>xF ay [AA] fun Az=>xD 2 Az fun Cm=>ax 1 [Cm,.int .i64 6] (fun _v σ=>J1 [] [] σ) σ) σ) σ) σ) σ) σ) σ) σ) σ) σ) σ) σ)
 (xF (aq .eql .no) [bA,.int .i64 6] fun Ax=>xM Ax fun Ay=>aV Ay
 (xO (ah 9 true [(au 3)] c3) fun Av=>xM a0 fun Au=>xF ay [Au] fun At=>xD 11 At fun As=>xD 0 As fun Aq=>aj 1 false [Aq] (fun D2 σ=>xM a0 fun D1=>CM [D1,.int .i64 2] (fun D0 σ=>ie [Av,D2,D0] (fun Gx σ=>xM (.bool true) fun v4=>K v4 σ) σ) σ) σ)
 (xM a0 fun bm=>xF ay [bm] fun bK=>xD 13 bK fun bh=>aj 1 false [bh] (fun bo σ=>xO (ah 9 true [(au 3)] c3) fun bB=>Ba [bo,bB] (fun bM σ=>xM bM fun v4=>K v4 σ) σ) σ)))))))) σ
def kQ:Spec:=fun args K σ=>match args with
  | [a0,a1]=>yv a0 a1 K σ
  | _=>False
noncomputable def Oz:Cx:={ P:=Tryz.prog,T:=[(36,.write,pU),(72,.write,Bm),(73,.write,Ef),(74,.read,D_),(63,.none,gw),(54,.write,cG),(62,.none,fe),(75,.write,yz),(76,.write,Bc),(77,.read,Bd),(78,.write,xf),(23,.none,ff),(80,.none,nB),(79,.write,uv),(81,.read,CM),(56,.write,ie),(69,.none,n_),(82,.none,Ee),(18,.read,lX),(83,.write,Ba)],loc:=[(3,3),(7,7),(59,3),(124,3),(160,3)],eqt:=[],n:=209,aL:=[(1000037,[],[])] }
theorem ZY:cC Oz Tryz.f42 (aP Tryz.f42) 2=kQ:=by
  funext args K σ
  rcases args with _|⟨a0,_|⟨a1,_|⟨b,r⟩⟩⟩<;>kernel_rfl
theorem abH:Entry Tryz.prog 42 .write kQ:=
  entry (C:=Oz) (aS.cons Lu (aS.cons abG (aS.cons abh (aS.cons aa2 (aS.cons xS (aS.cons ow (aS.cons uz (aS.cons VH (aS.cons VF (aS.cons VG (aS.cons VD (aS.cons BN (aS.cons He (aS.cons R0 (aS.cons abF (aS.cons Dk (aS.cons Hc (aS.cons abg (aS.cons JB (aS.cons VE aS.nil)))))))))))))))))))) aG Tryz.func42 (by kernel_rfl) (by kernel_rfl) (by kernel_rfl) ZY
attribute [irreducible] fL jl yv kQ
def Qw(a0:Value)(K:KT)(σ:Mem):Prop:=xM a0 fun v3=>xF (aq .eql .ptr) [v3,.pointer none] fun v4=>aV v4
 (xF (aM [(0,1),(1,1),(2,1),(3,1)] [.int .i64 0,.int .u64 0,.int .i64 0,.int .i64 0] [0]) [.int .i64 1] fun v5=>xC (aH 4 [(au 2),v5] [.int .i64 0,.int .u64 0,.int .i64 0,.int .i64 0]) fun c2=>xO (ah 4 true [(au 2)] c2) fun r2=>K r2 σ)
 (xM a0 fun v6=>xF ay [v6] fun v7=>xD 14 v7 fun v8=>aj 4 true [v8] (fun v9 σ=>xC (aH 4 [(au 2),v9] [.int .i64 0,.int .u64 0,.int .i64 0,.int .i64 0]) fun c2=>xO (ah 4 true [(au 2)] c2) fun r2=>K r2 σ) σ)
def CN:Spec:=fun args K σ=>match args with
  | [a0]=>Qw a0 K σ
  | _=>False
noncomputable def OA:Cx:={ P:=Tryz.prog,T:=[],loc:=[(2,2)],eqt:=[(86,.ptr)],n:=10,aL:=[] }
theorem ZZ:cC OA Tryz.f43 (aP Tryz.f43) 1=CN:=by
  funext args K σ
  rcases args with _|⟨a0,_|⟨b,r⟩⟩<;>kernel_rfl
theorem abI:Entry Tryz.prog 43 .read CN:=
  entry (C:=OA) aS.nil aG Tryz.func43 (by kernel_rfl) (by kernel_rfl) (by kernel_rfl) ZZ
attribute [irreducible] Qw CN
def wK(K:KT)(v7:Value)(c6:List Value)(σ:Mem):Prop:=xM v7 fun bJ=>CN [bJ] (fun v20 σ=>xC (aH 4 [(au 6),v20] c6) fun c6=>xO (ah 4 true [(au 6)] c6) fun r6=>K r6 σ) σ
def u9(K:KT)(ts:List Value)(ls:List (List Value))(σ:Mem):Prop:=wK K (ts.getD 0 ar) (ls.getD 0 []) σ
def iS(K:KT)(J1 R1:JT)(v7 v8:Value)(c3 c6:List Value)(σ:Mem):Prop:=xM v8 fun bA=>xF (aq .lss .no) [bA,.int .i64 400] fun bm=>aV bm
 (xM v7 fun bo=>xO (ah 9 true [(au 3)] c3) fun bB=>kQ [bo,bB] (fun bM σ=>aV bM
 (J1 [v7] [c6] σ)
 (xM v8 fun bK=>xF (aq .add .no) [bK,.int .i64 1] fun bh=>xM bh fun v8=>R1 [v7,v8] [c3,c6] σ)) σ)
 (J1 [v7] [c6] σ)
def jM(K:KT)(J1 R1:JT)(ts:List Value)(ls:List (List Value))(σ:Mem):Prop:=iS K J1 R1 (ts.getD 0 ar) (ts.getD 1 ar) (ls.getD 0 []) (ls.getD 1 []) σ
def QD(a0 a1 a2:Value)(K:KT)(σ:Mem):Prop:=xC (bO 9 [a0] []) fun c3=>xM a1 fun v9=>xM a2 fun v10=>CL [v9,v10] (fun v11 σ=>xM v11 fun v7=>a9 (u9 K) fun J1=>xM (.int .i64 0) fun v8=>eY (jM K J1) [v7,v8] [c3,[.int .i64 0,.int .u64 0,.int .i64 0,.int .i64 0]] σ) σ
def tj:Spec:=fun args K σ=>match args with
  | [a0,a1,a2]=>QD a0 a1 a2 K σ
  | _=>False
noncomputable def OI:Cx:={ P:=Tryz.prog,T:=[(41,.write,CL),(42,.write,kQ),(43,.read,CN)],loc:=[(3,3),(6,6)],eqt:=[],n:=21,aL:=[(4,[7,8],[3,6]),(1000007,[7],[6])] }
theorem Z7:cC OI Tryz.f11 (aP Tryz.f11) 3=tj:=by
  funext args K σ
  rcases args with _|⟨a0,_|⟨a1,_|⟨a2,_|⟨b,r⟩⟩⟩⟩<;>kernel_rfl
theorem V2:Entry Tryz.prog 11 .write tj:=
  entry (C:=OI) (aS.cons abE (aS.cons abH (aS.cons abI aS.nil))) aG Tryz.func11 (by kernel_rfl) (by kernel_rfl) (by kernel_rfl) Z7
attribute [irreducible] wK u9 iS jM QD tj
def QI(a0 a1:Value)(K:KT)(σ:Mem):Prop:=xM (.pointer none) fun v4=>xM a0 fun v5=>xM a1 fun v6=>xF (aM [(0,1),(1,1),(2,2),(4,1),(5,1),(6,1),(7,1),(8,1),(9,4)] [.int .u64 0,.bool false,.int .i64 0,.int .i64 0,.int .i64 0,.int .u64 0,.int .i64 0,.pointer none,.pointer none,.int .i64 0,.int .u64 0,.int .i64 0,.int .i64 0] [0,1]) [v5,v6] fun v7=>jD 13 [v7] (fun v8 σ=>xM v8 fun v4=>K v4 σ) σ
def CP:Spec:=fun args K σ=>match args with
  | [a0,a1]=>QI a0 a1 K σ
  | _=>False
noncomputable def OP:Cx:={ P:=Tryz.prog,T:=[],loc:=[],eqt:=[],n:=9,aL:=[] }
theorem aac:cC OP Tryz.f44 (aP Tryz.f44) 2=CP:=by
  funext args K σ
  rcases args with _|⟨a0,_|⟨a1,_|⟨b,r⟩⟩⟩<;>kernel_rfl
theorem abQ:Entry Tryz.prog 44 .write CP:=
  entry (C:=OP) aS.nil aG Tryz.func44 (by kernel_rfl) (by kernel_rfl) (by kernel_rfl) aac
attribute [irreducible] QI CP
def nL(K:KT)(v0 v11:Value)(c2:List Value)(σ:Mem):Prop:=aV v11
 (xF (aM [(0,1),(1,1)] [.int .i64 0,.int .i64 0] []) [] fun bA=>xC (aH 2 [(au 2),bA] c2) fun c2=>xM (.bool false) fun v3=>xO (ah 2 true [(au 2)] c2) fun r2=>K (.tuple #[r2,v3]) σ)
 (xM v0 fun bm=>xF (aq .and .no) [bm,.int .u64 65535] fun bK=>xF (cZ .i64) [bK] fun bh=>xM v0 fun bo=>xF (aq .shr .no) [bo,.int .u64 16] fun bB=>xF (cZ .i64) [bB] fun bM=>xF (aM [(0,1),(1,1)] [.int .i64 0,.int .i64 0] [0,1]) [bh,bM] fun bJ=>xC (aH 2 [(au 2),bJ] c2) fun c2=>xM (.bool true) fun v3=>xO (ah 2 true [(au 2)] c2) fun r2=>K (.tuple #[r2,v3]) σ)
def qS(K:KT)(ts:List Value)(ls:List (List Value))(σ:Mem):Prop:=nL K (ts.getD 0 ar) (ts.getD 1 ar) (ls.getD 0 []) σ
def H4(a0:Value)(K:KT)(σ:Mem):Prop:=if true=true then(xC (mU [.int .i64 0,.int .i64 0] [] []) fun c2=>xM (.bool false) fun v3=>a9 (qS K) fun J1=>xM a0 fun v4=>xF (aq .shr .no) [v4,.int .u64 32] fun v5=>xF (aq .neq .no) [v5,.int .u64 0] fun v6=>xM v6 fun v7=>aV v7
 (xF aB [.bool true,.bool true,undef] fun v11=>J1 [a0,v11] [c2] σ)
 (xM a0 fun v8=>xF (aq .shr .no) [v8,.int .u64 16] fun v9=>xF (aq .eql .no) [v9,.int .u64 0] fun v10=>xF aB [.bool false,.bool true,v10] fun v11=>J1 [a0,v11] [c2] σ))else False
def uu:Spec:=fun args K σ=>match args with
  | [a0]=>H4 a0 K σ
  | _=>False
noncomputable def ND:Cx:={ P:=Tryz.prog,T:=[],loc:=[(2,2)],eqt:=[],n:=20,aL:=[(1000003,[0,11],[2])] }
theorem Y7:cC ND Tryz.f61 (aP Tryz.f61) 1=uu:=by
  funext args K σ
  rcases args with _|⟨a0,_|⟨b,r⟩⟩<;>kernel_rfl
theorem VM:Entry Tryz.prog 61 .none uu:=
  entry (C:=ND) aS.nil aG Tryz.func61 (by kernel_rfl) (by kernel_rfl) (by kernel_rfl) Y7
attribute [irreducible] nL qS H4 uu
def Qk(a0 a1:Value)(K:KT)(σ:Mem):Prop:=xC (bO 9 [a1] []) fun c3=>xM (.bool false) fun v4=>xM a0 fun v5=>xO (ah 9 true [(au 3)] c3) fun v6=>lX [v6] (fun v7 σ=>xF (aM [(0,1),(1,1),(2,1),(3,1)] [.int .i64 0,.int .u64 0,.int .i64 0,.int .i64 0] [0,3]) [.int .i64 3,v7] fun v8=>xF ay [v5] fun v9=>xD 9 v9 fun v10=>ax 4 [v10,v8] (fun _v σ=>xM (.bool true) fun v4=>K v4 σ) σ) σ
def yE:Spec:=fun args K σ=>match args with
  | [a0,a1]=>Qk a0 a1 K σ
  | _=>False
noncomputable def Og:Cx:={ P:=Tryz.prog,T:=[(18,.read,lX)],loc:=[(3,3)],eqt:=[],n:=11,aL:=[] }
theorem ZI:cC Og Tryz.f85 (aP Tryz.f85) 2=yE:=by
  funext args K σ
  rcases args with _|⟨a0,_|⟨a1,_|⟨b,r⟩⟩⟩<;>kernel_rfl
theorem VT:Entry Tryz.prog 85 .write yE:=
  entry (C:=Og) (aS.cons JB aS.nil) aG Tryz.func85 (by kernel_rfl) (by kernel_rfl) (by kernel_rfl) ZI
attribute [irreducible] Qk yE
def QJ(a0 a1:Value)(K:KT)(σ:Mem):Prop:=xC (bO 4 [a0] []) fun c2=>xC (bO 2 [a1] []) fun c3=>xM (.bool false) fun v4=>xD 0 (au 2) fun v5=>xO (ah 1 false [v5] c2) fun v6=>xF (aq .eql .no) [v6,.int .i64 1] fun v7=>xM v7 fun v8=>aV v8
 (xF aB [.bool true,.bool true,undef] fun bA=>xM bA fun bm=>aV bm
 (xF aB [.bool true,.bool true,undef] fun bB=>xM bB fun bM=>aV bM
 (xD 2 (au 2) fun bJ=>xO (ah 1 false [bJ] c2) fun v20=>xD 1 (au 3) fun b5=>xO (ah 1 false [b5] c3) fun b8=>xF (aq .eql .no) [v20,b8] fun cu=>xF aB [.bool true,cu,.bool false] fun cH=>xM cH fun v4=>K v4 σ)
 (xF aB [.bool false,undef,.bool false] fun cH=>xM cH fun v4=>K v4 σ))
 (xD 0 (au 2) fun bK=>xO (ah 1 false [bK] c2) fun bh=>xF (aq .eql .no) [bh,.int .i64 4] fun bo=>xF aB [.bool false,.bool true,bo] fun bB=>xM bB fun bM=>aV bM
 (xD 2 (au 2) fun bJ=>xO (ah 1 false [bJ] c2) fun v20=>xD 1 (au 3) fun b5=>xO (ah 1 false [b5] c3) fun b8=>xF (aq .eql .no) [v20,b8] fun cu=>xF aB [.bool true,cu,.bool false] fun cH=>xM cH fun v4=>K v4 σ)
 (xF aB [.bool false,undef,.bool false] fun cH=>xM cH fun v4=>K v4 σ)))
 (xD 0 (au 2) fun v9=>xO (ah 1 false [v9] c2) fun v10=>xF (aq .eql .no) [v10,.int .i64 2] fun v11=>xF aB [.bool false,.bool true,v11] fun bA=>xM bA fun bm=>aV bm
 (xF aB [.bool true,.bool true,undef] fun bB=>xM bB fun bM=>aV bM
 (xD 2 (au 2) fun bJ=>xO (ah 1 false [bJ] c2) fun v20=>xD 1 (au 3) fun b5=>xO (ah 1 false [b5] c3) fun b8=>xF (aq .eql .no) [v20,b8] fun cu=>xF aB [.bool true,cu,.bool false] fun cH=>xM cH fun v4=>K v4 σ)
 (xF aB [.bool false,undef,.bool false] fun cH=>xM cH fun v4=>K v4 σ))
 (xD 0 (au 2) fun bK=>xO (ah 1 false [bK] c2) fun bh=>xF (aq .eql .no) [bh,.int .i64 4] fun bo=>xF aB [.bool false,.bool true,bo] fun bB=>xM bB fun bM=>aV bM
 (xD 2 (au 2) fun bJ=>xO (ah 1 false [bJ] c2) fun v20=>xD 1 (au 3) fun b5=>xO (ah 1 false [b5] c3) fun b8=>xF (aq .eql .no) [v20,b8] fun cu=>xF aB [.bool true,cu,.bool false] fun cH=>xM cH fun v4=>K v4 σ)
 (xF aB [.bool false,undef,.bool false] fun cH=>xM cH fun v4=>K v4 σ)))
def xl:Spec:=fun args K σ=>match args with
  | [a0,a1]=>QJ a0 a1 K σ
  | _=>False
noncomputable def OQ:Cx:={ P:=Tryz.prog,T:=[],loc:=[(2,2),(3,3),(5,2),(9,2),(14,2),(19,2),(21,3)],eqt:=[],n:=25,aL:=[] }
theorem aad:cC OQ Tryz.f112 (aP Tryz.f112) 2=xl:=by
  funext args K σ
  rcases args with _|⟨a0,_|⟨a1,_|⟨b,r⟩⟩⟩<;>kernel_rfl
theorem R6:Entry Tryz.prog 112 .none xl:=
  entry (C:=OQ) aS.nil aG Tryz.func112 (by kernel_rfl) (by kernel_rfl) (by kernel_rfl) aad
attribute [irreducible] QJ xl
def wx(K:KT)(v0 et:Value)(c3 c5:List Value)(σ:Mem):Prop:=aV et
 (xM v0 fun eW=>xO (ah 9 true [(au 3)] c3) fun v30=>yE [eW,v30] (fun eT σ=>xM eT fun v4=>K v4 σ) σ)
 (xM v0 fun dM=>xO (ah 9 true [(au 3)] c3) fun eR=>xD 0 (au 3) fun eQ=>xO (ah 7 true [eQ] c3) fun dK=>xD 0 (au 5) fun dh=>xO (ah 1 false [dh] c5) fun fV=>gw [dK,fV] (fun gu σ=>cG [eR,gu] (fun fU σ=>xF ay [dM] fun fC=>xD 5 fC fun fj=>ax 1 [fj,fU] (fun _v σ=>xM v0 fun gL=>xF ay [gL] fun iC=>xD 5 iC fun iF=>aj 1 false [iF] (fun gZ σ=>fe [gZ] (fun gY σ=>xO (ah 2 true [(au 5)] c5) fun gP=>xl [gY,gP] (fun iB σ=>xF (mV .not) [iB] fun iA=>aV iA
 (xM v0 fun gX=>xO (ah 9 true [(au 3)] c3) fun gW=>yE [gX,gW] (fun fB σ=>xM fB fun v4=>K v4 σ) σ)
 (xM v0 fun gr=>xF ay [gr] fun e9=>xD 4 e9 fun fK=>ax 1 [fK,.int .i64 1] (fun _v σ=>xM (.bool false) fun v4=>K v4 σ) σ)) σ) σ) σ) σ) σ) σ)
def Ai(K:KT)(ts:List Value)(ls:List (List Value))(σ:Mem):Prop:=wx K (ts.getD 0 ar) (ts.getD 1 ar) (ls.getD 0 []) (ls.getD 1 []) σ
def Qj(a0 a1:Value)(K:KT)(σ:Mem):Prop:=xC (bO 9 [a1] []) fun c3=>xM (.bool false) fun v4=>xM a0 fun v8=>xF ay [v8] fun v9=>xD 0 v9 fun v10=>aj 1 false [v10] (fun v11 σ=>uu [v11] (fun bA σ=>xM bA fun v7=>xF (dH 0) [v7] fun bm=>xF (dH 1) [v7] fun bK=>xC (aH 2 [(au 5),bm] [.int .i64 0,.int .i64 0]) fun c5=>xM bK fun v6=>xM a0 fun bh=>xO (ah 2 true [(au 5)] c5) fun bo=>xF ay [bh] fun bB=>xD 2 bB fun bM=>ax 2 [bM,bo] (fun _v σ=>a9 (Ai K) fun J1=>xM v6 fun bJ=>xF (mV .not) [bJ] fun v20=>xM v20 fun b5=>aV b5
 (xF aB [.bool true,.bool true,undef] fun et=>J1 [a0,et] [c3,c5] σ)
 (xD 0 (au 5) fun b8=>xO (ah 1 false [b8] c5) fun cu=>xD 0 (au 3) fun cH=>xD 1 cH fun cN=>xO (ah 1 false [cN] c3) fun dE=>xF (aq .geq .no) [cu,dE] fun dN=>xF aB [.bool false,.bool true,dN] fun et=>J1 [a0,et] [c3,c5] σ)) σ) σ) σ
def GM:Spec:=fun args K σ=>match args with
  | [a0,a1]=>Qj a0 a1 K σ
  | _=>False
noncomputable def Of:Cx:={ P:=Tryz.prog,T:=[(61,.none,uu),(85,.write,yE),(63,.none,gw),(54,.write,cG),(62,.none,fe),(112,.none,xl)],loc:=[(3,3),(5,5),(22,5),(24,3),(25,3),(34,3),(36,5)],eqt:=[],n:=56,aL:=[(1000005,[0,28],[3,5])] }
theorem ZH:cC Of Tryz.f84 (aP Tryz.f84) 2=GM:=by
  funext args K σ
  rcases args with _|⟨a0,_|⟨a1,_|⟨b,r⟩⟩⟩<;>kernel_rfl
theorem abv:Entry Tryz.prog 84 .write GM:=
  entry (C:=Of) (aS.cons VM (aS.cons VT (aS.cons xS (aS.cons ow (aS.cons uz (aS.cons R6 aS.nil)))))) aG Tryz.func84 (by kernel_rfl) (by kernel_rfl) (by kernel_rfl) ZH
attribute [irreducible] wx Ai Qj GM
def PH(a0:Value)(K:KT)(σ:Mem):Prop:=if true=true then(xC (mU [.int .i64 0,.int .i64 0,.int .i64 0,.int .i64 0,.bool false] [] []) fun c2=>xM a0 fun v3=>xF (aq .and .no) [v3,.int .u64 3] fun v4=>xF (cZ .i64) [v4] fun v5=>xM a0 fun v6=>xF (aq .shr .no) [v6,.int .u64 2] fun v7=>xF (aq .and .no) [v7,.int .u64 65535] fun v8=>xF (cZ .i64) [v8] fun v9=>xM a0 fun v10=>xF (aq .shr .no) [v10,.int .u64 18] fun v11=>xF (aq .and .no) [v11,.int .u64 65535] fun bA=>xF (cZ .i64) [bA] fun bm=>xM a0 fun bK=>xF (aq .shr .no) [bK,.int .u64 34] fun bh=>xF (aq .and .no) [bh,.int .u64 65535] fun bo=>xF (cZ .i64) [bo] fun bB=>xM a0 fun bM=>xF (aq .shr .no) [bM,.int .u64 50] fun bJ=>xF (aq .and .no) [bJ,.int .u64 1] fun v20=>xF (aq .eql .no) [v20,.int .u64 1] fun b5=>xF (aM [(0,1),(1,1),(2,1),(3,1),(4,1)] [.int .i64 0,.int .i64 0,.int .i64 0,.int .i64 0,.bool false] [0,1,2,3,4]) [v5,v9,bm,bB,b5] fun b8=>xC (aH 5 [(au 2),b8] c2) fun c2=>xO (ah 5 true [(au 2)] c2) fun r2=>K r2 σ)else False
def xh:Spec:=fun args K σ=>match args with
  | [a0]=>PH a0 K σ
  | _=>False
noncomputable def NC:Cx:={ P:=Tryz.prog,T:=[],loc:=[(2,2)],eqt:=[],n:=23,aL:=[] }
theorem Y6:cC NC Tryz.f31 (aP Tryz.f31) 1=xh:=by
  funext args K σ
  rcases args with _|⟨a0,_|⟨b,r⟩⟩<;>kernel_rfl
theorem RY:Entry Tryz.prog 31 .none xh:=
  entry (C:=NC) aS.nil aG Tryz.func31 (by kernel_rfl) (by kernel_rfl) (by kernel_rfl) Y6
attribute [irreducible] PH xh
def QH(a0 a1 a2:Value)(K:KT)(σ:Mem):Prop:=xM (.pointer none) fun v6=>xM a0 fun v7=>xM a1 fun v8=>xM a2 fun v9=>xF (aM [(0,1),(1,1),(2,1),(3,1),(4,1),(5,1),(6,1)] [.int .i64 0,.int .u64 0,.int .i64 0,.int .i64 0,.int .u64 0,.bool false,.bool false] [0,1,2]) [v7,v8,v9] fun v10=>jD 7 [v10] (fun v11 σ=>xM v11 fun v6=>K v6 σ) σ
def rM:Spec:=fun args K σ=>match args with
  | [a0,a1,a2]=>QH a0 a1 a2 K σ
  | _=>False
noncomputable def OO:Cx:={ P:=Tryz.prog,T:=[],loc:=[],eqt:=[],n:=12,aL:=[] }
theorem aab:cC OO Tryz.f86 (aP Tryz.f86) 3=rM:=by
  funext args K σ
  rcases args with _|⟨a0,_|⟨a1,_|⟨a2,_|⟨b,r⟩⟩⟩⟩<;>kernel_rfl
theorem R5:Entry Tryz.prog 86 .write rM:=
  entry (C:=OO) aS.nil aG Tryz.func86 (by kernel_rfl) (by kernel_rfl) (by kernel_rfl) aab
attribute [irreducible] QH rM
def Ql(a0 a1:Value)(K:KT)(σ:Mem):Prop:=xC (bO 9 [a1] []) fun c3=>xM a0 fun v6=>xF ay [v6] fun v7=>xD 5 v7 fun v8=>aj 1 false [v8] (fun v9 σ=>fe [v9] (fun v10 σ=>xC (aH 4 [(au 4),v10] [.int .i64 0,.int .i64 0,.int .i64 0,.int .i64 0]) fun c4=>xD 3 (au 4) fun v11=>xO (ah 1 false [v11] c4) fun bA=>xF (aq .add .no) [bA,.int .i64 1] fun bm=>xD 0 (au 4) fun bK=>xC (aH 1 [bK,.int .i64 4] c4) fun c4=>xD 3 (au 4) fun bh=>xC (aH 1 [bh,bm] c4) fun c4=>xM a0 fun bo=>xF ay [bo] fun bB=>xD 4 bB fun bM=>ax 1 [bM,.int .i64 0] (fun _v σ=>xO (ah 4 true [(au 4)] c4) fun bJ=>n_ [bJ] (fun v20 σ=>xM v20 fun v5=>xO (ah 9 true [(au 3)] c3) fun b5=>xD 0 (au 3) fun b8=>xO (ah 7 true [b8] c3) fun cu=>xM a0 fun cH=>xF ay [cH] fun cN=>xD 2 cN fun dE=>xD 0 dE fun dN=>aj 1 false [dN] (fun et σ=>gw [cu,et] (fun eW σ=>xM a0 fun v30=>xF ay [v30] fun eT=>xD 5 eT fun dM=>aj 1 false [dM] (fun eR σ=>xM v5 fun eQ=>fN [b5,eW,eR,eQ] (fun dK σ=>aV dK
 (xM a0 fun dh=>xM a0 fun fV=>xM a0 fun gu=>xF ay [gu] fun fU=>xD 2 fU fun fC=>xD 0 fC fun fj=>aj 1 false [fj] (fun gL σ=>xM v5 fun iC=>xM a0 fun iF=>xF ay [iF] fun gZ=>xD 6 gZ fun gY=>aj 1 false [gY] (fun gP σ=>rM [gL,iC,gP] (fun iB σ=>xF ay [dh] fun iA=>xD 7 iA fun gX=>ax 1 [gX,iB] (fun _v σ=>xF ay [fV] fun gW=>xD 4 gW fun fB=>ax 1 [fB,.int .i64 3] (fun _v σ=>K (.tuple #[]) σ) σ) σ) σ) σ) σ)
 (K (.tuple #[]) σ)) σ) σ) σ) σ) σ) σ) σ) σ
def GN:Spec:=fun args K σ=>match args with
  | [a0,a1]=>Ql a0 a1 K σ
  | _=>False
noncomputable def Oh:Cx:={ P:=Tryz.prog,T:=[(62,.none,fe),(69,.none,n_),(63,.none,gw),(49,.write,fN),(86,.write,rM)],loc:=[(3,3),(4,4),(11,4),(14,4),(15,4),(22,3)],eqt:=[],n:=53,aL:=[] }
theorem ZJ:cC Oh Tryz.f87 (aP Tryz.f87) 2=GN:=by
  funext args K σ
  rcases args with _|⟨a0,_|⟨a1,_|⟨b,r⟩⟩⟩<;>kernel_rfl
theorem abw:Entry Tryz.prog 87 .write GN:=
  entry (C:=Oh) (aS.cons uz (aS.cons Hc (aS.cons xS (aS.cons xT (aS.cons R5 aS.nil))))) aG Tryz.func87 (by kernel_rfl) (by kernel_rfl) (by kernel_rfl) ZJ
attribute [irreducible] Ql GN
def vH(K:KT)(c2 c3:List Value)(σ:Mem):Prop:=xO (ah 3 true [(au 3)] c3) fun bM=>xC (aH 3 [(au 2),bM] c2) fun c2=>xO (ah 3 true [(au 2)] c2) fun r2=>K r2 σ
def zU(K:KT)(ts:List Value)(ls:List (List Value))(σ:Mem):Prop:=vH K (ls.getD 0 []) (ls.getD 1 []) σ
def PJ(a0:Value)(K:KT)(σ:Mem):Prop:=if true=true then(xC (mU [.int .i64 0,.bool false,.int .i64 0] [] []) fun c2=>xM a0 fun v4=>xF (aq .and .no) [v4,.int .u64 1099511627775] fun v5=>xF (cZ .i64) [v5] fun v6=>xM a0 fun v7=>xF (aq .shr .no) [v7,.int .u64 63] fun v8=>xF (aq .eql .no) [v8,.int .u64 1] fun v9=>xF (aM [(0,1),(1,1),(2,1)] [.int .i64 0,.bool false,.int .i64 0] [0,1]) [v6,v9] fun v10=>if true=true then(xC (mU [.int .i64 0,.bool false,.int .i64 0] [] []) fun c3=>xC (aH 3 [(au 3),v10] c3) fun c3=>a9 (zU K) fun J1=>xD 1 (au 3) fun v11=>xO (ah 1 false [v11] c3) fun bA=>aV bA
 (xM a0 fun bm=>xF (aq .shr .no) [bm,.int .u64 40] fun bK=>xF (aq .and .no) [bK,.int .u64 4194303] fun bh=>xF (cZ .i64) [bh] fun bo=>xD 2 (au 3) fun bB=>xC (aH 1 [bB,bo] c3) fun c3=>J1 [] [c2,c3] σ)
 (J1 [] [c2,c3] σ))else False)else False
def nz:Spec:=fun args K σ=>match args with
  | [a0]=>PJ a0 K σ
  | _=>False
noncomputable def NG:Cx:={ P:=Tryz.prog,T:=[],loc:=[(2,2),(3,3),(11,3),(17,3)],eqt:=[],n:=19,aL:=[(1000005,[],[2,3])] }
theorem Y9:cC NG Tryz.f101 (aP Tryz.f101) 1=nz:=by
  funext args K σ
  rcases args with _|⟨a0,_|⟨b,r⟩⟩<;>kernel_rfl
theorem JA:Entry Tryz.prog 101 .none nz:=
  entry (C:=NG) aS.nil aG Tryz.func101 (by kernel_rfl) (by kernel_rfl) (by kernel_rfl) Y9
attribute [irreducible] vH zU PJ nz
def vG(K:KT)(v3:Value)(σ:Mem):Prop:=xM v3 fun bo=>xM bo fun v2=>K v2 σ
def zT(K:KT)(ts:List Value)(ls:List (List Value))(σ:Mem):Prop:=vG K (ts.getD 0 ar) σ
def PG(a0:Value)(K:KT)(σ:Mem):Prop:=xC (bO 3 [a0] []) fun c1=>xM (.int .u64 0) fun v2=>xD 0 (au 1) fun v4=>xO (ah 1 false [v4] c1) fun v5=>ia [v5,.int .i64 1099511627775] (fun v6 σ=>xM v6 fun v3=>a9 (zT K) fun J1=>xD 1 (au 1) fun v7=>xO (ah 1 false [v7] c1) fun v8=>aV v8
 (xM v3 fun v9=>xD 2 (au 1) fun v10=>xO (ah 1 false [v10] c1) fun v11=>ia [v11,.int .i64 4194303] (fun bA σ=>xF (aq .shl .no) [bA,.int .u64 40] fun bm=>xF (aq .or .no) [.int .u64 9223372036854775808,bm] fun bK=>xF (aq .or .no) [v9,bK] fun bh=>xM bh fun v3=>J1 [v3] [] σ) σ)
 (J1 [v3] [] σ)) σ
def ur:Spec:=fun args K σ=>match args with
  | [a0]=>PG a0 K σ
  | _=>False
noncomputable def NB:Cx:={ P:=Tryz.prog,T:=[(66,.none,ia)],loc:=[(1,1),(4,1),(7,1),(10,1)],eqt:=[],n:=17,aL:=[(1000005,[3],[])] }
theorem Y5:cC NB Tryz.f102 (aP Tryz.f102) 1=ur:=by
  funext args K σ
  rcases args with _|⟨a0,_|⟨b,r⟩⟩<;>kernel_rfl
theorem RX:Entry Tryz.prog 102 .none ur:=
  entry (C:=NB) (aS.cons Hb aS.nil) aG Tryz.func102 (by kernel_rfl) (by kernel_rfl) (by kernel_rfl) Y5
attribute [irreducible] vG zT PG ur
def lR(K:KT)(σ:Mem):Prop:=xM (.bool false) fun v4=>K v4 σ
def oM(K:KT)(ts:List Value)(ls:List (List Value))(σ:Mem):Prop:=lR K σ
def rC(K:KT)(J1:JT)(v0:Value)(c3 c8:List Value)(σ:Mem):Prop:=xM v0 fun oN=>xO (ah 9 true [(au 3)] c3) fun nY=>xD 0 (au 3) fun nX=>xO (ah 7 true [nX] c3) fun mH=>xM v0 fun rE=>xF ay [rE] fun sT=>xD 0 sT fun pH=>aj 1 false [pH] (fun ui σ=>gw [mH,ui] (fun uh σ=>xM v0 fun vc=>xF ay [vc] fun ug=>xD 1 ug fun uf=>aj 1 false [uf] (fun sS σ=>xO (ah 4 true [(au 8)] c8) fun sR=>n_ [sR] (fun sQ σ=>fN [nY,uh,sS,sQ] (fun rD σ=>xF ay [oN] fun sP=>xD 6 sP fun sO=>ax 1 [sO,rD] (fun _v σ=>xM (.bool true) fun v4=>K v4 σ) σ) σ) σ) σ) σ) σ
def u_(K:KT)(J1:JT)(ts:List Value)(ls:List (List Value))(σ:Mem):Prop:=rC K J1 (ts.getD 0 ar) (ls.getD 0 []) (ls.getD 1 []) σ
def nW(K:KT)(J1:JT)(v0:Value)(σ:Mem):Prop:=xM v0 fun jO=>xF ay [jO] fun g7=>xD 5 g7 fun fI=>aj 1 false [fI] (fun fH σ=>xF (mV .not) [fH] fun fG=>aV fG
 (xM v0 fun fk=>xF ay [fk] fun fF=>xD 3 fF fun eA=>aj 1 false [eA] (fun fE σ=>xF (aq .add .no) [fE,.int .i64 1] fun fD=>xF ay [fk] fun iG=>xD 3 iG fun gM=>ax 1 [gM,fD] (fun _v σ=>J1 [] [] σ) σ) σ)
 (J1 [] [] σ)) σ
def rB(K:KT)(J1:JT)(ts:List Value)(ls:List (List Value))(σ:Mem):Prop:=nW K J1 (ts.getD 0 ar) σ
def QK(a0 a1:Value)(K:KT)(σ:Mem):Prop:=xC (bO 9 [a1] []) fun c3=>xM (.bool false) fun v4=>xM a0 fun v9=>xF ay [v9] fun v10=>xD 1 v10 fun v11=>aj 1 false [v11] (fun bA σ=>fe [bA] (fun bm σ=>xC (aH 4 [(au 5),bm] [.int .i64 0,.int .i64 0,.int .i64 0,.int .i64 0]) fun c5=>xD 1 (au 5) fun bK=>xO (ah 1 false [bK] c5) fun bh=>xF (aq .add .no) [bh,.int .i64 1] fun bo=>xM a0 fun bB=>xF ay [bB] fun bM=>xD 3 bM fun bJ=>aj 1 false [bJ] (fun v20 σ=>xF (aq .add .no) [bo,v20] fun b5=>xM b5 fun v6=>xM a0 fun b8=>xF ay [b8] fun cu=>xD 4 cu fun cH=>aj 1 false [cH] (fun cN σ=>nz [cN] (fun dE σ=>xC (aH 3 [(au 7),dE] [.int .i64 0,.bool false,.int .i64 0]) fun c7=>a9 (oM K) fun J1=>xM a0 fun gW=>xF ay [gW] fun fB=>xD 3 fB fun gr=>aj 1 false [gr] (fun e9 σ=>xM a0 fun fK=>xF ay [fK] fun gD=>xD 2 gD fun fh=>aj 1 false [fh] (fun dY σ=>xF (aq .geq .no) [e9,dY] fun jo=>xM jo fun gX=>aV gX
 (xD 2 (au 5) fun jI=>xO (ah 1 false [jI] c5) fun jH=>xF (aq .add .no) [jH,.int .i64 1] fun jN=>xF (aM [(0,1),(1,1),(2,1),(3,1)] [.int .i64 0,.int .i64 0,.int .i64 0,.int .i64 0] [0,2]) [.int .i64 0,jN] fun jG=>xC (aH 4 [(au 8),jG] [.int .i64 0,.int .i64 0,.int .i64 0,.int .i64 0]) fun c8=>a9 (u_ K J1) fun J2=>xD 2 (au 5) fun gn=>xO (ah 1 false [gn] c5) fun gk=>xD 0 (au 3) fun gC=>xD 4 gC fun gj=>xO (ah 1 false [gj] c3) fun fT=>xF (aq .geq .no) [gk,fT] fun cQ=>aV cQ
 (xD 2 (au 5) fun pd=>xO (ah 1 false [pd] c5) fun nH=>xF (aM [(0,1),(1,1),(2,1),(3,1)] [.int .i64 0,.int .i64 0,.int .i64 0,.int .i64 0] [0,2]) [.int .i64 3,nH] fun nZ=>xC (aH 4 [(au 8),nZ] c8) fun c8=>J2 [a0] [c3,c8] σ)
 (J2 [a0] [c3,c8] σ))
 (xM a0 fun tL=>xF ay [tL] fun va=>xD 5 va fun tK=>aj 1 false [tK] (fun ue σ=>xF (mV .not) [ue] fun wP=>xM wP fun tM=>aV tM
 (xM a0 fun wO=>xO (ah 9 true [(au 3)] c3) fun wN=>xM v6 fun wM=>cG [wN,wM] (fun i_ σ=>xF ay [wO] fun lU=>xD 4 lU fun ky=>ax 1 [ky,i_] (fun _v σ=>xM a0 fun jQ=>xF ay [jQ] fun jP=>xD 4 jP fun kx=>aj 1 false [kx] (fun jw σ=>nz [jw] (fun j7 σ=>xC (aH 3 [(au 7),j7] c7) fun c7=>a9 (rB K J1) fun J3=>xM a0 fun j6=>xD 1 (au 7) fun kP=>xO (ah 1 false [kP] c7) fun h_=>xF (mV .not) [h_] fun iI=>xM iI fun h9=>aV h9
 (xF aB [.bool true,.bool true,undef] fun g_=>xF ay [j6] fun g8=>xD 5 g8 fun iZ=>ax 1 [iZ,g_] (fun _v σ=>J3 [a0] [] σ) σ)
 (xD 2 (au 7) fun hZ=>xO (ah 1 false [hZ] c7) fun hY=>xD 3 (au 5) fun hH=>xO (ah 1 false [hH] c5) fun iH=>xF (aq .neq .no) [hY,iH] fun e_=>xF aB [.bool false,.bool true,e_] fun g_=>xF ay [j6] fun g8=>xD 5 g8 fun iZ=>ax 1 [iZ,g_] (fun _v σ=>J3 [a0] [] σ) σ)) σ) σ) σ) σ)
 (xM a0 fun dN=>xF ay [dN] fun et=>xD 5 et fun eW=>ax 1 [eW,.bool false] (fun _v σ=>xO (ah 9 true [(au 3)] c3) fun v30=>xM v6 fun eT=>xM a0 fun dM=>xF ay [dM] fun eR=>xD 4 eR fun eQ=>aj 1 false [eQ] (fun dK σ=>xD 0 (au 7) fun dh=>xO (ah 1 false [dh] c7) fun fV=>xD 3 (au 5) fun gu=>xO (ah 1 false [gu] c5) fun fU=>xF (aM [(0,1),(1,1),(2,1)] [.int .i64 0,.bool false,.int .i64 0] [0,1,2]) [fV,.bool true,fU] fun fC=>ur [fC] (fun fj σ=>fN [v30,eT,dK,fj] (fun gL σ=>aV gL
 (xM a0 fun iC=>xF ay [iC] fun iF=>xD 3 iF fun gZ=>aj 1 false [gZ] (fun gY σ=>xF (aq .add .no) [gY,.int .i64 1] fun gP=>xF ay [iC] fun iB=>xD 3 iB fun iA=>ax 1 [iA,gP] (fun _v σ=>J1 [] [] σ) σ) σ)
 (J1 [] [] σ)) σ) σ) σ) σ)) σ)) σ) σ) σ) σ) σ) σ) σ
def yI:Spec:=fun args K σ=>match args with
  | [a0,a1]=>QK a0 a1 K σ
  | _=>False
noncomputable def OR:Cx:={ P:=Tryz.prog,T:=[(62,.none,fe),(101,.none,nz),(63,.none,gw),(69,.none,n_),(49,.write,fN),(54,.write,cG),(102,.none,ur)],loc:=[(3,3),(5,5),(7,7),(8,8),(14,5),(36,7),(38,5),(60,5),(64,5),(66,3),(67,3),(70,5),(75,3),(109,7),(113,7),(115,5)],eqt:=[],n:=133,aL:=[(1000012,[0],[3,8]),(1000018,[0],[]),(1000020,[],[])] }
theorem aae:cC OR Tryz.f88 (aP Tryz.f88) 2=yI:=by
  funext args K σ
  rcases args with _|⟨a0,_|⟨a1,_|⟨b,r⟩⟩⟩<;>kernel_rfl
theorem V4:Entry Tryz.prog 88 .write yI:=
  entry (C:=OR) (aS.cons uz (aS.cons JA (aS.cons xS (aS.cons Hc (aS.cons xT (aS.cons ow (aS.cons RX aS.nil))))))) aG Tryz.func88 (by kernel_rfl) (by kernel_rfl) (by kernel_rfl) aae
attribute [irreducible] lR oM rC u_ nW rB QK yI
def wu(K:KT)(v0 v1 bJ:Value)(σ:Mem):Prop:=aV bJ
 (xM (.int .i64 0) fun v4=>K v4 σ)
 (xM v0 fun v20=>xF ay [v20] fun b5=>xD 1 b5 fun b8=>aj 1 false [b8] (fun cu σ=>xM v1 fun cH=>xF (dx 1) [cu,cH] fun cN=>aj 1 false [cN] (fun dE σ=>xM dE fun v4=>K v4 σ) σ) σ)
def Ag(K:KT)(ts:List Value)(ls:List (List Value))(σ:Mem):Prop:=wu K (ts.getD 0 ar) (ts.getD 1 ar) (ts.getD 2 ar) σ
def Qa(a0 a1:Value)(K:KT)(σ:Mem):Prop:=xM (.int .i64 0) fun v4=>a9 (Ag K) fun J1=>xM a0 fun v5=>xF (aq .eql .ptr) [v5,.pointer none] fun v6=>xM v6 fun v7=>aV v7
 (xF aB [.bool true,.bool true,undef] fun v10=>xM v10 fun v11=>aV v11
 (xF aB [.bool true,.bool true,undef] fun bJ=>J1 [a0,a1,bJ] [] σ)
 (xM a1 fun bA=>xM a0 fun bm=>xF ay [bm] fun bK=>xD 0 bK fun bh=>aj 1 false [bh] (fun bo σ=>xF jS [bo] fun bB=>xF (aq .geq .no) [bA,bB] fun bM=>xF aB [.bool false,.bool true,bM] fun bJ=>J1 [a0,a1,bJ] [] σ) σ))
 (xM a1 fun v8=>xF (aq .lss .no) [v8,.int .i64 0] fun v9=>xF aB [.bool false,.bool true,v9] fun v10=>xM v10 fun v11=>aV v11
 (xF aB [.bool true,.bool true,undef] fun bJ=>J1 [a0,a1,bJ] [] σ)
 (xM a1 fun bA=>xM a0 fun bm=>xF ay [bm] fun bK=>xD 0 bK fun bh=>aj 1 false [bh] (fun bo σ=>xF jS [bo] fun bB=>xF (aq .geq .no) [bA,bB] fun bM=>xF aB [.bool false,.bool true,bM] fun bJ=>J1 [a0,a1,bJ] [] σ) σ))
def Ej:Spec:=fun args K σ=>match args with
  | [a0,a1]=>Qa a0 a1 K σ
  | _=>False
noncomputable def N7:Cx:={ P:=Tryz.prog,T:=[],loc:=[],eqt:=[(25,.ptr)],n:=27,aL:=[(1000003,[0,1,19],[])] }
theorem Zy:cC N7 Tryz.f89 (aP Tryz.f89) 2=Ej:=by
  funext args K σ
  rcases args with _|⟨a0,_|⟨a1,_|⟨b,r⟩⟩⟩<;>kernel_rfl
theorem abo:Entry Tryz.prog 89 .read Ej:=
  entry (C:=N7) aS.nil aG Tryz.func89 (by kernel_rfl) (by kernel_rfl) (by kernel_rfl) Zy
attribute [irreducible] wu Ag Qa Ej
def vJ(K:KT)(v1 v5 bo:Value)(c2:List Value)(σ:Mem):Prop:=aV bo
 (xM (.int .i64 (-1)) fun v4=>K v4 σ)
 (xM v1 fun bB=>xM v5 fun bM=>xF (aq .sub .no) [bB,bM] fun bJ=>xD 3 (au 2) fun v20=>xO (ah 1 false [v20] c2) fun b5=>xF (aq .quo .no) [bJ,b5] fun b8=>xM b8 fun v4=>K v4 σ)
def zW(K:KT)(ts:List Value)(ls:List (List Value))(σ:Mem):Prop:=vJ K (ts.getD 0 ar) (ts.getD 1 ar) (ts.getD 2 ar) (ls.getD 0 []) σ
def PQ(a0 a1:Value)(K:KT)(σ:Mem):Prop:=xC (bO 7 [a0] []) fun c2=>xM (.int .i64 0) fun v4=>xO (ah 7 true [(au 2)] c2) fun v6=>pV [v6,.int .i64 0] (fun v7 σ=>xM v7 fun v5=>a9 (zW K) fun J1=>xM a1 fun v8=>xM v5 fun v9=>xF (aq .lss .no) [v8,v9] fun v10=>xM v10 fun v11=>aV v11
 (xF aB [.bool true,.bool true,undef] fun bo=>J1 [a1,v5,bo] [c2] σ)
 (xM a1 fun bA=>xO (ah 7 true [(au 2)] c2) fun bm=>Bi [bm] (fun bK σ=>xF (aq .geq .no) [bA,bK] fun bh=>xF aB [.bool false,.bool true,bh] fun bo=>J1 [a1,v5,bo] [c2] σ) σ)) σ
def Bh:Spec:=fun args K σ=>match args with
  | [a0,a1]=>PQ a0 a1 K σ
  | _=>False
noncomputable def NM:Cx:={ P:=Tryz.prog,T:=[(24,.none,pV),(58,.none,Bi)],loc:=[(2,2),(20,2)],eqt:=[],n:=23,aL:=[(1000004,[1,5,16],[2])] }
theorem Zd:cC NM Tryz.f21 (aP Tryz.f21) 2=Bh:=by
  funext args K σ
  rcases args with _|⟨a0,_|⟨a1,_|⟨b,r⟩⟩⟩<;>kernel_rfl
theorem VO:Entry Tryz.prog 21 .none Bh:=
  entry (C:=NM) (aS.cons JC (aS.cons VP aS.nil)) aG Tryz.func21 (by kernel_rfl) (by kernel_rfl) (by kernel_rfl) Zd
attribute [irreducible] vJ zW PQ Bh
def ju(K:KT)(σ:Mem):Prop:=xM (.bool false) fun v4=>K v4 σ
def k8(K:KT)(ts:List Value)(ls:List (List Value))(σ:Mem):Prop:=ju K σ
def Ck(a0 a1:Value)(K:KT)(σ:Mem):Prop:=xC (bO 9 [a1] []) fun c3=>xM (.bool false) fun v4=>xD 0 (au 3) fun v8=>xO (ah 7 true [v8] c3) fun v9=>xM a0 fun v10=>xF ay [v10] fun v11=>xD 2 v11 fun bA=>xD 0 bA fun bm=>aj 1 false [bm] (fun bK σ=>gw [v9,bK] (fun bh σ=>xM bh fun v5=>a9 (k8 K) fun J1=>xM a0 fun bo=>xF ay [bo] fun bB=>xD 4 bB fun bM=>aj 1 false [bM] (fun bJ σ=>xF (aq .eql .no) [bJ,.int .i64 0] fun dN=>xM dN fun dE=>aV dE
 (xM a0 fun et=>xO (ah 9 true [(au 3)] c3) fun eW=>GM [et,eW] (fun v30 σ=>xM v30 fun v4=>K v4 σ) σ)
 (xF (aq .eql .no) [bJ,.int .i64 1] fun dM=>xM dM fun eT=>aV eT
 (xO (ah 9 true [(au 3)] c3) fun eR=>xM a0 fun eQ=>xF ay [eQ] fun dK=>xD 5 dK fun dh=>aj 1 false [dh] (fun fV σ=>fe [fV] (fun gu σ=>xF (b7 1 1 false) [gu] fun fU=>cG [eR,fU] (fun fC σ=>xh [fC] (fun fj σ=>xC (aH 5 [(au 6),fj] [.int .i64 0,.int .i64 0,.int .i64 0,.int .i64 0,.bool false]) fun c6=>xD 4 (au 6) fun gL=>xO (ah 1 false [gL] c6) fun iC=>xM a0 fun iF=>xF ay [iF] fun gZ=>xD 1 gZ fun gY=>aj 1 false [gY] (fun gP σ=>xF (aq .neq .bool) [iC,gP] fun iB=>aV iB
 (xM a0 fun iA=>xO (ah 9 true [(au 3)] c3) fun gX=>yE [iA,gX] (fun gW σ=>xM gW fun v4=>K v4 σ) σ)
 (xM a0 fun fB=>xM a0 fun gr=>xD 1 (au 6) fun e9=>xO (ah 1 false [e9] c6) fun fK=>xF ay [fB] fun gD=>xD 6 gD fun fh=>ax 1 [fh,fK] (fun _v σ=>xF ay [gr] fun dY=>xD 4 dY fun jo=>ax 1 [jo,.int .i64 2] (fun _v σ=>xM a0 fun jI=>xF ay [jI] fun jH=>xD 5 jH fun jN=>aj 1 false [jN] (fun jG σ=>fe [jG] (fun gn σ=>xF (b7 0 1 false) [gn] fun gk=>xF (aq .eql .no) [gk,.int .i64 4] fun gC=>aV gC
 (xM a0 fun gj=>xM a0 fun fT=>xM a0 fun cQ=>xF ay [cQ] fun pd=>xD 2 pd fun nH=>xD 0 nH fun nZ=>aj 1 false [nZ] (fun oN σ=>xM a0 fun nY=>xF ay [nY] fun nX=>xD 5 nX fun mH=>aj 1 false [mH] (fun rE σ=>xM a0 fun sT=>xF ay [sT] fun pH=>xD 6 pH fun ui=>aj 1 false [ui] (fun uh σ=>rM [oN,rE,uh] (fun vc σ=>xF ay [gj] fun ug=>xD 7 ug fun uf=>ax 1 [uf,vc] (fun _v σ=>xF ay [fT] fun sS=>xD 4 sS fun sR=>ax 1 [sR,.int .i64 4] (fun _v σ=>J1 [] [] σ) σ) σ) σ) σ) σ) σ)
 (J1 [] [] σ)) σ) σ) σ) σ)) σ) σ) σ) σ) σ)
 (xF (aq .eql .no) [bJ,.int .i64 2] fun rD=>xM rD fun sQ=>aV sQ
 (xM a0 fun sP=>xO (ah 9 true [(au 3)] c3) fun sO=>GN [sP,sO] (fun tM σ=>J1 [] [] σ) σ)
 (xF (aq .eql .no) [bJ,.int .i64 3] fun va=>xM va fun tL=>aV tL
 (xM a0 fun tK=>xF ay [tK] fun ue=>xD 7 ue fun wP=>aj 1 false [wP] (fun wO σ=>xO (ah 9 true [(au 3)] c3) fun wN=>yI [wO,wN] (fun wM σ=>aV wM
 (xM a0 fun i_=>xM a0 fun lU=>xD 7 (au 3) fun ky=>xO (ah 1 false [ky] c3) fun jQ=>xM v5 fun jP=>Ej [jQ,jP] (fun kx σ=>xF (aM [(0,1),(1,1),(2,1),(3,1)] [.int .i64 0,.int .u64 0,.int .i64 0,.int .i64 0] [3]) [kx] fun jw=>xF ay [i_] fun j7=>xD 9 j7 fun j6=>ax 4 [j6,jw] (fun _v σ=>xF ay [lU] fun kP=>xD 4 kP fun h_=>ax 1 [h_,.int .i64 5] (fun _v σ=>J1 [] [] σ) σ) σ) σ)
 (J1 [] [] σ)) σ) σ)
 (xF (aq .eql .no) [bJ,.int .i64 4] fun h9=>xM h9 fun iI=>aV iI
 (xM a0 fun hZ=>xF ay [hZ] fun hY=>xD 7 hY fun hH=>aj 1 false [hH] (fun iH σ=>xO (ah 9 true [(au 3)] c3) fun e_=>yI [iH,e_] (fun g_ σ=>aV g_
 (xM a0 fun g8=>xF ay [g8] fun iZ=>xD 4 iZ fun jO=>ax 1 [jO,.int .i64 0] (fun _v σ=>J1 [] [] σ) σ)
 (J1 [] [] σ)) σ) σ)
 (xF (aq .eql .no) [bJ,.int .i64 5] fun fI=>xM fI fun g7=>aV g7
 (xD 0 (au 3) fun fH=>xO (ah 7 true [fH] c3) fun fG=>xM a0 fun fk=>xF ay [fk] fun fF=>xD 5 fF fun eA=>aj 1 false [eA] (fun fE σ=>fe [fE] (fun fD σ=>xF (b7 1 1 false) [fD] fun iG=>Bh [fG,iG] (fun gM σ=>xM gM fun v7=>xO (ah 9 true [(au 3)] c3) fun iY=>xD 0 (au 3) fun iX=>xO (ah 7 true [iX] c3) fun iW=>xM v7 fun iV=>ff [iW,iV] (fun iU σ=>xF (aq .add .no) [iU,.int .i64 1] fun iT=>xM a0 fun jv=>xF ay [jv] fun lS=>xD 6 lS fun mK=>aj 1 false [mK] (fun mJ σ=>pU [mJ] (fun mI σ=>nB [mI] (fun kv σ=>xF (mV .neg) [kv] fun pR=>uv [iY,iT,pR] (fun rG σ=>xM a0 fun pQ=>xM a0 fun pP=>xM a0 fun pN=>xF ay [pN] fun pM=>xD 2 pM fun pL=>xD 0 pL fun pK=>aj 1 false [pK] (fun rF σ=>xf [rF] (fun pJ σ=>xF ay [pQ] fun sU=>xD 8 sU fun w9=>ax 1 [w9,pJ] (fun _v σ=>xF ay [pP] fun w8=>xD 4 w8 fun w7=>ax 1 [w7,.int .i64 6] (fun _v σ=>xM a0 fun wZ=>xF ay [wZ] fun wY=>xD 2 wY fun wX=>xD 1 wX fun wW=>aj 1 false [wW] (fun wV σ=>xD 0 (au 3) fun wU=>xD 4 wU fun pI=>xO (ah 1 false [pI] c3) fun wT=>xF (aq .geq .no) [wV,wT] fun wR=>xM wR fun v4=>K v4 σ) σ) σ) σ) σ) σ) σ) σ) σ) σ) σ) σ) σ) σ)
 (xM a0 fun v20=>xF ay [v20] fun b5=>xD 8 b5 fun b8=>aj 1 false [b8] (fun cu σ=>xO (ah 9 true [(au 3)] c3) fun cH=>Ba [cu,cH] (fun cN σ=>xM cN fun v4=>K v4 σ) σ) σ))))))) σ) σ) σ
def nC:Spec:=fun args K σ=>match args with
  | [a0,a1]=>Ck a0 a1 K σ
  | _=>False
noncomputable def Oi:Cx:={ P:=Tryz.prog,T:=[(63,.none,gw),(84,.write,GM),(62,.none,fe),(54,.write,cG),(31,.none,xh),(85,.write,yE),(86,.write,rM),(87,.write,GN),(88,.write,yI),(89,.read,Ej),(21,.none,Bh),(23,.none,ff),(36,.write,pU),(80,.none,nB),(79,.write,uv),(78,.write,xf),(83,.write,Ba)],loc:=[(3,3),(6,6),(8,3),(42,6),(54,6),(102,3),(124,3),(134,3),(164,3),(165,3)],eqt:=[(4,.bool)],n:=168,aL:=[(1000027,[],[])] }
theorem ZK:cC Oi Tryz.f45 (aP Tryz.f45) 2=nC:=by
  funext args K σ
  rcases args with _|⟨a0,_|⟨a1,_|⟨b,r⟩⟩⟩<;>kernel_rfl
theorem abx:Entry Tryz.prog 45 .write nC:=
  entry (C:=Oi) (aS.cons xS (aS.cons abv (aS.cons uz (aS.cons ow (aS.cons RY (aS.cons VT (aS.cons R5 (aS.cons abw (aS.cons V4 (aS.cons abo (aS.cons VO (aS.cons BN (aS.cons Lu (aS.cons He (aS.cons R0 (aS.cons VD (aS.cons VE aS.nil))))))))))))))))) aG Tryz.func45 (by kernel_rfl) (by kernel_rfl) (by kernel_rfl) ZK
attribute [irreducible] ju k8 Ck nC
def Qm(a0:Value)(K:KT)(σ:Mem):Prop:=xM a0 fun v3=>xF (aq .eql .ptr) [v3,.pointer none] fun v4=>aV v4
 (xF (aM [(0,1),(1,1),(2,1),(3,1)] [.int .i64 0,.int .u64 0,.int .i64 0,.int .i64 0] [0]) [.int .i64 1] fun v5=>xC (aH 4 [(au 2),v5] [.int .i64 0,.int .u64 0,.int .i64 0,.int .i64 0]) fun c2=>xO (ah 4 true [(au 2)] c2) fun r2=>K r2 σ)
 (xM a0 fun v6=>xF ay [v6] fun v7=>xD 9 v7 fun v8=>aj 4 true [v8] (fun v9 σ=>xC (aH 4 [(au 2),v9] [.int .i64 0,.int .u64 0,.int .i64 0,.int .i64 0]) fun c2=>xO (ah 4 true [(au 2)] c2) fun r2=>K r2 σ) σ)
def CK:Spec:=fun args K σ=>match args with
  | [a0]=>Qm a0 K σ
  | _=>False
noncomputable def Oj:Cx:={ P:=Tryz.prog,T:=[],loc:=[(2,2)],eqt:=[(96,.ptr)],n:=10,aL:=[] }
theorem ZL:cC Oj Tryz.f46 (aP Tryz.f46) 1=CK:=by
  funext args K σ
  rcases args with _|⟨a0,_|⟨b,r⟩⟩<;>kernel_rfl
theorem aby:Entry Tryz.prog 46 .read CK:=
  entry (C:=Oj) aS.nil aG Tryz.func46 (by kernel_rfl) (by kernel_rfl) (by kernel_rfl) ZL
attribute [irreducible] Qm CK
def wm(K:KT)(v7:Value)(c6:List Value)(σ:Mem):Prop:=xM v7 fun bJ=>CK [bJ] (fun v20 σ=>xC (aH 4 [(au 6),v20] c6) fun c6=>xO (ah 4 true [(au 6)] c6) fun r6=>K r6 σ) σ
def uR(K:KT)(ts:List Value)(ls:List (List Value))(σ:Mem):Prop:=wm K (ts.getD 0 ar) (ls.getD 0 []) σ
def iR(K:KT)(J1 R1:JT)(v7 v8:Value)(c3 c6:List Value)(σ:Mem):Prop:=xM v8 fun bA=>xF (aq .lss .no) [bA,.int .i64 200] fun bm=>aV bm
 (xM v7 fun bo=>xO (ah 9 true [(au 3)] c3) fun bB=>nC [bo,bB] (fun bM σ=>aV bM
 (J1 [v7] [c6] σ)
 (xM v8 fun bK=>xF (aq .add .no) [bK,.int .i64 1] fun bh=>xM bh fun v8=>R1 [v7,v8] [c3,c6] σ)) σ)
 (J1 [v7] [c6] σ)
def jL(K:KT)(J1 R1:JT)(ts:List Value)(ls:List (List Value))(σ:Mem):Prop:=iR K J1 R1 (ts.getD 0 ar) (ts.getD 1 ar) (ls.getD 0 []) (ls.getD 1 []) σ
def P9(a0 a1 a2:Value)(K:KT)(σ:Mem):Prop:=xC (bO 9 [a0] []) fun c3=>xM a1 fun v9=>xM a2 fun v10=>CP [v9,v10] (fun v11 σ=>xM v11 fun v7=>a9 (uR K) fun J1=>xM (.int .i64 0) fun v8=>eY (jL K J1) [v7,v8] [c3,[.int .i64 0,.int .u64 0,.int .i64 0,.int .i64 0]] σ) σ
def tf:Spec:=fun args K σ=>match args with
  | [a0,a1,a2]=>P9 a0 a1 a2 K σ
  | _=>False
noncomputable def N5:Cx:={ P:=Tryz.prog,T:=[(44,.write,CP),(45,.write,nC),(46,.read,CK)],loc:=[(3,3),(6,6)],eqt:=[],n:=21,aL:=[(4,[7,8],[3,6]),(1000007,[7],[6])] }
theorem Zw:cC N5 Tryz.f17 (aP Tryz.f17) 3=tf:=by
  funext args K σ
  rcases args with _|⟨a0,_|⟨a1,_|⟨a2,_|⟨b,r⟩⟩⟩⟩<;>kernel_rfl
theorem VR:Entry Tryz.prog 17 .write tf:=
  entry (C:=N5) (aS.cons abQ (aS.cons abx (aS.cons aby aS.nil))) aG Tryz.func17 (by kernel_rfl) (by kernel_rfl) (by kernel_rfl) Zw
attribute [irreducible] wm uR iR jL P9 tf
def Qn(K:KT)(σ:Mem):Prop:=xM (.pointer none) fun v0=>xF (aM [(0,1),(1,1),(2,1),(3,1),(4,1),(5,1),(6,1),(7,1),(8,1),(9,5),(14,5),(19,1)] [.int .i64 0,(.slice none 0 0),.int .i64 0,.int .i64 0,.int .u64 0,.int .u64 0,.pointer none,.pointer none,.pointer none,.int .i64 0,.int .i64 0,.int .i64 0,.int .i64 0,.int .i64 0,.int .i64 0,.int .i64 0,.int .i64 0,.int .i64 0,.int .i64 0,.int .i64 0] []) [] fun v1=>jD 20 [v1] (fun v2 σ=>xM v2 fun v0=>K v0 σ) σ
def Bj:Spec:=fun args K σ=>match args with
  | []=>Qn  K σ
  | _=>False
noncomputable def Ok:Cx:={ P:=Tryz.prog,T:=[],loc:=[],eqt:=[],n:=3,aL:=[] }
theorem ZM:cC Ok Tryz.f14 (aP Tryz.f14) 0=Bj:=by
  funext args K σ
  rcases args with _|⟨b,r⟩<;>kernel_rfl
theorem VU:Entry Tryz.prog 14 .write Bj:=
  entry (C:=Ok) aS.nil aG Tryz.func14 (by kernel_rfl) (by kernel_rfl) (by kernel_rfl) ZM
attribute [irreducible] Qn Bj
def wv(K:KT)(v0 v1 bJ:Value)(σ:Mem):Prop:=aV bJ
 (xM (.int .u64 0) fun v4=>K v4 σ)
 (xM v0 fun v20=>xF ay [v20] fun b5=>xD 0 b5 fun b8=>aj 1 false [b8] (fun cu σ=>xM v1 fun cH=>xF (dx 1) [cu,cH] fun cN=>aj 1 false [cN] (fun dE σ=>xM dE fun v4=>K v4 σ) σ) σ)
def Ah(K:KT)(ts:List Value)(ls:List (List Value))(σ:Mem):Prop:=wv K (ts.getD 0 ar) (ts.getD 1 ar) (ts.getD 2 ar) σ
def Qd(a0 a1:Value)(K:KT)(σ:Mem):Prop:=xM (.int .u64 0) fun v4=>a9 (Ah K) fun J1=>xM a0 fun v5=>xF (aq .eql .ptr) [v5,.pointer none] fun v6=>xM v6 fun v7=>aV v7
 (xF aB [.bool true,.bool true,undef] fun v10=>xM v10 fun v11=>aV v11
 (xF aB [.bool true,.bool true,undef] fun bJ=>J1 [a0,a1,bJ] [] σ)
 (xM a1 fun bA=>xM a0 fun bm=>xF ay [bm] fun bK=>xD 0 bK fun bh=>aj 1 false [bh] (fun bo σ=>xF jS [bo] fun bB=>xF (aq .geq .no) [bA,bB] fun bM=>xF aB [.bool false,.bool true,bM] fun bJ=>J1 [a0,a1,bJ] [] σ) σ))
 (xM a1 fun v8=>xF (aq .lss .no) [v8,.int .i64 0] fun v9=>xF aB [.bool false,.bool true,v9] fun v10=>xM v10 fun v11=>aV v11
 (xF aB [.bool true,.bool true,undef] fun bJ=>J1 [a0,a1,bJ] [] σ)
 (xM a1 fun bA=>xM a0 fun bm=>xF ay [bm] fun bK=>xD 0 bK fun bh=>aj 1 false [bh] (fun bo σ=>xF jS [bo] fun bB=>xF (aq .geq .no) [bA,bB] fun bM=>xF aB [.bool false,.bool true,bM] fun bJ=>J1 [a0,a1,bJ] [] σ) σ))
def CJ:Spec:=fun args K σ=>match args with
  | [a0,a1]=>Qd a0 a1 K σ
  | _=>False
noncomputable def N':Cx:={ P:=Tryz.prog,T:=[],loc:=[],eqt:=[(25,.ptr)],n:=27,aL:=[(1000003,[0,1,19],[])] }
theorem ZB:cC N' Tryz.f13 (aP Tryz.f13) 2=CJ:=by
  funext args K σ
  rcases args with _|⟨a0,_|⟨a1,_|⟨b,r⟩⟩⟩<;>kernel_rfl
theorem abq:Entry Tryz.prog 13 .read CJ:=
  entry (C:=N') aS.nil aG Tryz.func13 (by kernel_rfl) (by kernel_rfl) (by kernel_rfl) ZB
attribute [irreducible] wv Ah Qd CJ
end Go.Fl
