/- What the claim leans on, part 4: own readings of the program's functions, what they come to, laws of them. No condition. -/
import Derived.Test.YtedpfdkhebmocaaGreatZCompactPending3
namespace Go.Fl
open Go
set_option linter.unusedVariables false
set_option linter.unusedSimpArgs false
variable {N:Nm} {A B:Ar} {σ:Mem} {K:Value→Mem→Prop} {C:Cf} {who:Int}
structure Sn where
 st:Int
 cl:Int
 us:Int
 sp:Int
 live:Int
 op:Bool
def Sn.l (x:Sn):List Value:=[.int .i64 x.st,.int .i64 x.cl,.int .i64 x.us,.int .i64 x.sp,.int .i64 x.live,.bool x.op]
def snL:List Sn→List Value
 | []=>[]
 | x :: l=>x.l ++ snL l
theorem snL_len:∀ {l:List Sn},(snL l).length=l.length*6
 | []=>rfl
 | x :: l=>by show (x.l ++ snL l).length=_; rw [List.length_append,snL_len (l:=l)]; show 6+l.length*6=(l.length+1)*6; omega
theorem snL_app:∀ {l m:List Sn},snL (l ++ m)=snL l ++ snL m
 | [],m=>rfl
 | x :: l,m=>by show x.l ++ snL (l ++ m)=(x.l ++ snL l) ++ snL m; rw [snL_app,List.append_assoc]
theorem snL_split {l:List Sn} {i:Nat} {x:Sn} (h:l[i]?=some x):snL l=snL (l.take i) ++ x.l ++ snL (l.drop (i+1))∧(snL (l.take i)).length=i*6:=by
 have hi:i<l.length:=(List.getElem?_eq_some_iff.1 h).1
 have e:l=l.take i ++ x :: l.drop (i+1):=by
  have hx:l[i]=x:=(List.getElem?_eq_some_iff.1 h).2
  rw [← hx,List.getElem_cons_drop]; exact (List.take_append_drop i l).symm
 refine ⟨?_,by rw [snL_len,List.length_take]; congr 1; omega⟩
 conv=>lhs; rw [e]
 rw [snL_app]
 show snL (l.take i) ++ (x.l ++ snL (l.drop (i+1)))=_
 rw [List.append_assoc]
theorem sn_sub {l:List Sn} {i k sz:Nat} {ag:Bool} {x:Sn} {v:Value} (h:l[i]?=some x) (hz:0<sz) (hk:k+sz≤6) (hv:sub x.l k sz ag=some v):sub (snL l) (i*6+k) sz ag=some v:=by
 obtain ⟨e,hl⟩:=snL_split h
 rw [e,← hl,sub_app hz hk,hv]
theorem sn_lay {l:List Sn} {i k:Nat} {x y:Sn} {vs:List Value} (h:l[i]?=some x) (hk:k+vs.length≤6) (hv:lay x.l k vs=y.l):lay (snL l) (i*6+k) vs=snL (l.set i y):=by
 obtain ⟨e,hl⟩:=snL_split h
 have hi:i<l.length:=(List.getElem?_eq_some_iff.1 h).1
 have h2:(l.set i y)[i]?=some y:=by rw [List.getElem?_set]; simp [hi]
 obtain ⟨e2,_⟩:=snL_split h2
 rw [e,← hl,lay_app hk,hv,e2,List.take_set_of_le (Nat.le_refl i),List.drop_set_of_lt (Nat.lt_succ_self i)]
def Sn.may (C:Cf) (x:Sn):Prop:=x.st=1∧x.op=false∧0<x.us∧(x.live≤0∨IntKind.i64.wrap (1000*x.live)<IntKind.i64.wrap (C.P*x.us))
instance {x:Sn}:Decidable (x.may C):=inferInstanceAs (Decidable (_∧_))
def Chosen (C:Cf) (l:List Sn) (r:Int):Prop:=r = -1∧(∀ x ∈ l,¬ x.may C)∨0≤r∧∃ x,l[r.toNat]?=some x∧x.may C
def Least (C:Cf) (l:List Sn) (r:Int):Prop:=0≤r→∀ x,l[r.toNat]?=some x→∀ k:Int,0≤k→∀ y,l[k.toNat]?=some y→y.may C→x.live≤y.live
theorem ldSn {b:Nat} {rw:Bool} {l:List Sn} {i k sz:Nat} {ag:Bool} {x:Sn} {v:Value} (hb:σ.get b=some ⟨snL l,rw⟩) (h:l[i]?=some x) (hz:0<sz) (hk:k+sz≤6) (hv:sub x.l k sz ag=some v):hLoad sz ag [.pointer (some ⟨b,i*6+k,none⟩)] K σ=K v σ:=by
 rw [hLoad_eq hb,sn_sub h hz hk hv,xOs]
theorem box6 {x:Sn}:gBox 6 [.agg x.l.toArray] []=some x.l:=nr rfl
theorem c_May {x:Sn}:s_c3 [C.v,.agg x.l.toArray] K σ=K (.bool (decide (x.may C))) σ:=by
 have e0:sub x.l 0 1 false=some (.int .i64 x.st):=rfl
 have e2:sub x.l 2 1 false=some (.int .i64 x.us):=rfl
 have e4:sub x.l 4 1 false=some (.int .i64 x.live):=rfl
 have e5:sub x.l 5 1 false=some (.bool x.op):=rfl
 have e6:sub C.l 5 1 false=some (.int .i64 C.P):=rfl
 have key:decide (x.may C)=(decide (x.st=1) && (!x.op) && decide (0<x.us) && (decide (x.live≤0) || decide (IntKind.i64.wrap (1000*x.live)<IntKind.i64.wrap (C.P*x.us)))):=by
  have e:decide (x.may C)=true ↔ x.st=1∧x.op=false∧0<x.us∧(x.live≤0∨IntKind.i64.wrap (1000*x.live)<IntKind.i64.wrap (C.P*x.us)):=decide_eq_true_iff
  rw [Bool.eq_iff_iff,e]
  simp only [Bool.and_eq_true,Bool.or_eq_true,decide_eq_true_eq,Bool.not_eq_true']
  constructor
  ·rintro ⟨a,b,c,d⟩; exact ⟨⟨⟨a,b⟩,c⟩,d⟩
  ·rintro ⟨⟨⟨a,b⟩,c⟩,d⟩; exact ⟨a,b,c,d⟩
 rw [key]
 simp only [s_c3,w_c3,gBoxC,box6,e0,e2,e4,e5,e6,ruS,ruL,ruE,Nat.reduceAdd,reduceIte,Int.reduceLT,Int.reduceLE,Int.reduceEq,Int.reduceNeg,Int.reduceAdd,Int.reduceSub,Nat.reduceLeDiff,Nat.reduceLT]
 cases x.op <;> by_cases c1:x.st=1 <;> by_cases c2:0<x.us <;> by_cases c3:x.live≤0 <;> simp only [c1,c2,c3,e0,e2,e4,e5,e6,Bool.not_true,Bool.not_false,decide_true,decide_false,Bool.and_true,Bool.true_and,Bool.false_and,Bool.and_false,Bool.true_or,Bool.false_or,ruS,ruL,ruE,Nat.reduceAdd,reduceIte,Int.reduceLT,Int.reduceLE,Int.reduceEq,Int.reduceNeg,Int.reduceAdd,Int.reduceSub,Nat.reduceLeDiff,Nat.reduceLT]
theorem c_better {b:Nat} {rw:Bool} {l:List Sn} {x y:Int} (hb:σ.get b=some ⟨snL l,rw⟩) (hx:x = -1∨0≤x∧x<l.length) (hy:0≤y∧y<l.length) (hk:∀ r,(r=x∧0≤x∧(∀ a d,l[x.toNat]?=some a→l[y.toNat]?=some d→a.live≤d.live)∨r=y)→K (.int .i64 r) σ) :
  s_c4 [.slice (some ⟨b,0,none⟩) l.length 6,.int .i64 x,.int .i64 y] K σ:=by
 have fin:∀ c:Bool,(c=true→0≤x∧(∀ a d,l[x.toNat]?=some a→l[y.toNat]?=some d→a.live≤d.live))→w_c4_j1 K [.int .i64 x,.int .i64 y,.bool c] [] σ:=fun c hc=>by
  cases c with
  | true=>simp only [w_c4_j1,w_c4_j1b,ruS,ruL,ruE,Nat.reduceAdd,reduceIte,Int.reduceLT,Int.reduceLE,Int.reduceEq,Int.reduceNeg,Int.reduceAdd,Int.reduceSub,Nat.reduceLeDiff,Nat.reduceLT]; exact hk x (.inl ⟨rfl,(hc rfl).1,(hc rfl).2⟩)
  | false=>simp only [w_c4_j1,w_c4_j1b,ruS,ruL,ruE,Nat.reduceAdd,reduceIte,Int.reduceLT,Int.reduceLE,Int.reduceEq,Int.reduceNeg,Int.reduceAdd,Int.reduceSub,Nat.reduceLeDiff,Nat.reduceLT]; exact hk y (.inr rfl)
 simp only [s_c4,w_c4,ruS,ruL,ruE,Nat.reduceAdd,reduceIte,Int.reduceLT,Int.reduceLE,Int.reduceEq,Int.reduceNeg,Int.reduceAdd,Int.reduceSub,Nat.reduceLeDiff,Nat.reduceLT]
 rcases hx with rfl | hx
 ·simp only [ruS,ruL,ruE,Nat.reduceAdd,reduceIte,Int.reduceLT,Int.reduceLE,Int.reduceEq,Int.reduceNeg,Int.reduceAdd,Int.reduceSub,Nat.reduceLeDiff,Nat.reduceLT]; exact fin false fun q=>by cases q
 ·have c0:0≤x:=hx.1
  obtain ⟨a,ha⟩:∃ a,l[x.toNat]?=some a:=⟨_,List.getElem?_eq_getElem (by omega)⟩
  obtain ⟨d,hd⟩:∃ d,l[y.toNat]?=some d:=⟨_,List.getElem?_eq_getElem (by omega)⟩
  simp only [c0,xIxS hx.1 hx.2,xIxS hy.1 hy.2,Nat.zero_add,ruS,ruL,ruE,Nat.reduceAdd,reduceIte,Int.reduceLT,Int.reduceLE,Int.reduceEq,Int.reduceNeg,Int.reduceAdd,Int.reduceSub,Nat.reduceLeDiff,Nat.reduceLT]
  rw [ldSn hb ha (by decide) (by decide) (show sub a.l 4 1 false=some (.int .i64 a.live) from rfl),ldSn hb hd (by decide) (by decide) (show sub d.l 4 1 false=some (.int .i64 d.live) from rfl)]
  simp only [ruS,ruL,ruE,Nat.reduceAdd,reduceIte,Int.reduceLT,Int.reduceLE,Int.reduceEq,Int.reduceNeg,Int.reduceAdd,Int.reduceSub,Nat.reduceLeDiff,Nat.reduceLT]
  exact fin _ fun q=>⟨hx.1,fun a' d' ea ed=>by rw [ha] at ea; rw [hd] at ed; cases ea; cases ed; exact of_decide_eq_true q⟩
theorem c_Choose {b:Nat} {rw:Bool} {l:List Sn} (hl:l.length≤1000) (hb:σ.get b=some ⟨snL l,rw⟩) (hk:∀ r,Chosen C l r→Least C l r→K (.int .i64 r) σ):s_c2 [C.v,.slice (some ⟨b,0,none⟩) l.length 6] K σ:=by
 simp only [s_c2,w_c2,gBoxC,xLen,ruS,ruL,ruE,Nat.reduceAdd,reduceIte,Int.reduceLT,Int.reduceLE,Int.reduceEq,Int.reduceNeg,Int.reduceAdd,Int.reduceSub,Nat.reduceLeDiff,Nat.reduceLT]
 refine xLoop_r (fun m ts ls τ=>∃ i best:Int,m=(l.length - i).toNat∧ts=[.slice (some ⟨b,0,none⟩) l.length 6,.int .i64 best,.slice (some ⟨b,0,none⟩) l.length 6,.int .i64 l.length,.int .i64 i]∧ls=[C.l]∧τ=σ∧0≤i∧i≤l.length ∧
   (best = -1∧(∀ k:Int,0≤k→k<i→∀ x,l[k.toNat]?=some x→¬ x.may C)∨(0≤best∧best<i)∧∃ x,l[best.toNat]?=some x∧x.may C∧∀ k:Int,0≤k→k<i→∀ y,l[k.toNat]?=some y→y.may C→x.live≤y.live)) ?_ (n:=l.length)
  ⟨0,-1,by omega,rfl,rfl,rfl,by omega,by omega,.inl ⟨rfl,fun k k0 k1=>by omega⟩⟩
 rintro m ts ls τ ⟨i,best,rfl,rfl,rfl,rfl,i0,i1,hI⟩ R hR
 simp only [w_policy_Choose_l4,w_policy_Choose_l4b,ruS,ruL,ruE,Nat.reduceAdd,reduceIte,Int.reduceLT,Int.reduceLE,Int.reduceEq,Int.reduceNeg,Int.reduceAdd,Int.reduceSub,Nat.reduceLeDiff,Nat.reduceLT]
 by_cases ci:i<l.length
 rotate_left
 ·simp only [ci,w_c2_j1,w_c2_j1b,ruS,ruL,ruE,Nat.reduceAdd,reduceIte,Int.reduceLT,Int.reduceLE,Int.reduceEq,Int.reduceNeg,Int.reduceAdd,Int.reduceSub,Nat.reduceLeDiff,Nat.reduceLT]
  rcases hI with ⟨e,h⟩ | ⟨h1,x,h2,h3,h4⟩
  ·refine hk best (.inl ⟨e,fun x hx=>?_⟩) fun b0=>by omega
   obtain ⟨k,hk',e2⟩:=List.getElem_of_mem hx
   exact h k (by omega) (by omega) x (by rw [Int.toNat_natCast]; exact List.getElem?_eq_some_iff.2 ⟨hk',e2⟩)
  ·refine hk best (.inr ⟨h1.1,x,h2,h3⟩) fun _ x' hx' k k0 y hy hm=>?_
   rw [h2] at hx'; cases hx'
   have hkl:=(List.getElem?_eq_some_iff.1 hy).1
   exact h4 k k0 (by omega) y hy hm
 obtain ⟨x,hx⟩:∃ x,l[i.toNat]?=some x:=⟨_,List.getElem?_eq_getElem (by omega)⟩
 have g6:∀ {q:Nat},gStore 6 [.pointer (some ⟨q,0,some 0⟩),.agg x.l.toArray] [.int .i64 0,.int .i64 0,.int .i64 0,.int .i64 0,.int .i64 0,.bool false]=some x.l:=fun {q}=>rfl
 have s6:∀ x:Sn,sub x.l 0 6 true=some (.agg x.l.toArray):=fun x=>rfl
 have nxt:∀ best',(best' = -1∧(∀ k:Int,0≤k→k<i+1→∀ x,l[k.toNat]?=some x→¬ x.may C)∨(0≤best'∧best'<i+1)∧∃ x,l[best'.toNat]?=some x∧x.may C∧∀ k:Int,0≤k→k<i+1→∀ y,l[k.toNat]?=some y→y.may C→x.live≤y.live) →
   w_c2_j2 K (w_c2_j1 K) R [.slice (some ⟨b,0,none⟩) l.length 6,.int .i64 best',.slice (some ⟨b,0,none⟩) l.length 6,.int .i64 l.length,.int .i64 i] [C.l] τ:=by
  intro best' h
  simp only [w_c2_j2,w_c2_j2b,ruS,ruL,ruE,Nat.reduceAdd,reduceIte,Int.reduceLT,Int.reduceLE,Int.reduceEq,Int.reduceNeg,Int.reduceAdd,Int.reduceSub,Nat.reduceLeDiff,Nat.reduceLT]
  rw [IntWalk.i64_in (i+1) (by omega)]
  exact hR (l.length - (i+1)).toNat _ _ _ (by omega) ⟨i+1,best',rfl,rfl,rfl,rfl,by omega,by omega,h⟩
 simp only [ci,xIxS i0 ci,Nat.zero_add,ruS,ruL,ruE,Nat.reduceAdd,reduceIte,Int.reduceLT,Int.reduceLE,Int.reduceEq,Int.reduceNeg,Int.reduceAdd,Int.reduceSub,Nat.reduceLeDiff,Nat.reduceLT]
 have h0:=ldSn (K:=fun v σ=>xC (gStore 6 [.pointer (some ⟨7,0,some 0⟩),v] [.int .i64 0,.int .i64 0,.int .i64 0,.int .i64 0,.int .i64 0,.bool false]) fun c7=>xO (sub C.l 0 7 true) fun v16=>xO (sub c7 0 6 true) fun v17=>s_c3 [v16,v17] (fun v18 σ=>xF (fUn .not) [v18] fun v19=>xIf v19 (w_c2_j2 K (w_c2_j1 K) R [.slice (some ⟨b,0,none⟩) l.length 6,.int .i64 best,.slice (some ⟨b,0,none⟩) l.length 6,.int .i64 l.length,.int .i64 i] [C.l] σ) True) σ) hb hx (k:=0) (by decide) (by decide) (s6 x)
 clear h0
 rw [show i.toNat*6=i.toNat*6+0 from rfl,ldSn hb hx (by decide) (by decide) (s6 x)]
 simp only [g6,subC,s6,c_May,ruS,ruL,ruE,Nat.reduceAdd,reduceIte,Int.reduceLT,Int.reduceLE,Int.reduceEq,Int.reduceNeg,Int.reduceAdd,Int.reduceSub,Nat.reduceLeDiff,Nat.reduceLT]
 by_cases cm:x.may C
 rotate_left
 ·simp only [cm,decide_false,Bool.not_false,ruS,ruL,ruE,Nat.reduceAdd,reduceIte,Int.reduceLT,Int.reduceLE,Int.reduceEq,Int.reduceNeg,Int.reduceAdd,Int.reduceSub,Nat.reduceLeDiff,Nat.reduceLT]
  refine nxt best ?_
  rcases hI with ⟨e,h⟩ | ⟨h1,h2⟩
  ·refine .inl ⟨e,fun k k0 k1 y hy=>?_⟩
   by_cases q:k=i
   ·subst q; rw [hx] at hy; cases hy; exact cm
   ·exact h k k0 (by omega) y hy
  ·obtain ⟨x',h3,h4,h5⟩:=h2
   refine .inr ⟨by omega,x',h3,h4,fun k k0 k1 y hy hmy=>?_⟩
   by_cases q:k=i
   ·subst q; rw [hx] at hy; cases hy; exact absurd hmy cm
   ·exact h5 k k0 (by omega) y hy hmy
 simp only [cm,decide_true,Bool.not_true,ruS,ruL,ruE,Nat.reduceAdd,reduceIte,Int.reduceLT,Int.reduceLE,Int.reduceEq,Int.reduceNeg,Int.reduceAdd,Int.reduceSub,Nat.reduceLeDiff,Nat.reduceLT]
 refine xLoop_r (fun m ts ls τ'=>∃ k:Int,m=(i - k).toNat∧ts=[.slice (some ⟨b,0,none⟩) l.length 6,.int .i64 best,.int .i64 i,.slice (some ⟨b,0,none⟩) l.length 6,.int .i64 l.length,.int .i64 i,.int .i64 i,.int .i64 k]∧ls=[C.l,x.l]∧τ'=τ∧0≤k∧k≤i∧∀ m:Int,0≤m→m<k→∀ y,l[m.toNat]?=some y→y.may C→x.live<y.live) ?_ (n:=i.toNat)
  ⟨0,by omega,rfl,rfl,rfl,by omega,by omega,fun m m0 m1=>by omega⟩
 rintro m ts ls τ' ⟨k,rfl,rfl,rfl,rfl,k0,k1,hlt⟩ R4 hR4
 simp only [w_policy_Choose_l8,w_policy_Choose_l8b,ruS,ruL,ruE,Nat.reduceAdd,reduceIte,Int.reduceLT,Int.reduceLE,Int.reduceEq,Int.reduceNeg,Int.reduceAdd,Int.reduceSub,Nat.reduceLeDiff,Nat.reduceLT]
 by_cases ck:k<i
 rotate_left
 ·simp only [ck,w_c2_j3,w_c2_j3b,ruS,ruL,ruE,Nat.reduceAdd,reduceIte,Int.reduceLT,Int.reduceLE,Int.reduceEq,Int.reduceNeg,Int.reduceAdd,Int.reduceSub,Nat.reduceLeDiff,Nat.reduceLT]
  refine c_better hb (by rcases hI with ⟨e,_⟩ | ⟨h1,_⟩ <;> omega) ⟨i0,ci⟩ fun r hr=>?_
  refine nxt r (.inr ?_)
  rcases hr with ⟨rfl,hr,hle⟩ | rfl
  ·rcases hI with ⟨e,_⟩ | ⟨h1,x',h2,h3,_⟩
   ·omega
   ·have h5:=hle x' x h2 hx
    have h6:=hlt r h1.1 (by omega) x' h2 h3
    omega
  ·refine ⟨by omega,x,hx,cm,fun k' k0' k1' y hy hmy=>?_⟩
   by_cases q:k'=r
   ·subst q; rw [hx] at hy; cases hy; exact Int.le_refl _
   ·have:=hlt k' k0' (by omega) y hy hmy; omega
 obtain ⟨y,hy⟩:∃ y,l[k.toNat]?=some y:=⟨_,List.getElem?_eq_getElem (by omega)⟩
 have kl:k<(l.length:Int):=by omega
 have on:(y.may C→x.live<y.live)→w_c2_j4 K (w_c2_j1 K) R (w_c2_j2 K (w_c2_j1 K) R) (w_c2_j3 K (w_c2_j1 K) R (w_c2_j2 K (w_c2_j1 K) R)) R4
   [.slice (some ⟨b,0,none⟩) l.length 6,.int .i64 best,.int .i64 i,.slice (some ⟨b,0,none⟩) l.length 6,.int .i64 l.length,.int .i64 i,.int .i64 i,.int .i64 k] [C.l,x.l] τ':=by
  intro hy1
  simp only [w_c2_j4,w_c2_j4b,ruS,ruL,ruE,Nat.reduceAdd,reduceIte,Int.reduceLT,Int.reduceLE,Int.reduceEq,Int.reduceNeg,Int.reduceAdd,Int.reduceSub,Nat.reduceLeDiff,Nat.reduceLT]
  rw [IntWalk.i64_in (k+1) (by omega)]
  refine hR4 (i - (k+1)).toNat _ _ _ (by omega) ⟨k+1,rfl,rfl,rfl,rfl,by omega,by omega,fun m m0 m1 y' hy' hm'=>?_⟩
  by_cases q:m=k
  ·subst q; rw [hy] at hy'; cases hy'; exact hy1 hm'
  ·exact hlt m m0 (by omega) y' hy' hm'
 have e4:sub x.l 4 1 false=some (.int .i64 x.live):=rfl
 simp only [ck,subC,xIxS k0 kl,Nat.zero_add,ruS,ruL,ruE,Nat.reduceAdd,reduceIte,Int.reduceLT,Int.reduceLE,Int.reduceEq,Int.reduceNeg,Int.reduceAdd,Int.reduceSub,Nat.reduceLeDiff,Nat.reduceLT]
 rw [show k.toNat*6=k.toNat*6+0 from rfl,ldSn hb hy (by decide) (by decide) (s6 y)]
 simp only [c_May,ruS,ruL,ruE,Nat.reduceAdd,reduceIte,Int.reduceLT,Int.reduceLE,Int.reduceEq,Int.reduceNeg,Int.reduceAdd,Int.reduceSub,Nat.reduceLeDiff,Nat.reduceLT]
 by_cases cy:y.may C
 rotate_left
 ·simp only [cy,decide_false,ruS,ruL,ruE,Nat.reduceAdd,reduceIte,Int.reduceLT,Int.reduceLE,Int.reduceEq,Int.reduceNeg,Int.reduceAdd,Int.reduceSub,Nat.reduceLeDiff,Nat.reduceLT]; exact on fun q=>absurd q cy
 simp only [cy,decide_true,xIxS k0 kl,Nat.zero_add,ruS,ruL,ruE,Nat.reduceAdd,reduceIte,Int.reduceLT,Int.reduceLE,Int.reduceEq,Int.reduceNeg,Int.reduceAdd,Int.reduceSub,Nat.reduceLeDiff,Nat.reduceLT]
 rw [ldSn hb hy (by decide) (by decide) (show sub y.l 4 1 false=some (.int .i64 y.live) from rfl)]
 by_cases cl:y.live≤x.live
 ·simp only [e4,cl,ruS,ruL,ruE,Nat.reduceAdd,reduceIte,Int.reduceLT,Int.reduceLE,Int.reduceEq,Int.reduceNeg,Int.reduceAdd,Int.reduceSub,Nat.reduceLeDiff,Nat.reduceLT]
  refine nxt best ?_
  rcases hI with ⟨e,h⟩ | ⟨h1,x',h2,h3,h4⟩
  ·exact absurd cy (h k k0 ck y hy)
  ·refine .inr ⟨by omega,x',h2,h3,fun k' k0' k1' y' hy' hm'=>?_⟩
   by_cases q:k'=i
   ·subst q; rw [hx] at hy'; cases hy'
    have:=h4 k k0 ck y hy cy
    omega
   ·exact h4 k' k0' (by omega) y' hy' hm'
 ·simp only [e4,cl,ruS,ruL,ruE,Nat.reduceAdd,reduceIte,Int.reduceLT,Int.reduceLE,Int.reduceEq,Int.reduceNeg,Int.reduceAdd,Int.reduceSub,Nat.reduceLeDiff,Nat.reduceLT]; exact on fun _=>by omega
end Go.Fl
namespace Go.Fl
open Go
set_option linter.unusedVariables false
set_option linter.unusedSimpArgs false
variable {N:Nm} {A B:Ar} {σ:Mem} {K:Value→Mem→Prop} {C:Cf} {who:Int}
theorem ldX {L:List Value} {p k sz:Nat} {ag:Bool} {v:Value} (hd:p ∉ N.l) (h:sub L k sz ag=some v):hLoad sz ag [.pointer (some ⟨p,k,none⟩)] K (putA N A (σ.set p ⟨L,true⟩))=K v (putA N A (σ.set p ⟨L,true⟩)):=by
 rw [hLoad_eq ((putA_get hd).trans (Mem.get_set_same _ _ _)),h,xOs]
theorem stL {L:List Value} {p k:Nat} (L':List Value) {x:Value} (hd:p ∉ N.l) (hx:cellsOf x 1=some [x]) (ho:oneB x=true) (hk:k+1≤L.length) (e:lay L k [x]=L') :
  hStore 1 [.pointer (some ⟨p,k,none⟩),x] K (putA N A (σ.set p ⟨L,true⟩))=K undef (putA N A (σ.set p ⟨L',true⟩)):=by
 have:=stO (K:=K) (N:=N) (A:=A) (σ:=σ) (p:=p) (pre:=[]) (L:=L) (post:=[]) (k:=k) (sz:=1) (x:=x) (c:=[x]) hd hx rfl hk (by simp [ho])
 rw [e] at this
 simpa only [List.nil_append,List.append_nil,List.length_nil,Nat.zero_add] using this
theorem stLa {L:List Value} {p k sz:Nat} (L':List Value) {c:List Value} (hd:p ∉ N.l) (hl:c.length=sz) (ho:c.all oneB=true) (hk:k+sz≤L.length) (e:lay L k c=L') :
  hStore sz [.pointer (some ⟨p,k,none⟩),.agg c.toArray] K (putA N A (σ.set p ⟨L,true⟩))=K undef (putA N A (σ.set p ⟨L',true⟩)):=by
 have:=stOa (K:=K) (N:=N) (A:=A) (σ:=σ) (p:=p) (pre:=[]) (L:=L) (post:=[]) (k:=k) (sz:=sz) (c:=c) hd hl hk ho
 rw [e] at this
 simpa only [List.nil_append,List.append_nil,List.length_nil,Nat.zero_add] using this
structure Adv where
 pc:Int
 now:Int
 at':Int
 went:Bool
def Adv.l (a:Adv):List Value:=[.int .i64 a.pc,.int .u64 a.now,.int .i64 a.at',.bool a.went]
def Adv.new:Adv:=⟨0,0,0,false⟩
def Adv.step (C:Cf) (who:Int) (A:Ar) (a:Adv):Bool × Adv × Ar:=
 if a.pc=0 then (false,{ a with now:=A.w 0,pc:=1 },(A.by who).load 0)
 else if a.pc=1 then
  if A.w (6+a.at')≠0∧A.w (6+a.at')≠IntKind.u64.wrap (a.now+1) then (true,a,(A.by who).load (6+a.at'))
  else (false,{ a with at':=a.at'+1,pc:=if C.T≤a.at'+1 then 2 else a.pc },(A.by who).load (6+a.at'))
 else (true,{ a with went:=decide (A.w 0=a.now) },(A.by who).cas 0 a.now (IntKind.u64.wrap (a.now+1)))
structure Adv.fit (C:Cf) (a:Adv):Prop where
 pc:0≤a.pc∧a.pc≤2
 at':0≤a.at'∧(a.pc≤1→a.at'<C.T)
theorem Adv.new_fit (hC:C.ok):Adv.new.fit C:=⟨⟨Int.le_refl 0,by decide⟩,Int.le_refl 0,fun _=>by have:=hC.T; show 0<C.T; omega⟩
section
variable {p:Nat} {a:Adv}
theorem lA0 (hd:p ∉ N.l):hLoad 1 false [.pointer (some ⟨p,0,none⟩)] K (putA N A (σ.set p ⟨a.l,true⟩))=K (.int .i64 a.pc) (putA N A (σ.set p ⟨a.l,true⟩)):=ldX hd rfl
theorem lA1 (hd:p ∉ N.l):hLoad 1 false [.pointer (some ⟨p,1,none⟩)] K (putA N A (σ.set p ⟨a.l,true⟩))=K (.int .u64 a.now) (putA N A (σ.set p ⟨a.l,true⟩)):=ldX hd rfl
theorem lA2 (hd:p ∉ N.l):hLoad 1 false [.pointer (some ⟨p,2,none⟩)] K (putA N A (σ.set p ⟨a.l,true⟩))=K (.int .i64 a.at') (putA N A (σ.set p ⟨a.l,true⟩)):=ldX hd rfl
theorem sA0 (hd:p ∉ N.l) {v:Int}:hStore 1 [.pointer (some ⟨p,0,none⟩),.int .i64 v] K (putA N A (σ.set p ⟨a.l,true⟩))=K undef (putA N A (σ.set p ⟨({ a with pc:=v }:Adv).l,true⟩)):=stL _ hd rfl rfl (by show _≤4; decide) rfl
theorem sA1 (hd:p ∉ N.l) {v:Int}:hStore 1 [.pointer (some ⟨p,1,none⟩),.int .u64 v] K (putA N A (σ.set p ⟨a.l,true⟩))=K undef (putA N A (σ.set p ⟨({ a with now:=v }:Adv).l,true⟩)):=stL _ hd rfl rfl (by show _≤4; decide) rfl
theorem sA2 (hd:p ∉ N.l) {v:Int}:hStore 1 [.pointer (some ⟨p,2,none⟩),.int .i64 v] K (putA N A (σ.set p ⟨a.l,true⟩))=K undef (putA N A (σ.set p ⟨({ a with at':=v }:Adv).l,true⟩)):=stL _ hd rfl rfl (by show _≤4; decide) rfl
theorem sA3 (hd:p ∉ N.l) {v:Bool}:hStore 1 [.pointer (some ⟨p,3,none⟩),.bool v] K (putA N A (σ.set p ⟨a.l,true⟩))=K undef (putA N A (σ.set p ⟨({ a with went:=v }:Adv).l,true⟩)):=stL _ hd rfl rfl (by show _≤4; decide) rfl
end
theorem c_Adv (hN:N.ok) (hC:C.ok) (hA:isA N A σ) {p:Nat} {a:Adv} (hp:σ.get p=some ⟨a.l,true⟩) (hd:p ∉ N.l) (hn:C.len≤A.n) (hf:a.fit C)
  (hk:∀ τ,isA N (a.step C who A).2.2 τ→τ.get p=some ⟨(a.step C who A).2.1.l,true⟩→Keep (p :: N.l) σ τ→K (.bool (a.step C who A).1) τ):s_a6 [.pointer (some ⟨p,0,none⟩),N.env C who] K σ:=by
 have hT:=hC.T; have hS:=hC.S; have hC3:=hC.C; have hl:=len_bd hC
 have hch:C.chunk C.C=6+C.T+2*C.S+3*C.C:=rfl
 have b0:(0:Int)<A.n:=by omega
 obtain ⟨⟨p0,p1⟩,a0,a1⟩:=hf
 rw [hA.obj hp]
 unfold Adv.step at hk
 by_cases c0:a.pc=0
 ·simp only [if_pos c0] at hk
  simp only [s_a6,w_a6,lA0 hd,c0,c_Epoch,c_Load hN (Int.le_refl 0) b0,sA1 hd,sA0 hd,w_a6_j1,w_a6_j1b,ruS,ruL,ruE,Nat.reduceAdd,reduceIte,Int.reduceLT,Int.reduceLE,Int.reduceEq,Int.reduceNeg,Int.reduceAdd,Int.reduceSub,Nat.reduceLeDiff,Nat.reduceLT]
  exact behind hN hd hk
 by_cases c1:a.pc=1
 ·simp only [if_neg c0,if_pos c1] at hk
  have q:=a1 (by omega)
  simp only [s_a6,w_a6,lA0 hd,c1,lA2 hd,ruS,ruL,ruE,Nat.reduceAdd,reduceIte,Int.reduceLT,Int.reduceLE,Int.reduceEq,Int.reduceNeg,Int.reduceAdd,Int.reduceSub,Nat.reduceLeDiff,Nat.reduceLT]
  rw [c_Pin a0 (by omega)]
  simp only [c_Load hN (show 0≤6+a.at' by omega) (show 6+a.at'<A.n by omega),ruS,ruL,ruE,Nat.reduceAdd,reduceIte,Int.reduceLT,Int.reduceLE,Int.reduceEq,Int.reduceNeg,Int.reduceAdd,Int.reduceSub,Nat.reduceLeDiff,Nat.reduceLT]
  have on:¬ (A.w (6+a.at')≠0∧A.w (6+a.at')≠IntKind.u64.wrap (a.now+1))→w_a6_j2 K (w_a6_j1 K) [.pointer (some ⟨p,0,none⟩),.bool false] [Nm.el N C who] (putA N ((A.by who).load (6+a.at')) (σ.set p ⟨a.l,true⟩)):=fun c=>by
   rw [if_neg c] at hk
   simp only [w_a6_j2,w_a6_j2b,lA2 hd,sA2 hd,ruS,ruL,ruE,Nat.reduceAdd,reduceIte,Int.reduceLT,Int.reduceLE,Int.reduceEq,Int.reduceNeg,Int.reduceAdd,Int.reduceSub,Nat.reduceLeDiff,Nat.reduceLT]
   rw [IntWalk.i64_in (a.at'+1) (by omega)]
   by_cases c2:C.T≤a.at'+1
   ·simp only [if_pos c2] at hk
    simp only [c2,sA0 hd,w_a6_j1,w_a6_j1b,ruS,ruL,ruE,Nat.reduceAdd,reduceIte,Int.reduceLT,Int.reduceLE,Int.reduceEq,Int.reduceNeg,Int.reduceAdd,Int.reduceSub,Nat.reduceLeDiff,Nat.reduceLT]
    exact behind hN hd hk
   ·simp only [if_neg c2] at hk
    simp only [c2,w_a6_j1,w_a6_j1b,ruS,ruL,ruE,Nat.reduceAdd,reduceIte,Int.reduceLT,Int.reduceLE,Int.reduceEq,Int.reduceNeg,Int.reduceAdd,Int.reduceSub,Nat.reduceLeDiff,Nat.reduceLT]
    exact behind hN hd hk
  by_cases c2:A.w (6+a.at')=0
  ·simp only [c2,ruS,ruL,ruE,Nat.reduceAdd,reduceIte,Int.reduceLT,Int.reduceLE,Int.reduceEq,Int.reduceNeg,Int.reduceAdd,Int.reduceSub,Nat.reduceLeDiff,Nat.reduceLT]; exact on fun q=>q.1 c2
  ·by_cases c3:A.w (6+a.at')=IntKind.u64.wrap (a.now+1)
   ·simp only [c2,lA1 hd,← c3,ruS,ruL,ruE,Nat.reduceAdd,reduceIte,Int.reduceLT,Int.reduceLE,Int.reduceEq,Int.reduceNeg,Int.reduceAdd,Int.reduceSub,Nat.reduceLeDiff,Nat.reduceLT]; exact on fun q=>q.2 c3
   ·rw [if_pos ⟨c2,c3⟩] at hk
    simp only [c2,lA1 hd,c3,w_a6_j2,w_a6_j2b,ruS,ruL,ruE,Nat.reduceAdd,reduceIte,Int.reduceLT,Int.reduceLE,Int.reduceEq,Int.reduceNeg,Int.reduceAdd,Int.reduceSub,Nat.reduceLeDiff,Nat.reduceLT]
    exact behind hN hd hk
 ·simp only [if_neg c0,if_neg c1] at hk
  simp only [s_a6,w_a6,lA0 hd,c0,c1,c_Epoch,lA1 hd,c_Cas hN (Int.le_refl 0) b0,sA3 hd,ruS,ruL,ruE,Nat.reduceAdd,reduceIte,Int.reduceLT,Int.reduceLE,Int.reduceEq,Int.reduceNeg,Int.reduceAdd,Int.reduceSub,Nat.reduceLeDiff,Nat.reduceLT]
  exact behind hN hd hk
structure Stl where
 ch:Int
 pc:Int
 w:Int
 since:Int
 at':Int
 freed:Bool
def Stl.l (a:Stl):List Value:=[.int .i64 a.ch,.int .i64 a.pc,.int .u64 a.w,.int .u64 a.since,.int .i64 a.at',.bool a.freed]
def Stl.new (ch:Int):Stl:=⟨ch,0,0,0,0,false⟩
def Stl.step (C:Cf) (who:Int) (A:Ar) (a:Stl):Bool × Stl × Ar:=
 if a.pc=0 then (!decide (chS (A.w (C.chunk a.ch))=3),{ a with w:=A.w (C.chunk a.ch),pc:=1 },(A.by who).load (C.chunk a.ch))
 else if a.pc=1 then (false,{ a with since:=A.w (C.chunk a.ch+2),pc:=2 },(A.by who).load (C.chunk a.ch+2))
 else if a.pc=2 then (decide (A.w 0<IntKind.u64.wrap (a.since+2)),{ a with pc:=3 },(A.by who).load 0)
 else if a.pc=3 then (false,{ a with at':=a.at'+1,pc:=if chU a.w≤a.at'+1 then 4 else a.pc },(A.by who).store (C.base a.ch+a.at') 0)
 else if a.pc=4 then (false,{ a with pc:=5 },(A.by who).store (C.chunk a.ch+1) 0)
 else (true,{ a with freed:=true },(A.by who).store (C.chunk a.ch) (putChunk 0 0 0 (chN a.w+1)))
structure Stl.fit (C:Cf) (A:Ar) (a:Stl):Prop where
 pc:0≤a.pc∧a.pc≤5
 ch:0≤a.ch∧a.ch<C.C
 w:0≤a.w∧a.w<18446744073709551616
 at':a.pc=3→0≤a.at'∧C.base a.ch+a.at'<A.n
section
variable {p:Nat} {a:Stl}
theorem lS0 (hd:p ∉ N.l):hLoad 1 false [.pointer (some ⟨p,0,none⟩)] K (putA N A (σ.set p ⟨a.l,true⟩))=K (.int .i64 a.ch) (putA N A (σ.set p ⟨a.l,true⟩)):=ldX hd rfl
theorem lS1 (hd:p ∉ N.l):hLoad 1 false [.pointer (some ⟨p,1,none⟩)] K (putA N A (σ.set p ⟨a.l,true⟩))=K (.int .i64 a.pc) (putA N A (σ.set p ⟨a.l,true⟩)):=ldX hd rfl
theorem lS2 (hd:p ∉ N.l):hLoad 1 false [.pointer (some ⟨p,2,none⟩)] K (putA N A (σ.set p ⟨a.l,true⟩))=K (.int .u64 a.w) (putA N A (σ.set p ⟨a.l,true⟩)):=ldX hd rfl
theorem lS3 (hd:p ∉ N.l):hLoad 1 false [.pointer (some ⟨p,3,none⟩)] K (putA N A (σ.set p ⟨a.l,true⟩))=K (.int .u64 a.since) (putA N A (σ.set p ⟨a.l,true⟩)):=ldX hd rfl
theorem lS4 (hd:p ∉ N.l):hLoad 1 false [.pointer (some ⟨p,4,none⟩)] K (putA N A (σ.set p ⟨a.l,true⟩))=K (.int .i64 a.at') (putA N A (σ.set p ⟨a.l,true⟩)):=ldX hd rfl
theorem sS1 (hd:p ∉ N.l) {v:Int}:hStore 1 [.pointer (some ⟨p,1,none⟩),.int .i64 v] K (putA N A (σ.set p ⟨a.l,true⟩))=K undef (putA N A (σ.set p ⟨({ a with pc:=v }:Stl).l,true⟩)):=stL _ hd rfl rfl (by show _≤6; decide) rfl
theorem sS2 (hd:p ∉ N.l) {v:Int}:hStore 1 [.pointer (some ⟨p,2,none⟩),.int .u64 v] K (putA N A (σ.set p ⟨a.l,true⟩))=K undef (putA N A (σ.set p ⟨({ a with w:=v }:Stl).l,true⟩)):=stL _ hd rfl rfl (by show _≤6; decide) rfl
theorem sS3 (hd:p ∉ N.l) {v:Int}:hStore 1 [.pointer (some ⟨p,3,none⟩),.int .u64 v] K (putA N A (σ.set p ⟨a.l,true⟩))=K undef (putA N A (σ.set p ⟨({ a with since:=v }:Stl).l,true⟩)):=stL _ hd rfl rfl (by show _≤6; decide) rfl
theorem sS4 (hd:p ∉ N.l) {v:Int}:hStore 1 [.pointer (some ⟨p,4,none⟩),.int .i64 v] K (putA N A (σ.set p ⟨a.l,true⟩))=K undef (putA N A (σ.set p ⟨({ a with at':=v }:Stl).l,true⟩)):=stL _ hd rfl rfl (by show _≤6; decide) rfl
theorem sS5 (hd:p ∉ N.l) {v:Bool}:hStore 1 [.pointer (some ⟨p,5,none⟩),.bool v] K (putA N A (σ.set p ⟨a.l,true⟩))=K undef (putA N A (σ.set p ⟨({ a with freed:=v }:Stl).l,true⟩)):=stL _ hd rfl rfl (by show _≤6; decide) rfl
end
theorem c_Stl (hN:N.ok) (hC:C.ok) (hA:isA N A σ) {p:Nat} {a:Stl} (hp:σ.get p=some ⟨a.l,true⟩) (hd:p ∉ N.l) (hn:C.len≤A.n) (hnn:(A.n:Int)≤200000000) (hw:∀ i,0≤A.w i∧A.w i<18446744073709551616) (hf:a.fit C A)
  (hk:∀ τ,isA N (a.step C who A).2.2 τ→τ.get p=some ⟨(a.step C who A).2.1.l,true⟩→Keep (p :: N.l) σ τ→K (.bool (a.step C who A).1) τ):s_a9 [.pointer (some ⟨p,0,none⟩),N.env C who] K σ:=by
 have hT:=hC.T; have hS:=hC.S; have hC3:=hC.C; have hl:=len_bd hC
 have hch:C.chunk C.C=6+C.T+2*C.S+3*C.C:=rfl
 have b0:(0:Int)<A.n:=by omega
 obtain ⟨⟨p0,p1⟩,⟨h0,h1⟩,⟨w0,w1⟩,a1⟩:=hf
 have cb:0≤C.chunk a.ch∧C.chunk a.ch+2<A.n:=by unfold Cf.chunk at *; omega
 have g4:∀ {k:Nat} {x y z w:Int},gStore 4 [.pointer (some ⟨k,0,some 0⟩),.agg #[.int .i64 x,.int .i64 y,.int .i64 z,.int .i64 w]] [.int .i64 0,.int .i64 0,.int .i64 0,.int .i64 0]=some [.int .i64 x,.int .i64 y,.int .i64 z,.int .i64 w]:=fun {_ _ _ _ _}=>rfl
 have f0:∀ (x y z w:Value) (K:Value→Prop),xF (fFldV 0 1 false) [.agg #[x,y,z,w]] K=K x:=fun _ _ _ _ K=>nr rfl
 have s7:sub (N.el C who) 0 7 true=some C.v:=rfl
 rw [hA.obj hp]
 unfold Stl.step at hk
 by_cases c0:a.pc=0
 ·simp only [if_pos c0] at hk
  simp only [s_a9,w_a9,lS0 hd,lS2 hd,lS1 hd,c_Chunk hC h0 (show a.ch≤65536 by omega),c_wChunk w0 w1,g4,c0,c_Load hN cb.1 (show C.chunk a.ch<A.n by omega),sS2 hd,sS1 hd,c_wChunk (hw (C.chunk a.ch)).1 (hw (C.chunk a.ch)).2,f0,ruS,ruL,ruE,Nat.reduceAdd,reduceIte,Int.reduceLT,Int.reduceLE,Int.reduceEq,Int.reduceNeg,Int.reduceAdd,Int.reduceSub,Nat.reduceLeDiff,Nat.reduceLT]
  exact behind hN hd hk
 by_cases c1:a.pc=1
 ·simp only [if_neg c0,if_pos c1] at hk
  simp only [s_a9,w_a9,lS0 hd,lS2 hd,lS1 hd,c_Chunk hC h0 (show a.ch≤65536 by omega),c_wChunk w0 w1,g4,c1,ruS,ruL,ruE,Nat.reduceAdd,reduceIte,Int.reduceLT,Int.reduceLE,Int.reduceEq,Int.reduceNeg,Int.reduceAdd,Int.reduceSub,Nat.reduceLeDiff,Nat.reduceLT]
  rw [IntWalk.i64_in (C.chunk a.ch+2) (by omega)]
  simp only [c_Load hN (show 0≤C.chunk a.ch+2 by omega) cb.2,sS3 hd,sS1 hd,w_a9_j1,w_a9_j1b,ruS,ruL,ruE,Nat.reduceAdd,reduceIte,Int.reduceLT,Int.reduceLE,Int.reduceEq,Int.reduceNeg,Int.reduceAdd,Int.reduceSub,Nat.reduceLeDiff,Nat.reduceLT]
  exact behind hN hd hk
 by_cases c2:a.pc=2
 ·simp only [if_neg c0,if_neg c1,if_pos c2] at hk
  simp only [s_a9,w_a9,lS0 hd,lS2 hd,lS1 hd,c_Chunk hC h0 (show a.ch≤65536 by omega),c_wChunk w0 w1,g4,c2,sS1 hd,c_Epoch,c_Load hN (Int.le_refl 0) b0,lS3 hd,and_self,ruS,ruL,ruE,Nat.reduceAdd,reduceIte,Int.reduceLT,Int.reduceLE,Int.reduceEq,Int.reduceNeg,Int.reduceAdd,Int.reduceSub,Nat.reduceLeDiff,Nat.reduceLT]
  exact behind hN hd hk
 by_cases c3:a.pc=3
 ·simp only [if_neg c0,if_neg c1,if_neg c2,if_pos c3] at hk
  obtain ⟨q0,q1⟩:=a1 c3
  have bb:0≤C.base a.ch:=by have:=hC.W; have:=base_ge hC h0 h1 (Int.le_refl 0); omega
  simp only [s_a9,w_a9,lS0 hd,lS2 hd,lS1 hd,c_Chunk hC h0 (show a.ch≤65536 by omega),c_wChunk w0 w1,g4,c3,c_Base hC h0 (show a.ch≤65536 by omega),lS4 hd,ruS,ruL,ruE,Nat.reduceAdd,reduceIte,Int.reduceLT,Int.reduceLE,Int.reduceEq,Int.reduceNeg,Int.reduceAdd,Int.reduceSub,Nat.reduceLeDiff,Nat.reduceLT]
  rw [IntWalk.i64_in (C.base a.ch+a.at') (by omega)]
  simp only [c_Store hN (show 0≤C.base a.ch+a.at' by omega) q1,lS4 hd,sS4 hd,ruS,ruL,ruE,Nat.reduceAdd,reduceIte,Int.reduceLT,Int.reduceLE,Int.reduceEq,Int.reduceNeg,Int.reduceAdd,Int.reduceSub,Nat.reduceLeDiff,Nat.reduceLT]
  rw [IntWalk.i64_in (a.at'+1) (by omega)]
  by_cases c:chU a.w≤a.at'+1
  ·simp only [if_pos c] at hk
   simp only [c,sS1 hd,w_a9_j1,w_a9_j1b,ruS,ruL,ruE,Nat.reduceAdd,reduceIte,Int.reduceLT,Int.reduceLE,Int.reduceEq,Int.reduceNeg,Int.reduceAdd,Int.reduceSub,Nat.reduceLeDiff,Nat.reduceLT]
   exact behind hN hd hk
  ·simp only [if_neg c] at hk
   simp only [c,w_a9_j1,w_a9_j1b,ruS,ruL,ruE,Nat.reduceAdd,reduceIte,Int.reduceLT,Int.reduceLE,Int.reduceEq,Int.reduceNeg,Int.reduceAdd,Int.reduceSub,Nat.reduceLeDiff,Nat.reduceLT]
   exact behind hN hd hk
 by_cases c4:a.pc=4
 ·simp only [if_neg c0,if_neg c1,if_neg c2,if_neg c3,if_pos c4] at hk
  simp only [s_a9,w_a9,lS0 hd,lS2 hd,lS1 hd,c_Chunk hC h0 (show a.ch≤65536 by omega),c_wChunk w0 w1,g4,c4,ruS,ruL,ruE,Nat.reduceAdd,reduceIte,Int.reduceLT,Int.reduceLE,Int.reduceEq,Int.reduceNeg,Int.reduceAdd,Int.reduceSub,Nat.reduceLeDiff,Nat.reduceLT]
  rw [IntWalk.i64_in (C.chunk a.ch+1) (by omega)]
  simp only [c_Store hN (show 0≤C.chunk a.ch+1 by omega) (show C.chunk a.ch+1<A.n by omega),sS1 hd,w_a9_j1,w_a9_j1b,ruS,ruL,ruE,Nat.reduceAdd,reduceIte,Int.reduceLT,Int.reduceLE,Int.reduceEq,Int.reduceNeg,Int.reduceAdd,Int.reduceSub,Nat.reduceLeDiff,Nat.reduceLT]
  exact behind hN hd hk
 have c5:a.pc=5:=by omega
 have b4:∀ (x:Int) (K:Value→Prop),xF (fBuild [(0,1),(1,1),(2,1),(3,1)] [.int .i64 0,.int .i64 0,.int .i64 0,.int .i64 0] [3]) [.int .i64 x] K=K (.agg #[.int .i64 0,.int .i64 0,.int .i64 0,.int .i64 x]):=fun _ K=>nr rfl
 have hcn:0≤chN a.w∧chN a.w≤68719476735:=by unfold chN; omega
 simp only [if_neg c0,if_neg c1,if_neg c2,if_neg c3,if_neg c4] at hk
 simp only [s_a9,w_a9,lS0 hd,lS2 hd,lS1 hd,c_Chunk hC h0 (show a.ch≤65536 by omega),c_wChunk w0 w1,g4,c5,ruS,ruL,ruE,Nat.reduceAdd,reduceIte,Int.reduceLT,Int.reduceLE,Int.reduceEq,Int.reduceNeg,Int.reduceAdd,Int.reduceSub,Nat.reduceLeDiff,Nat.reduceLT]
 rw [IntWalk.i64_in (chN a.w+1) (by omega)]
 simp only [b4,c_PutChunk,c_Store hN cb.1 (show C.chunk a.ch<A.n by omega),sS5 hd,ruS,ruL,ruE,Nat.reduceAdd,reduceIte,Int.reduceLT,Int.reduceLE,Int.reduceEq,Int.reduceNeg,Int.reduceAdd,Int.reduceSub,Nat.reduceLeDiff,Nat.reduceLT]
 exact behind hN hd hk
theorem c_NewStl {ch:Int} (hk:∀ id τ,σ.get id=none→τ.get id=some ⟨(Stl.new ch).l,true⟩→Ext σ τ→K (.pointer (some ⟨id,0,none⟩)) τ):s_a7 [.int .i64 ch] K σ:=by
 have b:∀ K:Value→Prop,xF (fBuild [(0,1),(1,1),(2,1),(3,1),(4,1),(5,1)] [.int .i64 0,.int .i64 0,.int .u64 0,.int .u64 0,.int .i64 0,.bool false] [0]) [.int .i64 ch] K=K (.agg (Stl.new ch).l.toArray):=fun K=>nr rfl
 simp only [s_a7,w_a7,b,ruS,ruL,ruE,Nat.reduceAdd,reduceIte,Int.reduceLT,Int.reduceLE,Int.reduceEq,Int.reduceNeg,Int.reduceAdd,Int.reduceSub,Nat.reduceLeDiff,Nat.reduceLT]
 exact hBox_i (cs:=(Stl.new ch).l) rfl hk
theorem c_Freed {p:Nat} {a:Stl} (hp:σ.get p=some ⟨a.l,true⟩) (hk:K (.bool a.freed) σ):s_a8 [.pointer (some ⟨p,0,none⟩)] K σ:=by
 simp only [s_a8,w_a8,ruS,ruL,ruE,Nat.reduceAdd,reduceIte,Int.reduceLT,Int.reduceLE,Int.reduceEq,Int.reduceNeg,Int.reduceAdd,Int.reduceSub,Nat.reduceLeDiff,Nat.reduceLT]
 rw [ldG hp (show sub a.l 5 1 false=some (.bool a.freed) from rfl)]
 exact hk
end Go.Fl
namespace Go.Fl
open Go
set_option linter.unusedVariables false
set_option linter.unusedSimpArgs false
variable {N:Nm} {A B:Ar} {σ:Mem} {K:Value→Mem→Prop} {C:Cf} {who:Int}
structure Cr where
 pc:Int
 x1:Value
 at':Int
 pos:Int
 w:Int
 now:Int
 x6:Value
 x7:Value
 x8:Value
 ev:Int
 lf:Int
 fd:Int
 mo:Int
 rd:Int
 ev2:Int
 lf2:Int
 fd2:Int
 mo2:Int
 rd2:Int
 idle:Int
def Cr.l (c:Cr):List Value:=[.int .i64 c.pc,c.x1,.int .i64 c.at',.int .i64 c.pos,.int .u64 c.w,.int .u64 c.now,c.x6,c.x7,c.x8,.int .i64 c.ev,.int .i64 c.lf,.int .i64 c.fd,.int .i64 c.mo,.int .i64 c.rd,.int .i64 c.ev2,.int .i64 c.lf2,.int .i64 c.fd2,.int .i64 c.mo2,.int .i64 c.rd2,.int .i64 c.idle]
section
variable {p:Nat} {c:Cr}
theorem lC0 (hd:p ∉ N.l):hLoad 1 false [.pointer (some ⟨p,0,none⟩)] K (putA N A (σ.set p ⟨c.l,true⟩))=K (.int .i64 c.pc) (putA N A (σ.set p ⟨c.l,true⟩)):=ldX hd rfl
theorem lC1 (hd:p ∉ N.l):hLoad 1 false [.pointer (some ⟨p,1,none⟩)] K (putA N A (σ.set p ⟨c.l,true⟩))=K c.x1 (putA N A (σ.set p ⟨c.l,true⟩)):=ldX hd rfl
theorem lC2 (hd:p ∉ N.l):hLoad 1 false [.pointer (some ⟨p,2,none⟩)] K (putA N A (σ.set p ⟨c.l,true⟩))=K (.int .i64 c.at') (putA N A (σ.set p ⟨c.l,true⟩)):=ldX hd rfl
theorem lC3 (hd:p ∉ N.l):hLoad 1 false [.pointer (some ⟨p,3,none⟩)] K (putA N A (σ.set p ⟨c.l,true⟩))=K (.int .i64 c.pos) (putA N A (σ.set p ⟨c.l,true⟩)):=ldX hd rfl
theorem lC4 (hd:p ∉ N.l):hLoad 1 false [.pointer (some ⟨p,4,none⟩)] K (putA N A (σ.set p ⟨c.l,true⟩))=K (.int .u64 c.w) (putA N A (σ.set p ⟨c.l,true⟩)):=ldX hd rfl
theorem lC5 (hd:p ∉ N.l):hLoad 1 false [.pointer (some ⟨p,5,none⟩)] K (putA N A (σ.set p ⟨c.l,true⟩))=K (.int .u64 c.now) (putA N A (σ.set p ⟨c.l,true⟩)):=ldX hd rfl
theorem lC6 (hd:p ∉ N.l):hLoad 1 false [.pointer (some ⟨p,6,none⟩)] K (putA N A (σ.set p ⟨c.l,true⟩))=K c.x6 (putA N A (σ.set p ⟨c.l,true⟩)):=ldX hd rfl
theorem lC7 (hd:p ∉ N.l):hLoad 1 false [.pointer (some ⟨p,7,none⟩)] K (putA N A (σ.set p ⟨c.l,true⟩))=K c.x7 (putA N A (σ.set p ⟨c.l,true⟩)):=ldX hd rfl
theorem lC8 (hd:p ∉ N.l):hLoad 1 false [.pointer (some ⟨p,8,none⟩)] K (putA N A (σ.set p ⟨c.l,true⟩))=K c.x8 (putA N A (σ.set p ⟨c.l,true⟩)):=ldX hd rfl
theorem lC9 (hd:p ∉ N.l):hLoad 1 false [.pointer (some ⟨p,9,none⟩)] K (putA N A (σ.set p ⟨c.l,true⟩))=K (.int .i64 c.ev) (putA N A (σ.set p ⟨c.l,true⟩)):=ldX hd rfl
theorem lC10 (hd:p ∉ N.l):hLoad 1 false [.pointer (some ⟨p,10,none⟩)] K (putA N A (σ.set p ⟨c.l,true⟩))=K (.int .i64 c.lf) (putA N A (σ.set p ⟨c.l,true⟩)):=ldX hd rfl
theorem lC11 (hd:p ∉ N.l):hLoad 1 false [.pointer (some ⟨p,11,none⟩)] K (putA N A (σ.set p ⟨c.l,true⟩))=K (.int .i64 c.fd) (putA N A (σ.set p ⟨c.l,true⟩)):=ldX hd rfl
theorem lC12 (hd:p ∉ N.l):hLoad 1 false [.pointer (some ⟨p,12,none⟩)] K (putA N A (σ.set p ⟨c.l,true⟩))=K (.int .i64 c.mo) (putA N A (σ.set p ⟨c.l,true⟩)):=ldX hd rfl
theorem lC13 (hd:p ∉ N.l):hLoad 1 false [.pointer (some ⟨p,13,none⟩)] K (putA N A (σ.set p ⟨c.l,true⟩))=K (.int .i64 c.rd) (putA N A (σ.set p ⟨c.l,true⟩)):=ldX hd rfl
theorem lC14 (hd:p ∉ N.l):hLoad 1 false [.pointer (some ⟨p,14,none⟩)] K (putA N A (σ.set p ⟨c.l,true⟩))=K (.int .i64 c.ev2) (putA N A (σ.set p ⟨c.l,true⟩)):=ldX hd rfl
theorem lC16 (hd:p ∉ N.l):hLoad 1 false [.pointer (some ⟨p,16,none⟩)] K (putA N A (σ.set p ⟨c.l,true⟩))=K (.int .i64 c.fd2) (putA N A (σ.set p ⟨c.l,true⟩)):=ldX hd rfl
theorem lC17 (hd:p ∉ N.l):hLoad 1 false [.pointer (some ⟨p,17,none⟩)] K (putA N A (σ.set p ⟨c.l,true⟩))=K (.int .i64 c.mo2) (putA N A (σ.set p ⟨c.l,true⟩)):=ldX hd rfl
theorem lC19 (hd:p ∉ N.l):hLoad 1 false [.pointer (some ⟨p,19,none⟩)] K (putA N A (σ.set p ⟨c.l,true⟩))=K (.int .i64 c.idle) (putA N A (σ.set p ⟨c.l,true⟩)):=ldX hd rfl
theorem sC0 (hd:p ∉ N.l) {v:Int}:hStore 1 [.pointer (some ⟨p,0,none⟩),.int .i64 v] K (putA N A (σ.set p ⟨c.l,true⟩))=K undef (putA N A (σ.set p ⟨({ c with pc:=v }:Cr).l,true⟩)):=stL _ hd rfl rfl (by show _≤20; decide) rfl
theorem sC1n (hd:p ∉ N.l):hStore 1 [.pointer (some ⟨p,1,none⟩),.slice none 0 0] K (putA N A (σ.set p ⟨c.l,true⟩))=K undef (putA N A (σ.set p ⟨({ c with x1:=.slice none 0 0 }:Cr).l,true⟩)):=stL _ hd rfl rfl (by show _≤20; decide) rfl
theorem sC1p (hd:p ∉ N.l) {q n:Nat}:hStore 1 [.pointer (some ⟨p,1,none⟩),.slice (some ⟨q,0,none⟩) n 6] K (putA N A (σ.set p ⟨c.l,true⟩))=K undef (putA N A (σ.set p ⟨({ c with x1:=.slice (some ⟨q,0,none⟩) n 6 }:Cr).l,true⟩)):=stL _ hd rfl rfl (by show _≤20; decide) rfl
theorem sC2 (hd:p ∉ N.l) {v:Int}:hStore 1 [.pointer (some ⟨p,2,none⟩),.int .i64 v] K (putA N A (σ.set p ⟨c.l,true⟩))=K undef (putA N A (σ.set p ⟨({ c with at':=v }:Cr).l,true⟩)):=stL _ hd rfl rfl (by show _≤20; decide) rfl
theorem sC3 (hd:p ∉ N.l) {v:Int}:hStore 1 [.pointer (some ⟨p,3,none⟩),.int .i64 v] K (putA N A (σ.set p ⟨c.l,true⟩))=K undef (putA N A (σ.set p ⟨({ c with pos:=v }:Cr).l,true⟩)):=stL _ hd rfl rfl (by show _≤20; decide) rfl
theorem sC4 (hd:p ∉ N.l) {v:Int}:hStore 1 [.pointer (some ⟨p,4,none⟩),.int .u64 v] K (putA N A (σ.set p ⟨c.l,true⟩))=K undef (putA N A (σ.set p ⟨({ c with w:=v }:Cr).l,true⟩)):=stL _ hd rfl rfl (by show _≤20; decide) rfl
theorem sC5 (hd:p ∉ N.l) {v:Int}:hStore 1 [.pointer (some ⟨p,5,none⟩),.int .u64 v] K (putA N A (σ.set p ⟨c.l,true⟩))=K undef (putA N A (σ.set p ⟨({ c with now:=v }:Cr).l,true⟩)):=stL _ hd rfl rfl (by show _≤20; decide) rfl
theorem sC6p (hd:p ∉ N.l) {q:Nat}:hStore 1 [.pointer (some ⟨p,6,none⟩),.pointer (some ⟨q,0,none⟩)] K (putA N A (σ.set p ⟨c.l,true⟩))=K undef (putA N A (σ.set p ⟨({ c with x6:=.pointer (some ⟨q,0,none⟩) }:Cr).l,true⟩)):=stL _ hd rfl rfl (by show _≤20; decide) rfl
theorem sC7n (hd:p ∉ N.l):hStore 1 [.pointer (some ⟨p,7,none⟩),.pointer none] K (putA N A (σ.set p ⟨c.l,true⟩))=K undef (putA N A (σ.set p ⟨({ c with x7:=.pointer none }:Cr).l,true⟩)):=stL _ hd rfl rfl (by show _≤20; decide) rfl
theorem sC7p (hd:p ∉ N.l) {q:Nat}:hStore 1 [.pointer (some ⟨p,7,none⟩),.pointer (some ⟨q,0,none⟩)] K (putA N A (σ.set p ⟨c.l,true⟩))=K undef (putA N A (σ.set p ⟨({ c with x7:=.pointer (some ⟨q,0,none⟩) }:Cr).l,true⟩)):=stL _ hd rfl rfl (by show _≤20; decide) rfl
theorem sC8n (hd:p ∉ N.l):hStore 1 [.pointer (some ⟨p,8,none⟩),.pointer none] K (putA N A (σ.set p ⟨c.l,true⟩))=K undef (putA N A (σ.set p ⟨({ c with x8:=.pointer none }:Cr).l,true⟩)):=stL _ hd rfl rfl (by show _≤20; decide) rfl
theorem sC8p (hd:p ∉ N.l) {q:Nat}:hStore 1 [.pointer (some ⟨p,8,none⟩),.pointer (some ⟨q,0,none⟩)] K (putA N A (σ.set p ⟨c.l,true⟩))=K undef (putA N A (σ.set p ⟨({ c with x8:=.pointer (some ⟨q,0,none⟩) }:Cr).l,true⟩)):=stL _ hd rfl rfl (by show _≤20; decide) rfl
theorem sC9 (hd:p ∉ N.l) {v:Int}:hStore 1 [.pointer (some ⟨p,9,none⟩),.int .i64 v] K (putA N A (σ.set p ⟨c.l,true⟩))=K undef (putA N A (σ.set p ⟨({ c with ev:=v }:Cr).l,true⟩)):=stL _ hd rfl rfl (by show _≤20; decide) rfl
theorem sC10 (hd:p ∉ N.l) {v:Int}:hStore 1 [.pointer (some ⟨p,10,none⟩),.int .i64 v] K (putA N A (σ.set p ⟨c.l,true⟩))=K undef (putA N A (σ.set p ⟨({ c with lf:=v }:Cr).l,true⟩)):=stL _ hd rfl rfl (by show _≤20; decide) rfl
theorem sC11 (hd:p ∉ N.l) {v:Int}:hStore 1 [.pointer (some ⟨p,11,none⟩),.int .i64 v] K (putA N A (σ.set p ⟨c.l,true⟩))=K undef (putA N A (σ.set p ⟨({ c with fd:=v }:Cr).l,true⟩)):=stL _ hd rfl rfl (by show _≤20; decide) rfl
theorem sC12 (hd:p ∉ N.l) {v:Int}:hStore 1 [.pointer (some ⟨p,12,none⟩),.int .i64 v] K (putA N A (σ.set p ⟨c.l,true⟩))=K undef (putA N A (σ.set p ⟨({ c with mo:=v }:Cr).l,true⟩)):=stL _ hd rfl rfl (by show _≤20; decide) rfl
theorem sC13 (hd:p ∉ N.l) {v:Int}:hStore 1 [.pointer (some ⟨p,13,none⟩),.int .i64 v] K (putA N A (σ.set p ⟨c.l,true⟩))=K undef (putA N A (σ.set p ⟨({ c with rd:=v }:Cr).l,true⟩)):=stL _ hd rfl rfl (by show _≤20; decide) rfl
theorem sC19 (hd:p ∉ N.l) {v:Int}:hStore 1 [.pointer (some ⟨p,19,none⟩),.int .i64 v] K (putA N A (σ.set p ⟨c.l,true⟩))=K undef (putA N A (σ.set p ⟨({ c with idle:=v }:Cr).l,true⟩)):=stL _ hd rfl rfl (by show _≤20; decide) rfl
end
theorem lC9w {p:Nat} {c:Cr} (hd:p ∉ N.l):hLoad 5 true [.pointer (some ⟨p,9,none⟩)] K (putA N A (σ.set p ⟨c.l,true⟩))=K (.agg #[.int .i64 c.ev,.int .i64 c.lf,.int .i64 c.fd,.int .i64 c.mo,.int .i64 c.rd]) (putA N A (σ.set p ⟨c.l,true⟩)):=ldX hd rfl
theorem sC14w {p:Nat} {c:Cr} (hd:p ∉ N.l) {a b d e f:Int}:hStore 5 [.pointer (some ⟨p,14,none⟩),.agg #[.int .i64 a,.int .i64 b,.int .i64 d,.int .i64 e,.int .i64 f]] K (putA N A (σ.set p ⟨c.l,true⟩))=K undef (putA N A (σ.set p ⟨({ c with ev2:=a,lf2:=b,fd2:=d,mo2:=e,rd2:=f }:Cr).l,true⟩)):=
 stLa (c:=[.int .i64 a,.int .i64 b,.int .i64 d,.int .i64 e,.int .i64 f]) _ hd rfl rfl (by show _≤20; decide) rfl
def chw (w st:Int):Int:=putChunk st (chC w) (chU w) (chN w+1)
theorem g4s {k:Nat} {x y z w:Int}:gStore 4 [.pointer (some ⟨k,0,some 0⟩),.agg #[.int .i64 x,.int .i64 y,.int .i64 z,.int .i64 w]] [.int .i64 0,.int .i64 0,.int .i64 0,.int .i64 0]=some [.int .i64 x,.int .i64 y,.int .i64 z,.int .i64 w]:=rfl
theorem s4s {x y z w:Value}:sub [x,y,z,w] 0 4 true=some (.agg #[x,y,z,w]):=rfl
theorem c_Cochunk {p:Nat} {c:Cr} {st:Int} (hd:p ∉ N.l) (hw:0≤c.w∧c.w<18446744073709551616):s_aq [.pointer (some ⟨p,0,none⟩),.int .i64 st] K (putA N A (σ.set p ⟨c.l,true⟩))=K (.int .u64 (chw c.w st)) (putA N A (σ.set p ⟨c.l,true⟩)):=by
 have hcn:=chN_bd c.w
 have p3:∀ {k:Nat} {x a b d e:Int},gStore 1 [.pointer (some ⟨k,3,some 0⟩),.int .i64 x] [.int .i64 a,.int .i64 b,.int .i64 d,.int .i64 e]=some [.int .i64 a,.int .i64 b,.int .i64 d,.int .i64 x]:=fun {_ _ _ _ _ _}=>rfl
 have p0:∀ {k:Nat} {x a b d e:Int},gStore 1 [.pointer (some ⟨k,0,some 0⟩),.int .i64 x] [.int .i64 a,.int .i64 b,.int .i64 d,.int .i64 e]=some [.int .i64 x,.int .i64 b,.int .i64 d,.int .i64 e]:=fun {_ _ _ _ _ _}=>rfl
 have l4:∀ {k:Nat} {x y z w:Value},gLoad 4 true [.pointer (some ⟨k,0,some 0⟩)] [x,y,z,w]=some (.agg #[x,y,z,w]):=fun {_ _ _ _ _}=>rfl
 simp only [s_aq,w_aq,lC4 hd,c_wChunk hw.1 hw.2,g4s,ruS,ruL,ruE,Nat.reduceAdd,reduceIte,Int.reduceLT,Int.reduceLE,Int.reduceEq,Int.reduceNeg,Int.reduceAdd,Int.reduceSub,Nat.reduceLeDiff,Nat.reduceLT]
 rw [IntWalk.i64_in (chN c.w+1) (by omega)]
 simp only [p3,p0,s4s,l4,c_PutChunk,ruS,ruL,ruE,Nat.reduceAdd,reduceIte,Int.reduceLT,Int.reduceLE,Int.reduceEq,Int.reduceNeg,Int.reduceAdd,Int.reduceSub,Nat.reduceLeDiff,Nat.reduceLT]
 rfl
def Cr.next (c:Cr) (k u:Int):Cr:={ c with pos:=c.pos+roomOf k,pc:=if u≤c.pos+roomOf k then 6 else 4 }
theorem c_Conext {p:Nat} {c:Cr} {st k u n:Int} (hd:p ∉ N.l) (hk:0≤k∧k≤3) (hp:0≤c.pos∧c.pos≤200000000):s_at [.pointer (some ⟨p,0,none⟩),.agg #[.int .i64 st,.int .i64 k,.int .i64 u,.int .i64 n]] K (putA N A (σ.set p ⟨c.l,true⟩)) =
  K (.tuple #[]) (putA N A (σ.set p ⟨(c.next k u).l,true⟩)):=by
 have g4:gBox 4 [.agg #[.int .i64 st,.int .i64 k,.int .i64 u,.int .i64 n]] []=some [.int .i64 st,.int .i64 k,.int .i64 u,.int .i64 n]:=rfl
 have hr:=room_bd hk.1 hk.2
 simp only [s_at,w_at,g4,lC3 hd,c_Room hk.1 hk.2,ruS,ruL,ruE,Nat.reduceAdd,reduceIte,Int.reduceLT,Int.reduceLE,Int.reduceEq,Int.reduceNeg,Int.reduceAdd,Int.reduceSub,Nat.reduceLeDiff,Nat.reduceLT]
 rw [IntWalk.i64_in (c.pos+roomOf k) (by omega)]
 simp only [sC3 hd,sC0 hd,lC3 hd,ruS,ruL,ruE,Nat.reduceAdd,reduceIte,Int.reduceLT,Int.reduceLE,Int.reduceEq,Int.reduceNeg,Int.reduceAdd,Int.reduceSub,Nat.reduceLeDiff,Nat.reduceLT]
 unfold Cr.next
 by_cases c1:u≤c.pos+roomOf k
 ·simp only [c1,sC0 hd,ruS,ruL,ruE,Nat.reduceAdd,reduceIte,Int.reduceLT,Int.reduceLE,Int.reduceEq,Int.reduceNeg,Int.reduceAdd,Int.reduceSub,Nat.reduceLeDiff,Nat.reduceLT]
 ·simp only [c1,ruS,ruL,ruE,Nat.reduceAdd,reduceIte,Int.reduceLT,Int.reduceLE,Int.reduceEq,Int.reduceNeg,Int.reduceAdd,Int.reduceSub,Nat.reduceLeDiff,Nat.reduceLT]
theorem c_Co3 (hN:N.ok) (hC:C.ok) (hA:isA N A σ) {p:Nat} {c:Cr} (hp:σ.get p=some ⟨c.l,true⟩) (hd:p ∉ N.l) (h:c.pc=3) (hn:C.len≤A.n) (h0:0≤c.at'∧c.at'<C.C) (hw:0≤c.w∧c.w<18446744073709551616)
  (hk:∀ τ,isA N ((A.by who).cas (C.chunk c.at') c.w (chw c.w 2)) τ→τ.get p=some ⟨({ c with pos:=0,pc:=if A.w (C.chunk c.at')=c.w then 4 else 10,w:=if A.w (C.chunk c.at')=c.w then chw c.w 2 else c.w }:Cr).l,true⟩→Keep (p :: N.l) σ τ→K (.tuple #[]) τ):s_ao [.pointer (some ⟨p,0,none⟩),N.env C who] K σ:=by
 have hT:=hC.T; have hS:=hC.S; have hC3:=hC.C; have hl:=len_bd hC
 have hch:C.chunk C.C=6+C.T+2*C.S+3*C.C:=rfl
 have cb:0≤C.chunk c.at'∧C.chunk c.at'<A.n:=by unfold Cf.chunk at *; omega
 rw [hA.obj hp]
 simp only [s_ao,w_ao,w_ao_j1,w_ao_j1b,lC0 hd,h,sC3 hd,sC0 hd,lC2 hd,c_Chunk hC h0.1 (show c.at'≤65536 by omega),lC4 hd,ruS,ruL,ruE,Nat.reduceAdd,reduceIte,Int.reduceLT,Int.reduceLE,Int.reduceEq,Int.reduceNeg,Int.reduceAdd,Int.reduceSub,Nat.reduceLeDiff,Nat.reduceLT]
 rw [c_Cochunk (c:={ c with pos:=0,pc:=10 }) hd hw,c_Cas hN cb.1 cb.2]
 by_cases e:A.w (C.chunk c.at')=c.w
 ·simp only [if_pos e] at hk
  simp only [e,decide_true,ruS,ruL,ruE,Nat.reduceAdd,reduceIte,Int.reduceLT,Int.reduceLE,Int.reduceEq,Int.reduceNeg,Int.reduceAdd,Int.reduceSub,Nat.reduceLeDiff,Nat.reduceLT]
  rw [c_Cochunk (c:={ c with pos:=0,pc:=10 }) hd hw]
  simp only [sC4 hd,sC0 hd,ruS,ruL,ruE,Nat.reduceAdd,reduceIte,Int.reduceLT,Int.reduceLE,Int.reduceEq,Int.reduceNeg,Int.reduceAdd,Int.reduceSub,Nat.reduceLeDiff,Nat.reduceLT]
  exact behind hN hd hk
 ·simp only [if_neg e] at hk
  simp only [e,decide_false,ruS,ruL,ruE,Nat.reduceAdd,reduceIte,Int.reduceLT,Int.reduceLE,Int.reduceEq,Int.reduceNeg,Int.reduceAdd,Int.reduceSub,Nat.reduceLeDiff,Nat.reduceLT]
  exact behind hN hd hk
theorem c_Co6 (hN:N.ok) (hC:C.ok) (hA:isA N A σ) {p:Nat} {c:Cr} (hp:σ.get p=some ⟨c.l,true⟩) (hd:p ∉ N.l) (h:c.pc=6) (hn:C.len≤A.n)
  (hk:∀ τ,isA N ((A.by who).load 0) τ→τ.get p=some ⟨({ c with now:=A.w 0,pc:=7 }:Cr).l,true⟩→Keep (p :: N.l) σ τ→K (.tuple #[]) τ):s_ao [.pointer (some ⟨p,0,none⟩),N.env C who] K σ:=by
 have hT:=hC.T; have hS:=hC.S; have hC3:=hC.C; have hl:=len_bd hC
 have hch:C.chunk C.C=6+C.T+2*C.S+3*C.C:=rfl
 have b0:(0:Int)<A.n:=by omega
 rw [hA.obj hp]
 simp only [s_ao,w_ao,w_ao_j1,w_ao_j1b,lC0 hd,h,c_Epoch,c_Load hN (Int.le_refl 0) b0,sC5 hd,sC0 hd,ruS,ruL,ruE,Nat.reduceAdd,reduceIte,Int.reduceLT,Int.reduceLE,Int.reduceEq,Int.reduceNeg,Int.reduceAdd,Int.reduceSub,Nat.reduceLeDiff,Nat.reduceLT]
 exact behind hN hd hk
theorem c_Co7 (hN:N.ok) (hC:C.ok) (hA:isA N A σ) {p:Nat} {c:Cr} (hp:σ.get p=some ⟨c.l,true⟩) (hd:p ∉ N.l) (h:c.pc=7) (hn:C.len≤A.n) (hnn:(A.n:Int)≤200000000) (h0:0≤c.at'∧c.at'<C.C)
  (hk:∀ τ,isA N ((A.by who).store (C.chunk c.at'+2) c.now) τ→τ.get p=some ⟨({ c with pc:=8 }:Cr).l,true⟩→Keep (p :: N.l) σ τ→K (.tuple #[]) τ):s_ao [.pointer (some ⟨p,0,none⟩),N.env C who] K σ:=by
 have hT:=hC.T; have hS:=hC.S; have hC3:=hC.C; have hl:=len_bd hC
 have hch:C.chunk C.C=6+C.T+2*C.S+3*C.C:=rfl
 have cb:0≤C.chunk c.at'∧C.chunk c.at'+2<A.n:=by unfold Cf.chunk at *; omega
 rw [hA.obj hp]
 simp only [s_ao,w_ao,w_ao_j1,w_ao_j1b,lC0 hd,h,lC2 hd,c_Chunk hC h0.1 (show c.at'≤65536 by omega),ruS,ruL,ruE,Nat.reduceAdd,reduceIte,Int.reduceLT,Int.reduceLE,Int.reduceEq,Int.reduceNeg,Int.reduceAdd,Int.reduceSub,Nat.reduceLeDiff,Nat.reduceLT]
 rw [IntWalk.i64_in (C.chunk c.at'+2) (by omega)]
 simp only [lC5 hd,c_Store hN (show 0≤C.chunk c.at'+2 by omega) cb.2,sC0 hd,ruS,ruL,ruE,Nat.reduceAdd,reduceIte,Int.reduceLT,Int.reduceLE,Int.reduceEq,Int.reduceNeg,Int.reduceAdd,Int.reduceSub,Nat.reduceLeDiff,Nat.reduceLT]
 exact behind hN hd hk
theorem c_Co8 (hN:N.ok) (hC:C.ok) (hA:isA N A σ) {p:Nat} {c:Cr} (hp:σ.get p=some ⟨c.l,true⟩) (hd:p ∉ N.l) (h:c.pc=8) (hn:C.len≤A.n) (h0:0≤c.at'∧c.at'<C.C) (hw:0≤c.w∧c.w<18446744073709551616) (he:0≤c.ev∧c.ev≤1000000000)
  (hk:∀ τ,isA N ((A.by who).store (C.chunk c.at') (chw c.w 3)) τ→τ.get p=some ⟨({ c with ev:=c.ev+1,pc:=10 }:Cr).l,true⟩→Keep (p :: N.l) σ τ→K (.tuple #[]) τ):s_ao [.pointer (some ⟨p,0,none⟩),N.env C who] K σ:=by
 have hT:=hC.T; have hS:=hC.S; have hC3:=hC.C; have hl:=len_bd hC
 have hch:C.chunk C.C=6+C.T+2*C.S+3*C.C:=rfl
 have cb:0≤C.chunk c.at'∧C.chunk c.at'<A.n:=by unfold Cf.chunk at *; omega
 rw [hA.obj hp]
 simp only [s_ao,w_ao,w_ao_j1,w_ao_j1b,lC0 hd,h,lC2 hd,c_Chunk hC h0.1 (show c.at'≤65536 by omega),c_Cochunk hd hw,c_Store hN cb.1 cb.2,lC9 hd,ruS,ruL,ruE,Nat.reduceAdd,reduceIte,Int.reduceLT,Int.reduceLE,Int.reduceEq,Int.reduceNeg,Int.reduceAdd,Int.reduceSub,Nat.reduceLeDiff,Nat.reduceLT]
 rw [IntWalk.i64_in (c.ev+1) (by omega)]
 simp only [sC9 hd,sC0 hd,ruS,ruL,ruE,Nat.reduceAdd,reduceIte,Int.reduceLT,Int.reduceLE,Int.reduceEq,Int.reduceNeg,Int.reduceAdd,Int.reduceSub,Nat.reduceLeDiff,Nat.reduceLT]
 exact behind hN hd hk
theorem c_Co9 (hN:N.ok) (hC:C.ok) (hA:isA N A σ) {p:Nat} {c:Cr} (hp:σ.get p=some ⟨c.l,true⟩) (hd:p ∉ N.l) (h:c.pc=9) (hn:C.len≤A.n) (h0:0≤c.at'∧c.at'<C.C) (hw:0≤c.w∧c.w<18446744073709551616) (he:0≤c.lf∧c.lf≤1000000000)
  (hk:∀ τ,isA N ((A.by who).store (C.chunk c.at') (chw c.w 1)) τ→τ.get p=some ⟨({ c with lf:=c.lf+1,pc:=10 }:Cr).l,true⟩→Keep (p :: N.l) σ τ→K (.tuple #[]) τ):s_ao [.pointer (some ⟨p,0,none⟩),N.env C who] K σ:=by
 have hT:=hC.T; have hS:=hC.S; have hC3:=hC.C; have hl:=len_bd hC
 have hch:C.chunk C.C=6+C.T+2*C.S+3*C.C:=rfl
 have cb:0≤C.chunk c.at'∧C.chunk c.at'<A.n:=by unfold Cf.chunk at *; omega
 rw [hA.obj hp]
 simp only [s_ao,w_ao,w_ao_j1,w_ao_j1b,lC0 hd,h,lC2 hd,c_Chunk hC h0.1 (show c.at'≤65536 by omega),c_Cochunk hd hw,c_Store hN cb.1 cb.2,lC10 hd,ruS,ruL,ruE,Nat.reduceAdd,reduceIte,Int.reduceLT,Int.reduceLE,Int.reduceEq,Int.reduceNeg,Int.reduceAdd,Int.reduceSub,Nat.reduceLeDiff,Nat.reduceLT]
 rw [IntWalk.i64_in (c.lf+1) (by omega)]
 simp only [sC10 hd,sC0 hd,ruS,ruL,ruE,Nat.reduceAdd,reduceIte,Int.reduceLT,Int.reduceLE,Int.reduceEq,Int.reduceNeg,Int.reduceAdd,Int.reduceSub,Nat.reduceLeDiff,Nat.reduceLT]
 exact behind hN hd hk
theorem c_Co4 (hN:N.ok) (hC:C.ok) (hA:isA N A σ) {p:Nat} {c:Cr} (hp:σ.get p=some ⟨c.l,true⟩) (hd:p ∉ N.l) (h:c.pc=4) (hn:C.len≤A.n) (hnn:(A.n:Int)≤200000000) (h0:0≤c.at'∧c.at'<C.C) (hw:0≤c.w∧c.w<18446744073709551616) (hcl:chC c.w≤3) (hpo:0≤c.pos∧C.base c.at'+c.pos<A.n)
  (hwA:∀ i,0≤A.w i∧A.w i<18446744073709551616)
  (k3:hdK (A.w (C.base c.at'+c.pos))=3→∀ τ,isA N ((A.by who).load (C.base c.at'+c.pos)) τ→τ.get p=some ⟨(c.next (chC c.w) (chU c.w)).l,true⟩→Keep (p :: N.l) σ τ→K (.tuple #[]) τ)
  (k2:hdK (A.w (C.base c.at'+c.pos))=2→∀ q τ,σ.get q=none→isA N ((A.by who).load (C.base c.at'+c.pos)) τ→τ.get p=some ⟨({ c with x6:=.pointer (some ⟨q,0,none⟩),pc:=5 }:Cr).l,true⟩ →
   MOb N q [q] (Mv.new (C.base c.at'+c.pos) (hdK (A.w (C.base c.at'+c.pos))) (hdS (A.w (C.base c.at'+c.pos))) (hdT (A.w (C.base c.at'+c.pos))) (hdG (A.w (C.base c.at'+c.pos))) (hdO (A.w (C.base c.at'+c.pos)))) τ→Keep (p :: N.l) σ τ→K (.tuple #[]) τ)
  (k1:hdK (A.w (C.base c.at'+c.pos))≠3→hdK (A.w (C.base c.at'+c.pos))≠2→∀ τ,isA N ((A.by who).load (C.base c.at'+c.pos)) τ→τ.get p=some ⟨({ c with pc:=9 }:Cr).l,true⟩→Keep (p :: N.l) σ τ→K (.tuple #[]) τ) :
  s_ao [.pointer (some ⟨p,0,none⟩),N.env C who] K σ:=by
 have hT:=hC.T; have hS:=hC.S; have hC3:=hC.C; have hl:=len_bd hC
 have hch:C.chunk C.C=6+C.T+2*C.S+3*C.C:=rfl
 have bb:0≤C.base c.at':=by have:=base_ge hC h0.1 h0.2 (Int.le_refl 0); omega
 have g5:∀ {k:Nat} {x y z w:Int} {u:Bool},gStore 5 [.pointer (some ⟨k,0,some 0⟩),.agg #[.int .i64 x,.int .i64 y,.int .i64 z,.int .i64 w,.bool u]] [.int .i64 0,.int .i64 0,.int .i64 0,.int .i64 0,.bool false]=some [.int .i64 x,.int .i64 y,.int .i64 z,.int .i64 w,.bool u]:=fun {_ _ _ _ _ _}=>rfl
 have l5:∀ {k:Nat} {x y z u w:Value},gLoad 5 true [.pointer (some ⟨k,0,some 0⟩)] [x,y,z,u,w]=some (.agg #[x,y,z,u,w]):=fun {_ _ _ _ _ _}=>rfl
 have s5:∀ {x y z u w:Value},sub [x,y,z,u,w] 0 5 true=some (.agg #[x,y,z,u,w]):=fun {_ _ _ _ _}=>rfl
 have l4:∀ {k:Nat} {x y z w:Value},gLoad 4 true [.pointer (some ⟨k,0,some 0⟩)] [x,y,z,w]=some (.agg #[x,y,z,w]):=fun {_ _ _ _ _}=>rfl
 have hcb:=chC_bd c.w
 rw [hA.obj hp]
 simp only [s_ao,w_ao,w_ao_j1,w_ao_j1b,s_av,w_av,lC0 hd,h,lC4 hd,c_wChunk hw.1 hw.2,g4s,lC2 hd,c_Base hC h0.1 (show c.at'≤65536 by omega),lC3 hd,ruS,ruL,ruE,Nat.reduceAdd,reduceIte,Int.reduceLT,Int.reduceLE,Int.reduceEq,Int.reduceNeg,Int.reduceAdd,Int.reduceSub,Nat.reduceLeDiff,Nat.reduceLT]
 rw [IntWalk.i64_in (C.base c.at'+c.pos) (by omega)]
 simp only [c_Load hN (show 0≤C.base c.at'+c.pos by omega) hpo.2,c_wHead (hwA (C.base c.at'+c.pos)).1 (hwA (C.base c.at'+c.pos)).2,g5,ruS,ruL,ruE,Nat.reduceAdd,reduceIte,Int.reduceLT,Int.reduceLE,Int.reduceEq,Int.reduceNeg,Int.reduceAdd,Int.reduceSub,Nat.reduceLeDiff,Nat.reduceLT]
 have hp2:0≤c.pos∧c.pos≤200000000:=by omega
 generalize C.base c.at'+c.pos=ad at *
 by_cases e3:hdK (A.w ad)=3
 ·simp only [e3,l4,s4s,c_Conext hd ⟨hcb.1,hcl⟩ hp2,ruS,ruL,ruE,Nat.reduceAdd,reduceIte,Int.reduceLT,Int.reduceLE,Int.reduceEq,Int.reduceNeg,Int.reduceAdd,Int.reduceSub,Nat.reduceLeDiff,Nat.reduceLT]
  exact behind hN hd (k3 e3)
 by_cases e2:hdK (A.w ad)=2
 ·simp only [e2,l5,s5,ruS,ruL,ruE,Nat.reduceAdd,reduceIte,Int.reduceLT,Int.reduceLE,Int.reduceEq,Int.reduceNeg,Int.reduceAdd,Int.reduceSub,Nat.reduceLeDiff,Nat.reduceLT]
  have hA1:isA N ((A.by who).load ad) (putA N ((A.by who).load ad) (σ.set p ⟨c.l,true⟩)):=isA_put hN
  have k0:Keep (p :: N.l) σ (putA N ((A.by who).load ad) (σ.set p ⟨c.l,true⟩)):=behind (K:=fun _ τ=>Keep (p :: N.l) σ τ) (v:=undef) hN hd fun τ _ _ k=>k
  have gp:(putA N ((A.by who).load ad) (σ.set p ⟨c.l,true⟩)).get p=some ⟨c.l,true⟩:=(putA_get hd).trans (Mem.get_set_same _ _ _)
  refine mob_new hA1 fun q τ1 hq hob x1=>?_
  have hqp:q≠p:=by rintro rfl; rw [gp] at hq; cases hq
  rw [(hA1.ext x1).obj (x1 _ _ gp)]
  simp only [sC6p hd,sC0 hd,ruS,ruL,ruE,Nat.reduceAdd,reduceIte,Int.reduceLT,Int.reduceLE,Int.reduceEq,Int.reduceNeg,Int.reduceAdd,Int.reduceSub,Nat.reduceLeDiff,Nat.reduceLT]
  refine behind hN hd fun τ2 u1 u2 u3=>?_
  have hqN:=hob.own q (List.mem_singleton.2 rfl)
  have hqL:∀ i ∈ [q],i ∉ p :: N.l:=fun i hi=>by
   rw [List.mem_singleton] at hi; subst hi
   exact fun hm=>by rcases List.mem_cons.1 hm with r | r; exact hqp r; exact hqN r
  refine k2 e2 q τ2 ?_ u1 u2 (by rw [e2]; exact hob.keep u3 hqL) (Keep.trans k0 (Keep.trans (L:=p :: N.l) (Ext.keep (L:=p :: N.l) x1) u3))
  ·cases e:σ.get q with
   | none=>rfl
   | some b=>
    have:=k0 _ _ e (fun hm=>by rcases List.mem_cons.1 hm with r | r; exact hqp r; exact hqN r)
    rw [this] at hq; cases hq
 ·simp only [e3,e2,sC0 hd,ruS,ruL,ruE,Nat.reduceAdd,reduceIte,Int.reduceLT,Int.reduceLE,Int.reduceEq,Int.reduceNeg,Int.reduceAdd,Int.reduceSub,Nat.reduceLeDiff,Nat.reduceLT]
  exact behind hN hd (k1 e3 e2)
end Go.Fl
namespace Go.Fl
open Go
set_option linter.unusedVariables false
set_option linter.unusedSimpArgs false
variable {N:Nm} {A B:Ar} {σ:Mem} {K:Value→Mem→Prop} {C:Cf} {who:Int}
theorem appSn {q l:Nat} {L:List Sn} {x:Sn} (h:σ.get q=some ⟨snL L,true⟩) (hl:L.length<1073741823) (hk:∀ id τ,σ.get id=none→τ.get id=some ⟨snL (L ++ [x]),true⟩→Keep [q] σ τ→K (.slice (some ⟨id,0,none⟩) (L.length+1) 6) τ) :
  hAppendL 6 48 x.l [.slice (some ⟨q,0,none⟩) L.length 6,locS l 1 6] K σ:=by
 simp only [hAppendL,locS,app,h]
 rw [if_pos ⟨by decide,rfl,rfl⟩,if_pos ⟨trivial,trivial,by decide,by rw [snL_len]; omega,by omega⟩,List.drop_zero]
 intro id hid
 have hne:id≠q:=by rintro rfl; rw [h] at hid; cases hid
 refine hk id _ hid (by rw [snL_app]; simp [Mem.del,Mem.set,hne,snL]) fun i c hi hn=>?_
 simp only [List.mem_cons,List.not_mem_nil,or_false] at hn
 have:i≠id:=by rintro rfl; rw [hid] at hi; cases hi
 simp [Mem.del,Mem.set,hn,this,hi]
theorem appSn0 {l:Nat} {x:Sn} (hk:∀ id τ,σ.get id=none→τ.get id=some ⟨snL [x],true⟩→Ext σ τ→K (.slice (some ⟨id,0,none⟩) 1 6) τ) :
  hAppendL 6 48 x.l [.slice none 0 0,locS l 1 6] K σ:=by
 simp only [hAppendL,locS,app]
 rw [if_pos ⟨by decide,rfl,rfl⟩,if_neg (by decide),if_pos (by decide)]
 intro id hid
 refine hk id _ hid (by simp [Mem.set,snL]) fun i c hi=>?_
 have:i≠id:=by rintro rfl; rw [hid] at hi; cases hi
 simp [Mem.set,this,hi]
theorem mid (hN:N.ok) {p:Nat} (hd:p ∉ N.l) {b:Blk}:isA N A (putA N A (σ.set p b))∧(putA N A (σ.set p b)).get p=some b∧Keep (p :: N.l) σ (putA N A (σ.set p b))∧∀ id,(putA N A (σ.set p b)).get id=none→σ.get id=none∧id≠p∧id ∉ N.l:=by
 have h1:isA N A (putA N A (σ.set p b)):=isA_put hN
 have h2:(putA N A (σ.set p b)).get p=some b:=(putA_get hd).trans (Mem.get_set_same _ _ _)
 have h3:Keep (p :: N.l) σ (putA N A (σ.set p b)):=behind (K:=fun _ τ=>Keep (p :: N.l) σ τ) (v:=undef) hN hd fun τ _ _ k=>k
 refine ⟨h1,h2,h3,fun id h=>?_⟩
 have n1:id ∉ N.l:=h1.new h
 have n2:id≠p:=by rintro rfl; rw [h2] at h; cases h
 refine ⟨?_,n2,n1⟩
 cases e:σ.get id with
 | none=>rfl
 | some x=>rw [h3 _ _ e (by simp [n1,n2])] at h; cases h
def seeS (w:Int):Sn:=⟨chS w,chC w,chU w,chN w,0,false⟩
theorem notin_cons {p:Nat} {L:List Nat} {i:Nat} (h1:i≠p) (h2:i ∉ L):i ∉ p :: L:=fun h=>by rcases List.mem_cons.1 h with r | r; exact h1 r; exact h2 r
theorem bSn {w:Int} {K:Value→Prop}:xF (fBuild [(0,4),(4,1),(5,1)] [.int .i64 0,.int .i64 0,.int .i64 0,.int .i64 0,.int .i64 0,.bool false] [0]) [.agg #[.int .i64 (chS w),.int .i64 (chC w),.int .i64 (chU w),.int .i64 (chN w)]] K=K (.agg (seeS w).l.toArray):=nr rfl
theorem gSn {x:Sn}:gBuildS 6 1 [.int .i64 0,.int .i64 0,.int .i64 0,.int .i64 0,.int .i64 0,.bool false] [0] [.agg x.l.toArray] []=some x.l:=nr rfl
def opS (L:List Sn) (n:Int):List Sn:=if 0<n then (match L[(n - 1).toNat]? with
 | none=>L
 | some x=>L.set (n - 1).toNat { x with op:=true }) else L
theorem opS_len {L:List Sn} {n:Int}:(opS L n).length=L.length:=by
 unfold opS; split
 ·split
  ·rfl
  ·exact List.length_set
 ·rfl
theorem c_Choose' {b n:Nat} {rw:Bool} {l:List Sn} (e:l.length=n) (hl:l.length≤1000) (hb:σ.get b=some ⟨snL l,rw⟩) (hk:∀ r,Chosen C l r→Least C l r→K (.int .i64 r) σ):s_c2 [C.v,.slice (some ⟨b,0,none⟩) n 6] K σ:=by
 subst e; exact c_Choose hl hb hk
theorem c_Co0a (hN:N.ok) (hC:C.ok) (hA:isA N A σ) {p:Nat} {c:Cr} (hp:σ.get p=some ⟨c.l,true⟩) (hd:p ∉ N.l) (h:c.pc=0) (hn:C.len≤A.n) (h0:c.at'=0)
  (hwA:∀ i,0≤A.w i∧A.w i<18446744073709551616)
  (hk:∀ id τ,σ.get id=none→id≠p→id ∉ N.l→isA N ((A.by who).load (C.chunk c.at')) τ→τ.get p=some ⟨({ c with x1:=.slice (some ⟨id,0,none⟩) 1 6,pc:=1 }:Cr).l,true⟩ →
   τ.get id=some ⟨snL [seeS (A.w (C.chunk c.at'))],true⟩→Keep (p :: N.l) σ τ→K (.tuple #[]) τ):s_ao [.pointer (some ⟨p,0,none⟩),N.env C who] K σ:=by
 rcases c with ⟨pc,x1,at',pos,w,now,x6,x7,x8,ev,lf,fd,mo,rd,ev2,lf2,fd2,mo2,rd2,idle⟩
 dsimp only at *
 subst h; subst h0
 have hT:=hC.T; have hS:=hC.S; have hC3:=hC.C; have hl:=len_bd hC
 have hch:C.chunk C.C=6+C.T+2*C.S+3*C.C:=rfl
 have cb:0≤C.chunk 0∧C.chunk 0<A.n:=by unfold Cf.chunk at *; omega
 rw [hA.obj hp]
 simp only [s_ao,w_ao,w_ao_j1,w_ao_j1b,s_ar,w_ar,lC0 hd,lC2 hd,sC1n hd,w_ar_j1,w_ar_j1b,lC1 hd,
  c_Chunk hC (Int.le_refl 0) (show (0:Int)≤65536 by decide),c_Load hN cb.1 cb.2,c_wChunk (hwA (C.chunk 0)).1 (hwA (C.chunk 0)).2,bSn,gSn,and_self,ruS,ruL,ruE,Nat.reduceAdd,reduceIte,Int.reduceLT,Int.reduceLE,Int.reduceEq,Int.reduceNeg,Int.reduceAdd,Int.reduceSub,Nat.reduceLeDiff,Nat.reduceLT]
 obtain ⟨hA1,gp1,k1,n1⟩:=mid (σ:=σ) (A:=(A.by who).load (C.chunk 0)) hN hd (b:=⟨(⟨0,.slice none 0 0,0,pos,w,now,x6,x7,x8,ev,lf,fd,mo,rd,ev2,lf2,fd2,mo2,rd2,idle⟩:Cr).l,true⟩)
 refine appSn0 fun id τ1 hid gid x1=>?_
 obtain ⟨q1,q2,q3⟩:=n1 id hid
 rw [(hA1.ext x1).obj (x1 _ _ gp1)]
 simp only [w_ar_j2,w_ar_j2b,sC1p hd,sC0 hd,ruS,ruL,ruE,Nat.reduceAdd,reduceIte,Int.reduceLT,Int.reduceLE,Int.reduceEq,Int.reduceNeg,Int.reduceAdd,Int.reduceSub,Nat.reduceLeDiff,Nat.reduceLT]
 refine behind hN hd fun τ2 u1 u2 u3=>?_
 exact hk id τ2 q1 q2 q3 u1 u2 (u3.get gid (notin_cons q2 q3)) (Keep.trans k1 (Keep.trans (L:=p :: N.l) (Ext.keep (L:=p :: N.l) x1) u3))
theorem c_Co0b (hN:N.ok) (hC:C.ok) (hA:isA N A σ) {p q:Nat} {c:Cr} {L:List Sn} (hp:σ.get p=some ⟨({ c with x1:=.slice (some ⟨q,0,none⟩) L.length 6 }:Cr).l,true⟩) (hd:p ∉ N.l) (h:c.pc=0) (hn:C.len≤A.n) (h0:0<c.at'∧c.at'<C.C)
  (hwA:∀ i,0≤A.w i∧A.w i<18446744073709551616) (hq:σ.get q=some ⟨snL L,true⟩) (hqd:q ∉ N.l) (hqp:q≠p) (hL:L.length<1073741823)
  (hk:∀ id τ,σ.get id=none→id≠p→id ∉ N.l→isA N ((A.by who).load (C.chunk c.at')) τ→τ.get p=some ⟨({ c with x1:=.slice (some ⟨id,0,none⟩) (L.length+1) 6,pc:=1 }:Cr).l,true⟩ →
   τ.get id=some ⟨snL (L ++ [seeS (A.w (C.chunk c.at'))]),true⟩→Keep (q :: p :: N.l) σ τ→K (.tuple #[]) τ):s_ao [.pointer (some ⟨p,0,none⟩),N.env C who] K σ:=by
 rcases c with ⟨pc,x1,at',pos,w,now,x6,x7,x8,ev,lf,fd,mo,rd,ev2,lf2,fd2,mo2,rd2,idle⟩
 dsimp only at *
 subst h
 have hT:=hC.T; have hS:=hC.S; have hC3:=hC.C; have hl:=len_bd hC
 have hch:C.chunk C.C=6+C.T+2*C.S+3*C.C:=rfl
 have cb:0≤C.chunk at'∧C.chunk at'<A.n:=by unfold Cf.chunk at *; omega
 have ne0:¬ at'=0:=by omega
 rw [hA.obj hp]
 simp only [s_ao,w_ao,w_ao_j1,w_ao_j1b,s_ar,w_ar,lC0 hd,lC2 hd,ne0,w_ar_j1,w_ar_j1b,lC1 hd,
  c_Chunk hC (show 0≤at' by omega) (show at'≤65536 by omega),c_Load hN cb.1 cb.2,c_wChunk (hwA (C.chunk at')).1 (hwA (C.chunk at')).2,bSn,gSn,and_self,ruS,ruL,ruE,Nat.reduceAdd,reduceIte,Int.reduceLT,Int.reduceLE,Int.reduceEq,Int.reduceNeg,Int.reduceAdd,Int.reduceSub,Nat.reduceLeDiff,Nat.reduceLT]
 obtain ⟨hA1,gp1,k1,n1⟩:=mid (σ:=σ) (A:=(A.by who).load (C.chunk at')) hN hd (b:=⟨(⟨0,.slice (some ⟨q,0,none⟩) L.length 6,at',pos,w,now,x6,x7,x8,ev,lf,fd,mo,rd,ev2,lf2,fd2,mo2,rd2,idle⟩:Cr).l,true⟩)
 refine appSn (k1.get hq (notin_cons hqp hqd)) hL fun id τ1 hid gid x1=>?_
 obtain ⟨q1,q2,q3⟩:=n1 id hid
 have hA2:isA N ((A.by who).load (C.chunk at')) τ1:=hA1.keep x1 (by simp only [Nm.l,List.mem_cons,List.not_mem_nil,or_false,not_or] at hqd ⊢; exact ⟨Ne.symm hqd.1,Ne.symm hqd.2.1,Ne.symm hqd.2.2⟩)
 rw [hA2.obj (x1.get gp1 (by simp; exact fun e=>hqp e.symm))]
 simp only [w_ar_j2,w_ar_j2b,sC1p hd,sC0 hd,ruS,ruL,ruE,Nat.reduceAdd,reduceIte,Int.reduceLT,Int.reduceLE,Int.reduceEq,Int.reduceNeg,Int.reduceAdd,Int.reduceSub,Nat.reduceLeDiff,Nat.reduceLT]
 refine behind hN hd fun τ2 u1 u2 u3=>?_
 refine hk id τ2 q1 q2 q3 u1 u2 (u3.get gid (notin_cons q2 q3)) (Keep.trans (k1.mono fun i hi=>List.mem_cons_of_mem _ hi) (Keep.trans (x1.mono fun i hi=>?_) (u3.mono fun i hi=>List.mem_cons_of_mem _ hi)))
 rw [List.mem_singleton] at hi; subst hi; exact List.mem_cons_self ..
theorem c_Co1 (hN:N.ok) (hC:C.ok) (hA:isA N A σ) {p q:Nat} {c:Cr} {L:List Sn} {x:Sn} (hp:σ.get p=some ⟨({ c with x1:=.slice (some ⟨q,0,none⟩) L.length 6 }:Cr).l,true⟩) (hd:p ∉ N.l) (h:c.pc=1) (hn:C.len≤A.n) (h0:0≤c.at'∧c.at'<C.C)
  (hq:σ.get q=some ⟨snL L,true⟩) (hqd:q ∉ N.l) (hqp:q≠p) (hx:L[c.at'.toNat]?=some x)
  (hk:∀ τ,isA N ((A.by who).load (C.chunk c.at'+1)) τ→τ.get p=some ⟨({ c with x1:=.slice (some ⟨q,0,none⟩) L.length 6,at':=if C.C≤c.at'+1 then 0 else c.at'+1,pc:=if C.C≤c.at'+1 then 2 else 0 }:Cr).l,true⟩ →
   τ.get q=some ⟨snL (L.set c.at'.toNat { x with live:=IntKind.i64.wrap (A.w (C.chunk c.at'+1)) }),true⟩→Keep (q :: p :: N.l) σ τ→K (.tuple #[]) τ):s_ao [.pointer (some ⟨p,0,none⟩),N.env C who] K σ:=by
 rcases c with ⟨pc,x1,at',pos,w,now,x6,x7,x8,ev,lf,fd,mo,rd,ev2,lf2,fd2,mo2,rd2,idle⟩
 dsimp only at *
 subst h
 have hT:=hC.T; have hS:=hC.S; have hC3:=hC.C; have hl:=len_bd hC
 have hch:C.chunk C.C=6+C.T+2*C.S+3*C.C:=rfl
 have cb:0≤C.chunk at'+1∧C.chunk at'+1<A.n:=by unfold Cf.chunk at *; omega
 have cb2:C.chunk at'+1≤300000:=by unfold Cf.chunk at *; omega
 have hlen:at'<(L.length:Int):=by have:=(List.getElem?_eq_some_iff.1 hx).1; omega
 rw [hA.obj hp]
 simp only [s_ao,w_ao,w_ao_j1,w_ao_j1b,s_ar,w_ar,lC0 hd,lC2 hd,lC1 hd,
  c_Chunk hC h0.1 (show at'≤65536 by omega),IntWalk.i64_in (C.chunk at'+1) (by omega),c_Load hN cb.1 cb.2,xIxS h0.1 hlen,Nat.zero_add,and_self,ruS,ruL,ruE,Nat.reduceAdd,reduceIte,Int.reduceLT,Int.reduceLE,Int.reduceEq,Int.reduceNeg,Int.reduceAdd,Int.reduceSub,Nat.reduceLeDiff,Nat.reduceLT]
 obtain ⟨hA1,gp1,k1,n1⟩:=mid (σ:=σ) (A:=(A.by who).load (C.chunk at'+1)) hN hd (b:=⟨(⟨1,.slice (some ⟨q,0,none⟩) L.length 6,at',pos,w,now,x6,x7,x8,ev,lf,fd,mo,rd,ev2,lf2,fd2,mo2,rd2,idle⟩:Cr).l,true⟩)
 have gq1:=k1.get hq (notin_cons hqp hqd)
 have hlay:lay (snL L) (at'.toNat*6+4) [.int .i64 (IntKind.i64.wrap (A.w (C.chunk at'+1)))]=snL (L.set at'.toNat { x with live:=IntKind.i64.wrap (A.w (C.chunk at'+1)) }):=sn_lay hx (by simp) rfl
 rw [hStore_eq gq1 (show cellsOf (.int .i64 (IntKind.i64.wrap (A.w (C.chunk at'+1)))) 1=some [.int .i64 (IntKind.i64.wrap (A.w (C.chunk at'+1)))] from rfl) (by rw [snL_len]; omega) rfl,hlay]
 generalize hM:(putA N ((A.by who).load (C.chunk at'+1)) (σ.set p ⟨(⟨1,.slice (some ⟨q,0,none⟩) L.length 6,at',pos,w,now,x6,x7,x8,ev,lf,fd,mo,rd,ev2,lf2,fd2,mo2,rd2,idle⟩:Cr).l,true⟩))=M at *
 have kq:Keep [q] M (M.set q ⟨snL (L.set at'.toNat { x with live:=IntKind.i64.wrap (A.w (C.chunk at'+1)) }),true⟩):=fun i b hi hn=>by rw [Mem.get_set_ne _ _ (by simpa using hn)]; exact hi
 have gq2:(M.set q ⟨snL (L.set at'.toNat { x with live:=IntKind.i64.wrap (A.w (C.chunk at'+1)) }),true⟩).get q=some ⟨snL (L.set at'.toNat { x with live:=IntKind.i64.wrap (A.w (C.chunk at'+1)) }),true⟩:=Mem.get_set_same _ _ _
 generalize (M.set q ⟨snL (L.set at'.toNat { x with live:=IntKind.i64.wrap (A.w (C.chunk at'+1)) }),true⟩)=M2 at *
 have hA2:isA N ((A.by who).load (C.chunk at'+1)) M2:=hA1.keep kq (by simp only [Nm.l,List.mem_cons,List.not_mem_nil,or_false,not_or] at hqd ⊢; exact ⟨Ne.symm hqd.1,Ne.symm hqd.2.1,Ne.symm hqd.2.2⟩)
 rw [hA2.obj (kq.get gp1 (by simp; exact fun e=>hqp e.symm))]
 simp only [w_ar_j3,w_ar_j3b,lC2 hd,sC2 hd,sC0 hd,IntWalk.i64_in (at'+1) (by omega),ruS,ruL,ruE,Nat.reduceAdd,reduceIte,Int.reduceLT,Int.reduceLE,Int.reduceEq,Int.reduceNeg,Int.reduceAdd,Int.reduceSub,Nat.reduceLeDiff,Nat.reduceLT]
 have fin:∀ {b:Blk} {v:Value},(∀ τ,isA N ((A.by who).load (C.chunk at'+1)) τ→τ.get p=some b→τ.get q=some ⟨snL (L.set at'.toNat { x with live:=IntKind.i64.wrap (A.w (C.chunk at'+1)) }),true⟩→Keep (q :: p :: N.l) σ τ→K v τ) →
   K v (putA N ((A.by who).load (C.chunk at'+1)) (M2.set p b)):=fun hh=>by
  refine behind hN hd fun τ u1 u2 u3=>hh τ u1 u2 (u3.get gq2 (notin_cons hqp hqd)) (Keep.trans (k1.mono fun i hi=>List.mem_cons_of_mem _ hi) (Keep.trans (kq.mono fun i hi=>?_) (u3.mono fun i hi=>List.mem_cons_of_mem _ hi)))
  rw [List.mem_singleton] at hi; subst hi; exact List.mem_cons_self ..
 by_cases e:C.C≤at'+1
 ·simp only [if_pos e] at hk
  simp only [e,sC2 hd,sC0 hd,ruS,ruL,ruE,Nat.reduceAdd,reduceIte,Int.reduceLT,Int.reduceLE,Int.reduceEq,Int.reduceNeg,Int.reduceAdd,Int.reduceSub,Nat.reduceLeDiff,Nat.reduceLT]
  exact fin hk
 ·simp only [if_neg e] at hk
  simp only [e,ruS,ruL,ruE,Nat.reduceAdd,reduceIte,Int.reduceLT,Int.reduceLE,Int.reduceEq,Int.reduceNeg,Int.reduceAdd,Int.reduceSub,Nat.reduceLeDiff,Nat.reduceLT]
  exact fin hk
theorem c_Co2 (hN:N.ok) (hC:C.ok) (hA:isA N A σ) {p q:Nat} {c:Cr} {L:List Sn} (hp:σ.get p=some ⟨({ c with x1:=.slice (some ⟨q,0,none⟩) L.length 6 }:Cr).l,true⟩) (hd:p ∉ N.l) (h:c.pc=2) (hn:C.len≤A.n) (h0:0≤c.at'∧c.at'<4)
  (hq:σ.get q=some ⟨snL L,true⟩) (hqd:q ∉ N.l) (hqp:q≠p) (hL:(L.length:Int)=C.C) (hop:0≤A.w (2+c.at')∧A.w (2+c.at')≤C.C)
  (k1:c.at'+1<4→∀ τ,isA N ((A.by who).load (2+c.at')) τ→τ.get p=some ⟨({ c with x1:=.slice (some ⟨q,0,none⟩) L.length 6,at':=c.at'+1 }:Cr).l,true⟩→τ.get q=some ⟨snL (opS L (A.w (2+c.at'))),true⟩→Keep (q :: p :: N.l) σ τ→K (.tuple #[]) τ)
  (k2:¬ c.at'+1<4→(∀ x ∈ opS L (A.w (2+c.at')),¬ x.may C)→∀ τ,isA N ((A.by who).load (2+c.at')) τ→τ.get p=some ⟨({ c with x1:=.slice (some ⟨q,0,none⟩) L.length 6,at' := -1,pc:=10 }:Cr).l,true⟩→Keep (q :: p :: N.l) σ τ→K (.tuple #[]) τ)
  (k3:¬ c.at'+1<4→∀ r x,0≤r→r<C.C→(opS L (A.w (2+c.at')))[r.toNat]?=some x→x.may C→Least C (opS L (A.w (2+c.at'))) r→∀ τ,isA N ((A.by who).load (2+c.at')) τ→τ.get p=some ⟨({ c with x1:=.slice (some ⟨q,0,none⟩) L.length 6,at':=r,pc:=3,w:=putChunk x.st x.cl x.us x.sp }:Cr).l,true⟩→Keep (q :: p :: N.l) σ τ→K (.tuple #[]) τ) :
  s_ao [.pointer (some ⟨p,0,none⟩),N.env C who] K σ:=by
 rcases c with ⟨pc,x1,at',pos,w,now,x6,x7,x8,ev,lf,fd,mo,rd,ev2,lf2,fd2,mo2,rd2,idle⟩
 dsimp only at *
 subst h
 have hT:=hC.T; have hS:=hC.S; have hC3:=hC.C; have hl:=len_bd hC
 have hch:C.chunk C.C=6+C.T+2*C.S+3*C.C:=rfl
 have cb:0≤2+at'∧2+at'<A.n:=by omega
 have hlen:(opS L (A.w (2+at'))).length=L.length:=opS_len
 have s7:sub (N.el C who) 0 7 true=some C.v:=rfl
 have fin:∀ M:Mem,isA N ((A.by who).load (2+at')) M→M.get p=some ⟨(⟨2,.slice (some ⟨q,0,none⟩) L.length 6,at',pos,w,now,x6,x7,x8,ev,lf,fd,mo,rd,ev2,lf2,fd2,mo2,rd2,idle⟩:Cr).l,true⟩ →
   M.get q=some ⟨snL (opS L (A.w (2+at'))),true⟩→Keep (q :: p :: N.l) σ M→w_ar_j4 (fun v17 σ=>K (.tuple #[]) σ) [.pointer (some ⟨p,0,none⟩)] [N.el C who] M:=by
  intro M hA1 gp gq kp
  have out:∀ {b:Blk} {v:Value},(∀ τ,isA N ((A.by who).load (2+at')) τ→τ.get p=some b→τ.get q=some ⟨snL (opS L (A.w (2+at'))),true⟩→Keep (q :: p :: N.l) σ τ→K v τ) →
    K v (putA N ((A.by who).load (2+at')) (M.set p b)):=fun hh=>
   behind hN hd fun τ u1 u2 u3=>hh τ u1 u2 (u3.get gq (notin_cons hqp hqd)) (Keep.trans kp (u3.mono fun i hi=>List.mem_cons_of_mem _ hi))
  rw [hA1.obj gp]
  simp only [w_ar_j4,w_ar_j4b,lC2 hd,sC2 hd,IntWalk.i64_in (at'+1) (by omega),ruS,ruL,ruE,Nat.reduceAdd,reduceIte,Int.reduceLT,Int.reduceLE,Int.reduceEq,Int.reduceNeg,Int.reduceAdd,Int.reduceSub,Nat.reduceLeDiff,Nat.reduceLT]
  by_cases c4:at'+1<4
  ·simp only [c4,ruS,ruL,ruE,Nat.reduceAdd,reduceIte,Int.reduceLT,Int.reduceLE,Int.reduceEq,Int.reduceNeg,Int.reduceAdd,Int.reduceSub,Nat.reduceLeDiff,Nat.reduceLT]
   exact out (k1 c4)
  ·simp only [c4,lC1 hd,s7,ruS,ruL,ruE,Nat.reduceAdd,reduceIte,Int.reduceLT,Int.reduceLE,Int.reduceEq,Int.reduceNeg,Int.reduceAdd,Int.reduceSub,Nat.reduceLeDiff,Nat.reduceLT]
   obtain ⟨hA2,gp2,kp2,_⟩:=mid (σ:=M) (A:=(A.by who).load (2+at')) hN hd (b:=⟨(⟨2,.slice (some ⟨q,0,none⟩) L.length 6,at'+1,pos,w,now,x6,x7,x8,ev,lf,fd,mo,rd,ev2,lf2,fd2,mo2,rd2,idle⟩:Cr).l,true⟩)
   have gq2:=kp2.get gq (notin_cons hqp hqd)
   refine c_Choose' hlen (by omega) gq2 fun r hr hle=>?_
   simp only [sC2 hd,sC0 hd,lC2 hd,ruS,ruL,ruE,Nat.reduceAdd,reduceIte,Int.reduceLT,Int.reduceLE,Int.reduceEq,Int.reduceNeg,Int.reduceAdd,Int.reduceSub,Nat.reduceLeDiff,Nat.reduceLT]
   rcases hr with ⟨rfl,hr⟩ | ⟨r0,x,hx,hm⟩
   ·simp only [sC0 hd,ruS,ruL,ruE,Nat.reduceAdd,reduceIte,Int.reduceLT,Int.reduceLE,Int.reduceEq,Int.reduceNeg,Int.reduceAdd,Int.reduceSub,Nat.reduceLeDiff,Nat.reduceLT]
    exact out fun τ a b _ d=>k2 c4 hr τ a b d
   ·have rl:r<(L.length:Int):=by have:=(List.getElem?_eq_some_iff.1 hx).1; omega
    have nr0:¬ r<0:=by omega
    simp only [nr0,lC1 hd,lC2 hd,xIxS r0 rl,Nat.zero_add,ruS,ruL,ruE,Nat.reduceAdd,reduceIte,Int.reduceLT,Int.reduceLE,Int.reduceEq,Int.reduceNeg,Int.reduceAdd,Int.reduceSub,Nat.reduceLeDiff,Nat.reduceLT]
    obtain ⟨hA3,gp3,kp3,_⟩:=mid (σ:=M) (A:=(A.by who).load (2+at')) hN hd (b:=⟨(⟨3,.slice (some ⟨q,0,none⟩) L.length 6,r,pos,w,now,x6,x7,x8,ev,lf,fd,mo,rd,ev2,lf2,fd2,mo2,rd2,idle⟩:Cr).l,true⟩)
    have gq3:=kp3.get gq (notin_cons hqp hqd)
    rw [show r.toNat*6=r.toNat*6+0 from rfl,ldSn gq3 hx (by decide) (by decide) (show sub x.l 0 4 true=some (.agg #[.int .i64 x.st,.int .i64 x.cl,.int .i64 x.us,.int .i64 x.sp]) from rfl)]
    simp only [c_PutChunk,sC4 hd,ruS,ruL,ruE,Nat.reduceAdd,reduceIte,Int.reduceLT,Int.reduceLE,Int.reduceEq,Int.reduceNeg,Int.reduceAdd,Int.reduceSub,Nat.reduceLeDiff,Nat.reduceLT]
    exact out fun τ a b _ d=>k3 c4 r x r0 (by omega) hx hm hle τ a b d
 rw [hA.obj hp]
 simp only [s_ao,w_ao,w_ao_j1,w_ao_j1b,s_ar,w_ar,lC0 hd,lC2 hd,c_Open h0.1 (show at'≤65536 by omega),c_Load hN cb.1 cb.2,IntWalk.i64_in (A.w (2+at')) (by omega),ruS,ruL,ruE,Nat.reduceAdd,reduceIte,Int.reduceLT,Int.reduceLE,Int.reduceEq,Int.reduceNeg,Int.reduceAdd,Int.reduceSub,Nat.reduceLeDiff,Nat.reduceLT]
 obtain ⟨hA1,gp1,kp1,n1⟩:=mid (σ:=σ) (A:=(A.by who).load (2+at')) hN hd (b:=⟨(⟨2,.slice (some ⟨q,0,none⟩) L.length 6,at',pos,w,now,x6,x7,x8,ev,lf,fd,mo,rd,ev2,lf2,fd2,mo2,rd2,idle⟩:Cr).l,true⟩)
 have gq1:=kp1.get hq (notin_cons hqp hqd)
 by_cases cn:0<A.w (2+at')
 ·obtain ⟨x,hx⟩:∃ x,L[(A.w (2+at') - 1).toNat]?=some x:=⟨_,List.getElem?_eq_getElem (by omega)⟩
  have e:opS L (A.w (2+at'))=L.set (A.w (2+at') - 1).toNat { x with op:=true }:=by unfold opS; rw [if_pos cn,hx]
  have hn1:0≤A.w (2+at') - 1:=by omega
  have hn2:A.w (2+at') - 1<(L.length:Int):=by omega
  simp only [cn,lC1 hd,IntWalk.i64_in (A.w (2+at') - 1) (by omega),xIxS hn1 hn2,Nat.zero_add,ruS,ruL,ruE,Nat.reduceAdd,reduceIte,Int.reduceLT,Int.reduceLE,Int.reduceEq,Int.reduceNeg,Int.reduceAdd,Int.reduceSub,Nat.reduceLeDiff,Nat.reduceLT]
  have hlay:lay (snL L) ((A.w (2+at') - 1).toNat*6+5) [.bool true]=snL (opS L (A.w (2+at'))):=by rw [e]; exact sn_lay hx (by simp) rfl
  rw [hStore_eq gq1 (show cellsOf (.bool true) 1=some [.bool true] from rfl) (by rw [snL_len]; omega) rfl,hlay]
  refine fin _ ?_ ?_ (Mem.get_set_same _ _ _) ?_
  ·refine hA1.keep (L:=[q]) (fun i b hi hn=>by rw [Mem.get_set_ne _ _ (by simpa using hn)]; exact hi) ?_
   simp only [Nm.l,List.mem_cons,List.not_mem_nil,or_false,not_or] at hqd ⊢; exact ⟨Ne.symm hqd.1,Ne.symm hqd.2.1,Ne.symm hqd.2.2⟩
  ·rw [Mem.get_set_ne _ _ (Ne.symm hqp)]; exact gp1
  ·intro i b hi hn
   simp only [List.mem_cons,not_or] at hn
   rw [Mem.get_set_ne _ _ hn.1]
   exact kp1 i b hi (notin_cons hn.2.1 hn.2.2)
 ·have e:opS L (A.w (2+at'))=L:=by unfold opS; rw [if_neg cn]
  simp only [cn,ruS,ruL,ruE,Nat.reduceAdd,reduceIte,Int.reduceLT,Int.reduceLE,Int.reduceEq,Int.reduceNeg,Int.reduceAdd,Int.reduceSub,Nat.reduceLeDiff,Nat.reduceLT]
  exact fin _ hA1 gp1 (by rw [e]; exact gq1) (kp1.mono fun i hi=>List.mem_cons_of_mem _ hi)
end Go.Fl
namespace Go.Fl
open Go
set_option linter.unusedVariables false
set_option linter.unusedSimpArgs false
variable {N:Nm} {A B:Ar} {σ:Mem} {K:Value→Mem→Prop} {C:Cf} {who:Int}
def Cr.moved (c:Cr) (done:Bool) (out:Int):Cr:=
 if done=false then c else if out=1 then ({ c with mo:=c.mo+1 }:Cr).next (chC c.w) (chU c.w) else if out=2 then c.next (chC c.w) (chU c.w) else { c with pc:=9 }
theorem c_Co5 (hN:N.ok) (hC:C.ok) (hA:isA N A σ) {p q:Nat} {Q:List Nat} {c:Cr} {m:Mv} (hp:σ.get p=some ⟨({ c with x6:=.pointer (some ⟨q,0,none⟩) }:Cr).l,true⟩) (hd:p ∉ N.l) (h:c.pc=5) (hn:C.len≤A.n)
  (hwA:∀ i,0≤A.w i∧A.w i<18446744073709551616) (hob:MOb N q Q m σ) (hpQ:p ∉ Q) (hf:m.fit C A) (hw:0≤c.w∧c.w<18446744073709551616) (hcl:chC c.w≤3) (hpo:0≤c.pos∧c.pos≤200000000) (hmo:0≤c.mo∧c.mo≤1000000000)
  (hk:∀ O' τ,(∀ i ∈ O',i ∈ Q∨σ.get i=none)→p ∉ O'→isA N (m.step C who A).2.2 τ→MOb N q O' (m.step C who A).2.1 τ→τ.get p=some ⟨(({ c with x6:=.pointer (some ⟨q,0,none⟩) }:Cr).moved (m.step C who A).1 (m.step C who A).2.1.a.out).l,true⟩ →
   Keep (p :: (Q ++ N.l)) σ τ→K (.tuple #[]) τ):s_ao [.pointer (some ⟨p,0,none⟩),N.env C who] K σ:=by
 rcases c with ⟨pc,x1,at',pos,w,now,x6,x7,x8,ev,lf,fd,mo,rd,ev2,lf2,fd2,mo2,rd2,idle⟩
 dsimp only at *
 subst h
 have hcb:=chC_bd w
 rw [hA.obj hp]
 simp only [s_ao,w_ao,w_ao_j1,w_ao_j1b,lC0 hd,lC6 hd,ruS,ruL,ruE,Nat.reduceAdd,reduceIte,Int.reduceLT,Int.reduceLE,Int.reduceEq,Int.reduceNeg,Int.reduceAdd,Int.reduceSub,Nat.reduceLeDiff,Nat.reduceLT]
 rw [← hA.obj hp]
 refine c_Mv_Step hN hC hA hob hwA hn hf fun O' τ hO hA' hob' kp=>?_
 have hpO:p ∉ O':=fun hm=>by
  rcases hO p hm with r | r
  ·exact hpQ r
  ·rw [hp] at r; cases r
 have gp:=kp.get hp (fun hm=>by rcases List.mem_append.1 hm with r | r; exact hpQ r; exact hd r)
 have kp':Keep (p :: (Q ++ N.l)) σ τ:=kp.mono fun i hi=>List.mem_cons_of_mem _ hi
 have out:∀ {b:Blk} {v:Value},(∀ τ',isA N (m.step C who A).2.2 τ'→τ'.get p=some b→MOb N q O' (m.step C who A).2.1 τ'→Keep (p :: (Q ++ N.l)) σ τ'→K v τ')→K v (putA N (m.step C who A).2.2 (τ.set p b)):=fun hh=>
  behind hN hd fun τ' u1 u2 u3=>hh τ' u1 u2 (hob'.keep u3 fun i hi hm=>by
   rcases List.mem_cons.1 hm with r | r
   ·subst r; exact hpO hi
   ·exact hob'.own i hi r) (Keep.trans kp' (u3.mono fun i hi=>by
    rcases List.mem_cons.1 hi with r | r
    ·subst r; exact List.mem_cons_self ..
    ·exact List.mem_cons_of_mem _ (List.mem_append_right _ r)))
 unfold Cr.moved at hk
 by_cases d:(m.step C who A).1=false
 ·rw [if_pos d] at hk
  simp only [d,ruS,ruL,ruE,Nat.reduceAdd,reduceIte,Int.reduceLT,Int.reduceLE,Int.reduceEq,Int.reduceNeg,Int.reduceAdd,Int.reduceSub,Nat.reduceLeDiff,Nat.reduceLT]
  exact hk O' τ hO hpO hA' hob' gp kp'
 ·rw [if_neg d] at hk
  have d':(m.step C who A).1=true:=by simpa using d
  obtain ⟨a,ga,ho,_⟩:=hob'.out
  simp only [d',s_as,w_as,ruS,ruL,ruE,Nat.reduceAdd,reduceIte,Int.reduceLT,Int.reduceLE,Int.reduceEq,Int.reduceNeg,Int.reduceAdd,Int.reduceSub,Nat.reduceLeDiff,Nat.reduceLT]
  rw [hA'.obj gp]
  simp only [lC6 hd,ruS,ruL,ruE,Nat.reduceAdd,reduceIte,Int.reduceLT,Int.reduceLE,Int.reduceEq,Int.reduceNeg,Int.reduceAdd,Int.reduceSub,Nat.reduceLeDiff,Nat.reduceLT]
  rw [← hA'.obj gp]
  refine c_MoveOut ga ?_
  rw [hA'.obj gp,ho]
  by_cases o1:(m.step C who A).2.1.a.out=1
  ·rw [if_pos o1] at hk
   simp only [o1,lC12 hd,ruS,ruL,ruE,Nat.reduceAdd,reduceIte,Int.reduceLT,Int.reduceLE,Int.reduceEq,Int.reduceNeg,Int.reduceAdd,Int.reduceSub,Nat.reduceLeDiff,Nat.reduceLT]
   rw [IntWalk.i64_in (mo+1) (by omega)]
   simp only [sC12 hd,lC4 hd,c_wChunk hw.1 hw.2,ruS,ruL,ruE,Nat.reduceAdd,reduceIte,Int.reduceLT,Int.reduceLE,Int.reduceEq,Int.reduceNeg,Int.reduceAdd,Int.reduceSub,Nat.reduceLeDiff,Nat.reduceLT]
   rw [c_Conext hd ⟨hcb.1,hcl⟩ hpo]
   exact out fun τ' u1 u2 u3 u4=>hk O' τ' hO hpO u1 u3 u2 u4
  ·rw [if_neg o1] at hk
   by_cases o2:(m.step C who A).2.1.a.out=2
   ·rw [if_pos o2] at hk
    simp only [o1,o2,lC4 hd,c_wChunk hw.1 hw.2,ruS,ruL,ruE,Nat.reduceAdd,reduceIte,Int.reduceLT,Int.reduceLE,Int.reduceEq,Int.reduceNeg,Int.reduceAdd,Int.reduceSub,Nat.reduceLeDiff,Nat.reduceLT]
    rw [c_Conext hd ⟨hcb.1,hcl⟩ hpo]
    exact out fun τ' u1 u2 u3 u4=>hk O' τ' hO hpO u1 u3 u2 u4
   ·rw [if_neg o2] at hk
    simp only [o1,o2,sC0 hd,ruS,ruL,ruE,Nat.reduceAdd,reduceIte,Int.reduceLT,Int.reduceLE,Int.reduceEq,Int.reduceNeg,Int.reduceAdd,Int.reduceSub,Nat.reduceLeDiff,Nat.reduceLT]
    exact out fun τ' u1 u2 u3 u4=>hk O' τ' hO hpO u1 u3 u2 u4
theorem c_Co10j (hN:N.ok) (hC:C.ok) (hA:isA N A σ) {p q:Nat} {c:Cr} {a:Adv} (hp:σ.get p=some ⟨({ c with x7:=.pointer (some ⟨q,0,none⟩) }:Cr).l,true⟩) (hd:p ∉ N.l) (hn:C.len≤A.n)
  (hq:σ.get q=some ⟨a.l,true⟩) (hqd:q ∉ N.l) (hqp:q≠p) (hf:a.fit C)
  (k1:(a.step C who A).1=false→∀ τ,isA N (a.step C who A).2.2 τ→τ.get p=some ⟨({ c with x7:=.pointer (some ⟨q,0,none⟩) }:Cr).l,true⟩→τ.get q=some ⟨(a.step C who A).2.1.l,true⟩→Keep (q :: p :: N.l) σ τ→K (.tuple #[]) τ)
  (k2:(a.step C who A).1=true→∀ τ,isA N (a.step C who A).2.2 τ→τ.get p=some ⟨({ c with x7:=.pointer none,at':=0,pc:=11 }:Cr).l,true⟩→Keep (q :: p :: N.l) σ τ→K (.tuple #[]) τ) :
  w_au_j1 (fun v σ=>K (.tuple #[]) σ) [.pointer (some ⟨p,0,none⟩)] [N.el C who] σ:=by
 rcases c with ⟨pc,x1,at',pos,w,now,x6,x7,x8,ev,lf,fd,mo,rd,ev2,lf2,fd2,mo2,rd2,idle⟩
 dsimp only at *
 rw [hA.obj hp]
 simp only [w_au_j1,w_au_j1b,lC7 hd,ruS,ruL,ruE,Nat.reduceAdd,reduceIte,Int.reduceLT,Int.reduceLE,Int.reduceEq,Int.reduceNeg,Int.reduceAdd,Int.reduceSub,Nat.reduceLeDiff,Nat.reduceLT]
 rw [← hA.obj hp]
 refine c_Adv hN hC hA hq hqd hn hf fun τ hA' gq kq=>?_
 have gp:=kq.get hp (notin_cons (Ne.symm hqp) hd)
 have kq':Keep (q :: p :: N.l) σ τ:=kq.mono fun i hi=>by
  rcases List.mem_cons.1 hi with r | r
  ·subst r; exact List.mem_cons_self ..
  ·exact List.mem_cons_of_mem _ (List.mem_cons_of_mem _ r)
 cases d:(a.step C who A).1 with
 | false=>
  simp only [ruS,ruL,ruE,Nat.reduceAdd,reduceIte,Int.reduceLT,Int.reduceLE,Int.reduceEq,Int.reduceNeg,Int.reduceAdd,Int.reduceSub,Nat.reduceLeDiff,Nat.reduceLT]
  exact k1 d τ hA' gp gq kq'
 | true=>
  simp only [ruS,ruL,ruE,Nat.reduceAdd,reduceIte,Int.reduceLT,Int.reduceLE,Int.reduceEq,Int.reduceNeg,Int.reduceAdd,Int.reduceSub,Nat.reduceLeDiff,Nat.reduceLT]
  rw [hA'.obj gp]
  simp only [sC7n hd,sC2 hd,sC0 hd,ruS,ruL,ruE,Nat.reduceAdd,reduceIte,Int.reduceLT,Int.reduceLE,Int.reduceEq,Int.reduceNeg,Int.reduceAdd,Int.reduceSub,Nat.reduceLeDiff,Nat.reduceLT]
  exact behind hN hd fun τ' u1 u2 u3=>k2 d τ' u1 u2 (Keep.trans kq' (u3.mono fun i hi=>List.mem_cons_of_mem _ hi))
theorem c_Co10a (hN:N.ok) (hC:C.ok) (hA:isA N A σ) {p q:Nat} {c:Cr} {a:Adv} (hp:σ.get p=some ⟨({ c with x7:=.pointer (some ⟨q,0,none⟩) }:Cr).l,true⟩) (hd:p ∉ N.l) (h:c.pc=10) (hn:C.len≤A.n)
  (hq:σ.get q=some ⟨a.l,true⟩) (hqd:q ∉ N.l) (hqp:q≠p) (hf:a.fit C)
  (k1:(a.step C who A).1=false→∀ τ,isA N (a.step C who A).2.2 τ→τ.get p=some ⟨({ c with x7:=.pointer (some ⟨q,0,none⟩) }:Cr).l,true⟩→τ.get q=some ⟨(a.step C who A).2.1.l,true⟩→Keep (q :: p :: N.l) σ τ→K (.tuple #[]) τ)
  (k2:(a.step C who A).1=true→∀ τ,isA N (a.step C who A).2.2 τ→τ.get p=some ⟨({ c with x7:=.pointer none,at':=0,pc:=11 }:Cr).l,true⟩→Keep (q :: p :: N.l) σ τ→K (.tuple #[]) τ) :
  s_ao [.pointer (some ⟨p,0,none⟩),N.env C who] K σ:=by
 rcases c with ⟨pc,x1,at',pos,w,now,x6,x7,x8,ev,lf,fd,mo,rd,ev2,lf2,fd2,mo2,rd2,idle⟩
 dsimp only at *
 subst h
 rw [hA.obj hp]
 simp only [s_ao,w_ao,w_ao_j1,w_ao_j1b,s_au,w_au,lC0 hd,lC7 hd,ruS,ruL,ruE,Nat.reduceAdd,reduceIte,Int.reduceLT,Int.reduceLE,Int.reduceEq,Int.reduceNeg,Int.reduceAdd,Int.reduceSub,Nat.reduceLeDiff,Nat.reduceLT]
 rw [← hA.obj hp]
 exact c_Co10j (c:=⟨10,x1,at',pos,w,now,x6,x7,x8,ev,lf,fd,mo,rd,ev2,lf2,fd2,mo2,rd2,idle⟩) hN hC hA hp hd hn hq hqd hqp hf k1 k2
theorem c_Co10n (hN:N.ok) (hC:C.ok) (hA:isA N A σ) {p:Nat} {c:Cr} (hp:σ.get p=some ⟨({ c with x7:=.pointer none }:Cr).l,true⟩) (hd:p ∉ N.l) (h:c.pc=10) (hn:C.len≤A.n)
  (k1:(Adv.new.step C who A).1=false→∀ q τ,σ.get q=none→q≠p→q ∉ N.l→isA N (Adv.new.step C who A).2.2 τ→τ.get p=some ⟨({ c with x7:=.pointer (some ⟨q,0,none⟩) }:Cr).l,true⟩→τ.get q=some ⟨(Adv.new.step C who A).2.1.l,true⟩→Keep (p :: N.l) σ τ→K (.tuple #[]) τ) :
  s_ao [.pointer (some ⟨p,0,none⟩),N.env C who] K σ:=by
 rcases c with ⟨pc,x1,at',pos,w,now,x6,x7,x8,ev,lf,fd,mo,rd,ev2,lf2,fd2,mo2,rd2,idle⟩
 dsimp only at *
 subst h
 have b:∀ K:Value→Prop,xF (fBuild [(0,1),(1,1),(2,1),(3,1)] [.int .i64 0,.int .u64 0,.int .i64 0,.bool false] []) [] K=K (.agg Adv.new.l.toArray):=fun K=>nr rfl
 rw [hA.obj hp]
 simp only [s_ao,w_ao,w_ao_j1,w_ao_j1b,s_au,w_au,lC0 hd,lC7 hd,b,ruS,ruL,ruE,Nat.reduceAdd,reduceIte,Int.reduceLT,Int.reduceLE,Int.reduceEq,Int.reduceNeg,Int.reduceAdd,Int.reduceSub,Nat.reduceLeDiff,Nat.reduceLT]
 rw [← hA.obj hp]
 refine hBox_i (cs:=Adv.new.l) rfl fun q τ hq gq x=>?_
 have hA1:=hA.ext x
 have hqN:=hA.new hq
 have hqp:q≠p:=by rintro rfl; rw [hp] at hq; cases hq
 rw [hA1.obj (x _ _ hp)]
 simp only [sC7p hd,ruS,ruL,ruE,Nat.reduceAdd,reduceIte,Int.reduceLT,Int.reduceLE,Int.reduceEq,Int.reduceNeg,Int.reduceAdd,Int.reduceSub,Nat.reduceLeDiff,Nat.reduceLT]
 obtain ⟨hA2,gp2,kp2,_⟩:=mid (σ:=τ) (A:=A) hN hd (b:=⟨(⟨10,x1,at',pos,w,now,x6,.pointer (some ⟨q,0,none⟩),x8,ev,lf,fd,mo,rd,ev2,lf2,fd2,mo2,rd2,idle⟩:Cr).l,true⟩)
 have kk:∀ {τ':Mem},Keep (q :: p :: N.l) (putA N A (τ.set p ⟨(⟨10,x1,at',pos,w,now,x6,.pointer (some ⟨q,0,none⟩),x8,ev,lf,fd,mo,rd,ev2,lf2,fd2,mo2,rd2,idle⟩:Cr).l,true⟩)) τ'→Keep (p :: N.l) σ τ':=fun k i b hi hn=>by
  have:i≠q:=by rintro rfl; rw [hq] at hi; cases hi
  exact k i b (kp2 i b (x i b hi) hn) (notin_cons this hn)
 refine c_Co10j (c:=⟨10,x1,at',pos,w,now,x6,x7,x8,ev,lf,fd,mo,rd,ev2,lf2,fd2,mo2,rd2,idle⟩) hN hC hA2 gp2 hd hn (kp2.get gq (notin_cons hqp hqN)) hqN hqp (Adv.new_fit hC) (fun d τ' u1 u2 u3 u4=>k1 d q τ' hq hqp hqN u1 u2 u3 (kk u4)) fun d=>?_
 exact absurd d (by unfold Adv.step; rw [if_pos (show Adv.new.pc=0 from rfl)]; exact Bool.false_ne_true)
def Cr.settled (C:Cf) (c:Cr) (f:Bool):Cr:=
 let fd':=(if f=true then c.fd+1 else c.fd)
 if C.C≤c.at'+1 then ⟨0,c.x1,0,c.pos,c.w,c.now,c.x6,c.x7,.pointer none,c.ev,c.lf,fd',c.mo,c.rd+1,c.ev,c.lf,fd',c.mo,c.rd+1,(if c.ev≠c.ev2∨c.mo≠c.mo2∨fd'≠c.fd2 then 0 else c.idle+1)⟩
 else ⟨c.pc,c.x1,c.at'+1,c.pos,c.w,c.now,c.x6,c.x7,.pointer none,c.ev,c.lf,fd',c.mo,c.rd,c.ev2,c.lf2,c.fd2,c.mo2,c.rd2,c.idle⟩
structure Cr.cnt (c:Cr):Prop where
 fd:0≤c.fd∧c.fd≤1000000000
 rd:0≤c.rd∧c.rd≤1000000000
 idle:0≤c.idle∧c.idle≤1000000000
theorem c_Co11s (hN:N.ok) (hA:isA N A σ) {p:Nat} {c:Cr} (f:Bool) (hp:σ.get p=some ⟨({ c with fd:=if f=true then c.fd+1 else c.fd }:Cr).l,true⟩) (hd:p ∉ N.l) (h:c.pc=11) (h0:0≤c.at'∧c.at'<C.C) (hc:c.cnt) (hC3:C.C≤64)
  (hk:∀ τ,isA N A τ→τ.get p=some ⟨(c.settled C f).l,true⟩→Keep (p :: N.l) σ τ→K (.tuple #[]) τ) :
  w_au_j3 (fun v σ=>K (.tuple #[]) σ) [.pointer (some ⟨p,0,none⟩)] [N.el C who] σ:=by
 rcases c with ⟨pc,x1,at',pos,w,now,x6,x7,x8,ev,lf,fd,mo,rd,ev2,lf2,fd2,mo2,rd2,idle⟩
 obtain ⟨h1,h2,h3⟩:=hc
 unfold Cr.settled at hk
 dsimp only at *
 subst h
 generalize hfd:(if f=true then fd+1 else fd)=fd' at *
 rw [hA.obj hp]
 simp only [w_au_j3,w_au_j3b,sC8n hd,lC2 hd,sC2 hd,ruS,ruL,ruE,Nat.reduceAdd,reduceIte,Int.reduceLT,Int.reduceLE,Int.reduceEq,Int.reduceNeg,Int.reduceAdd,Int.reduceSub,Nat.reduceLeDiff,Nat.reduceLT]
 rw [IntWalk.i64_in (at'+1) (by omega)]
 by_cases e:C.C≤at'+1
 rotate_left
 ·rw [if_neg e] at hk
  simp only [e,ruS,ruL,ruE,Nat.reduceAdd,reduceIte,Int.reduceLT,Int.reduceLE,Int.reduceEq,Int.reduceNeg,Int.reduceAdd,Int.reduceSub,Nat.reduceLeDiff,Nat.reduceLT]
  exact behind hN hd hk
 rw [if_pos e] at hk
 simp only [e,sC2 hd,sC0 hd,lC13 hd,ruS,ruL,ruE,Nat.reduceAdd,reduceIte,Int.reduceLT,Int.reduceLE,Int.reduceEq,Int.reduceNeg,Int.reduceAdd,Int.reduceSub,Nat.reduceLeDiff,Nat.reduceLT]
 rw [IntWalk.i64_in (rd+1) (by omega)]
 simp only [sC13 hd,lC19 hd,ruS,ruL,ruE,Nat.reduceAdd,reduceIte,Int.reduceLT,Int.reduceLE,Int.reduceEq,Int.reduceNeg,Int.reduceAdd,Int.reduceSub,Nat.reduceLeDiff,Nat.reduceLT]
 rw [IntWalk.i64_in (idle+1) (by omega)]
 simp only [sC19 hd,lC9 hd,lC14 hd,ruS,ruL,ruE,Nat.reduceAdd,reduceIte,Int.reduceLT,Int.reduceLE,Int.reduceEq,Int.reduceNeg,Int.reduceAdd,Int.reduceSub,Nat.reduceLeDiff,Nat.reduceLT]
 have j4:∀ idle',idle'=(if ev≠ev2∨mo≠mo2∨fd'≠fd2 then 0 else idle+1)→w_au_j4 (fun v σ=>K (.tuple #[]) σ) [.pointer (some ⟨p,0,none⟩)] [] (putA N A (σ.set p ⟨(⟨0,x1,0,pos,w,now,x6,x7,.pointer none,ev,lf,fd',mo,rd+1,ev2,lf2,fd2,mo2,rd2,idle'⟩:Cr).l,true⟩)):=by
  rintro _ rfl
  simp only [w_au_j4,w_au_j4b,lC9w hd,sC14w hd,ruS,ruL,ruE,Nat.reduceAdd,reduceIte,Int.reduceLT,Int.reduceLE,Int.reduceEq,Int.reduceNeg,Int.reduceAdd,Int.reduceSub,Nat.reduceLeDiff,Nat.reduceLT]
  exact behind hN hd hk
 have j5:∀ b:Bool,(b=true ↔ ev≠ev2∨mo≠mo2∨fd'≠fd2)→w_au_j5 (fun v σ=>K (.tuple #[]) σ) (w_au_j4 fun v σ=>K (.tuple #[]) σ) [.pointer (some ⟨p,0,none⟩),.bool b] [] (putA N A (σ.set p ⟨(⟨0,x1,0,pos,w,now,x6,x7,.pointer none,ev,lf,fd',mo,rd+1,ev2,lf2,fd2,mo2,rd2,idle+1⟩:Cr).l,true⟩)):=by
  intro b hb
  cases b with
  | true=>
   simp only [w_au_j5,w_au_j5b,sC19 hd,ruS,ruL,ruE,Nat.reduceAdd,reduceIte,Int.reduceLT,Int.reduceLE,Int.reduceEq,Int.reduceNeg,Int.reduceAdd,Int.reduceSub,Nat.reduceLeDiff,Nat.reduceLT]
   exact j4 0 (by rw [if_pos (hb.1 rfl)])
  | false=>
   simp only [w_au_j5,w_au_j5b,ruS,ruL,ruE,Nat.reduceAdd,reduceIte,Int.reduceLT,Int.reduceLE,Int.reduceEq,Int.reduceNeg,Int.reduceAdd,Int.reduceSub,Nat.reduceLeDiff,Nat.reduceLT]
   exact j4 (idle+1) (by rw [if_neg fun q=>by cases hb.2 q])
 by_cases e1:ev=ev2
 rotate_left
 ·simp only [e1,ruS,ruL,ruE,Nat.reduceAdd,reduceIte,Int.reduceLT,Int.reduceLE,Int.reduceEq,Int.reduceNeg,Int.reduceAdd,Int.reduceSub,Nat.reduceLeDiff,Nat.reduceLT]; exact j5 true ⟨fun _=>.inl e1,fun _=>rfl⟩
 subst e1
 by_cases e2:mo=mo2
 rotate_left
 ·simp only [lC12 hd,lC17 hd,e2,ruS,ruL,ruE,Nat.reduceAdd,reduceIte,Int.reduceLT,Int.reduceLE,Int.reduceEq,Int.reduceNeg,Int.reduceAdd,Int.reduceSub,Nat.reduceLeDiff,Nat.reduceLT]; exact j5 true ⟨fun _=>.inr (.inl e2),fun _=>rfl⟩
 subst e2
 simp only [lC12 hd,lC17 hd,lC11 hd,lC16 hd,ruS,ruL,ruE,Nat.reduceAdd,reduceIte,Int.reduceLT,Int.reduceLE,Int.reduceEq,Int.reduceNeg,Int.reduceAdd,Int.reduceSub,Nat.reduceLeDiff,Nat.reduceLT]
 by_cases e3:fd'=fd2
 ·subst e3; simp only [ruS,ruL,ruE,Nat.reduceAdd,reduceIte,Int.reduceLT,Int.reduceLE,Int.reduceEq,Int.reduceNeg,Int.reduceAdd,Int.reduceSub,Nat.reduceLeDiff,Nat.reduceLT]; exact j5 false ⟨fun q=>(by cases q),fun q=>by rcases q with q | q | q <;> exact absurd rfl q⟩
 ·simp only [e3,ruS,ruL,ruE,Nat.reduceAdd,reduceIte,Int.reduceLT,Int.reduceLE,Int.reduceEq,Int.reduceNeg,Int.reduceAdd,Int.reduceSub,Nat.reduceLeDiff,Nat.reduceLT]; exact j5 true ⟨fun _=>.inr (.inr e3),fun _=>rfl⟩
theorem c_Co11j (hN:N.ok) (hC:C.ok) (hA:isA N A σ) {p q:Nat} {c:Cr} {a:Stl} (hp:σ.get p=some ⟨({ c with x8:=.pointer (some ⟨q,0,none⟩) }:Cr).l,true⟩) (hd:p ∉ N.l) (h:c.pc=11) (hn:C.len≤A.n) (hnn:(A.n:Int)≤200000000) (hwA:∀ i,0≤A.w i∧A.w i<18446744073709551616)
  (hq:σ.get q=some ⟨a.l,true⟩) (hqd:q ∉ N.l) (hqp:q≠p) (hf:a.fit C A) (h0:0≤c.at'∧c.at'<C.C) (hc:c.cnt)
  (k1:(a.step C who A).1=false→∀ τ,isA N (a.step C who A).2.2 τ→τ.get p=some ⟨({ c with x8:=.pointer (some ⟨q,0,none⟩) }:Cr).l,true⟩→τ.get q=some ⟨(a.step C who A).2.1.l,true⟩→Keep (q :: p :: N.l) σ τ→K (.tuple #[]) τ)
  (k2:(a.step C who A).1=true→∀ τ,isA N (a.step C who A).2.2 τ→τ.get p=some ⟨(c.settled C (a.step C who A).2.1.freed).l,true⟩→Keep (q :: p :: N.l) σ τ→K (.tuple #[]) τ) :
  w_au_j2 (fun v σ=>K (.tuple #[]) σ) [.pointer (some ⟨p,0,none⟩)] [N.el C who] σ:=by
 rcases c with ⟨pc,x1,at',pos,w,now,x6,x7,x8,ev,lf,fd,mo,rd,ev2,lf2,fd2,mo2,rd2,idle⟩
 dsimp only at *
 subst h
 have hcb:=hC.C
 have hfd:=hc.fd
 dsimp only at hfd
 rw [hA.obj hp]
 simp only [w_au_j2,w_au_j2b,lC8 hd,ruS,ruL,ruE,Nat.reduceAdd,reduceIte,Int.reduceLT,Int.reduceLE,Int.reduceEq,Int.reduceNeg,Int.reduceAdd,Int.reduceSub,Nat.reduceLeDiff,Nat.reduceLT]
 rw [← hA.obj hp]
 refine c_Stl hN hC hA hq hqd hn hnn hwA hf fun τ hA' gq kq=>?_
 have gp:=kq.get hp (notin_cons (Ne.symm hqp) hd)
 have kq':Keep (q :: p :: N.l) σ τ:=kq.mono fun i hi=>by
  rcases List.mem_cons.1 hi with r | r
  ·subst r; exact List.mem_cons_self ..
  ·exact List.mem_cons_of_mem _ (List.mem_cons_of_mem _ r)
 cases d:(a.step C who A).1 with
 | false=>
  simp only [ruS,ruL,ruE,Nat.reduceAdd,reduceIte,Int.reduceLT,Int.reduceLE,Int.reduceEq,Int.reduceNeg,Int.reduceAdd,Int.reduceSub,Nat.reduceLeDiff,Nat.reduceLT]
  exact k1 d τ hA' gp gq kq'
 | true=>
  have k2':=k2 d
  simp only [Bool.not_true,ruS,ruL,ruE,Nat.reduceAdd,reduceIte,Int.reduceLT,Int.reduceLE,Int.reduceEq,Int.reduceNeg,Int.reduceAdd,Int.reduceSub,Nat.reduceLeDiff,Nat.reduceLT]
  rw [hA'.obj gp]
  simp only [lC8 hd,ruS,ruL,ruE,Nat.reduceAdd,reduceIte,Int.reduceLT,Int.reduceLE,Int.reduceEq,Int.reduceNeg,Int.reduceAdd,Int.reduceSub,Nat.reduceLeDiff,Nat.reduceLT]
  rw [← hA'.obj gp]
  refine c_Freed gq ?_
  have hc':Cr.cnt ⟨11,x1,at',pos,w,now,x6,x7,.pointer (some ⟨q,0,none⟩),ev,lf,fd,mo,rd,ev2,lf2,fd2,mo2,rd2,idle⟩:=⟨hc.fd,hc.rd,hc.idle⟩
  cases hfr:(a.step C who A).2.1.freed with
  | true=>
   rw [hfr] at k2'
   rw [hA'.obj gp]
   simp only [lC11 hd,ruS,ruL,ruE,Nat.reduceAdd,reduceIte,Int.reduceLT,Int.reduceLE,Int.reduceEq,Int.reduceNeg,Int.reduceAdd,Int.reduceSub,Nat.reduceLeDiff,Nat.reduceLT]
   rw [IntWalk.i64_in (fd+1) (by omega)]
   simp only [sC11 hd,ruS,ruL,ruE,Nat.reduceAdd,reduceIte,Int.reduceLT,Int.reduceLE,Int.reduceEq,Int.reduceNeg,Int.reduceAdd,Int.reduceSub,Nat.reduceLeDiff,Nat.reduceLT]
   obtain ⟨hA2,gp2,kp2,_⟩:=mid (σ:=τ) (A:=(a.step C who A).2.2) hN hd (b:=⟨(⟨11,x1,at',pos,w,now,x6,x7,.pointer (some ⟨q,0,none⟩),ev,lf,fd+1,mo,rd,ev2,lf2,fd2,mo2,rd2,idle⟩:Cr).l,true⟩)
   exact c_Co11s (c:=⟨11,x1,at',pos,w,now,x6,x7,.pointer (some ⟨q,0,none⟩),ev,lf,fd,mo,rd,ev2,lf2,fd2,mo2,rd2,idle⟩) hN hA2 true gp2 hd rfl h0 hc' hcb.2 fun τ' u1 u2 u3=>k2' τ' u1 u2 (Keep.trans kq' (Keep.trans (kp2.mono fun i hi=>List.mem_cons_of_mem _ hi) (u3.mono fun i hi=>List.mem_cons_of_mem _ hi)))
  | false=>
   rw [hfr] at k2'
   simp only [ruS,ruL,ruE,Nat.reduceAdd,reduceIte,Int.reduceLT,Int.reduceLE,Int.reduceEq,Int.reduceNeg,Int.reduceAdd,Int.reduceSub,Nat.reduceLeDiff,Nat.reduceLT]
   exact c_Co11s (c:=⟨11,x1,at',pos,w,now,x6,x7,.pointer (some ⟨q,0,none⟩),ev,lf,fd,mo,rd,ev2,lf2,fd2,mo2,rd2,idle⟩) hN hA' false gp hd rfl h0 hc' hcb.2 fun τ' u1 u2 u3=>k2' τ' u1 u2 (Keep.trans kq' (u3.mono fun i hi=>List.mem_cons_of_mem _ hi))
theorem c_Co11a (hN:N.ok) (hC:C.ok) (hA:isA N A σ) {p q:Nat} {c:Cr} {a:Stl} (hp:σ.get p=some ⟨({ c with x8:=.pointer (some ⟨q,0,none⟩) }:Cr).l,true⟩) (hd:p ∉ N.l) (h:c.pc=11) (hn:C.len≤A.n) (hnn:(A.n:Int)≤200000000) (hwA:∀ i,0≤A.w i∧A.w i<18446744073709551616)
  (hq:σ.get q=some ⟨a.l,true⟩) (hqd:q ∉ N.l) (hqp:q≠p) (hf:a.fit C A) (h0:0≤c.at'∧c.at'<C.C) (hc:c.cnt)
  (k1:(a.step C who A).1=false→∀ τ,isA N (a.step C who A).2.2 τ→τ.get p=some ⟨({ c with x8:=.pointer (some ⟨q,0,none⟩) }:Cr).l,true⟩→τ.get q=some ⟨(a.step C who A).2.1.l,true⟩→Keep (q :: p :: N.l) σ τ→K (.tuple #[]) τ)
  (k2:(a.step C who A).1=true→∀ τ,isA N (a.step C who A).2.2 τ→τ.get p=some ⟨(c.settled C (a.step C who A).2.1.freed).l,true⟩→Keep (q :: p :: N.l) σ τ→K (.tuple #[]) τ) :
  s_ao [.pointer (some ⟨p,0,none⟩),N.env C who] K σ:=by
 rcases c with ⟨pc,x1,at',pos,w,now,x6,x7,x8,ev,lf,fd,mo,rd,ev2,lf2,fd2,mo2,rd2,idle⟩
 dsimp only at *
 subst h
 rw [hA.obj hp]
 simp only [s_ao,w_ao,w_ao_j1,w_ao_j1b,s_au,w_au,lC0 hd,lC8 hd,ruS,ruL,ruE,Nat.reduceAdd,reduceIte,Int.reduceLT,Int.reduceLE,Int.reduceEq,Int.reduceNeg,Int.reduceAdd,Int.reduceSub,Nat.reduceLeDiff,Nat.reduceLT]
 rw [← hA.obj hp]
 exact c_Co11j (c:=⟨11,x1,at',pos,w,now,x6,x7,x8,ev,lf,fd,mo,rd,ev2,lf2,fd2,mo2,rd2,idle⟩) hN hC hA hp hd rfl hn hnn hwA hq hqd hqp hf h0 hc k1 k2
theorem c_Co11n (hN:N.ok) (hC:C.ok) (hA:isA N A σ) {p:Nat} {c:Cr} (hp:σ.get p=some ⟨({ c with x8:=.pointer none }:Cr).l,true⟩) (hd:p ∉ N.l) (h:c.pc=11) (hn:C.len≤A.n) (hnn:(A.n:Int)≤200000000) (hwA:∀ i,0≤A.w i∧A.w i<18446744073709551616)
  (h0:0≤c.at'∧c.at'<C.C) (hc:c.cnt)
  (k1:((Stl.new c.at').step C who A).1=false→∀ q τ,σ.get q=none→q≠p→q ∉ N.l→isA N ((Stl.new c.at').step C who A).2.2 τ→τ.get p=some ⟨({ c with x8:=.pointer (some ⟨q,0,none⟩) }:Cr).l,true⟩→τ.get q=some ⟨((Stl.new c.at').step C who A).2.1.l,true⟩→Keep (p :: N.l) σ τ→K (.tuple #[]) τ)
  (k2:((Stl.new c.at').step C who A).1=true→∀ τ,isA N ((Stl.new c.at').step C who A).2.2 τ→τ.get p=some ⟨(c.settled C ((Stl.new c.at').step C who A).2.1.freed).l,true⟩→Keep (p :: N.l) σ τ→K (.tuple #[]) τ) :
  s_ao [.pointer (some ⟨p,0,none⟩),N.env C who] K σ:=by
 rcases c with ⟨pc,x1,at',pos,w,now,x6,x7,x8,ev,lf,fd,mo,rd,ev2,lf2,fd2,mo2,rd2,idle⟩
 dsimp only at *
 subst h
 rw [hA.obj hp]
 simp only [s_ao,w_ao,w_ao_j1,w_ao_j1b,s_au,w_au,lC0 hd,lC8 hd,lC2 hd,ruS,ruL,ruE,Nat.reduceAdd,reduceIte,Int.reduceLT,Int.reduceLE,Int.reduceEq,Int.reduceNeg,Int.reduceAdd,Int.reduceSub,Nat.reduceLeDiff,Nat.reduceLT]
 rw [← hA.obj hp]
 refine c_NewStl fun q τ hq gq x=>?_
 have hA1:=hA.ext x
 have hqN:=hA.new hq
 have hqp:q≠p:=by rintro rfl; rw [hp] at hq; cases hq
 rw [hA1.obj (x _ _ hp)]
 simp only [sC8p hd,ruS,ruL,ruE,Nat.reduceAdd,reduceIte,Int.reduceLT,Int.reduceLE,Int.reduceEq,Int.reduceNeg,Int.reduceAdd,Int.reduceSub,Nat.reduceLeDiff,Nat.reduceLT]
 obtain ⟨hA2,gp2,kp2,_⟩:=mid (σ:=τ) (A:=A) hN hd (b:=⟨(⟨11,x1,at',pos,w,now,x6,x7,.pointer (some ⟨q,0,none⟩),ev,lf,fd,mo,rd,ev2,lf2,fd2,mo2,rd2,idle⟩:Cr).l,true⟩)
 have kk:∀ {τ':Mem},Keep (q :: p :: N.l) (putA N A (τ.set p ⟨(⟨11,x1,at',pos,w,now,x6,x7,.pointer (some ⟨q,0,none⟩),ev,lf,fd,mo,rd,ev2,lf2,fd2,mo2,rd2,idle⟩:Cr).l,true⟩)) τ'→Keep (p :: N.l) σ τ':=fun k i b hi hn=>by
  have:i≠q:=by rintro rfl; rw [hq] at hi; cases hi
  exact k i b (kp2 i b (x i b hi) hn) (notin_cons this hn)
 have hft:(Stl.new at').fit C A:=⟨by show (0:Int)≤0∧(0:Int)≤5; decide,h0,by show (0:Int)≤0∧(0:Int)<18446744073709551616; decide,fun e=>by cases e⟩
 exact c_Co11j (c:=⟨11,x1,at',pos,w,now,x6,x7,x8,ev,lf,fd,mo,rd,ev2,lf2,fd2,mo2,rd2,idle⟩) hN hC hA2 gp2 hd rfl hn hnn hwA (kp2.get gq (notin_cons hqp hqN)) hqN hqp hft h0 hc (fun d τ' u1 u2 u3 u4=>k1 d q τ' hq hqp hqN u1 u2 u3 (kk u4)) fun d τ' u1 u2 u3=>k2 d τ' u1 u2 (kk u3)
end Go.Fl
namespace Go.Fl
open Go
set_option linter.unusedVariables false
set_option linter.unusedSimpArgs false
variable {N:Nm} {A B:Ar} {σ:Mem} {K:Value→Mem→Prop} {C:Cf} {who:Int}
structure Co where
 r:Cr
 seen:List Sn
 a:Option Adv
 s:Option Stl
 m:Mv
def Cr.px (c:Cr) (x1 x6 x7 x8:Value):Cr:={ c with x1:=x1,x6:=x6,x7:=x7,x8:=x8 }
theorem px_settled {c:Cr} {x1 x6 x7 x8:Value} {f:Bool}:(c.px x1 x6 x7 x8).settled C f=(c.settled C f).px x1 x6 x7 (.pointer none):=by
 unfold Cr.settled Cr.px; dsimp only; split <;> rfl
theorem px_moved {c:Cr} {x1 x6 x7 x8:Value} {d:Bool} {o:Int}:(c.px x1 x6 x7 x8).moved d o=(c.moved d o).px x1 x6 x7 x8:=by
 unfold Cr.moved; (repeat' split) <;> rfl
def Cr.new:Cr:=⟨0,.pointer none,0,0,0,0,.pointer none,.pointer none,.pointer none,0,0,0,0,0,0,0,0,0,0,0⟩
def Co.new:Co:=⟨Cr.new,[],none,none,Mv.new 0 0 0 0 0 false⟩
def liveS (L:List Sn) (i:Nat) (v:Int):List Sn:=match L[i]? with
 | none=>L
 | some x=>L.set i { x with live:=v }
theorem liveS_len {L:List Sn} {i:Nat} {v:Int}:(liveS L i v).length=L.length:=by unfold liveS; split <;> simp
def wordS (L:List Sn) (i:Nat):Int:=match L[i]? with
 | none=>0
 | some x=>putChunk x.st x.cl x.us x.sp
def Co.step (C:Cf) (who:Int) (A:Ar) (r:Int) (c:Co):Co × Ar:=
 if c.r.pc=0 then ({ c with seen:=(if c.r.at'=0 then [] else c.seen) ++ [seeS (A.w (C.chunk c.r.at'))],r:={ c.r with pc:=1 } },(A.by who).load (C.chunk c.r.at'))
 else if c.r.pc=1 then ({ c with seen:=liveS c.seen c.r.at'.toNat (IntKind.i64.wrap (A.w (C.chunk c.r.at'+1))),r:={ c.r with at':=if C.C≤c.r.at'+1 then 0 else c.r.at'+1,pc:=if C.C≤c.r.at'+1 then 2 else 0 } },(A.by who).load (C.chunk c.r.at'+1))
 else if c.r.pc=2 then
  if c.r.at'+1<4 then ({ c with seen:=opS c.seen (A.w (2+c.r.at')),r:={ c.r with at':=c.r.at'+1 } },(A.by who).load (2+c.r.at'))
  else if r<0 then ({ c with seen:=opS c.seen (A.w (2+c.r.at')),r:={ c.r with at' := -1,pc:=10 } },(A.by who).load (2+c.r.at'))
  else ({ c with seen:=opS c.seen (A.w (2+c.r.at')),r:={ c.r with at':=r,pc:=3,w:=wordS (opS c.seen (A.w (2+c.r.at'))) r.toNat } },(A.by who).load (2+c.r.at'))
 else if c.r.pc=3 then ({ c with r:={ c.r with pos:=0,pc:=if A.w (C.chunk c.r.at')=c.r.w then 4 else 10,w:=if A.w (C.chunk c.r.at')=c.r.w then chw c.r.w 2 else c.r.w } },(A.by who).cas (C.chunk c.r.at') c.r.w (chw c.r.w 2))
 else if c.r.pc=4 then
  if hdK (A.w (C.base c.r.at'+c.r.pos))=3 then ({ c with r:=c.r.next (chC c.r.w) (chU c.r.w) },(A.by who).load (C.base c.r.at'+c.r.pos))
  else if hdK (A.w (C.base c.r.at'+c.r.pos))=2 then ({ c with r:={ c.r with pc:=5 },m:=Mv.new (C.base c.r.at'+c.r.pos) (hdK (A.w (C.base c.r.at'+c.r.pos))) (hdS (A.w (C.base c.r.at'+c.r.pos))) (hdT (A.w (C.base c.r.at'+c.r.pos))) (hdG (A.w (C.base c.r.at'+c.r.pos))) (hdO (A.w (C.base c.r.at'+c.r.pos))) },(A.by who).load (C.base c.r.at'+c.r.pos))
  else ({ c with r:={ c.r with pc:=9 } },(A.by who).load (C.base c.r.at'+c.r.pos))
 else if c.r.pc=5 then ({ c with r:=c.r.moved (c.m.step C who A).1 (c.m.step C who A).2.1.a.out,m:=(c.m.step C who A).2.1 },(c.m.step C who A).2.2)
 else if c.r.pc=6 then ({ c with r:={ c.r with now:=A.w 0,pc:=7 } },(A.by who).load 0)
 else if c.r.pc=7 then ({ c with r:={ c.r with pc:=8 } },(A.by who).store (C.chunk c.r.at'+2) c.r.now)
 else if c.r.pc=8 then ({ c with r:={ c.r with ev:=c.r.ev+1,pc:=10 } },(A.by who).store (C.chunk c.r.at') (chw c.r.w 3))
 else if c.r.pc=9 then ({ c with r:={ c.r with lf:=c.r.lf+1,pc:=10 } },(A.by who).store (C.chunk c.r.at') (chw c.r.w 1))
 else if c.r.pc=10 then
  if ((c.a.getD Adv.new).step C who A).1=true then ({ c with a:=none,r:={ c.r with at':=0,pc:=11 } },((c.a.getD Adv.new).step C who A).2.2)
  else ({ c with a:=some ((c.a.getD Adv.new).step C who A).2.1 },((c.a.getD Adv.new).step C who A).2.2)
 else
  if ((c.s.getD (Stl.new c.r.at')).step C who A).1=true then ({ c with s:=none,r:=c.r.settled C ((c.s.getD (Stl.new c.r.at')).step C who A).2.1.freed },((c.s.getD (Stl.new c.r.at')).step C who A).2.2)
  else ({ c with s:=some ((c.s.getD (Stl.new c.r.at')).step C who A).2.1 },((c.s.getD (Stl.new c.r.at')).step C who A).2.2)
def Co.may (C:Cf) (A:Ar) (c:Co) (r:Int):Prop:=(c.r.pc=2→¬ c.r.at'+1<4→Chosen C (opS c.seen (A.w (2+c.r.at'))) r ∧ -1≤r∧r<C.C)∧(c.r.pc=2→¬ c.r.at'+1<4→Least C (opS c.seen (A.w (2+c.r.at'))) r)
structure Co.fit (C:Cf) (A:Ar) (c:Co):Prop where
 pc:0≤c.r.pc∧c.r.pc≤11
 at':c.r.pc≠10→0≤c.r.at'∧(c.r.pc=2→c.r.at'<4)∧(c.r.pc≠2→c.r.at'<C.C)
 sn:c.r.pc≤2→¬ (c.r.pc=0∧c.r.at'=0)→(c.seen.length:Int)=if c.r.pc=0 then c.r.at' else if c.r.pc=1 then c.r.at'+1 else C.C
 op:c.r.pc=2→0≤A.w (2+c.r.at')∧A.w (2+c.r.at')≤C.C
 w:3≤c.r.pc→c.r.pc≤9→0≤c.r.w∧c.r.w<18446744073709551616
 cl:4≤c.r.pc→c.r.pc≤5→chC c.r.w≤3
 po:4≤c.r.pc→c.r.pc≤5→0≤c.r.pos∧C.base c.r.at'+c.r.pos<A.n
 m:c.r.pc=5→c.m.fit C A
 a:∀ a,c.a=some a→c.r.pc=10∧a.fit C
 s:∀ s,c.s=some s→c.r.pc=11∧s.fit C A
 cnt:c.r.cnt
 cev:0≤c.r.ev∧c.r.ev≤1000000000
 clf:0≤c.r.lf∧c.r.lf≤1000000000
 cmo:0≤c.r.mo∧c.r.mo≤1000000000
structure COa (N:Nm) (p:Nat) (O:List Nat) (c:Co) (τ:Mem) (x1 x6 x7 x8:Value):Prop where
 sn:c.r.pc≤2→¬ (c.r.pc=0∧c.r.at'=0)→∃ q,x1=.slice (some ⟨q,0,none⟩) c.seen.length 6∧q ∈ O∧q≠p∧τ.get q=some ⟨snL c.seen,true⟩
 m:c.r.pc=5→∃ q Q,x6=.pointer (some ⟨q,0,none⟩)∧MOb N q Q c.m τ∧p ∉ Q∧∀ i ∈ Q,i ∈ O
 a0:c.a=none→x7=.pointer none
 a1:∀ a,c.a=some a→∃ q,x7=.pointer (some ⟨q,0,none⟩)∧q ∈ O∧q≠p∧τ.get q=some ⟨a.l,true⟩
 s0:c.s=none→x8=.pointer none
 s1:∀ s,c.s=some s→∃ q,x8=.pointer (some ⟨q,0,none⟩)∧q ∈ O∧q≠p∧τ.get q=some ⟨s.l,true⟩
structure COb (N:Nm) (p:Nat) (O:List Nat) (c:Co) (τ:Mem):Prop where
 obj:∃ x1 x6 x7 x8,τ.get p=some ⟨(c.r.px x1 x6 x7 x8).l,true⟩∧COa N p O c τ x1 x6 x7 x8
 own:∀ i ∈ O,i ∉ N.l
 p:p ∈ O
theorem COb.keep {p:Nat} {O L:List Nat} {c:Co} {τ:Mem} (h:COb N p O c σ) (x:Keep L σ τ) (hL:∀ i ∈ O,i ∉ L):COb N p O c τ:=by
 obtain ⟨⟨x1,x6,x7,x8,h1,h2,h3,h4,h5,h6,h7⟩,own,pO⟩:=h
 refine ⟨⟨x1,x6,x7,x8,x.get h1 (hL p pO),fun a b=>?_,fun e=>?_,h4,fun a e=>?_,h6,fun a e=>?_⟩,own,pO⟩
 ·obtain ⟨q,q1,q2,q3,q4⟩:=h2 a b; exact ⟨q,q1,q2,q3,x.get q4 (hL q q2)⟩
 ·obtain ⟨q,Q,q1,q2,q3,q4⟩:=h3 e; exact ⟨q,Q,q1,q2.keep x fun i hi=>hL i (q4 i hi),q3,q4⟩
 ·obtain ⟨q,q1,q2,q3,q4⟩:=h5 a e; exact ⟨q,q1,q2,q3,x.get q4 (hL q q2)⟩
 ·obtain ⟨q,q1,q2,q3,q4⟩:=h7 a e; exact ⟨q,q1,q2,q3,x.get q4 (hL q q2)⟩
theorem COb.bare {p:Nat} {O:List Nat} {c:Co} {τ:Mem} {x1 x6:Value} (h1:τ.get p=some ⟨(c.r.px x1 x6 (.pointer none) (.pointer none)).l,true⟩) (hpc:(3≤c.r.pc∧c.r.pc≠5)∨c.r.pc=0∧c.r.at'=0) (ha:c.a=none) (hs:c.s=none) (own:∀ i ∈ O,i ∉ N.l) (pO:p ∈ O):COb N p O c τ:=
 ⟨⟨x1,x6,_,_,h1,fun a b=>by omega,fun e=>by omega,fun _=>rfl,fun a e=>(by rw [ha] at e; cases e),fun _=>rfl,fun a e=>(by rw [hs] at e; cases e)⟩,own,pO⟩
theorem c_Co_Step (hN:N.ok) (hC:C.ok) (hA:isA N A σ) {p:Nat} {O:List Nat} {c:Co} (hO:COb N p O c σ) (hn:C.len≤A.n) (hnn:(A.n:Int)≤200000000) (hwA:∀ i,0≤A.w i∧A.w i<18446744073709551616) (hf:c.fit C A)
  (hk:∀ r O' τ,c.may C A r→(∀ i ∈ O',i ∈ O∨σ.get i=none)→isA N (c.step C who A r).2 τ→COb N p O' (c.step C who A r).1 τ→Keep (O ++ N.l) σ τ→K (.tuple #[]) τ):s_ao [.pointer (some ⟨p,0,none⟩),N.env C who] K σ:=by
 obtain ⟨⟨x1,x6,x7,x8,hp,hX⟩,own,pO⟩:=hO
 have hd:=own p pO
 have hC3:=hC.C
 have k1:∀ {τ:Mem},Keep (p :: N.l) σ τ→Keep (O ++ N.l) σ τ:=fun k=>k.mono fun i hi=>by
  rcases List.mem_cons.1 hi with rfl | hi
  ·exact List.mem_append_left _ pO
  ·exact List.mem_append_right _ hi
 have k2:∀ {τ:Mem} {q:Nat},q ∈ O→Keep (q :: p :: N.l) σ τ→Keep (O ++ N.l) σ τ:=fun hq k=>k.mono fun i hi=>by
  rcases List.mem_cons.1 hi with rfl | hi
  ·exact List.mem_append_left _ hq
  ·rcases List.mem_cons.1 hi with rfl | hi
   ·exact List.mem_append_left _ pO
   ·exact List.mem_append_right _ hi
 have same:∀ i ∈ O,i ∈ O∨σ.get i=none:=fun i hi=>.inl hi
 have cons:∀ {q:Nat},σ.get q=none→∀ i ∈ q :: O,i ∈ O∨σ.get i=none:=fun h i hi=>by rcases List.mem_cons.1 hi with rfl | hi; exact .inr h; exact .inl hi
 have ownc:∀ {q:Nat},q ∉ N.l→∀ i ∈ q :: O,i ∉ N.l:=fun h i hi=>by rcases List.mem_cons.1 hi with rfl | hi; exact h; exact own i hi
 have hpc:=hf.pc
 have an:c.r.pc≠10→c.a=none:=fun h=>by cases e:c.a with | none=>rfl | some a=>exact absurd (hf.a a e).1 h
 have sn:c.r.pc≠11→c.s=none:=fun h=>by cases e:c.s with | none=>rfl | some a=>exact absurd (hf.s a e).1 h
 have may0:c.r.pc≠2→c.may C A 0:=fun h=>⟨fun e=>absurd e h,fun e=>absurd e h⟩
 unfold Co.step at hk
 by_cases c0:c.r.pc=0
 ·simp only [if_pos c0] at hk
  have ea:=an (by omega); have es:=sn (by omega)
  have e7:=hX.a0 ea; have e8:=hX.s0 es; subst e7; subst e8
  have ha:=hf.at' (by omega)
  by_cases z:c.r.at'=0
  ·refine c_Co0a hN hC hA (c:=c.r.px x1 x6 (.pointer none) (.pointer none)) hp hd c0 hn z hwA fun q τ hq qp qN u1 u2 u3 u4=>?_
   simp only [if_pos z] at hk
   exact hk 0 (q :: O) τ (may0 (by omega)) (cons hq) u1 ⟨⟨.slice (some ⟨q,0,none⟩) 1 6,x6,_,_,u2,fun _ _=>⟨q,rfl,List.mem_cons_self ..,qp,u3⟩,fun e=>(by cases e),fun _=>rfl,fun a e=>(by rw [show c.a=some a from e] at ea; cases ea),fun _=>rfl,fun a e=>(by rw [show c.s=some a from e] at es; cases es)⟩,ownc qN,List.mem_cons_of_mem _ pO⟩ (k1 u4)
  ·obtain ⟨q,rfl,qO,qp,gq⟩:=hX.sn (by omega) (by omega)
   have hl:=hf.sn (by omega) (by omega)
   rw [if_pos c0] at hl
   refine c_Co0b hN hC hA (c:=c.r.px (.slice (some ⟨q,0,none⟩) c.seen.length 6) x6 (.pointer none) (.pointer none)) (L:=c.seen) hp hd c0 hn (by show 0<c.r.at'∧c.r.at'<C.C; omega) hwA gq (own q qO) qp (by omega) fun q' τ hq' qp' qN' u1 u2 u3 u4=>?_
   simp only [if_neg z] at hk
   exact hk 0 (q' :: O) τ (may0 (by omega)) (cons hq') u1 ⟨⟨.slice (some ⟨q',0,none⟩) (c.seen.length+1) 6,x6,_,_,u2,fun _ _=>⟨q',by rw [List.length_append]; rfl,List.mem_cons_self ..,qp',u3⟩,fun e=>(by cases e),fun _=>rfl,fun a e=>(by rw [show c.a=some a from e] at ea; cases ea),fun _=>rfl,fun a e=>(by rw [show c.s=some a from e] at es; cases es)⟩,ownc qN',List.mem_cons_of_mem _ pO⟩ (k2 qO u4)
 by_cases c1:c.r.pc=1
 ·simp only [if_neg c0,if_pos c1] at hk
  have ea:=an (by omega); have es:=sn (by omega)
  have e7:=hX.a0 ea; have e8:=hX.s0 es; subst e7; subst e8
  have ha:=hf.at' (by omega)
  obtain ⟨q,rfl,qO,qp,gq⟩:=hX.sn (by omega) (by omega)
  have hl:=hf.sn (by omega) (by omega)
  rw [if_neg c0,if_pos c1] at hl
  obtain ⟨x,hx⟩:∃ x,c.seen[c.r.at'.toNat]?=some x:=⟨_,List.getElem?_eq_getElem (by omega)⟩
  have el:liveS c.seen c.r.at'.toNat (IntKind.i64.wrap (A.w (C.chunk c.r.at'+1)))=c.seen.set c.r.at'.toNat { x with live:=IntKind.i64.wrap (A.w (C.chunk c.r.at'+1)) }:=by unfold liveS; rw [hx]
  refine c_Co1 hN hC hA (c:=c.r.px (.slice (some ⟨q,0,none⟩) c.seen.length 6) x6 (.pointer none) (.pointer none)) (L:=c.seen) (x:=x) hp hd c1 hn (by show 0≤c.r.at'∧c.r.at'<C.C; omega) gq (own q qO) qp hx fun τ u1 u2 u3 u4=>?_
  exact hk 0 O τ (may0 (by omega)) same u1 ⟨⟨.slice (some ⟨q,0,none⟩) c.seen.length 6,x6,_,_,u2,fun _ _=>⟨q,by rw [liveS_len],qO,qp,by rw [el]; exact u3⟩,fun e=>(by dsimp only at e; split at e <;> cases e),fun _=>rfl,fun a e=>(by rw [show c.a=some a from e] at ea; cases ea),fun _=>rfl,fun a e=>(by rw [show c.s=some a from e] at es; cases es)⟩,own,pO⟩ (k2 qO u4)
 by_cases c2:c.r.pc=2
 ·simp only [if_neg c0,if_neg c1,if_pos c2] at hk
  have ea:=an (by omega); have es:=sn (by omega)
  have e7:=hX.a0 ea; have e8:=hX.s0 es; subst e7; subst e8
  have ha:=hf.at' (by omega)
  obtain ⟨q,rfl,qO,qp,gq⟩:=hX.sn (by omega) (by omega)
  have hl:=hf.sn (by omega) (by omega)
  rw [if_neg c0,if_neg c1] at hl
  refine c_Co2 hN hC hA (c:=c.r.px (.slice (some ⟨q,0,none⟩) c.seen.length 6) x6 (.pointer none) (.pointer none)) (L:=c.seen) hp hd c2 hn (by show 0≤c.r.at'∧c.r.at'<4; omega) gq (own q qO) qp hl (hf.op c2) (fun d τ u1 u2 u3 u4=>?_) (fun d hr τ u1 u2 u3=>?_) (fun d r x r0 r1 hx hm hle τ u1 u2 u3=>?_)
  ·have d':c.r.at'+1<4:=d
   simp only [if_pos d'] at hk
   exact hk 0 O τ ⟨fun _ q=>absurd d' q,fun _ q=>absurd d' q⟩ same u1 ⟨⟨.slice (some ⟨q,0,none⟩) c.seen.length 6,x6,_,_,u2,fun _ _=>⟨q,by rw [opS_len],qO,qp,u3⟩,fun e=>(by have:c.r.pc=5:=e; omega),fun _=>rfl,fun a e=>(by rw [show c.a=some a from e] at ea; cases ea),fun _=>rfl,fun a e=>(by rw [show c.s=some a from e] at es; cases es)⟩,own,pO⟩ (k2 qO u4)
  ·have d':¬ c.r.at'+1<4:=d
   simp only [if_neg d'] at hk
   have:=hk (-1) O τ ⟨fun _ _=>⟨.inl ⟨rfl,hr⟩,by omega,by omega⟩,fun _ _ e=>absurd e (by decide)⟩ same
   rw [if_pos (show (-1:Int)<0 by decide)] at this
   exact this u1 (COb.bare (x1:=.slice (some ⟨q,0,none⟩) c.seen.length 6) (x6:=x6) u2 (.inl ⟨by show (3:Int)≤10; decide,by show (10:Int)≠5; decide⟩) ea es own pO) (k2 qO u3)
  ·have d':¬ c.r.at'+1<4:=d
   simp only [if_neg d'] at hk
   have:=hk r O τ ⟨fun _ _=>⟨.inr ⟨r0,x,hx,hm⟩,by omega,r1⟩,fun _ _=>hle⟩ same
   rw [if_neg (show ¬ r<0 by omega)] at this
   have ew:wordS (opS c.seen (A.w (2+c.r.at'))) r.toNat=putChunk x.st x.cl x.us x.sp:=by unfold wordS; rw [show (opS c.seen (A.w (2+c.r.at')))[r.toNat]?=some x from hx]
   rw [ew] at this
   exact this u1 (COb.bare (x1:=.slice (some ⟨q,0,none⟩) c.seen.length 6) (x6:=x6) u2 (.inl ⟨by show (3:Int)≤3; decide,by show (3:Int)≠5; decide⟩) ea es own pO) (k2 qO u3)
 by_cases c3:c.r.pc=3
 ·simp only [if_neg c0,if_neg c1,if_neg c2,if_pos c3] at hk
  have ea:=an (by omega); have es:=sn (by omega)
  have e7:=hX.a0 ea; have e8:=hX.s0 es; subst e7; subst e8
  have ha:=hf.at' (by omega)
  refine c_Co3 hN hC hA (c:=c.r.px x1 x6 (.pointer none) (.pointer none)) hp hd c3 hn (by show 0≤c.r.at'∧c.r.at'<C.C; omega) (hf.w (by omega) (by omega)) fun τ u1 u2 u3=>?_
  refine hk 0 O τ (may0 (by omega)) same u1 (COb.bare (x1:=x1) (x6:=x6) u2 (.inl ?_) ea es own pO) (k1 u3)
  show 3≤(if A.w (C.chunk c.r.at')=c.r.w then (4:Int) else 10)∧(if A.w (C.chunk c.r.at')=c.r.w then (4:Int) else 10)≠5
  split <;> decide
 by_cases c4:c.r.pc=4
 ·simp only [if_neg c0,if_neg c1,if_neg c2,if_neg c3,if_pos c4] at hk
  have ea:=an (by omega); have es:=sn (by omega)
  have e7:=hX.a0 ea; have e8:=hX.s0 es; subst e7; subst e8
  have ha:=hf.at' (by omega)
  refine c_Co4 hN hC hA (c:=c.r.px x1 x6 (.pointer none) (.pointer none)) hp hd c4 hn hnn (by show 0≤c.r.at'∧c.r.at'<C.C; omega) (hf.w (by omega) (by omega)) (hf.cl (by omega) (by omega)) (hf.po (by omega) (by omega)) hwA (fun d τ u1 u2 u3=>?_) (fun d q τ hq u1 u2 u3 u4=>?_) (fun d d2 τ u1 u2 u3=>?_)
  ·rw [if_pos (show hdK (A.w (C.base c.r.at'+c.r.pos))=3 from d)] at hk
   refine hk 0 O τ (may0 (by omega)) same u1 (COb.bare (x1:=x1) (x6:=x6) u2 (.inl ?_) ea es own pO) (k1 u3)
   show 3≤(if chU c.r.w≤c.r.pos+roomOf (chC c.r.w) then (6:Int) else 4)∧(if chU c.r.w≤c.r.pos+roomOf (chC c.r.w) then (6:Int) else 4)≠5
   split <;> decide
  ·have d':hdK (A.w (C.base c.r.at'+c.r.pos))=2:=d
   rw [if_neg (show ¬ hdK (A.w (C.base c.r.at'+c.r.pos))=3 by omega),if_pos d'] at hk
   have qp:q≠p:=by rintro rfl; rw [hp] at hq; cases hq
   exact hk 0 (q :: O) τ (may0 (by omega)) (cons hq) u1 ⟨⟨x1,.pointer (some ⟨q,0,none⟩),_,_,u2,fun a b=>absurd (show (5:Int)≤2 from a) (by decide),fun _=>⟨q,[q],rfl,u3,by simp; exact fun e=>qp e.symm,fun i hi=>by rw [List.mem_singleton] at hi; subst hi; exact List.mem_cons_self ..⟩,fun _=>rfl,fun a e=>(by rw [show c.a=some a from e] at ea; cases ea),fun _=>rfl,fun a e=>(by rw [show c.s=some a from e] at es; cases es)⟩,ownc (u3.own q (List.mem_singleton.2 rfl)),List.mem_cons_of_mem _ pO⟩ (k1 u4)
  ·rw [if_neg (show ¬ hdK (A.w (C.base c.r.at'+c.r.pos))=3 from d),if_neg (show ¬ hdK (A.w (C.base c.r.at'+c.r.pos))=2 from d2)] at hk
   exact hk 0 O τ (may0 (by omega)) same u1 (COb.bare (x1:=x1) (x6:=x6) u2 (.inl ⟨by show (3:Int)≤9; decide,by show (9:Int)≠5; decide⟩) ea es own pO) (k1 u3)
 by_cases c5:c.r.pc=5
 ·simp only [if_neg c0,if_neg c1,if_neg c2,if_neg c3,if_neg c4,if_pos c5] at hk
  have ea:=an (by omega); have es:=sn (by omega)
  have e7:=hX.a0 ea; have e8:=hX.s0 es; subst e7; subst e8
  have ha:=hf.at' (by omega)
  obtain ⟨q,Q,rfl,q2,q3,q4⟩:=hX.m c5
  have hpo:=hf.po (by omega) (by omega)
  have hbb:=base_ge hC ha.1 (ha.2.2 (by omega)) (Int.le_refl 0)
  refine c_Co5 hN hC hA (c:=c.r.px x1 (.pointer none) (.pointer none) (.pointer none)) (q:=q) (Q:=Q) (m:=c.m) hp hd c5 hn hwA q2 q3 (hf.m c5) (hf.w (by omega) (by omega)) (hf.cl (by omega) (by omega)) (by show 0≤c.r.pos∧c.r.pos≤200000000; have:=hC.T; have:=hC.S; omega) hf.cmo fun O' τ v1 v2 u1 u2 u3 u4=>?_
  have u3':τ.get p=some ⟨((c.r.moved (c.m.step C who A).1 (c.m.step C who A).2.1.a.out).px x1 (.pointer (some ⟨q,0,none⟩)) (.pointer none) (.pointer none)).l,true⟩:=by rw [← px_moved]; exact u3
  refine hk 0 (p :: O') τ (may0 (by omega)) (fun i hi=>?_) u1 ⟨⟨x1,_,_,_,u3',fun a b=>?_,fun _=>⟨q,O',rfl,u2,v2,fun i hi=>List.mem_cons_of_mem _ hi⟩,fun _=>rfl,fun a e=>(by rw [show c.a=some a from e] at ea; cases ea),fun _=>rfl,fun a e=>(by rw [show c.s=some a from e] at es; cases es)⟩,fun i hi=>?_,List.mem_cons_self ..⟩ (u4.mono fun i hi=>?_)
  ·rcases List.mem_cons.1 hi with rfl | hi
   ·exact .inl pO
   ·rcases v1 i hi with r | r
    ·exact .inl (q4 i r)
    ·exact .inr r
  ·exfalso
   have nx:∀ (c:Cr) k u,4≤(c.next k u).pc:=fun c k u=>by show 4≤(if u≤c.pos+roomOf k then (6:Int) else 4); split <;> decide
   have:4≤(c.r.moved (c.m.step C who A).1 (c.m.step C who A).2.1.a.out).pc:=by
    unfold Cr.moved
    split
    ·omega
    ·split
     ·exact nx _ _ _
     ·split
      ·exact nx _ _ _
      ·show (4:Int)≤9; decide
   have a':(c.r.moved (c.m.step C who A).1 (c.m.step C who A).2.1.a.out).pc≤2:=a
   omega
  ·rcases List.mem_cons.1 hi with rfl | hi
   ·exact hd
   ·exact u2.own i hi
  ·rcases List.mem_cons.1 hi with rfl | hi
   ·exact List.mem_append_left _ pO
   ·rcases List.mem_append.1 hi with r | r
    ·exact List.mem_append_left _ (q4 i r)
    ·exact List.mem_append_right _ r
 by_cases c6:c.r.pc=6
 ·simp only [if_neg c0,if_neg c1,if_neg c2,if_neg c3,if_neg c4,if_neg c5,if_pos c6] at hk
  have ea:=an (by omega); have es:=sn (by omega)
  have e7:=hX.a0 ea; have e8:=hX.s0 es; subst e7; subst e8
  refine c_Co6 hN hC hA (c:=c.r.px x1 x6 (.pointer none) (.pointer none)) hp hd c6 hn fun τ u1 u2 u3=>?_
  exact hk 0 O τ (may0 (by omega)) same u1 (COb.bare (x1:=x1) (x6:=x6) u2 (.inl ⟨by show (3:Int)≤7; decide,by show (7:Int)≠5; decide⟩) ea es own pO) (k1 u3)
 by_cases c7:c.r.pc=7
 ·simp only [if_neg c0,if_neg c1,if_neg c2,if_neg c3,if_neg c4,if_neg c5,if_neg c6,if_pos c7] at hk
  have ea:=an (by omega); have es:=sn (by omega)
  have e7:=hX.a0 ea; have e8:=hX.s0 es; subst e7; subst e8
  have ha:=hf.at' (by omega)
  refine c_Co7 hN hC hA (c:=c.r.px x1 x6 (.pointer none) (.pointer none)) hp hd c7 hn hnn (by show 0≤c.r.at'∧c.r.at'<C.C; omega) fun τ u1 u2 u3=>?_
  exact hk 0 O τ (may0 (by omega)) same u1 (COb.bare (x1:=x1) (x6:=x6) u2 (.inl ⟨by show (3:Int)≤8; decide,by show (8:Int)≠5; decide⟩) ea es own pO) (k1 u3)
 by_cases c8:c.r.pc=8
 ·simp only [if_neg c0,if_neg c1,if_neg c2,if_neg c3,if_neg c4,if_neg c5,if_neg c6,if_neg c7,if_pos c8] at hk
  have ea:=an (by omega); have es:=sn (by omega)
  have e7:=hX.a0 ea; have e8:=hX.s0 es; subst e7; subst e8
  have ha:=hf.at' (by omega)
  refine c_Co8 hN hC hA (c:=c.r.px x1 x6 (.pointer none) (.pointer none)) hp hd c8 hn (by show 0≤c.r.at'∧c.r.at'<C.C; omega) (hf.w (by omega) (by omega)) hf.cev fun τ u1 u2 u3=>?_
  exact hk 0 O τ (may0 (by omega)) same u1 (COb.bare (x1:=x1) (x6:=x6) u2 (.inl ⟨by show (3:Int)≤10; decide,by show (10:Int)≠5; decide⟩) ea es own pO) (k1 u3)
 by_cases c9:c.r.pc=9
 ·simp only [if_neg c0,if_neg c1,if_neg c2,if_neg c3,if_neg c4,if_neg c5,if_neg c6,if_neg c7,if_neg c8,if_pos c9] at hk
  have ea:=an (by omega); have es:=sn (by omega)
  have e7:=hX.a0 ea; have e8:=hX.s0 es; subst e7; subst e8
  have ha:=hf.at' (by omega)
  refine c_Co9 hN hC hA (c:=c.r.px x1 x6 (.pointer none) (.pointer none)) hp hd c9 hn (by show 0≤c.r.at'∧c.r.at'<C.C; omega) (hf.w (by omega) (by omega)) hf.clf fun τ u1 u2 u3=>?_
  exact hk 0 O τ (may0 (by omega)) same u1 (COb.bare (x1:=x1) (x6:=x6) u2 (.inl ⟨by show (3:Int)≤10; decide,by show (10:Int)≠5; decide⟩) ea es own pO) (k1 u3)
 by_cases c10:c.r.pc=10
 ·simp only [if_neg c0,if_neg c1,if_neg c2,if_neg c3,if_neg c4,if_neg c5,if_neg c6,if_neg c7,if_neg c8,if_neg c9,if_pos c10] at hk
  have es:=sn (by omega)
  have e8:=hX.s0 es; subst e8
  cases ea:c.a with
  | none=>
   have e7:=hX.a0 ea; subst e7
   rw [ea] at hk
   simp only [Option.getD_none] at hk
   refine c_Co10n hN hC hA (c:=c.r.px x1 x6 (.pointer none) (.pointer none)) hp hd c10 hn fun d q τ hq qp qN u1 u2 u3 u4=>?_
   rw [if_neg (by rw [d]; decide)] at hk
   exact hk 0 (q :: O) τ (may0 (by omega)) (cons hq) u1 ⟨⟨x1,x6,.pointer (some ⟨q,0,none⟩),_,u2,fun a b=>absurd (show c.r.pc≤2 from a) (by omega),fun e=>absurd (show c.r.pc=5 from e) (by omega),(fun e=>by cases e),fun a e=>by cases e; exact ⟨q,rfl,List.mem_cons_self ..,qp,u3⟩,fun _=>rfl,fun a e=>(by rw [show c.s=some a from e] at es; cases es)⟩,ownc qN,List.mem_cons_of_mem _ pO⟩ (k1 u4)
  | some a=>
   obtain ⟨q,rfl,qO,qp,gq⟩:=hX.a1 a ea
   rw [ea] at hk
   simp only [Option.getD_some] at hk
   refine c_Co10a hN hC hA (c:=c.r.px x1 x6 (.pointer none) (.pointer none)) (q:=q) (a:=a) hp hd c10 hn gq (own q qO) qp (hf.a a ea).2 (fun d τ u1 u2 u3 u4=>?_) (fun d τ u1 u2 u3=>?_)
   ·rw [if_neg (by rw [d]; decide)] at hk
    exact hk 0 O τ (may0 (by omega)) same u1 ⟨⟨x1,x6,.pointer (some ⟨q,0,none⟩),_,u2,fun a b=>absurd (show c.r.pc≤2 from a) (by omega),fun e=>absurd (show c.r.pc=5 from e) (by omega),(fun e=>by cases e),fun a e=>by cases e; exact ⟨q,rfl,qO,qp,u3⟩,fun _=>rfl,fun a e=>(by rw [show c.s=some a from e] at es; cases es)⟩,own,pO⟩ (k2 qO u4)
   ·rw [if_pos d] at hk
    exact hk 0 O τ (may0 (by omega)) same u1 (COb.bare (x1:=x1) (x6:=x6) u2 (.inl ⟨by show (3:Int)≤11; decide,by show (11:Int)≠5; decide⟩) rfl es own pO) (k2 qO u3)
 have c11:c.r.pc=11:=by omega
 simp only [if_neg c0,if_neg c1,if_neg c2,if_neg c3,if_neg c4,if_neg c5,if_neg c6,if_neg c7,if_neg c8,if_neg c9,if_neg c10] at hk
 have ea:=an (by omega)
 have e7:=hX.a0 ea; subst e7
 have ha:=hf.at' (by omega)
 have ha':0≤c.r.at'∧c.r.at'<C.C:=by omega
 have stp:∀ f,(3≤(c.r.settled C f).pc∧(c.r.settled C f).pc≠5)∨(c.r.settled C f).pc=0∧(c.r.settled C f).at'=0:=fun f=>by
  unfold Cr.settled; dsimp only; split
  ·exact .inr ⟨rfl,rfl⟩
  ·exact .inl ⟨by show 3≤c.r.pc; omega,by show c.r.pc≠5; omega⟩
 cases es:c.s with
 | none=>
  have e8:=hX.s0 es; subst e8
  rw [es] at hk
  simp only [Option.getD_none] at hk
  refine c_Co11n hN hC hA (c:=c.r.px x1 x6 (.pointer none) (.pointer none)) hp hd c11 hn hnn hwA ha' ⟨hf.cnt.1,hf.cnt.2,hf.cnt.3⟩ (fun d q τ hq qp qN u1 u2 u3 u4=>?_) (fun d τ u1 u2 u3=>?_)
  ·have d':((Stl.new c.r.at').step C who A).1=false:=d
   rw [if_neg (by rw [d']; decide)] at hk
   exact hk 0 (q :: O) τ (may0 (by omega)) (cons hq) u1 ⟨⟨x1,x6,_,.pointer (some ⟨q,0,none⟩),u2,fun a b=>absurd (show c.r.pc≤2 from a) (by omega),fun e=>absurd (show c.r.pc=5 from e) (by omega),fun _=>rfl,fun a e=>(by rw [show c.a=some a from e] at ea; cases ea),(fun e=>by cases e),fun a e=>by cases e; exact ⟨q,rfl,List.mem_cons_self ..,qp,u3⟩⟩,ownc qN,List.mem_cons_of_mem _ pO⟩ (k1 u4)
  ·have d':((Stl.new c.r.at').step C who A).1=true:=d
   simp only [if_pos d'] at hk
   rw [px_settled] at u2
   exact hk 0 O τ (may0 (by omega)) same u1 (COb.bare (x1:=x1) (x6:=x6) u2 (stp _) ea rfl own pO) (k1 u3)
 | some a=>
  obtain ⟨q,rfl,qO,qp,gq⟩:=hX.s1 a es
  rw [es] at hk
  simp only [Option.getD_some] at hk
  refine c_Co11a hN hC hA (c:=c.r.px x1 x6 (.pointer none) (.pointer none)) (q:=q) (a:=a) hp hd c11 hn hnn hwA gq (own q qO) qp (hf.s a es).2 ha' ⟨hf.cnt.1,hf.cnt.2,hf.cnt.3⟩ (fun d τ u1 u2 u3 u4=>?_) (fun d τ u1 u2 u3=>?_)
  ·rw [if_neg (by rw [d]; decide)] at hk
   exact hk 0 O τ (may0 (by omega)) same u1 ⟨⟨x1,x6,_,.pointer (some ⟨q,0,none⟩),u2,fun a b=>absurd (show c.r.pc≤2 from a) (by omega),fun e=>absurd (show c.r.pc=5 from e) (by omega),fun _=>rfl,fun a e=>(by rw [show c.a=some a from e] at ea; cases ea),(fun e=>by cases e),fun a e=>by cases e; exact ⟨q,rfl,qO,qp,u3⟩⟩,own,pO⟩ (k2 qO u4)
  ·rw [if_pos d] at hk
   rw [px_settled] at u2
   exact hk 0 O τ (may0 (by omega)) same u1 (COb.bare (x1:=x1) (x6:=x6) u2 (stp _) ea rfl own pO) (k2 qO u3)
end Go.Fl
namespace Go.Fl
open Go
set_option linter.unusedVariables false
set_option linter.unusedSimpArgs false
variable {N:Nm} {A B:Ar} {σ:Mem} {K:Value→Mem→Prop} {C:Cf} {who:Int}
def cnt (f:Int→Bool):Nat→Nat
 | 0=>0
 | n+1=>cnt f n+(if f n=true then 1 else 0)
theorem cnt_congr {f g:Int→Bool}:∀ {n:Nat},(∀ j:Int,0≤j→j<n→f j=g j)→cnt f n=cnt g n
 | 0,_=>rfl
 | n+1,h=>by unfold cnt; rw [cnt_congr (n:=n) fun j j0 j1=>h j j0 (by omega),h n (by omega) (by omega)]
theorem cnt_le {f:Int→Bool}:∀ {n:Nat},cnt f n≤n
 | 0=>Nat.le_refl 0
 | n+1=>by unfold cnt; have:=cnt_le (f:=f) (n:=n); split <;> omega
theorem cnt_off {f g:Int→Bool} {i:Int} (hf:f i=true) (hg:g i=false):∀ {n:Nat},0≤i→i<n→(∀ j:Int,0≤j→j<n→j≠i→f j=g j)→cnt f n=cnt g n+1
 | 0,h0,h1,_=>by omega
 | n+1,h0,h1,h=>by
  unfold cnt
  by_cases e:i=n
  ·subst e
   rw [cnt_congr (g:=g) fun j j0 j1=>h j j0 (by omega) (by omega),hf,hg]; simp
  ·rw [cnt_off hf hg (n:=n) h0 (by omega) fun j j0 j1 hj=>h j j0 (by omega) hj,h n (by omega) (by omega) (fun q=>e q.symm)]; omega
theorem cnt_zero {f:Int→Bool}:∀ {n:Nat},cnt f n=0→∀ j:Int,0≤j→j<n→f j=false
 | 0,_,j,j0,j1=>by omega
 | n+1,h,j,j0,j1=>by
  unfold cnt at h
  by_cases e:j=n
  ·subst e
   cases q:f n with
   | false=>rfl
   | true=>rw [q] at h; simp at h
  ·exact cnt_zero (n:=n) (by omega) j j0 (by omega)
theorem cnt_none {f:Int→Bool} {n:Nat} (h:∀ j:Int,0≤j→j<n→f j=false):cnt f n=0:=by
 rw [cnt_congr (g:=fun _=>false) h]
 have:∀ n,cnt (fun _=>false) n=0:=fun n=>by
  induction n with
  | zero=>rfl
  | succ n ih=>unfold cnt; rw [ih]; rfl
 exact this n
theorem c_many (hN:N.ok) (hC:C.ok) (hA:isA N A σ) (hn:C.len≤A.n) (hw:∀ i,0≤A.w i∧A.w i<18446744073709551616) {st:Int} (hk:K (.int .i64 (cnt (fun j=>decide (chS (A.w (C.chunk j))=st)) C.C.toNat)) σ):s_bl [N.env C who,.int .i64 st] K σ:=by
 have hT:=hC.T; have hS:=hC.S; have hC3:=hC.C; have hl:=len_bd hC
 have hch:C.chunk C.C=6+C.T+2*C.S+3*C.C:=rfl
 have f0:∀ (x y z w:Value) (K:Value→Prop),xF (fFldV 0 1 false) [.agg #[x,y,z,w]] K=K x:=fun _ _ _ _ K=>nr rfl
 simp only [s_bl,w_bl,ruS,ruL,ruE,Nat.reduceAdd,reduceIte,Int.reduceLT,Int.reduceLE,Int.reduceEq,Int.reduceNeg,Int.reduceAdd,Int.reduceSub,Nat.reduceLeDiff,Nat.reduceLT]
 refine xLoop_i (fun i=>[.int .i64 st,.int .i64 (cnt (fun j=>decide (chS (A.w (C.chunk j))=st)) i.toNat),.int .i64 i]) [N.el C who] C.C (fun i τ=>(0≤i∧i≤C.C)∧τ=σ) ?_ ⟨⟨Int.le_refl 0,by omega⟩,rfl⟩
 rintro i τ ⟨⟨i0,i1⟩,rfl⟩ R hR
 simp only [w_law14_many_l4,w_law14_many_l4b,ruS,ruL,ruE,Nat.reduceAdd,reduceIte,Int.reduceLT,Int.reduceLE,Int.reduceEq,Int.reduceNeg,Int.reduceAdd,Int.reduceSub,Nat.reduceLeDiff,Nat.reduceLT]
 by_cases c:i<C.C
 ·have cb:0≤C.chunk i∧C.chunk i<A.n:=by unfold Cf.chunk at *; omega
  have hcl:=cnt_le (f:=fun j=>decide (chS (A.w (C.chunk j))=st)) (n:=i.toNat)
  have hs:cnt (fun j=>decide (chS (A.w (C.chunk j))=st)) (i+1).toNat=cnt (fun j=>decide (chS (A.w (C.chunk j))=st)) i.toNat+(if chS (A.w (C.chunk i))=st then 1 else 0):=by
   rw [show (i+1).toNat=i.toNat+1 by omega]
   show cnt _ i.toNat+(if decide (chS (A.w (C.chunk (i.toNat:Int)))=st)=true then 1 else 0)=_
   rw [show ((i.toNat:Nat):Int)=i by omega]
   simp
  have nx:=hR τ c ⟨⟨by omega,by omega⟩,rfl⟩
  rw [hs] at nx
  have hP:N.el C who=[.int .i64 C.T,.int .i64 C.S,.int .i64 C.C,.int .i64 C.W,.int .i64 C.G,.int .i64 C.P,.int .i64 C.R,N.p,.int .i64 who]:=rfl
  have p7:sub (N.el C who) 7 1 false=some N.p:=rfl
  simp only [c,p7,c_Chunk hC i0 (show i≤65536 by omega),c_PeekA hN hA cb.1 cb.2,c_wChunk (hw (C.chunk i)).1 (hw (C.chunk i)).2,f0,ruS,ruL,ruE,Nat.reduceAdd,reduceIte,Int.reduceLT,Int.reduceLE,Int.reduceEq,Int.reduceNeg,Int.reduceAdd,Int.reduceSub,Nat.reduceLeDiff,Nat.reduceLT]
  by_cases e:chS (A.w (C.chunk i))=st
  ·rw [if_pos e] at nx
   simp only [e,w_bl_j2,w_bl_j2b,ruS,ruL,ruE,Nat.reduceAdd,reduceIte,Int.reduceLT,Int.reduceLE,Int.reduceEq,Int.reduceNeg,Int.reduceAdd,Int.reduceSub,Nat.reduceLeDiff,Nat.reduceLT]
   rw [IntWalk.i64_in ((cnt (fun j=>decide (chS (A.w (C.chunk j))=st)) i.toNat:Int)+1) (by omega),IntWalk.i64_in (i+1) (by omega)]
   exact nx
  ·rw [if_neg e] at nx
   simp only [e,w_bl_j2,w_bl_j2b,ruS,ruL,ruE,Nat.reduceAdd,reduceIte,Int.reduceLT,Int.reduceLE,Int.reduceEq,Int.reduceNeg,Int.reduceAdd,Int.reduceSub,Nat.reduceLeDiff,Nat.reduceLT]
   rw [IntWalk.i64_in (i+1) (by omega)]
   exact nx
 ·have:i=C.C:=by omega
  subst this
  simp only [c,w_bl_j1,w_bl_j1b,ruS,ruL,ruE,Nat.reduceAdd,reduceIte,Int.reduceLT,Int.reduceLE,Int.reduceEq,Int.reduceNeg,Int.reduceAdd,Int.reduceSub,Nat.reduceLeDiff,Nat.reduceLT]
  exact hk
theorem c_CoNew (hA:isA N A σ) (hk:∀ p τ,σ.get p=none→COb N p [p] Co.new τ→Ext σ τ→K (.pointer (some ⟨p,0,none⟩)) τ):s_aw [] K σ:=by
 have b:∀ K:Value→Prop,xF (fBuild [(0,1),(1,1),(2,1),(3,1),(4,1),(5,1),(6,1),(7,1),(8,1),(9,5),(14,5),(19,1)] [.int .i64 0,.slice none 0 0,.int .i64 0,.int .i64 0,.int .u64 0,.int .u64 0,.pointer none,.pointer none,.pointer none,.int .i64 0,.int .i64 0,.int .i64 0,.int .i64 0,.int .i64 0,.int .i64 0,.int .i64 0,.int .i64 0,.int .i64 0,.int .i64 0,.int .i64 0] []) [] K =
  K (.agg (Cr.new.px (.slice none 0 0) (.pointer none) (.pointer none) (.pointer none)).l.toArray):=fun K=>nr rfl
 simp only [s_aw,w_aw,b,ruS,ruL,ruE,Nat.reduceAdd,reduceIte,Int.reduceLT,Int.reduceLE,Int.reduceEq,Int.reduceNeg,Int.reduceAdd,Int.reduceSub,Nat.reduceLeDiff,Nat.reduceLT]
 refine hBox_i (cs:=(Cr.new.px (.slice none 0 0) (.pointer none) (.pointer none) (.pointer none)).l) rfl fun p τ hp gp x=>?_
 refine hk p τ hp (COb.bare (x1:=.slice none 0 0) (x6:=.pointer none) gp (.inr ⟨rfl,rfl⟩) rfl rfl (fun i hi=>?_) (List.mem_singleton.2 rfl)) x
 rw [List.mem_singleton] at hi; subst hi; exact hA.new hp
theorem COb.get {p:Nat} {O:List Nat} {c:Co} (h:COb N p O c σ):∃ x1 x6 x7 x8,σ.get p=some ⟨(c.r.px x1 x6 x7 x8).l,true⟩:=by obtain ⟨⟨x1,x6,x7,x8,h,_⟩,_⟩:=h; exact ⟨x1,x6,x7,x8,h⟩
theorem c_CoWork {p:Nat} {O:List Nat} {c:Co} (h:COb N p O c σ):s_ap [.pointer (some ⟨p,0,none⟩)] K σ=K (.agg #[.int .i64 c.r.ev,.int .i64 c.r.lf,.int .i64 c.r.fd,.int .i64 c.r.mo,.int .i64 c.r.rd]) σ:=by
 obtain ⟨x1,x6,x7,x8,g⟩:=h.get
 have g5:∀ x y z u w:Int,gStore 5 [.pointer (some ⟨2,0,some 0⟩),.agg #[.int .i64 x,.int .i64 y,.int .i64 z,.int .i64 u,.int .i64 w]] [.int .i64 0,.int .i64 0,.int .i64 0,.int .i64 0,.int .i64 0]=some [.int .i64 x,.int .i64 y,.int .i64 z,.int .i64 u,.int .i64 w]:=fun _ _ _ _ _=>rfl
 have s5:∀ {x y z u w:Value},sub [x,y,z,u,w] 0 5 true=some (.agg #[x,y,z,u,w]):=fun {_ _ _ _ _}=>rfl
 simp only [s_ap,w_ap,ruS,ruL,ruE,Nat.reduceAdd,reduceIte,Int.reduceLT,Int.reduceLE,Int.reduceEq,Int.reduceNeg,Int.reduceAdd,Int.reduceSub,Nat.reduceLeDiff,Nat.reduceLT]
 rw [ldG g (show sub (c.r.px x1 x6 x7 x8).l 9 5 true=some (.agg #[.int .i64 c.r.ev,.int .i64 c.r.lf,.int .i64 c.r.fd,.int .i64 c.r.mo,.int .i64 c.r.rd]) from rfl)]
 simp only [g5,s5,ruS,ruL,ruE,Nat.reduceAdd,reduceIte,Int.reduceLT,Int.reduceLE,Int.reduceEq,Int.reduceNeg,Int.reduceAdd,Int.reduceSub,Nat.reduceLeDiff,Nat.reduceLT]
theorem keep_on {O O':List Nat} {τ υ:Mem} {A':Ar} (hA:isA N A' τ) (h1:Keep (O ++ N.l) σ τ) (h2:∀ i ∈ O',i ∈ O∨σ.get i=none) (h3:Keep (O' ++ N.l) τ υ):Keep (O ++ N.l) σ υ:=fun i b hi hn=>by
 refine h3 i b (h1 i b hi hn) fun hm=>?_
 rcases List.mem_append.1 hm with r | r
 ·rcases h2 i r with q | q
  ·exact hn (List.mem_append_left _ q)
  ·rw [q] at hi; cases hi
 ·exact hn (List.mem_append_right _ r)
theorem c_rounds (hN:N.ok) (hC:C.ok) (hA:isA N A σ) {p:Nat} {O:List Nat} {c:Co} {n:Int} (hn:0≤n∧n≤1000) (hO:COb N p O c σ) (I:Co→Ar→Prop) (left:Co→Ar→Int) (h0:I c A) (hrd:0≤c.r.rd∧c.r.rd≤1000000)
  (hF:∀ c1 A,I c1 A→c.r.rd≤c1.r.rd→c1.r.rd≤c.r.rd+n→c1.fit C A∧C.len≤A.n∧(A.n:Int)≤200000000∧(∀ i,0≤A.w i∧A.w i<18446744073709551616)∧1≤left c1 A∧left c1 A≤3000)
  (hS:∀ c1 A r,I c1 A→c.r.rd≤c1.r.rd→c1.r.rd<c.r.rd+n→c1.may C A r→I (c1.step C (-1) A r).1 (c1.step C (-1) A r).2∧((c1.step C (-1) A r).1.r.rd=c1.r.rd∧left (c1.step C (-1) A r).1 (c1.step C (-1) A r).2<left c1 A∨(c1.step C (-1) A r).1.r.rd=c1.r.rd+1∧(c1.step C (-1) A r).1.r.pc=0∧(c1.step C (-1) A r).1.r.at'=0))
  (hk:∀ c' A' O' τ,I c' A'→c'.r.rd=c.r.rd+n→(n=0∨c'.r.pc=0∧c'.r.at'=0)→isA N A' τ→COb N p O' c' τ→(∀ i ∈ O',i ∈ O∨σ.get i=none)→Keep (O ++ N.l) σ τ→K (.bool true) τ) :
  s_bn [N.env C who,.pointer (some ⟨p,0,none⟩),.int .i64 n] K σ:=by
 have f4:∀ (x y z u w:Value) (K:Value→Prop),xF (fFldV 4 1 false) [.agg #[x,y,z,u,w]] K=K w:=fun _ _ _ _ _ K=>nr rfl
 have g9:gStore 1 [.pointer (some ⟨3,8,some 0⟩),.int .i64 (-1)] (N.el C who)=some (N.el C (-1)):=rfl
 simp only [s_bn,w_bn,g9,c_CoWork hO,f4,ruS,ruL,ruE,Nat.reduceAdd,reduceIte,Int.reduceLT,Int.reduceLE,Int.reduceEq,Int.reduceNeg,Int.reduceAdd,Int.reduceSub,Nat.reduceLeDiff,Nat.reduceLT]
 rw [IntWalk.i64_in (c.r.rd+n) (by omega)]
 refine xLoop_r (fun x ts ls τ=>∃ (i:Int) (c':Co) (A':Ar) (O':List Nat),x=(3000*n+1 - i).toNat∧ts=[.pointer (some ⟨p,0,none⟩),.int .i64 n,.int .i64 (c.r.rd+n),.int .i64 i]∧ls=[N.el C (-1)]∧(0≤i∧i≤3000*n)∧I c' A'∧(c.r.rd≤c'.r.rd∧c'.r.rd≤c.r.rd+n) ∧
   i+left c' A'≤3000*(c'.r.rd - c.r.rd+1)∧(c'.r.rd=c.r.rd+n→n=0∨c'.r.pc=0∧c'.r.at'=0)∧isA N A' τ∧COb N p O' c' τ∧(∀ i ∈ O',i ∈ O∨σ.get i=none)∧Keep (O ++ N.l) σ τ) ?_ (n:=(3000*n+1).toNat)
  ⟨0,c,A,O,by simp,rfl,rfl,⟨Int.le_refl 0,by omega⟩,h0,⟨Int.le_refl _,by omega⟩,by have:=(hF c A h0 (Int.le_refl _) (by omega)).2.2.2.2.2; omega,fun e=>.inl (by omega),hA,hO,fun i hi=>.inl hi,Keep.refl⟩
 rintro x ts ls τ ⟨i,c',A',O',rfl,rfl,rfl,⟨i0,i1⟩,hI,⟨r0,r1⟩,hb,hz,hA',hO',hown,hK⟩ R hR
 obtain ⟨hfit,hlen,hnn,hw,l1,l2⟩:=hF c' A' hI r0 r1
 have fin:c'.r.rd=c.r.rd+n→w_bn_j1 K [.pointer (some ⟨p,0,none⟩),.int .i64 (c.r.rd+n)] [] τ:=fun e=>by
  simp only [w_bn_j1,w_bn_j1b,c_CoWork hO',f4,ruS,ruL,ruE,Nat.reduceAdd,reduceIte,Int.reduceLT,Int.reduceLE,Int.reduceEq,Int.reduceNeg,Int.reduceAdd,Int.reduceSub,Nat.reduceLeDiff,Nat.reduceLT]
  have:c.r.rd+n≤c'.r.rd:=by omega
  simp only [this,decide_true]
  exact hk c' A' O' τ hI e (hz e) hA' hO' hown hK
 simp only [w_law14_rounds_l5,w_law14_rounds_l5b,ruS,ruL,ruE,Nat.reduceAdd,reduceIte,Int.reduceLT,Int.reduceLE,Int.reduceEq,Int.reduceNeg,Int.reduceAdd,Int.reduceSub,Nat.reduceLeDiff,Nat.reduceLT]
 rw [IntWalk.i64_in (3000*n) (by omega)]
 by_cases c1:i<3000*n
 ·simp only [c1,c_CoWork hO',f4,ruS,ruL,ruE,Nat.reduceAdd,reduceIte,Int.reduceLT,Int.reduceLE,Int.reduceEq,Int.reduceNeg,Int.reduceAdd,Int.reduceSub,Nat.reduceLeDiff,Nat.reduceLT]
  by_cases c2:c'.r.rd<c.r.rd+n
  ·simp only [c2,w_bn_j2,w_bn_j2b,ruS,ruL,ruE,Nat.reduceAdd,reduceIte,Int.reduceLT,Int.reduceLE,Int.reduceEq,Int.reduceNeg,Int.reduceAdd,Int.reduceSub,Nat.reduceLeDiff,Nat.reduceLT]
   refine c_Co_Step hN hC hA' hO' hlen hnn hw hfit fun r O2 τ2 hm ho2 hA2 hO2 hK2=>?_
   rw [IntWalk.i64_in (i+1) (by omega)]
   obtain ⟨hI2,hd⟩:=hS c' A' r hI r0 c2 hm
   obtain ⟨_,_,_,_,m1,m2⟩:=hF _ _ hI2 (by rcases hd with ⟨e,_⟩ | ⟨e,_⟩ <;> omega) (by rcases hd with ⟨e,_⟩ | ⟨e,_⟩ <;> omega)
   refine hR (3000*n+1 - (i+1)).toNat _ _ _ (by omega) ⟨i+1,_,_,O2,rfl,rfl,rfl,⟨by omega,by omega⟩,hI2,by rcases hd with ⟨e,_⟩ | ⟨e,_⟩ <;> omega,by rcases hd with ⟨e,_⟩ | ⟨e,_⟩ <;> (rw [e]; omega),fun e=>?_,hA2,hO2,?_,keep_on hA' hK hown hK2⟩
   ·rcases hd with ⟨e',_⟩ | ⟨_,e',e''⟩
    ·omega
    ·exact .inr ⟨e',e''⟩
   ·intro j hj
    rcases ho2 j hj with q | q
    ·exact hown j q
    ·cases e:σ.get j with
     | none=>exact .inr rfl
     | some b=>
      by_cases r:j ∈ O
      ·exact .inl r
      ·rw [hK j b e (fun hm=>by rcases List.mem_append.1 hm with u | u; exact r u; exact hO2.own j hj u)] at q; cases q
  ·simp only [c2,ruS,ruL,ruE,Nat.reduceAdd,reduceIte,Int.reduceLT,Int.reduceLE,Int.reduceEq,Int.reduceNeg,Int.reduceAdd,Int.reduceSub,Nat.reduceLeDiff,Nat.reduceLT]
   exact fin (by omega)
 ·simp only [c1,ruS,ruL,ruE,Nat.reduceAdd,reduceIte,Int.reduceLT,Int.reduceLE,Int.reduceEq,Int.reduceNeg,Int.reduceAdd,Int.reduceSub,Nat.reduceLeDiff,Nat.reduceLT]
  exact fin (by omega)
end Go.Fl
namespace Go.Fl
open Go
set_option linter.unusedVariables false
set_option linter.unusedSimpArgs false
variable {N:Nm} {A B:Ar} {σ:Mem} {K:Value→Mem→Prop} {C:Cf} {who:Int}
theorem putChunk_self {w:Int} (h0:0≤w) (h1:w<18446744073709551616):putChunk (chS w) (chC w) (chU w) (chN w)=w:=by
 unfold putChunk chS chC chU chN
 rw [cl_in (by omega) (by omega),cl_in (by omega) (by omega),cl_in (by omega) (by omega),cl_in (by omega) (by omega)]
 omega
theorem chw_put {w st:Int} (h1:0≤st∧st≤3):chS (chw w st)=st∧chC (chw w st)=chC w∧chU (chw w st)=chU w∧(0≤chw w st∧chw w st<18446744073709551616):=by
 refine ⟨?_,?_,?_,putChunk_in _ _ _ _⟩ <;> (unfold chw putChunk; (try unfold chS); unfold chC chU chN cl; omega)
def opB (w:Int→Int) (k j:Int):Bool:=decide ((0<k∧w 2=j+1)∨(1<k∧w 3=j+1)∨(2<k∧w 4=j+1)∨(3<k∧w 5=j+1))
theorem opB_0 {w:Int→Int} {j:Int}:opB w 0 j=false:=by unfold opB; exact decide_eq_false (by omega)
theorem opB_next {w:Int→Int} {k j:Int} (h0:0≤k) (h1:k<4):opB w (k+1) j=(opB w k j || decide (w (2+k)=j+1)):=by
 have:opB w (k+1) j=true ↔ (opB w k j || decide (w (2+k)=j+1))=true:=by
  unfold opB
  simp only [Bool.or_eq_true,decide_eq_true_eq]
  rcases (show k=0∨k=1∨k=2∨k=3 by omega) with rfl | rfl | rfl | rfl
  ·rw [show (2:Int)+0=2 by decide]; omega
  ·rw [show (2:Int)+1=3 by decide]; omega
  ·rw [show (2:Int)+2=4 by decide]; omega
  ·rw [show (2:Int)+3=5 by decide]; omega
 cases e1:opB w (k+1) j <;> cases e2:(opB w k j || decide (w (2+k)=j+1)) <;> simp_all
def see (C:Cf) (w:Int→Int) (k j:Int):Sn:=⟨chS (w (C.chunk j)),chC (w (C.chunk j)),chU (w (C.chunk j)),chN (w (C.chunk j)),IntKind.i64.wrap (w (C.chunk j+1)),opB w k j⟩
theorem opS_get {L:List Sn} {n:Int} {i:Nat} {x:Sn} (h:L[i]?=some x):(opS L n)[i]?=some { x with op:=x.op || decide (n=(i:Int)+1) }:=by
 unfold opS
 by_cases c:0<n
 ·rw [if_pos c]
  by_cases e:n=(i:Int)+1
  ·have ei:(n - 1).toNat=i:=by omega
   rw [ei,h]
   show (L.set i _)[i]?=_
   have hi:=(List.getElem?_eq_some_iff.1 h).1
   rw [List.getElem?_set]; simp [hi,e]
  ·have ei:¬ (n - 1).toNat=i:=by omega
   have e2:{ x with op:=x.op || decide (n=(i:Int)+1) }=x:=by simp [e]
   rw [e2]
   split
   ·exact h
   ·rw [List.getElem?_set,if_neg ei]; exact h
 ·rw [if_neg c]
  have e2:{ x with op:=x.op || decide (n=(i:Int)+1) }=x:=by
   have:¬ n=(i:Int)+1:=by omega
   simp [this]
  rw [e2]; exact h
theorem see_next {C:Cf} {w:Int→Int} {k:Int} {L:List Sn} {i:Nat} (h0:0≤k) (h1:k<4) (h:L[i]?=some (see C w k i)):(opS L (w (2+k)))[i]?=some (see C w (k+1) i):=by
 rw [opS_get h]
 unfold see
 rw [opB_next h0 h1]
theorem liveS_get {L:List Sn} {i j:Nat} {v:Int} {x:Sn} (h:L[i]?=some x):(liveS L j v)[i]?=some (if i=j then { x with live:=v } else x):=by
 unfold liveS
 by_cases e:i=j
 ·subst e
  rw [h,if_pos rfl]
  show (L.set i _)[i]?=_
  have hi:=(List.getElem?_eq_some_iff.1 h).1
  rw [List.getElem?_set]; simp [hi]
 ·rw [if_neg e]
  split
  ·exact h
  ·rw [List.getElem?_set]; simp [Ne.symm e,h]
structure TP where
 K0:Int
 Ks:Int
 r0:Int
 e0:Int
 pn:Bool
 w0:Int→Int
 D:Int→Bool
section
variable {P:TP} {w:Int→Int}
theorem ck_lt (hC:C.ok) {j:Int} (j0:0≤j) (j1:j<C.C):8≤C.chunk j∧C.chunk j+2<6+C.T+2*C.S+3*C.C:=by have:=hC.T; have:=hC.S; unfold Cf.chunk; omega
theorem ck_ne {j k:Int} (h:j≠k):C.chunk j≠C.chunk k∧C.chunk j≠C.chunk k+1∧C.chunk j≠C.chunk k+2∧C.chunk j+1≠C.chunk k∧C.chunk j+1≠C.chunk k+1∧C.chunk j+1≠C.chunk k+2∧C.chunk j+2≠C.chunk k∧C.chunk j+2≠C.chunk k+1∧C.chunk j+2≠C.chunk k+2:=by unfold Cf.chunk; omega
end
end Go.Fl
namespace Go.Fl
open Go
set_option linter.unusedVariables false
set_option linter.unusedSimpArgs false
variable {N:Nm} {A B:Ar} {σ:Mem} {K:Value→Mem→Prop} {C:Cf} {who:Int} {P:TP} {w:Int→Int}
theorem u64w {x:Int} (h0:0≤x) (h1:x<18446744073709551616):IntKind.u64.wrap x=x:=IntWalk.u64_in x ⟨h0,by omega⟩
def apA:Option Adv→Int
 | none=>0
 | some a=>if a.pc=1 then 1+a.at' else 10
def spS:Option Stl→Int
 | none=>0
 | some s=>if s.pc≤2 then s.pc else if s.pc=3 then 3+s.at' else 40+s.pc
section
variable {c:Co}
end
end Go.Fl
namespace Go.Fl
open Go
set_option linter.unusedVariables false
set_option linter.unusedSimpArgs false
variable {N:Nm} {A B:Ar} {σ:Mem} {K:Value→Mem→Prop} {C:Cf} {who:Int} {P:TP} {w:Int→Int}
theorem w64u {a v:Int} (h:∀ i,0≤w i∧w i<18446744073709551616) (hv:0≤v∧v<18446744073709551616):∀ i,0≤upd w a v i∧upd w a v i<18446744073709551616:=fun i=>by unfold upd; split; exact hv; exact h i
section
variable {c:Co}
end
end Go.Fl
namespace Go.Fl
open Go
set_option linter.unusedVariables false
set_option linter.unusedSimpArgs false
variable {N:Nm} {A B:Ar} {σ:Mem} {K:Value→Mem→Prop} {C:Cf} {who:Int} {P:TP} {w:Int→Int}
theorem chS0 {n:Int}:chS (putChunk 0 0 0 n)=0:=by unfold putChunk chS cl; omega
theorem sp0 {v:Stl}:spS (some v)=if v.pc≤2 then v.pc else if v.pc=3 then 3+v.at' else 40+v.pc:=rfl
theorem sp1 {v:Stl} (h:v.pc≤2):spS (some v)=v.pc:=by rw [sp0,if_pos h]
theorem sp3 {v:Stl} (h:v.pc=3):spS (some v)=3+v.at':=by rw [sp0,if_neg (by omega),if_pos h]
theorem sp4 {v:Stl} (h:4≤v.pc):spS (some v)=40+v.pc:=by rw [sp0,if_neg (by omega),if_neg (by omega)]
section
variable {c:Co}
end
end Go.Fl
namespace Go.Fl
open Go
set_option linter.unusedVariables false
set_option linter.unusedSimpArgs false
variable {C:Cf} {w:Int→Int}
structure MP where
 w0:Int→Int
 lv:Int→Bool
 g:Int→Int
 z:Int→Int
 o:Int→Bool
 L:Int→Int→Int
 N0:Int
 pd:Int
 pk:Int
variable {P:MP}
structure MS (C:Cf) (P:MP):Prop where
 cc:C.C≤8∧C.W≤40
 lv:∀ s,0≤s→s<C.S→P.lv s=true→0≤classOf (P.z s)∧(0≤P.g s∧P.g s≤65535)∧∀ k,0≤k→k<P.z s→0≤P.L s k∧P.L s k≤1099511627775
 dd:∀ s,0≤s→s<C.S→P.lv s=false→slS (P.w0 (C.slot s))≠1∧slS (P.w0 (C.slot s))≠4
 pk:P.pk=0∨P.pk=1
 n0:0≤P.N0∧P.N0≤1000
def MP.rm (P:MP) (s:Int):Int:=roomOf (classOf (P.z s))
def MP.hw (P:MP) (s a:Int):Int:=putHead (if a=P.pd then P.pk else 2) (P.z s) s (P.g s) (P.o s)
structure Pla (C:Cf) (P:MP) (w:Int→Int) (s a j x:Int):Prop where
 ea:a=C.base j+x
 jb:0≤j∧j<C.C
 xb:0≤x∧x+P.rm s≤chU (w (C.chunk j))
 m:x % P.rm s=0
 c:chC (w (C.chunk j))=classOf (P.z s)
 st:chS (w (C.chunk j))=1∨chS (w (C.chunk j))=2
structure ObR (C:Cf) (P:MP) (t:Int) (w:Int→Int) (s a v:Int):Prop where
 sw:w (C.slot s)=putSlot 1 a (P.g s) v
 vb:0≤v∧v≤t
 pl:∃ j x,Pla C P w s a j x
 hd:w a=P.hw s a
 ce:∀ k,0≤k→k<P.z s→w (a+1+k)=putCell (P.L s k) false 0
def HdOk (C:Cf) (P:MP) (v a:Int):Prop:=hdK v=3∨(hdK v=2∧(0≤hdT v∧hdT v<C.S)∧0≤classOf (hdS v))∨a=P.pd∧hdK v=P.pk
structure CkOk (C:Cf) (t v:Int):Prop where
 c:chC v≤3
 u:chU v≤C.W
 m:chU v % roomOf (chC v)=0
 n:chN v≤t
 p:2≤chS v→0<chU v
structure MW (C:Cf) (P:MP) (t ms cp:Int) (w:Int→Int):Prop where
 bd:∀ i,0≤w i∧w i<18446744073709551616
 ck:∀ j,0≤j→j<C.C→CkOk C t (w (C.chunk j))
 hd:∀ j x,0≤j→j<C.C→(chS (w (C.chunk j))=1∨chS (w (C.chunk j))=2)→0≤x→x<chU (w (C.chunk j))→x % roomOf (chC (w (C.chunk j)))=0→C.base j+x≠cp→HdOk C P (w (C.base j+x)) (C.base j+x)
 dd:∀ s,0≤s→s<C.S→P.lv s=false→w (C.slot s)=P.w0 (C.slot s)
 lv:∀ s,0≤s→s<C.S→P.lv s=true→s≠ms→∃ a v,ObR C P t w s a v
 op:∀ k,0≤k→k≤3→0≤w (2+k)∧w (2+k)≤C.C
 ep:w 0≤t
 pn:∀ i,0≤i→i<C.T→w (6+i)=0
 pp:P.pd = -1∨∃ r,(0≤r∧r<C.S)∧P.lv r=true∧r≠ms∧slA (w (C.slot r))=P.pd
theorem MS.rm (hS:MS C P) {s:Int} (s0:0≤s) (s1:s<C.S) (l:P.lv s=true):(3≤P.rm s∧P.rm s≤17)∧(1≤P.z s∧P.z s≤16)∧P.z s+1≤P.rm s:=by
 have h:=(hS.lv s s0 s1 l).1
 exact ⟨room_bd h (class_bd _).2,class_room' h⟩
theorem Pla.bd (hC:C.ok) (hS:MS C P) {s a j x:Int} (h:Pla C P w s a j x) (hu:chU (w (C.chunk j))≤C.W) (s0:0≤s) (s1:s<C.S) (l:P.lv s=true):(C.base 0≤a∧a+P.z s<C.len)∧x+P.z s<C.W:=by
 have r:=hS.rm s0 s1 l
 have hx:=h.xb
 have b0:=base_ge hC h.jb.1 h.jb.2 hx.1
 have b1:=(base_of hC (i:=x+P.z s) h.jb.1 h.jb.2 (by omega) (by omega)).2.2
 rw [h.ea]
 have e0:C.base 0=6+C.T+2*C.S+3*C.C:=by unfold Cf.base; omega
 exact ⟨⟨by omega,by omega⟩,by omega⟩
theorem Pla.apart {s a j x r y d k:Int} (h:Pla C P w s a j x) (hz:P.z s+1≤P.rm s) (h3:3≤P.rm s) (hr:r=P.rm s) (hy:y % r=0) (hd:0≤d∧d<r) (hk:0≤k∧k≤P.z s) (e:x+k=y+d):x=y:=by
 have hm:=h.m
 rw [hr] at hy hd
 have e1:(x - y) % P.rm s=0:=by rw [Int.sub_emod,hm,hy]; rfl
 have e2:x - y=d - k:=by omega
 obtain ⟨c,hc⟩:=Int.dvd_of_emod_eq_zero e1
 have:c=0:=by
  by_cases p:0<c
  ·have:P.rm s*1≤P.rm s*c:=Int.mul_le_mul_of_nonneg_left (by omega) (by omega)
   omega
  ·by_cases n:c<0
   ·have:P.rm s*c≤P.rm s*(-1):=Int.mul_le_mul_of_nonneg_left (by omega) (by omega)
    omega
   ·omega
 subst this
 omega
section
variable {t ms cp:Int}
theorem ObR.sl (hC:C.ok) (hS:MS C P) {s a v:Int} (h:ObR C P t w s a v) (ht:t≤4194303) (hu:∀ j,0≤j→j<C.C→CkOk C t (w (C.chunk j))) (s0:0≤s) (s1:s<C.S) (l:P.lv s=true) :
  slS (w (C.slot s))=1∧slA (w (C.slot s))=a∧slG (w (C.slot s))=P.g s∧slV (w (C.slot s))=v:=by
 obtain ⟨j,x,p⟩:=h.pl
 have b:=(p.bd hC hS (hu j p.jb.1 p.jb.2).u s0 s1 l).1
 have r:=hS.rm s0 s1 l
 have hl:=len_bd hC
 have hb:0≤C.base 0:=by have:=base_ge hC p.jb.1 p.jb.2 p.xb.1; have:=hC.T; have:=hC.S; have:=hC.C; unfold Cf.base; omega
 have hv:=h.vb
 rw [h.sw]
 exact sl_put (by decide) (by omega) (hS.lv s s0 s1 l).2.1 (by omega)
theorem hw_hd (hC:C.ok) (hS:MS C P) {s a:Int} (s0:0≤s) (s1:s<C.S) (l:P.lv s=true):hdK (P.hw s a)=(if a=P.pd then P.pk else 2)∧hdS (P.hw s a)=P.z s∧hdT (P.hw s a)=s∧hdG (P.hw s a)=P.g s∧hdO (P.hw s a)=P.o s:=by
 have r:=hS.rm s0 s1 l
 have pk:=hS.pk
 have hSS:=hC.S
 refine hd_put ?_ (by omega) (by omega) (hS.lv s s0 s1 l).2.1
 split <;> omega
theorem MW.at' (hC:C.ok) (hS:MS C P) (h:MW C P t ms cp w) (ht:t≤4194303) {s a:Int} (s0:0≤s) (s1:s<C.S) (l:P.lv s=true) (hm:s≠ms) (e:slA (w (C.slot s))=a) :
  (hdK (w a)=(if a=P.pd then P.pk else 2)∧hdS (w a)=P.z s∧hdT (w a)=s∧hdG (w a)=P.g s∧hdO (w a)=P.o s)∧∃ v,ObR C P t w s a v:=by
 obtain ⟨a',v,o⟩:=h.lv s s0 s1 l hm
 have:=(o.sl hC hS ht h.ck s0 s1 l).2.1
 have ea:a'=a:=by omega
 subst ea
 rw [o.hd]
 exact ⟨hw_hd hC hS s0 s1 l,v,o⟩
theorem ObR.keep {t' s a v:Int} {w':Int→Int} (h:ObR C P t w s a v) (ht:t≤t') (hs:w' (C.slot s)=w (C.slot s)) (hc:∀ j x,Pla C P w s a j x→Pla C P w' s a j x) (hz:0≤P.z s) (hw:∀ i,0≤i→i≤P.z s→w' (a+i)=w (a+i)):ObR C P t' w' s a v:=by
 obtain ⟨j,x,p⟩:=h.pl
 refine ⟨by rw [hs]; exact h.sw,by have:=h.vb; omega,⟨j,x,hc j x p⟩,?_,fun k k0 k1=>?_⟩
 ·have:=hw 0 (Int.le_refl 0) hz
  rw [Int.add_zero] at this
  rw [this]; exact h.hd
 ·have:=hw (1+k) (by omega) (by omega)
  rw [← Int.add_assoc] at this
  rw [this]; exact h.ce k k0 k1
theorem CkOk.mono {t' v:Int} (h:CkOk C t v) (ht:t≤t'):CkOk C t' v:=⟨h.c,h.u,h.m,by have:=h.n; omega,h.p⟩
theorem MW.mono {t':Int} (h:MW C P t ms cp w) (ht:t≤t'):MW C P t' ms cp w:=
 ⟨h.bd,fun j j0 j1=>(h.ck j j0 j1).mono ht,h.hd,h.dd,fun s s0 s1 l hm=>by
  obtain ⟨a,v,o⟩:=h.lv s s0 s1 l hm
  exact ⟨a,v,o.sw,by have:=o.vb; omega,o.pl,o.hd,o.ce⟩,h.op,by have:=h.ep; omega,h.pn,h.pp⟩
theorem MW.chunk (hC:C.ok) (hS:MS C P) {t' i v cp':Int} (h:MW C P t ms cp w) (ht:t≤t') (i0:0≤i) (i1:i<C.C) (hv:0≤v∧v<18446744073709551616) (hck:CkOk C t' v) (hcp:cp=cp'∨cp = -1)
  (hh:chS v=1∨chS v=2→∀ x,0≤x→x<chU v→x % roomOf (chC v)=0→C.base i+x≠cp'→HdOk C P (w (C.base i+x)) (C.base i+x))
  (ho:∀ s a x,0≤s→s<C.S→P.lv s=true→s≠ms→slA (w (C.slot s))=a→Pla C P w s a i x→(chS v=1∨chS v=2)∧chC v=chC (w (C.chunk i))∧chU (w (C.chunk i))≤chU v) (h4:t≤4194303):MW C P t' ms cp' (upd w (C.chunk i) v):=by
 have bi:=ck_lt hC i0 i1
 have ck:∀ j,j≠i→upd w (C.chunk i) v (C.chunk j)=w (C.chunk j):=fun j e=>upd_ne _ _ (ck_ne e).1
 have cb:∀ j x,0≤j→j<C.C→0≤x→upd w (C.chunk i) v (C.base j+x)=w (C.base j+x):=fun j x j0 j1 x0=>upd_ne _ _ (by have:=base_ge hC j0 j1 x0; omega)
 have cs:∀ s,s<C.S→upd w (C.chunk i) v (C.slot s)=w (C.slot s):=fun s s1=>upd_ne _ _ (by unfold Cf.chunk Cf.slot; omega)
 have hT:=hC.T; have hSS:=hC.S
 refine ⟨w64u h.bd hv,fun j j0 j1=>?_,fun j x j0 j1 hs x0 x1 xm hne=>?_,fun s s0 s1 l=>by rw [cs s s1]; exact h.dd s s0 s1 l,fun s s0 s1 l hm=>?_,fun k k0 k1=>by rw [upd_ne _ _ (by unfold Cf.chunk; omega)]; exact h.op k k0 k1,by rw [upd_ne _ _ (by omega)]; have:=h.ep; omega,fun k k0 k1=>by rw [upd_ne _ _ (by unfold Cf.chunk; omega)]; exact h.pn k k0 k1,?_⟩
 ·by_cases e:j=i
  ·subst e; rw [upd_same]; exact hck
  ·rw [ck j e]; exact (h.ck j j0 j1).mono ht
 ·rw [cb j x j0 j1 x0]
  by_cases e:j=i
  ·subst e; rw [upd_same] at hs x1 xm; exact hh hs x x0 x1 xm hne
  ·rw [ck j e] at hs x1 xm
   refine h.hd j x j0 j1 hs x0 x1 xm ?_
   rcases hcp with q | q
   ·rw [q]; exact hne
   ·have:=base_ge hC j0 j1 x0; have:=hC.T; have:=hC.C; omega
 ·obtain ⟨a,u,o⟩:=h.lv s s0 s1 l hm
  have osl:=(o.sl hC hS h4 h.ck s0 s1 l).2.1
  obtain ⟨j,x,p⟩:=o.pl
  have b:=(p.bd hC hS (h.ck j p.jb.1 p.jb.2).u s0 s1 l).1
  have e0:C.base 0=6+C.T+2*C.S+3*C.C:=by unfold Cf.base; omega
  refine ⟨a,u,o.keep ht (cs s s1) (fun k y q=>?_) (by have:=hS.rm s0 s1 l; omega) fun d d0 d1=>upd_ne _ _ (by omega)⟩
  by_cases e:k=i
  ·subst e
   obtain ⟨u1,u2,u3⟩:=ho s a y s0 s1 l hm osl q
   have qx:=q.xb
   exact ⟨q.ea,q.jb,by rw [upd_same]; omega,q.m,by rw [upd_same,u2]; exact q.c,by rw [upd_same]; exact u1⟩
  ·exact ⟨q.ea,q.jb,by rw [ck k e]; exact q.xb,q.m,by rw [ck k e]; exact q.c,by rw [ck k e]; exact q.st⟩
 ·rcases h.pp with q | ⟨r,q1,q2,q3,q4⟩
  ·exact .inl q
  ·exact .inr ⟨r,q1,q2,q3,by rw [cs r q1.2]; exact q4⟩
theorem MW.low (hC:C.ok) (hS:MS C P) {t' a v:Int} (h:MW C P t ms cp w) (ht:t≤t') (hv:0≤v∧v<18446744073709551616) (ha:a=0∧v≤t'∨(∃ j,0≤j∧j<C.C∧(a=C.chunk j+1∨a=C.chunk j+2))∨∃ k,0≤k∧k≤3∧a=2+k∧v≤C.C):MW C P t' ms cp (upd w a v):=by
 have hT:=hC.T; have hSS:=hC.S; have hCC:=hC.C
 have e0:C.base 0=6+C.T+2*C.S+3*C.C:=by unfold Cf.base; omega
 have al:0≤a∧a<C.base 0:=by
  rcases ha with ⟨rfl,_⟩ | ⟨j,j0,j1,q⟩ | ⟨k,k0,k1,rfl,_⟩
  ·omega
  ·unfold Cf.chunk at q; omega
  ·omega
 have nc:∀ j,0≤j→C.chunk j≠a:=fun j j0=>by
  rcases ha with ⟨rfl,_⟩ | ⟨k,k0,k1,q⟩ | ⟨k,k0,k1,rfl,_⟩
  ·unfold Cf.chunk; omega
  ·unfold Cf.chunk at *; omega
  ·unfold Cf.chunk; omega
 have ns:∀ s,0≤s→s<C.S→C.slot s≠a:=fun s s0 s1=>by
  rcases ha with ⟨rfl,_⟩ | ⟨k,k0,k1,q⟩ | ⟨k,k0,k1,rfl,_⟩
  ·unfold Cf.slot; omega
  ·unfold Cf.slot; unfold Cf.chunk at q; omega
  ·unfold Cf.slot; omega
 have ck:∀ j,0≤j→upd w a v (C.chunk j)=w (C.chunk j):=fun j j0=>upd_ne _ _ (nc j j0)
 have cb:∀ j x,0≤j→j<C.C→0≤x→upd w a v (C.base j+x)=w (C.base j+x):=fun j x j0 j1 x0=>upd_ne _ _ (by have:=base_ge hC j0 j1 x0; omega)
 refine ⟨w64u h.bd hv,fun j j0 j1=>by rw [ck j j0]; exact (h.ck j j0 j1).mono ht,fun j x j0 j1 hs x0 x1 xm hne=>?_,fun s s0 s1 l=>by rw [upd_ne _ _ (ns s s0 s1)]; exact h.dd s s0 s1 l,fun s s0 s1 l hm=>?_,fun k k0 k1=>?_,?_,fun k k0 k1=>?_,?_⟩
 ·rw [ck j j0] at hs x1 xm; rw [cb j x j0 j1 x0]; exact h.hd j x j0 j1 hs x0 x1 xm hne
 ·obtain ⟨b,u,o⟩:=h.lv s s0 s1 l hm
  obtain ⟨j,x,p⟩:=o.pl
  have bb:=(p.bd hC hS (h.ck j p.jb.1 p.jb.2).u s0 s1 l).1
  exact ⟨b,u,o.keep ht (upd_ne _ _ (ns s s0 s1)) (fun k y q=>⟨q.ea,q.jb,by rw [ck k q.jb.1]; exact q.xb,q.m,by rw [ck k q.jb.1]; exact q.c,by rw [ck k q.jb.1]; exact q.st⟩) (by have:=hS.rm s0 s1 l; omega) fun d d0 d1=>upd_ne _ _ (by omega)⟩
 ·unfold upd; split
  ·rcases ha with ⟨rfl,_⟩ | ⟨j,j0,j1,q⟩ | ⟨_,_,_,_,q⟩
   ·omega
   ·unfold Cf.chunk at q; omega
   ·exact ⟨hv.1,q⟩
  ·exact h.op k k0 k1
 ·unfold upd; split
  ·rcases ha with ⟨_,q⟩ | ⟨j,j0,j1,q⟩ | ⟨_,_,_,q,_⟩
   ·exact q
   ·unfold Cf.chunk at q; omega
   ·omega
  ·have:=h.ep; omega
 ·rw [upd_ne _ _ ?_]; exact h.pn k k0 k1
  rcases ha with ⟨rfl,_⟩ | ⟨j,j0,j1,q⟩ | ⟨_,_,_,q,_⟩
  ·omega
  ·unfold Cf.chunk at q; omega
  ·omega
 ·rcases h.pp with q | ⟨r,q1,q2,q3,q4⟩
  ·exact .inl q
  ·exact .inr ⟨r,q1,q2,q3,by rw [upd_ne _ _ (ns r q1.1 q1.2)]; exact q4⟩
theorem MW.word (hC:C.ok) (hS:MS C P) {t' i y v:Int} (h:MW C P t ms cp w) (ht:t≤t') (i0:0≤i) (i1:i<C.C) (y0:0≤y) (y1:y<C.W) (hv:0≤v∧v<18446744073709551616)
  (hh:chS (w (C.chunk i))=1∨chS (w (C.chunk i))=2→y<chU (w (C.chunk i))→y % roomOf (chC (w (C.chunk i)))=0→C.base i+y≠cp→HdOk C P v (C.base i+y))
  (ho:∀ s a,0≤s→s<C.S→P.lv s=true→s≠ms→slA (w (C.slot s))=a→∀ x,Pla C P w s a i x→¬ (x≤y∧y≤x+P.z s)) (h4:t≤4194303):MW C P t' ms cp (upd w (C.base i+y) v):=by
 have hT:=hC.T; have hSS:=hC.S; have hCC:=hC.C
 have bb:=base_ge hC i0 i1 y0
 have ck:∀ j,0≤j→j<C.C→upd w (C.base i+y) v (C.chunk j)=w (C.chunk j):=fun j j0 j1=>upd_ne _ _ (by have:=ck_lt hC j0 j1; omega)
 have cs:∀ s,s<C.S→upd w (C.base i+y) v (C.slot s)=w (C.slot s):=fun s s1=>upd_ne _ _ (by unfold Cf.slot; omega)
 refine ⟨w64u h.bd hv,fun j j0 j1=>by rw [ck j j0 j1]; exact (h.ck j j0 j1).mono ht,fun j x j0 j1 hs x0 x1 xm hne=>?_,fun s s0 s1 l=>by rw [cs s s1]; exact h.dd s s0 s1 l,fun s s0 s1 l hm=>?_,fun k k0 k1=>by rw [upd_ne _ _ (by omega)]; exact h.op k k0 k1,by rw [upd_ne _ _ (by omega)]; have:=h.ep; omega,fun k k0 k1=>by rw [upd_ne _ _ (by omega)]; exact h.pn k k0 k1,?_⟩
 ·rw [ck j j0 j1] at hs x1 xm
  by_cases e:C.base j+x=C.base i+y
  ·have hu:=(h.ck j j0 j1).u
   obtain ⟨rfl,rfl⟩:=base_inj hC j0 j1 x0 (by omega) i0 i1 y0 y1 e
   rw [upd_same]; exact hh hs x1 xm hne
  ·rw [upd_ne _ _ e]; exact h.hd j x j0 j1 hs x0 x1 xm hne
 ·obtain ⟨a,u,o⟩:=h.lv s s0 s1 l hm
  have osl:=(o.sl hC hS h4 h.ck s0 s1 l).2.1
  obtain ⟨j,x,p⟩:=o.pl
  have hb:=p.bd hC hS (h.ck j p.jb.1 p.jb.2).u s0 s1 l
  have px:=p.xb
  refine ⟨a,u,o.keep ht (cs s s1) (fun k x' q=>⟨q.ea,q.jb,by rw [ck k q.jb.1 q.jb.2]; exact q.xb,q.m,by rw [ck k q.jb.1 q.jb.2]; exact q.c,by rw [ck k q.jb.1 q.jb.2]; exact q.st⟩) (by have:=hS.rm s0 s1 l; omega) fun d d0 d1=>upd_ne _ _ fun e=>?_⟩
  have e':C.base j+(x+d)=C.base i+y:=by rw [← e,p.ea]; omega
  obtain ⟨rfl,rfl⟩:=base_inj hC p.jb.1 p.jb.2 (by omega) (by omega) i0 i1 y0 y1 e'
  exact ho s a s0 s1 l hm osl x p ⟨by omega,by omega⟩
 ·rcases h.pp with q | ⟨r,q1,q2,q3,q4⟩
  ·exact .inl q
  ·exact .inr ⟨r,q1,q2,q3,by rw [cs r q1.2]; exact q4⟩
theorem MW.slot (hC:C.ok) (hS:MS C P) {t' s v ms':Int} (h:MW C P t ms cp w) (ht:t≤t') (s0:0≤s) (s1:s<C.S) (l:P.lv s=true) (hv:0≤v∧v<18446744073709551616)
  (hms:∀ r,0≤r→r≠ms'→r≠s→r≠ms) (hms':∀ r,0≤r→r≠ms→r≠s→r≠ms') (hpd:s≠ms→slA (w (C.slot s))≠P.pd) (ho:s≠ms'→∃ a u,ObR C P t' (upd w (C.slot s) v) s a u):MW C P t' ms' cp (upd w (C.slot s) v):=by
 have hT:=hC.T; have hSS:=hC.S; have hCC:=hC.C
 have hsl:C.slot s<6+C.T+2*C.S∧6+C.T≤C.slot s:=by unfold Cf.slot; omega
 have ck:∀ j,0≤j→j<C.C→upd w (C.slot s) v (C.chunk j)=w (C.chunk j):=fun j j0 j1=>upd_ne _ _ (by unfold Cf.chunk; omega)
 have cb:∀ j x,0≤j→j<C.C→0≤x→upd w (C.slot s) v (C.base j+x)=w (C.base j+x):=fun j x j0 j1 x0=>upd_ne _ _ (by have:=base_ge hC j0 j1 x0; omega)
 have cs:∀ r,r≠s→upd w (C.slot s) v (C.slot r)=w (C.slot r):=fun r e=>upd_ne _ _ (by unfold Cf.slot; omega)
 have e0:C.base 0=6+C.T+2*C.S+3*C.C:=by unfold Cf.base; omega
 refine ⟨w64u h.bd hv,fun j j0 j1=>by rw [ck j j0 j1]; exact (h.ck j j0 j1).mono ht,fun j x j0 j1 hs x0 x1 xm hne=>?_,fun r r0 r1 lr=>?_,fun r r0 r1 lr hm=>?_,fun k k0 k1=>by rw [upd_ne _ _ (by omega)]; exact h.op k k0 k1,by rw [upd_ne _ _ (by omega)]; have:=h.ep; omega,fun k k0 k1=>by rw [upd_ne _ _ (by omega)]; exact h.pn k k0 k1,?_⟩
 ·rw [ck j j0 j1] at hs x1 xm; rw [cb j x j0 j1 x0]; exact h.hd j x j0 j1 hs x0 x1 xm hne
 ·rw [cs r fun e=>by rw [e,l] at lr; cases lr]; exact h.dd r r0 r1 lr
 ·by_cases e:r=s
  ·subst e; exact ho hm
  ·obtain ⟨a,u,o⟩:=h.lv r r0 r1 lr (hms r r0 hm e)
   obtain ⟨j,x,p⟩:=o.pl
   have bb:=(p.bd hC hS (h.ck j p.jb.1 p.jb.2).u r0 r1 lr).1
   exact ⟨a,u,o.keep ht (cs r e) (fun k y q=>⟨q.ea,q.jb,by rw [ck k q.jb.1 q.jb.2]; exact q.xb,q.m,by rw [ck k q.jb.1 q.jb.2]; exact q.c,by rw [ck k q.jb.1 q.jb.2]; exact q.st⟩) (by have:=hS.rm r0 r1 lr; omega) fun d d0 d1=>upd_ne _ _ (by omega)⟩
 ·rcases h.pp with q | ⟨r,q1,q2,q3,q4⟩
  ·exact .inl q
  ·have e:r≠s:=fun e=>by subst e; exact hpd q3 q4
   exact .inr ⟨r,q1,q2,hms' r q1.1 q3 e,by rw [cs r e]; exact q4⟩
theorem MW.fin (hC:C.ok) (h:MW C P t ms cp w) (ho:∃ a u,ObR C P t w ms a u) (hh:HdOk C P (w cp) cp):MW C P t (-1) (-1) w:=by
 refine ⟨h.bd,h.ck,fun j x j0 j1 hs x0 x1 xm hne=>?_,h.dd,fun s s0 s1 l hm=>?_,h.op,h.ep,h.pn,?_⟩
 ·by_cases e:C.base j+x=cp
  ·rw [e]; exact hh
  ·exact h.hd j x j0 j1 hs x0 x1 xm e
 ·by_cases e:s=ms
  ·subst e; exact ho
  ·exact h.lv s s0 s1 l e
 ·rcases h.pp with q | ⟨r,q1,q2,q3,q4⟩
  ·exact .inl q
  ·exact .inr ⟨r,q1,q2,by omega,q4⟩
end
end Go.Fl
namespace Go.Fl
open Go
set_option linter.unusedVariables false
set_option linter.unusedSimpArgs false
variable {N:Nm} {A B:Ar} {σ:Mem} {K:Value→Mem→Prop} {C:Cf} {who:Int}
structure Cw (C:Cf) (c:Int) (w w0:Int→Int):Prop where
 o:w (2+c)=w0 (2+c)
 k:∀ j,0≤j→j<C.C→w (C.chunk j)=w0 (C.chunk j)
theorem Cw.refl {c:Int} {w:Int→Int}:Cw C c w w:=⟨rfl,fun _ _ _=>rfl⟩
theorem Cw.trans {c:Int} {w w1 w2:Int→Int} (h:Cw C c w w1) (k:Cw C c w1 w2):Cw C c w w2:=⟨h.o.trans k.o,fun j j0 j1=>(h.k j j0 j1).trans (k.k j j0 j1)⟩
theorem Cw.both {c a v:Int} {w w0:Int→Int} (h:Cw C c w w0):Cw C c (Go.Fl.upd w a v) (Go.Fl.upd w0 a v):=by
 refine ⟨?_,fun j j0 j1=>?_⟩
 ·unfold Go.Fl.upd; split
  ·rfl
  ·exact h.o
 ·unfold Go.Fl.upd; split
  ·rfl
  ·exact h.k j j0 j1
structure Tb (C:Cf) (c:Int) (w0:Int→Int):Prop where
 cb:0≤c∧c≤3
 o:0≤w0 (2+c)∧w0 (2+c)≤C.C
 w:∀ j,0≤j→j<C.C→0≤w0 (C.chunk j)∧w0 (C.chunk j)<18446744073709551616
 n:∀ j,0≤j→j<C.C→chS (w0 (C.chunk j))=0→chN (w0 (C.chunk j))<68719476735
def gdT (C:Cf) (c:Int) (w0:Int→Int):Prop:=1≤w0 (2+c)∧chS (w0 (C.chunk (w0 (2+c) - 1)))=1∧chC (w0 (C.chunk (w0 (2+c) - 1)))=c∧chU (w0 (C.chunk (w0 (2+c) - 1)))+roomOf c≤C.W
def ffT (C:Cf) (w0:Int→Int) (f:Int):Prop:=(0≤f∧f<C.C)∧chS (w0 (C.chunk f))=0∧chN (w0 (C.chunk f))<68719476735∧∀ j,0≤j→j<f→chS (w0 (C.chunk j))≠0
def frT (c n:Int):Int:=putChunk 1 c 0 (n+1)
def t1 (C:Cf) (c f:Int) (w0:Int→Int):Int→Int:=upd w0 (C.chunk f) (frT c (chN (w0 (C.chunk f))))
def t2 (C:Cf) (c f:Int) (w0:Int→Int):Int→Int:=upd (t1 C c f w0) (2+c) (f+1)
def PlG (C:Cf) (c:Int) (w0:Int→Int) (k:Int) (t:Pl) (w:Int→Int):Prop:=
 (t.cls=c∧t.ok=false)∧(
  Cw C c w w0∧(
   t.pc=0∧t=Pl.new c∧k=0 ∨
   t.pc=1∧1≤w0 (2+c)∧t.opn=w0 (2+c)∧t.at'=w0 (2+c) - 1∧(0≤t.w∧t.w<18446744073709551616)∧k=1 ∨
   t.pc=2∧gdT C c w0∧(0≤t.opn∧t.opn<18446744073709551616)∧t.at'=w0 (2+c) - 1∧t.w=w0 (C.chunk t.at')∧k=2 ∨
   ¬ gdT C c w0∧t.opn=w0 (2+c)∧(0≤t.at'∧t.at'<C.C)∧(∀ j,0≤j→j<t.at'→chS (w0 (C.chunk j))≠0)∧k≤3+t.at'∧(t.pc=3∧(0≤t.w∧t.w<18446744073709551616)∨t.pc=4∧ffT C w0 t.at'∧t.w=w0 (C.chunk t.at'))∧(t.pc=3→k≤2+t.at')) ∨
  ¬ gdT C c w0∧∃ f,ffT C w0 f∧(
   t.pc=5∧Cw C c w (t1 C c f w0)∧t.opn=w0 (2+c)∧t.at'=f∧(0≤t.w∧t.w<18446744073709551616)∧k≤5+f ∨
   Cw C c w (t2 C c f w0)∧(t.pc=0∧(0≤t.opn∧t.opn<18446744073709551616)∧(0≤t.at'∧t.at'<C.C)∧(0≤t.w∧t.w<18446744073709551616)∧k≤6+f ∨
    t.pc=1∧(0≤t.opn∧t.opn<18446744073709551616)∧t.at'=f∧(0≤t.w∧t.w<18446744073709551616)∧k≤7+f ∨
    t.pc=2∧(0≤t.opn∧t.opn<18446744073709551616)∧t.at'=f∧t.w=frT c (chN (w0 (C.chunk f)))∧k≤8+f)))
def PlD (C:Cf) (c:Int) (w0:Int→Int) (t:Pl) (w:Int→Int):Prop:=
 t.cls=c∧(
  gdT C c w0∧t.ok=true∧t.sc=w0 (2+c) - 1∧t.sa=C.base t.sc+chU (w0 (C.chunk t.sc))∧Cw C c w (upd w0 (C.chunk t.sc) (putChunk 1 c (chU (w0 (C.chunk t.sc))+roomOf c) (chN (w0 (C.chunk t.sc))))) ∨
  ¬ gdT C c w0∧(∃ f,ffT C w0 f∧t.ok=true∧t.sc=f∧t.sa=C.base f∧Cw C c w (upd (t2 C c f w0) (C.chunk f) (putChunk 1 c (roomOf c) (chN (w0 (C.chunk f))+1)))) ∨
  ¬ gdT C c w0∧t.ok=false∧Cw C c w w0∧∀ j,0≤j→j<C.C→chS (w0 (C.chunk j))≠0)
theorem PlG.new {c:Int} {w:Int→Int}:PlG C c w 0 (Pl.new c) w:=⟨⟨rfl,rfl⟩,.inl ⟨Cw.refl,.inl ⟨rfl,rfl,rfl⟩⟩⟩
theorem PlG.keep {c k:Int} {w0 w w':Int→Int} {t:Pl} (h:PlG C c w0 k t w) (x:Cw C c w' w):PlG C c w0 k t w':=by
 obtain ⟨h1,⟨h2,h3⟩ | ⟨h2,f,h3,⟨h4,h5,h6⟩ | ⟨h4,h5⟩⟩⟩:=h
 ·exact ⟨h1,.inl ⟨x.trans h2,h3⟩⟩
 ·exact ⟨h1,.inr ⟨h2,f,h3,.inl ⟨h4,x.trans h5,h6⟩⟩⟩
 ·exact ⟨h1,.inr ⟨h2,f,h3,.inr ⟨x.trans h4,h5⟩⟩⟩
theorem PlD.keep {c:Int} {w0 w w':Int→Int} {t:Pl} (h:PlD C c w0 t w) (x:Cw C c w' w):PlD C c w0 t w':=by
 obtain ⟨h0,⟨h1,h2,h3,h4,h5⟩ | ⟨h1,f,h2,h3,h4,h5,h6⟩ | ⟨h1,h2,h3,h4⟩⟩:=h
 ·exact ⟨h0,.inl ⟨h1,h2,h3,h4,x.trans h5⟩⟩
 ·exact ⟨h0,.inr (.inl ⟨h1,f,h2,h3,h4,h5,x.trans h6⟩)⟩
 ·exact ⟨h0,.inr (.inr ⟨h1,h2,x.trans h3,h4⟩)⟩
theorem PlG.kle (hC:C.ok) {c k:Int} {w0 w:Int→Int} {t:Pl} (h:PlG C c w0 k t w):k≤8+C.C:=by
 have:=hC.C
 obtain ⟨h1,⟨h2,⟨_,_,h⟩ | ⟨_,_,_,_,_,h⟩ | ⟨_,_,_,_,_,h⟩ | ⟨_,_,h3,_,h,_⟩⟩ | ⟨h2,f,h3,⟨h4,_,_,_,_,h⟩ | ⟨h4,⟨_,_,_,_,h⟩ | ⟨_,_,_,_,h⟩ | ⟨_,_,_,_,h⟩⟩⟩⟩:=h
 ·omega
 ·omega
 ·omega
 ·omega
 all_goals (have:=h3.1; omega)
theorem PlG.fit (hC:C.ok) {c k:Int} {w0 w:Int→Int} {t:Pl} (h:PlG C c w0 k t w) (hT:Tb C c w0):t.fit C∧w (2+t.cls)≤C.C:=by
 have hCC:=hC.C
 have h0:=hT.cb
 have ho:=hT.o
 obtain ⟨⟨hc,_⟩,h⟩:=h
 refine ⟨⟨by rw [hc]; exact h0,?_,?_,?_⟩,?_⟩
 ·rcases h with ⟨h2,⟨_,e,h⟩ | ⟨_,_,e,_,_,h⟩ | ⟨_,_,e,_,_,h⟩ | ⟨_,e,h3,_,h,_⟩⟩ | ⟨h2,f,h3,⟨h4,_,e,_,_,h⟩ | ⟨h4,⟨_,e,_,_,h⟩ | ⟨_,e,_,_,h⟩ | ⟨_,e,_,_,h⟩⟩⟩
  ·rw [e]; exact ⟨Int.le_refl 0,(by decide:(0:Int)<18446744073709551616)⟩
  ·omega
  ·exact e
  ·omega
  ·omega
  ·exact e
  ·exact e
  ·exact e
 ·rcases h with ⟨h2,⟨_,e,h⟩ | ⟨_,_,_,e,_,h⟩ | ⟨_,g,_,e,_,h⟩ | ⟨_,_,e,_,h,_⟩⟩ | ⟨h2,f,h3,⟨h4,_,_,e,_,h⟩ | ⟨h4,⟨_,_,e,_,h⟩ | ⟨_,_,e,_,h⟩ | ⟨_,_,e,_,h⟩⟩⟩
  ·rw [e]; exact ⟨Int.le_refl 0,by show (0:Int)<C.C; omega⟩
  ·omega
  ·have:=g.1; omega
  ·exact e
  ·rw [e]; exact h3.1
  ·exact e
  ·rw [e]; exact h3.1
  ·rw [e]; exact h3.1
 ·rcases h with ⟨h2,⟨_,e,h⟩ | ⟨_,_,_,_,e,h⟩ | ⟨_,g,_,e1,e,h⟩ | ⟨_,_,e1,_,_,⟨_,e⟩ | ⟨_,_,e⟩,_⟩⟩ | ⟨h2,f,h3,⟨h4,_,_,_,e,h⟩ | ⟨h4,⟨_,_,_,e,h⟩ | ⟨_,_,_,e,h⟩ | ⟨_,_,_,e,h⟩⟩⟩
  ·rw [e]; exact ⟨Int.le_refl 0,(by decide:(0:Int)<18446744073709551616)⟩
  ·exact e
  ·rw [e]; exact hT.w _ (by have:=g.1; omega) (by omega)
  ·exact e
  ·rw [e]; exact hT.w _ e1.1 e1.2
  ·exact e
  ·exact e
  ·exact e
  ·rw [e]; exact putChunk_in _ _ _ _
 ·rw [hc]
  rcases h with ⟨h2,_⟩ | ⟨h2,f,h3,⟨_,h4,_⟩ | ⟨h4,_⟩⟩
  ·rw [h2.o]; exact ho.2
  ·rw [h4.o]; unfold t1; rw [upd_ne _ _ (by have:=hC.T; have:=hC.S; have:=h3.1; unfold Cf.chunk; omega)]; exact ho.2
  ·rw [h4.o]; unfold t2; rw [upd_same]; have:=h3.1; omega
def PlA (C:Cf) (c a:Int):Prop:=a=2+c∨∃ j,0≤j∧j<C.C∧a=C.chunk j
structure PlT (C:Cf) (who c:Int) (A A':Ar):Prop where
 ex:∃ a,PlA C c a∧(A'=(A.by who).load a∨∃ v,(0≤v∧v<18446744073709551616)∧A'=(A.by who).store a v)
theorem PlG.step (hC:C.ok) {c k:Int} {w0:Int→Int} {t:Pl} (h:PlG C c w0 k t A.w) (hT:Tb C c w0) :
  PlT C who c A (t.step C who A).2.2∧((t.step C who A).1=false∧PlG C c w0 (k+1) (t.step C who A).2.1 (t.step C who A).2.2.w∨(t.step C who A).1=true∧PlD C c w0 (t.step C who A).2.1 (t.step C who A).2.2.w):=by
 have hCC:=hC.C
 have h0:=hT.cb
 have ho:=hT.o
 have hW:=hC.W
 have hTT:=hC.T
 have hSS:=hC.S
 have hr:=room_bd h0.1 h0.2
 have ne1:∀ j,0≤j→C.chunk j≠2+c:=fun j j0=>by unfold Cf.chunk; omega
 have inj:∀ i j,C.chunk i=C.chunk j→i=j:=fun i j e=>by unfold Cf.chunk at e; omega
 have ld:∀ a,PlA C c a→PlT C who c A ((A.by who).load a):=fun a ha=>⟨a,ha,.inl rfl⟩
 have pk:∀ j,0≤j→j<C.C→PlA C c (C.chunk j):=fun j j0 j1=>.inr ⟨j,j0,j1,rfl⟩
 have po:PlA C c (2+c):=.inl rfl
 have lw:∀ a,((A.by who).load a).w=A.w:=fun _=>rfl
 obtain ⟨⟨hc,hok⟩,h⟩:=h
 rcases h with ⟨h2,⟨p,e,hk⟩ | ⟨p,e1,e2,e3,e4,hk⟩ | ⟨p,g,e1,e2,e3,hk⟩ | ⟨g,e1,e2,e3,hk,hp,hk4⟩⟩ | ⟨g,f,hf,⟨p,h2,e1,e2,e3,hk⟩ | ⟨h2,⟨p,e1,e2,e3,hk⟩ | ⟨p,e1,e2,e3,hk⟩ | ⟨p,e1,e2,e3,hk⟩⟩⟩
 · -- look
  have hw1:IntKind.i64.wrap (A.w (2+t.cls))=A.w (2+t.cls):=IntWalk.i64_in _ (by rw [hc,h2.o]; omega)
  have es:t.step C who A=(false,(if A.w (2+t.cls) - 1<0 then { t with opn:=A.w (2+t.cls),at':=0,pc:=3 } else { t with opn:=A.w (2+t.cls),at':=A.w (2+t.cls) - 1,pc:=1 }),(A.by who).load (2+t.cls)):=by
   unfold Pl.step; rw [if_pos p]; dsimp only; rw [hw1]
  have tw:0≤t.w∧t.w<18446744073709551616:=by rw [e]; exact ⟨Int.le_refl 0,(by decide:(0:Int)<18446744073709551616)⟩
  rw [es,hc]
  refine ⟨ld _ po,.inl ⟨rfl,?_⟩⟩
  rw [h2.o]
  by_cases q:w0 (2+c) - 1<0
  ·rw [if_pos q]
   exact ⟨⟨by first | exact hc | rfl,hok⟩,.inl ⟨h2,.inr (.inr (.inr ⟨fun x=>by have:=x.1; omega,rfl,⟨Int.le_refl 0,by show (0:Int)<C.C; omega⟩,fun j j0 j1=>(by have:j<0:=j1; omega),by show k+1≤3+0; omega,.inl ⟨rfl,tw⟩,fun _=>by show k+1≤2+0; omega⟩))⟩⟩
  ·rw [if_neg q]
   exact ⟨⟨by first | exact hc | rfl,hok⟩,.inl ⟨h2,.inr (.inl ⟨rfl,by omega,rfl,rfl,tw,by omega⟩)⟩⟩
 · -- see
  have hat:0≤t.at'∧t.at'<C.C:=by omega
  have ew:A.w (C.chunk t.at')=w0 (C.chunk t.at'):=h2.k _ hat.1 hat.2
  have es:t.step C who A=(false,(if chS (A.w (C.chunk t.at'))≠1∨chC (A.w (C.chunk t.at'))≠t.cls∨C.W<chU (A.w (C.chunk t.at'))+roomOf t.cls then { t with w:=A.w (C.chunk t.at'),at':=0,pc:=3 } else { t with w:=A.w (C.chunk t.at'),pc:=2 }),(A.by who).load (C.chunk t.at')):=by
   unfold Pl.step; rw [if_neg (by omega),if_pos p]
  have tw:=hT.w _ hat.1 hat.2
  rw [es]
  refine ⟨ld _ (pk _ hat.1 hat.2),.inl ⟨rfl,?_⟩⟩
  rw [ew,hc]
  by_cases q:chS (w0 (C.chunk t.at'))≠1∨chC (w0 (C.chunk t.at'))≠c∨C.W<chU (w0 (C.chunk t.at'))+roomOf c
  ·rw [if_pos q]
   exact ⟨⟨by first | exact hc | rfl,hok⟩,.inl ⟨h2,.inr (.inr (.inr ⟨fun x=>by obtain ⟨_,x1,x2,x3⟩:=x; rw [← e3] at x1 x2 x3; omega,e2,⟨Int.le_refl 0,by show (0:Int)<C.C; omega⟩,fun j j0 j1=>(by have:j<0:=j1; omega),by show k+1≤3+0; omega,.inl ⟨rfl,tw⟩,fun _=>by show k+1≤2+0; omega⟩))⟩⟩
  ·rw [if_neg q]
   exact ⟨⟨by first | exact hc | rfl,hok⟩,.inl ⟨h2,.inr (.inr (.inl ⟨rfl,⟨by omega,by rw [← e3]; omega,by rw [← e3]; omega,by rw [← e3]; omega⟩,by show 0≤t.opn∧t.opn<_; omega,e3,rfl,by omega⟩))⟩⟩
 · -- get
  have hat:0≤t.at'∧t.at'<C.C:=by have:=g.1; omega
  have ew:A.w (C.chunk t.at')=t.w:=by rw [h2.k _ hat.1 hat.2,e3]
  have es:t.step C who A=(true,{ t with pc:=0,sa:=C.base t.at'+chU t.w,sc:=t.at',ok:=true },(A.by who).store (C.chunk t.at') (putChunk (chS t.w) (chC t.w) (chU t.w+roomOf t.cls) (chN t.w))):=by
   unfold Pl.step; rw [if_neg (by omega),if_neg (by omega),if_pos p]
   dsimp only
   rw [if_pos ew,cas_yes (show (A.by who).w _=_ from ew),decide_eq_true ew]
  rw [es]
  refine ⟨⟨_,pk _ hat.1 hat.2,.inr ⟨_,putChunk_in _ _ _ _,rfl⟩⟩,.inr ⟨rfl,hc,.inl ⟨g,rfl,e2,by dsimp only; rw [e3],?_⟩⟩⟩
  obtain ⟨g1,g2,g3,g4⟩:=g
  rw [← e2,← e3] at g2 g3
  dsimp only
  rw [store_w,g2,g3,hc,e3]
  exact h2.both
 ·rcases hp with ⟨p,tw⟩ | ⟨p,hf,e4⟩
  · -- scan
   have ew:A.w (C.chunk t.at')=w0 (C.chunk t.at'):=h2.k _ e2.1 e2.2
   have tw2:=hT.w _ e2.1 e2.2
   by_cases q:chS (A.w (C.chunk t.at'))≠0
   ·have es:t.step C who A=(decide (C.C≤t.at'+1),{ t with w:=A.w (C.chunk t.at'),at':=t.at'+1,pc:=3 },(A.by who).load (C.chunk t.at')):=by
     unfold Pl.step; rw [if_neg (by omega),if_neg (by omega),if_neg (by omega),if_pos p]
     dsimp only
     rw [if_pos q]; rfl
    have all:∀ j,0≤j→j<t.at'+1→chS (w0 (C.chunk j))≠0:=fun j j0 j1=>by
     by_cases ej:j=t.at'
     ·rw [ej,← ew]; exact q
     ·exact e3 j j0 (by omega)
    rw [es]
    refine ⟨ld _ (pk _ e2.1 e2.2),?_⟩
    by_cases q2:C.C≤t.at'+1
    ·exact .inr ⟨decide_eq_true q2,hc,.inr (.inr ⟨g,hok,h2,fun j j0 j1=>all j j0 (by omega)⟩)⟩
    ·exact .inl ⟨decide_eq_false q2,⟨by first | exact hc | rfl,hok⟩,.inl ⟨h2,.inr (.inr (.inr ⟨g,e1,⟨by dsimp only; omega,by dsimp only; omega⟩,all,by dsimp only; omega,.inl ⟨by first | rfl | exact p,by dsimp only; rw [ew]; exact tw2⟩,fun _=>by have:=hk4 p; dsimp only; omega⟩))⟩⟩
   ·have es:t.step C who A=(false,{ t with w:=A.w (C.chunk t.at'),pc:=4 },(A.by who).load (C.chunk t.at')):=by
     unfold Pl.step; rw [if_neg (by omega),if_neg (by omega),if_neg (by omega),if_pos p]
     dsimp only
     rw [if_neg q]
    rw [es]
    have q':chS (w0 (C.chunk t.at'))=0:=by rw [← ew]; omega
    exact ⟨ld _ (pk _ e2.1 e2.2),.inl ⟨rfl,⟨by first | exact hc | rfl,hok⟩,.inl ⟨h2,.inr (.inr (.inr ⟨g,e1,e2,e3,by have:=hk4 p; dsimp only; omega,.inr ⟨rfl,⟨e2,q',hT.n _ e2.1 e2.2 q',e3⟩,ew⟩,fun x=>by have x':(4:Int)=3:=x; omega⟩))⟩⟩⟩
  · -- take
   have ew:A.w (C.chunk t.at')=t.w:=by rw [h2.k _ e2.1 e2.2,e4]
   have es:t.step C who A=(false,{ t with pc:=5 },(A.by who).store (C.chunk t.at') t.fresh):=by
    unfold Pl.step; rw [if_neg (by omega),if_neg (by omega),if_neg (by omega),if_neg (by omega),if_pos p,if_pos ew,cas_yes (show (A.by who).w _=_ from ew)]
   have efr:t.fresh=frT c (chN (w0 (C.chunk t.at'))):=by unfold Pl.fresh frT; rw [hc,e4]
   have tw:=hT.w _ e2.1 e2.2
   rw [es]
   refine ⟨⟨_,pk _ e2.1 e2.2,.inr ⟨_,putChunk_in _ _ _ _,rfl⟩⟩,.inl ⟨rfl,⟨by first | exact hc | rfl,hok⟩,.inr ⟨g,t.at',hf,.inl ⟨rfl,?_,e1,rfl,by show 0≤t.w∧t.w<_; rw [e4]; exact tw,by omega⟩⟩⟩⟩
   dsimp only
   rw [store_w,efr]
   exact h2.both
 · -- open
  have ew:A.w (2+t.cls)=t.opn:=by
   rw [hc,h2.o,e1]; unfold t1; rw [upd_ne _ _ (Ne.symm (ne1 _ hf.1.1))]
  have es:t.step C who A=(false,{ t with pc:=0 },(A.by who).store (2+t.cls) (t.at'+1)):=by
   unfold Pl.step; rw [if_neg (by omega),if_neg (by omega),if_neg (by omega),if_neg (by omega),if_neg (by omega),if_pos p,if_pos ew,cas_yes (show (A.by who).w _=_ from ew)]
  have hf1:=hf.1
  rw [es,hc,e2]
  refine ⟨⟨_,po,.inr ⟨_,by omega,rfl⟩⟩,.inl ⟨rfl,⟨by first | exact hc | rfl,hok⟩,.inr ⟨g,f,hf,.inr ⟨?_,.inl ⟨rfl,by show 0≤t.opn∧t.opn<_; omega,by dsimp only; omega,e3,by omega⟩⟩⟩⟩⟩
  dsimp only
  rw [store_w]
  exact h2.both
 · -- look
  have hf1:=hf.1
  have ew:A.w (2+t.cls)=f+1:=by rw [hc,h2.o]; unfold t2; rw [upd_same]
  have hw1:IntKind.i64.wrap (f+1)=f+1:=IntWalk.i64_in _ (by omega)
  have es:t.step C who A=(false,{ t with opn:=f+1,at':=f,pc:=1 },(A.by who).load (2+t.cls)):=by
   unfold Pl.step; rw [if_pos p]; dsimp only; rw [ew,hw1,if_neg (by omega),show f+1 - 1=f by omega]
  rw [es,hc]
  exact ⟨ld _ po,.inl ⟨rfl,⟨by first | exact hc | rfl,hok⟩,.inr ⟨g,f,hf,.inr ⟨h2,.inr (.inl ⟨rfl,by dsimp only; omega,rfl,e3,by omega⟩)⟩⟩⟩⟩
 · -- see
  have hf1:=hf.1
  have ew:A.w (C.chunk t.at')=frT c (chN (w0 (C.chunk f))):=by
   rw [e2,h2.k _ hf1.1 hf1.2]; unfold t2; rw [upd_ne _ _ (ne1 _ hf1.1)]; unfold t1; rw [upd_same]
  have hN:=chN_bd (w0 (C.chunk f))
  have hf2:=hf.2.2.1
  obtain ⟨z1,z2,z3,z4⟩:=ch_put (st:=1) (c:=c) (us:=0) (sp:=chN (w0 (C.chunk f))+1) (by decide) (by omega) (by decide) (by omega)
  have es:t.step C who A=(false,{ t with w:=frT c (chN (w0 (C.chunk f))),pc:=2 },(A.by who).load (C.chunk t.at')):=by
   unfold Pl.step; rw [if_neg (by omega),if_pos p]
   dsimp only
   rw [ew,if_neg]
   unfold frT; rw [z1,z2,z3,hc]; omega
  rw [es,e2]
  exact ⟨ld _ (pk _ hf1.1 hf1.2),.inl ⟨rfl,⟨by first | exact hc | rfl,hok⟩,.inr ⟨g,f,hf,.inr ⟨h2,.inr (.inr ⟨rfl,e1,by first | exact e2 | rfl,rfl,by omega⟩)⟩⟩⟩⟩
 · -- get
  have hf1:=hf.1
  have ew:A.w (C.chunk t.at')=t.w:=by
   rw [e2,e3,h2.k _ hf1.1 hf1.2]; unfold t2; rw [upd_ne _ _ (ne1 _ hf1.1)]; unfold t1; rw [upd_same]
  have hN:=chN_bd (w0 (C.chunk f))
  have hf2:=hf.2.2.1
  obtain ⟨z1,z2,z3,z4⟩:=ch_put (st:=1) (c:=c) (us:=0) (sp:=chN (w0 (C.chunk f))+1) (by decide) (by omega) (by decide) (by omega)
  have es:t.step C who A=(true,{ t with pc:=0,sa:=C.base t.at'+chU t.w,sc:=t.at',ok:=true },(A.by who).store (C.chunk t.at') (putChunk (chS t.w) (chC t.w) (chU t.w+roomOf t.cls) (chN t.w))):=by
   unfold Pl.step; rw [if_neg (by omega),if_neg (by omega),if_pos p]
   dsimp only
   rw [if_pos ew,cas_yes (show (A.by who).w _=_ from ew),decide_eq_true ew]
  rw [es,e3,e2]
  unfold frT
  rw [z1,z2,z3,z4,hc]
  refine ⟨⟨_,pk _ hf1.1 hf1.2,.inr ⟨_,putChunk_in _ _ _ _,rfl⟩⟩,.inr ⟨rfl,by first | exact hc | rfl,.inr (.inl ⟨g,f,hf,rfl,rfl,by dsimp only; omega,?_⟩)⟩⟩
  dsimp only
  rw [store_w,show 0+roomOf c=roomOf c by omega]
  exact h2.both
end Go.Fl
namespace Go.Fl
open Go
set_option linter.unusedVariables false
set_option linter.unusedSimpArgs false
variable {C:Cf} {w:Int→Int} {P:MP} {A:Ar} {who:Int}
structure Evc (C:Cf) (P:MP) (at' lim cw:Int) (w:Int→Int):Prop where
 ab:0≤at'∧at'<C.C
 ecw:w (C.chunk at')=cw
 c2:chS cw=2
 s2:∀ j,0≤j→j<C.C→chS (w (C.chunk j))=2→j=at'
 ev:∀ r,0≤r→r<C.S→P.lv r=true→∀ x,0≤x→x<lim→slA (w (C.slot r))≠C.base at'+x
theorem Evc.keep {at' lim cw:Int} {w':Int→Int} (h:Evc C P at' lim cw w) (hk:∀ j,0≤j→j<C.C→w' (C.chunk j)=w (C.chunk j)∨j≠at'∧chS (w' (C.chunk j))≠2) (hs:∀ r,0≤r→r<C.S→w' (C.slot r)=w (C.slot r)∨∀ x,0≤x→x<lim→slA (w' (C.slot r))≠C.base at'+x):Evc C P at' lim cw w':=by
 refine ⟨h.ab,?_,h.c2,fun j j0 j1 q=>?_,fun r r0 r1 l x x0 x1=>?_⟩
 ·rcases hk at' h.ab.1 h.ab.2 with q | q
  ·rw [q]; exact h.ecw
  ·exact absurd rfl q.1
 ·rcases hk j j0 j1 with e | e
  ·rw [e] at q; exact h.s2 j j0 j1 q
  ·exact absurd q e.2
 ·rcases hs r r0 r1 with e | e
  ·rw [e]; exact h.ev r r0 r1 l x x0 x1
  ·exact e x x0 x1
structure MvC (C:Cf) (P:MP) (at' pos s:Int) (m:Mv):Prop where
 sb:0≤s∧s<C.S
 l:P.lv s=true
 con:m.a.addr=C.base at'+pos∧m.a.hk=2∧m.a.hz=P.z s∧m.a.hs=s∧m.a.hg=P.g s∧m.a.ho=P.o s
 nn:m.a.nn=0
structure Mv0 (C:Cf) (P:MP) (T at' pos cw q:Int) (m:Mv) (w:Int→Int):Prop where
 em:m=Mv.new (C.base at'+pos) (hdK (w (C.base at'+pos))) (hdS (w (C.base at'+pos))) (hdT (w (C.base at'+pos))) (hdG (w (C.base at'+pos))) (hdO (w (C.base at'+pos)))
 k:hdK (w (C.base at'+pos))=2
 t:0≤hdT (w (C.base at'+pos))∧hdT (w (C.base at'+pos))<C.S
 c:0≤classOf (hdS (w (C.base at'+pos)))
 mw:MW C P (T - q) (-1) (-1) w
 ev:Evc C P at' pos cw w
 x:0≤pos∧pos<C.W
 qb:17+C.C+3*hdS (w (C.base at'+pos))≤q
structure Mv1 (C:Cf) (P:MP) (T at' pos cw s v q:Int) (m:Mv) (w u:Int→Int) (k:Int):Prop where
 pc:m.a.pc=1
 got:m.a.got=false
 mw:MW C P (T - q) (-1) (-1) u
 ob:ObR C P (T - q) u s (C.base at'+pos) v
 pa:Pla C P u s (C.base at'+pos) at' pos
 np:C.base at'+pos≠P.pd
 aw:m.a.w=putSlot 1 (C.base at'+pos) (P.g s) v
 ev:Evc C P at' pos cw u
 off:∀ i,i≠2+classOf (P.z s)→(∀ j,0≤j→j<C.C→i≠C.chunk j)→w i=u i
 pl:PlG C (classOf (P.z s)) u k m.t w
 i:m.a.i=0
 cell:m.a.cell=0
 bd:∀ i,0≤w i∧w i<18446744073709551616
 kb:0≤k∧16+C.C+3*P.z s - k≤q
structure Spot (C:Cf) (P:MP) (at' s sa sc xs:Int) (w:Int→Int):Prop where
 esa:sa=C.base sc+xs
 j:0≤sc∧sc<C.C
 ne:sc≠at'
 x:0≤xs∧xs+P.rm s≤chU (w (C.chunk sc))
 m:xs % P.rm s=0
 c:chC (w (C.chunk sc))=classOf (P.z s)
 st:chS (w (C.chunk sc))=1
 nu:∀ r,0≤r→r<C.S→P.lv r=true→r≠s→slA (w (C.slot r))≠sa
 np:sa≠P.pd
def cpd (C:Cf) (P:MP) (s sa i:Int) (w:Int→Int):Prop:=∀ k,0≤k→k<i→w (sa+1+k)=putCell (P.L s k) false 0
structure Mv2 (C:Cf) (P:MP) (T at' pos cw s v xs q:Int) (m:Mv) (w:Int→Int):Prop where
 got:m.a.got=true
 vb:0≤v∧v≤T - q
 aw:m.a.w=putSlot 1 (C.base at'+pos) (P.g s) v
 ha:w (C.base at'+pos)=putHead 2 (P.z s) s (P.g s) (P.o s)
 pa:Pla C P w s (C.base at'+pos) at' pos
 uW:chU (w (C.chunk at'))≤C.W∧chU (w (C.chunk m.a.sc))≤C.W
 sp:Spot C P at' s m.a.sa m.a.sc xs w
 ev:Evc C P at' pos cw w
 ib:0≤m.a.i∧m.a.i≤P.z s
 cb:0≤m.a.cell∧m.a.cell<18446744073709551616
 ph:(m.a.pc=2∨m.a.pc=3∧w m.a.sa=putHead 1 (P.z s) s (P.g s) (P.o s))∧MW C P (T - q) (-1) m.a.sa w∧ObR C P (T - q) w s (C.base at'+pos) v∧8+3*P.z s - m.a.pc≤q ∨
  w m.a.sa=putHead 1 (P.z s) s (P.g s) (P.o s)∧MW C P (T - q) s m.a.sa w∧(
   w (C.slot s)=putSlot 2 (C.base at'+pos) (P.g s) v∧cpd C P s m.a.sa m.a.i w∧(
    m.a.pc=4∧m.a.i<P.z s∧(∀ k,m.a.i≤k→k<P.z s→w (C.base at'+pos+1+k)=putCell (P.L s k) false 0)∧4+3*(P.z s - m.a.i)≤q ∨
    m.a.pc=5∧m.a.i<P.z s∧(∀ k,m.a.i≤k→k<P.z s→w (C.base at'+pos+1+k)=putCell (P.L s k) false 0)∧m.a.cell=putCell (P.L s m.a.i) false 0∧3+3*(P.z s - m.a.i)≤q ∨
    m.a.pc=6∧m.a.i<P.z s∧(∀ k,m.a.i+1≤k→k<P.z s→w (C.base at'+pos+1+k)=putCell (P.L s k) false 0)∧m.a.cell=putCell (P.L s m.a.i) false 0∧2+3*(P.z s - m.a.i)≤q ∨
    m.a.pc=7∧m.a.i=P.z s∧4≤q) ∨
   m.a.pc=8∧w (C.slot s)=putSlot 1 m.a.sa (P.g s) (v+1)∧cpd C P s m.a.sa (P.z s) w∧3≤q) ∨
  (m.a.pc=9∨m.a.pc=10)∧MW C P (T - q) (-1) (-1) w∧slA (w (C.slot s))=m.a.sa∧11 - m.a.pc≤q
def gone' (C:Cf) (P:MP) (a:Int) (w:Int→Int):Prop:=∀ r,0≤r→r<C.S→P.lv r=true→slA (w (C.slot r))≠a
theorem Mv0.step (hC:C.ok) (hS:MS C P) {T at' pos cw q:Int} {m:Mv} (h:Mv0 C P T at' pos cw q m A.w) (hT:T≤4194000) :
  (m.step C who A).2.2=(A.by who).load (C.slot m.a.hs)∧((m.step C who A).1=true∧(m.step C who A).2.1.a.out=2∧gone' C P (C.base at'+pos) A.w ∨
   (m.step C who A).1=false∧∃ s v,MvC C P at' pos s (m.step C who A).2.1∧Mv1 C P T at' pos cw s v (q - 1) (m.step C who A).2.1 A.w A.w 0):=by
 have hS':=h.mw
 have hq:=h.qb
 have hz:=(class_room' h.c).1
 have hCC:=hC.C
 have ht:T - q≤4194303:=by omega
 have pk:=hS.pk
 have npd:C.base at'+pos≠P.pd∨True:=.inr trivial
 have e0:m.a.pc=0:=by rw [h.em]; rfl
 have eg:m.a.got=false:=by rw [h.em]; rfl
 have es:m.a.hs=hdT (A.w (C.base at'+pos)):=by rw [h.em]; rfl
 have eG:m.a.hg=hdG (A.w (C.base at'+pos)):=by rw [h.em]; rfl
 have ea:m.a.addr=C.base at'+pos:=by rw [h.em]; rfl
 have hs0:0≤m.a.hs∧m.a.hs<C.S:=by rw [es]; exact h.t
 -- who is told live
 have dead:P.lv m.a.hs=false→slS (A.w (C.slot m.a.hs))≠1∧slS (A.w (C.slot m.a.hs))≠4:=fun l=>by
  rw [h.mw.dd _ hs0.1 hs0.2 l]; exact hS.dd _ hs0.1 hs0.2 l
 have live:P.lv m.a.hs=true→∃ a v,ObR C P (T - q) A.w m.a.hs a v∧slS (A.w (C.slot m.a.hs))=1∧slA (A.w (C.slot m.a.hs))=a∧slG (A.w (C.slot m.a.hs))=P.g m.a.hs∧slV (A.w (C.slot m.a.hs))=v:=fun l=>by
  obtain ⟨a,v,o⟩:=h.mw.lv _ hs0.1 hs0.2 l (by omega)
  exact ⟨a,v,o,o.sl hC hS ht h.mw.ck hs0.1 hs0.2 l⟩
 have n4:slS (A.w (C.slot m.a.hs))≠4:=by
  cases l:P.lv m.a.hs with
  | false=>exact (dead l).2
  | true=>obtain ⟨a,v,o,u,_⟩:=live l; omega
 have nv:slS (A.w (C.slot m.a.hs))=1→slV (A.w (C.slot m.a.hs))≤T - q∧P.lv m.a.hs=true:=fun u=>by
  cases l:P.lv m.a.hs with
  | false=>exact absurd u (dead l).1
  | true=>obtain ⟨a,v,o,u1,u2,u3,u4⟩:=live l; have:=o.vb; exact ⟨by omega,rfl⟩
 unfold Mv.step
 rw [if_pos e0,if_neg (fun q=>n4 q.1)]
 by_cases c2:slS (A.w (C.slot m.a.hs))≠1∨slG (A.w (C.slot m.a.hs))≠m.a.hg∨slA (A.w (C.slot m.a.hs))≠m.a.addr
 ·rw [if_pos c2]
  refine ⟨rfl,.inl ⟨by dsimp only; rw [eg]; rfl,rfl,fun r r0 r1 l e=>?_⟩⟩
  obtain ⟨⟨_,_,f3,f4,_⟩,v,o⟩:=h.mw.at' hC hS ht r0 r1 l (by omega) e
  have er:r=m.a.hs:=by rw [es]; exact f3.symm
  subst er
  obtain ⟨a,v,o,u1,u2,u3,u4⟩:=live l
  rcases c2 with c | c | c
  ·exact c u1
  ·exact c (by rw [u3,eG]; exact f4.symm)
  ·exact c (by rw [ea]; exact e)
 ·rw [if_neg c2]
  have b1:slS (A.w (C.slot m.a.hs))=1:=Decidable.byContradiction fun q=>c2 (.inl q)
  have b2:slG (A.w (C.slot m.a.hs))=m.a.hg:=Decidable.byContradiction fun q=>c2 (.inr (.inl q))
  have b3:slA (A.w (C.slot m.a.hs))=m.a.addr:=Decidable.byContradiction fun q=>c2 (.inr (.inr q))
  obtain ⟨nv1,l⟩:=nv b1
  have v3:¬ 4194302≤slV (A.w (C.slot m.a.hs)):=by omega
  rw [if_neg v3,if_neg (by rw [eg]; simp)]
  obtain ⟨⟨f1,f2,f3,f4,f5⟩,v,o⟩:=h.mw.at' hC hS ht hs0.1 hs0.2 l (by omega) (b3.trans ea)
  have np:C.base at'+pos≠P.pd:=fun e=>by rw [if_pos e,h.k] at f1; omega
  obtain ⟨j,x,p⟩:=o.pl
  have pb:=p.bd hC hS (h.mw.ck j p.jb.1 p.jb.2).u hs0.1 hs0.2 l
  have rr:=hS.rm hs0.1 hs0.2 l
  obtain ⟨rfl,rfl⟩:=base_inj hC h.ev.ab.1 h.ev.ab.2 h.x.1 h.x.2 p.jb.1 p.jb.2 p.xb.1 (by omega) p.ea
  refine ⟨rfl,.inr ⟨rfl,m.a.hs,v,⟨hs0,l,⟨ea,by rw [h.em]; exact h.k,?_,rfl,?_,?_⟩,by rw [h.em]; rfl⟩,⟨rfl,eg,h.mw.mono (by omega),?_,p,np,o.sw,h.ev,fun _ _ _=>rfl,?_,by rw [h.em]; rfl,by rw [h.em]; rfl,h.mw.bd,Int.le_refl 0,by rw [← f2]; omega⟩⟩⟩
  ·rw [← f2,h.em]; rfl
  ·rw [← f4,h.em]; rfl
  ·rw [← f5,h.em]; rfl
  ·exact o.keep (by omega) rfl (fun _ _ q=>q) (by omega) fun _ _ _=>rfl
  ·rw [← f2]
   show PlG C _ A.w 0 (Pl.new (classOf m.a.hz)) A.w
   rw [show m.a.hz=hdS (A.w (C.base at'+pos)) by rw [h.em]; rfl]
   exact PlG.new
end Go.Fl
namespace Go.Fl
open Go
set_option linter.unusedVariables false
set_option linter.unusedSimpArgs false
variable {C:Cf} {w:Int→Int} {P:MP} {A:Ar} {who:Int}
theorem Cw.eq {c:Int} {w X u:Int→Int} (h:Cw C c w X) (h1:∀ i,i≠2+c→(∀ j,0≤j→j<C.C→i≠C.chunk j)→w i=u i) (h2:∀ i,i≠2+c→(∀ j,0≤j→j<C.C→i≠C.chunk j)→X i=u i):w=X:=by
 funext i
 by_cases e:i=2+c
 ·rw [e]; exact h.o
 ·by_cases q:∃ j,(0≤j∧j<C.C)∧i=C.chunk j
  ·obtain ⟨j,⟨j0,j1⟩,rfl⟩:=q; exact h.k j j0 j1
  ·have q':∀ j,0≤j→j<C.C→i≠C.chunk j:=fun j j0 j1 e=>q ⟨j,⟨j0,j1⟩,e⟩
   rw [h1 i e q',h2 i e q']
theorem MW.tb (hC:C.ok) {t ms cp c:Int} (h:MW C P t ms cp w) (ht:t≤4194303) (hc:0≤c∧c≤3):Tb C c w:=
 ⟨hc,h.op c hc.1 hc.2,fun j j0 j1=>h.bd _,fun j j0 j1 _=>by have:=(h.ck j j0 j1).n; omega⟩
theorem MW.get1 (hC:C.ok) (hS:MS C P) {t t' c j:Int} (h:MW C P t (-1) (-1) w) (ht:t≤t') (h4:t'≤4194303) (hc:0≤c∧c≤3) (j0:0≤j) (j1:j<C.C) (h1:chS (w (C.chunk j))=1) (h2:chC (w (C.chunk j))=c) (h3:chU (w (C.chunk j))+roomOf c≤C.W) :
  MW C P t' (-1) (C.base j+chU (w (C.chunk j))) (upd w (C.chunk j) (putChunk 1 c (chU (w (C.chunk j))+roomOf c) (chN (w (C.chunk j))))):=by
 have r:=room_bd hc.1 hc.2
 have k:=h.ck j j0 j1
 have u:=chU_bd (w (C.chunk j))
 have n:=chN_bd (w (C.chunk j))
 have hW:=hC.W
 obtain ⟨v1,v2,v3,v4⟩:=ch_put (st:=1) (c:=c) (us:=chU (w (C.chunk j))+roomOf c) (sp:=chN (w (C.chunk j))) (by decide) (by omega) (by omega) n
 have km:=k.m
 rw [h2] at km
 have kn:=k.n
 refine h.chunk hC hS ht j0 j1 (putChunk_in _ _ _ _) ⟨by rw [v2]; exact hc.2,by rw [v3]; exact h3,by rw [v3,v2,Int.add_emod_right]; exact km,by rw [v4]; omega,fun q=>by rw [v1] at q; omega⟩ (.inr rfl) (fun _ x x0 x1 xm hne=>?_) (fun s a x s0 s1 l _ e p=>?_) (by omega)
 ·rw [v3] at x1
  rw [v2] at xm
  by_cases q:x<chU (w (C.chunk j))
  ·exact h.hd j x j0 j1 (.inl h1) x0 q (by rw [h2]; exact xm) (by have:=base_ge hC j0 j1 x0; have:=hC.T; have:=hC.S; have:=hC.C; omega)
  ·exfalso
   refine hne ?_
   have e1:(x - chU (w (C.chunk j))) % roomOf c=0:=by rw [Int.sub_emod,xm,km]; rfl
   rw [Int.emod_eq_of_lt (by omega) (by omega)] at e1
   omega
 ·rw [v1,v2,v3]; exact ⟨.inl rfl,h2.symm,by omega⟩
theorem MW.get2 (hC:C.ok) (hS:MS C P) {t t' c f:Int} (h:MW C P t (-1) (-1) w) (ht:t+1≤t') (h4:t'≤4194303) (hc:0≤c∧c≤3) (j0:0≤f) (j1:f<C.C) (h1:chS (w (C.chunk f))=0) :
  MW C P t' (-1) (C.base f) (upd (t2 C c f w) (C.chunk f) (putChunk 1 c (roomOf c) (chN (w (C.chunk f))+1))):=by
 have r:=room_bd hc.1 hc.2
 have n:=(h.ck f j0 j1).n
 have n0:=chN_bd (w (C.chunk f))
 have hW:=hC.W; have hCC:=hC.C
 obtain ⟨a1,a2,a3,a4⟩:=ch_put (st:=1) (c:=c) (us:=0) (sp:=chN (w (C.chunk f))+1) (by decide) (by omega) (by omega) (by omega)
 obtain ⟨v1,v2,v3,v4⟩:=ch_put (st:=1) (c:=c) (us:=roomOf c) (sp:=chN (w (C.chunk f))+1) (by decide) (by omega) (by omega) (by omega)
 have g1:MW C P t' (-1) (-1) (t1 C c f w):=h.chunk hC hS (by omega) j0 j1 (putChunk_in _ _ _ _) ⟨by unfold frT; rw [a2]; exact hc.2,by unfold frT; rw [a3]; omega,by unfold frT; rw [a3,Int.zero_emod],by unfold frT; rw [a4]; omega,fun q=>by unfold frT at q; rw [a1] at q; omega⟩ (.inl rfl)
  (fun _ x x0 x1=>by unfold frT at x1; rw [a3] at x1; omega) (fun s a x s0 s1 l _ e p=>by have:=p.st; omega) (by omega)
 have g2:MW C P t' (-1) (-1) (t2 C c f w):=g1.low hC hS (Int.le_refl _) (by omega) (.inr (.inr ⟨c,hc.1,hc.2,rfl,by omega⟩))
 have ef:t2 C c f w (C.chunk f)=frT c (chN (w (C.chunk f))):=by unfold t2 t1; rw [upd_ne _ _ (by have:=hC.T; have:=hC.S; unfold Cf.chunk; omega),upd_same]
 refine g2.chunk hC hS (Int.le_refl _) j0 j1 (putChunk_in _ _ _ _) ⟨by rw [v2]; exact hc.2,by rw [v3]; omega,by rw [v3,v2,Int.emod_self],by rw [v4]; omega,fun q=>by rw [v1] at q; omega⟩ (.inr rfl) (fun _ x x0 x1 xm hne=>?_) (fun s a x s0 s1 l _ e p=>?_) h4
 ·rw [v3] at x1
  rw [v2] at xm
  rw [Int.emod_eq_of_lt x0 x1] at xm
  rw [xm,Int.add_zero] at hne
  exact absurd rfl hne
 ·have:=hS.rm s0 s1 l
  have px:=p.xb
  rw [ef] at px
  unfold frT at px
  rw [a3] at px
  omega
structure Rl (C:Cf) (c s at' sc:Int) (u w:Int→Int):Prop where
 ck:∀ j,0≤j→j<C.C→j≠sc→w (C.chunk j)=u (C.chunk j)
 us:chS (u (C.chunk sc))=0∨chS (u (C.chunk sc))=1
 c1:∀ j,0≤j→j<C.C→j≠sc→j≠at'→w (C.chunk j+1)=u (C.chunk j+1)
 c2:∀ j,0≤j→j<C.C→w (C.chunk j+2)=u (C.chunk j+2)
 o:∀ k,0≤k→k≤3→k≠c→w (2+k)=u (2+k)
 oc:w (2+c)=sc+1
 e:w 0=u 0
 sl:∀ r,0≤r→r<C.S→r≠s→w (C.slot r)=u (C.slot r)
theorem Mv1.step (hC:C.ok) (hS:MS C P) {T at' pos cw s v q k:Int} {m:Mv} {u:Int→Int} (hc:MvC C P at' pos s m) (h:Mv1 C P T at' pos cw s v q m A.w u k) (hT:T≤4194000) (hq:1≤q) :
  PlT C who (classOf (P.z s)) A (m.step C who A).2.2∧((m.step C who A).1=false∧MvC C P at' pos s (m.step C who A).2.1∧((∃ k',Mv1 C P T at' pos cw s v (q - 1) (m.step C who A).2.1 (m.step C who A).2.2.w u k')∨∃ xs,Mv2 C P T at' pos cw s v xs (q - 1) (m.step C who A).2.1 (m.step C who A).2.2.w∧Rl C (classOf (P.z s)) s at' (m.step C who A).2.1.a.sc u (m.step C who A).2.2.w) ∨
   (m.step C who A).1=true∧(m.step C who A).2.1.a.out=4∧(m.step C who A).2.2.w=u∧∀ j,0≤j→j<C.C→chS (u (C.chunk j))≠0):=by
 have rr:=hS.rm hc.sb.1 hc.sb.2 hc.l
 have hcl:0≤classOf (P.z s)∧classOf (P.z s)≤3:=⟨(hS.lv s hc.sb.1 hc.sb.2 hc.l).1,(class_bd _).2⟩
 have tb:=h.mw.tb hC (c:=classOf (P.z s)) (by omega) hcl
 have hk:=h.kb
 have kle:=h.pl.kle hC
 obtain ⟨tt,hres⟩:=h.pl.step (who:=who) hC tb
 have pcs:m.a.pc=1:=h.pc
 have got:=h.got
 -- the other words
 have off':∀ i,i≠2+classOf (P.z s)→(∀ j,0≤j→j<C.C→i≠C.chunk j)→(m.t.step C who A).2.2.w i=u i:=fun i i0 i1=>by
  obtain ⟨a,ha,e | ⟨y,_,e⟩⟩:=tt.ex
  ·rw [e]; exact h.off i i0 i1
  ·rw [e,store_w,upd_ne _ _ ?_]
   ·exact h.off i i0 i1
   ·rcases ha with rfl | ⟨j,j0,j1,rfl⟩
    ·exact i0
    ·exact i1 j j0 j1
 have bd':∀ i,0≤(m.t.step C who A).2.2.w i∧(m.t.step C who A).2.2.w i<18446744073709551616:=by
  obtain ⟨a,ha,e | ⟨y,yb,e⟩⟩:=tt.ex
  ·rw [e]; exact h.bd
  ·rw [e]; exact w64u h.bd yb
 have es:m.step C who A=if (m.t.step C who A).1=false then (false,{ m with t:=(m.t.step C who A).2.1 },(m.t.step C who A).2.2)
  else if (m.t.step C who A).2.1.ok=true then (false,⟨{ m.a with sa:=(m.t.step C who A).2.1.sa,sc:=(m.t.step C who A).2.1.sc,got:=true,pc:=2 },(m.t.step C who A).2.1⟩,(m.t.step C who A).2.2)
  else (true,⟨({ m.a with sa:=0,sc:=0,got:=false,pc:=2 }:Mo).endm 4,(m.t.step C who A).2.1⟩,(m.t.step C who A).2.2):=by
  unfold Mv.step; rw [if_neg (by omega),if_pos pcs]
 rw [es]
 rcases hres with ⟨b,hg⟩ | ⟨b,hd⟩
 ·rw [if_pos b]
  refine ⟨tt,.inl ⟨rfl,⟨hc.sb,hc.l,hc.con,hc.nn⟩,.inl ⟨k+1,pcs,got,h.mw.mono (by omega),?_,h.pa,h.np,h.aw,h.ev,off',hg,h.i,h.cell,bd',by omega⟩⟩⟩
  exact h.ob.keep (by omega) rfl (fun _ _ q=>q) (by omega) fun _ _ _=>rfl
 ·have b':¬ (m.t.step C who A).1=false:=by rw [b]; simp
  rw [if_neg b']
  have hT3:=hC.T; have hS3:=hC.S; have hC3:=hC.C
  have lowc:∀ j,0≤j→C.chunk j≠2+classOf (P.z s):=fun j j0=>by unfold Cf.chunk; omega
  have at0:=h.ev.ab
  have c2:chS (u (C.chunk at'))=2:=by rw [h.ev.ecw]; exact h.ev.c2
  have pax:=h.pa.xb
  have ukat:=(h.mw.ck at' at0.1 at0.2).u
  have pb:=h.pa.bd hC hS ukat hc.sb.1 hc.sb.2 hc.l
  have e0:C.base 0=6+C.T+2*C.S+3*C.C:=by unfold Cf.base; omega
  -- who has words has a place of its own
  have fin:∀ (j xs:Int) (X:Int→Int),(0≤j∧j<C.C)→chS (u (C.chunk j))≠2→(0≤xs∧xs<C.W)→(m.t.step C who A).2.1.sa=C.base j+xs→(m.t.step C who A).2.1.sc=j→(m.t.step C who A).2.2.w=X→(∀ i,i≠2+classOf (P.z s)→i≠C.chunk j→X i=u i) →
    MW C P (T - (q - 1)) (-1) (C.base j+xs) X→xs+P.rm s≤chU (X (C.chunk j))→xs % P.rm s=0→chC (X (C.chunk j))=classOf (P.z s)→chS (X (C.chunk j))=1→(chS (u (C.chunk j))=0∨chU (u (C.chunk j))≤xs) →
    Mv2 C P T at' pos cw s v xs (q - 1) ⟨{ m.a with sa:=(m.t.step C who A).2.1.sa,sc:=(m.t.step C who A).2.1.sc,got:=true,pc:=2 },(m.t.step C who A).2.1⟩ (m.t.step C who A).2.2.w:=by
   intro j xs X hj hj2 hxs esa esc eX eo hmw x1 x2 x3 x4 x5
   rw [esa,esc,eX]
   have ne:j≠at':=fun e=>hj2 (by rw [e]; exact c2)
   have xs_:∀ r,0≤r→r<C.S→X (C.slot r)=u (C.slot r):=fun r r0 r1=>eo _ (by unfold Cf.slot; omega) (by unfold Cf.slot Cf.chunk; omega)
   have xc:∀ i,i≠j→0≤i→X (C.chunk i)=u (C.chunk i):=fun i e i0=>eo _ (lowc i i0) (ck_ne e).1
   have xb:∀ i y,0≤i→i<C.C→0≤y→X (C.base i+y)=u (C.base i+y):=fun i y i0 i1 y0=>eo _ (by have:=base_ge hC i0 i1 y0; omega) (by have:=base_ge hC i0 i1 y0; have:=ck_lt hC hj.1 hj.2; omega)
   have xa:∀ d,0≤d→X (C.base at'+pos+d)=u (C.base at'+pos+d):=fun d d0=>by rw [Int.add_assoc]; exact xb _ _ at0.1 at0.2 (by omega)
   have nu':∀ r,0≤r→r<C.S→P.lv r=true→slA (u (C.slot r))≠C.base j+xs:=fun r r0 r1 l e=>by
    obtain ⟨_,v',o⟩:=h.mw.at' hC hS (by omega) r0 r1 l (by omega) e
    obtain ⟨j',x',p⟩:=o.pl
    have px:=p.xb
    have pu:=(h.mw.ck j' p.jb.1 p.jb.2).u
    have prm:=hS.rm r0 r1 l
    obtain ⟨e1,e2⟩:=base_inj hC hj.1 hj.2 hxs.1 hxs.2 p.jb.1 p.jb.2 px.1 (by omega) p.ea
    subst e1
    rcases x5 with q | q
    ·have:=p.st; omega
    ·omega
   refine ⟨rfl,by have:=h.ob.vb; omega,h.aw,?_,⟨rfl,at0,?_,h.pa.m,?_,?_⟩,?_,⟨rfl,hj,ne,⟨hxs.1,x1⟩,x2,x3,x4,fun r r0 r1 l _=>by rw [xs_ r r0 r1]; exact nu' r r0 r1 l,?_⟩,?_,?_,?_,.inl ⟨.inl rfl,hmw,?_,by show 8+3*P.z s - 2≤q - 1; omega⟩⟩
   ·have:=xa 0 (Int.le_refl 0)
    rw [Int.add_zero] at this
    rw [this,h.ob.hd]; unfold MP.hw; rw [if_neg h.np]
   ·rw [xc at' (Ne.symm ne) at0.1]; exact pax
   ·rw [xc at' (Ne.symm ne) at0.1]; exact h.pa.c
   ·rw [xc at' (Ne.symm ne) at0.1]; exact h.pa.st
   ·exact ⟨(hmw.ck at' at0.1 at0.2).u,(hmw.ck j hj.1 hj.2).u⟩
   ·intro e
    rcases h.mw.pp with q | ⟨r,q1,q2,q3,q4⟩
    ·have e':C.base j+xs=P.pd:=e
     have:=base_ge hC hj.1 hj.2 hxs.1; omega
    ·exact nu' r q1.1 q1.2 q2 (by rw [q4]; exact e.symm)
   ·refine h.ev.keep (fun i i0 i1=>?_) fun r r0 r1=>.inl (xs_ r r0 r1)
    by_cases e:i=j
    ·exact .inr ⟨by rw [e]; exact ne,by rw [e,x4]; decide⟩
    ·exact .inl (xc i e i0)
   ·show 0≤m.a.i∧m.a.i≤P.z s
    rw [h.i]; omega
   ·show 0≤m.a.cell∧m.a.cell<_
    rw [h.cell]; decide
   ·refine h.ob.keep (by omega) (xs_ s hc.sb.1 hc.sb.2) (fun i y p=>?_) (by omega) fun d d0 _=>xa d d0
    have pe:=p.xb
    have pu:=(h.mw.ck i p.jb.1 p.jb.2).u
    obtain ⟨e1,e2⟩:=base_inj hC at0.1 at0.2 pax.1 (by omega) p.jb.1 p.jb.2 pe.1 (by omega) p.ea
    have ei:i≠j:=by omega
    exact ⟨p.ea,p.jb,by rw [xc i ei p.jb.1]; exact p.xb,p.m,by rw [xc i ei p.jb.1]; exact p.c,by rw [xc i ei p.jb.1]; exact p.st⟩
  have rel:∀ (j:Int) (X:Int→Int),(0≤j∧j<C.C)→(chS (u (C.chunk j))=0∨chS (u (C.chunk j))=1)→(m.t.step C who A).2.1.sc=j→(m.t.step C who A).2.2.w=X→(∀ i,i≠2+classOf (P.z s)→i≠C.chunk j→X i=u i)→X (2+classOf (P.z s))=j+1→Rl C (classOf (P.z s)) s at' (m.t.step C who A).2.1.sc u (m.t.step C who A).2.2.w:=by
   intro j X hj hus esc eX eo ho
   rw [esc,eX]
   exact ⟨fun i i0 i1 e=>eo _ (lowc i i0) (ck_ne e).1,hus,fun i i0 i1 e _=>eo _ (by unfold Cf.chunk; omega) (by unfold Cf.chunk; omega),fun i i0 i1=>eo _ (by unfold Cf.chunk; omega) (by unfold Cf.chunk; omega),fun k k0 k1 e=>eo _ (by omega) (by unfold Cf.chunk; omega),ho,eo _ (by omega) (by have:=ck_lt hC hj.1 hj.2; omega),fun r r0 r1 _=>eo _ (by unfold Cf.slot; omega) (by unfold Cf.slot Cf.chunk; omega)⟩
  obtain ⟨_,⟨g,ok,e1,e2,e3⟩ | ⟨g,f,hf,ok,e1,e2,e3⟩ | ⟨g,ok,e1,e2⟩⟩:=hd
  ·rw [if_pos ok]
   have g1:0≤(m.t.step C who A).2.1.sc∧(m.t.step C who A).2.1.sc<C.C:=by have:=h.mw.op _ hcl.1 hcl.2; have:=g.1; omega
   obtain ⟨_,g2,g3,g4⟩:=g
   rw [← e1] at g2 g3 g4
   have kk:=h.mw.ck _ g1.1 g1.2
   have km:=kk.m
   rw [g3] at km
   have ub:=chU_bd (u (C.chunk (m.t.step C who A).2.1.sc))
   have hX:=e3.eq off' (fun i i0 i1=>upd_ne _ _ (i1 _ g1.1 g1.2))
   have hm:=h.mw.get1 (t':=T - (q - 1)) hC hS (by omega) (by omega) hcl g1.1 g1.2 g2 g3 g4
   obtain ⟨v1,v2,v3,_⟩:=ch_put (st:=1) (c:=classOf (P.z s)) (us:=chU (u (C.chunk (m.t.step C who A).2.1.sc))+roomOf (classOf (P.z s))) (sp:=chN (u (C.chunk (m.t.step C who A).2.1.sc))) (by decide) (by omega) (by have:=room_bd hcl.1 hcl.2; have:=hS.cc; omega) (chN_bd _)
   refine ⟨tt,.inl ⟨rfl,⟨hc.sb,hc.l,hc.con,hc.nn⟩,.inr ⟨_,fin _ _ _ g1 (by rw [g2]; decide) ⟨ub.1,by have:=rr.1; unfold MP.rm at this; omega⟩ e2 rfl hX (fun i i0 i1=>upd_ne _ _ i1) hm ?_ km ?_ ?_ (.inr (Int.le_refl _)),rel _ _ g1 (.inr g2) rfl hX (fun i i0 i1=>upd_ne _ _ i1) (by rw [upd_ne _ _ (Ne.symm (lowc _ g1.1))]; omega)⟩⟩⟩
   ·rw [upd_same,v3]; exact Int.le_refl _
   ·rw [upd_same,v2]
   ·rw [upd_same,v1]
  ·rw [if_pos ok]
   obtain ⟨f1,f2,f3,f4⟩:=hf
   have hX:=e3.eq off' (fun i i0 i1=>by rw [upd_ne _ _ (i1 _ f1.1 f1.2)]; unfold t2 t1; rw [upd_ne _ _ i0,upd_ne _ _ (i1 _ f1.1 f1.2)])
   have hm:=h.mw.get2 (t':=T - (q - 1)) hC hS (by omega) (by omega) hcl f1.1 f1.2 f2
   obtain ⟨v1,v2,v3,_⟩:=ch_put (st:=1) (c:=classOf (P.z s)) (us:=roomOf (classOf (P.z s))) (sp:=chN (u (C.chunk f))+1) (by decide) (by omega) (by have:=room_bd hcl.1 hcl.2; omega) (by have:=(h.mw.ck f f1.1 f1.2).n; have:=chN_bd (u (C.chunk f)); omega)
   refine ⟨tt,.inl ⟨rfl,⟨hc.sb,hc.l,hc.con,hc.nn⟩,.inr ⟨0,fin f 0 _ f1 (by rw [f2]; decide) ⟨Int.le_refl 0,by have:=hC.W; omega⟩ (by rw [Int.add_zero]; exact e2) e1 hX (fun i i0 i1=>by rw [upd_ne _ _ i1]; unfold t2 t1; rw [upd_ne _ _ i0,upd_ne _ _ i1]) (by rw [Int.add_zero]; exact hm) ?_ (Int.zero_emod _) ?_ ?_ (.inl f2),rel f _ f1 (.inl f2) e1 hX (fun i i0 i1=>by rw [upd_ne _ _ i1]; unfold t2 t1; rw [upd_ne _ _ i0,upd_ne _ _ i1]) (by rw [upd_ne _ _ (Ne.symm (lowc _ f1.1))]; unfold t2; rw [upd_same])⟩⟩⟩
   ·rw [upd_same,v3]; unfold MP.rm; omega
   ·rw [upd_same,v2]
   ·rw [upd_same,v1]
  ·have ok':¬ (m.t.step C who A).2.1.ok=true:=by rw [ok]; simp
   rw [if_neg ok']
   exact ⟨tt,.inr ⟨rfl,rfl,e1.eq off' fun _ _ _=>rfl,e2⟩⟩
end Go.Fl
namespace Go.Fl
open Go
set_option linter.unusedVariables false
set_option linter.unusedSimpArgs false
variable {C:Cf} {w:Int→Int} {P:MP} {A:Ar} {who:Int}
theorem mod_off {p d r:Int} (h:p % r=0) (h0:0<d) (h1:d<r):(p+d) % r≠0:=by
 rw [Int.add_emod,h,Int.zero_add,Int.emod_emod,Int.emod_eq_of_lt (by omega) h1]; omega
section
variable {T at' pos cw s v xs q:Int} {m:Mv}
theorem Pla.off (hC:C.ok) (hS:MS C P) {r j b x y:Int} (s0:0≤s∧s<C.S) (sl:P.lv s=true) (r0:0≤r) (r1:r<C.S) (l:P.lv r=true) (p:Pla C P w r b j x) (hc:chC (w (C.chunk j))=classOf (P.z s)) (hm:y % P.rm s=0) (hne:b≠C.base j+y) {d:Int} (hd:0≤d∧d<P.rm s):¬ (x≤y+d∧y+d≤x+P.z r):=fun ⟨h1,h2⟩=>by
 have rs:=hS.rm s0.1 s0.2 sl
 have rr:=hS.rm r0 r1 l
 have e:P.rm s=P.rm r:=by unfold MP.rm; rw [← hc,p.c]
 have:=p.apart (k:=y+d - x) rr.2.2 rr.1.1 e hm hd (by omega) (by omega)
 subst this
 exact hne p.ea
theorem Mv2.geo (hC:C.ok) (hS:MS C P) (hc:MvC C P at' pos s m) (h:Mv2 C P T at' pos cw s v xs q m w):((3≤P.rm s∧P.rm s≤17)∧(1≤P.z s∧P.z s≤16)∧P.z s+1≤P.rm s)∧(0≤pos∧pos+P.rm s≤C.W)∧(0≤xs∧xs+P.rm s≤C.W)∧(C.base 0≤C.base at'+pos∧C.base at'+pos≤1048575)∧(C.base 0≤m.a.sa∧m.a.sa≤1048575)∧(0≤P.g s∧P.g s≤65535)∧(0≤s∧s≤65535)∧(∀ x y,0≤x→x<C.W→0≤y→y<C.W→C.base at'+x≠C.base m.a.sc+y):=by
 have rr:=hS.rm hc.sb.1 hc.sb.2 hc.l
 have px:=h.pa.xb
 have sx:=h.sp.x
 have u:=h.uW
 have b1:=base_of hC h.ev.ab.1 h.ev.ab.2 px.1 (by omega)
 have b2:=base_of hC h.sp.j.1 h.sp.j.2 sx.1 (by omega)
 have l:=len_bd hC
 have g1:=base_ge hC h.ev.ab.1 h.ev.ab.2 px.1
 have g2:=base_ge hC h.sp.j.1 h.sp.j.2 sx.1
 have e0:C.base 0=6+C.T+2*C.S+3*C.C:=by unfold Cf.base; omega
 have hs:=h.sp.esa
 have hSS:=hC.S
 have hcs:=hc.sb
 refine ⟨rr,⟨px.1,by omega⟩,⟨sx.1,by omega⟩,⟨by omega,by omega⟩,⟨by omega,by omega⟩,(hS.lv s hc.sb.1 hc.sb.2 hc.l).2.1,⟨hcs.1,by omega⟩,fun x y x0 x1 y0 y1 e=>h.sp.ne (base_inj hC h.ev.ab.1 h.ev.ab.2 x0 x1 h.sp.j.1 h.sp.j.2 y0 y1 e).1.symm⟩
theorem Spot.keep {sa sc:Int} {w':Int→Int} (h:Spot C P at' s sa sc xs w) (hk:w' (C.chunk sc)=w (C.chunk sc)) (hs:∀ r,0≤r→r<C.S→r≠s→w' (C.slot r)=w (C.slot r)):Spot C P at' s sa sc xs w':=
 ⟨h.esa,h.j,h.ne,by rw [hk]; exact h.x,h.m,by rw [hk]; exact h.c,by rw [hk]; exact h.st,fun r r0 r1 l ne=>by rw [hs r r0 r1 ne]; exact h.nu r r0 r1 l ne,h.np⟩
theorem Pla.keep {a j x:Int} {w':Int→Int} (h:Pla C P w s a j x) (hk:w' (C.chunk j)=w (C.chunk j)):Pla C P w' s a j x:=
 ⟨h.ea,h.jb,by rw [hk]; exact h.xb,h.m,by rw [hk]; exact h.c,by rw [hk]; exact h.st⟩
theorem Mv2.next (h:Mv2 C P T at' pos cw s v xs q m w) {m':Mv} {w':Int→Int} (e:m'.a.got=m.a.got∧m'.a.sa=m.a.sa∧m'.a.sc=m.a.sc∧m'.a.w=m.a.w) (hi:0≤m'.a.i∧m'.a.i≤P.z s) (hb:0≤m'.a.cell∧m'.a.cell<18446744073709551616)
  (hk:∀ j,0≤j→j<C.C→w' (C.chunk j)=w (C.chunk j)) (hs:∀ r,0≤r→r<C.S→r≠s→w' (C.slot r)=w (C.slot r)) (hss:w' (C.slot s)=w (C.slot s)∨∀ x,0≤x→x<pos→slA (w' (C.slot s))≠C.base at'+x) (ha:w' (C.base at'+pos)=w (C.base at'+pos))
  (ph:(m'.a.pc=2∨m'.a.pc=3∧w' m.a.sa=putHead 1 (P.z s) s (P.g s) (P.o s))∧MW C P (T - (q - 1)) (-1) m.a.sa w'∧ObR C P (T - (q - 1)) w' s (C.base at'+pos) v∧8+3*P.z s - m'.a.pc≤q - 1 ∨
  w' m.a.sa=putHead 1 (P.z s) s (P.g s) (P.o s)∧MW C P (T - (q - 1)) s m.a.sa w'∧(
   w' (C.slot s)=putSlot 2 (C.base at'+pos) (P.g s) v∧cpd C P s m.a.sa m'.a.i w'∧(
    m'.a.pc=4∧m'.a.i<P.z s∧(∀ k,m'.a.i≤k→k<P.z s→w' (C.base at'+pos+1+k)=putCell (P.L s k) false 0)∧4+3*(P.z s - m'.a.i)≤q - 1 ∨
    m'.a.pc=5∧m'.a.i<P.z s∧(∀ k,m'.a.i≤k→k<P.z s→w' (C.base at'+pos+1+k)=putCell (P.L s k) false 0)∧m'.a.cell=putCell (P.L s m'.a.i) false 0∧3+3*(P.z s - m'.a.i)≤q - 1 ∨
    m'.a.pc=6∧m'.a.i<P.z s∧(∀ k,m'.a.i+1≤k→k<P.z s→w' (C.base at'+pos+1+k)=putCell (P.L s k) false 0)∧m'.a.cell=putCell (P.L s m'.a.i) false 0∧2+3*(P.z s - m'.a.i)≤q - 1 ∨
    m'.a.pc=7∧m'.a.i=P.z s∧4≤q - 1) ∨
   m'.a.pc=8∧w' (C.slot s)=putSlot 1 m.a.sa (P.g s) (v+1)∧cpd C P s m.a.sa (P.z s) w'∧3≤q - 1) ∨
  (m'.a.pc=9∨m'.a.pc=10)∧MW C P (T - (q - 1)) (-1) (-1) w'∧slA (w' (C.slot s))=m.a.sa∧11 - m'.a.pc≤q - 1):Mv2 C P T at' pos cw s v xs (q - 1) m' w':=by
 obtain ⟨e1,e2,e3,e4⟩:=e
 refine ⟨by rw [e1]; exact h.got,by have:=h.vb; omega,by rw [e4]; exact h.aw,by rw [ha]; exact h.ha,h.pa.keep (hk _ h.ev.ab.1 h.ev.ab.2),?_,?_,?_,hi,hb,?_⟩
 ·rw [e3,hk _ h.ev.ab.1 h.ev.ab.2,hk _ h.sp.j.1 h.sp.j.2]; exact h.uW
 ·rw [e2,e3]; exact h.sp.keep (hk _ h.sp.j.1 h.sp.j.2) hs
 ·refine h.ev.keep (fun j j0 j1=>.inl (hk j j0 j1)) fun r r0 r1=>?_
  by_cases e:r=s
  ·subst e; exact hss
  ·exact .inl (hs r r0 r1 e)
 ·rw [e2]; exact ph
def Mv2R (C:Cf) (P:MP) (T at' pos cw s v xs q:Int) (R:Bool × Mv × Ar):Prop:=
 R.1=false∧MvC C P at' pos s R.2.1∧Mv2 C P T at' pos cw s v xs (q - 1) R.2.1 R.2.2.w∨R.1=true∧R.2.1.a.out=1∧MW C P (T - (q - 1)) (-1) (-1) R.2.2.w∧Evc C P at' pos cw R.2.2.w∧gone' C P (C.base at'+pos) R.2.2.w∧slA (R.2.2.w (C.slot s))=R.2.1.a.sa
theorem Mv2.step2 (hC:C.ok) (hS:MS C P) (hc:MvC C P at' pos s m) (h:Mv2 C P T at' pos cw s v xs q m A.w) (hT:T≤4194000) (hq:1≤q) (hp:m.a.pc=2):Mv2R C P T at' pos cw s v xs q (m.step C who A):=by
 obtain ⟨rr,gp,gx,ga,gs,gg,gS,gne⟩:=h.geo hC hS hc
 have hCC:=hC.C; have hTT:=hC.T; have hcsb:=hc.sb
 obtain ⟨c1,c2,c3,c4,c5,c6⟩:=hc.con
 have es:m.step C who A=(false,{ m with a:={ m.a with pc:=3 } },(A.by who).store m.a.sa (m.a.hd 1)):=by
  unfold Mv.step; rw [if_neg (by omega),if_neg (by omega),if_pos hp]
 have eh:m.a.hd 1=putHead 1 (P.z s) s (P.g s) (P.o s):=by unfold Mo.hd; rw [c3,c4,c5,c6]
 rcases h.ph with ⟨_,mw,ob,hq'⟩ | ⟨_,_,⟨_,_,h'⟩ | ⟨h',_⟩⟩ | ⟨h',_⟩
 ·rw [es,eh]
  have e0:C.base 0=6+C.T+2*C.S+3*C.C:=by unfold Cf.base; omega
  have sla:=(ob.sl hC hS (by omega) mw.ck hc.sb.1 hc.sb.2 hc.l).2.1
  have ws:∀ i,i≠m.a.sa→((A.by who).store m.a.sa (putHead 1 (P.z s) s (P.g s) (P.o s))).w i=A.w i:=fun i e=>upd_ne _ _ e
  have hmw:MW C P (T - (q - 1)) (-1) m.a.sa ((A.by who).store m.a.sa (putHead 1 (P.z s) s (P.g s) (P.o s))).w:=by
   show MW C P (T - (q - 1)) (-1) m.a.sa (upd A.w m.a.sa _)
   have:=mw.word (i:=m.a.sc) (y:=xs) (v:=putHead 1 (P.z s) s (P.g s) (P.o s)) (t':=T - (q - 1)) hC hS (by omega) h.sp.j.1 h.sp.j.2 gx.1 (by omega) (putHead_in _ _ _ _ _) (fun _ _ _ e=>absurd h.sp.esa.symm e) (fun r b r0 r1 l _ e x p=>?_) (by omega)
   ·rw [← h.sp.esa] at this; exact this
   ·have:=Pla.off (y:=xs) (d:=0) hC hS hc.sb hc.l r0 r1 l p h.sp.c h.sp.m (fun e'=>?_) (by omega)
    ·rw [Int.add_zero] at this; exact this
    ·by_cases er:r=s
     ·subst er
      exact gne pos xs (by omega) (by omega) gx.1 (by omega) (by rw [← sla,e,e'])
     ·exact h.sp.nu r r0 r1 l er (by rw [e,e',h.sp.esa])
  refine .inl ⟨rfl,⟨hc.sb,hc.l,hc.con,hc.nn⟩,h.next ⟨rfl,rfl,rfl,rfl⟩ h.ib h.cb (fun j j0 j1=>ws _ (by have:=ck_lt hC j0 j1; omega)) (fun r r0 r1 _=>ws _ (by unfold Cf.slot; omega)) (.inl (ws _ (by have:=hc.sb; unfold Cf.slot; omega))) (ws _ ?_) (.inl ⟨.inr ⟨rfl,upd_same _ _ _⟩,hmw,?_,by show 8+3*P.z s - 3≤q - 1; omega⟩)⟩
  ·rw [h.sp.esa]; exact gne _ _ (by omega) (by omega) gx.1 (by omega)
  ·refine ob.keep (by omega) (ws _ (by have:=hc.sb; unfold Cf.slot; omega)) (fun j x p=>p.keep (ws _ (by have:=ck_lt hC p.jb.1 p.jb.2; omega))) (by omega) fun d d0 d1=>ws _ ?_
   rw [h.sp.esa,Int.add_assoc]; exact gne _ _ (by omega) (by omega) gx.1 (by omega)
 ·omega
 ·omega
 ·omega
theorem Mv2.step3 (hC:C.ok) (hS:MS C P) (hc:MvC C P at' pos s m) (h:Mv2 C P T at' pos cw s v xs q m A.w) (hT:T≤4194000) (hq:1≤q) (hp:m.a.pc=3):Mv2R C P T at' pos cw s v xs q (m.step C who A):=by
 obtain ⟨rr,gp,gx,ga,gs,gg,gS,gne⟩:=h.geo hC hS hc
 have hCC:=hC.C; have hTT:=hC.T; have hcsb:=hc.sb
 obtain ⟨c1,c2,c3,c4,c5,c6⟩:=hc.con
 have hvb:=h.vb
 rcases h.ph with ⟨hsa,mw,ob,hq'⟩ | ⟨_,_,⟨_,_,h'⟩ | ⟨h',_⟩⟩ | ⟨h',_⟩
 ·have hsa':A.w m.a.sa=putHead 1 (P.z s) s (P.g s) (P.o s):=by
   rcases hsa with e | e
   ·omega
   ·exact e.2
  have ew:A.w (C.slot m.a.hs)=m.a.w:=by rw [c4,ob.sw,h.aw]
  have es:m.step C who A=(false,{ m with a:={ m.a with i:=0,pc:=4 } },(A.by who).store (C.slot m.a.hs) (m.a.as 2 m.a.addr 0)):=by
   unfold Mv.step; rw [if_neg (by omega),if_neg (by omega),if_neg (by omega),if_pos hp,if_pos ew,cas_yes (show (A.by who).w _=_ from ew)]
  have hb0:0≤C.base 0:=by have:=hC.T; have:=hC.S; have:=hC.C; unfold Cf.base; omega
  have ea:m.a.as 2 m.a.addr 0=putSlot 2 (C.base at'+pos) (P.g s) v:=by
   obtain ⟨z1,z2,z3,z4⟩:=sl_put (st:=1) (ad:=C.base at'+pos) (ge:=P.g s) (ve:=v) (by decide) (by omega) gg (by omega)
   unfold Mo.as; rw [h.aw,z3,z4,c1,Int.add_zero]
  rw [es,ea,c4]
  have e0:C.base 0=6+C.T+2*C.S+3*C.C:=by unfold Cf.base; omega
  have sls:=ob.sl hC hS (by omega) mw.ck hc.sb.1 hc.sb.2 hc.l
  have np:C.base at'+pos≠P.pd:=fun e=>by
   have h1:=(hw_hd (a:=C.base at'+pos) hC hS hc.sb.1 hc.sb.2 hc.l).1
   rw [← ob.hd,h.ha,if_pos e] at h1
   rw [(hd_put (by decide) (by omega) (by omega) gg).1] at h1
   have:=hS.pk; omega
  have hsl:C.slot s<C.base 0:=by have:=hc.sb; unfold Cf.slot; omega
  have ws:∀ i,i≠C.slot s→((A.by who).store (C.slot s) (putSlot 2 (C.base at'+pos) (P.g s) v)).w i=A.w i:=fun i e=>upd_ne _ _ e
  have zs:=sl_put' (st:=2) (ad:=C.base at'+pos) (ge:=P.g s) (ve:=v) (by decide) (by omega) gg
  have wa:∀ d,0≤d→((A.by who).store (C.slot s) (putSlot 2 (C.base at'+pos) (P.g s) v)).w (C.base at'+pos+d)=A.w (C.base at'+pos+d):=fun d d0=>ws _ (by omega)
  refine .inl ⟨rfl,⟨hc.sb,hc.l,hc.con,hc.nn⟩,h.next ⟨rfl,rfl,rfl,rfl⟩ ⟨Int.le_refl 0,by show (0:Int)≤P.z s; omega⟩ h.cb (fun j j0 j1=>ws _ (by have:=hc.sb; unfold Cf.slot Cf.chunk; omega)) (fun r r0 r1 ne=>ws _ (by unfold Cf.slot; omega)) (.inr fun x x0 x1=>?_) (ws _ (by omega)) (.inr (.inl ⟨?_,?_,.inl ⟨upd_same _ _ _,fun k k0 k1=>?_,.inl ⟨rfl,by show (0:Int)<P.z s; omega,fun k k0 k1=>?_,by show 4+3*(P.z s - 0)≤q - 1; omega⟩⟩⟩))⟩
  ·show slA (upd A.w (C.slot s) _ (C.slot s))≠_
   rw [upd_same,zs.2.1]; omega
  ·rw [ws _ (by omega)]; exact hsa'
  ·exact mw.slot hC hS (by omega) hc.sb.1 hc.sb.2 hc.l (putSlot_in _ _ _ _) (fun r _ _ _=>by omega) (fun r _ _ e=>e) (fun _=>by rw [sls.2.1]; exact np) fun e=>absurd rfl e
  ·have k1':k<0:=k1
   omega
  ·have k0':0≤k:=k0
   rw [Int.add_assoc,wa _ (by omega),← Int.add_assoc]; exact ob.ce k k0' k1
 ·omega
 ·omega
 ·omega
theorem Mv2.step45 (hC:C.ok) (hS:MS C P) (hc:MvC C P at' pos s m) (h:Mv2 C P T at' pos cw s v xs q m A.w) (hT:T≤4194000) (hq:1≤q) (hp:m.a.pc=4∨m.a.pc=5):Mv2R C P T at' pos cw s v xs q (m.step C who A):=by
 obtain ⟨rr,gp,gx,ga,gs,gg,gS,gne⟩:=h.geo hC hS hc
 have hCC:=hC.C; have hTT:=hC.T; have hcsb:=hc.sb
 obtain ⟨c1,c2,c3,c4,c5,c6⟩:=hc.con
 have hvb:=h.vb
 have hib:=h.ib
 have hL:=(hS.lv s hc.sb.1 hc.sb.2 hc.l).2.2
 have hb0:0≤C.base 0:=by have:=hC.T; have:=hC.S; have:=hC.C; unfold Cf.base; omega
 rcases h.ph with ⟨h',_⟩ | ⟨hsa,mw,⟨hsl,cp,⟨p,hi,ce,hq'⟩ | ⟨p,hi,ce,ec,hq'⟩ | ⟨p,_⟩ | ⟨p,_⟩⟩ | ⟨h',_⟩⟩ | ⟨h',_⟩
 ·rcases h' with e | ⟨e,_⟩ <;> omega
 · -- it loads
  have eL:=hL m.a.i hib.1 hi
  have ecell:A.w (m.a.addr+1+m.a.i)=putCell (P.L s m.a.i) false 0:=by rw [c1]; exact ce _ (Int.le_refl _) hi
  have nf:¬ (ceF (A.w (m.a.addr+1+m.a.i))=true∧ceN (A.w (m.a.addr+1+m.a.i))=slV m.a.w):=fun ⟨e,_⟩=>by rw [ecell,(ce_put eL (by decide)).2.1] at e; cases e
  have es:m.step C who A=(false,{ m with a:={ m.a with cell:=A.w (m.a.addr+1+m.a.i),pc:=5 } },(A.by who).load (m.a.addr+1+m.a.i)):=by
   unfold Mv.step; rw [if_neg (by omega),if_neg (by omega),if_neg (by omega),if_neg (by omega),if_pos p,if_neg nf]
  rw [es]
  refine .inl ⟨rfl,⟨hc.sb,hc.l,hc.con,hc.nn⟩,h.next ⟨rfl,rfl,rfl,rfl⟩ hib (mw.bd _) (fun _ _ _=>rfl) (fun _ _ _ _=>rfl) (.inl rfl) rfl (.inr (.inl ⟨hsa,mw.mono (by omega),.inl ⟨hsl,cp,.inr (.inl ⟨rfl,hi,ce,ecell,by show 3+3*(P.z s - m.a.i)≤q - 1; omega⟩)⟩⟩))⟩
 · -- it freezes
  have eL:=hL m.a.i hib.1 hi
  have ew:A.w (m.a.addr+1+m.a.i)=m.a.cell:=by rw [c1,ec]; exact ce _ (Int.le_refl _) hi
  have es:m.step C who A=(false,{ m with a:={ m.a with pc:=6 } },(A.by who).store (m.a.addr+1+m.a.i) (putCell (ceV m.a.cell) true (slV m.a.w))):=by
   unfold Mv.step; rw [if_neg (by omega),if_neg (by omega),if_neg (by omega),if_neg (by omega),if_neg (by omega),if_pos p,if_pos ew,cas_yes (show (A.by who).w _=_ from ew)]
  rw [es]
  have ea:m.a.addr+1+m.a.i=C.base at'+(pos+(1+m.a.i)):=by rw [c1]; omega
  rw [ea]
  have e0:C.base 0=6+C.T+2*C.S+3*C.C:=by unfold Cf.base; omega
  have ws:∀ i,i≠C.base at'+(pos+(1+m.a.i))→((A.by who).store (C.base at'+(pos+(1+m.a.i))) (putCell (ceV m.a.cell) true (slV m.a.w))).w i=A.w i:=fun i e=>upd_ne _ _ e
  have wsc:∀ y,0≤y→y<C.W→((A.by who).store (C.base at'+(pos+(1+m.a.i))) (putCell (ceV m.a.cell) true (slV m.a.w))).w (C.base m.a.sc+y)=A.w (C.base m.a.sc+y):=fun y y0 y1=>ws _ fun e=>gne (pos+(1+m.a.i)) y (by omega) (by omega) y0 y1 e.symm
  refine .inl ⟨rfl,⟨hc.sb,hc.l,hc.con,hc.nn⟩,h.next ⟨rfl,rfl,rfl,rfl⟩ hib h.cb (fun j j0 j1=>ws _ (by have:=ck_lt hC j0 j1; omega)) (fun r r0 r1 ne=>ws _ (by unfold Cf.slot; omega)) (.inl (ws _ (by have:=hc.sb; unfold Cf.slot; omega))) (ws _ (by omega)) (.inr (.inl ⟨?_,?_,.inl ⟨?_,fun k k0 k1=>?_,.inr (.inr (.inl ⟨rfl,hi,fun k k0 k1=>?_,ec,by show 2+3*(P.z s - m.a.i)≤q - 1; omega⟩))⟩⟩))⟩
  ·rw [h.sp.esa,wsc _ gx.1 (by omega),← h.sp.esa]; exact hsa
  ·refine mw.word hC hS (by omega) h.ev.ab.1 h.ev.ab.2 (by omega) (by omega) (putCell_in _ _ _) (fun _ _ e=>?_) (fun r b r0 r1 l ne e x p=>?_) (by omega)
   ·rw [h.pa.c] at e
    exact absurd e (mod_off h.pa.m (by omega) (by unfold MP.rm at rr; omega))
   ·refine Pla.off hC hS hc.sb hc.l r0 r1 l p h.pa.c h.pa.m (fun e'=>?_) (by omega)
    obtain ⟨⟨_,_,f3,_,_⟩,_⟩:=mw.at' hC hS (by omega) r0 r1 l ne (e.trans e')
    rw [h.ha,(hd_put (by decide) (by omega) (by omega) gg).2.2.1] at f3
    exact ne f3.symm
  ·rw [ws _ (by have:=hc.sb; unfold Cf.slot; omega)]; exact hsl
  ·have k1':k<m.a.i:=k1
   have:=wsc (xs+(1+k)) (by omega) (by omega)
   rw [show C.base m.a.sc+(xs+(1+k))=m.a.sa+1+k by rw [h.sp.esa]; omega] at this
   rw [this]; exact cp k k0 k1'
  ·have k0':m.a.i+1≤k:=k0
   rw [ws _ (by omega)]; exact ce k (by omega) k1
 ·omega
 ·omega
 ·omega
 ·omega
end
end Go.Fl
namespace Go.Fl
open Go
set_option linter.unusedVariables false
set_option linter.unusedSimpArgs false
variable {C:Cf} {w:Int→Int} {P:MP} {A:Ar} {who:Int}
section
variable {T at' pos cw s v xs q:Int} {m:Mv}
theorem Mv2.step6 (hC:C.ok) (hS:MS C P) (hc:MvC C P at' pos s m) (h:Mv2 C P T at' pos cw s v xs q m A.w) (hT:T≤4194000) (hq:1≤q) (hp:m.a.pc=6):Mv2R C P T at' pos cw s v xs q (m.step C who A):=by
 obtain ⟨rr,gp,gx,ga,gs,gg,gS,gne⟩:=h.geo hC hS hc
 have hCC:=hC.C; have hTT:=hC.T; have hcsb:=hc.sb
 obtain ⟨c1,c2,c3,c4,c5,c6⟩:=hc.con
 have hvb:=h.vb
 have hib:=h.ib
 have hL:=(hS.lv s hc.sb.1 hc.sb.2 hc.l).2.2
 have hb0:0≤C.base 0:=by have:=hC.T; have:=hC.S; have:=hC.C; unfold Cf.base; omega
 rcases h.ph with ⟨h',_⟩ | ⟨hsa,mw,⟨hsl,cp,⟨p,_⟩ | ⟨p,_⟩ | ⟨p,hi,ce,ec,hq'⟩ | ⟨p,_⟩⟩ | ⟨h',_⟩⟩ | ⟨h',_⟩
 ·rcases h' with e | ⟨e,_⟩ <;> omega
 ·omega
 ·omega
 ·have eL:=hL m.a.i hib.1 hi
  have ev:ceV m.a.cell=P.L s m.a.i:=by rw [ec]; exact (ce_put eL (by decide)).1
  have es:m.step C who A=(false,{ m with a:={ m.a with i:=m.a.i+1,pc:=if m.a.hz≤m.a.i+1 then 7 else 4 } },(A.by who).store (m.a.sa+1+m.a.i) (putCell (ceV m.a.cell) false 0)):=by
   unfold Mv.step; rw [if_neg (by omega),if_neg (by omega),if_neg (by omega),if_neg (by omega),if_neg (by omega),if_neg (by omega),if_pos p]
  rw [es,ev,c3]
  have ea:m.a.sa+1+m.a.i=C.base m.a.sc+(xs+(1+m.a.i)):=by rw [h.sp.esa]; omega
  have e0:C.base 0=6+C.T+2*C.S+3*C.C:=by unfold Cf.base; omega
  have hmw:MW C P (T - (q - 1)) s m.a.sa ((A.by who).store (m.a.sa+1+m.a.i) (putCell (P.L s m.a.i) false 0)).w:=by
   rw [ea]
   refine mw.word hC hS (by omega) h.sp.j.1 h.sp.j.2 (by omega) (by omega) (putCell_in _ _ _) (fun _ _ e=>?_) (fun r b r0 r1 l ne e x p=>?_) (by omega)
   ·rw [h.sp.c] at e
    exact absurd e (mod_off h.sp.m (by omega) (by unfold MP.rm at rr; omega))
   ·exact Pla.off hC hS hc.sb hc.l r0 r1 l p h.sp.c h.sp.m (fun e'=>h.sp.nu r r0 r1 l ne (by rw [e,e',h.sp.esa])) (by omega)
  have ws:∀ i,i≠m.a.sa+1+m.a.i→((A.by who).store (m.a.sa+1+m.a.i) (putCell (P.L s m.a.i) false 0)).w i=A.w i:=fun i e=>upd_ne _ _ e
  have wsa:∀ y,0≤y→y<C.W→((A.by who).store (m.a.sa+1+m.a.i) (putCell (P.L s m.a.i) false 0)).w (C.base at'+y)=A.w (C.base at'+y):=fun y y0 y1=>ws _ (by rw [ea]; exact gne y _ y0 y1 (by omega) (by omega))
  have e47:(if P.z s≤m.a.i+1 then (7:Int) else 4)=7∧P.z s=m.a.i+1∨(if P.z s≤m.a.i+1 then (7:Int) else 4)=4∧m.a.i+1<P.z s:=by split <;> omega
  refine .inl ⟨rfl,⟨hc.sb,hc.l,hc.con,hc.nn⟩,h.next ⟨rfl,rfl,rfl,rfl⟩ ⟨by show 0≤m.a.i+1; omega,by show m.a.i+1≤_; omega⟩ h.cb (fun j j0 j1=>ws _ (by have:=ck_lt hC j0 j1; omega)) (fun r r0 r1 ne=>ws _ (by unfold Cf.slot; omega)) (.inl (ws _ (by have:=hc.sb; unfold Cf.slot; omega))) (wsa _ (by omega) (by omega)) (.inr (.inl ⟨?_,hmw,.inl ⟨?_,fun k k0 k1=>?_,?_⟩⟩))⟩
  ·rw [ws _ (by omega)]; exact hsa
  ·rw [ws _ (by have:=hc.sb; unfold Cf.slot; omega)]; exact hsl
  ·have k1':k<m.a.i+1:=k1
   by_cases e:k=m.a.i
   ·rw [e]; exact upd_same _ _ _
   ·rw [ws _ (by omega)]; exact cp k k0 (by omega)
  ·rcases e47 with ⟨e,le⟩ | ⟨e,le⟩
   ·exact .inr (.inr (.inr ⟨e,by show m.a.i+1=P.z s; omega,by omega⟩))
   ·refine .inl ⟨e,le,fun k k0 k1=>?_,by show 4+3*(P.z s - (m.a.i+1))≤q - 1; omega⟩
    have k0':m.a.i+1≤k:=k0
    have:=wsa (pos+(1+k)) (by omega) (by omega)
    rw [show C.base at'+(pos+(1+k))=C.base at'+pos+1+k by omega] at this
    rw [this]; exact ce k k0' k1
 ·omega
 ·omega
 ·omega
theorem Mv2.step7 (hC:C.ok) (hS:MS C P) (hc:MvC C P at' pos s m) (h:Mv2 C P T at' pos cw s v xs q m A.w) (hT:T≤4194000) (hq:1≤q) (hp:m.a.pc=7):Mv2R C P T at' pos cw s v xs q (m.step C who A):=by
 obtain ⟨rr,gp,gx,ga,gs,gg,gS,gne⟩:=h.geo hC hS hc
 have hCC:=hC.C; have hTT:=hC.T; have hcsb:=hc.sb
 obtain ⟨c1,c2,c3,c4,c5,c6⟩:=hc.con
 have hvb:=h.vb
 have hib:=h.ib
 have hb0:0≤C.base 0:=by have:=hC.T; have:=hC.S; have:=hC.C; unfold Cf.base; omega
 rcases h.ph with ⟨h',_⟩ | ⟨hsa,mw,⟨hsl,cp,⟨p,_⟩ | ⟨p,_⟩ | ⟨p,_⟩ | ⟨p,hi,hq'⟩⟩ | ⟨h',_⟩⟩ | ⟨h',_⟩
 ·rcases h' with e | ⟨e,_⟩ <;> omega
 ·omega
 ·omega
 ·omega
 ·obtain ⟨z1,z2,z3,z4⟩:=sl_put (st:=1) (ad:=C.base at'+pos) (ge:=P.g s) (ve:=v) (by decide) (by omega) gg (by omega)
  have ea:m.a.as 2 m.a.addr 0=putSlot 2 (C.base at'+pos) (P.g s) v:=by unfold Mo.as; rw [h.aw,z3,z4,c1,Int.add_zero]
  have eb:m.a.as 1 m.a.sa 1=putSlot 1 m.a.sa (P.g s) (v+1):=by unfold Mo.as; rw [h.aw,z3,z4]
  have ew:A.w (C.slot m.a.hs)=m.a.as 2 m.a.addr 0:=by rw [ea,c4]; exact hsl
  have es:m.step C who A=(false,{ m with a:={ m.a with pc:=8 } },(A.by who).store (C.slot m.a.hs) (m.a.as 1 m.a.sa 1)):=by
   unfold Mv.step; rw [if_neg (by omega),if_neg (by omega),if_neg (by omega),if_neg (by omega),if_neg (by omega),if_neg (by omega),if_neg (by omega),if_pos p,if_pos ew,cas_yes (show (A.by who).w _=_ from ew)]
  rw [es,eb,c4]
  have e0:C.base 0=6+C.T+2*C.S+3*C.C:=by unfold Cf.base; omega
  have hsb:C.slot s<C.base 0:=by have:=hc.sb; unfold Cf.slot; omega
  have ws:∀ i,i≠C.slot s→((A.by who).store (C.slot s) (putSlot 1 m.a.sa (P.g s) (v+1))).w i=A.w i:=fun i e=>upd_ne _ _ e
  have zs:=sl_put' (st:=1) (ad:=m.a.sa) (ge:=P.g s) (ve:=v+1) (by decide) (by omega) gg
  refine .inl ⟨rfl,⟨hc.sb,hc.l,hc.con,hc.nn⟩,h.next ⟨rfl,rfl,rfl,rfl⟩ hib h.cb (fun j j0 j1=>ws _ (by have:=hc.sb; unfold Cf.slot Cf.chunk; omega)) (fun r r0 r1 ne=>ws _ (by unfold Cf.slot; omega)) (.inr fun x x0 x1=>?_) (ws _ (by omega)) (.inr (.inl ⟨?_,?_,.inr ⟨rfl,upd_same _ _ _,fun k k0 k1=>?_,by omega⟩⟩))⟩
  ·show slA (upd A.w (C.slot s) _ (C.slot s))≠_
   rw [upd_same,zs.2.1,h.sp.esa]; exact fun e=>gne x xs x0 (by omega) gx.1 (by omega) e.symm
  ·rw [ws _ (by omega)]; exact hsa
  ·exact mw.slot hC hS (by omega) hc.sb.1 hc.sb.2 hc.l (putSlot_in _ _ _ _) (fun r _ e _=>e) (fun r _ e _=>e) (fun e=>absurd rfl e) fun e=>absurd rfl e
  ·rw [ws _ (by omega)]; exact cp k k0 (by omega)
 ·omega
 ·omega
theorem Mv2.step8 (hC:C.ok) (hS:MS C P) (hc:MvC C P at' pos s m) (h:Mv2 C P T at' pos cw s v xs q m A.w) (hT:T≤4194000) (hq:1≤q) (hp:m.a.pc=8):Mv2R C P T at' pos cw s v xs q (m.step C who A):=by
 obtain ⟨rr,gp,gx,ga,gs,gg,gS,gne⟩:=h.geo hC hS hc
 have hCC:=hC.C; have hTT:=hC.T; have hcsb:=hc.sb
 obtain ⟨c1,c2,c3,c4,c5,c6⟩:=hc.con
 have hvb:=h.vb
 have hib:=h.ib
 have hb0:0≤C.base 0:=by have:=hC.T; have:=hC.S; have:=hC.C; unfold Cf.base; omega
 rcases h.ph with ⟨h',_⟩ | ⟨hsa,mw,⟨hsl,cp,⟨p,_⟩ | ⟨p,_⟩ | ⟨p,_⟩ | ⟨p,_⟩⟩ | ⟨p,hsl,cp,hq'⟩⟩ | ⟨h',_⟩
 ·rcases h' with e | ⟨e,_⟩ <;> omega
 ·omega
 ·omega
 ·omega
 ·omega
 ·have es:m.step C who A=(false,{ m with a:={ m.a with pc:=9 } },(A.by who).store m.a.sa (m.a.hd 2)):=by
   unfold Mv.step; rw [if_neg (by omega),if_neg (by omega),if_neg (by omega),if_neg (by omega),if_neg (by omega),if_neg (by omega),if_neg (by omega),if_neg (by omega),if_pos p]
  have eh:m.a.hd 2=putHead 2 (P.z s) s (P.g s) (P.o s):=by unfold Mo.hd; rw [c3,c4,c5,c6]
  rw [es,eh]
  have e0:C.base 0=6+C.T+2*C.S+3*C.C:=by unfold Cf.base; omega
  have ws:∀ i,i≠m.a.sa→((A.by who).store m.a.sa (putHead 2 (P.z s) s (P.g s) (P.o s))).w i=A.w i:=fun i e=>upd_ne _ _ e
  have wsl:((A.by who).store m.a.sa (putHead 2 (P.z s) s (P.g s) (P.o s))).w (C.slot s)=putSlot 1 m.a.sa (P.g s) (v+1):=by rw [ws _ (by have:=hc.sb; unfold Cf.slot; omega)]; exact hsl
  have hh:=hd_put (k:=2) (s:=P.z s) (t:=s) (g:=P.g s) (o:=P.o s) (by decide) (by omega) (by omega) gg
  have hmw:MW C P (T - (q - 1)) s m.a.sa ((A.by who).store m.a.sa (putHead 2 (P.z s) s (P.g s) (P.o s))).w:=by
   have:=mw.word (i:=m.a.sc) (y:=xs) (v:=putHead 2 (P.z s) s (P.g s) (P.o s)) (t':=T - (q - 1)) hC hS (by omega) h.sp.j.1 h.sp.j.2 gx.1 (by omega) (putHead_in _ _ _ _ _) (fun _ _ _ e=>absurd h.sp.esa.symm e) (fun r b r0 r1 l ne e x p=>?_) (by omega)
   ·rw [← h.sp.esa] at this; exact this
   ·have:=Pla.off (y:=xs) (d:=0) hC hS hc.sb hc.l r0 r1 l p h.sp.c h.sp.m (fun e'=>h.sp.nu r r0 r1 l ne (by rw [e,e',h.sp.esa])) (by omega)
    rw [Int.add_zero] at this; exact this
  have wck:∀ j,0≤j→j<C.C→((A.by who).store m.a.sa (putHead 2 (P.z s) s (P.g s) (P.o s))).w (C.chunk j)=A.w (C.chunk j):=fun j j0 j1=>ws _ (by have:=ck_lt hC j0 j1; omega)
  refine .inl ⟨rfl,⟨hc.sb,hc.l,hc.con,hc.nn⟩,h.next ⟨rfl,rfl,rfl,rfl⟩ hib h.cb wck (fun r r0 r1 ne=>ws _ (by unfold Cf.slot; omega)) (.inl (by rw [wsl,hsl])) (ws _ ?_) (.inr (.inr ⟨.inl rfl,?_,?_,by show 11 - 9≤q - 1; omega⟩))⟩
  ·rw [h.sp.esa]; exact gne _ _ (by omega) (by omega) gx.1 (by omega)
  ·refine hmw.fin hC ⟨m.a.sa,v+1,wsl,by omega,⟨m.a.sc,xs,⟨h.sp.esa,h.sp.j,?_,h.sp.m,?_,?_⟩⟩,?_,fun k k0 k1=>?_⟩ ?_
   ·rw [wck _ h.sp.j.1 h.sp.j.2]; exact h.sp.x
   ·rw [wck _ h.sp.j.1 h.sp.j.2]; exact h.sp.c
   ·rw [wck _ h.sp.j.1 h.sp.j.2]; exact .inl h.sp.st
   ·unfold MP.hw; rw [if_neg h.sp.np]; exact upd_same _ _ _
   ·rw [ws _ (by omega)]; exact cp k k0 k1
   ·have e:((A.by who).store m.a.sa (putHead 2 (P.z s) s (P.g s) (P.o s))).w m.a.sa=putHead 2 (P.z s) s (P.g s) (P.o s):=upd_same _ _ _
    rw [e]
    exact .inr (.inl ⟨hh.1,by rw [hh.2.2.1]; exact hc.sb,by rw [hh.2.1]; exact (hS.lv s hc.sb.1 hc.sb.2 hc.l).1⟩)
  ·rw [wsl]; exact (sl_put' (by decide) (by omega) gg).2.1
 ·omega
theorem Mv2.step9 (hC:C.ok) (hS:MS C P) (hc:MvC C P at' pos s m) (h:Mv2 C P T at' pos cw s v xs q m A.w) (hT:T≤4194000) (hq:1≤q) (hp:m.a.pc=9∨m.a.pc=10):Mv2R C P T at' pos cw s v xs q (m.step C who A):=by
 obtain ⟨rr,gp,gx,ga,gs,gg,gS,gne⟩:=h.geo hC hS hc
 have hCC:=hC.C; have hTT:=hC.T; have hcsb:=hc.sb
 obtain ⟨c1,c2,c3,c4,c5,c6⟩:=hc.con
 have hib:=h.ib
 rcases h.ph with ⟨h',_⟩ | ⟨hsa,mw,⟨hsl,cp,⟨p,_⟩ | ⟨p,_⟩ | ⟨p,_⟩ | ⟨p,_⟩⟩ | ⟨p,_⟩⟩ | ⟨_,mw,hsl,hq'⟩
 ·rcases h' with e | ⟨e,_⟩ <;> omega
 ·omega
 ·omega
 ·omega
 ·omega
 ·omega
 ·have e0:C.base 0=6+C.T+2*C.S+3*C.C:=by unfold Cf.base; omega
  have frame:∀ (j y:Int) (A':Ar),0≤j→j<C.C→A'.w=upd A.w (C.chunk j+1) (IntKind.u64.wrap y)→MW C P (T - (q - 1)) (-1) (-1) A'.w∧(∀ i,0≤i→i<C.C→A'.w (C.chunk i)=A.w (C.chunk i))∧(∀ r,0≤r→r<C.S→A'.w (C.slot r)=A.w (C.slot r))∧A'.w (C.base at'+pos)=A.w (C.base at'+pos):=fun j y A' j0 j1 e=>by
   have b:=ck_lt hC j0 j1
   rw [e]
   refine ⟨mw.low hC hS (by omega) (wrap_in _) (.inr (.inl ⟨j,j0,j1,.inl rfl⟩)),fun i i0 i1=>upd_ne _ _ (by unfold Cf.chunk; omega),fun r r0 r1=>upd_ne _ _ (by unfold Cf.slot Cf.chunk; omega),upd_ne _ _ (by omega)⟩
  rcases hp with p | p
  ·have es:m.step C who A=(false,{ m with a:={ m.a with pc:=10 } },(A.by who).add (C.chunk m.a.sc+1) (IntKind.u64.wrap (roomOf (classOf m.a.hz)))):=by
    unfold Mv.step; rw [if_neg (by omega),if_neg (by omega),if_neg (by omega),if_neg (by omega),if_neg (by omega),if_neg (by omega),if_neg (by omega),if_neg (by omega),if_neg (by omega),if_pos p]
   rw [es]
   obtain ⟨f1,f2,f3,f4⟩:=frame m.a.sc _ ((A.by who).add (C.chunk m.a.sc+1) (IntKind.u64.wrap (roomOf (classOf m.a.hz)))) h.sp.j.1 h.sp.j.2 rfl
   refine .inl ⟨rfl,⟨hc.sb,hc.l,hc.con,hc.nn⟩,h.next ⟨rfl,rfl,rfl,rfl⟩ hib h.cb f2 (fun r r0 r1 _=>f3 r r0 r1) (.inl (f3 _ hc.sb.1 hc.sb.2)) f4 (.inr (.inr ⟨.inr rfl,f1,?_,by show 11 - 10≤q - 1; omega⟩))⟩
   rw [f3 _ hc.sb.1 hc.sb.2]; exact hsl
  ·have eo:ofC C m.a.addr=at':=by rw [c1]; exact (base_of hC h.ev.ab.1 h.ev.ab.2 gp.1 (by omega)).1
   have es:m.step C who A=(true,{ m with a:={ m.a with out:=1 } },(A.by who).add (C.chunk (ofC C m.a.addr)+1) (IntKind.u64.wrap (-roomOf (classOf m.a.hz)))):=by
    unfold Mv.step; rw [if_neg (by omega),if_neg (by omega),if_neg (by omega),if_neg (by omega),if_neg (by omega),if_neg (by omega),if_neg (by omega),if_neg (by omega),if_neg (by omega),if_neg (by omega),if_pos p]
   rw [es,eo]
   obtain ⟨f1,f2,f3,f4⟩:=frame at' _ ((A.by who).add (C.chunk at'+1) (IntKind.u64.wrap (-roomOf (classOf m.a.hz)))) h.ev.ab.1 h.ev.ab.2 rfl
   refine .inr ⟨rfl,rfl,f1,h.ev.keep (fun j j0 j1=>.inl (f2 j j0 j1)) (fun r r0 r1=>.inl (f3 r r0 r1)),fun r r0 r1 l e=>?_,(congrArg slA (f3 _ hc.sb.1 hc.sb.2)).trans hsl⟩
   obtain ⟨⟨_,_,g3,_,_⟩,_⟩:=f1.at' hC hS (by omega) r0 r1 l (by omega) e
   rw [show (true,{ m with a:={ m.a with out:=1 } },(A.by who).add (C.chunk at'+1) (IntKind.u64.wrap (-roomOf (classOf m.a.hz)))).2.2.w (C.base at'+pos)=A.w (C.base at'+pos) from f4,h.ha,(hd_put (by decide) (by omega) (by omega) gg).2.2.1] at g3
   subst g3
   rw [show (true,{ m with a:={ m.a with out:=1 } },(A.by who).add (C.chunk at'+1) (IntKind.u64.wrap (-roomOf (classOf m.a.hz)))).2.2.w (C.slot s)=A.w (C.slot s) from f3 _ r0 r1,hsl,h.sp.esa] at e
   exact gne pos xs gp.1 (by omega) gx.1 (by omega) e.symm
end
inductive MvI (C:Cf) (P:MP) (T at' pos cw q:Int) (m:Mv) (w:Int→Int):Prop where
 | a (h:Mv0 C P T at' pos cw q m w)
 | b (s v k:Int) (u:Int→Int) (hc:MvC C P at' pos s m) (h:Mv1 C P T at' pos cw s v q m w u k)
 | c (s v xs:Int) (hc:MvC C P at' pos s m) (h:Mv2 C P T at' pos cw s v xs q m w)
structure MvE (C:Cf) (P:MP) (T at' pos cw q:Int) (m:Mv) (w:Int→Int):Prop where
 o:m.a.out=1∨m.a.out=2∨m.a.out=4
 mw:MW C P (T - q) (-1) (-1) w
 ev:Evc C P at' pos cw w
 g:m.a.out≠4→gone' C P (C.base at'+pos) w
section
variable {T at' pos cw q:Int} {m:Mv}
theorem MvI.step (hC:C.ok) (hS:MS C P) (h:MvI C P T at' pos cw q m A.w) (hT:T≤4194000) (hq:1≤q) :
  (m.step C who A).1=false∧MvI C P T at' pos cw (q - 1) (m.step C who A).2.1 (m.step C who A).2.2.w∨(m.step C who A).1=true∧MvE C P T at' pos cw (q - 1) (m.step C who A).2.1 (m.step C who A).2.2.w:=by
 cases h with
 | a h=>
  obtain ⟨e,⟨b,o,g⟩ | ⟨b,s,v,hc,h1⟩⟩:=h.step (who:=who) hC hS hT
  ·refine .inr ⟨b,.inr (.inl o),?_,?_,fun _=>?_⟩
   ·rw [e]; exact h.mw.mono (by omega)
   ·rw [e]; exact h.ev
   ·rw [e]; exact g
  ·refine .inl ⟨b,.b s v 0 A.w hc ?_⟩
   rw [e]; exact h1
 | b s v k u hc h=>
  obtain ⟨_,⟨b,hc',⟨k',h1⟩ | ⟨xs,h2,_⟩⟩ | ⟨b,o,e,_⟩⟩:=h.step (who:=who) hC hS hc hT hq
  ·exact .inl ⟨b,.b s v k' u hc' h1⟩
  ·exact .inl ⟨b,.c s v xs hc' h2⟩
  ·exact .inr ⟨b,.inr (.inr o),by rw [e]; exact h.mw.mono (by omega),by rw [e]; exact h.ev,fun ne=>absurd o ne⟩
 | c s v xs hc h=>
  have hr:Mv2R C P T at' pos cw s v xs q (m.step C who A):=by
   have hpc:m.a.pc=2∨m.a.pc=3∨(m.a.pc=4∨m.a.pc=5)∨m.a.pc=6∨m.a.pc=7∨m.a.pc=8∨m.a.pc=9∨m.a.pc=10:=by
    rcases h.ph with ⟨h',_⟩ | ⟨_,_,⟨_,_,⟨p,_⟩ | ⟨p,_⟩ | ⟨p,_⟩ | ⟨p,_⟩⟩ | ⟨p,_⟩⟩ | ⟨p,_⟩
    ·rcases h' with e | ⟨e,_⟩ <;> omega
    all_goals omega
   rcases hpc with p | p | p | p | p | p | p
   ·exact h.step2 hC hS hc hT hq p
   ·exact h.step3 hC hS hc hT hq p
   ·exact h.step45 hC hS hc hT hq p
   ·exact h.step6 hC hS hc hT hq p
   ·exact h.step7 hC hS hc hT hq p
   ·exact h.step8 hC hS hc hT hq p
   ·exact h.step9 hC hS hc hT hq p
  rcases hr with ⟨b,hc',h'⟩ | ⟨b,o,h1,h2,h3⟩
  ·exact .inl ⟨b,.c s v xs hc' h'⟩
  ·exact .inr ⟨b,.inl o,h1,h2,fun _=>h3.1⟩
theorem Pl.step_n (t:Pl):(t.step C who A).2.2.n=A.n:=by
 have cn:∀ a o v,((A.by who).cas a o v).n=A.n:=fun a o v=>by unfold Ar.cas; split <;> rfl
 unfold Pl.step
 by_cases c0:t.pc=0
 ·rw [if_pos c0]; rfl
 by_cases c1:t.pc=1
 ·rw [if_neg c0,if_pos c1]; rfl
 by_cases c2:t.pc=2
 ·rw [if_neg c0,if_neg c1,if_pos c2]; exact cn _ _ _
 by_cases c3:t.pc=3
 ·rw [if_neg c0,if_neg c1,if_neg c2,if_pos c3]; dsimp only; split <;> rfl
 by_cases c4:t.pc=4
 ·rw [if_neg c0,if_neg c1,if_neg c2,if_neg c3,if_pos c4]; split <;> exact cn _ _ _
 ·rw [if_neg c0,if_neg c1,if_neg c2,if_neg c3,if_neg c4]; split <;> exact cn _ _ _
theorem MvI.n (m:Mv):(m.step C who A).2.2.n=A.n:=by
 have hp:(m.t.step C who A).2.2.n=A.n:=Pl.step_n m.t
 have cn:∀ a o v,((A.by who).cas a o v).n=A.n:=fun a o v=>by unfold Ar.cas; split <;> rfl
 unfold Mv.step
 by_cases c0:m.a.pc=0
 ·rw [if_pos c0]; (repeat' split) <;> rfl
 rw [if_neg c0]
 by_cases c1:m.a.pc=1
 ·rw [if_pos c1]; (repeat' split) <;> exact hp
 rw [if_neg c1]
 by_cases c2:m.a.pc=2
 ·rw [if_pos c2]; rfl
 rw [if_neg c2]
 by_cases c3:m.a.pc=3
 ·rw [if_pos c3]; exact cn _ _ _
 rw [if_neg c3]
 by_cases c4:m.a.pc=4
 ·rw [if_pos c4]; rfl
 rw [if_neg c4]
 by_cases c5:m.a.pc=5
 ·rw [if_pos c5]; exact cn _ _ _
 rw [if_neg c5]
 by_cases c6:m.a.pc=6
 ·rw [if_pos c6]; rfl
 rw [if_neg c6]
 by_cases c7:m.a.pc=7
 ·rw [if_pos c7]; (repeat' split) <;> exact cn _ _ _
 rw [if_neg c7]
 by_cases c8:m.a.pc=8
 ·rw [if_pos c8]; rfl
 rw [if_neg c8]
 by_cases c9:m.a.pc=9
 ·rw [if_pos c9]; rfl
 rw [if_neg c9]
 by_cases ca:m.a.pc=10
 ·rw [if_pos ca]; rfl
 ·rw [if_neg ca]; rfl
theorem MvI.bd (h:MvI C P T at' pos cw q m w):∀ i,0≤w i∧w i<18446744073709551616:=by
 cases h with
 | a h=>exact h.mw.bd
 | b s v k u hc h=>exact h.bd
 | c s v xs hc h=>
  rcases h.ph with ⟨_,mw,_⟩ | ⟨_,mw,_⟩ | ⟨_,mw,_⟩ <;> exact mw.bd
theorem MvI.fit (hC:C.ok) (hS:MS C P) (h:MvI C P T at' pos cw q m A.w) (hT:T≤4194000) (hq:1≤q) (hn:C.len≤A.n∧(A.n:Int)≤200000000):m.fit C A:=by
 have hCC:=hC.C
 cases h with
 | a h=>
  have e:m.a.pc=0:=by rw [h.em]; rfl
  rw [h.em]
  exact ⟨by show (0:Int)≤0∧(0:Int)≤11; decide,h.t,by show (0:Int)≤0∧(0:Int)<18446744073709551616; decide,by show (0:Int)≤0∧(0:Int)<18446744073709551616; decide,h.c,by show (0:Int)≤0∧(0:Int)≤65536; decide,by show (0:Int)≤0∧(0:Int)≤65536; decide,hn.2,
   fun e=>absurd (show (0:Int)=1 from e) (by decide),fun e=>absurd (show (0:Int)=2∨(0:Int)=8∨(0:Int)=11 from e) (by decide),fun e=>absurd (show (0:Int)=4∨(0:Int)=5 from e) (by decide),fun e=>absurd (show (0:Int)=6 from e) (by decide),fun e=>absurd (show (0:Int)=9 from e) (by decide),fun e=>absurd (show (0:Int)=10 from e) (by decide)⟩
 | b s v k u hc h=>
  obtain ⟨c1,c2,c3,c4,c5,c6⟩:=hc.con
  have hcl:0≤classOf (P.z s)∧classOf (P.z s)≤3:=⟨(hS.lv s hc.sb.1 hc.sb.2 hc.l).1,(class_bd _).2⟩
  have rr:=hS.rm hc.sb.1 hc.sb.2 hc.l
  have hk:=h.kb
  have kle:=h.pl.kle hC
  have pf:=h.pl.fit hC (h.mw.tb hC (by omega) hcl)
  have p:=h.pc
  have hi:=h.i
  have hce:=h.cell
  have hnn:=hc.nn
  exact ⟨by omega,by rw [c4]; exact hc.sb,by rw [h.aw]; exact putSlot_in _ _ _ _,by rw [hce]; decide,by rw [c3]; exact hcl.1,by omega,by omega,hn.2,fun _=>pf,fun e=>by omega,fun e=>by omega,fun e=>by omega,fun e=>by omega,fun e=>by omega⟩
 | c s v xs hc h=>
  obtain ⟨rr,gp,gx,ga,gs,gg,gS,gne⟩:=h.geo hC hS hc
  obtain ⟨c1,c2,c3,c4,c5,c6⟩:=hc.con
  have hcl:0≤classOf (P.z s)∧classOf (P.z s)≤3:=⟨(hS.lv s hc.sb.1 hc.sb.2 hc.l).1,(class_bd _).2⟩
  have hib:=h.ib
  have hnn:=hc.nn
  have hb0:0≤C.base 0:=by have:=hC.T; have:=hC.S; have:=hC.C; unfold Cf.base; omega
  have l1:=(base_of hC (i:=pos+P.z s) h.ev.ab.1 h.ev.ab.2 (by omega) (by omega)).2.2
  have l2:=(base_of hC (i:=xs+P.z s) h.sp.j.1 h.sp.j.2 (by omega) (by omega)).2.2
  have hsa:=h.sp.esa
  have hpc:(2≤m.a.pc∧m.a.pc≤10)∧(m.a.pc=4∨m.a.pc=5∨m.a.pc=6→m.a.i<P.z s):=by
   rcases h.ph with ⟨h',_⟩ | ⟨_,_,⟨_,_,⟨p,hi,_⟩ | ⟨p,hi,_⟩ | ⟨p,hi,_⟩ | ⟨p,_⟩⟩ | ⟨p,_⟩⟩ | ⟨p,_⟩
   ·rcases h' with e | ⟨e,_⟩ <;> omega
   all_goals omega
  refine ⟨by omega,by rw [c4]; exact hc.sb,by rw [h.aw]; exact putSlot_in _ _ _ _,h.cb,by rw [c3]; exact hcl.1,by omega,by omega,hn.2,fun e=>by omega,fun e=>by omega,fun e=>?_,fun e=>?_,fun _=>h.sp.j,fun e=>?_⟩
  ·have:=hpc.2 (by omega); rw [c1]; omega
  ·have:=hpc.2 (by omega); omega
  ·rw [c1,(base_of hC h.ev.ab.1 h.ev.ab.2 gp.1 (by omega)).1]; exact ⟨by omega,h.ev.ab⟩
end
end Go.Fl
namespace Go.Fl
open Go
set_option linter.unusedVariables false
set_option linter.unusedSimpArgs false
variable {C:Cf} {w:Int→Int} {P:MP} {A:Ar} {who:Int}
def no2 (C:Cf) (w:Int→Int):Prop:=∀ j,0≤j→j<C.C→chS (w (C.chunk j))≠2
def evB (cw pos:Int):Int:=530+44*(chU cw - pos) - 44*roomOf (chC cw)
structure Wpos (C:Cf) (cw pos:Int):Prop where
 x:0≤pos∧pos<chU cw
 m:pos % roomOf (chC cw)=0
 c:chC cw≤3
 u:chU cw≤C.W
 um:chU cw % roomOf (chC cw)=0
inductive WC (C:Cf) (P:MP) (T q:Int) (c:Co) (w:Int→Int):Prop where
 | p0 (hp:c.r.pc=0) (ha:c.a=none) (hs:c.s=none) (mw:MW C P (T - q) (-1) (-1) w) (n2:no2 C w) (h0:0≤c.r.at'∧c.r.at'<C.C) (hl:c.r.at'≠0→(c.seen.length:Int)=c.r.at') (hq:2*(C.C - c.r.at')+2310≤q)
 | p1 (hp:c.r.pc=1) (ha:c.a=none) (hs:c.s=none) (mw:MW C P (T - q) (-1) (-1) w) (n2:no2 C w) (h0:0≤c.r.at'∧c.r.at'<C.C) (hl:(c.seen.length:Int)=c.r.at'+1) (hq:2*(C.C - c.r.at')+2309≤q)
 | p2 (hp:c.r.pc=2) (ha:c.a=none) (hs:c.s=none) (mw:MW C P (T - q) (-1) (-1) w) (n2:no2 C w) (h0:0≤c.r.at'∧c.r.at'<4) (hl:(c.seen.length:Int)=C.C) (hq:2310 - c.r.at'≤q)
 | p3 (hp:c.r.pc=3) (ha:c.a=none) (hs:c.s=none) (mw:MW C P (T - q) (-1) (-1) w) (n2:no2 C w) (h0:0≤c.r.at'∧c.r.at'<C.C) (h1:chS c.r.w=1∧0<chU c.r.w) (hw:0≤c.r.w∧c.r.w<18446744073709551616) (hq:2306≤q)
 | p4 (hp:c.r.pc=4) (ha:c.a=none) (hs:c.s=none) (mw:MW C P (T - q) (-1) (-1) w) (ev:Evc C P c.r.at' c.r.pos c.r.w w) (px:Wpos C c.r.w c.r.pos) (hq:530+44*(chU c.r.w - c.r.pos)≤q)
 | p5 (hp:c.r.pc=5) (ha:c.a=none) (hs:c.s=none) (mv:MvI C P (T - evB c.r.w c.r.pos) c.r.at' c.r.pos c.r.w (q - evB c.r.w c.r.pos) c.m w) (h0:0≤c.r.at'∧c.r.at'<C.C) (px:Wpos C c.r.w c.r.pos) (hw:0≤c.r.w∧c.r.w<18446744073709551616) (hq:1+evB c.r.w c.r.pos≤q)
 | p6 (hp:6≤c.r.pc∧c.r.pc≤8) (ha:c.a=none) (hs:c.s=none) (mw:MW C P (T - q) (-1) (-1) w) (ev:Evc C P c.r.at' (chU c.r.w) c.r.w w) (hn:c.r.pc=7→0≤c.r.now∧c.r.now<18446744073709551616) (hq:535 - c.r.pc≤q)
 | p9 (hp:c.r.pc=9) (ha:c.a=none) (hs:c.s=none) (mw:MW C P (T - q) (-1) (-1) w) (ev:Evc C P c.r.at' 0 c.r.w w) (hq:522≤q)
 | p10 (hp:c.r.pc=10) (hs:c.s=none) (mw:MW C P (T - q) (-1) (-1) w) (n2:no2 C w) (ha:∀ v,c.a=some v→v.now=w 0∧(v.pc=1∧(0≤v.at'∧v.at'<C.T)∨v.pc=2∧0≤v.at')) (hq:520 - apA c.a≤q)
 | p11 (hp:c.r.pc=11) (ha:c.a=none) (mw:MW C P (T - q) (-1) (-1) w) (n2:no2 C w) (h0:0≤c.r.at'∧c.r.at'<C.C)
   (hs:∀ v,c.s=some v→v.ch=c.r.at'∧chS (w (C.chunk c.r.at'))=3∧v.w=w (C.chunk c.r.at')∧v.freed=false∧((v.pc=1∨v.pc=2)∧v.at'=0∨v.pc=3∧(0≤v.at'∧v.at'<chU v.w)∨v.pc=4∨v.pc=5)) (hq:50*(C.C - c.r.at') - spS c.s≤q)
structure Nw (t:Int) (c:Co):Prop where
 ev:0≤c.r.ev∧c.r.ev≤t
 lf:0≤c.r.lf∧c.r.lf≤t
 fd:0≤c.r.fd∧c.r.fd≤t
 mo:0≤c.r.mo∧c.r.mo≤t
 il:0≤c.r.idle∧c.r.idle≤c.r.rd
def tW (P:MP) (c:Co):Int:=P.N0+3000*c.r.rd+3000
structure WI (C:Cf) (P:MP) (q:Int) (c:Co) (A:Ar):Prop where
 st:MS C P
 nn:C.len≤A.n∧(A.n:Int)≤200000000
 q3:q≤3000
 wc:WC C P (tW P c) q c A.w
 nm:Nw (tW P c - q) c
theorem Nw.mono {t t':Int} {c:Co} (h:Nw t c) (ht:t≤t'):Nw t' c:=by
 have:=h.ev; have:=h.lf; have:=h.fd; have:=h.mo
 exact ⟨by omega,by omega,by omega,by omega,h.il⟩
def WR (C:Cf) (P:MP) (q:Int) (c:Co) (R:Co × Ar):Prop:=R.1.r.rd=c.r.rd∧WI C P (q - 1) R.1 R.2∨(R.1.r.rd=c.r.rd+1∧R.1.r.pc=0∧R.1.r.at'=0)∧WI C P 3000 R.1 R.2
theorem wpos_room {cw pos:Int} (h:Wpos C cw pos):(3≤roomOf (chC cw)∧roomOf (chC cw)≤17)∧pos+roomOf (chC cw)≤chU cw:=by
 have r:=room_bd (chC_bd cw).1 h.c
 refine ⟨r,?_⟩
 have e:(chU cw - pos) % roomOf (chC cw)=0:=by rw [Int.sub_emod,h.um,h.m]; rfl
 have hx:=h.x
 by_cases g:chU cw - pos<roomOf (chC cw)
 ·rw [Int.emod_eq_of_lt (by omega) g] at e; omega
 ·omega
theorem chw_n {v st:Int}:chN (chw v st)≤chN v+1:=by unfold chw putChunk; unfold chN cl; omega
theorem no2.keep {w':Int→Int} (h:no2 C w) (hk:∀ j,0≤j→j<C.C→w' (C.chunk j)=w (C.chunk j)):no2 C w':=fun j j0 j1=>by rw [hk j j0 j1]; exact h j j0 j1
section
variable {q:Int} {c:Co}
theorem WI.q1 (hC:C.ok) (h:WI C P q c A):1≤q:=by
 have hcc:=h.st.cc
 cases h.wc with
 | p0 hp ha hs mw n2 h0 hl hq=>omega
 | p1 hp ha hs mw n2 h0 hl hq=>omega
 | p2 hp ha hs mw n2 h0 hl hq=>omega
 | p3 hp ha hs mw n2 h0 h1 hw hq=>omega
 | p4 hp ha hs mw ev px hq=>have:=px.x; omega
 | p5 hp ha hs mv h0 px hw hq=>have:=wpos_room px; unfold evB at hq; omega
 | p6 hp ha hs mw ev hn hq=>omega
 | p9 hp ha hs mw ev hq=>omega
 | p10 hp hs mw n2 ha hq=>
  have:apA c.a≤10:=by
   cases e:c.a with
   | none=>decide
   | some v=>
    have:=(ha v e).2
    have hT:=hC.T
    show (if v.pc=1 then 1+v.at' else 10)≤10
    split <;> omega
  omega
 | p11 hp ha mw n2 h0 hs hq=>
  have:spS c.s≤45:=by
   cases e:c.s with
   | none=>decide
   | some v=>
    obtain ⟨_,h3,h4,_,h5⟩:=hs v e
    have:=(mw.ck _ h0.1 h0.2).u
    rw [← h4] at this
    rw [sp0]
    split
    ·omega
    ·split <;> omega
  omega
theorem WI.s0 (hC:C.ok) (h:WI C P q c A) (hp:c.r.pc=0) (r:Int):WR C P q c (c.step C who A r):=by
 have st:c.step C who A r=({ c with seen:=(if c.r.at'=0 then [] else c.seen) ++ [seeS (A.w (C.chunk c.r.at'))],r:={ c.r with pc:=1 } },(A.by who).load (C.chunk c.r.at')):=by unfold Co.step; rw [if_pos hp]
 obtain ⟨hS,nn,q3,wc,nm⟩:=h
 cases wc with
 | p0 _ ha hs mw n2 h0 hl hq=>
  rw [st]
  have hl':((if c.r.at'=0 then [] else c.seen).length:Int)=c.r.at':=by
   by_cases z:c.r.at'=0
   ·rw [if_pos z,z]; rfl
   ·rw [if_neg z]; exact hl z
  refine .inl ⟨rfl,hS,nn,by omega,.p1 rfl ha hs ((mw.mono (by omega):MW C P (tW P c - (q - 1)) (-1) (-1) A.w)) n2 h0 ?_ (by show 2*(C.C - c.r.at')+2309≤q - 1; omega),?_⟩
  ·show ((_ ++ _:List Sn).length:Int)=c.r.at'+1
   rw [List.length_append]; show ((_+1:Nat):Int)=_; omega
  ·have:=nm.mono (t':=tW P c - (q - 1)) (by omega)
   exact ⟨this.ev,this.lf,this.fd,this.mo,this.il⟩
 | p1 hp'=>omega
 | p2 hp'=>omega
 | p3 hp'=>omega
 | p4 hp'=>omega
 | p5 hp'=>omega
 | p6 hp'=>omega
 | p9 hp'=>omega
 | p10 hp'=>omega
 | p11 hp'=>omega
theorem WI.s1 (hC:C.ok) (h:WI C P q c A) (hp:c.r.pc=1) (r:Int):WR C P q c (c.step C who A r):=by
 have st:c.step C who A r=({ c with seen:=liveS c.seen c.r.at'.toNat (IntKind.i64.wrap (A.w (C.chunk c.r.at'+1))),r:={ c.r with at':=if C.C≤c.r.at'+1 then 0 else c.r.at'+1,pc:=if C.C≤c.r.at'+1 then 2 else 0 } },(A.by who).load (C.chunk c.r.at'+1)):=by unfold Co.step; rw [if_neg (by omega),if_pos hp]
 obtain ⟨hS,nn,q3,wc,nm⟩:=h
 cases wc with
 | p1 _ ha hs mw n2 h0 hl hq=>
  rw [st]
  have nm':=nm.mono (t':=tW P c - (q - 1)) (by omega)
  have hC3:=hC.C
  have len:((liveS c.seen c.r.at'.toNat (IntKind.i64.wrap (A.w (C.chunk c.r.at'+1)))).length:Int)=c.r.at'+1:=by rw [liveS_len]; exact hl
  by_cases z:C.C≤c.r.at'+1
  ·simp only [if_pos z]
   exact .inl ⟨rfl,hS,nn,by omega,.p2 rfl ha hs ((mw.mono (by omega):MW C P (tW P c - (q - 1)) (-1) (-1) A.w)) n2 ⟨Int.le_refl 0,(by decide:(0:Int)<4)⟩ (len.trans (by omega)) (by show 2310 - 0≤q - 1; omega),nm'.ev,nm'.lf,nm'.fd,nm'.mo,nm'.il⟩
  ·simp only [if_neg z]
   exact .inl ⟨rfl,hS,nn,by omega,.p0 rfl ha hs ((mw.mono (by omega):MW C P (tW P c - (q - 1)) (-1) (-1) A.w)) n2 ⟨by show 0≤c.r.at'+1; omega,by show c.r.at'+1<C.C; omega⟩ (fun _=>len) (by show 2*(C.C - (c.r.at'+1))+2310≤q - 1; omega),nm'.ev,nm'.lf,nm'.fd,nm'.mo,nm'.il⟩
 | p0 hp'=>omega
 | p2 hp'=>omega
 | p3 hp'=>omega
 | p4 hp'=>omega
 | p5 hp'=>omega
 | p6 hp'=>omega
 | p9 hp'=>omega
 | p10 hp'=>omega
 | p11 hp'=>omega
theorem WI.s2 (hC:C.ok) (h:WI C P q c A) (hp:c.r.pc=2) (r:Int) (hr:c.may C A r):WR C P q c (c.step C who A r):=by
 obtain ⟨hS,nn,q3,wc,nm⟩:=h
 cases wc with
 | p2 _ ha hs mw n2 h0 hl hq=>
  have nm':=nm.mono (t':=tW P c - (q - 1)) (by omega)
  have mw':MW C P (tW P c - (q - 1)) (-1) (-1) A.w:=mw.mono (by omega)
  by_cases c4:c.r.at'+1<4
  ·have st:c.step C who A r=({ c with seen:=opS c.seen (A.w (2+c.r.at')),r:={ c.r with at':=c.r.at'+1 } },(A.by who).load (2+c.r.at')):=by unfold Co.step; rw [if_neg (by omega),if_neg (by omega),if_pos hp,if_pos c4]
   rw [st]
   exact .inl ⟨rfl,hS,nn,by omega,.p2 hp ha hs mw' n2 ⟨by show 0≤c.r.at'+1; omega,c4⟩ (by show ((opS _ _).length:Int)=C.C; rw [opS_len]; exact hl) (by show 2310 - (c.r.at'+1)≤q - 1; omega),nm'.ev,nm'.lf,nm'.fd,nm'.mo,nm'.il⟩
  ·obtain ⟨hch,r0,r1⟩:=hr.1 hp c4
   by_cases rn:r<0
   ·have st:c.step C who A r=({ c with seen:=opS c.seen (A.w (2+c.r.at')),r:={ c.r with at' := -1,pc:=10 } },(A.by who).load (2+c.r.at')):=by unfold Co.step; rw [if_neg (by omega),if_neg (by omega),if_pos hp,if_neg c4,if_pos rn]
    rw [st]
    exact .inl ⟨rfl,hS,nn,by omega,.p10 rfl hs mw' n2 (fun v e=>by rw [show c.a=some v from e] at ha; cases ha) (by show 520 - apA c.a≤q - 1; rw [ha]; show 520 - 0≤q - 1; omega),nm'.ev,nm'.lf,nm'.fd,nm'.mo,nm'.il⟩
   ·obtain ⟨x,hx,hm⟩:∃ x,(opS c.seen (A.w (2+c.r.at')))[r.toNat]?=some x∧x.may C:=by
     rcases hch with ⟨q,_⟩ | ⟨_,q⟩
     ·omega
     ·exact q
    have ew:wordS (opS c.seen (A.w (2+c.r.at'))) r.toNat=putChunk x.st x.cl x.us x.sp:=by unfold wordS; rw [hx]
    have st:c.step C who A r=({ c with seen:=opS c.seen (A.w (2+c.r.at')),r:={ c.r with at':=r,pc:=3,w:=putChunk x.st x.cl x.us x.sp } },(A.by who).load (2+c.r.at')):=by unfold Co.step; rw [if_neg (by omega),if_neg (by omega),if_pos hp,if_neg c4,if_neg rn,ew]
    rw [st]
    have h1:=hm.1
    have h2:=hm.2.2.1
    refine .inl ⟨rfl,hS,nn,by omega,.p3 rfl ha hs mw' n2 ⟨by show 0≤r; omega,r1⟩ ⟨?_,?_⟩ (putChunk_in _ _ _ _) (by omega),nm'.ev,nm'.lf,nm'.fd,nm'.mo,nm'.il⟩
    ·show chS (putChunk x.st x.cl x.us x.sp)=1
     rw [h1]; unfold putChunk chS cl; omega
    ·show 0<chU (putChunk x.st x.cl x.us x.sp)
     unfold putChunk chU cl; omega
 | p0 hp'=>omega
 | p1 hp'=>omega
 | p3 hp'=>omega
 | p4 hp'=>omega
 | p5 hp'=>omega
 | p6 hp'=>omega
 | p9 hp'=>omega
 | p10 hp'=>omega
 | p11 hp'=>omega
theorem WI.s3 (hC:C.ok) (h:WI C P q c A) (hp:c.r.pc=3) (hrd:c.r.rd≤1300) (r:Int):WR C P q c (c.step C who A r):=by
 obtain ⟨hS,nn,q3,wc,nm⟩:=h
 have hn0:=hS.n0
 have hT4:tW P c≤4194000:=by unfold tW; omega
 cases wc with
 | p3 _ ha hs mw n2 h0 h1 hw hq=>
  have nm':=nm.mono (t':=tW P c - (q - 1)) (by omega)
  have hcc:=hS.cc
  have st0:c.step C who A r=({ c with r:={ c.r with pos:=0,pc:=if A.w (C.chunk c.r.at')=c.r.w then 4 else 10,w:=if A.w (C.chunk c.r.at')=c.r.w then chw c.r.w 2 else c.r.w } },(A.by who).cas (C.chunk c.r.at') c.r.w (chw c.r.w 2)):=by
   unfold Co.step; rw [if_neg (by omega),if_neg (by omega),if_neg (by omega),if_pos hp]
  by_cases e:A.w (C.chunk c.r.at')=c.r.w
  ·rw [if_pos e,if_pos e,cas_yes (show (A.by who).w _=_ from e)] at st0
   rw [st0]
   obtain ⟨v1,v2,v3,v4⟩:=chw_put (w:=c.r.w) (st:=2) (by decide)
   have kk:=mw.ck _ h0.1 h0.2
   rw [e] at kk
   have kn:=chw_n (v:=c.r.w) (st:=2)
   have kn2:=kk.n
   have hmw:MW C P (tW P c - (q - 1)) (-1) (-1) (upd A.w (C.chunk c.r.at') (chw c.r.w 2)):=by
    refine mw.chunk hC hS (by omega) h0.1 h0.2 v4 ⟨by rw [v2]; exact kk.c,by rw [v3]; exact kk.u,by rw [v3,v2]; exact kk.m,by omega,fun _=>by rw [v3]; exact h1.2⟩ (.inl rfl) (fun _ x x0 x1 xm hne=>?_) (fun s a x s0 s1 l _ _ p=>⟨.inr v1,by rw [v2,e],by rw [v3,e]; exact Int.le_refl _⟩) (by omega)
    rw [v3] at x1; rw [v2] at xm
    exact mw.hd _ x h0.1 h0.2 (.inl (by rw [e]; exact h1.1)) x0 (by rw [e]; exact x1) (by rw [e]; exact xm) hne
   refine .inl ⟨rfl,hS,nn,by omega,.p4 rfl ha hs hmw ⟨h0,upd_same _ _ _,v1,fun j j0 j1 g=>?_,fun _ _ _ _ x x0 x1=>(by have x1':x<0:=x1; omega)⟩ ⟨⟨Int.le_refl 0,by show 0<chU (chw c.r.w 2); rw [v3]; exact h1.2⟩,Int.zero_emod _,by show chC (chw c.r.w 2)≤3; rw [v2]; exact kk.c,by show chU (chw c.r.w 2)≤C.W; rw [v3]; exact kk.u,by show chU (chw c.r.w 2) % roomOf (chC (chw c.r.w 2))=0; rw [v3,v2]; exact kk.m⟩ ?_,nm'.ev,nm'.lf,nm'.fd,nm'.mo,nm'.il⟩
   ·by_cases ej:j=c.r.at'
    ·exact ej
    ·have g':chS (upd A.w (C.chunk c.r.at') (chw c.r.w 2) (C.chunk j))=2:=g
     rw [upd_ne _ _ (ck_ne ej).1] at g'
     exact absurd g' (n2 j j0 j1)
   ·show 530+44*(chU (chw c.r.w 2) - 0)≤q - 1
    have:=kk.u
    rw [v3]; omega
  ·rw [if_neg e,if_neg e,cas_no (show (A.by who).w _≠_ from e)] at st0
   rw [st0]
   exact .inl ⟨rfl,hS,nn,by omega,.p10 rfl hs ((mw.mono (by omega):MW C P (tW P c - (q - 1)) (-1) (-1) A.w)) n2 (fun v e=>by rw [show c.a=some v from e] at ha; cases ha) (by show 520 - apA c.a≤q - 1; rw [ha]; show 520 - 0≤q - 1; omega),nm'.ev,nm'.lf,nm'.fd,nm'.mo,nm'.il⟩
 | p0 hp'=>omega
 | p1 hp'=>omega
 | p2 hp'=>omega
 | p4 hp'=>omega
 | p5 hp'=>omega
 | p6 hp'=>omega
 | p9 hp'=>omega
 | p10 hp'=>omega
 | p11 hp'=>omega
end
end Go.Fl
namespace Go.Fl
open Go
set_option linter.unusedVariables false
set_option linter.unusedSimpArgs false
variable {C:Cf} {w:Int→Int} {P:MP} {A:Ar} {who:Int}
section
variable {q:Int} {c:Co}
theorem Evc.on (hC:C.ok) (hS:MS C P) {t at' pos cw:Int} (h:Evc C P at' pos cw w) (mw:MW C P t (-1) (-1) w) (ht:t≤4194303) (px:Wpos C cw pos) (g:gone' C P (C.base at'+pos) w):Evc C P at' (pos+roomOf (chC cw)) cw w:=by
 refine ⟨h.ab,h.ecw,h.c2,h.s2,fun r r0 r1 l x x0 x1 e=>?_⟩
 by_cases lt:x<pos
 ·exact h.ev r r0 r1 l x x0 lt e
 have pr:=wpos_room px
 have pu:=px.u
 obtain ⟨_,v,o⟩:=mw.at' hC hS ht r0 r1 l (by omega) e
 obtain ⟨j,y,p⟩:=o.pl
 have py:=p.xb
 have pk:=(mw.ck j p.jb.1 p.jb.2).u
 have rr:=hS.rm r0 r1 l
 obtain ⟨e1,e2⟩:=base_inj hC h.ab.1 h.ab.2 x0 (by omega) p.jb.1 p.jb.2 py.1 (by omega) p.ea
 subst e1; subst e2
 have pc:=p.c
 rw [h.ecw] at pc
 have hm:=p.m
 unfold MP.rm at hm
 rw [← pc] at hm
 have e3:(x - pos) % roomOf (chC cw)=0:=by rw [Int.sub_emod,hm,px.m]; rfl
 rw [Int.emod_eq_of_lt (by omega) (by omega)] at e3
 have e4:x=pos:=by omega
 rw [e4] at e
 exact g r r0 r1 l e
theorem Evc.le {at' lim lim' cw:Int} (h:Evc C P at' lim cw w) (hl:lim'≤lim):Evc C P at' lim' cw w:=⟨h.ab,h.ecw,h.c2,h.s2,fun r r0 r1 l x x0 x1=>h.ev r r0 r1 l x x0 (by omega)⟩
theorem WI.on (hC:C.ok) (hS:MS C P) (nn:C.len≤A.n∧(A.n:Int)≤200000000) (q3:q≤3000) (ha:c.a=none) (hs:c.s=none) (hT4:tW P c≤4194000) {mo':Int} {m':Mv} (mw:MW C P (tW P c - (q - 1)) (-1) (-1) A.w) (ev:Evc C P c.r.at' c.r.pos c.r.w A.w) (px:Wpos C c.r.w c.r.pos)
  (g:gone' C P (C.base c.r.at'+c.r.pos) A.w) (hq:evB c.r.w c.r.pos+1≤q) (nm:Nw (tW P c - (q - 1)) c) (hmo:0≤mo'∧mo'≤tW P c - (q - 1)):WR C P q c ({ c with r:=({ c.r with mo:=mo' }:Cr).next (chC c.r.w) (chU c.r.w),m:=m' },A):=by
 have pr:=wpos_room px
 have px2:=px.x
 unfold evB at hq
 have ev2:=ev.on hC hS mw (by omega) px g
 refine .inl ⟨rfl,hS,nn,by omega,?_,nm.ev,nm.lf,nm.fd,hmo,nm.il⟩
 by_cases z:chU c.r.w≤c.r.pos+roomOf (chC c.r.w)
 ·have e6:(if chU c.r.w≤c.r.pos+roomOf (chC c.r.w) then (6:Int) else 4)=6:=if_pos z
  refine .p6 ⟨?_,?_⟩ ha hs mw (ev2.le z) (fun e=>?_) ?_
  ·show 6≤(if chU c.r.w≤c.r.pos+roomOf (chC c.r.w) then (6:Int) else 4); omega
  ·show (if chU c.r.w≤c.r.pos+roomOf (chC c.r.w) then (6:Int) else 4)≤8; omega
  ·have e':(if chU c.r.w≤c.r.pos+roomOf (chC c.r.w) then (6:Int) else 4)=7:=e
   omega
  ·show 535 - (if chU c.r.w≤c.r.pos+roomOf (chC c.r.w) then (6:Int) else 4)≤q - 1; omega
 ·have e4:(if chU c.r.w≤c.r.pos+roomOf (chC c.r.w) then (6:Int) else 4)=4:=if_neg z
  refine .p4 e4 ha hs mw ev2 ⟨⟨?_,?_⟩,?_,px.c,px.u,px.um⟩ ?_
  ·show 0≤c.r.pos+roomOf (chC c.r.w); omega
  ·show c.r.pos+roomOf (chC c.r.w)<chU c.r.w; omega
  ·show (c.r.pos+roomOf (chC c.r.w)) % roomOf (chC c.r.w)=0; rw [Int.add_emod_right]; exact px.m
  ·show 530+44*(chU c.r.w - (c.r.pos+roomOf (chC c.r.w)))≤q - 1; omega
theorem WI.s4 (hC:C.ok) (h:WI C P q c A) (hp:c.r.pc=4) (hrd:c.r.rd≤1300) (r:Int):WR C P q c (c.step C who A r):=by
 obtain ⟨hS,nn,q3,wc,nm⟩:=h
 have hn0:=hS.n0
 have hT4:tW P c≤4194000:=by unfold tW; omega
 cases wc with
 | p4 _ ha hs mw ev px hq=>
  have nm':=nm.mono (t':=tW P c - (q - 1)) (by omega)
  have mw':MW C P (tW P c - (q - 1)) (-1) (-1) A.w:=mw.mono (by omega)
  have pr:=wpos_room px
  have px2:=px.x
  have pk:=hS.pk
  have hu:=px.u
  have hc1:chS (A.w (C.chunk c.r.at'))=2:=by rw [ev.ecw]; exact ev.c2
  have bge:=base_ge hC ev.ab.1 ev.ab.2 px2.1
  have hT:=hC.T; have hSS:=hC.S; have hCC:=hC.C; have hcc:=hS.cc
  have hd:=mw.hd _ c.r.pos ev.ab.1 ev.ab.2 (.inr hc1) px2.1 (by rw [ev.ecw]; exact px2.2) (by rw [ev.ecw]; exact px.m) (by omega)
  by_cases k3:hdK (A.w (C.base c.r.at'+c.r.pos))=3
  ·have st:c.step C who A r=({ c with r:=c.r.next (chC c.r.w) (chU c.r.w) },(A.by who).load (C.base c.r.at'+c.r.pos)):=by
    unfold Co.step; rw [if_neg (by omega),if_neg (by omega),if_neg (by omega),if_neg (by omega),if_pos hp,if_pos k3]
   rw [st]
   refine WI.on (A:=(A.by who).load (C.base c.r.at'+c.r.pos)) (m':=c.m) (mo':=c.r.mo) hC hS nn q3 ha hs hT4 mw' ev px (fun s s0 s1 l e=>?_) (by unfold evB; omega) nm' nm'.mo
   have:=(mw.at' hC hS (by omega) s0 s1 l (by omega) e).1.1
   rw [k3] at this
   split at this <;> omega
  ·by_cases k2:hdK (A.w (C.base c.r.at'+c.r.pos))=2
   ·have st:c.step C who A r=({ c with r:={ c.r with pc:=5 },m:=Mv.new (C.base c.r.at'+c.r.pos) (hdK (A.w (C.base c.r.at'+c.r.pos))) (hdS (A.w (C.base c.r.at'+c.r.pos))) (hdT (A.w (C.base c.r.at'+c.r.pos))) (hdG (A.w (C.base c.r.at'+c.r.pos))) (hdO (A.w (C.base c.r.at'+c.r.pos))) },(A.by who).load (C.base c.r.at'+c.r.pos)):=by
     unfold Co.step; rw [if_neg (by omega),if_neg (by omega),if_neg (by omega),if_neg (by omega),if_pos hp,if_neg k3,if_pos k2]
    rw [st]
    obtain ⟨t0,c0⟩:(0≤hdT (A.w (C.base c.r.at'+c.r.pos))∧hdT (A.w (C.base c.r.at'+c.r.pos))<C.S)∧0≤classOf (hdS (A.w (C.base c.r.at'+c.r.pos))):=by
     rcases hd with e | ⟨_,e1,e2⟩ | ⟨_,e⟩
     ·exact absurd e k3
     ·exact ⟨e1,e2⟩
     ·omega
    have hz:=(class_room' c0).1
    have cwb:0≤c.r.w∧c.r.w<18446744073709551616:=by rw [← ev.ecw]; exact mw.bd _
    have eB:tW P c - evB c.r.w c.r.pos - (q - 1 - evB c.r.w c.r.pos)=tW P c - (q - 1):=by omega
    refine .inl ⟨rfl,hS,nn,by omega,.p5 rfl ha hs (.a ⟨rfl,k2,t0,c0,?_,ev,⟨px2.1,by show c.r.pos<C.W; omega⟩,?_⟩) ev.ab px cwb ?_,nm'.ev,nm'.lf,nm'.fd,nm'.mo,nm'.il⟩
    ·show MW C P (tW P c - evB c.r.w c.r.pos - (q - 1 - evB c.r.w c.r.pos)) (-1) (-1) A.w
     rw [eB]; exact mw'
    ·show 17+C.C+3*hdS (A.w (C.base c.r.at'+c.r.pos))≤q - 1 - evB c.r.w c.r.pos
     unfold evB; omega
    ·show 1+evB c.r.w c.r.pos≤q - 1
     unfold evB; omega
   ·have st:c.step C who A r=({ c with r:={ c.r with pc:=9 } },(A.by who).load (C.base c.r.at'+c.r.pos)):=by
     unfold Co.step; rw [if_neg (by omega),if_neg (by omega),if_neg (by omega),if_neg (by omega),if_pos hp,if_neg k3,if_neg k2]
    rw [st]
    exact .inl ⟨rfl,hS,nn,by omega,.p9 rfl ha hs mw' (ev.le px2.1) (by omega),nm'.ev,nm'.lf,nm'.fd,nm'.mo,nm'.il⟩
 | p0 hp'=>omega
 | p1 hp'=>omega
 | p2 hp'=>omega
 | p3 hp'=>omega
 | p5 hp'=>omega
 | p6 hp'=>omega
 | p9 hp'=>omega
 | p10 hp'=>omega
 | p11 hp'=>omega
theorem WI.s5 (hC:C.ok) (h:WI C P q c A) (hp:c.r.pc=5) (hrd:c.r.rd≤1300) (r:Int):WR C P q c (c.step C who A r):=by
 obtain ⟨hS,nn,q3,wc,nm⟩:=h
 have hn0:=hS.n0
 have hT4:tW P c≤4194000:=by unfold tW; omega
 cases wc with
 | p5 _ ha hs mv h0 px hw hq=>
  have nm':=nm.mono (t':=tW P c - (q - 1)) (by omega)
  have pr:=wpos_room px
  have hB:0≤evB c.r.w c.r.pos:=by unfold evB; omega
  have st:c.step C who A r=({ c with r:=c.r.moved (c.m.step C who A).1 (c.m.step C who A).2.1.a.out,m:=(c.m.step C who A).2.1 },(c.m.step C who A).2.2):=by
   unfold Co.step; rw [if_neg (by omega),if_neg (by omega),if_neg (by omega),if_neg (by omega),if_neg (by omega),if_pos hp]
  have en:(c.m.step C who A).2.2.n=A.n:=MvI.n c.m
  have nn':C.len≤(c.m.step C who A).2.2.n∧((c.m.step C who A).2.2.n:Int)≤200000000:=by rw [en]; exact nn
  rw [st]
  rcases mv.step (who:=who) hC hS (by omega) (by omega) with ⟨b,hm⟩ | ⟨b,hm⟩
  ·rw [b]
   have eq1:q - evB c.r.w c.r.pos - 1=q - 1 - evB c.r.w c.r.pos:=by omega
   rw [eq1] at hm
   have h2:1+evB c.r.w c.r.pos≤q - 1:=by
    by_cases z:q - 1 - evB c.r.w c.r.pos=0
    ·exfalso
     rw [z] at hm
     cases hm with
     | a h=>have:=h.qb; have:=(class_room' h.c).1; have:=hC.C; omega
     | b s v k u hc h=>have:=h.kb; have:=h.pl.kle hC; have:=hS.rm hc.sb.1 hc.sb.2 hc.l; omega
     | c s v xs hc h=>
      have:=hS.rm hc.sb.1 hc.sb.2 hc.l
      rcases h.ph with ⟨h',_,_,h1⟩ | ⟨_,_,⟨_,_,⟨_,_,_,h1⟩ | ⟨_,_,_,_,h1⟩ | ⟨_,_,_,_,h1⟩ | ⟨_,_,h1⟩⟩ | ⟨_,_,_,h1⟩⟩ | ⟨h',_,_,h1⟩
      ·rcases h' with e | ⟨e,_⟩ <;> omega
      all_goals omega
    ·omega
   exact .inl ⟨rfl,hS,nn',by omega,.p5 hp ha hs hm h0 px hw h2,nm'.ev,nm'.lf,nm'.fd,nm'.mo,nm'.il⟩
  ·rw [b]
   obtain ⟨ho,mw,ev,g⟩:=hm
   have et:tW P c - evB c.r.w c.r.pos - (q - evB c.r.w c.r.pos - 1)=tW P c - (q - 1):=by omega
   rw [et] at mw
   have nmo:=nm.mo
   unfold Cr.moved
   rw [if_neg (by simp)]
   rcases ho with o | o | o
   ·rw [o,if_pos rfl]
    exact WI.on (A:=(c.m.step C who A).2.2) (m':=(c.m.step C who A).2.1) (mo':=c.r.mo+1) hC hS nn' q3 ha hs hT4 mw ev px (g (by omega)) (by omega) nm' (by omega)
   ·rw [o,if_neg (by decide),if_pos rfl]
    exact WI.on (A:=(c.m.step C who A).2.2) (m':=(c.m.step C who A).2.1) (mo':=c.r.mo) hC hS nn' q3 ha hs hT4 mw ev px (g (by omega)) (by omega) nm' (by omega)
   ·rw [o,if_neg (by decide),if_neg (by decide)]
    exact .inl ⟨rfl,hS,nn',by omega,.p9 rfl ha hs mw (ev.le px.x.1) (by unfold evB at hq; omega),nm'.ev,nm'.lf,nm'.fd,nm'.mo,nm'.il⟩
 | p0 hp'=>omega
 | p1 hp'=>omega
 | p2 hp'=>omega
 | p3 hp'=>omega
 | p4 hp'=>omega
 | p6 hp'=>omega
 | p9 hp'=>omega
 | p10 hp'=>omega
 | p11 hp'=>omega
end
end Go.Fl
