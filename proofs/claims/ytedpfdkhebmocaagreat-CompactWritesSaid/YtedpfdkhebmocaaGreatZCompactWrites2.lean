/- What the claim leans on, part 2: own readings of the program's functions, what they come to, laws of them. No condition. -/
import Derived.Test.YtedpfdkhebmocaaGreatZCompactWrites1
set_option linter.unusedVariables false
set_option linter.unusedSimpArgs false
namespace Go.Fl
open Go Go.Proofs
set_option maxRecDepth 10000000
def vN(K:KT)(v5:Value)(σ:Mem):Prop:=xM v5 fun dN=>xM dN fun v4=>K v4 σ
def z7(K:KT)(ts:List Value)(ls:List (List Value))(σ:Mem):Prop:=vN K (ts.getD 0 ar) σ
def qX(K:KT)(J1 R1:JT)(v1 v5 v6:Value)(c2:List Value)(σ:Mem):Prop:=xM v6 fun bA=>xF (aq .add .no) [bA,.int .i64 1] fun bm=>xM bm fun v6=>R1 [v1,v5,v6] [c2] σ
def uN(K:KT)(J1 R1:JT)(ts:List Value)(ls:List (List Value))(σ:Mem):Prop:=qX K J1 R1 (ts.getD 0 ar) (ts.getD 1 ar) (ts.getD 2 ar) (ls.getD 0 []) σ
def iP(K:KT)(J1 R1:JT)(v1 v5 v6:Value)(c2:List Value)(σ:Mem):Prop:=xM v6 fun v7=>xD 0 (au 2) fun v8=>xD 2 v8 fun v9=>xO (ah 1 false [v9] c2) fun v10=>xF (aq .lss .no) [v7,v10] fun v11=>aV v11
 (a9 (uN K J1 R1) fun J2=>xD 7 (au 2) fun bK=>xO (ah 1 false [bK] c2) fun bh=>xD 0 (au 2) fun bo=>xO (ah 7 true [bo] c2) fun bB=>xM v6 fun bM=>ff [bB,bM] (fun bJ σ=>CJ [bh,bJ] (fun v20 σ=>iJ [v20] (fun b5 σ=>xF (b7 0 1 false) [b5] fun b8=>xM v1 fun cu=>xF (aq .eql .no) [b8,cu] fun cH=>aV cH
 (xM v5 fun cN=>xF (aq .add .no) [cN,.int .i64 1] fun dE=>xM dE fun v5=>J2 [v1,v5,v6] [c2] σ)
 (J2 [v1,v5,v6] [c2] σ)) σ) σ) σ)
 (J1 [v5] [] σ)
def jK(K:KT)(J1 R1:JT)(ts:List Value)(ls:List (List Value))(σ:Mem):Prop:=iP K J1 R1 (ts.getD 0 ar) (ts.getD 1 ar) (ts.getD 2 ar) (ls.getD 0 []) σ
def P5(a0 a1:Value)(K:KT)(σ:Mem):Prop:=xC (bO 9 [a0] []) fun c2=>xM (.int .i64 0) fun v4=>xM (.int .i64 0) fun v5=>a9 (z7 K) fun J1=>xM (.int .i64 0) fun v6=>eY (jK K J1) [a1,v5,v6] [c2] σ
def tc:Spec:=fun args K σ=>match args with
  | [a0,a1]=>P5 a0 a1 K σ
  | _=>False
noncomputable def N1:Cx:={ P:=Tryz.prog,T:=[(23,.none,ff),(13,.read,CJ),(22,.none,iJ)],loc:=[(2,2),(8,2),(9,2),(14,2),(16,2)],eqt:=[],n:=28,aL:=[(4,[1,5,6],[2]),(1000005,[1,5,6],[2]),(1000008,[5],[])] }
theorem Zs:cC N1 Tryz.f28 (aP Tryz.f28) 2=tc:=by
  funext args K σ
  rcases args with _|⟨a0,_|⟨a1,_|⟨b,r⟩⟩⟩<;>kernel_rfl
theorem abl:Entry Tryz.prog 28 .write tc:=
  entry (C:=N1) (aS.cons BN (aS.cons abq (aS.cons BM aS.nil))) aG Tryz.func28 (by kernel_rfl) (by kernel_rfl) (by kernel_rfl) Zs
attribute [irreducible] vN z7 qX uN iP jK P5 tc
def Qs(a0:Value)(K:KT)(σ:Mem):Prop:=xM a0 fun v3=>xF (aq .eql .ptr) [v3,.pointer none] fun v4=>aV v4
 (xF (aM [(0,1),(1,1),(2,1),(3,1),(4,1)] [.int .i64 0,.int .i64 0,.int .i64 0,.int .i64 0,.int .i64 0] []) [] fun v5=>xC (aH 5 [(au 2),v5] [.int .i64 0,.int .i64 0,.int .i64 0,.int .i64 0,.int .i64 0]) fun c2=>xO (ah 5 true [(au 2)] c2) fun r2=>K r2 σ)
 (xM a0 fun v6=>xF ay [v6] fun v7=>xD 9 v7 fun v8=>aj 5 true [v8] (fun v9 σ=>xC (aH 5 [(au 2),v9] [.int .i64 0,.int .i64 0,.int .i64 0,.int .i64 0,.int .i64 0]) fun c2=>xO (ah 5 true [(au 2)] c2) fun r2=>K r2 σ) σ)
def nD:Spec:=fun args K σ=>match args with
  | [a0]=>Qs a0 K σ
  | _=>False
noncomputable def Ou:Cx:={ P:=Tryz.prog,T:=[],loc:=[(2,2)],eqt:=[(39,.ptr)],n:=10,aL:=[] }
theorem ZT:cC Ou Tryz.f16 (aP Tryz.f16) 1=nD:=by
  funext args K σ
  rcases args with _|⟨a0,_|⟨b,r⟩⟩<;>kernel_rfl
theorem VW:Entry Tryz.prog 16 .read nD:=
  entry (C:=Ou) aS.nil aG Tryz.func16 (by kernel_rfl) (by kernel_rfl) (by kernel_rfl) ZT
attribute [irreducible] Qs nD
def Pj(a0 a1:Value)(K:KT)(σ:Mem):Prop:=xC (bO 7 [a0] []) fun c2=>xC (bO 6 [a1] []) fun c3=>xM (.bool false) fun v4=>xD 0 (au 3) fun v5=>xD 0 v5 fun v6=>xO (ah 1 false [v6] c3) fun v7=>xF (aq .eql .no) [v7,.int .i64 1] fun v8=>xM v8 fun v9=>aV v9
 (xD 5 (au 3) fun v10=>xO (ah 1 false [v10] c3) fun v11=>xF (mV .not) [v11] fun bA=>xF aB [.bool true,bA,.bool false] fun bm=>xM bm fun bK=>aV bK
 (xD 0 (au 3) fun bh=>xD 2 bh fun bo=>xO (ah 1 false [bo] c3) fun bB=>xF (aq .gtr .no) [bB,.int .i64 0] fun bM=>xF aB [.bool true,bM,.bool false] fun bJ=>xM bJ fun v20=>aV v20
 (xD 4 (au 3) fun b5=>xO (ah 1 false [b5] c3) fun b8=>xF (aq .leq .no) [b8,.int .i64 0] fun cu=>xM cu fun cH=>aV cH
 (xF aB [.bool true,.bool true,undef] fun dK=>xF aB [.bool true,dK,.bool false] fun dh=>xM dh fun v4=>K v4 σ)
 (xD 4 (au 3) fun cN=>xO (ah 1 false [cN] c3) fun dE=>xF (aq .mul .no) [.int .i64 1000,dE] fun dN=>xD 5 (au 2) fun et=>xO (ah 1 false [et] c2) fun eW=>xD 0 (au 3) fun v30=>xD 2 v30 fun eT=>xO (ah 1 false [eT] c3) fun dM=>xF (aq .mul .no) [eW,dM] fun eR=>xF (aq .lss .no) [dN,eR] fun eQ=>xF aB [.bool false,.bool true,eQ] fun dK=>xF aB [.bool true,dK,.bool false] fun dh=>xM dh fun v4=>K v4 σ))
 (xF aB [.bool false,undef,.bool false] fun dh=>xM dh fun v4=>K v4 σ))
 (xF aB [.bool false,undef,.bool false] fun bJ=>xM bJ fun v20=>aV v20
 (xD 4 (au 3) fun b5=>xO (ah 1 false [b5] c3) fun b8=>xF (aq .leq .no) [b8,.int .i64 0] fun cu=>xM cu fun cH=>aV cH
 (xF aB [.bool true,.bool true,undef] fun dK=>xF aB [.bool true,dK,.bool false] fun dh=>xM dh fun v4=>K v4 σ)
 (xD 4 (au 3) fun cN=>xO (ah 1 false [cN] c3) fun dE=>xF (aq .mul .no) [.int .i64 1000,dE] fun dN=>xD 5 (au 2) fun et=>xO (ah 1 false [et] c2) fun eW=>xD 0 (au 3) fun v30=>xD 2 v30 fun eT=>xO (ah 1 false [eT] c3) fun dM=>xF (aq .mul .no) [eW,dM] fun eR=>xF (aq .lss .no) [dN,eR] fun eQ=>xF aB [.bool false,.bool true,eQ] fun dK=>xF aB [.bool true,dK,.bool false] fun dh=>xM dh fun v4=>K v4 σ))
 (xF aB [.bool false,undef,.bool false] fun dh=>xM dh fun v4=>K v4 σ)))
 (xF aB [.bool false,undef,.bool false] fun bm=>xM bm fun bK=>aV bK
 (xD 0 (au 3) fun bh=>xD 2 bh fun bo=>xO (ah 1 false [bo] c3) fun bB=>xF (aq .gtr .no) [bB,.int .i64 0] fun bM=>xF aB [.bool true,bM,.bool false] fun bJ=>xM bJ fun v20=>aV v20
 (xD 4 (au 3) fun b5=>xO (ah 1 false [b5] c3) fun b8=>xF (aq .leq .no) [b8,.int .i64 0] fun cu=>xM cu fun cH=>aV cH
 (xF aB [.bool true,.bool true,undef] fun dK=>xF aB [.bool true,dK,.bool false] fun dh=>xM dh fun v4=>K v4 σ)
 (xD 4 (au 3) fun cN=>xO (ah 1 false [cN] c3) fun dE=>xF (aq .mul .no) [.int .i64 1000,dE] fun dN=>xD 5 (au 2) fun et=>xO (ah 1 false [et] c2) fun eW=>xD 0 (au 3) fun v30=>xD 2 v30 fun eT=>xO (ah 1 false [eT] c3) fun dM=>xF (aq .mul .no) [eW,dM] fun eR=>xF (aq .lss .no) [dN,eR] fun eQ=>xF aB [.bool false,.bool true,eQ] fun dK=>xF aB [.bool true,dK,.bool false] fun dh=>xM dh fun v4=>K v4 σ))
 (xF aB [.bool false,undef,.bool false] fun dh=>xM dh fun v4=>K v4 σ))
 (xF aB [.bool false,undef,.bool false] fun bJ=>xM bJ fun v20=>aV v20
 (xD 4 (au 3) fun b5=>xO (ah 1 false [b5] c3) fun b8=>xF (aq .leq .no) [b8,.int .i64 0] fun cu=>xM cu fun cH=>aV cH
 (xF aB [.bool true,.bool true,undef] fun dK=>xF aB [.bool true,dK,.bool false] fun dh=>xM dh fun v4=>K v4 σ)
 (xD 4 (au 3) fun cN=>xO (ah 1 false [cN] c3) fun dE=>xF (aq .mul .no) [.int .i64 1000,dE] fun dN=>xD 5 (au 2) fun et=>xO (ah 1 false [et] c2) fun eW=>xD 0 (au 3) fun v30=>xD 2 v30 fun eT=>xO (ah 1 false [eT] c3) fun dM=>xF (aq .mul .no) [eW,dM] fun eR=>xF (aq .lss .no) [dN,eR] fun eQ=>xF aB [.bool false,.bool true,eQ] fun dK=>xF aB [.bool true,dK,.bool false] fun dh=>xM dh fun v4=>K v4 σ))
 (xF aB [.bool false,undef,.bool false] fun dh=>xM dh fun v4=>K v4 σ)))
def Bb:Spec:=fun args K σ=>match args with
  | [a0,a1]=>Pj a0 a1 K σ
  | _=>False
noncomputable def M8:Cx:={ P:=Tryz.prog,T:=[],loc:=[(2,2),(3,3),(5,3),(6,3),(10,3),(15,3),(16,3),(21,3),(25,3),(28,2),(30,3),(31,3)],eqt:=[],n:=37,aL:=[] }
theorem YF:cC M8 Tryz.f121 (aP Tryz.f121) 2=Bb:=by
  funext args K σ
  rcases args with _|⟨a0,_|⟨a1,_|⟨b,r⟩⟩⟩<;>kernel_rfl
theorem aa4:Entry Tryz.prog 121 .none Bb:=
  entry (C:=M8) aS.nil aG Tryz.func121 (by kernel_rfl) (by kernel_rfl) (by kernel_rfl) YF
attribute [irreducible] Pj Bb
def qG(K:KT)(v1 v2 b5:Value)(σ:Mem):Prop:=aV b5
 (xM v1 fun b8=>xM b8 fun v6=>K v6 σ)
 (xM v2 fun cu=>xM cu fun v6=>K v6 σ)
def qH(K:KT)(ts:List Value)(ls:List (List Value))(σ:Mem):Prop:=qG K (ts.getD 0 ar) (ts.getD 1 ar) (ts.getD 2 ar) σ
def Pg(a0 a1 a2:Value)(K:KT)(σ:Mem):Prop:=xM (.int .i64 0) fun v6=>a9 (qH K) fun J1=>xM a1 fun v7=>xF (aq .geq .no) [v7,.int .i64 0] fun v8=>xM v8 fun v9=>aV v9
 (xM a0 fun v10=>xM a1 fun v11=>xF (dx 6) [v10,v11] fun bA=>xD 4 bA fun bm=>aj 1 false [bm] (fun bK σ=>xM a0 fun bh=>xM a2 fun bo=>xF (dx 6) [bh,bo] fun bB=>xD 4 bB fun bM=>aj 1 false [bM] (fun bJ σ=>xF (aq .leq .no) [bK,bJ] fun v20=>xF aB [.bool true,v20,.bool false] fun b5=>J1 [a1,a2,b5] [] σ) σ) σ)
 (xF aB [.bool false,undef,.bool false] fun b5=>J1 [a1,a2,b5] [] σ)
def Ea:Spec:=fun args K σ=>match args with
  | [a0,a1,a2]=>Pg a0 a1 a2 K σ
  | _=>False
noncomputable def M7:Cx:={ P:=Tryz.prog,T:=[],loc:=[],eqt:=[],n:=24,aL:=[(1000003,[1,2,21],[])] }
theorem YE:cC M7 Tryz.f122 (aP Tryz.f122) 3=Ea:=by
  funext args K σ
  rcases args with _|⟨a0,_|⟨a1,_|⟨a2,_|⟨b,r⟩⟩⟩⟩<;>kernel_rfl
theorem aa3:Entry Tryz.prog 122 .read Ea:=
  entry (C:=M7) aS.nil aG Tryz.func122 (by kernel_rfl) (by kernel_rfl) (by kernel_rfl) YE
attribute [irreducible] qG qH Pg Ea
def vy(K:KT)(v5:Value)(σ:Mem):Prop:=xM v5 fun gY=>xM gY fun v4=>K v4 σ
def jZ(K:KT)(ts:List Value)(ls:List (List Value))(σ:Mem):Prop:=vy K (ts.getD 0 ar) σ
def vx(K:KT)(J1 R1:JT)(v1 v5 v9 v10 v11:Value)(c2:List Value)(σ:Mem):Prop:=xF (aq .add .no) [v11,.int .i64 1] fun gZ=>xM gZ fun v11=>R1 [v1,v5,v9,v10,v11] [c2] σ
def mF(K:KT)(J1 R1:JT)(ts:List Value)(ls:List (List Value))(σ:Mem):Prop:=vx K J1 R1 (ts.getD 0 ar) (ts.getD 1 ar) (ts.getD 2 ar) (ts.getD 3 ar) (ts.getD 4 ar) (ls.getD 0 []) σ
def vw(K:KT)(J1 R1 J2:JT)(v1 v5 v6 v9 v10 v11:Value)(c2:List Value)(σ:Mem):Prop:=xM v1 fun fj=>xM v5 fun gL=>xM v6 fun iC=>Ea [fj,gL,iC] (fun iF σ=>xM iF fun v5=>J2 [v1,v5,v9,v10,v11] [c2] σ) σ
def uI(K:KT)(J1 R1 J2:JT)(ts:List Value)(ls:List (List Value))(σ:Mem):Prop:=vw K J1 R1 J2 (ts.getD 0 ar) (ts.getD 1 ar) (ts.getD 2 ar) (ts.getD 3 ar) (ts.getD 4 ar) (ts.getD 5 ar) (ls.getD 0 []) σ
def vu(K:KT)(J1 R1 J2 J3 R4:JT)(v1 v5 v6 v9 v10 v11 v20 b5:Value)(c2 c7:List Value)(σ:Mem):Prop:=xF (aq .add .no) [b5,.int .i64 1] fun fC=>xM fC fun b5=>R4 [v1,v5,v6,v9,v10,v11,v20,b5] [c2,c7] σ
def uH(K:KT)(J1 R1 J2 J3 R4:JT)(ts:List Value)(ls:List (List Value))(σ:Mem):Prop:=vu K J1 R1 J2 J3 R4 (ts.getD 0 ar) (ts.getD 1 ar) (ts.getD 2 ar) (ts.getD 3 ar) (ts.getD 4 ar) (ts.getD 5 ar) (ts.getD 6 ar) (ts.getD 7 ar) (ls.getD 0 []) (ls.getD 1 []) σ
def fy(K:KT)(J1 R1 J2 J3 R4:JT)(v1 v5 v6 v9 v10 v11 v20 b5:Value)(c2 c7:List Value)(σ:Mem):Prop:=xF (aq .lss .no) [b5,v20] fun b8=>aV b8
 (a9 (uH K J1 R1 J2 J3 R4) fun J4=>xM b5 fun cu=>xM cu fun v8=>xO (ah 7 true [(au 2)] c2) fun cH=>xM v1 fun cN=>xM v8 fun dE=>xF (dx 6) [cN,dE] fun dN=>aj 6 true [dN] (fun et σ=>Bb [cH,et] (fun eW σ=>xM eW fun v30=>aV v30
 (xM v1 fun eT=>xM v8 fun dM=>xF (dx 6) [eT,dM] fun eR=>xD 4 eR fun eQ=>aj 1 false [eQ] (fun dK σ=>xD 4 (au 7) fun dh=>xO (ah 1 false [dh] c7) fun fV=>xF (aq .leq .no) [dK,fV] fun gu=>xF aB [.bool true,gu,.bool false] fun fU=>aV fU
 (J2 [v1,v5,v9,v10,v11] [c2] σ)
 (J4 [v1,v5,v6,v9,v10,v11,v20,b5] [c2,c7] σ)) σ)
 (xF aB [.bool false,undef,.bool false] fun fU=>aV fU
 (J2 [v1,v5,v9,v10,v11] [c2] σ)
 (J4 [v1,v5,v6,v9,v10,v11,v20,b5] [c2,c7] σ))) σ) σ)
 (J3 [v1,v5,v6,v9,v10,v11] [c2] σ)
def fZ(K:KT)(J1 R1 J2 J3 R4:JT)(ts:List Value)(ls:List (List Value))(σ:Mem):Prop:=fy K J1 R1 J2 J3 R4 (ts.getD 0 ar) (ts.getD 1 ar) (ts.getD 2 ar) (ts.getD 3 ar) (ts.getD 4 ar) (ts.getD 5 ar) (ts.getD 6 ar) (ts.getD 7 ar) (ls.getD 0 []) (ls.getD 1 []) σ
def fA(K:KT)(J1 R1:JT)(v1 v5 v9 v10 v11:Value)(c2:List Value)(σ:Mem):Prop:=xF (aq .lss .no) [v11,v10] fun bA=>aV bA
 (a9 (mF K J1 R1) fun J2=>xM v11 fun bm=>xF (dx 6) [v9,v11] fun bK=>aj 6 true [bK] (fun bh σ=>xM bm fun v6=>xC (aH 6 [(au 7),bh] [.int .i64 0,.int .i64 0,.int .i64 0,.int .i64 0,.int .i64 0,.bool false]) fun c7=>xO (ah 7 true [(au 2)] c2) fun bo=>xO (ah 6 true [(au 7)] c7) fun bB=>Bb [bo,bB] (fun bM σ=>xF (mV .not) [bM] fun bJ=>aV bJ
 (J2 [v1,v5,v9,v10,v11] [c2] σ)
 (a9 (uI K J1 R1 J2) fun J3=>xM v6 fun v20=>xM (.int .i64 0) fun b5=>eY (fZ K J1 R1 J2 J3) [v1,v5,v6,v9,v10,v11,v20,b5] [c2,c7] σ)) σ) σ)
 (J1 [v5] [] σ)
def f_(K:KT)(J1 R1:JT)(ts:List Value)(ls:List (List Value))(σ:Mem):Prop:=fA K J1 R1 (ts.getD 0 ar) (ts.getD 1 ar) (ts.getD 2 ar) (ts.getD 3 ar) (ts.getD 4 ar) (ls.getD 0 []) σ
def Pk(a0 a1:Value)(K:KT)(σ:Mem):Prop:=xC (bO 7 [a0] []) fun c2=>xM (.int .i64 0) fun v4=>xM (.int .i64 (-1)) fun v5=>a9 (jZ K) fun J1=>xM a1 fun v9=>xF jS [v9] fun v10=>xM (.int .i64 0) fun v11=>eY (f_ K J1) [a1,v5,v9,v10,v11] [c2] σ
def CE:Spec:=fun args K σ=>match args with
  | [a0,a1]=>Pk a0 a1 K σ
  | _=>False
noncomputable def M9:Cx:={ P:=Tryz.prog,T:=[(121,.none,Bb),(122,.read,Ea)],loc:=[(2,2),(7,7),(36,7)],eqt:=[],n:=47,aL:=[(4,[1,5,9,10,11],[2]),(8,[1,5,6,9,10,11,20,21],[2,7]),(1000011,[1,5,6,9,10,11,20,21],[2,7]),(1000012,[1,5,6,9,10,11],[2]),(1000013,[1,5,9,10,11],[2]),(1000014,[5],[])] }
theorem YG:cC M9 Tryz.f90 (aP Tryz.f90) 2=CE:=by
  funext args K σ
  rcases args with _|⟨a0,_|⟨a1,_|⟨b,r⟩⟩⟩<;>kernel_rfl
theorem aa5:Entry Tryz.prog 90 .write CE:=
  entry (C:=M9) (aS.cons aa4 (aS.cons aa3 aS.nil)) aG Tryz.func90 (by kernel_rfl) (by kernel_rfl) (by kernel_rfl) YG
attribute [irreducible] vy jZ vx mF vw uI vu uH fy fZ fA f_ Pk CE
def rj(K:KT)(v0:Value)(σ:Mem):Prop:=xM v0 fun kx=>xF ay [kx] fun jw=>xD 0 jw fun j7=>ax 1 [j7,.int .i64 1] (fun _v σ=>K (.tuple #[]) σ) σ
def uX(K:KT)(ts:List Value)(ls:List (List Value))(σ:Mem):Prop:=rj K (ts.getD 0 ar) σ
def rk(K:KT)(v0:Value)(c3:List Value)(σ:Mem):Prop:=a9 (uX K) fun J2=>
(xM v0 fun sS=>xM v0 fun sR=>xF ay [sR] fun sQ=>xD 1 sQ fun rD=>aj 1 false [rD] (fun sP σ=>xO (ah 9 true [(au 3)] c3) fun sO=>xD 0 (au 3) fun tM=>xO (ah 7 true [tM] c3) fun tL=>xM v0 fun va=>xF ay [va] fun tK=>xD 2 tK fun ue=>aj 1 false [ue] (fun wP σ=>ff [tL,wP] (fun wO σ=>cG [sO,wO] (fun wN σ=>iJ [wN] (fun wM σ=>xF (aM [(0,4),(4,1),(5,1)] [.int .i64 0,.int .i64 0,.int .i64 0,.int .i64 0,.int .i64 0,.bool false] [0]) [wM] fun i_=>xC (iu 6 1 [.int .i64 0,.int .i64 0,.int .i64 0,.int .i64 0,.int .i64 0,.bool false] [0] [i_] []) fun Sk=>cv 6 48 Sk [sP,(rR 101 1 6)] (fun ky σ=>xF ay [sS] fun jQ=>xD 1 jQ fun jP=>ax 1 [jP,ky] (fun _v σ=>J2 [v0] [] σ) σ) σ) σ) σ) σ) σ) σ) ∧
(xO (ah 9 true [(au 3)] c3) fun sO=>xD 0 (au 3) fun tM=>xO (ah 7 true [tM] c3) fun tL=>xM v0 fun va=>xF ay [va] fun tK=>xD 2 tK fun ue=>aj 1 false [ue] (fun wP σ=>ff [tL,wP] (fun wO σ=>cG [sO,wO] (fun wN σ=>xM v0 fun sS=>xM v0 fun sR=>xF ay [sR] fun sQ=>xD 1 sQ fun rD=>aj 1 false [rD] (fun sP σ=>iJ [wN] (fun wM σ=>xF (aM [(0,4),(4,1),(5,1)] [.int .i64 0,.int .i64 0,.int .i64 0,.int .i64 0,.int .i64 0,.bool false] [0]) [wM] fun i_=>xC (iu 6 1 [.int .i64 0,.int .i64 0,.int .i64 0,.int .i64 0,.int .i64 0,.bool false] [0] [i_] []) fun Sk=>cv 6 48 Sk [sP,(rR 101 1 6)] (fun ky σ=>xF ay [sS] fun jQ=>xD 1 jQ fun jP=>ax 1 [jP,ky] (fun _v σ=>J2 [v0] [] σ) σ) σ) σ) σ) σ) σ) σ)
def uY(K:KT)(ts:List Value)(ls:List (List Value))(σ:Mem):Prop:=rk K (ts.getD 0 ar) (ls.getD 0 []) σ
def wI(K:KT)(v0:Value)(c3:List Value)(σ:Mem):Prop:=xM v0 fun iG=>xM v0 fun gM=>xM v0 fun iY=>xF ay [iY] fun iX=>xD 2 iX fun iW=>aj 1 false [iW] (fun iV σ=>xF (aq .add .no) [iV,.int .i64 1] fun iU=>xF ay [iG] fun iT=>xD 2 iT fun jv=>ax 1 [jv,iU] (fun _v σ=>xF ay [gM] fun lS=>xD 0 lS fun mK=>ax 1 [mK,.int .i64 0] (fun _v σ=>xM v0 fun mJ=>xF ay [mJ] fun mI=>xD 2 mI fun kv=>aj 1 false [kv] (fun pR σ=>xD 0 (au 3) fun rG=>xD 2 rG fun pQ=>xO (ah 1 false [pQ] c3) fun pP=>xF (aq .geq .no) [pR,pP] fun pN=>aV pN
 (xM v0 fun pM=>xM v0 fun pL=>xF ay [pM] fun pK=>xD 2 pK fun rF=>ax 1 [rF,.int .i64 0] (fun _v σ=>xF ay [pL] fun pJ=>xD 0 pJ fun sU=>ax 1 [sU,.int .i64 2] (fun _v σ=>K (.tuple #[]) σ) σ) σ)
 (K (.tuple #[]) σ)) σ) σ) σ) σ
def Aj(K:KT)(ts:List Value)(ls:List (List Value))(σ:Mem):Prop:=wI K (ts.getD 0 ar) (ls.getD 0 []) σ
def wF(K:KT)(v0:Value)(c3:List Value)(σ:Mem):Prop:=xM v0 fun dN=>xF ay [dN] fun et=>xD 2 et fun eW=>aj 1 false [eW] (fun v30 σ=>xF (aq .add .no) [v30,.int .i64 1] fun eT=>xF ay [dN] fun dM=>xD 2 dM fun eR=>ax 1 [eR,eT] (fun _v σ=>xM v0 fun eQ=>xF ay [eQ] fun dK=>xD 2 dK fun dh=>aj 1 false [dh] (fun fV σ=>xF (aq .lss .no) [fV,.int .i64 4] fun gu=>aV gu
 (K (.tuple #[]) σ)
 (xM v0 fun fU=>xM v0 fun fC=>xD 0 (au 3) fun fj=>xO (ah 7 true [fj] c3) fun gL=>xM v0 fun iC=>xF ay [iC] fun iF=>xD 1 iF fun gZ=>aj 1 false [gZ] (fun gY σ=>CE [gL,gY] (fun gP σ=>xF ay [fU] fun iB=>xD 2 iB fun iA=>ax 1 [iA,gP] (fun _v σ=>xF ay [fC] fun gX=>xD 0 gX fun gW=>ax 1 [gW,.int .i64 3] (fun _v σ=>xM v0 fun fB=>xF ay [fB] fun gr=>xD 2 gr fun e9=>aj 1 false [e9] (fun fK σ=>xF (aq .lss .no) [fK,.int .i64 0] fun gD=>aV gD
 (xM v0 fun fh=>xF ay [fh] fun dY=>xD 0 dY fun jo=>ax 1 [jo,.int .i64 10] (fun _v σ=>K (.tuple #[]) σ) σ)
 (xM v0 fun jI=>xM v0 fun jH=>xF ay [jH] fun jN=>xD 1 jN fun jG=>aj 1 false [jG] (fun gn σ=>xM v0 fun gk=>xF ay [gk] fun gC=>xD 2 gC fun gj=>aj 1 false [gj] (fun fT σ=>xF (dx 6) [gn,fT] fun cQ=>xD 0 cQ fun pd=>aj 4 true [pd] (fun nH σ=>oc [nH] (fun nZ σ=>xF ay [jI] fun oN=>xD 4 oN fun nY=>ax 1 [nY,nZ] (fun _v σ=>K (.tuple #[]) σ) σ) σ) σ) σ) σ)) σ) σ) σ) σ) σ)) σ) σ) σ
def uV(K:KT)(ts:List Value)(ls:List (List Value))(σ:Mem):Prop:=wF K (ts.getD 0 ar) (ls.getD 0 []) σ
def Gw(a0 a1:Value)(K:KT)(σ:Mem):Prop:=xC (bO 9 [a1] []) fun c3=>xM a0 fun v5=>xF ay [v5] fun v6=>xD 0 v6 fun v7=>aj 1 false [v7] (fun v8 σ=>xF (aq .eql .no) [v8,.int .i64 0] fun mH=>xM mH fun nX=>aV nX
 (a9 (uY K) fun J1=>xM a0 fun rE=>xF ay [rE] fun sT=>xD 2 sT fun pH=>aj 1 false [pH] (fun ui σ=>xF (aq .eql .no) [ui,.int .i64 0] fun uh=>aV uh
 (xM a0 fun vc=>xF ay [vc] fun ug=>xD 1 ug fun uf=>ax 1 [uf,(.slice none 0 0)] (fun _v σ=>J1 [a0] [c3] σ) σ)
 (J1 [a0] [c3] σ)) σ)
 (xF (aq .eql .no) [v8,.int .i64 1] fun kP=>xM kP fun j6=>aV j6
 (a9 (Aj K) fun J3=>
(xM a0 fun h_=>xF ay [h_] fun iI=>xD 1 iI fun h9=>aj 1 false [h9] (fun hZ σ=>xM a0 fun hY=>xF ay [hY] fun hH=>xD 2 hH fun iH=>aj 1 false [iH] (fun e_ σ=>xO (ah 9 true [(au 3)] c3) fun g_=>xD 0 (au 3) fun g8=>xO (ah 7 true [g8] c3) fun iZ=>xM a0 fun jO=>xF ay [jO] fun g7=>xD 2 g7 fun fI=>aj 1 false [fI] (fun fH σ=>ff [iZ,fH] (fun fG σ=>xF (aq .add .no) [fG,.int .i64 1] fun fk=>cG [g_,fk] (fun fF σ=>xF (cZ .i64) [fF] fun eA=>xF (dx 6) [hZ,e_] fun fE=>xD 4 fE fun fD=>ax 1 [fD,eA] (fun _v σ=>J3 [a0] [c3] σ) σ) σ) σ) σ) σ) σ) ∧
(xM a0 fun h_=>xF ay [h_] fun iI=>xD 1 iI fun h9=>aj 1 false [h9] (fun hZ σ=>xO (ah 9 true [(au 3)] c3) fun g_=>xD 0 (au 3) fun g8=>xO (ah 7 true [g8] c3) fun iZ=>xM a0 fun jO=>xF ay [jO] fun g7=>xD 2 g7 fun fI=>aj 1 false [fI] (fun fH σ=>ff [iZ,fH] (fun fG σ=>xF (aq .add .no) [fG,.int .i64 1] fun fk=>cG [g_,fk] (fun fF σ=>xM a0 fun hY=>xF ay [hY] fun hH=>xD 2 hH fun iH=>aj 1 false [iH] (fun e_ σ=>xF (cZ .i64) [fF] fun eA=>xF (dx 6) [hZ,e_] fun fE=>xD 4 fE fun fD=>ax 1 [fD,eA] (fun _v σ=>J3 [a0] [c3] σ) σ) σ) σ) σ) σ) σ) ∧
(xM a0 fun hY=>xF ay [hY] fun hH=>xD 2 hH fun iH=>aj 1 false [iH] (fun e_ σ=>xO (ah 9 true [(au 3)] c3) fun g_=>xD 0 (au 3) fun g8=>xO (ah 7 true [g8] c3) fun iZ=>xM a0 fun jO=>xF ay [jO] fun g7=>xD 2 g7 fun fI=>aj 1 false [fI] (fun fH σ=>ff [iZ,fH] (fun fG σ=>xF (aq .add .no) [fG,.int .i64 1] fun fk=>cG [g_,fk] (fun fF σ=>xM a0 fun h_=>xF ay [h_] fun iI=>xD 1 iI fun h9=>aj 1 false [h9] (fun hZ σ=>xF (cZ .i64) [fF] fun eA=>xF (dx 6) [hZ,e_] fun fE=>xD 4 fE fun fD=>ax 1 [fD,eA] (fun _v σ=>J3 [a0] [c3] σ) σ) σ) σ) σ) σ) σ) ∧
(xO (ah 9 true [(au 3)] c3) fun g_=>xD 0 (au 3) fun g8=>xO (ah 7 true [g8] c3) fun iZ=>xM a0 fun jO=>xF ay [jO] fun g7=>xD 2 g7 fun fI=>aj 1 false [fI] (fun fH σ=>ff [iZ,fH] (fun fG σ=>xF (aq .add .no) [fG,.int .i64 1] fun fk=>cG [g_,fk] (fun fF σ=>xM a0 fun h_=>xF ay [h_] fun iI=>xD 1 iI fun h9=>aj 1 false [h9] (fun hZ σ=>xM a0 fun hY=>xF ay [hY] fun hH=>xD 2 hH fun iH=>aj 1 false [iH] (fun e_ σ=>xF (cZ .i64) [fF] fun eA=>xF (dx 6) [hZ,e_] fun fE=>xD 4 fE fun fD=>ax 1 [fD,eA] (fun _v σ=>J3 [a0] [c3] σ) σ) σ) σ) σ) σ) σ))
 (a9 (uV K) fun J4=>xO (ah 9 true [(au 3)] c3) fun v9=>xM a0 fun v10=>xF ay [v10] fun v11=>xD 2 v11 fun bA=>aj 1 false [bA] (fun bm σ=>yD [bm] (fun bK σ=>cG [v9,bK] (fun bh σ=>xF (cZ .i64) [bh] fun bo=>xM bo fun v4=>xM v4 fun bB=>xF (aq .gtr .no) [bB,.int .i64 0] fun bM=>aV bM
 (xM a0 fun bJ=>xF ay [bJ] fun v20=>xD 1 v20 fun b5=>aj 1 false [b5] (fun b8 σ=>xM v4 fun cu=>xF (aq .sub .no) [cu,.int .i64 1] fun cH=>xF (dx 6) [b8,cH] fun cN=>xD 5 cN fun dE=>ax 1 [dE,.bool true] (fun _v σ=>J4 [a0] [c3] σ) σ) σ)
 (J4 [a0] [c3] σ)) σ) σ) σ))) σ
def Bl:Spec:=fun args K σ=>match args with
  | [a0,a1]=>Gw a0 a1 K σ
  | _=>False
noncomputable def Oq:Cx:={ P:=Tryz.prog,T:=[(23,.none,ff),(54,.write,cG),(22,.none,iJ),(35,.none,yD),(90,.write,CE),(91,.none,oc)],loc:=[(3,3),(41,3),(91,3),(101,101),(119,3),(146,3),(147,3)],eqt:=[],n:=156,aL:=[(1000006,[0],[3]),(1000015,[0],[3]),(1000016,[0],[]),(1000019,[0],[3])],alt:=[(14,13,[4],[([4],[0,1,2,3,4,5,6,7,8,9,10,11,12,13,14,15,16,17,18,19,20]),([],[5,6,7,8,9,10,11,12,13,0,1,2,3,4,14,15,16,17,18,19,20])]),(17,17,[3,7],[([3,7],[0,1,2,3,4,5,6,7,8,9,10,11,12,13,14,15,16,17,18,19,20,21]),([3],[0,1,2,3,8,9,10,11,12,13,14,15,16,17,4,5,6,7,18,19,20,21]),([7],[4,5,6,7,8,9,10,11,12,13,14,15,16,17,0,1,2,3,18,19,20,21]),([],[8,9,10,11,12,13,14,15,16,17,0,1,2,3,4,5,6,7,18,19,20,21])])] }
theorem ZR:cC Oq Tryz.f48 (aP Tryz.f48) 2=Bl:=by
  funext args K σ
  rcases args with _|⟨a0,_|⟨a1,_|⟨b,r⟩⟩⟩<;>kernel_rfl
theorem abC:Entry Tryz.prog 48 .write Bl:=
  entry (C:=Oq) (aS.cons BN (aS.cons ow (aS.cons BM (aS.cons VN (aS.cons aa5 (aS.cons Hd aS.nil)))))) aG Tryz.func48 (by kernel_rfl) (by kernel_rfl) (by kernel_rfl) ZR
attribute [irreducible] rj uX rk uY wI Aj wF uV Gw Bl
def Qr(a0 a1:Value)(K:KT)(σ:Mem):Prop:=xM (.int .u64 0) fun v4=>xM a0 fun v6=>xF ay [v6] fun v7=>xD 4 v7 fun v8=>aj 1 false [v8] (fun v9 σ=>iJ [v9] (fun v10 σ=>xC (aH 4 [(au 5),v10] [.int .i64 0,.int .i64 0,.int .i64 0,.int .i64 0]) fun c5=>xM a1 fun v11=>xD 3 (au 5) fun bA=>xO (ah 1 false [bA] c5) fun bm=>xF (aq .add .no) [bm,.int .i64 1] fun bK=>xD 0 (au 5) fun bh=>xC (aH 1 [bh,v11] c5) fun c5=>xD 3 (au 5) fun bo=>xC (aH 1 [bo,bK] c5) fun c5=>xO (ah 4 true [(au 5)] c5) fun bB=>oc [bB] (fun bM σ=>xM bM fun v4=>K v4 σ) σ) σ) σ
def yG:Spec:=fun args K σ=>match args with
  | [a0,a1]=>Qr a0 a1 K σ
  | _=>False
noncomputable def Ot:Cx:={ P:=Tryz.prog,T:=[(22,.none,iJ),(91,.none,oc)],loc:=[(5,5),(12,5),(15,5),(16,5)],eqt:=[],n:=19,aL:=[] }
theorem ZS:cC Ot Tryz.f50 (aP Tryz.f50) 2=yG:=by
  funext args K σ
  rcases args with _|⟨a0,_|⟨a1,_|⟨b,r⟩⟩⟩<;>kernel_rfl
theorem abD:Entry Tryz.prog 50 .read yG:=
  entry (C:=Ot) (aS.cons BM (aS.cons Hd aS.nil)) aG Tryz.func50 (by kernel_rfl) (by kernel_rfl) (by kernel_rfl) ZS
attribute [irreducible] Qr yG
def Qp(a0 a1:Value)(K:KT)(σ:Mem):Prop:=xC (bO 4 [a1] []) fun c3=>xM a0 fun v4=>xM a0 fun v5=>xM a0 fun v6=>xF ay [v6] fun v7=>xD 3 v7 fun v8=>aj 1 false [v8] (fun v9 σ=>xD 1 (au 3) fun v10=>xO (ah 1 false [v10] c3) fun v11=>nB [v11] (fun bA σ=>xF (aq .add .no) [v9,bA] fun bm=>xF ay [v4] fun bK=>xD 3 bK fun bh=>ax 1 [bh,bm] (fun _v σ=>xF ay [v5] fun bo=>xD 0 bo fun bB=>ax 1 [bB,.int .i64 4] (fun _v σ=>xM a0 fun bM=>xF ay [bM] fun bJ=>xD 3 bJ fun v20=>aj 1 false [v20] (fun b5 σ=>xD 2 (au 3) fun b8=>xO (ah 1 false [b8] c3) fun cu=>xF (aq .geq .no) [b5,cu] fun cH=>aV cH
 (xM a0 fun cN=>xF ay [cN] fun dE=>xD 0 dE fun dN=>ax 1 [dN,.int .i64 6] (fun _v σ=>K (.tuple #[]) σ) σ)
 (K (.tuple #[]) σ)) σ) σ) σ) σ) σ
def yF:Spec:=fun args K σ=>match args with
  | [a0,a1]=>Qp a0 a1 K σ
  | _=>False
noncomputable def On:Cx:={ P:=Tryz.prog,T:=[(80,.none,nB)],loc:=[(3,3),(10,3),(22,3)],eqt:=[],n:=28,aL:=[] }
theorem ZP:cC On Tryz.f94 (aP Tryz.f94) 2=yF:=by
  funext args K σ
  rcases args with _|⟨a0,_|⟨a1,_|⟨b,r⟩⟩⟩<;>kernel_rfl
theorem VV:Entry Tryz.prog 94 .write yF:=
  entry (C:=On) (aS.cons He aS.nil) aG Tryz.func94 (by kernel_rfl) (by kernel_rfl) (by kernel_rfl) ZP
attribute [irreducible] Qp yF
def Pt(a0 a1:Value)(K:KT)(σ:Mem):Prop:=xC (bO 5 [a1] []) fun c3=>xM (.pointer none) fun v4=>xM a0 fun v5=>xO (ah 5 true [(au 3)] c3) fun v6=>xF (aM [(0,1),(1,5),(6,1),(7,1),(8,1),(9,2),(11,1),(12,1),(13,1),(14,1),(15,1)] [.int .i64 0,.int .i64 0,.int .i64 0,.int .i64 0,.int .i64 0,.bool false,.int .i64 0,.int .u64 0,.pointer none,.int .i64 0,.int .i64 0,.bool false,.int .i64 0,.int .u64 0,.int .i64 0,.int .i64 0] [0,1]) [v5,v6] fun v7=>jD 16 [v7] (fun v8 σ=>xM v8 fun v4=>K v4 σ) σ
def CH:Spec:=fun args K σ=>match args with
  | [a0,a1]=>Pt a0 a1 K σ
  | _=>False
noncomputable def Ni:Cx:={ P:=Tryz.prog,T:=[],loc:=[(3,3)],eqt:=[],n:=9,aL:=[] }
theorem YP:cC Ni Tryz.f95 (aP Tryz.f95) 2=CH:=by
  funext args K σ
  rcases args with _|⟨a0,_|⟨a1,_|⟨b,r⟩⟩⟩<;>kernel_rfl
theorem aa_:Entry Tryz.prog 95 .write CH:=
  entry (C:=Ni) aS.nil aG Tryz.func95 (by kernel_rfl) (by kernel_rfl) (by kernel_rfl) YP
attribute [irreducible] Pt CH
def Qo(a0 a1:Value)(K:KT)(σ:Mem):Prop:=xC (bO 9 [a1] []) fun c3=>xM a0 fun v7=>xF ay [v7] fun v8=>xD 4 v8 fun v9=>aj 1 false [v9] (fun v10 σ=>iJ [v10] (fun v11 σ=>xC (aH 4 [(au 4),v11] [.int .i64 0,.int .i64 0,.int .i64 0,.int .i64 0]) fun c4=>xD 0 (au 3) fun bA=>xO (ah 7 true [bA] c3) fun bm=>xM a0 fun bK=>xF ay [bK] fun bh=>xD 2 bh fun bo=>aj 1 false [bo] (fun bB σ=>pV [bm,bB] (fun bM σ=>xM a0 fun bJ=>xF ay [bJ] fun v20=>xD 3 v20 fun b5=>aj 1 false [b5] (fun b8 σ=>xF (aq .add .no) [bM,b8] fun cu=>xM cu fun v5=>xO (ah 9 true [(au 3)] c3) fun cH=>xM v5 fun cN=>cG [cH,cN] (fun dE σ=>xh [dE] (fun dN σ=>xC (aH 5 [(au 6),dN] [.int .i64 0,.int .i64 0,.int .i64 0,.int .i64 0,.bool false]) fun c6=>xD 0 (au 6) fun et=>xO (ah 1 false [et] c6) fun eW=>xF (aq .eql .no) [eW,.int .i64 3] fun eQ=>xM eQ fun eR=>aV eR
 (xM a0 fun dK=>xO (ah 4 true [(au 4)] c4) fun dh=>yF [dK,dh] (fun fV σ=>K (.tuple #[]) σ) σ)
 (xF (aq .eql .no) [eW,.int .i64 2] fun fU=>xM fU fun gu=>aV gu
 (xM a0 fun fC=>xM a0 fun fj=>xM v5 fun gL=>xO (ah 5 true [(au 6)] c6) fun iC=>CH [gL,iC] (fun iF σ=>xF ay [fC] fun gZ=>xD 6 gZ fun gY=>ax 1 [gY,iF] (fun _v σ=>xF ay [fj] fun gP=>xD 0 gP fun iB=>ax 1 [iB,.int .i64 5] (fun _v σ=>K (.tuple #[]) σ) σ) σ) σ)
 (xM a0 fun v30=>xF ay [v30] fun eT=>xD 0 eT fun dM=>ax 1 [dM,.int .i64 9] (fun _v σ=>K (.tuple #[]) σ) σ))) σ) σ) σ) σ) σ) σ) σ
def GO:Spec:=fun args K σ=>match args with
  | [a0,a1]=>Qo a0 a1 K σ
  | _=>False
noncomputable def Ol:Cx:={ P:=Tryz.prog,T:=[(22,.none,iJ),(24,.none,pV),(54,.write,cG),(31,.none,xh),(94,.write,yF),(95,.write,CH)],loc:=[(3,3),(4,4),(6,6),(12,3),(28,6)],eqt:=[],n:=49,aL:=[] }
theorem ZN:cC Ol Tryz.f51 (aP Tryz.f51) 2=GO:=by
  funext args K σ
  rcases args with _|⟨a0,_|⟨a1,_|⟨b,r⟩⟩⟩<;>kernel_rfl
theorem abz:Entry Tryz.prog 51 .write GO:=
  entry (C:=Ol) (aS.cons BM (aS.cons JC (aS.cons ow (aS.cons RY (aS.cons VV (aS.cons aa_ aS.nil)))))) aG Tryz.func51 (by kernel_rfl) (by kernel_rfl) (by kernel_rfl) ZN
attribute [irreducible] Qo GO
def Pu(a0 a1:Value)(K:KT)(σ:Mem):Prop:=xC (bO 9 [a1] []) fun c3=>xM (.int .i64 0) fun v4=>xD 0 (au 3) fun v5=>xO (ah 7 true [v5] c3) fun v6=>xM a0 fun v7=>xF ay [v7] fun v8=>xD 1 v8 fun v9=>xD 2 v9 fun v10=>aj 1 false [v10] (fun v11 σ=>gw [v6,v11] (fun bA σ=>xM bA fun v4=>K v4 σ) σ) σ
def xg:Spec:=fun args K σ=>match args with
  | [a0,a1]=>Pu a0 a1 K σ
  | _=>False
noncomputable def Nj:Cx:={ P:=Tryz.prog,T:=[(63,.none,gw)],loc:=[(3,3),(5,3)],eqt:=[],n:=13,aL:=[] }
theorem YQ:cC Nj Tryz.f99 (aP Tryz.f99) 2=xg:=by
  funext args K σ
  rcases args with _|⟨a0,_|⟨a1,_|⟨b,r⟩⟩⟩<;>kernel_rfl
theorem RV:Entry Tryz.prog 99 .read xg:=
  entry (C:=Nj) (aS.cons xS aS.nil) aG Tryz.func99 (by kernel_rfl) (by kernel_rfl) (by kernel_rfl) YQ
attribute [irreducible] Pu xg
def qM(K:KT)(v0:Value)(σ:Mem):Prop:=xM v0 fun bo=>xF ay [bo] fun bB=>xD 11 bB fun bM=>aj 1 false [bM] (fun bJ σ=>xF (mV .not) [bJ] fun v20=>xM v20 fun v4=>K v4 σ) σ
def uK(K:KT)(ts:List Value)(ls:List (List Value))(σ:Mem):Prop:=qM K (ts.getD 0 ar) σ
def Kz(a0 a1:Value)(K:KT)(σ:Mem):Prop:=xM (.bool false) fun v4=>xM a0 fun v5=>xM a1 fun v6=>xF ay [v5] fun v7=>xD 15 v7 fun v8=>ax 1 [v8,v6] (fun _v σ=>a9 (uK K) fun J1=>xM a0 fun v9=>xF ay [v9] fun v10=>xD 11 v10 fun v11=>aj 1 false [v11] (fun bA σ=>aV bA
 (xM a0 fun bm=>xF ay [bm] fun bK=>xD 6 bK fun bh=>ax 1 [bh,.int .i64 11] (fun _v σ=>J1 [a0] [] σ) σ)
 (J1 [a0] [] σ)) σ) σ
def pT:Spec:=fun args K σ=>match args with
  | [a0,a1]=>Kz a0 a1 K σ
  | _=>False
noncomputable def Nn:Cx:={ P:=Tryz.prog,T:=[],loc:=[],eqt:=[],n:=21,aL:=[(1000005,[0],[])] }
theorem YT:cC Nn Tryz.f97 (aP Tryz.f97) 2=pT:=by
  funext args K σ
  rcases args with _|⟨a0,_|⟨a1,_|⟨b,r⟩⟩⟩<;>kernel_rfl
theorem RW:Entry Tryz.prog 97 .write pT:=
  entry (C:=Nn) aS.nil aG Tryz.func97 (by kernel_rfl) (by kernel_rfl) (by kernel_rfl) YT
attribute [irreducible] qM uK Kz pT
def qL(K:KT)(σ:Mem):Prop:=xM (.bool false) fun v4=>K v4 σ
def oI(K:KT)(ts:List Value)(ls:List (List Value))(σ:Mem):Prop:=qL K σ
def vC(K:KT)(J1:JT)(v0 fh:Value)(c5:List Value)(σ:Mem):Prop:=aV fh
 (xM v0 fun ui=>pT [ui,.int .i64 2] (fun uh σ=>xM uh fun v4=>K v4 σ) σ)
 (xD 3 (au 5) fun ug=>xO (ah 1 false [ug] c5) fun uf=>xF (aq .geq .no) [uf,.int .i64 4194302] fun sS=>xM sS fun vc=>aV vc
 (xM v0 fun sR=>pT [sR,.int .i64 3] (fun sQ σ=>xM sQ fun v4=>K v4 σ) σ)
 (xM v0 fun sP=>xF ay [sP] fun sO=>xD 11 sO fun tM=>aj 1 false [tM] (fun tL σ=>xM tL fun rD=>aV rD
 (xM v0 fun va=>xF ay [va] fun tK=>xD 6 tK fun ue=>ax 1 [ue,.int .i64 3] (fun _v σ=>J1 [] [] σ) σ)
 (xM v0 fun bJ=>xM v0 fun v20=>xM v0 fun b5=>xF ay [b5] fun b8=>xD 1 b8 fun cu=>xD 1 cu fun cH=>aj 1 false [cH] (fun cN σ=>pU [cN] (fun dE σ=>yz [dE] (fun dN σ=>xF ay [bJ] fun et=>xD 8 et fun eW=>ax 1 [eW,dN] (fun _v σ=>xF ay [v20] fun v30=>xD 6 v30 fun eT=>ax 1 [eT,.int .i64 1] (fun _v σ=>J1 [] [] σ) σ) σ) σ) σ) σ)) σ))
def uJ(K:KT)(J1:JT)(ts:List Value)(ls:List (List Value))(σ:Mem):Prop:=vC K J1 (ts.getD 0 ar) (ts.getD 1 ar) (ls.getD 0 []) σ
def qJ(K:KT)(J1:JT)(v0 dM:Value)(c5:List Value)(σ:Mem):Prop:=aV dM
 (xM v0 fun fK=>pT [fK,.int .i64 3] (fun gD σ=>xM gD fun v4=>K v4 σ) σ)
 (a9 (uJ K J1) fun J3=>xD 0 (au 5) fun dY=>xO (ah 1 false [dY] c5) fun jo=>xF (aq .neq .no) [jo,.int .i64 1] fun jI=>xM jI fun jH=>aV jH
 (xF aB [.bool true,.bool true,undef] fun pd=>xM pd fun nH=>aV nH
 (xF aB [.bool true,.bool true,undef] fun pH=>xM pH fun fh=>J3 [v0,fh] [c5] σ)
 (xD 1 (au 5) fun nZ=>xO (ah 1 false [nZ] c5) fun oN=>xM v0 fun nY=>xF ay [nY] fun nX=>xD 0 nX fun mH=>aj 1 false [mH] (fun rE σ=>xF (aq .neq .no) [oN,rE] fun sT=>xF aB [.bool false,.bool true,sT] fun pH=>xM pH fun fh=>J3 [v0,fh] [c5] σ) σ))
 (xD 2 (au 5) fun jN=>xO (ah 1 false [jN] c5) fun jG=>xM v0 fun gn=>xF ay [gn] fun gk=>xD 1 gk fun gC=>xD 3 gC fun gj=>aj 1 false [gj] (fun fT σ=>xF (aq .neq .no) [jG,fT] fun cQ=>xF aB [.bool false,.bool true,cQ] fun pd=>xM pd fun nH=>aV nH
 (xF aB [.bool true,.bool true,undef] fun pH=>xM pH fun fh=>J3 [v0,fh] [c5] σ)
 (xD 1 (au 5) fun nZ=>xO (ah 1 false [nZ] c5) fun oN=>xM v0 fun nY=>xF ay [nY] fun nX=>xD 0 nX fun mH=>aj 1 false [mH] (fun rE σ=>xF (aq .neq .no) [oN,rE] fun sT=>xF aB [.bool false,.bool true,sT] fun pH=>xM pH fun fh=>J3 [v0,fh] [c5] σ) σ)) σ))
def qK(K:KT)(J1:JT)(ts:List Value)(ls:List (List Value))(σ:Mem):Prop:=qJ K J1 (ts.getD 0 ar) (ts.getD 1 ar) (ls.getD 0 []) σ
def Pw(a0 a1:Value)(K:KT)(σ:Mem):Prop:=xC (bO 9 [a1] []) fun c3=>xM (.bool false) fun v4=>xM a0 fun v6=>xO (ah 9 true [(au 3)] c3) fun v7=>xM a0 fun v8=>xO (ah 9 true [(au 3)] c3) fun v9=>xg [v8,v9] (fun v10 σ=>cG [v7,v10] (fun v11 σ=>xF ay [v6] fun bA=>xD 7 bA fun bm=>ax 1 [bm,v11] (fun _v σ=>xM a0 fun bK=>xF ay [bK] fun bh=>xD 7 bh fun bo=>aj 1 false [bo] (fun bB σ=>fe [bB] (fun bM σ=>xC (aH 4 [(au 5),bM] [.int .i64 0,.int .i64 0,.int .i64 0,.int .i64 0]) fun c5=>a9 (oI K) fun J1=>a9 (qK K J1) fun J2=>xD 0 (au 5) fun eR=>xO (ah 1 false [eR] c5) fun eQ=>xF (aq .eql .no) [eQ,.int .i64 4] fun dK=>xM dK fun dh=>aV dh
 (xD 2 (au 5) fun fV=>xO (ah 1 false [fV] c5) fun gu=>xM a0 fun fU=>xF ay [fU] fun fC=>xD 1 fC fun fj=>xD 3 fj fun gL=>aj 1 false [gL] (fun iC σ=>xF (aq .eql .no) [gu,iC] fun iF=>xF aB [.bool true,iF,.bool false] fun gZ=>xM gZ fun gY=>aV gY
 (xD 1 (au 5) fun gP=>xO (ah 1 false [gP] c5) fun iB=>xM a0 fun iA=>xF ay [iA] fun gX=>xD 0 gX fun gW=>aj 1 false [gW] (fun fB σ=>xF (aq .eql .no) [iB,fB] fun gr=>xF aB [.bool true,gr,.bool false] fun e9=>xM e9 fun dM=>J2 [a0,dM] [c5] σ) σ)
 (xF aB [.bool false,undef,.bool false] fun e9=>xM e9 fun dM=>J2 [a0,dM] [c5] σ)) σ)
 (xF aB [.bool false,undef,.bool false] fun gZ=>xM gZ fun gY=>aV gY
 (xD 1 (au 5) fun gP=>xO (ah 1 false [gP] c5) fun iB=>xM a0 fun iA=>xF ay [iA] fun gX=>xD 0 gX fun gW=>aj 1 false [gW] (fun fB σ=>xF (aq .eql .no) [iB,fB] fun gr=>xF aB [.bool true,gr,.bool false] fun e9=>xM e9 fun dM=>J2 [a0,dM] [c5] σ) σ)
 (xF aB [.bool false,undef,.bool false] fun e9=>xM e9 fun dM=>J2 [a0,dM] [c5] σ))) σ) σ) σ) σ) σ
def GL:Spec:=fun args K σ=>match args with
  | [a0,a1]=>Pw a0 a1 K σ
  | _=>False
noncomputable def Nl:Cx:={ P:=Tryz.prog,T:=[(99,.read,xg),(54,.write,cG),(62,.none,fe),(97,.write,pT),(36,.write,pU),(75,.write,yz)],loc:=[(3,3),(5,5),(33,5),(37,5),(47,5),(58,5),(62,5),(72,5),(83,5)],eqt:=[],n:=96,aL:=[(1000006,[0,32],[5]),(1000008,[0,57],[5]),(1000013,[],[])] }
theorem YS:cC Nl Tryz.f96 (aP Tryz.f96) 2=GL:=by
  funext args K σ
  rcases args with _|⟨a0,_|⟨a1,_|⟨b,r⟩⟩⟩<;>kernel_rfl
theorem abb:Entry Tryz.prog 96 .write GL:=
  entry (C:=Nl) (aS.cons RV (aS.cons ow (aS.cons uz (aS.cons RW (aS.cons Lu (aS.cons VH aS.nil)))))) aG Tryz.func96 (by kernel_rfl) (by kernel_rfl) (by kernel_rfl) YS
attribute [irreducible] qL oI vC uJ qJ qK Pw GL
def Px(a0 a1:Value)(K:KT)(σ:Mem):Prop:=xM (.int .u64 0) fun v4=>xM a0 fun v6=>xF ay [v6] fun v7=>xD 1 v7 fun v8=>aj 5 true [v8] (fun v9 σ=>xC (aH 5 [(au 5),v9] [.int .i64 0,.int .i64 0,.int .i64 0,.int .i64 0,.bool false]) fun c5=>xM a1 fun v10=>xD 0 (au 5) fun v11=>xC (aH 1 [v11,v10] c5) fun c5=>xO (ah 5 true [(au 5)] c5) fun bA=>Bf [bA] (fun bm σ=>xM bm fun v4=>K v4 σ) σ) σ
def yB:Spec:=fun args K σ=>match args with
  | [a0,a1]=>Px a0 a1 K σ
  | _=>False
noncomputable def Np:Cx:={ P:=Tryz.prog,T:=[(34,.none,Bf)],loc:=[(5,5),(11,5)],eqt:=[],n:=14,aL:=[] }
theorem YU:cC Np Tryz.f98 (aP Tryz.f98) 2=yB:=by
  funext args K σ
  rcases args with _|⟨a0,_|⟨a1,_|⟨b,r⟩⟩⟩<;>kernel_rfl
theorem VI:Entry Tryz.prog 98 .read yB:=
  entry (C:=Np) (aS.cons VK aS.nil) aG Tryz.func98 (by kernel_rfl) (by kernel_rfl) (by kernel_rfl) YU
attribute [irreducible] Px yB
def Py(a0 a1 a2 a3:Value)(K:KT)(σ:Mem):Prop:=xM (.int .u64 0) fun v8=>xM a0 fun v10=>xF ay [v10] fun v11=>xD 7 v11 fun bA=>aj 1 false [bA] (fun bm σ=>fe [bm] (fun bK σ=>xC (aH 4 [(au 9),bK] [.int .i64 0,.int .i64 0,.int .i64 0,.int .i64 0]) fun c9=>xM a1 fun bh=>xM a2 fun bo=>xD 2 (au 9) fun bB=>xO (ah 1 false [bB] c9) fun bM=>xD 3 (au 9) fun bJ=>xO (ah 1 false [bJ] c9) fun v20=>xM a3 fun b5=>xF (aq .add .no) [v20,b5] fun b8=>xF (aM [(0,1),(1,1),(2,1),(3,1)] [.int .i64 0,.int .i64 0,.int .i64 0,.int .i64 0] [0,1,2,3]) [bh,bo,bM,b8] fun cu=>n_ [cu] (fun cH σ=>xM cH fun v8=>K v8 σ) σ) σ) σ
def yC:Spec:=fun args K σ=>match args with
  | [a0,a1,a2,a3]=>Py a0 a1 a2 a3 K σ
  | _=>False
noncomputable def Nr:Cx:={ P:=Tryz.prog,T:=[(62,.none,fe),(69,.none,n_)],loc:=[(9,9),(17,9),(19,9)],eqt:=[],n:=25,aL:=[] }
theorem YW:cC Nr Tryz.f100 (aP Tryz.f100) 4=yC:=by
  funext args K σ
  rcases args with _|⟨a0,_|⟨a1,_|⟨a2,_|⟨a3,_|⟨b,r⟩⟩⟩⟩⟩<;>kernel_rfl
theorem VJ:Entry Tryz.prog 100 .read yC:=
  entry (C:=Nr) (aS.cons uz (aS.cons Hc aS.nil)) aG Tryz.func100 (by kernel_rfl) (by kernel_rfl) (by kernel_rfl) YW
attribute [irreducible] Py yC
def Pv(a0 a1:Value)(K:KT)(σ:Mem):Prop:=xC (bO 9 [a1] []) fun c3=>xM (.bool false) fun v4=>xO (ah 9 true [(au 3)] c3) fun v5=>xM a0 fun v6=>xO (ah 9 true [(au 3)] c3) fun v7=>xg [v6,v7] (fun v8 σ=>xM a0 fun v9=>xM a0 fun v10=>xF ay [v10] fun v11=>xD 0 v11 fun bA=>aj 1 false [bA] (fun bm σ=>yC [v9,.int .i64 2,bm,.int .i64 0] (fun bK σ=>xM a0 fun bh=>xM a0 fun bo=>xF ay [bo] fun bB=>xD 9 bB fun bM=>xD 0 bM fun bJ=>aj 1 false [bJ] (fun v20 σ=>yC [bh,.int .i64 1,v20,.int .i64 1] (fun b5 σ=>fN [v5,v8,bK,b5] (fun b8 σ=>aV b8
 (xM a0 fun cu=>xF ay [cu] fun cH=>xD 6 cH fun cN=>ax 1 [cN,.int .i64 8] (fun _v σ=>xM (.bool false) fun v4=>K v4 σ) σ)
 (xM a0 fun dE=>xF ay [dE] fun dN=>xD 6 dN fun et=>ax 1 [et,.int .i64 0] (fun _v σ=>xM a0 fun eW=>xF ay [eW] fun v30=>xD 14 v30 fun eT=>aj 1 false [eT] (fun dM σ=>xF (aq .add .no) [dM,.int .i64 1] fun eR=>xF ay [eW] fun eQ=>xD 14 eQ fun dK=>ax 1 [dK,eR] (fun _v σ=>xM a0 fun dh=>xF ay [dh] fun fV=>xD 14 fV fun gu=>aj 1 false [gu] (fun fU σ=>xD 0 (au 3) fun fC=>xD 6 fC fun fj=>xO (ah 1 false [fj] c3) fun gL=>xF (aq .geq .no) [fU,gL] fun iC=>aV iC
 (xM a0 fun iF=>pT [iF,.int .i64 3] (fun gZ σ=>xM gZ fun v4=>K v4 σ) σ)
 (xM (.bool false) fun v4=>K v4 σ)) σ) σ) σ) σ)) σ) σ) σ) σ) σ) σ
def GK:Spec:=fun args K σ=>match args with
  | [a0,a1]=>Pv a0 a1 K σ
  | _=>False
noncomputable def Nk:Cx:={ P:=Tryz.prog,T:=[(99,.read,xg),(100,.read,yC),(49,.write,fN),(97,.write,pT)],loc:=[(3,3),(40,3),(41,3)],eqt:=[],n:=46,aL:=[] }
theorem YR:cC Nk Tryz.f103 (aP Tryz.f103) 2=GK:=by
  funext args K σ
  rcases args with _|⟨a0,_|⟨a1,_|⟨b,r⟩⟩⟩<;>kernel_rfl
theorem aba:Entry Tryz.prog 103 .write GK:=
  entry (C:=Nk) (aS.cons RV (aS.cons VJ (aS.cons xT (aS.cons RW aS.nil)))) aG Tryz.func103 (by kernel_rfl) (by kernel_rfl) (by kernel_rfl) YR
attribute [irreducible] Pv GK
def qP(K:KT)(σ:Mem):Prop:=xM (.bool false) fun v4=>K v4 σ
def uL(K:KT)(ts:List Value)(ls:List (List Value))(σ:Mem):Prop:=qP K σ
def Gt(a0 a1:Value)(K:KT)(σ:Mem):Prop:=xC (bO 9 [a1] []) fun c3=>xM (.bool false) fun v4=>xM a0 fun v6=>xF ay [v6] fun v7=>xD 1 v7 fun v8=>xD 1 v8 fun v9=>aj 1 false [v9] (fun v10 σ=>pU [v10] (fun v11 σ=>nB [v11] (fun bA σ=>xM bA fun v5=>a9 (uL K) fun J1=>xM a0 fun bm=>xF ay [bm] fun bK=>xD 6 bK fun bh=>aj 1 false [bh] (fun bo σ=>xF (aq .eql .no) [bo,.int .i64 8] fun dN=>xM dN fun dE=>aV dE
 (xO (ah 9 true [(au 3)] c3) fun et=>xM a0 fun eW=>xF ay [eW] fun v30=>xD 9 v30 fun eT=>xD 0 eT fun dM=>aj 1 false [dM] (fun eR σ=>xM a0 fun eQ=>yB [eQ,.int .i64 2] (fun dK σ=>ie [et,eR,dK] (fun dh σ=>xM a0 fun fV=>xF ay [fV] fun gu=>xD 6 gu fun fU=>ax 1 [fU,.int .i64 9] (fun _v σ=>J1 [] [] σ) σ) σ) σ) σ)
 (xF (aq .eql .no) [bo,.int .i64 9] fun fj=>xM fj fun fC=>aV fC
 (xO (ah 9 true [(au 3)] c3) fun gL=>xD 0 (au 3) fun iC=>xO (ah 7 true [iC] c3) fun iF=>xM a0 fun gZ=>xF ay [gZ] fun gY=>xD 9 gY fun gP=>xD 1 gP fun iB=>aj 1 false [iB] (fun iA σ=>ff [iF,iA] (fun gX σ=>xF (aq .add .no) [gX,.int .i64 1] fun gW=>xM v5 fun fB=>uv [gL,gW,fB] (fun gr σ=>xM a0 fun e9=>xF ay [e9] fun fK=>xD 6 fK fun gD=>ax 1 [gD,.int .i64 10] (fun _v σ=>J1 [] [] σ) σ) σ) σ) σ)
 (xF (aq .eql .no) [bo,.int .i64 10] fun dY=>xM dY fun fh=>aV fh
 (xO (ah 9 true [(au 3)] c3) fun jo=>xD 0 (au 3) fun jI=>xO (ah 7 true [jI] c3) fun jH=>xD 0 (au 3) fun jN=>xO (ah 7 true [jN] c3) fun jG=>xM a0 fun gn=>xF ay [gn] fun gk=>xD 0 gk fun gC=>aj 1 false [gC] (fun gj σ=>Bh [jG,gj] (fun fT σ=>ff [jH,fT] (fun cQ σ=>xF (aq .add .no) [cQ,.int .i64 1] fun pd=>xM v5 fun nH=>xF (mV .neg) [nH] fun nZ=>uv [jo,pd,nZ] (fun oN σ=>xM a0 fun nY=>xF ay [nY] fun nX=>xD 15 nX fun mH=>ax 1 [mH,.int .i64 1] (fun _v σ=>xM (.bool true) fun v4=>K v4 σ) σ) σ) σ) σ) σ)
 (xO (ah 9 true [(au 3)] c3) fun bB=>xM a0 fun bM=>xF ay [bM] fun bJ=>xD 9 bJ fun v20=>xD 0 v20 fun b5=>aj 1 false [b5] (fun b8 σ=>xM a0 fun cu=>yB [cu,.int .i64 3] (fun cH σ=>ie [bB,b8,cH] (fun cN σ=>xM (.bool true) fun v4=>K v4 σ) σ) σ) σ)))) σ) σ) σ) σ
def Be:Spec:=fun args K σ=>match args with
  | [a0,a1]=>Gt a0 a1 K σ
  | _=>False
noncomputable def Nq:Cx:={ P:=Tryz.prog,T:=[(36,.write,pU),(80,.none,nB),(98,.read,yB),(56,.write,ie),(23,.none,ff),(79,.write,uv),(21,.none,Bh)],loc:=[(3,3),(43,3),(60,3),(62,3)],eqt:=[],n:=77,aL:=[(1000016,[],[])] }
theorem YV:cC Nq Tryz.f104 (aP Tryz.f104) 2=Be:=by
  funext args K σ
  rcases args with _|⟨a0,_|⟨a1,_|⟨b,r⟩⟩⟩<;>kernel_rfl
theorem abc:Entry Tryz.prog 104 .write Be:=
  entry (C:=Nq) (aS.cons Lu (aS.cons He (aS.cons VI (aS.cons Dk (aS.cons BN (aS.cons R0 (aS.cons VO aS.nil))))))) aG Tryz.func104 (by kernel_rfl) (by kernel_rfl) (by kernel_rfl) YV
attribute [irreducible] qP uL Gt Be
def dt(K:KT)(σ:Mem):Prop:=xM (.bool false) fun v4=>K v4 σ
def eJ(K:KT)(ts:List Value)(ls:List (List Value))(σ:Mem):Prop:=dt K σ
def nK(K:KT)(J1:JT)(v0 eA:Value)(σ:Mem):Prop:=aV eA
 (xM v0 fun fE=>xF ay [fE] fun fD=>xD 6 fD fun iG=>ax 1 [iG,.int .i64 6] (fun _v σ=>J1 [] [] σ) σ)
 (J1 [] [] σ)
def qQ(K:KT)(J1:JT)(ts:List Value)(ls:List (List Value))(σ:Mem):Prop:=nK K J1 (ts.getD 0 ar) (ts.getD 1 ar) σ
def qR(a0 a1:Value)(K:KT)(σ:Mem):Prop:=xC (bO 9 [a1] []) fun c3=>xM (.bool false) fun v4=>a9 (eJ K) fun J1=>xM a0 fun v7=>xF ay [v7] fun v8=>xD 6 v8 fun v9=>aj 1 false [v9] (fun v10 σ=>xF (aq .eql .no) [v10,.int .i64 0] fun bh=>xM bh fun bK=>aV bK
 (xM a0 fun bo=>xO (ah 9 true [(au 3)] c3) fun bB=>GL [bo,bB] (fun bM σ=>xM bM fun v4=>K v4 σ) σ)
 (xF (aq .eql .no) [v10,.int .i64 1] fun v20=>xM v20 fun bJ=>aV bJ
 (xM a0 fun b5=>xF ay [b5] fun b8=>xD 8 b8 fun cu=>aj 1 false [cu] (fun cH σ=>xO (ah 9 true [(au 3)] c3) fun cN=>Bc [cH,cN] (fun dE σ=>aV dE
 (xM a0 fun et=>xM a0 fun eW=>xM a0 fun v30=>xF ay [v30] fun eT=>xD 8 eT fun dM=>aj 1 false [dM] (fun eR σ=>Bd [eR] (fun eQ σ=>xM eQ fun dN=>xF (dH 0) [dN] fun dK=>xF (dH 1) [dN] fun dh=>xF ay [et] fun fV=>xD 9 fV fun gu=>ax 2 [gu,dK] (fun _v σ=>xF ay [eW] fun fU=>xD 11 fU fun fC=>ax 1 [fC,dh] (fun _v σ=>xM a0 fun fj=>xF ay [fj] fun gL=>xD 6 gL fun iC=>ax 1 [iC,.int .i64 2] (fun _v σ=>xM a0 fun iF=>xF ay [iF] fun gZ=>xD 11 gZ fun gY=>aj 1 false [gY] (fun gP σ=>xF (mV .not) [gP] fun iB=>aV iB
 (xM a0 fun iA=>pT [iA,.int .i64 4] (fun gX σ=>xM gX fun v4=>K v4 σ) σ)
 (J1 [] [] σ)) σ) σ) σ) σ) σ) σ)
 (J1 [] [] σ)) σ) σ)
 (xF (aq .eql .no) [v10,.int .i64 2] fun fB=>xM fB fun gW=>aV gW
 (xO (ah 9 true [(au 3)] c3) fun gr=>xM a0 fun e9=>xF ay [e9] fun fK=>xD 9 fK fun gD=>xD 0 gD fun fh=>aj 1 false [fh] (fun dY σ=>xM a0 fun jo=>yB [jo,.int .i64 1] (fun jI σ=>ie [gr,dY,jI] (fun jH σ=>xM a0 fun jN=>xF ay [jN] fun jG=>xD 6 jG fun gn=>ax 1 [gn,.int .i64 3] (fun _v σ=>J1 [] [] σ) σ) σ) σ) σ)
 (xF (aq .eql .no) [v10,.int .i64 3] fun gC=>xM gC fun gk=>aV gk
 (xM a0 fun gj=>xM a0 fun fT=>xF ay [gj] fun cQ=>xD 12 cQ fun pd=>ax 1 [pd,.int .i64 0] (fun _v σ=>xF ay [fT] fun nH=>xD 6 nH fun nZ=>ax 1 [nZ,.int .i64 0] (fun _v σ=>xO (ah 9 true [(au 3)] c3) fun oN=>xM a0 fun nY=>xO (ah 9 true [(au 3)] c3) fun nX=>xg [nY,nX] (fun mH σ=>xM a0 fun rE=>xF ay [rE] fun sT=>xD 7 sT fun pH=>aj 1 false [pH] (fun ui σ=>xM a0 fun uh=>xM a0 fun vc=>xF ay [vc] fun ug=>xD 0 ug fun uf=>aj 1 false [uf] (fun sS σ=>yC [uh,.int .i64 2,sS,.int .i64 0] (fun sR σ=>fN [oN,mH,ui,sR] (fun sQ σ=>aV sQ
 (xM a0 fun rD=>xF ay [rD] fun sP=>xD 6 sP fun sO=>ax 1 [sO,.int .i64 4] (fun _v σ=>J1 [] [] σ) σ)
 (J1 [] [] σ)) σ) σ) σ) σ) σ) σ) σ)
 (xF (aq .eql .no) [v10,.int .i64 4] fun tL=>xM tL fun tM=>aV tM
 (xM a0 fun va=>xO (ah 9 true [(au 3)] c3) fun tK=>xM a0 fun ue=>xF ay [ue] fun wP=>xD 0 wP fun wO=>aj 1 false [wO] (fun wN σ=>xF (aq .add .no) [wN,.int .i64 1] fun wM=>xM a0 fun i_=>xF ay [i_] fun lU=>xD 12 lU fun ky=>aj 1 false [ky] (fun jQ σ=>xF (aq .add .no) [wM,jQ] fun jP=>cG [tK,jP] (fun kx σ=>xF ay [va] fun jw=>xD 13 jw fun j7=>ax 1 [j7,kx] (fun _v σ=>xM a0 fun j6=>xF ay [j6] fun kP=>xD 6 kP fun h_=>ax 1 [h_,.int .i64 5] (fun _v σ=>xM a0 fun iI=>xF ay [iI] fun h9=>xD 13 h9 fun hZ=>aj 1 false [hZ] (fun hY σ=>nz [hY] (fun hH σ=>xC (aH 3 [(au 5),hH] [.int .i64 0,.bool false,.int .i64 0]) fun c5=>a9 (qQ K J1) fun J2=>xD 1 (au 5) fun iH=>xO (ah 1 false [iH] c5) fun e_=>xM e_ fun g_=>aV g_
 (xD 2 (au 5) fun g8=>xO (ah 1 false [g8] c5) fun iZ=>xM a0 fun jO=>xF ay [jO] fun g7=>xD 7 g7 fun fI=>aj 1 false [fI] (fun fH σ=>fe [fH] (fun fG σ=>xF (b7 3 1 false) [fG] fun fk=>xF (aq .eql .no) [iZ,fk] fun fF=>xF aB [.bool true,fF,.bool false] fun eA=>J2 [a0,eA] [] σ) σ) σ)
 (xF aB [.bool false,undef,.bool false] fun eA=>J2 [a0,eA] [] σ)) σ) σ) σ) σ) σ) σ) σ)
 (xF (aq .eql .no) [v10,.int .i64 5] fun iY=>xM iY fun gM=>aV gM
 (xM a0 fun iX=>xF ay [iX] fun iW=>xD 6 iW fun iV=>ax 1 [iV,.int .i64 4] (fun _v σ=>xM a0 fun iU=>xF ay [iU] fun iT=>xD 13 iT fun jv=>aj 1 false [jv] (fun lS σ=>nz [lS] (fun mK σ=>xF (b7 0 1 false) [mK] fun mJ=>xM a0 fun mI=>xF ay [mI] fun kv=>xD 7 kv fun pR=>aj 1 false [pR] (fun rG σ=>fe [rG] (fun pQ σ=>xF (b7 3 1 false) [pQ] fun pP=>xF (aM [(0,1),(1,1),(2,1)] [.int .i64 0,.bool false,.int .i64 0] [0,1,2]) [mJ,.bool true,pP] fun pN=>xC (aH 3 [(au 6),pN] [.int .i64 0,.bool false,.int .i64 0]) fun c6=>xO (ah 9 true [(au 3)] c3) fun pM=>xM a0 fun pL=>xF ay [pL] fun pK=>xD 0 pK fun rF=>aj 1 false [rF] (fun pJ σ=>xF (aq .add .no) [pJ,.int .i64 1] fun sU=>xM a0 fun w9=>xF ay [w9] fun w8=>xD 12 w8 fun w7=>aj 1 false [w7] (fun wZ σ=>xF (aq .add .no) [sU,wZ] fun wY=>xM a0 fun wX=>xF ay [wX] fun wW=>xD 13 wW fun wV=>aj 1 false [wV] (fun wU σ=>xO (ah 3 true [(au 6)] c6) fun pI=>ur [pI] (fun wT σ=>fN [pM,wY,wU,wT] (fun wR σ=>aV wR
 (xM a0 fun AY=>xF ay [AY] fun AX=>xD 6 AX fun AW=>ax 1 [AW,.int .i64 6] (fun _v σ=>J1 [] [] σ) σ)
 (J1 [] [] σ)) σ) σ) σ) σ) σ) σ) σ) σ) σ) σ)
 (xF (aq .eql .no) [v10,.int .i64 6] fun AU=>xM AU fun AV=>aV AV
 (xO (ah 9 true [(au 3)] c3) fun AT=>xM a0 fun AS=>xF ay [AS] fun AR=>xD 9 AR fun AQ=>xD 0 AQ fun AP=>aj 1 false [AP] (fun Cq σ=>xF (aq .add .no) [Cq,.int .i64 1] fun AO=>xM a0 fun AN=>xF ay [AN] fun AM=>xD 12 AM fun AL=>aj 1 false [AL] (fun AK σ=>xF (aq .add .no) [AO,AK] fun wQ=>xM a0 fun AJ=>xF ay [AJ] fun AI=>xD 13 AI fun yw=>aj 1 false [yw] (fun AH σ=>nz [AH] (fun AG σ=>xF (b7 0 1 false) [AG] fun AF=>xF (aM [(0,1),(1,1),(2,1)] [.int .i64 0,.bool false,.int .i64 0] [0]) [AF] fun AE=>ur [AE] (fun AD σ=>ie [AT,wQ,AD] (fun Cp σ=>xM a0 fun AB=>xM a0 fun AA=>xM a0 fun Az=>xF ay [Az] fun Cm=>xD 12 Cm fun Ay=>aj 1 false [Ay] (fun Ax σ=>xF (aq .add .no) [Ax,.int .i64 1] fun Av=>xF ay [AB] fun Au=>xD 12 Au fun At=>ax 1 [At,Av] (fun _v σ=>xF ay [AA] fun As=>xD 6 As fun Aq=>ax 1 [Aq,.int .i64 4] (fun _v σ=>xM a0 fun D2=>xF ay [D2] fun D1=>xD 12 D1 fun D0=>aj 1 false [D0] (fun Gx σ=>xM a0 fun Ik=>xF ay [Ik] fun Ij=>xD 1 Ij fun Ii=>xD 1 Ii fun Ap=>aj 1 false [Ap] (fun Ih σ=>xF (aq .geq .no) [Gx,Ih] fun Ig=>aV Ig
 (xM a0 fun Ie=>xF ay [Ie] fun Ic=>xD 6 Ic fun Ib=>ax 1 [Ib,.int .i64 7] (fun _v σ=>J1 [] [] σ) σ)
 (J1 [] [] σ)) σ) σ) σ) σ) σ) σ) σ) σ) σ) σ) σ)
 (xF (aq .eql .no) [v10,.int .i64 7] fun H_=>xM H_ fun Ia=>aV Ia
 (xM a0 fun H'=>xO (ah 9 true [(au 3)] c3) fun H9=>GK [H',H9] (fun H8 σ=>xM H8 fun v4=>K v4 σ) σ)
 (xM a0 fun v11=>xO (ah 9 true [(au 3)] c3) fun bA=>Be [v11,bA] (fun bm σ=>xM bm fun v4=>K v4 σ) σ))))))))) σ
def gN:Spec:=fun args K σ=>match args with
  | [a0,a1]=>qR a0 a1 K σ
  | _=>False
noncomputable def Ns:Cx:={ P:=Tryz.prog,T:=[(96,.write,GL),(76,.write,Bc),(77,.read,Bd),(97,.write,pT),(98,.read,yB),(56,.write,ie),(99,.read,xg),(100,.read,yC),(49,.write,fN),(54,.write,cG),(101,.none,nz),(62,.none,fe),(102,.none,ur),(103,.write,GK),(104,.write,Be)],loc:=[(3,3),(5,5),(6,6),(116,5),(119,5)],eqt:=[],n:=223,aL:=[(1000024,[0,128],[]),(1000037,[],[])] }
theorem YX:cC Ns Tryz.f52 (aP Tryz.f52) 2=gN:=by
  funext args K σ
  rcases args with _|⟨a0,_|⟨a1,_|⟨b,r⟩⟩⟩<;>kernel_rfl
theorem abd:Entry Tryz.prog 52 .write gN:=
  entry (C:=Ns) (aS.cons abb (aS.cons VF (aS.cons VG (aS.cons RW (aS.cons VI (aS.cons Dk (aS.cons RV (aS.cons VJ (aS.cons xT (aS.cons ow (aS.cons JA (aS.cons uz (aS.cons RX (aS.cons aba (aS.cons abc aS.nil))))))))))))))) aG Tryz.func52 (by kernel_rfl) (by kernel_rfl) (by kernel_rfl) YX
attribute [irreducible] dt eJ nK qQ qR gN
def Pz(a0:Value)(K:KT)(σ:Mem):Prop:=xM (.int .i64 0) fun v2=>xM a0 fun v3=>xF (aq .eql .ptr) [v3,.pointer none] fun v4=>aV v4
 (xM (.int .i64 0) fun v2=>K v2 σ)
 (xM a0 fun v5=>xF ay [v5] fun v6=>xD 15 v6 fun v7=>aj 1 false [v7] (fun v8 σ=>xM v8 fun v2=>K v2 σ) σ)
def Ec:Spec:=fun args K σ=>match args with
  | [a0]=>Pz a0 K σ
  | _=>False
noncomputable def Nt:Cx:={ P:=Tryz.prog,T:=[],loc:=[],eqt:=[(91,.ptr)],n:=9,aL:=[] }
theorem YY:cC Nt Tryz.f105 (aP Tryz.f105) 1=Ec:=by
  funext args K σ
  rcases args with _|⟨a0,_|⟨b,r⟩⟩<;>kernel_rfl
theorem abe:Entry Tryz.prog 105 .read Ec:=
  entry (C:=Nt) aS.nil aG Tryz.func105 (by kernel_rfl) (by kernel_rfl) (by kernel_rfl) YY
attribute [irreducible] Pz Ec
def Qq(a0:Value)(K:KT)(σ:Mem):Prop:=xM a0 fun v2=>xF ay [v2] fun v3=>xD 6 v3 fun v4=>aj 1 false [v4] (fun v5 σ=>Ec [v5] (fun v6 σ=>xF (aq .eql .no) [v6,.int .i64 1] fun v11=>xM v11 fun v10=>aV v10
 (xM a0 fun bA=>xF ay [bA] fun bm=>xD 9 bm fun bK=>xD 3 bK fun bh=>aj 1 false [bh] (fun bo σ=>xF (aq .add .no) [bo,.int .i64 1] fun bB=>xF ay [bA] fun bM=>xD 9 bM fun bJ=>xD 3 bJ fun v20=>ax 1 [v20,bB] (fun _v σ=>xM a0 fun b5=>xM a0 fun b8=>xF ay [b8] fun cu=>xD 4 cu fun cH=>aj 1 false [cH] (fun cN σ=>iJ [cN] (fun dE σ=>yF [b5,dE] (fun dN σ=>K (.tuple #[]) σ) σ) σ) σ) σ) σ)
 (xF (aq .eql .no) [v6,.int .i64 2] fun eW=>xM eW fun et=>aV et
 (xM a0 fun v30=>xM a0 fun eT=>xF ay [eT] fun dM=>xD 4 dM fun eR=>aj 1 false [eR] (fun eQ σ=>iJ [eQ] (fun dK σ=>yF [v30,dK] (fun dh σ=>K (.tuple #[]) σ) σ) σ) σ)
 (xM a0 fun v7=>xF ay [v7] fun v8=>xD 0 v8 fun v9=>ax 1 [v9,.int .i64 9] (fun _v σ=>K (.tuple #[]) σ) σ))) σ) σ
def GP:Spec:=fun args K σ=>match args with
  | [a0]=>Qq a0 K σ
  | _=>False
noncomputable def Oo:Cx:={ P:=Tryz.prog,T:=[(105,.read,Ec),(22,.none,iJ),(94,.write,yF)],loc:=[],eqt:=[],n:=37,aL:=[] }
theorem ZQ:cC Oo Tryz.f53 (aP Tryz.f53) 1=GP:=by
  funext args K σ
  rcases args with _|⟨a0,_|⟨b,r⟩⟩<;>kernel_rfl
theorem abB:Entry Tryz.prog 53 .write GP:=
  entry (C:=Oo) (aS.cons abe (aS.cons BM (aS.cons VV aS.nil))) aG Tryz.func53 (by kernel_rfl) (by kernel_rfl) (by kernel_rfl) ZQ
attribute [irreducible] Qq GP
def PT(K:KT)(σ:Mem):Prop:=xM (.int .i64 0) fun v0=>xM (.int .i64 0) fun v0=>K v0 σ
def pg:Spec:=fun args K σ=>match args with
  | []=>PT  K σ
  | _=>False
noncomputable def NP:Cx:={ P:=Tryz.prog,T:=[],loc:=[],eqt:=[],n:=1,aL:=[] }
theorem Zg:cC NP Tryz.f55 (aP Tryz.f55) 0=pg:=by
  funext args K σ
  rcases args with _|⟨b,r⟩<;>kernel_rfl
theorem Lt:Entry Tryz.prog 55 .none pg:=
  entry (C:=NP) aS.nil aG Tryz.func55 (by kernel_rfl) (by kernel_rfl) (by kernel_rfl) Zg
attribute [irreducible] PT pg
def PN(a0:Value)(K:KT)(σ:Mem):Prop:=xM (.int .i64 0) fun v2=>xM a0 fun v3=>xF (aq .add .no) [.int .i64 6,v3] fun v4=>xM v4 fun v2=>K v2 σ
def xi:Spec:=fun args K σ=>match args with
  | [a0]=>PN a0 K σ
  | _=>False
noncomputable def NK:Cx:={ P:=Tryz.prog,T:=[],loc:=[],eqt:=[],n:=5,aL:=[] }
theorem Zb:cC NK Tryz.f59 (aP Tryz.f59) 1=xi:=by
  funext args K σ
  rcases args with _|⟨a0,_|⟨b,r⟩⟩<;>kernel_rfl
theorem RZ:Entry Tryz.prog 59 .none xi:=
  entry (C:=NK) aS.nil aG Tryz.func59 (by kernel_rfl) (by kernel_rfl) (by kernel_rfl) Zb
attribute [irreducible] PN xi
def nU(K:KT)(σ:Mem):Prop:=xM (.bool false) fun v4=>K v4 σ
def oL(K:KT)(ts:List Value)(ls:List (List Value))(σ:Mem):Prop:=nU K σ
def rz(K:KT)(J1:JT)(v0 fK:Value)(c3:List Value)(σ:Mem):Prop:=aV fK
 (xM (.bool true) fun v4=>K v4 σ)
 (xM v0 fun gD=>xF ay [gD] fun fh=>xD 2 fh fun dY=>aj 1 false [dY] (fun jo σ=>xF (aq .add .no) [jo,.int .i64 1] fun jI=>xF ay [gD] fun jH=>xD 2 jH fun jN=>ax 1 [jN,jI] (fun _v σ=>xM v0 fun jG=>xF ay [jG] fun gn=>xD 2 gn fun gk=>aj 1 false [gk] (fun gC σ=>xD 0 (au 3) fun gj=>xD 0 gj fun fT=>xO (ah 1 false [fT] c3) fun cQ=>xF (aq .geq .no) [gC,cQ] fun pd=>aV pd
 (xM v0 fun nH=>xF ay [nH] fun nZ=>xD 0 nZ fun oN=>ax 1 [oN,.int .i64 2] (fun _v σ=>J1 [] [] σ) σ)
 (J1 [] [] σ)) σ) σ) σ)
def rA(K:KT)(J1:JT)(ts:List Value)(ls:List (List Value))(σ:Mem):Prop:=rz K J1 (ts.getD 0 ar) (ts.getD 1 ar) (ls.getD 0 []) σ
def H6(a0 a1:Value)(K:KT)(σ:Mem):Prop:=xC (bO 9 [a1] []) fun c3=>xM (.bool false) fun v4=>a9 (oL K) fun J1=>xM a0 fun v6=>xF ay [v6] fun v7=>xD 0 v7 fun v8=>aj 1 false [v8] (fun v9 σ=>xF (aq .eql .no) [v9,.int .i64 0] fun dE=>xM dE fun cN=>aV cN
 (xM a0 fun dN=>xM a0 fun et=>xO (ah 9 true [(au 3)] c3) fun eW=>pg [] (fun v30 σ=>cG [eW,v30] (fun eT σ=>xF ay [dN] fun dM=>xD 1 dM fun eR=>ax 1 [eR,eT] (fun _v σ=>xF ay [et] fun eQ=>xD 0 eQ fun dK=>ax 1 [dK,.int .i64 1] (fun _v σ=>J1 [] [] σ) σ) σ) σ) σ)
 (xF (aq .eql .no) [v9,.int .i64 1] fun fV=>xM fV fun dh=>aV dh
 (xO (ah 9 true [(au 3)] c3) fun gu=>xM a0 fun fU=>xF ay [fU] fun fC=>xD 2 fC fun fj=>aj 1 false [fj] (fun gL σ=>xi [gL] (fun iC σ=>cG [gu,iC] (fun iF σ=>xM iF fun v5=>a9 (rA K J1) fun J2=>xM v5 fun gZ=>xF (aq .neq .no) [gZ,.int .u64 0] fun gY=>xM gY fun gP=>aV gP
 (xM v5 fun iB=>xM a0 fun iA=>xF ay [iA] fun gX=>xD 1 gX fun gW=>aj 1 false [gW] (fun fB σ=>xF (aq .add .no) [fB,.int .u64 1] fun gr=>xF (aq .neq .no) [iB,gr] fun e9=>xF aB [.bool true,e9,.bool false] fun fK=>J2 [a0,fK] [c3] σ) σ)
 (xF aB [.bool false,undef,.bool false] fun fK=>J2 [a0,fK] [c3] σ)) σ) σ) σ)
 (xM a0 fun v10=>xO (ah 9 true [(au 3)] c3) fun v11=>pg [] (fun bA σ=>xM a0 fun bm=>xF ay [bm] fun bK=>xD 1 bK fun bh=>aj 1 false [bh] (fun bo σ=>xM a0 fun bB=>xF ay [bB] fun bM=>xD 1 bM fun bJ=>aj 1 false [bJ] (fun v20 σ=>xF (aq .add .no) [v20,.int .u64 1] fun b5=>fN [v11,bA,bo,b5] (fun b8 σ=>xF ay [v10] fun cu=>xD 3 cu fun cH=>ax 1 [cH,b8] (fun _v σ=>xM (.bool true) fun v4=>K v4 σ) σ) σ) σ) σ) σ))) σ
def Bo:Spec:=fun args K σ=>match args with
  | [a0,a1]=>H6 a0 a1 K σ
  | _=>False
noncomputable def ON:Cx:={ P:=Tryz.prog,T:=[(55,.none,pg),(54,.write,cG),(59,.none,xi),(49,.write,fN)],loc:=[(3,3),(67,3),(68,3)],eqt:=[],n:=74,aL:=[(1000010,[0,55],[3]),(1000014,[],[])] }
theorem aaa:cC ON Tryz.f107 (aP Tryz.f107) 2=Bo:=by
  funext args K σ
  rcases args with _|⟨a0,_|⟨a1,_|⟨b,r⟩⟩⟩<;>kernel_rfl
theorem abP:Entry Tryz.prog 107 .write Bo:=
  entry (C:=ON) (aS.cons Lt (aS.cons ow (aS.cons RZ (aS.cons xT aS.nil)))) aG Tryz.func107 (by kernel_rfl) (by kernel_rfl) (by kernel_rfl) aaa
attribute [irreducible] nU oL rz rA H6 Bo
def QG(a0:Value)(K:KT)(σ:Mem):Prop:=xM (.pointer none) fun v2=>xM a0 fun v3=>xF (aM [(0,1),(1,1),(2,1),(3,1),(4,1),(5,1)] [.int .i64 0,.int .i64 0,.int .u64 0,.int .u64 0,.int .i64 0,.bool false] [0]) [v3] fun v4=>jD 6 [v4] (fun v5 σ=>xM v5 fun v2=>K v2 σ) σ
def Er:Spec:=fun args K σ=>match args with
  | [a0]=>QG a0 K σ
  | _=>False
noncomputable def OM:Cx:={ P:=Tryz.prog,T:=[],loc:=[],eqt:=[],n:=6,aL:=[] }
theorem Z_:cC OM Tryz.f108 (aP Tryz.f108) 1=Er:=by
  funext args K σ
  rcases args with _|⟨a0,_|⟨b,r⟩⟩<;>kernel_rfl
theorem abO:Entry Tryz.prog 108 .write Er:=
  entry (C:=OM) aS.nil aG Tryz.func108 (by kernel_rfl) (by kernel_rfl) (by kernel_rfl) Z_
attribute [irreducible] QG Er
def lQ(K:KT)(σ:Mem):Prop:=xM (.bool false) fun v4=>K v4 σ
def oK(K:KT)(ts:List Value)(ls:List (List Value))(σ:Mem):Prop:=lQ K σ
def Cl(a0 a1:Value)(K:KT)(σ:Mem):Prop:=xC (bO 9 [a1] []) fun c3=>xM (.bool false) fun v4=>xD 0 (au 3) fun v7=>xO (ah 7 true [v7] c3) fun v8=>xM a0 fun v9=>xF ay [v9] fun v10=>xD 0 v10 fun v11=>aj 1 false [v11] (fun bA σ=>ff [v8,bA] (fun bm σ=>xM bm fun v5=>xM a0 fun bK=>xF ay [bK] fun bh=>xD 2 bh fun bo=>aj 1 false [bo] (fun bB σ=>iJ [bB] (fun bM σ=>xC (aH 4 [(au 6),bM] [.int .i64 0,.int .i64 0,.int .i64 0,.int .i64 0]) fun c6=>a9 (oK K) fun J1=>xM a0 fun bJ=>xF ay [bJ] fun v20=>xD 1 v20 fun b5=>aj 1 false [b5] (fun b8 σ=>xF (aq .eql .no) [b8,.int .i64 0] fun dK=>xM dK fun eQ=>aV eQ
 (xM a0 fun dh=>xM a0 fun fV=>xO (ah 9 true [(au 3)] c3) fun gu=>xM v5 fun fU=>cG [gu,fU] (fun fC σ=>xF ay [dh] fun fj=>xD 2 fj fun gL=>ax 1 [gL,fC] (fun _v σ=>xF ay [fV] fun iC=>xD 1 iC fun iF=>ax 1 [iF,.int .i64 1] (fun _v σ=>xM a0 fun gZ=>xF ay [gZ] fun gY=>xD 2 gY fun gP=>aj 1 false [gP] (fun iB σ=>iJ [iB] (fun iA σ=>xF (b7 0 1 false) [iA] fun gX=>xF (aq .neq .no) [gX,.int .i64 3] fun gW=>xM gW fun v4=>K v4 σ) σ) σ) σ) σ) σ)
 (xF (aq .eql .no) [b8,.int .i64 1] fun gr=>xM gr fun fB=>aV fB
 (xM a0 fun e9=>xM a0 fun fK=>xO (ah 9 true [(au 3)] c3) fun gD=>xM v5 fun fh=>xF (aq .add .no) [fh,.int .i64 2] fun dY=>cG [gD,dY] (fun jo σ=>xF ay [e9] fun jI=>xD 3 jI fun jH=>ax 1 [jH,jo] (fun _v σ=>xF ay [fK] fun jN=>xD 1 jN fun jG=>ax 1 [jG,.int .i64 2] (fun _v σ=>J1 [] [] σ) σ) σ) σ)
 (xF (aq .eql .no) [b8,.int .i64 2] fun gk=>xM gk fun gn=>aV gn
 (xM a0 fun gC=>xF ay [gC] fun gj=>xD 1 gj fun fT=>ax 1 [fT,.int .i64 3] (fun _v σ=>
(xO (ah 9 true [(au 3)] c3) fun cQ=>pg [] (fun pd σ=>cG [cQ,pd] (fun nH σ=>xM a0 fun nZ=>xF ay [nZ] fun oN=>xD 3 oN fun nY=>aj 1 false [nY] (fun nX σ=>xF (aq .add .no) [nX,.int .u64 2] fun mH=>xF (aq .lss .no) [nH,mH] fun rE=>xM rE fun v4=>K v4 σ) σ) σ) σ) ∧
(xM a0 fun nZ=>xF ay [nZ] fun oN=>xD 3 oN fun nY=>aj 1 false [nY] (fun nX σ=>xO (ah 9 true [(au 3)] c3) fun cQ=>pg [] (fun pd σ=>cG [cQ,pd] (fun nH σ=>xF (aq .add .no) [nX,.int .u64 2] fun mH=>xF (aq .lss .no) [nH,mH] fun rE=>xM rE fun v4=>K v4 σ) σ) σ) σ)) σ)
 (xF (aq .eql .no) [b8,.int .i64 3] fun pH=>xM pH fun sT=>aV sT
 (xO (ah 9 true [(au 3)] c3) fun ui=>xD 0 (au 3) fun uh=>xO (ah 7 true [uh] c3) fun vc=>xM a0 fun ug=>xF ay [ug] fun uf=>xD 0 uf fun sS=>aj 1 false [sS] (fun sR σ=>pV [vc,sR] (fun sQ σ=>xM a0 fun rD=>xF ay [rD] fun sP=>xD 4 sP fun sO=>aj 1 false [sO] (fun tM σ=>xF (aq .add .no) [sQ,tM] fun tL=>ie [ui,tL,.int .u64 0] (fun va σ=>xM a0 fun tK=>xF ay [tK] fun ue=>xD 4 ue fun wP=>aj 1 false [wP] (fun wO σ=>xF (aq .add .no) [wO,.int .i64 1] fun wN=>xF ay [tK] fun wM=>xD 4 wM fun i_=>ax 1 [i_,wN] (fun _v σ=>xM a0 fun lU=>xF ay [lU] fun ky=>xD 4 ky fun jQ=>aj 1 false [jQ] (fun jP σ=>xD 2 (au 6) fun kx=>xO (ah 1 false [kx] c6) fun jw=>xF (aq .geq .no) [jP,jw] fun j7=>aV j7
 (xM a0 fun j6=>xF ay [j6] fun kP=>xD 1 kP fun h_=>ax 1 [h_,.int .i64 4] (fun _v σ=>J1 [] [] σ) σ)
 (J1 [] [] σ)) σ) σ) σ) σ) σ) σ) σ)
 (xF (aq .eql .no) [b8,.int .i64 4] fun h9=>xM h9 fun iI=>aV iI
 (xO (ah 9 true [(au 3)] c3) fun hZ=>xM v5 fun hY=>xF (aq .add .no) [hY,.int .i64 1] fun hH=>ie [hZ,hH,.int .u64 0] (fun iH σ=>xM a0 fun e_=>xF ay [e_] fun g_=>xD 1 g_ fun g8=>ax 1 [g8,.int .i64 5] (fun _v σ=>J1 [] [] σ) σ) σ)
 (xO (ah 9 true [(au 3)] c3) fun cu=>xM v5 fun cH=>xD 3 (au 6) fun cN=>xO (ah 1 false [cN] c6) fun dE=>xF (aq .add .no) [dE,.int .i64 1] fun dN=>xF (aM [(0,1),(1,1),(2,1),(3,1)] [.int .i64 0,.int .i64 0,.int .i64 0,.int .i64 0] [3]) [dN] fun et=>oc [et] (fun eW σ=>ie [cu,cH,eW] (fun v30 σ=>xM a0 fun eT=>xF ay [eT] fun dM=>xD 5 dM fun eR=>ax 1 [eR,.bool true] (fun _v σ=>xM (.bool true) fun v4=>K v4 σ) σ) σ) σ)))))) σ) σ) σ) σ) σ
def ux:Spec:=fun args K σ=>match args with
  | [a0,a1]=>Cl a0 a1 K σ
  | _=>False
noncomputable def OK:Cx:={ P:=Tryz.prog,T:=[(23,.none,ff),(22,.none,iJ),(54,.write,cG),(55,.none,pg),(24,.none,pV),(56,.write,ie),(91,.none,oc)],loc:=[(3,3),(6,6),(7,3),(25,6),(81,3),(105,6)],eqt:=[],n:=120,aL:=[(1000024,[],[])],alt:=[(14,6,[2],[([2],[0,1,2,3,4,5,6,7,8,9]),([],[3,4,5,6,0,1,2,7,8,9])])] }
theorem Z9:cC OK Tryz.f109 (aP Tryz.f109) 2=ux:=by
  funext args K σ
  rcases args with _|⟨a0,_|⟨a1,_|⟨b,r⟩⟩⟩<;>kernel_rfl
theorem abM:Entry Tryz.prog 109 .write ux:=
  entry (C:=OK) (aS.cons BN (aS.cons BM (aS.cons ow (aS.cons Lt (aS.cons JC (aS.cons Dk (aS.cons Hd aS.nil))))))) aG Tryz.func109 (by kernel_rfl) (by kernel_rfl) (by kernel_rfl) Z9
attribute [irreducible] lQ oK Cl ux
def QF(a0:Value)(K:KT)(σ:Mem):Prop:=xM (.bool false) fun v2=>xM a0 fun v3=>xF (aq .neq .ptr) [v3,.pointer none] fun v4=>xM v4 fun v5=>aV v5
 (xM a0 fun v6=>xF ay [v6] fun v7=>xD 5 v7 fun v8=>aj 1 false [v8] (fun v9 σ=>xF aB [.bool true,v9,.bool false] fun v10=>xM v10 fun v2=>K v2 σ) σ)
 (xF aB [.bool false,undef,.bool false] fun v10=>xM v10 fun v2=>K v2 σ)
def Ep:Spec:=fun args K σ=>match args with
  | [a0]=>QF a0 K σ
  | _=>False
noncomputable def OL:Cx:={ P:=Tryz.prog,T:=[],loc:=[],eqt:=[(93,.ptr)],n:=11,aL:=[] }
theorem Z':cC OL Tryz.f110 (aP Tryz.f110) 1=Ep:=by
  funext args K σ
  rcases args with _|⟨a0,_|⟨b,r⟩⟩<;>kernel_rfl
theorem abN:Entry Tryz.prog 110 .read Ep:=
  entry (C:=OL) aS.nil aG Tryz.func110 (by kernel_rfl) (by kernel_rfl) (by kernel_rfl) Z'
attribute [irreducible] QF Ep
def wE(K:KT)(v0:Value)(c3:List Value)(σ:Mem):Prop:=xM v0 fun bJ=>xF ay [bJ] fun v20=>xD 7 v20 fun b5=>aj 1 false [b5] (fun b8 σ=>xO (ah 9 true [(au 3)] c3) fun cu=>Bo [b8,cu] (fun cH σ=>aV cH
 (xM v0 fun cN=>xM v0 fun dE=>xM v0 fun dN=>xF ay [cN] fun et=>xD 7 et fun eW=>ax 1 [eW,.pointer none] (fun _v σ=>xF ay [dE] fun v30=>xD 2 v30 fun eT=>ax 1 [eT,.int .i64 0] (fun _v σ=>xF ay [dN] fun dM=>xD 0 dM fun eR=>ax 1 [eR,.int .i64 11] (fun _v σ=>K (.tuple #[]) σ) σ) σ) σ)
 (K (.tuple #[]) σ)) σ) σ
def uU(K:KT)(ts:List Value)(ls:List (List Value))(σ:Mem):Prop:=wE K (ts.getD 0 ar) (ls.getD 0 []) σ
def wy(K:KT)(v0:Value)(σ:Mem):Prop:=xM v0 fun pP=>xM v0 fun pN=>xF ay [pN] fun pM=>xD 9 pM fun pL=>aj 5 true [pL] (fun pK σ=>xF ay [pP] fun rF=>xD 14 rF fun pJ=>ax 5 [pJ,pK] (fun _v σ=>K (.tuple #[]) σ) σ) σ
def rf(K:KT)(ts:List Value)(ls:List (List Value))(σ:Mem):Prop:=wy K (ts.getD 0 ar) σ
def q_(K:KT)(J4:JT)(v0 kv:Value)(σ:Mem):Prop:=aV kv
 (xM v0 fun pR=>xF ay [pR] fun rG=>xD 19 rG fun pQ=>ax 1 [pQ,.int .i64 0] (fun _v σ=>J4 [v0] [] σ) σ)
 (J4 [v0] [] σ)
def ra(K:KT)(J4:JT)(ts:List Value)(ls:List (List Value))(σ:Mem):Prop:=q_ K J4 (ts.getD 0 ar) (ts.getD 1 ar) σ
def wB(K:KT)(v0:Value)(c3:List Value)(σ:Mem):Prop:=xM v0 fun fT=>xF ay [fT] fun cQ=>xD 8 cQ fun pd=>ax 1 [pd,.pointer none] (fun _v σ=>xM v0 fun nH=>xF ay [nH] fun nZ=>xD 2 nZ fun oN=>aj 1 false [oN] (fun nY σ=>xF (aq .add .no) [nY,.int .i64 1] fun nX=>xF ay [nH] fun mH=>xD 2 mH fun rE=>ax 1 [rE,nX] (fun _v σ=>xM v0 fun sT=>xF ay [sT] fun pH=>xD 2 pH fun ui=>aj 1 false [ui] (fun uh σ=>xD 0 (au 3) fun vc=>xD 2 vc fun ug=>xO (ah 1 false [ug] c3) fun uf=>xF (aq .geq .no) [uh,uf] fun sS=>aV sS
 (xM v0 fun sR=>xM v0 fun sQ=>xF ay [sR] fun rD=>xD 2 rD fun sP=>ax 1 [sP,.int .i64 0] (fun _v σ=>xF ay [sQ] fun sO=>xD 0 sO fun tM=>ax 1 [tM,.int .i64 0] (fun _v σ=>xM v0 fun tL=>xF ay [tL] fun va=>xD 9 va fun tK=>xD 4 tK fun ue=>aj 1 false [ue] (fun wP σ=>xF (aq .add .no) [wP,.int .i64 1] fun wO=>xF ay [tL] fun wN=>xD 9 wN fun wM=>xD 4 wM fun i_=>ax 1 [i_,wO] (fun _v σ=>xM v0 fun lU=>xF ay [lU] fun ky=>xD 19 ky fun jQ=>aj 1 false [jQ] (fun jP σ=>xF (aq .add .no) [jP,.int .i64 1] fun kx=>xF ay [lU] fun jw=>xD 19 jw fun j7=>ax 1 [j7,kx] (fun _v σ=>a9 (rf K) fun J4=>a9 (ra K J4) fun J5=>xM v0 fun j6=>xF ay [j6] fun kP=>xD 9 kP fun h_=>xD 0 h_ fun iI=>aj 1 false [iI] (fun h9 σ=>xM v0 fun hZ=>xF ay [hZ] fun hY=>xD 14 hY fun hH=>xD 0 hH fun iH=>aj 1 false [iH] (fun e_ σ=>xF (aq .neq .no) [h9,e_] fun g_=>xM g_ fun g8=>aV g8
 (xF aB [.bool true,.bool true,undef] fun iG=>xM iG fun gM=>aV gM
 (xF aB [.bool true,.bool true,undef] fun kv=>J5 [v0,kv] [] σ)
 (xM v0 fun iY=>xF ay [iY] fun iX=>xD 9 iX fun iW=>xD 2 iW fun iV=>aj 1 false [iV] (fun iU σ=>xM v0 fun iT=>xF ay [iT] fun jv=>xD 14 jv fun lS=>xD 2 lS fun mK=>aj 1 false [mK] (fun mJ σ=>xF (aq .neq .no) [iU,mJ] fun mI=>xF aB [.bool false,.bool true,mI] fun kv=>J5 [v0,kv] [] σ) σ) σ))
 (xM v0 fun iZ=>xF ay [iZ] fun jO=>xD 9 jO fun g7=>xD 3 g7 fun fI=>aj 1 false [fI] (fun fH σ=>xM v0 fun fG=>xF ay [fG] fun fk=>xD 14 fk fun fF=>xD 3 fF fun eA=>aj 1 false [eA] (fun fE σ=>xF (aq .neq .no) [fH,fE] fun fD=>xF aB [.bool false,.bool true,fD] fun iG=>xM iG fun gM=>aV gM
 (xF aB [.bool true,.bool true,undef] fun kv=>J5 [v0,kv] [] σ)
 (xM v0 fun iY=>xF ay [iY] fun iX=>xD 9 iX fun iW=>xD 2 iW fun iV=>aj 1 false [iV] (fun iU σ=>xM v0 fun iT=>xF ay [iT] fun jv=>xD 14 jv fun lS=>xD 2 lS fun mK=>aj 1 false [mK] (fun mJ σ=>xF (aq .neq .no) [iU,mJ] fun mI=>xF aB [.bool false,.bool true,mI] fun kv=>J5 [v0,kv] [] σ) σ) σ)) σ) σ)) σ) σ) σ) σ) σ) σ) σ) σ)
 (K (.tuple #[]) σ)) σ) σ) σ) σ
def uS(K:KT)(ts:List Value)(ls:List (List Value))(σ:Mem):Prop:=wB K (ts.getD 0 ar) (ls.getD 0 []) σ
def wD(K:KT)(v0:Value)(c3:List Value)(σ:Mem):Prop:=xM v0 fun gP=>xF ay [gP] fun iB=>xD 8 iB fun iA=>aj 1 false [iA] (fun gX σ=>xO (ah 9 true [(au 3)] c3) fun gW=>ux [gX,gW] (fun fB σ=>xF (mV .not) [fB] fun gr=>aV gr
 (K (.tuple #[]) σ)
 (a9 (uS K) fun J3=>xM v0 fun e9=>xF ay [e9] fun fK=>xD 8 fK fun gD=>aj 1 false [gD] (fun fh σ=>Ep [fh] (fun dY σ=>aV dY
 (xM v0 fun jo=>xF ay [jo] fun jI=>xD 9 jI fun jH=>xD 2 jH fun jN=>aj 1 false [jN] (fun jG σ=>xF (aq .add .no) [jG,.int .i64 1] fun gn=>xF ay [jo] fun gk=>xD 9 gk fun gC=>xD 2 gC fun gj=>ax 1 [gj,gn] (fun _v σ=>J3 [v0] [c3] σ) σ) σ)
 (J3 [v0] [c3] σ)) σ) σ)) σ) σ
def uT(K:KT)(ts:List Value)(ls:List (List Value))(σ:Mem):Prop:=wD K (ts.getD 0 ar) (ls.getD 0 []) σ
def Gu(a0 a1:Value)(K:KT)(σ:Mem):Prop:=xC (bO 9 [a1] []) fun c3=>xM a0 fun v4=>xF ay [v4] fun v5=>xD 0 v5 fun v6=>aj 1 false [v6] (fun v7 σ=>xF (aq .eql .no) [v7,.int .i64 10] fun v8=>aV v8
 (a9 (uU K) fun J1=>xM a0 fun v9=>xF ay [v9] fun v10=>xD 7 v10 fun v11=>aj 1 false [v11] (fun bA σ=>xF (aq .eql .ptr) [bA,.pointer none] fun bm=>aV bm
 (xM a0 fun bK=>xF (aM [(0,1),(1,1),(2,1),(3,1)] [.int .i64 0,.int .u64 0,.int .i64 0,.bool false] []) [] fun bh=>jD 4 [bh] (fun bo σ=>xF ay [bK] fun bB=>xD 7 bB fun bM=>ax 1 [bM,bo] (fun _v σ=>J1 [a0] [c3] σ) σ) σ)
 (J1 [a0] [c3] σ)) σ)
 (a9 (uT K) fun J2=>xM a0 fun eQ=>xF ay [eQ] fun dK=>xD 8 dK fun dh=>aj 1 false [dh] (fun fV σ=>xF (aq .eql .ptr) [fV,.pointer none] fun gu=>aV gu
 (xM a0 fun fU=>xM a0 fun fC=>xF ay [fC] fun fj=>xD 2 fj fun gL=>aj 1 false [gL] (fun iC σ=>Er [iC] (fun iF σ=>xF ay [fU] fun gZ=>xD 8 gZ fun gY=>ax 1 [gY,iF] (fun _v σ=>J2 [a0] [c3] σ) σ) σ) σ)
 (J2 [a0] [c3] σ)) σ)) σ
def Bk:Spec:=fun args K σ=>match args with
  | [a0,a1]=>Gu a0 a1 K σ
  | _=>False
noncomputable def Om:Cx:={ P:=Tryz.prog,T:=[(107,.write,Bo),(108,.write,Er),(109,.write,ux),(110,.read,Ep)],loc:=[(3,3),(82,3),(83,3)],eqt:=[(92,.ptr),(93,.ptr)],n:=155,aL:=[(1000005,[0],[3]),(1000009,[0],[3]),(1000012,[0],[3]),(1000019,[0,144],[]),(1000020,[0],[])] }
theorem ZO:cC Om Tryz.f57 (aP Tryz.f57) 2=Bk:=by
  funext args K σ
  rcases args with _|⟨a0,_|⟨a1,_|⟨b,r⟩⟩⟩<;>kernel_rfl
theorem abA:Entry Tryz.prog 57 .write Bk:=
  entry (C:=Om) (aS.cons abP (aS.cons abO (aS.cons abM (aS.cons abN aS.nil)))) aG Tryz.func57 (by kernel_rfl) (by kernel_rfl) (by kernel_rfl) ZO
attribute [irreducible] wE uU wy rf q_ ra wB uS wD uT Gu Bk
def cI(K:KT)(v0 v7 v11:Value)(c3:List Value)(σ:Mem):Prop:=aV v11
 (xM v0 fun bh=>xO (ah 9 true [(au 3)] c3) fun bo=>Bl [bh,bo] (fun bB σ=>K (.tuple #[]) σ) σ)
 (xF (aq .eql .no) [v7,.int .i64 3] fun bJ=>xM bJ fun bM=>aV bM
 (xM v0 fun v20=>xM v0 fun b5=>xF ay [v20] fun b8=>xD 3 b8 fun cu=>ax 1 [cu,.int .i64 0] (fun _v σ=>xF ay [b5] fun cH=>xD 0 cH fun cN=>ax 1 [cN,.int .i64 10] (fun _v σ=>xO (ah 9 true [(au 3)] c3) fun dE=>xD 0 (au 3) fun dN=>xO (ah 7 true [dN] c3) fun et=>xM v0 fun eW=>xF ay [eW] fun v30=>xD 2 v30 fun eT=>aj 1 false [eT] (fun dM σ=>ff [et,dM] (fun eR σ=>xM v0 fun eQ=>xF ay [eQ] fun dK=>xD 4 dK fun dh=>aj 1 false [dh] (fun fV σ=>xM v0 fun gu=>yG [gu,.int .i64 2] (fun fU σ=>fN [dE,eR,fV,fU] (fun fC σ=>aV fC
 (xM v0 fun fj=>xM v0 fun gL=>xM v0 fun iC=>yG [iC,.int .i64 2] (fun iF σ=>xF ay [fj] fun gZ=>xD 4 gZ fun gY=>ax 1 [gY,iF] (fun _v σ=>xF ay [gL] fun gP=>xD 0 gP fun iB=>ax 1 [iB,.int .i64 4] (fun _v σ=>K (.tuple #[]) σ) σ) σ) σ)
 (K (.tuple #[]) σ)) σ) σ) σ) σ) σ) σ) σ)
 (xF (aq .eql .no) [v7,.int .i64 4] fun gX=>xM gX fun iA=>aV iA
 (xM v0 fun gW=>xO (ah 9 true [(au 3)] c3) fun fB=>GO [gW,fB] (fun gr σ=>K (.tuple #[]) σ) σ)
 (xF (aq .eql .no) [v7,.int .i64 5] fun fK=>xM fK fun e9=>aV e9
 (xM v0 fun gD=>xF ay [gD] fun fh=>xD 6 fh fun dY=>aj 1 false [dY] (fun jo σ=>xO (ah 9 true [(au 3)] c3) fun jI=>gN [jo,jI] (fun jH σ=>aV jH
 (xM v0 fun jN=>GP [jN] (fun jG σ=>K (.tuple #[]) σ) σ)
 (K (.tuple #[]) σ)) σ) σ)
 (xF (aq .eql .no) [v7,.int .i64 6] fun gk=>xM gk fun gn=>aV gn
 (xM v0 fun gC=>xM v0 fun gj=>xO (ah 9 true [(au 3)] c3) fun fT=>pg [] (fun cQ σ=>cG [fT,cQ] (fun pd σ=>xF ay [gC] fun nH=>xD 5 nH fun nZ=>ax 1 [nZ,pd] (fun _v σ=>xF ay [gj] fun oN=>xD 0 oN fun nY=>ax 1 [nY,.int .i64 7] (fun _v σ=>K (.tuple #[]) σ) σ) σ) σ) σ)
 (xF (aq .eql .no) [v7,.int .i64 7] fun mH=>xM mH fun nX=>aV nX
 (xO (ah 9 true [(au 3)] c3) fun rE=>xD 0 (au 3) fun sT=>xO (ah 7 true [sT] c3) fun pH=>xM v0 fun ui=>xF ay [ui] fun uh=>xD 2 uh fun vc=>aj 1 false [vc] (fun ug σ=>ff [pH,ug] (fun uf σ=>xF (aq .add .no) [uf,.int .i64 2] fun sS=>xM v0 fun sR=>xF ay [sR] fun sQ=>xD 5 sQ fun rD=>aj 1 false [rD] (fun sP σ=>ie [rE,sS,sP] (fun sO σ=>xM v0 fun tM=>xF ay [tM] fun tL=>xD 0 tL fun va=>ax 1 [va,.int .i64 8] (fun _v σ=>K (.tuple #[]) σ) σ) σ) σ) σ) σ)
 (xF (aq .eql .no) [v7,.int .i64 8] fun ue=>xM ue fun tK=>aV tK
 (xO (ah 9 true [(au 3)] c3) fun wP=>xD 0 (au 3) fun wO=>xO (ah 7 true [wO] c3) fun wN=>xM v0 fun wM=>xF ay [wM] fun i_=>xD 2 i_ fun lU=>aj 1 false [lU] (fun ky σ=>ff [wN,ky] (fun jQ σ=>xM v0 fun jP=>yG [jP,.int .i64 3] (fun kx σ=>ie [wP,jQ,kx] (fun jw σ=>xM v0 fun j7=>xF ay [j7] fun j6=>xD 9 j6 fun kP=>xD 0 kP fun h_=>aj 1 false [h_] (fun iI σ=>xF (aq .add .no) [iI,.int .i64 1] fun h9=>xF ay [j7] fun hZ=>xD 9 hZ fun hY=>xD 0 hY fun hH=>ax 1 [hH,h9] (fun _v σ=>xM v0 fun iH=>xF ay [iH] fun e_=>xD 0 e_ fun g_=>ax 1 [g_,.int .i64 10] (fun _v σ=>K (.tuple #[]) σ) σ) σ) σ) σ) σ) σ) σ)
 (xF (aq .eql .no) [v7,.int .i64 9] fun iZ=>xM iZ fun g8=>aV g8
 (xO (ah 9 true [(au 3)] c3) fun jO=>xD 0 (au 3) fun g7=>xO (ah 7 true [g7] c3) fun fI=>xM v0 fun fH=>xF ay [fH] fun fG=>xD 2 fG fun fk=>aj 1 false [fk] (fun fF σ=>ff [fI,fF] (fun eA σ=>xM v0 fun fE=>yG [fE,.int .i64 1] (fun fD σ=>ie [jO,eA,fD] (fun iG σ=>xM v0 fun gM=>xF ay [gM] fun iY=>xD 9 iY fun iX=>xD 1 iX fun iW=>aj 1 false [iW] (fun iV σ=>xF (aq .add .no) [iV,.int .i64 1] fun iU=>xF ay [gM] fun iT=>xD 9 iT fun jv=>xD 1 jv fun lS=>ax 1 [lS,iU] (fun _v σ=>xM v0 fun mK=>xF ay [mK] fun mJ=>xD 0 mJ fun mI=>ax 1 [mI,.int .i64 10] (fun _v σ=>K (.tuple #[]) σ) σ) σ) σ) σ) σ) σ) σ)
 (xM v0 fun v8=>xO (ah 9 true [(au 3)] c3) fun v9=>Bk [v8,v9] (fun v10 σ=>K (.tuple #[]) σ) σ))))))))
def du(K:KT)(ts:List Value)(ls:List (List Value))(σ:Mem):Prop:=cI K (ts.getD 0 ar) (ts.getD 1 ar) (ts.getD 2 ar) (ls.getD 0 []) σ
def nQ(a0 a1:Value)(K:KT)(σ:Mem):Prop:=xC (bO 9 [a1] []) fun c3=>xM a0 fun v4=>xF ay [v4] fun v5=>xD 0 v5 fun v6=>aj 1 false [v6] (fun v7 σ=>a9 (du K) fun J1=>xF (aq .eql .no) [v7,.int .i64 0] fun bA=>xM bA fun v11=>aV v11
 (J1 [a0,v7,v11] [c3] σ)
 (xF (aq .eql .no) [v7,.int .i64 1] fun bm=>xM bm fun v11=>aV v11
 (J1 [a0,v7,v11] [c3] σ)
 (xF (aq .eql .no) [v7,.int .i64 2] fun bK=>xM bK fun v11=>J1 [a0,v7,v11] [c3] σ))) σ
def dU:Spec:=fun args K σ=>match args with
  | [a0,a1]=>nQ a0 a1 K σ
  | _=>False
noncomputable def Ov:Cx:={ P:=Tryz.prog,T:=[(48,.write,Bl),(23,.none,ff),(50,.read,yG),(49,.write,fN),(51,.write,GO),(52,.write,gN),(53,.write,GP),(55,.none,pg),(54,.write,cG),(56,.write,ie),(57,.write,Bk)],loc:=[(3,3),(27,3),(78,3),(97,3),(122,3)],eqt:=[],n:=144,aL:=[(1000007,[0,7,11],[3])] }
theorem ZU:cC Ov Tryz.f19 (aP Tryz.f19) 2=dU:=by
  funext args K σ
  rcases args with _|⟨a0,_|⟨a1,_|⟨b,r⟩⟩⟩<;>kernel_rfl
theorem VX:Entry Tryz.prog 19 .write dU:=
  entry (C:=Ov) (aS.cons abC (aS.cons BN (aS.cons abD (aS.cons xT (aS.cons abz (aS.cons abd (aS.cons abB (aS.cons Lt (aS.cons ow (aS.cons Dk (aS.cons abA aS.nil))))))))))) aG Tryz.func19 (by kernel_rfl) (by kernel_rfl) (by kernel_rfl) ZU
attribute [irreducible] cI du nQ dU
def vM(K:KT)(v1 v7:Value)(σ:Mem):Prop:=xM v1 fun eT=>nD [eT] (fun dM σ=>xF (b7 4 1 false) [dM] fun eR=>xM v7 fun eQ=>xF (aq .geq .no) [eR,eQ] fun dK=>xM dK fun v6=>K v6 σ) σ
def uM(K:KT)(ts:List Value)(ls:List (List Value))(σ:Mem):Prop:=vM K (ts.getD 0 ar) (ts.getD 1 ar) σ
def vL(K:KT)(J1 R1:JT)(v1 v2 v7 v8:Value)(c3:List Value)(σ:Mem):Prop:=xM v1 fun et=>xO (ah 9 true [(au 3)] c3) fun eW=>dU [et,eW] (fun v30 σ=>xM v8 fun dE=>xF (aq .add .no) [dE,.int .i64 1] fun dN=>xM dN fun v8=>R1 [v1,v2,v7,v8] [c3] σ) σ
def z6(K:KT)(J1 R1:JT)(ts:List Value)(ls:List (List Value))(σ:Mem):Prop:=vL K J1 R1 (ts.getD 0 ar) (ts.getD 1 ar) (ts.getD 2 ar) (ts.getD 3 ar) (ls.getD 0 []) σ
def gh(K:KT)(J1 R1:JT)(v1 v2 v7 v8:Value)(c3:List Value)(σ:Mem):Prop:=a9 (z6 K J1 R1) fun J2=>xM v8 fun bh=>xM v2 fun bo=>xF (aq .mul .no) [.int .i64 3000,bo] fun bB=>xF (aq .lss .no) [bh,bB] fun bM=>xM bM fun bJ=>aV bJ
 (xM v1 fun v20=>nD [v20] (fun b5 σ=>xF (b7 4 1 false) [b5] fun b8=>xM v7 fun cu=>xF (aq .lss .no) [b8,cu] fun cH=>xF aB [.bool true,cH,.bool false] fun cN=>aV cN
 (J2 [v1,v2,v7,v8] [c3] σ)
 (J1 [v1,v7] [] σ)) σ)
 (xF aB [.bool false,undef,.bool false] fun cN=>aV cN
 (J2 [v1,v2,v7,v8] [c3] σ)
 (J1 [v1,v7] [] σ))
def gQ(K:KT)(J1 R1:JT)(ts:List Value)(ls:List (List Value))(σ:Mem):Prop:=gh K J1 R1 (ts.getD 0 ar) (ts.getD 1 ar) (ts.getD 2 ar) (ts.getD 3 ar) (ls.getD 0 []) σ
def P4(a0 a1 a2:Value)(K:KT)(σ:Mem):Prop:=xC (bO 9 [a0] []) fun c3=>xM (.bool false) fun v6=>xD 8 (au 3) fun v9=>xC (aH 1 [v9,(.int .i64 (-1))] c3) fun c3=>xM a1 fun v10=>nD [v10] (fun v11 σ=>xF (b7 4 1 false) [v11] fun bA=>xM a2 fun bm=>xF (aq .add .no) [bA,bm] fun bK=>xM bK fun v7=>a9 (uM K) fun J1=>xM (.int .i64 0) fun v8=>eY (gQ K J1) [a1,a2,v7,v8] [c3] σ) σ
def xj:Spec:=fun args K σ=>match args with
  | [a0,a1,a2]=>P4 a0 a1 a2 K σ
  | _=>False
noncomputable def N0:Cx:={ P:=Tryz.prog,T:=[(16,.read,nD),(19,.write,dU)],loc:=[(3,3),(9,3)],eqt:=[],n:=36,aL:=[(5,[1,2,7,8],[3]),(1000007,[1,2,7,8],[3]),(1000008,[1,7],[])] }
theorem Zr:cC N0 Tryz.f15 (aP Tryz.f15) 3=xj:=by
  funext args K σ
  rcases args with _|⟨a0,_|⟨a1,_|⟨a2,_|⟨b,r⟩⟩⟩⟩<;>kernel_rfl
theorem VQ:Entry Tryz.prog 15 .write xj:=
  entry (C:=N0) (aS.cons VW (aS.cons VX aS.nil)) aG Tryz.func15 (by kernel_rfl) (by kernel_rfl) (by kernel_rfl) Zr
attribute [irreducible] vM uM vL z6 gh gQ P4 xj
def vP(K:KT)(c1:List Value)(σ:Mem):Prop:=Bj [] (fun eQ σ=>xM eQ fun v6=>xO (ah 9 true [(au 1)] c1) fun dK=>tc [dK,.int .i64 1] (fun dh σ=>xF (aq .eql .no) [dh,.int .i64 2] fun fV=>xM fV fun gu=>aV gu
 (xO (ah 9 true [(au 1)] c1) fun fU=>xM v6 fun fC=>xj [fU,fC,.int .i64 4] (fun fj σ=>xF aB [.bool true,fj,.bool false] fun gL=>xM gL fun iC=>aV iC
 (xO (ah 9 true [(au 1)] c1) fun iF=>tc [iF,.int .i64 1] (fun gZ σ=>xF (aq .eql .no) [gZ,.int .i64 1] fun gY=>xF aB [.bool true,gY,.bool false] fun gP=>xM gP fun iB=>aV iB
 (xO (ah 9 true [(au 1)] c1) fun iA=>tc [iA,.int .i64 0] (fun gX σ=>xF (aq .eql .no) [gX,.int .i64 3] fun gW=>xF aB [.bool true,gW,.bool false] fun fB=>xM fB fun gr=>aV gr
 (xM v6 fun e9=>nD [e9] (fun fK σ=>xF (b7 2 1 false) [fK] fun gD=>xF (aq .eql .no) [gD,.int .i64 1] fun fh=>xF aB [.bool true,fh,.bool false] fun dY=>xM dY fun v0=>K v0 σ) σ)
 (xF aB [.bool false,undef,.bool false] fun dY=>xM dY fun v0=>K v0 σ)) σ)
 (xF aB [.bool false,undef,.bool false] fun fB=>xM fB fun gr=>aV gr
 (xM v6 fun e9=>nD [e9] (fun fK σ=>xF (b7 2 1 false) [fK] fun gD=>xF (aq .eql .no) [gD,.int .i64 1] fun fh=>xF aB [.bool true,fh,.bool false] fun dY=>xM dY fun v0=>K v0 σ) σ)
 (xF aB [.bool false,undef,.bool false] fun dY=>xM dY fun v0=>K v0 σ))) σ)
 (xF aB [.bool false,undef,.bool false] fun gP=>xM gP fun iB=>aV iB
 (xO (ah 9 true [(au 1)] c1) fun iA=>tc [iA,.int .i64 0] (fun gX σ=>xF (aq .eql .no) [gX,.int .i64 3] fun gW=>xF aB [.bool true,gW,.bool false] fun fB=>xM fB fun gr=>aV gr
 (xM v6 fun e9=>nD [e9] (fun fK σ=>xF (b7 2 1 false) [fK] fun gD=>xF (aq .eql .no) [gD,.int .i64 1] fun fh=>xF aB [.bool true,fh,.bool false] fun dY=>xM dY fun v0=>K v0 σ) σ)
 (xF aB [.bool false,undef,.bool false] fun dY=>xM dY fun v0=>K v0 σ)) σ)
 (xF aB [.bool false,undef,.bool false] fun fB=>xM fB fun gr=>aV gr
 (xM v6 fun e9=>nD [e9] (fun fK σ=>xF (b7 2 1 false) [fK] fun gD=>xF (aq .eql .no) [gD,.int .i64 1] fun fh=>xF aB [.bool true,fh,.bool false] fun dY=>xM dY fun v0=>K v0 σ) σ)
 (xF aB [.bool false,undef,.bool false] fun dY=>xM dY fun v0=>K v0 σ)))) σ)
 (xF aB [.bool false,undef,.bool false] fun gL=>xM gL fun iC=>aV iC
 (xO (ah 9 true [(au 1)] c1) fun iF=>tc [iF,.int .i64 1] (fun gZ σ=>xF (aq .eql .no) [gZ,.int .i64 1] fun gY=>xF aB [.bool true,gY,.bool false] fun gP=>xM gP fun iB=>aV iB
 (xO (ah 9 true [(au 1)] c1) fun iA=>tc [iA,.int .i64 0] (fun gX σ=>xF (aq .eql .no) [gX,.int .i64 3] fun gW=>xF aB [.bool true,gW,.bool false] fun fB=>xM fB fun gr=>aV gr
 (xM v6 fun e9=>nD [e9] (fun fK σ=>xF (b7 2 1 false) [fK] fun gD=>xF (aq .eql .no) [gD,.int .i64 1] fun fh=>xF aB [.bool true,fh,.bool false] fun dY=>xM dY fun v0=>K v0 σ) σ)
 (xF aB [.bool false,undef,.bool false] fun dY=>xM dY fun v0=>K v0 σ)) σ)
 (xF aB [.bool false,undef,.bool false] fun fB=>xM fB fun gr=>aV gr
 (xM v6 fun e9=>nD [e9] (fun fK σ=>xF (b7 2 1 false) [fK] fun gD=>xF (aq .eql .no) [gD,.int .i64 1] fun fh=>xF aB [.bool true,fh,.bool false] fun dY=>xM dY fun v0=>K v0 σ) σ)
 (xF aB [.bool false,undef,.bool false] fun dY=>xM dY fun v0=>K v0 σ))) σ)
 (xF aB [.bool false,undef,.bool false] fun gP=>xM gP fun iB=>aV iB
 (xO (ah 9 true [(au 1)] c1) fun iA=>tc [iA,.int .i64 0] (fun gX σ=>xF (aq .eql .no) [gX,.int .i64 3] fun gW=>xF aB [.bool true,gW,.bool false] fun fB=>xM fB fun gr=>aV gr
 (xM v6 fun e9=>nD [e9] (fun fK σ=>xF (b7 2 1 false) [fK] fun gD=>xF (aq .eql .no) [gD,.int .i64 1] fun fh=>xF aB [.bool true,fh,.bool false] fun dY=>xM dY fun v0=>K v0 σ) σ)
 (xF aB [.bool false,undef,.bool false] fun dY=>xM dY fun v0=>K v0 σ)) σ)
 (xF aB [.bool false,undef,.bool false] fun fB=>xM fB fun gr=>aV gr
 (xM v6 fun e9=>nD [e9] (fun fK σ=>xF (b7 2 1 false) [fK] fun gD=>xF (aq .eql .no) [gD,.int .i64 1] fun fh=>xF aB [.bool true,fh,.bool false] fun dY=>xM dY fun v0=>K v0 σ) σ)
 (xF aB [.bool false,undef,.bool false] fun dY=>xM dY fun v0=>K v0 σ))))) σ) σ
def z8(K:KT)(ts:List Value)(ls:List (List Value))(σ:Mem):Prop:=vP K (ls.getD 0 []) σ
def gi(K:KT)(J2 R1:JT)(v3 v5:Value)(c1:List Value)(σ:Mem):Prop:=xM v5 fun cH=>xF (aq .lss .no) [cH,.int .i64 6] fun cN=>aV cN
 (xO (ah 9 true [(au 1)] c1) fun et=>xM v3 fun eW=>xM v5 fun v30=>xF (dx 1) [eW,v30] fun eT=>aj 1 false [eT] (fun dM σ=>tf [et,dM,.bool false] (fun eR σ=>xM v5 fun dE=>xF (aq .add .no) [dE,.int .i64 1] fun dN=>xM dN fun v5=>R1 [v3,v5] [c1] σ) σ) σ)
 (J2 [] [c1] σ)
def gV(K:KT)(J2 R1:JT)(ts:List Value)(ls:List (List Value))(σ:Mem):Prop:=gi K J2 R1 (ts.getD 0 ar) (ts.getD 1 ar) (ls.getD 0 []) σ
def vQ(K:KT)(v3:Value)(c1:List Value)(σ:Mem):Prop:=a9 (z8 K) fun J2=>xM (.int .i64 0) fun v5=>eY (gV K J2) [v3,v5] [c1] σ
def z9(K:KT)(ts:List Value)(ls:List (List Value))(σ:Mem):Prop:=vQ K (ts.getD 0 ar) (ls.getD 0 []) σ
def gR(K:KT)(J1 R1:JT)(v3 v4:Value)(c1:List Value)(σ:Mem):Prop:=xM v4 fun bK=>xF (aq .lss .no) [bK,.int .i64 7] fun bh=>aV bh
 (xM v3 fun bM=>xO (ah 9 true [(au 1)] c1) fun bJ=>tj [bJ,.int .i64 2,.bool false] (fun v20 σ=>xF (b7 1 1 false) [v20] fun b5=>xC (iu 1 1 [.int .u64 0] [0] [b5] []) fun c22=>cv 1 8 c22 [bM,(rR 22 1 1)] (fun cu σ=>xM cu fun v3=>xM v4 fun bo=>xF (aq .add .no) [bo,.int .i64 1] fun bB=>xM bB fun v4=>R1 [v3,v4] [c1] σ) σ) σ)
 (J1 [v3] [c1] σ)
def iQ(K:KT)(J1 R1:JT)(ts:List Value)(ls:List (List Value))(σ:Mem):Prop:=gR K J1 R1 (ts.getD 0 ar) (ts.getD 1 ar) (ls.getD 0 []) σ
def P6(K:KT)(σ:Mem):Prop:=xM (.bool false) fun v0=>Bn [.int .i64 1,.int .i64 20,.int .i64 4,.int .i64 20] (fun v8 σ=>xM v8 fun v7=>xF (dH 0) [v7] fun v9=>xF (dH 1) [v7] fun v10=>xC (aH 9 [(au 1),v9] [.int .i64 0,.int .i64 0,.int .i64 0,.int .i64 0,.int .i64 0,.int .i64 0,.int .i64 0,.pointer none,.int .i64 0]) fun c1=>xM v10 fun v2=>xM v2 fun v11=>xF (mV .not) [v11] fun bA=>aV bA
 (xM (.bool false) fun v0=>K v0 σ)
 (fW 1 0 [.int .u64 0] [] [] (fun bm σ=>xM bm fun v3=>a9 (z9 K) fun J1=>xM (.int .i64 0) fun v4=>eY (iQ K J1) [v3,v4] [c1] σ) σ)) σ
def Ei:Spec:=fun args K σ=>match args with
  | []=>P6  K σ
  | _=>False
noncomputable def N2:Cx:={ P:=Tryz.prog,T:=[(9,.write,Bn),(11,.write,tj),(17,.write,tf),(14,.write,Bj),(28,.write,tc),(15,.write,xj),(16,.read,nD)],loc:=[(1,1),(22,22)],eqt:=[],n:=59,aL:=[(7,[3,4],[1]),(11,[3,5],[1]),(1000010,[3],[1]),(1000014,[],[1])] }
theorem Zt:cC N2 Tryz.f10 (aP Tryz.f10) 0=Ei:=by
  funext args K σ
  rcases args with _|⟨b,r⟩<;>kernel_rfl
theorem abm:Entry Tryz.prog 10 .write Ei:=
  entry (C:=N2) (aS.cons V3 (aS.cons V2 (aS.cons VR (aS.cons VU (aS.cons abl (aS.cons VQ (aS.cons VW aS.nil))))))) aG Tryz.func10 (by kernel_rfl) (by kernel_rfl) (by kernel_rfl) Zt
attribute [irreducible] vP z8 gi gV vQ z9 gR iQ P6 Ei
def Qx(a0 a1:Value)(K:KT)(σ:Mem):Prop:=xC (bO 5 [a0] []) fun c2=>xM (.pointer none) fun v4=>xO (ah 5 true [(au 2)] c2) fun v5=>xM a1 fun v6=>xF (aM [(0,5),(5,1),(6,2),(8,1),(9,1),(10,1),(11,1),(12,1),(13,1),(14,1),(15,4)] [.int .i64 0,.int .u64 0,.int .i64 0,.int .i64 0,.int .i64 0,.bool false,.int .i64 0,.int .i64 0,.int .i64 0,.int .u64 0,.int .u64 0,.int .i64 0,.int .i64 0,.int .i64 0,.pointer none,.int .i64 0,.int .u64 0,.int .i64 0,.int .i64 0] [0,1]) [v5,v6] fun v7=>jD 19 [v7] (fun v8 σ=>xM v8 fun v4=>K v4 σ) σ
def rL:Spec:=fun args K σ=>match args with
  | [a0,a1]=>Qx a0 a1 K σ
  | _=>False
noncomputable def OB:Cx:={ P:=Tryz.prog,T:=[],loc:=[(2,2)],eqt:=[],n:=9,aL:=[] }
theorem Z0:cC OB Tryz.f37 (aP Tryz.f37) 2=rL:=by
  funext args K σ
  rcases args with _|⟨a0,_|⟨a1,_|⟨b,r⟩⟩⟩<;>kernel_rfl
theorem VY:Entry Tryz.prog 37 .write rL:=
  entry (C:=OB) aS.nil aG Tryz.func37 (by kernel_rfl) (by kernel_rfl) (by kernel_rfl) Z0
attribute [irreducible] Qx rL
def Ps(a0 a1:Value)(K:KT)(σ:Mem):Prop:=xC (bO 0 [a0] []) fun c2=>xC (bO 9 [a1] []) fun c3=>xM (.bool false) fun v4=>xO (ah 9 true [(au 3)] c3) fun v5=>xD 8 (au 3) fun v6=>xO (ah 1 false [v6] c3) fun v7=>xi [v7] (fun v8 σ=>ie [v5,v8,.int .u64 0] (fun v9 σ=>xM (.bool true) fun v4=>K v4 σ) σ) σ
def Eb:Spec:=fun args K σ=>match args with
  | [a0,a1]=>Ps a0 a1 K σ
  | _=>False
noncomputable def Ng:Cx:={ P:=Tryz.prog,T:=[(59,.none,xi),(56,.write,ie)],loc:=[(2,2),(3,3),(6,3)],eqt:=[],n:=10,aL:=[] }
theorem YN:cC Ng Tryz.f29 (aP Tryz.f29) 2=Eb:=by
  funext args K σ
  rcases args with _|⟨a0,_|⟨a1,_|⟨b,r⟩⟩⟩<;>kernel_rfl
theorem aa9:Entry Tryz.prog 29 .write Eb:=
  entry (C:=Ng) (aS.cons RZ (aS.cons Dk aS.nil)) aG Tryz.func29 (by kernel_rfl) (by kernel_rfl) (by kernel_rfl) YN
attribute [irreducible] Ps Eb
def nJ(K:KT)(σ:Mem):Prop:=xM (.bool false) fun v4=>K v4 σ
def qI(K:KT)(ts:List Value)(ls:List (List Value))(σ:Mem):Prop:=nJ K σ
def Gs(a0 a1:Value)(K:KT)(σ:Mem):Prop:=xC (bO 9 [a1] []) fun c3=>xM (.bool false) fun v4=>a9 (qI K) fun J1=>xM a0 fun v6=>xF ay [v6] fun v7=>xD 0 v7 fun v8=>aj 1 false [v8] (fun v9 σ=>xF (aq .eql .no) [v9,.int .i64 0] fun dN=>xM dN fun dE=>aV dE
 (xM a0 fun et=>xM a0 fun eW=>xO (ah 9 true [(au 3)] c3) fun v30=>pg [] (fun eT σ=>cG [v30,eT] (fun dM σ=>xF ay [et] fun eR=>xD 1 eR fun eQ=>ax 1 [eQ,dM] (fun _v σ=>xF ay [eW] fun dK=>xD 0 dK fun dh=>ax 1 [dh,.int .i64 1] (fun _v σ=>J1 [] [] σ) σ) σ) σ) σ)
 (xF (aq .eql .no) [v9,.int .i64 1] fun gu=>xM gu fun fV=>aV fV
 (xO (ah 9 true [(au 3)] c3) fun fU=>xD 8 (au 3) fun fC=>xO (ah 1 false [fC] c3) fun fj=>xi [fj] (fun gL σ=>xM a0 fun iC=>xF ay [iC] fun iF=>xD 1 iF fun gZ=>aj 1 false [gZ] (fun gY σ=>xF (aq .add .no) [gY,.int .u64 1] fun gP=>ie [fU,gL,gP] (fun iB σ=>xM a0 fun iA=>xF ay [iA] fun gX=>xD 0 gX fun gW=>ax 1 [gW,.int .i64 2] (fun _v σ=>J1 [] [] σ) σ) σ) σ) σ)
 (xO (ah 9 true [(au 3)] c3) fun v10=>pg [] (fun v11 σ=>cG [v10,v11] (fun bA σ=>xM bA fun v5=>xM v5 fun bm=>xM a0 fun bK=>xF ay [bK] fun bh=>xD 1 bh fun bo=>aj 1 false [bo] (fun bB σ=>xF (aq .eql .no) [bm,bB] fun bM=>aV bM
 (xM (.bool true) fun v4=>K v4 σ)
 (xM a0 fun bJ=>xM a0 fun v20=>xM v5 fun b5=>xF ay [bJ] fun b8=>xD 1 b8 fun cu=>ax 1 [cu,b5] (fun _v σ=>xF ay [v20] fun cH=>xD 0 cH fun cN=>ax 1 [cN,.int .i64 1] (fun _v σ=>J1 [] [] σ) σ) σ)) σ) σ) σ))) σ
def yA:Spec:=fun args K σ=>match args with
  | [a0,a1]=>Gs a0 a1 K σ
  | _=>False
noncomputable def Nh:Cx:={ P:=Tryz.prog,T:=[(55,.none,pg),(54,.write,cG),(59,.none,xi),(56,.write,ie)],loc:=[(3,3),(40,3)],eqt:=[],n:=52,aL:=[(1000012,[],[])] }
theorem YO:cC Nh Tryz.f27 (aP Tryz.f27) 2=yA:=by
  funext args K σ
  rcases args with _|⟨a0,_|⟨a1,_|⟨b,r⟩⟩⟩<;>kernel_rfl
theorem aa':Entry Tryz.prog 27 .write yA:=
  entry (C:=Nh) (aS.cons Lt (aS.cons ow (aS.cons RZ (aS.cons Dk aS.nil)))) aG Tryz.func27 (by kernel_rfl) (by kernel_rfl) (by kernel_rfl) YO
attribute [irreducible] nJ qI Gs yA
def Qz(a0 a1 a2 a3:Value)(K:KT)(σ:Mem):Prop:=xM (.bool false) fun v8=>xM a0 fun v9=>xM a1 fun v10=>xM a2 fun v11=>xM a3 fun bA=>xF (aM [(0,1),(1,1),(2,1),(3,1)] [.int .i64 0,.int .u64 0,.int .i64 0,.int .i64 0] [0,2,3]) [v10,v11,bA] fun bm=>xF ay [v9] fun bK=>xD 15 bK fun bh=>ax 4 [bh,bm] (fun _v σ=>xM (.bool true) fun v8=>K v8 σ) σ
def pX:Spec:=fun args K σ=>match args with
  | [a0,a1,a2,a3]=>Qz a0 a1 a2 a3 K σ
  | _=>False
noncomputable def OD:Cx:={ P:=Tryz.prog,T:=[],loc:=[],eqt:=[],n:=16,aL:=[] }
theorem Z2:cC OD Tryz.f111 (aP Tryz.f111) 4=pX:=by
  funext args K σ
  rcases args with _|⟨a0,_|⟨a1,_|⟨a2,_|⟨a3,_|⟨b,r⟩⟩⟩⟩⟩<;>kernel_rfl
theorem VZ:Entry Tryz.prog 111 .write pX:=
  entry (C:=OD) aS.nil aG Tryz.func111 (by kernel_rfl) (by kernel_rfl) (by kernel_rfl) Z2
attribute [irreducible] Qz pX
def QB(a0:Value)(K:KT)(σ:Mem):Prop:=xM (.int .i64 0) fun v2=>xM a0 fun v3=>xF ay [v3] fun v4=>xD 9 v4 fun v5=>aj 1 false [v5] (fun v6 σ=>fe [v6] (fun v7 σ=>xF (b7 1 1 false) [v7] fun v8=>xF (aq .add .no) [v8,.int .i64 1] fun v9=>xM a0 fun v10=>xF ay [v10] fun v11=>xD 0 v11 fun bA=>xD 2 bA fun bm=>aj 1 false [bm] (fun bK σ=>xF (aq .add .no) [v9,bK] fun bh=>xM bh fun v2=>K v2 σ) σ) σ) σ
def CO:Spec:=fun args K σ=>match args with
  | [a0]=>QB a0 K σ
  | _=>False
noncomputable def OF:Cx:={ P:=Tryz.prog,T:=[(62,.none,fe)],loc:=[],eqt:=[],n:=16,aL:=[] }
theorem Z4:cC OF Tryz.f113 (aP Tryz.f113) 1=CO:=by
  funext args K σ
  rcases args with _|⟨a0,_|⟨b,r⟩⟩<;>kernel_rfl
theorem abL:Entry Tryz.prog 113 .read CO:=
  entry (C:=OF) (aS.cons uz aS.nil) aG Tryz.func113 (by kernel_rfl) (by kernel_rfl) (by kernel_rfl) Z4
attribute [irreducible] QB CO
def nR(K:KT)(gr:Value)(σ:Mem):Prop:=aV gr
 (xM (.int .i64 3) fun v2=>K v2 σ)
 (xM (.int .i64 0) fun v2=>K v2 σ)
def rp(K:KT)(ts:List Value)(ls:List (List Value))(σ:Mem):Prop:=nR K (ts.getD 0 ar) σ
def kr(K:KT)(gL:Value)(c3 c4:List Value)(σ:Mem):Prop:=aV gL
 (xM (.int .i64 5) fun v2=>K v2 σ)
 (a9 (rp K) fun J3=>xD 2 (au 3) fun e9=>xO (ah 1 false [e9] c3) fun fK=>xD 3 (au 4) fun gD=>xO (ah 1 false [gD] c4) fun fh=>xF (aq .eql .no) [fK,fh] fun dY=>xM dY fun jo=>aV jo
 (xD 0 (au 4) fun jI=>xO (ah 1 false [jI] c4) fun jH=>xF (aq .eql .no) [jH,.int .i64 2] fun jN=>xF aB [.bool true,jN,.bool false] fun jG=>xM jG fun gr=>J3 [gr] [] σ)
 (xF aB [.bool false,undef,.bool false] fun jG=>xM jG fun gr=>J3 [gr] [] σ))
def mG(K:KT)(ts:List Value)(ls:List (List Value))(σ:Mem):Prop:=kr K (ts.getD 0 ar) (ls.getD 0 []) (ls.getD 1 []) σ
def wJ(K:KT)(bh:Value)(c3 c4:List Value)(σ:Mem):Prop:=aV bh
 (xM (.int .i64 6) fun v2=>K v2 σ)
 (xD 0 (au 4) fun fU=>xO (ah 1 false [fU] c4) fun fC=>xF (aq .eql .no) [fC,.int .i64 4] fun fj=>xM fj fun gu=>aV gu
 (xM (.int .i64 4) fun v2=>K v2 σ)
 (a9 (mG K) fun J2=>xD 1 (au 3) fun iC=>xO (ah 1 false [iC] c3) fun iF=>xF (mV .not) [iF] fun gZ=>xM gZ fun gY=>aV gY
 (xF aB [.bool true,.bool true,undef] fun fB=>xM fB fun gL=>J2 [gL] [c3,c4] σ)
 (xD 2 (au 3) fun gP=>xO (ah 1 false [gP] c3) fun iB=>xD 3 (au 4) fun iA=>xO (ah 1 false [iA] c4) fun gX=>xF (aq .lss .no) [iB,gX] fun gW=>xF aB [.bool false,.bool true,gW] fun fB=>xM fB fun gL=>J2 [gL] [c3,c4] σ)))
def uZ(K:KT)(ts:List Value)(ls:List (List Value))(σ:Mem):Prop:=wJ K (ts.getD 0 ar) (ls.getD 0 []) (ls.getD 1 []) σ
def Qy(a0:Value)(K:KT)(σ:Mem):Prop:=xM (.int .i64 0) fun v2=>xM a0 fun v5=>xF ay [v5] fun v6=>xD 10 v6 fun v7=>aj 1 false [v7] (fun v8 σ=>nz [v8] (fun v9 σ=>xM a0 fun v10=>xF ay [v10] fun v11=>xD 9 v11 fun bA=>aj 1 false [bA] (fun bm σ=>fe [bm] (fun bK σ=>xC (aH 3 [(au 3),v9] [.int .i64 0,.bool false,.int .i64 0]) fun c3=>xC (aH 4 [(au 4),bK] [.int .i64 0,.int .i64 0,.int .i64 0,.int .i64 0]) fun c4=>a9 (uZ K) fun J1=>xM a0 fun bo=>xF ay [bo] fun bB=>xD 0 bB fun bM=>xD 0 bM fun bJ=>aj 1 false [bJ] (fun v20 σ=>xF (aq .eql .no) [v20,.int .i64 1] fun b5=>xM b5 fun bh=>aV bh
 (J1 [bh] [c3,c4] σ)
 (xM a0 fun b8=>xF ay [b8] fun cu=>xD 0 cu fun cH=>xD 0 cH fun cN=>aj 1 false [cN] (fun dE σ=>xF (aq .eql .no) [dE,.int .i64 3] fun dN=>xM dN fun et=>aV et
 (xD 0 (au 3) fun eW=>xO (ah 1 false [eW] c3) fun v30=>xM a0 fun eT=>xF ay [eT] fun dM=>xD 0 dM fun eR=>xD 4 eR fun eQ=>aj 1 false [eQ] (fun dK σ=>xF (aq .neq .no) [v30,dK] fun dh=>xF aB [.bool true,dh,.bool false] fun fV=>xM fV fun bh=>J1 [bh] [c3,c4] σ) σ)
 (xF aB [.bool false,undef,.bool false] fun fV=>xM fV fun bh=>J1 [bh] [c3,c4] σ)) σ)) σ) σ) σ) σ) σ
def Eo:Spec:=fun args K σ=>match args with
  | [a0]=>Qy a0 K σ
  | _=>False
noncomputable def OC:Cx:={ P:=Tryz.prog,T:=[(101,.none,nz),(62,.none,fe)],loc:=[(3,3),(4,4),(29,3),(39,4),(43,3),(47,3),(49,4),(54,3),(56,4),(60,4)],eqt:=[],n:=64,aL:=[(1000005,[15],[3,4]),(1000009,[42],[3,4]),(1000011,[53],[])] }
theorem Z1:cC OC Tryz.f114 (aP Tryz.f114) 1=Eo:=by
  funext args K σ
  rcases args with _|⟨a0,_|⟨b,r⟩⟩<;>kernel_rfl
theorem abJ:Entry Tryz.prog 114 .read Eo:=
  entry (C:=OC) (aS.cons JA (aS.cons uz aS.nil)) aG Tryz.func114 (by kernel_rfl) (by kernel_rfl) (by kernel_rfl) Z1
attribute [irreducible] nR rp kr mG wJ uZ Qy Eo
def QA(a0 a1:Value)(K:KT)(σ:Mem):Prop:=xC (bO 9 [a1] []) fun c3=>xM (.bool false) fun v4=>xO (ah 9 true [(au 3)] c3) fun v7=>xD 0 (au 3) fun v8=>xO (ah 7 true [v8] c3) fun v9=>xM a0 fun v10=>xF ay [v10] fun v11=>xD 6 v11 fun bA=>xD 0 bA fun bm=>aj 1 false [bm] (fun bK σ=>gw [v9,bK] (fun bh σ=>cG [v7,bh] (fun bo σ=>fe [bo] (fun bB σ=>xC (aH 4 [(au 5),bB] [.int .i64 0,.int .i64 0,.int .i64 0,.int .i64 0]) fun c5=>xM a0 fun bM=>xF ay [bM] fun bJ=>xD 10 bJ fun v20=>aj 1 false [v20] (fun b5 σ=>nz [b5] (fun b8 σ=>xF (b7 0 1 false) [b8] fun cu=>xM cu fun v6=>xO (ah 4 true [(au 5)] c5) fun cN=>xM a0 fun dE=>xF ay [dE] fun dN=>xD 6 dN fun et=>aj 2 true [et] (fun eW σ=>xl [cN,eW] (fun v30 σ=>xF (mV .not) [v30] fun eT=>xM eT fun cH=>aV cH
 (xM a0 fun dM=>xO (ah 9 true [(au 3)] c3) fun eR=>lX [eR] (fun eQ σ=>pX [dM,.int .i64 3,.int .i64 0,eQ] (fun dK σ=>xM dK fun v4=>K v4 σ) σ) σ)
 (xD 1 (au 5) fun fV=>xO (ah 1 false [fV] c5) fun gu=>xM a0 fun fU=>xF ay [fU] fun fC=>xD 9 fC fun fj=>aj 1 false [fj] (fun gL σ=>fe [gL] (fun iC σ=>xF (b7 1 1 false) [iC] fun iF=>xF (aq .neq .no) [gu,iF] fun gZ=>xM gZ fun dh=>aV dh
 (xM a0 fun gY=>xF ay [gY] fun gP=>xD 8 gP fun iB=>ax 1 [iB,.int .i64 0] (fun _v σ=>xM (.bool false) fun v4=>K v4 σ) σ)
 (xM a0 fun gX=>xF ay [gX] fun gW=>xD 0 gW fun fB=>xD 0 fB fun gr=>aj 1 false [gr] (fun e9 σ=>xF (aq .eql .no) [e9,.int .i64 3] fun fK=>xM fK fun iA=>aV iA
 (xM a0 fun gD=>xM v6 fun fh=>xM a0 fun dY=>xF ay [dY] fun jo=>xD 12 jo fun jI=>aj 1 false [jI] (fun jH σ=>pX [gD,.int .i64 8,fh,jH] (fun jN σ=>xM jN fun v4=>K v4 σ) σ) σ)
 (xM a0 fun jG=>xM v6 fun gn=>xM a0 fun gk=>xF ay [gk] fun gC=>xD 12 gC fun gj=>aj 1 false [gj] (fun fT σ=>pX [jG,.int .i64 0,gn,fT] (fun cQ σ=>xM cQ fun v4=>K v4 σ) σ) σ)) σ)) σ) σ)) σ) σ) σ) σ) σ) σ) σ) σ
def GQ:Spec:=fun args K σ=>match args with
  | [a0,a1]=>QA a0 a1 K σ
  | _=>False
noncomputable def OE:Cx:={ P:=Tryz.prog,T:=[(63,.none,gw),(54,.write,cG),(62,.none,fe),(101,.none,nz),(112,.none,xl),(18,.read,lX),(111,.write,pX)],loc:=[(3,3),(5,5),(8,3),(37,5)],eqt:=[],n:=70,aL:=[] }
theorem Z3:cC OE Tryz.f115 (aP Tryz.f115) 2=GQ:=by
  funext args K σ
  rcases args with _|⟨a0,_|⟨a1,_|⟨b,r⟩⟩⟩<;>kernel_rfl
theorem abK:Entry Tryz.prog 115 .write GQ:=
  entry (C:=OE) (aS.cons xS (aS.cons ow (aS.cons uz (aS.cons JA (aS.cons R6 (aS.cons JB (aS.cons VZ aS.nil))))))) aG Tryz.func115 (by kernel_rfl) (by kernel_rfl) (by kernel_rfl) Z3
attribute [irreducible] QA GQ
def fM(K:KT)(σ:Mem):Prop:=xM (.bool false) fun v4=>K v4 σ
def jm(K:KT)(ts:List Value)(ls:List (List Value))(σ:Mem):Prop:=fM K σ
def nT(K:KT)(J1:JT)(v0 fC:Value)(c3 c5:List Value)(σ:Mem):Prop:=aV fC
 (xM v0 fun fj=>xO (ah 9 true [(au 3)] c3) fun gL=>lX [gL] (fun iC σ=>pX [fj,.int .i64 3,.int .i64 0,iC] (fun iF σ=>xM iF fun v4=>K v4 σ) σ) σ)
 (xM v0 fun gZ=>xO (ah 9 true [(au 3)] c3) fun gY=>xD 0 (au 3) fun gP=>xO (ah 7 true [gP] c3) fun iB=>xD 0 (au 5) fun iA=>xO (ah 1 false [iA] c5) fun gX=>gw [iB,gX] (fun gW σ=>cG [gY,gW] (fun fB σ=>xF ay [gZ] fun gr=>xD 9 gr fun e9=>ax 1 [e9,fB] (fun _v σ=>xM v0 fun fK=>xM v0 fun gD=>xO (ah 9 true [(au 3)] c3) fun fh=>lX [fh] (fun dY σ=>xF ay [fK] fun jo=>xD 11 jo fun jI=>ax 1 [jI,dY] (fun _v σ=>xF ay [gD] fun jH=>xD 8 jH fun jN=>ax 1 [jN,.int .i64 1] (fun _v σ=>xM v0 fun jG=>xF ay [jG] fun gn=>xD 9 gn fun gk=>aj 1 false [gk] (fun gC σ=>fe [gC] (fun gj σ=>xO (ah 2 true [(au 5)] c5) fun fT=>xl [gj,fT] (fun cQ σ=>xF (mV .not) [cQ] fun pd=>aV pd
 (xM v0 fun nH=>xO (ah 9 true [(au 3)] c3) fun nZ=>lX [nZ] (fun oN σ=>pX [nH,.int .i64 3,.int .i64 0,oN] (fun nY σ=>xM nY fun v4=>K v4 σ) σ) σ)
 (J1 [] [] σ)) σ) σ) σ) σ) σ) σ) σ) σ) σ)
def ry(K:KT)(J1:JT)(ts:List Value)(ls:List (List Value))(σ:Mem):Prop:=nT K J1 (ts.getD 0 ar) (ts.getD 1 ar) (ls.getD 0 []) (ls.getD 1 []) σ
def nS(K:KT)(J1:JT)(v0 jw:Value)(σ:Mem):Prop:=aV jw
 (xM v0 fun fI=>xM v0 fun fH=>xF ay [fH] fun fG=>xD 11 fG fun fk=>aj 1 false [fk] (fun fF σ=>pX [fI,.int .i64 4,.int .i64 0,fF] (fun eA σ=>xM eA fun v4=>K v4 σ) σ) σ)
 (J1 [] [] σ)
def ru(K:KT)(J1:JT)(ts:List Value)(ls:List (List Value))(σ:Mem):Prop:=nS K J1 (ts.getD 0 ar) (ts.getD 1 ar) σ
def An(a0 a1:Value)(K:KT)(σ:Mem):Prop:=xC (bO 9 [a1] []) fun c3=>xM (.bool false) fun v4=>a9 (jm K) fun J1=>xM a0 fun v9=>xF ay [v9] fun v10=>xD 8 v10 fun v11=>aj 1 false [v11] (fun bA σ=>xF (aq .eql .no) [bA,.int .i64 0] fun bB=>xM bB fun bo=>aV bo
 (xM a0 fun bJ=>xF ay [bJ] fun v20=>xD 0 v20 fun b5=>xD 1 b5 fun b8=>aj 1 false [b8] (fun cu σ=>uu [cu] (fun cH σ=>xM cH fun bM=>xF (dH 0) [bM] fun cN=>xF (dH 1) [bM] fun dE=>xC (aH 2 [(au 5),cN] [.int .i64 0,.int .i64 0]) fun c5=>xM dE fun v6=>xM a0 fun dN=>xO (ah 2 true [(au 5)] c5) fun et=>xF ay [dN] fun eW=>xD 6 eW fun v30=>ax 2 [v30,et] (fun _v σ=>a9 (ry K J1) fun J2=>xM v6 fun eT=>xF (mV .not) [eT] fun dM=>xM dM fun eR=>aV eR
 (xF aB [.bool true,.bool true,undef] fun fC=>J2 [a0,fC] [c3,c5] σ)
 (xD 0 (au 5) fun eQ=>xO (ah 1 false [eQ] c5) fun dK=>xD 0 (au 3) fun dh=>xD 1 dh fun fV=>xO (ah 1 false [fV] c3) fun gu=>xF (aq .geq .no) [dK,gu] fun fU=>xF aB [.bool false,.bool true,fU] fun fC=>J2 [a0,fC] [c3,c5] σ)) σ) σ) σ)
 (xF (aq .eql .no) [bA,.int .i64 1] fun mH=>xM mH fun nX=>aV nX
 (xO (ah 9 true [(au 3)] c3) fun rE=>xM a0 fun sT=>xF ay [sT] fun pH=>xD 9 pH fun ui=>aj 1 false [ui] (fun uh σ=>fe [uh] (fun vc σ=>xF (b7 1 1 false) [vc] fun ug=>cG [rE,ug] (fun uf σ=>xh [uf] (fun sS σ=>xC (aH 5 [(au 7),sS] [.int .i64 0,.int .i64 0,.int .i64 0,.int .i64 0,.bool false]) fun c7=>xM a0 fun sR=>xM a0 fun sQ=>xD 1 (au 7) fun rD=>xO (ah 1 false [rD] c7) fun sP=>xF ay [sR] fun sO=>xD 13 sO fun tM=>ax 1 [tM,sP] (fun _v σ=>xF ay [sQ] fun tL=>xD 8 tL fun va=>ax 1 [va,.int .i64 2] (fun _v σ=>xD 4 (au 7) fun ue=>xO (ah 1 false [ue] c7) fun wP=>xM a0 fun wO=>xF ay [wO] fun wN=>xD 5 wN fun wM=>aj 1 false [wM] (fun i_ σ=>xF (aq .neq .bool) [wP,i_] fun lU=>xM lU fun tK=>aV tK
 (xM a0 fun ky=>xO (ah 9 true [(au 3)] c3) fun jQ=>lX [jQ] (fun jP σ=>pX [ky,.int .i64 3,.int .i64 0,jP] (fun kx σ=>xM kx fun v4=>K v4 σ) σ) σ)
 (a9 (ru K J1) fun J3=>xM a0 fun j7=>xF ay [j7] fun j6=>xD 0 j6 fun kP=>xD 2 kP fun h_=>aj 1 false [h_] (fun iI σ=>xF (aq .lss .no) [iI,.int .i64 0] fun h9=>xM h9 fun hZ=>aV hZ
 (xF aB [.bool true,.bool true,undef] fun g7=>xM g7 fun jw=>J3 [a0,jw] [] σ)
 (xM a0 fun hY=>xF ay [hY] fun hH=>xD 0 hH fun iH=>xD 2 iH fun e_=>aj 1 false [e_] (fun g_ σ=>xD 1 (au 7) fun g8=>xO (ah 1 false [g8] c7) fun iZ=>xF (aq .geq .no) [g_,iZ] fun jO=>xF aB [.bool false,.bool true,jO] fun g7=>xM g7 fun jw=>J3 [a0,jw] [] σ) σ)) σ)) σ) σ) σ) σ) σ) σ) σ)
 (xF (aq .eql .no) [bA,.int .i64 2] fun fD=>xM fD fun fE=>aV fE
 (xM a0 fun iG=>xO (ah 9 true [(au 3)] c3) fun gM=>xM a0 fun iY=>CO [iY] (fun iX σ=>cG [gM,iX] (fun iW σ=>xF ay [iG] fun iV=>xD 10 iV fun iU=>ax 1 [iU,iW] (fun _v σ=>xM a0 fun iT=>xM a0 fun jv=>xO (ah 9 true [(au 3)] c3) fun lS=>lX [lS] (fun mK σ=>xM a0 fun mJ=>Eo [mJ] (fun mI σ=>xF ay [iT] fun kv=>xD 12 kv fun pR=>ax 1 [pR,mK] (fun _v σ=>xF ay [jv] fun rG=>xD 8 rG fun pQ=>ax 1 [pQ,mI] (fun _v σ=>xM a0 fun pP=>xF ay [pP] fun pN=>xD 8 pN fun pM=>aj 1 false [pM] (fun pL σ=>xF (aq .eql .no) [pL,.int .i64 4] fun pK=>aV pK
 (xM a0 fun rF=>xM a0 fun pJ=>xF ay [pJ] fun sU=>xD 6 sU fun w9=>xD 0 w9 fun w8=>aj 1 false [w8] (fun w7 σ=>xM a0 fun wZ=>xF ay [wZ] fun wY=>xD 9 wY fun wX=>aj 1 false [wX] (fun wW σ=>xM a0 fun wV=>xF ay [wV] fun wU=>xD 13 wU fun pI=>aj 1 false [pI] (fun wT σ=>rM [w7,wW,wT] (fun wR σ=>xF ay [rF] fun AY=>xD 14 AY fun AX=>ax 1 [AX,wR] (fun _v σ=>J1 [] [] σ) σ) σ) σ) σ) σ)
 (J1 [] [] σ)) σ) σ) σ) σ) σ) σ) σ) σ)
 (xF (aq .eql .no) [bA,.int .i64 3] fun AV=>xM AV fun AW=>aV AW
 (xM a0 fun AU=>xF ay [AU] fun AT=>xD 9 AT fun AS=>aj 1 false [AS] (fun AR σ=>fe [AR] (fun AQ σ=>xC (aH 4 [(au 8),AQ] [.int .i64 0,.int .i64 0,.int .i64 0,.int .i64 0]) fun c8=>xD 3 (au 8) fun AP=>xO (ah 1 false [AP] c8) fun Cq=>xF (aq .add .no) [Cq,.int .i64 1] fun AO=>xD 0 (au 8) fun AN=>xC (aH 1 [AN,.int .i64 1] c8) fun c8=>xD 3 (au 8) fun AM=>xC (aH 1 [AM,AO] c8) fun c8=>xO (ah 9 true [(au 3)] c3) fun AL=>xD 0 (au 3) fun AK=>xO (ah 7 true [AK] c3) fun wQ=>xM a0 fun AJ=>xF ay [AJ] fun AI=>xD 6 AI fun yw=>xD 0 yw fun AH=>aj 1 false [AH] (fun AG σ=>gw [wQ,AG] (fun AF σ=>xM a0 fun AE=>xF ay [AE] fun AD=>xD 9 AD fun Cp=>aj 1 false [Cp] (fun AB σ=>xO (ah 4 true [(au 8)] c8) fun AA=>n_ [AA] (fun Az σ=>fN [AL,AF,AB,Az] (fun Cm σ=>xM a0 fun Ay=>xF ay [Ay] fun Ax=>xD 8 Ax fun Av=>ax 1 [Av,.int .i64 0] (fun _v σ=>J1 [] [] σ) σ) σ) σ) σ) σ) σ) σ) σ)
 (xF (aq .eql .no) [bA,.int .i64 4] fun At=>xM At fun Au=>aV Au
 (xM a0 fun As=>xF ay [As] fun Aq=>xD 14 Aq fun D2=>aj 1 false [D2] (fun D1 σ=>xO (ah 9 true [(au 3)] c3) fun D0=>yI [D1,D0] (fun Gx σ=>aV Gx
 (xM a0 fun Ik=>xF ay [Ik] fun Ij=>xD 8 Ij fun Ii=>ax 1 [Ii,.int .i64 0] (fun _v σ=>J1 [] [] σ) σ)
 (J1 [] [] σ)) σ) σ)
 (xF (aq .eql .no) [bA,.int .i64 5] fun Ih=>xM Ih fun Ap=>aV Ap
 (xM a0 fun Ig=>xF ay [Ig] fun Ie=>xD 8 Ie fun Ic=>ax 1 [Ic,.int .i64 0] (fun _v σ=>xO (ah 9 true [(au 3)] c3) fun Ib=>xM a0 fun Ia=>CO [Ia] (fun H_ σ=>xM a0 fun H'=>xF ay [H'] fun H9=>xD 10 H9 fun H8=>aj 1 false [H8] (fun QZ σ=>xM a0 fun QY=>xF ay [QY] fun QX=>xD 0 QX fun QW=>xD 3 QW fun QV=>aj 1 false [QV] (fun QU σ=>xF (aM [(0,1),(1,1),(2,1)] [.int .i64 0,.bool false,.int .i64 0] [0]) [QU] fun QT=>ur [QT] (fun QS σ=>fN [Ib,H_,QZ,QS] (fun QR σ=>aV QR
 (xM a0 fun QQ=>xM a0 fun QP=>xF ay [QP] fun QO=>xD 10 QO fun QN=>aj 1 false [QN] (fun QM σ=>nz [QM] (fun DZ σ=>xF (b7 0 1 false) [DZ] fun X3=>xO (ah 9 true [(au 3)] c3) fun X2=>lX [X2] (fun X1 σ=>pX [QQ,.int .i64 0,X3,X1] (fun X0 σ=>xM X0 fun v4=>K v4 σ) σ) σ) σ) σ)
 (J1 [] [] σ)) σ) σ) σ) σ) σ) σ)
 (xM a0 fun bm=>xO (ah 9 true [(au 3)] c3) fun bK=>GQ [bm,bK] (fun bh σ=>xM bh fun v4=>K v4 σ) σ))))))) σ
def kR:Spec:=fun args K σ=>match args with
  | [a0,a1]=>An a0 a1 K σ
  | _=>False
noncomputable def OG:Cx:={ P:=Tryz.prog,T:=[(61,.none,uu),(18,.read,lX),(111,.write,pX),(63,.none,gw),(54,.write,cG),(62,.none,fe),(112,.none,xl),(31,.none,xh),(113,.read,CO),(114,.read,Eo),(86,.write,rM),(69,.none,n_),(49,.write,fN),(88,.write,yI),(102,.none,ur),(101,.none,nz),(115,.write,GQ)],loc:=[(3,3),(5,5),(7,7),(8,8),(34,5),(36,3),(37,3),(47,3),(49,5),(88,7),(95,7),(119,7),(177,8),(180,8),(181,8),(183,3)],eqt:=[(4,.bool)],n:=242,aL:=[(1000008,[0,40],[3,5]),(1000019,[0,106],[]),(1000037,[],[])] }
theorem Z5:cC OG Tryz.f60 (aP Tryz.f60) 2=kR:=by
  funext args K σ
  rcases args with _|⟨a0,_|⟨a1,_|⟨b,r⟩⟩⟩<;>kernel_rfl
theorem V0:Entry Tryz.prog 60 .write kR:=
  entry (C:=OG) (aS.cons VM (aS.cons JB (aS.cons VZ (aS.cons xS (aS.cons ow (aS.cons uz (aS.cons R6 (aS.cons RY (aS.cons abL (aS.cons abJ (aS.cons R5 (aS.cons Hc (aS.cons xT (aS.cons V4 (aS.cons RX (aS.cons JA (aS.cons abK aS.nil))))))))))))))))) aG Tryz.func60 (by kernel_rfl) (by kernel_rfl) (by kernel_rfl) Z5
attribute [irreducible] fM jm nT ry nS ru An kR
def nM(K:KT)(c2 c4:List Value)(σ:Mem):Prop:=xO (ah 3 true [(au 2)] c2) fun dN=>xC (aH 3 [(au 4),dN] c4) fun c4=>xM (.bool false) fun v5=>xO (ah 3 true [(au 4)] c4) fun r4=>K (.tuple #[r4,v5]) σ
def qW(K:KT)(ts:List Value)(ls:List (List Value))(σ:Mem):Prop:=nM K (ls.getD 0 []) (ls.getD 1 []) σ
def H5(a0 a1:Value)(K:KT)(σ:Mem):Prop:=xC (bO 3 [a0] []) fun c2=>xC (bO 9 [a1] []) fun c3=>xM (.bool false) fun v5=>a9 (qW K) fun J1=>xD 2 (au 2) fun bA=>xO (ah 1 false [bA] c2) fun bm=>xM bm fun v11=>aV v11
 (xO (ah 3 true [(au 2)] c2) fun bK=>xF (aM [] [] []) [] fun bh=>xO (ah 9 true [(au 3)] c3) fun bo=>Eb [bh,bo] (fun bB σ=>xC (aH 3 [(au 4),bK] [.pointer none,.pointer none,.bool false]) fun c4=>xM bB fun v5=>xO (ah 3 true [(au 4)] c4) fun r4=>K (.tuple #[r4,v5]) σ) σ)
 (xD 0 (au 2) fun bJ=>xO (ah 1 false [bJ] c2) fun v20=>xF (aq .neq .ptr) [v20,.pointer none] fun b5=>xM b5 fun bM=>aV bM
 (xD 0 (au 2) fun b8=>xO (ah 1 false [b8] c2) fun cu=>xO (ah 9 true [(au 3)] c3) fun cH=>yA [cu,cH] (fun cN σ=>aV cN
 (xD 0 (au 2) fun dE=>xC (aH 1 [dE,.pointer none] c2) fun c2=>J1 [] [c2,[.pointer none,.pointer none,.bool false]] σ)
 (J1 [] [c2,[.pointer none,.pointer none,.bool false]] σ)) σ)
 (xD 1 (au 2) fun v6=>xO (ah 1 false [v6] c2) fun v7=>xO (ah 9 true [(au 3)] c3) fun v8=>kR [v7,v8] (fun v9 σ=>xD 2 (au 2) fun v10=>xC (aH 1 [v10,v9] c2) fun c2=>J1 [] [c2,[.pointer none,.pointer none,.bool false]] σ) σ))
def pW:Spec:=fun args K σ=>match args with
  | [a0,a1]=>H5 a0 a1 K σ
  | _=>False
noncomputable def NZ:Cx:={ P:=Tryz.prog,T:=[(29,.write,Eb),(27,.write,yA),(60,.write,kR)],loc:=[(2,2),(3,3),(4,4),(6,2),(10,2),(12,2),(19,2),(22,2),(26,2)],eqt:=[(57,.ptr)],n:=28,aL:=[(1000008,[],[2,4])] }
theorem Zq:cC NZ Tryz.f38 (aP Tryz.f38) 2=pW:=by
  funext args K σ
  rcases args with _|⟨a0,_|⟨a1,_|⟨b,r⟩⟩⟩<;>kernel_rfl
theorem abk:Entry Tryz.prog 38 .write pW:=
  entry (C:=NZ) (aS.cons aa9 (aS.cons aa' (aS.cons V0 aS.nil))) aG Tryz.func38 (by kernel_rfl) (by kernel_rfl) (by kernel_rfl) Zq
attribute [irreducible] nM qW H5 pW
def QC(a0:Value)(K:KT)(σ:Mem):Prop:=xM a0 fun v3=>xF (aq .eql .ptr) [v3,.pointer none] fun v4=>aV v4
 (xF (aM [(0,1),(1,1),(2,1),(3,1)] [.int .i64 0,.int .u64 0,.int .i64 0,.int .i64 0] [0]) [.int .i64 1] fun v5=>xC (aH 4 [(au 2),v5] [.int .i64 0,.int .u64 0,.int .i64 0,.int .i64 0]) fun c2=>xO (ah 4 true [(au 2)] c2) fun r2=>K r2 σ)
 (xM a0 fun v6=>xF ay [v6] fun v7=>xD 15 v7 fun v8=>aj 4 true [v8] (fun v9 σ=>xC (aH 4 [(au 2),v9] [.int .i64 0,.int .u64 0,.int .i64 0,.int .i64 0]) fun c2=>xO (ah 4 true [(au 2)] c2) fun r2=>K r2 σ) σ)
def yH:Spec:=fun args K σ=>match args with
  | [a0]=>QC a0 K σ
  | _=>False
noncomputable def OH:Cx:={ P:=Tryz.prog,T:=[],loc:=[(2,2)],eqt:=[(76,.ptr)],n:=10,aL:=[] }
theorem Z6:cC OH Tryz.f39 (aP Tryz.f39) 1=yH:=by
  funext args K σ
  rcases args with _|⟨a0,_|⟨b,r⟩⟩<;>kernel_rfl
theorem V1:Entry Tryz.prog 39 .read yH:=
  entry (C:=OH) aS.nil aG Tryz.func39 (by kernel_rfl) (by kernel_rfl) (by kernel_rfl) Z6
attribute [irreducible] QC yH
def wj(K:KT)(v7:Value)(c6:List Value)(σ:Mem):Prop:=xM v7 fun bJ=>yH [bJ] (fun v20 σ=>xC (aH 4 [(au 6),v20] c6) fun c6=>xO (ah 4 true [(au 6)] c6) fun r6=>K r6 σ) σ
def uQ(K:KT)(ts:List Value)(ls:List (List Value))(σ:Mem):Prop:=wj K (ts.getD 0 ar) (ls.getD 0 []) σ
def ki(K:KT)(J1 R1:JT)(v7 v8:Value)(c3 c6:List Value)(σ:Mem):Prop:=xM v8 fun bA=>xF (aq .lss .no) [bA,.int .i64 200] fun bm=>aV bm
 (xM v7 fun bo=>xO (ah 9 true [(au 3)] c3) fun bB=>kR [bo,bB] (fun bM σ=>aV bM
 (J1 [v7] [c6] σ)
 (xM v8 fun bK=>xF (aq .add .no) [bK,.int .i64 1] fun bh=>xM bh fun v8=>R1 [v7,v8] [c3,c6] σ)) σ)
 (J1 [v7] [c6] σ)
def lu(K:KT)(J1 R1:JT)(ts:List Value)(ls:List (List Value))(σ:Mem):Prop:=ki K J1 R1 (ts.getD 0 ar) (ts.getD 1 ar) (ls.getD 0 []) (ls.getD 1 []) σ
def P8(a0 a1 a2:Value)(K:KT)(σ:Mem):Prop:=xC (bO 9 [a0] []) fun c3=>xC (bO 5 [a1] []) fun c4=>xO (ah 5 true [(au 4)] c4) fun v9=>xM a2 fun v10=>rL [v9,v10] (fun v11 σ=>xM v11 fun v7=>a9 (uQ K) fun J1=>xM (.int .i64 0) fun v8=>eY (lu K J1) [v7,v8] [c3,[.int .i64 0,.int .u64 0,.int .i64 0,.int .i64 0]] σ) σ
def CI:Spec:=fun args K σ=>match args with
  | [a0,a1,a2]=>P8 a0 a1 a2 K σ
  | _=>False
noncomputable def N4:Cx:={ P:=Tryz.prog,T:=[(37,.write,rL),(60,.write,kR),(39,.read,yH)],loc:=[(3,3),(4,4),(6,6)],eqt:=[],n:=21,aL:=[(4,[7,8],[3,6]),(1000007,[7],[6])] }
theorem Zv:cC N4 Tryz.f30 (aP Tryz.f30) 3=CI:=by
  funext args K σ
  rcases args with _|⟨a0,_|⟨a1,_|⟨a2,_|⟨b,r⟩⟩⟩⟩<;>kernel_rfl
theorem abn:Entry Tryz.prog 30 .write CI:=
  entry (C:=N4) (aS.cons VY (aS.cons V0 (aS.cons V1 aS.nil))) aG Tryz.func30 (by kernel_rfl) (by kernel_rfl) (by kernel_rfl) Zv
attribute [irreducible] wj uQ ki lu P8 CI
end Go.Fl
namespace Go.Fl
open Go Go.Proofs
set_option maxRecDepth 10000000
def vT(K:KT)(σ:Mem):Prop:=xM (.bool true) fun v6=>K v6 σ
def Ab(K:KT)(ts:List Value)(ls:List (List Value))(σ:Mem):Prop:=vT K σ
def vS(K:KT)(J6 R1:JT)(v9 v10 cN DZ:Value)(c7:List Value)(σ:Mem):Prop:=aV DZ
 (xM (.bool false) fun v6=>K v6 σ)
 (xM cN fun Ib=>xF (aq .add .no) [Ib,.int .i64 1] fun Ia=>xM Ia fun cN=>R1 [v9,v10,cN] [c7] σ)
def Aa(K:KT)(J6 R1:JT)(ts:List Value)(ls:List (List Value))(σ:Mem):Prop:=vS K J6 R1 (ts.getD 0 ar) (ts.getD 1 ar) (ts.getD 2 ar) (ts.getD 3 ar) (ls.getD 0 []) σ
def cR(K:KT)(J6 R1:JT)(v9 v10 cN:Value)(c7:List Value)(σ:Mem):Prop:=xM cN fun Ih=>xM v9 fun Ig=>xF jS [Ig] fun Ie=>xF (aq .lss .no) [Ih,Ie] fun Ic=>aV Ic
 (xO (ah 9 true [(au 7)] c7) fun H_=>xM v9 fun H'=>xM cN fun H9=>xF (dx 1) [H',H9] fun H8=>aj 1 false [H8] (fun QZ σ=>xF (aM [(0,1),(1,1),(2,1),(3,1),(4,1)] [.int .i64 0,.int .u64 0,.int .i64 0,.int .i64 0,.int .i64 0] [0,1]) [.int .i64 1,QZ] fun QY=>CI [H_,QY,.bool false] (fun QX σ=>xC (aH 4 [(au 26),QX] [.int .i64 0,.int .u64 0,.int .i64 0,.int .i64 0]) fun c26=>a9 (Aa K J6 R1) fun J7=>xD 0 (au 26) fun QW=>xO (ah 1 false [QW] c26) fun QV=>xF (aq .neq .no) [QV,.int .i64 0] fun QU=>xM QU fun QT=>aV QT
 (xF aB [.bool true,.bool true,undef] fun DZ=>J7 [v9,v10,cN,DZ] [c7] σ)
 (xD 2 (au 26) fun QS=>xO (ah 1 false [QS] c26) fun QR=>xM v10 fun QQ=>xM cN fun QP=>xF (dx 1) [QQ,QP] fun QO=>aj 1 false [QO] (fun QN σ=>xF (aq .neq .no) [QR,QN] fun QM=>xF aB [.bool false,.bool true,QM] fun DZ=>J7 [v9,v10,cN,DZ] [c7] σ) σ)) σ) σ)
 (J6 [] [] σ)
def db(K:KT)(J6 R1:JT)(ts:List Value)(ls:List (List Value))(σ:Mem):Prop:=cR K J6 R1 (ts.getD 0 ar) (ts.getD 1 ar) (ts.getD 2 ar) (ls.getD 0 []) σ
def vU(K:KT)(v9 v10 Ap:Value)(c7:List Value)(σ:Mem):Prop:=aV Ap
 (xM (.bool false) fun v6=>K v6 σ)
 (a9 (Ab K) fun J6=>xM (.int .i64 0) fun cN=>eY (db K J6) [v9,v10,cN] [c7] σ)
def Ad(K:KT)(ts:List Value)(ls:List (List Value))(σ:Mem):Prop:=vU K (ts.getD 0 ar) (ts.getD 1 ar) (ts.getD 2 ar) (ls.getD 0 []) σ
def vV(K:KT)(v9 v10 bm bo:Value)(c7:List Value)(σ:Mem):Prop:=a9 (Ad K) fun J5=>xM bo fun D1=>xM D1 fun D0=>aV D0
 (xF aB [.bool true,.bool true,undef] fun Ap=>J5 [v9,v10,Ap] [c7] σ)
 (xO (ah 9 true [(au 7)] c7) fun Gx=>xM bm fun Ik=>xj [Gx,Ik,.int .i64 2] (fun Ij σ=>xF (mV .not) [Ij] fun Ii=>xF aB [.bool false,.bool true,Ii] fun Ap=>J5 [v9,v10,Ap] [c7] σ) σ)
def uP(K:KT)(ts:List Value)(ls:List (List Value))(σ:Mem):Prop:=vV K (ts.getD 0 ar) (ts.getD 1 ar) (ts.getD 2 ar) (ts.getD 3 ar) (ls.getD 0 []) σ
def qY(K:KT)(J4 R1:JT)(v1 v9 v10 bm bh bo b8:Value)(c7 cK:List Value)(σ:Mem):Prop:=xM b8 fun AJ=>xF (aq .add .no) [AJ,.int .i64 1] fun AI=>xM AI fun b8=>R1 [v1,v9,v10,bm,bh,bo,b8] [c7,cK] σ
def uO(K:KT)(J4 R1:JT)(ts:List Value)(ls:List (List Value))(σ:Mem):Prop:=qY K J4 R1 (ts.getD 0 ar) (ts.getD 1 ar) (ts.getD 2 ar) (ts.getD 3 ar) (ts.getD 4 ar) (ts.getD 5 ar) (ts.getD 6 ar) (ls.getD 0 []) (ls.getD 1 []) σ
def vR(K:KT)(J4 R1:JT)(v1 v9 v10 bm bh bo b8:Value)(c7 cK:List Value)(σ:Mem):Prop:=a9 (uO K J4 R1) fun J9=>xO (ah 3 true [(au 14)] cK) fun AH=>xO (ah 9 true [(au 7)] c7) fun AG=>pW [AH,AG] (fun AF σ=>xM AF fun yw=>xF (dH 0) [yw] fun AE=>xF (dH 1) [yw] fun AD=>xC (aH 3 [(au 23),AE] [.pointer none,.pointer none,.bool false]) fun c23=>xM AD fun cH=>xO (ah 3 true [(au 23)] c23) fun Cp=>xC (aH 3 [(au 14),Cp] cK) fun cK=>xM cH fun AB=>aV AB
 (xM v10 fun AA=>xM bh fun Az=>xM v9 fun Cm=>xF jS [Cm] fun Ay=>xF (aq .rem .no) [Az,Ay] fun Ax=>xM v1 fun Av=>xM bh fun Au=>xF (dx 1) [Av,Au] fun At=>aj 1 false [At] (fun As σ=>xF (aq .and .no) [As,.int .i64 65535] fun Aq=>xF (dx 1) [AA,Ax] fun D2=>ax 1 [D2,Aq] (fun _v σ=>xM (.bool false) fun bo=>J9 [v1,v9,v10,bm,bh,bo,b8] [c7,cK] σ) σ) σ)
 (J9 [v1,v9,v10,bm,bh,bo,b8] [c7,cK] σ)) σ
def z_(K:KT)(J4 R1:JT)(ts:List Value)(ls:List (List Value))(σ:Mem):Prop:=vR K J4 R1 (ts.getD 0 ar) (ts.getD 1 ar) (ts.getD 2 ar) (ts.getD 3 ar) (ts.getD 4 ar) (ts.getD 5 ar) (ts.getD 6 ar) (ls.getD 0 []) (ls.getD 1 []) σ
def cS(K:KT)(J4 R1:JT)(v1 v9 v10 bm bh bo b8:Value)(c7 cK:List Value)(σ:Mem):Prop:=a9 (z_ K J4 R1) fun J8=>xM b8 fun AN=>xF (aq .lss .no) [AN,.int .i64 300] fun AM=>xM AM fun AL=>aV AL
 (xM bo fun AK=>xF aB [.bool true,AK,.bool false] fun wQ=>aV wQ
 (J8 [v1,v9,v10,bm,bh,bo,b8] [c7,cK] σ)
 (J4 [v9,v10,bm,bo] [c7] σ))
 (xF aB [.bool false,undef,.bool false] fun wQ=>aV wQ
 (J8 [v1,v9,v10,bm,bh,bo,b8] [c7,cK] σ)
 (J4 [v9,v10,bm,bo] [c7] σ))
def dc(K:KT)(J4 R1:JT)(ts:List Value)(ls:List (List Value))(σ:Mem):Prop:=cS K J4 R1 (ts.getD 0 ar) (ts.getD 1 ar) (ts.getD 2 ar) (ts.getD 3 ar) (ts.getD 4 ar) (ts.getD 5 ar) (ts.getD 6 ar) (ls.getD 0 []) (ls.getD 1 []) σ
def vW(K:KT)(v1 v9 v10 bm bh bo:Value)(c7 cK:List Value)(σ:Mem):Prop:=xD 8 (au 7) fun AO=>xC (aH 1 [AO,.int .i64 0] c7) fun c7=>a9 (uP K) fun J4=>xM (.int .i64 0) fun b8=>eY (dc K J4) [v1,v9,v10,bm,bh,bo,b8] [c7,cK] σ
def cL(K:KT)(ts:List Value)(ls:List (List Value))(σ:Mem):Prop:=vW K (ts.getD 0 ar) (ts.getD 1 ar) (ts.getD 2 ar) (ts.getD 3 ar) (ts.getD 4 ar) (ts.getD 5 ar) (ls.getD 0 []) (ls.getD 1 []) σ
def sM(K:KT)(J3 R1:JT)(v1 v2 v9 v10 bm bh bo bB:Value)(c7 cK:List Value)(σ:Mem):Prop:=xM bB fun sP=>xF (aq .add .no) [sP,.int .i64 1] fun sO=>xM sO fun bB=>R1 [v1,v2,v9,v10,bm,bh,bo,bB] [c7,cK] σ
def eZ(K:KT)(J3 R1:JT)(ts:List Value)(ls:List (List Value))(σ:Mem):Prop:=sM K J3 R1 (ts.getD 0 ar) (ts.getD 1 ar) (ts.getD 2 ar) (ts.getD 3 ar) (ts.getD 4 ar) (ts.getD 5 ar) (ts.getD 6 ar) (ts.getD 7 ar) (ls.getD 0 []) (ls.getD 1 []) σ
def sI(K:KT)(J3 R1 uA:JT)(v1 v2 v9 v10 bm bh bB pI:Value)(c7 cK:List Value)(σ:Mem):Prop:=aV pI
 (xM (.bool false) fun v6=>K v6 σ)
 (xM v10 fun wT=>xM bh fun wR=>xM v9 fun AY=>xF jS [AY] fun AX=>xF (aq .rem .no) [wR,AX] fun AW=>xM v1 fun AV=>xM bh fun AU=>xF (dx 1) [AV,AU] fun AT=>aj 1 false [AT] (fun AS σ=>xF (aq .and .no) [AS,.int .i64 65535] fun AR=>xF (dx 1) [wT,AW] fun AQ=>ax 1 [AQ,AR] (fun _v σ=>xM (.bool false) fun bo=>xM bh fun AP=>xF (aq .add .no) [AP,.int .i64 1] fun Cq=>xM Cq fun bh=>uA [v1,v2,v9,v10,bm,bh,bo,bB] [c7,cK] σ) σ) σ)
def we(K:KT)(J3 R1 uA:JT)(ts:List Value)(ls:List (List Value))(σ:Mem):Prop:=sI K J3 R1 uA (ts.getD 0 ar) (ts.getD 1 ar) (ts.getD 2 ar) (ts.getD 3 ar) (ts.getD 4 ar) (ts.getD 5 ar) (ts.getD 6 ar) (ts.getD 7 ar) (ls.getD 0 []) (ls.getD 1 []) σ
def sJ(K:KT)(J3 R1 uA:JT)(v1 v2 v9 v10 bm bh bo bB:Value)(c7 cK:List Value)(σ:Mem):Prop:=xO (ah 3 true [(au 14)] cK) fun mK=>xO (ah 9 true [(au 7)] c7) fun mJ=>pW [mK,mJ] (fun mI σ=>xM mI fun lS=>xF (dH 0) [lS] fun kv=>xF (dH 1) [lS] fun pR=>xC (aH 3 [(au 19),kv] [.pointer none,.pointer none,.bool false]) fun c19=>xM pR fun v20=>xO (ah 3 true [(au 19)] c19) fun rG=>xC (aH 3 [(au 14),rG] cK) fun cK=>xM v20 fun pQ=>aV pQ
 (xD 1 (au 14) fun pP=>xO (ah 1 false [pP] cK) fun pN=>yH [pN] (fun pM σ=>xC (aH 4 [(au 21),pM] [.int .i64 0,.int .u64 0,.int .i64 0,.int .i64 0]) fun c21=>a9 (we K J3 R1 uA) fun J14=>xD 0 (au 21) fun pL=>xO (ah 1 false [pL] c21) fun pK=>xF (aq .neq .no) [pK,.int .i64 0] fun rF=>xM rF fun pJ=>aV pJ
 (xF aB [.bool true,.bool true,undef] fun pI=>J14 [v1,v2,v9,v10,bm,bh,bB,pI] [c7,cK] σ)
 (xD 2 (au 21) fun sU=>xO (ah 1 false [sU] c21) fun w9=>xM v10 fun w8=>xM bh fun w7=>xM v9 fun wZ=>xF jS [wZ] fun wY=>xF (aq .rem .no) [w7,wY] fun wX=>xF (dx 1) [w8,wX] fun wW=>aj 1 false [wW] (fun wV σ=>xF (aq .neq .no) [w9,wV] fun wU=>xF aB [.bool false,.bool true,wU] fun pI=>J14 [v1,v2,v9,v10,bm,bh,bB,pI] [c7,cK] σ) σ)) σ)
 (uA [v1,v2,v9,v10,bm,bh,bo,bB] [c7,cK] σ)) σ
def ko(K:KT)(J3 R1 uA:JT)(ts:List Value)(ls:List (List Value))(σ:Mem):Prop:=sJ K J3 R1 uA (ts.getD 0 ar) (ts.getD 1 ar) (ts.getD 2 ar) (ts.getD 3 ar) (ts.getD 4 ar) (ts.getD 5 ar) (ts.getD 6 ar) (ts.getD 7 ar) (ls.getD 0 []) (ls.getD 1 []) σ
def sH(K:KT)(J3 R1 uA Kv:JT)(v1 v2 v9 v10 bm bh bB:Value)(c7 cK:List Value)(σ:Mem):Prop:=
(xF (aM [(0,1),(1,1)] [.int .i64 0,.int .u64 0] []) [] fun fI=>jD 2 [fI] (fun fH σ=>xM v9 fun fG=>xM bh fun fk=>xM v9 fun fF=>xF jS [fF] fun eA=>xF (aq .rem .no) [fk,eA] fun fE=>xF (dx 1) [fG,fE] fun fD=>aj 1 false [fD] (fun iG σ=>xM v1 fun gM=>xM bh fun iY=>xF (dx 1) [gM,iY] fun iX=>aj 1 false [iX] (fun iW σ=>xF (aq .and .no) [iW,.int .i64 65535] fun iV=>xF (aM [(0,1),(1,1),(2,1),(3,1),(4,1)] [.int .i64 0,.int .u64 0,.int .i64 0,.int .i64 0,.int .i64 0] [0,1,3]) [.int .i64 2,iG,iV] fun iU=>rL [iU,.bool false] (fun iT σ=>xF (aM [(0,1),(1,1),(2,1)] [.pointer none,.pointer none,.bool false] [0,1]) [fH,iT] fun jv=>xC (aH 3 [(au 14),jv] cK) fun cK=>xM (.bool true) fun bo=>Kv [v1,v2,v9,v10,bm,bh,bo,bB] [c7,cK] σ) σ) σ) σ) σ) ∧
(xF (aM [(0,1),(1,1)] [.int .i64 0,.int .u64 0] []) [] fun fI=>xM v9 fun fG=>xM bh fun fk=>xM v9 fun fF=>xF jS [fF] fun eA=>xF (aq .rem .no) [fk,eA] fun fE=>xF (dx 1) [fG,fE] fun fD=>aj 1 false [fD] (fun iG σ=>xM v1 fun gM=>xM bh fun iY=>xF (dx 1) [gM,iY] fun iX=>aj 1 false [iX] (fun iW σ=>xF (aq .and .no) [iW,.int .i64 65535] fun iV=>xF (aM [(0,1),(1,1),(2,1),(3,1),(4,1)] [.int .i64 0,.int .u64 0,.int .i64 0,.int .i64 0,.int .i64 0] [0,1,3]) [.int .i64 2,iG,iV] fun iU=>rL [iU,.bool false] (fun iT σ=>jD 2 [fI] (fun fH σ=>xF (aM [(0,1),(1,1),(2,1)] [.pointer none,.pointer none,.bool false] [0,1]) [fH,iT] fun jv=>xC (aH 3 [(au 14),jv] cK) fun cK=>xM (.bool true) fun bo=>Kv [v1,v2,v9,v10,bm,bh,bo,bB] [c7,cK] σ) σ) σ) σ) σ) ∧
(xF (aM [(0,1),(1,1)] [.int .i64 0,.int .u64 0] []) [] fun fI=>xM v9 fun fG=>xM bh fun fk=>xM v9 fun fF=>xF jS [fF] fun eA=>xF (aq .rem .no) [fk,eA] fun fE=>xF (dx 1) [fG,fE] fun fD=>aj 1 false [fD] (fun iG σ=>xM v1 fun gM=>xM bh fun iY=>xF (dx 1) [gM,iY] fun iX=>aj 1 false [iX] (fun iW σ=>jD 2 [fI] (fun fH σ=>xF (aq .and .no) [iW,.int .i64 65535] fun iV=>xF (aM [(0,1),(1,1),(2,1),(3,1),(4,1)] [.int .i64 0,.int .u64 0,.int .i64 0,.int .i64 0,.int .i64 0] [0,1,3]) [.int .i64 2,iG,iV] fun iU=>rL [iU,.bool false] (fun iT σ=>xF (aM [(0,1),(1,1),(2,1)] [.pointer none,.pointer none,.bool false] [0,1]) [fH,iT] fun jv=>xC (aH 3 [(au 14),jv] cK) fun cK=>xM (.bool true) fun bo=>Kv [v1,v2,v9,v10,bm,bh,bo,bB] [c7,cK] σ) σ) σ) σ) σ) ∧
(xF (aM [(0,1),(1,1)] [.int .i64 0,.int .u64 0] []) [] fun fI=>xM v9 fun fG=>xM bh fun fk=>xM v9 fun fF=>xF jS [fF] fun eA=>xF (aq .rem .no) [fk,eA] fun fE=>xF (dx 1) [fG,fE] fun fD=>aj 1 false [fD] (fun iG σ=>jD 2 [fI] (fun fH σ=>xM v1 fun gM=>xM bh fun iY=>xF (dx 1) [gM,iY] fun iX=>aj 1 false [iX] (fun iW σ=>xF (aq .and .no) [iW,.int .i64 65535] fun iV=>xF (aM [(0,1),(1,1),(2,1),(3,1),(4,1)] [.int .i64 0,.int .u64 0,.int .i64 0,.int .i64 0,.int .i64 0] [0,1,3]) [.int .i64 2,iG,iV] fun iU=>rL [iU,.bool false] (fun iT σ=>xF (aM [(0,1),(1,1),(2,1)] [.pointer none,.pointer none,.bool false] [0,1]) [fH,iT] fun jv=>xC (aH 3 [(au 14),jv] cK) fun cK=>xM (.bool true) fun bo=>Kv [v1,v2,v9,v10,bm,bh,bo,bB] [c7,cK] σ) σ) σ) σ) σ) ∧
(xF (aM [(0,1),(1,1)] [.int .i64 0,.int .u64 0] []) [] fun fI=>xM v1 fun gM=>xM bh fun iY=>xF (dx 1) [gM,iY] fun iX=>aj 1 false [iX] (fun iW σ=>jD 2 [fI] (fun fH σ=>xM v9 fun fG=>xM bh fun fk=>xM v9 fun fF=>xF jS [fF] fun eA=>xF (aq .rem .no) [fk,eA] fun fE=>xF (dx 1) [fG,fE] fun fD=>aj 1 false [fD] (fun iG σ=>xF (aq .and .no) [iW,.int .i64 65535] fun iV=>xF (aM [(0,1),(1,1),(2,1),(3,1),(4,1)] [.int .i64 0,.int .u64 0,.int .i64 0,.int .i64 0,.int .i64 0] [0,1,3]) [.int .i64 2,iG,iV] fun iU=>rL [iU,.bool false] (fun iT σ=>xF (aM [(0,1),(1,1),(2,1)] [.pointer none,.pointer none,.bool false] [0,1]) [fH,iT] fun jv=>xC (aH 3 [(au 14),jv] cK) fun cK=>xM (.bool true) fun bo=>Kv [v1,v2,v9,v10,bm,bh,bo,bB] [c7,cK] σ) σ) σ) σ) σ)
def v_(K:KT)(J3 R1 uA Kv:JT)(ts:List Value)(ls:List (List Value))(σ:Mem):Prop:=sH K J3 R1 uA Kv (ts.getD 0 ar) (ts.getD 1 ar) (ts.getD 2 ar) (ts.getD 3 ar) (ts.getD 4 ar) (ts.getD 5 ar) (ts.getD 6 ar) (ls.getD 0 []) (ls.getD 1 []) σ
def sK(K:KT)(J3 R1 uA:JT)(v1 v2 v9 v10 bm bh bo bB bM:Value)(c7 cK:List Value)(σ:Mem):Prop:=xM bM fun jw=>xF (aq .eql .no) [jw,.int .i64 0] fun j7=>aV j7
 (xD 8 (au 7) fun j6=>xC (aH 1 [j6,(.int .i64 (-1))] c7) fun c7=>xM bm fun kP=>xO (ah 9 true [(au 7)] c7) fun h_=>dU [kP,h_] (fun iI σ=>uA [v1,v2,v9,v10,bm,bh,bo,bB] [c7,cK] σ) σ)
 (xD 8 (au 7) fun h9=>xC (aH 1 [h9,.int .i64 0] c7) fun c7=>a9 (ko K J3 R1 uA) fun Kv=>xM bo fun hZ=>xF (mV .not) [hZ] fun hY=>aV hY
 (a9 (v_ K J3 R1 uA Kv) fun J15=>xM bh fun hH=>xM v1 fun iH=>xF jS [iH] fun e_=>xF (aq .geq .no) [hH,e_] fun g_=>xM g_ fun g8=>aV g8
 (xF aB [.bool true,.bool true,undef] fun g7=>aV g7
 (uA [v1,v2,v9,v10,bm,bh,bo,bB] [c7,cK] σ)
 (J15 [v1,v2,v9,v10,bm,bh,bB] [c7,cK] σ))
 (xM bh fun iZ=>xF (aq .geq .no) [iZ,.int .i64 60] fun jO=>xF aB [.bool false,.bool true,jO] fun g7=>aV g7
 (uA [v1,v2,v9,v10,bm,bh,bo,bB] [c7,cK] σ)
 (J15 [v1,v2,v9,v10,bm,bh,bB] [c7,cK] σ)))
 (Kv [v1,v2,v9,v10,bm,bh,bo,bB] [c7,cK] σ))
def nP(K:KT)(J3 R1 uA:JT)(ts:List Value)(ls:List (List Value))(σ:Mem):Prop:=sK K J3 R1 uA (ts.getD 0 ar) (ts.getD 1 ar) (ts.getD 2 ar) (ts.getD 3 ar) (ts.getD 4 ar) (ts.getD 5 ar) (ts.getD 6 ar) (ts.getD 7 ar) (ts.getD 8 ar) (ls.getD 0 []) (ls.getD 1 []) σ
def oJ(K:KT)(J3 R1 uA Tf:JT)(v1 v2 v9 v10 bm bh bo bB bM i_:Value)(c7 cK:List Value)(σ:Mem):Prop:=aV i_
 (xM v2 fun lU=>xM bB fun ky=>xF (dx 1) [lU,ky] fun jQ=>aj 1 false [jQ] (fun jP σ=>xF (aq .and .no) [jP,.int .i64 1] fun kx=>xM kx fun bM=>Tf [v1,v2,v9,v10,bm,bh,bo,bB,bM] [c7,cK] σ) σ)
 (Tf [v1,v2,v9,v10,bm,bh,bo,bB,bM] [c7,cK] σ)
def nO(K:KT)(J3 R1 uA Tf:JT)(ts:List Value)(ls:List (List Value))(σ:Mem):Prop:=oJ K J3 R1 uA Tf (ts.getD 0 ar) (ts.getD 1 ar) (ts.getD 2 ar) (ts.getD 3 ar) (ts.getD 4 ar) (ts.getD 5 ar) (ts.getD 6 ar) (ts.getD 7 ar) (ts.getD 8 ar) (ts.getD 9 ar) (ls.getD 0 []) (ls.getD 1 []) σ
def sN(K:KT)(J3 R1:JT)(v1 v2 v9 v10 bm bh bo bB:Value)(c7 cK:List Value)(σ:Mem):Prop:=a9 (eZ K J3 R1) fun uA=>xM bB fun tM=>xF (aq .and .no) [tM,.int .i64 1] fun tL=>xM tL fun bM=>a9 (nP K J3 R1 uA) fun Tf=>a9 (nO K J3 R1 uA Tf) fun J16=>xM bB fun va=>xM v2 fun tK=>xF jS [tK] fun ue=>xF (aq .lss .no) [va,ue] fun wP=>xM wP fun wO=>aV wO
 (xM bB fun wN=>xF (aq .lss .no) [wN,.int .i64 1500] fun wM=>xF aB [.bool true,wM,.bool false] fun i_=>J16 [v1,v2,v9,v10,bm,bh,bo,bB,bM,i_] [c7,cK] σ)
 (xF aB [.bool false,undef,.bool false] fun i_=>J16 [v1,v2,v9,v10,bm,bh,bo,bB,bM,i_] [c7,cK] σ)
def wg(K:KT)(J3 R1:JT)(ts:List Value)(ls:List (List Value))(σ:Mem):Prop:=sN K J3 R1 (ts.getD 0 ar) (ts.getD 1 ar) (ts.getD 2 ar) (ts.getD 3 ar) (ts.getD 4 ar) (ts.getD 5 ar) (ts.getD 6 ar) (ts.getD 7 ar) (ls.getD 0 []) (ls.getD 1 []) σ
def cT(K:KT)(J3 R1:JT)(v1 v2 v9 v10 bm bh bo bB:Value)(c7 cK:List Value)(σ:Mem):Prop:=a9 (wg K J3 R1) fun J10=>xM bB fun ui=>xM v2 fun uh=>xF jS [uh] fun vc=>xF (aq .add .no) [vc,.int .i64 500] fun ug=>xF (aq .lss .no) [ui,ug] fun uf=>xM uf fun sS=>aV sS
 (xM bB fun sR=>xF (aq .lss .no) [sR,.int .i64 2000] fun sQ=>xF aB [.bool true,sQ,.bool false] fun rD=>aV rD
 (J10 [v1,v2,v9,v10,bm,bh,bo,bB] [c7,cK] σ)
 (J3 [v1,v9,v10,bm,bh,bo] [c7,cK] σ))
 (xF aB [.bool false,undef,.bool false] fun rD=>aV rD
 (J10 [v1,v2,v9,v10,bm,bh,bo,bB] [c7,cK] σ)
 (J3 [v1,v9,v10,bm,bh,bo] [c7,cK] σ))
def de(K:KT)(J3 R1:JT)(ts:List Value)(ls:List (List Value))(σ:Mem):Prop:=cT K J3 R1 (ts.getD 0 ar) (ts.getD 1 ar) (ts.getD 2 ar) (ts.getD 3 ar) (ts.getD 4 ar) (ts.getD 5 ar) (ts.getD 6 ar) (ts.getD 7 ar) (ls.getD 0 []) (ls.getD 1 []) σ
def vX(K:KT)(v1 v2 v9 v10:Value)(c7:List Value)(σ:Mem):Prop:=xM v9 fun nX=>xF jS [nX] fun mH=>xF (aq .eql .no) [mH,.int .i64 0] fun rE=>aV rE
 (xM (.bool true) fun v6=>K v6 σ)
 (Bj [] (fun sT σ=>xF (aM [(0,1),(1,1),(2,1)] [.pointer none,.pointer none,.bool false] []) [] fun pH=>xM sT fun bm=>xC (aH 3 [(au 14),pH] [.pointer none,.pointer none,.bool false]) fun cK=>xM (.int .i64 0) fun bh=>xM (.bool false) fun bo=>a9 (cL K) fun J3=>xM (.int .i64 0) fun bB=>eY (de K J3) [v1,v2,v9,v10,bm,bh,bo,bB] [c7,cK] σ) σ)
def qZ(K:KT)(ts:List Value)(ls:List (List Value))(σ:Mem):Prop:=vX K (ts.getD 0 ar) (ts.getD 1 ar) (ts.getD 2 ar) (ts.getD 3 ar) (ls.getD 0 []) σ
def lP(K:KT)(J2 R1:JT)(v0 v1 v2 v9 v10 v11:Value)(c7:List Value)(σ:Mem):Prop:=xM v11 fun gP=>xF (aq .add .no) [gP,.int .i64 1] fun iB=>xM iB fun v11=>R1 [v0,v1,v2,v9,v10,v11] [c7] σ
def nN(K:KT)(J2 R1:JT)(ts:List Value)(ls:List (List Value))(σ:Mem):Prop:=lP K J2 R1 (ts.getD 0 ar) (ts.getD 1 ar) (ts.getD 2 ar) (ts.getD 3 ar) (ts.getD 4 ar) (ts.getD 5 ar) (ls.getD 0 []) σ
def sG(K:KT)(J2 R1:JT)(v0 v1 v2 v9 v10 v11:Value)(c7:List Value)(σ:Mem):Prop:=a9 (nN K J2 R1) fun J18=>xO (ah 9 true [(au 7)] c7) fun iA=>xM v0 fun gX=>xM v11 fun gW=>xF (dx 1) [gX,gW] fun fB=>aj 1 false [fB] (fun gr σ=>xF (aq .and .no) [gr,.int .i64 15] fun e9=>xF (aq .add .no) [.int .i64 1,e9] fun fK=>tj [iA,fK,.bool false] (fun gD σ=>xC (aH 4 [(au 12),gD] [.int .i64 0,.int .u64 0,.int .i64 0,.int .i64 0]) fun c12=>xD 0 (au 12) fun fh=>xO (ah 1 false [fh] c12) fun dY=>xF (aq .neq .no) [dY,.int .i64 0] fun jo=>aV jo
 (J18 [v0,v1,v2,v9,v10,v11] [c7] σ)
 (xM v11 fun jI=>xF (aq .rem .no) [jI,.int .i64 3] fun jH=>xF (aq .gtr .no) [jH,.int .i64 0] fun jN=>aV jN
 (xO (ah 9 true [(au 7)] c7) fun jG=>xD 1 (au 12) fun gn=>xO (ah 1 false [gn] c12) fun gk=>tf [jG,gk,.bool false] (fun gC σ=>J18 [v0,v1,v2,v9,v10,v11] [c7] σ) σ)
 (xM v9 fun gj=>xD 1 (au 12) fun fT=>xO (ah 1 false [fT] c12) fun cQ=>xC (iu 1 1 [.int .u64 0] [0] [cQ] []) fun c70=>cv 1 8 c70 [gj,(rR 70 1 1)] (fun nH σ=>xM v10 fun nZ=>xC (iu 1 1 [.int .i64 0] [0] [.int .i64 0] []) fun c73=>cv 1 8 c73 [nZ,(rR 73 1 1)] (fun nY σ=>xM nH fun v9=>xM nY fun v10=>J18 [v0,v1,v2,v9,v10,v11] [c7] σ) σ) σ))) σ) σ
def vZ(K:KT)(J2 R1:JT)(ts:List Value)(ls:List (List Value))(σ:Mem):Prop:=sG K J2 R1 (ts.getD 0 ar) (ts.getD 1 ar) (ts.getD 2 ar) (ts.getD 3 ar) (ts.getD 4 ar) (ts.getD 5 ar) (ls.getD 0 []) σ
def c_(K:KT)(J2 R1:JT)(v0 v1 v2 v9 v10 v11:Value)(c7:List Value)(σ:Mem):Prop:=a9 (vZ K J2 R1) fun J17=>xM v11 fun fU=>xM v0 fun fC=>xF jS [fC] fun fj=>xF (aq .lss .no) [fU,fj] fun gL=>xM gL fun iC=>aV iC
 (xM v11 fun iF=>xF (aq .lss .no) [iF,.int .i64 25] fun gZ=>xF aB [.bool true,gZ,.bool false] fun gY=>aV gY
 (J17 [v0,v1,v2,v9,v10,v11] [c7] σ)
 (J2 [v1,v2,v9,v10] [c7] σ))
 (xF aB [.bool false,undef,.bool false] fun gY=>aV gY
 (J17 [v0,v1,v2,v9,v10,v11] [c7] σ)
 (J2 [v1,v2,v9,v10] [c7] σ))
def dB(K:KT)(J2 R1:JT)(ts:List Value)(ls:List (List Value))(σ:Mem):Prop:=c_ K J2 R1 (ts.getD 0 ar) (ts.getD 1 ar) (ts.getD 2 ar) (ts.getD 3 ar) (ts.getD 4 ar) (ts.getD 5 ar) (ls.getD 0 []) σ
def vY(K:KT)(v0 v1 v2 dh:Value)(c7:List Value)(σ:Mem):Prop:=aV dh
 (xM (.bool false) fun v6=>K v6 σ)
 (fW 1 0 [.int .u64 0] [] [] (fun fV σ=>fW 1 0 [.int .i64 0] [] [] (fun gu σ=>xM fV fun v9=>xM gu fun v10=>a9 (qZ K) fun J2=>xM (.int .i64 0) fun v11=>eY (dB K J2) [v0,v1,v2,v9,v10,v11] [c7] σ) σ) σ)
def Ae(K:KT)(ts:List Value)(ls:List (List Value))(σ:Mem):Prop:=vY K (ts.getD 0 ar) (ts.getD 1 ar) (ts.getD 2 ar) (ts.getD 3 ar) (ls.getD 0 []) σ
def P7(a0 a1 a2:Value)(K:KT)(σ:Mem):Prop:=xM (.bool false) fun v6=>Bn [.int .i64 2,.int .i64 30,.int .i64 8,.int .i64 34] (fun et σ=>xM et fun dN=>xF (dH 0) [dN] fun eW=>xF (dH 1) [dN] fun v30=>xC (aH 9 [(au 7),eW] [.int .i64 0,.int .i64 0,.int .i64 0,.int .i64 0,.int .i64 0,.int .i64 0,.int .i64 0,.pointer none,.int .i64 0]) fun c7=>xM v30 fun v8=>a9 (Ae K) fun J1=>Ei [] (fun eT σ=>xF (mV .not) [eT] fun dM=>xM dM fun eR=>aV eR
 (xF aB [.bool true,.bool true,undef] fun dh=>J1 [a0,a1,a2,dh] [c7] σ)
 (xM v8 fun eQ=>xF (mV .not) [eQ] fun dK=>xF aB [.bool false,.bool true,dK] fun dh=>J1 [a0,a1,a2,dh] [c7] σ)) σ) σ
def IE:Spec:=fun args K σ=>match args with
  | [a0,a1,a2]=>P7 a0 a1 a2 K σ
  | _=>False
noncomputable def N3:Cx:={ P:=Tryz.prog,T:=[(9,.write,Bn),(10,.write,Ei),(11,.write,tj),(17,.write,tf),(14,.write,Bj),(19,.write,dU),(37,.write,rL),(38,.write,pW),(39,.read,yH),(15,.write,xj),(30,.write,CI)],loc:=[(7,7),(12,12),(14,14),(19,19),(21,21),(23,23),(26,26),(57,12),(64,12),(68,12),(70,70),(73,73),(108,7),(112,7),(148,14),(151,21),(155,21),(179,7),(226,26),(230,26)],eqt:=[],n:=238,aL:=[(7,[0,1,2,9,10,11],[7]),(18,[1,2,9,10,13,15,16,17],[7,14]),(41,[1,9,10,13,15,16,22],[7,14]),(51,[9,10,25],[7]),(1000004,[0,1,2,36],[7]),(1000008,[0,1,2,9,10,11],[7]),(1000009,[0,1,2,9,10,11],[7]),(1000014,[1,2,9,10],[7]),(1000019,[1,2,9,10,13,15,16,17],[7,14]),(1000020,[1,2,9,10,13,15,16,17],[7,14]),(1000022,[1,2,9,10,13,15,16,17,18,100],[7,14]),(1000023,[1,2,9,10,13,15,16,17,18],[7,14]),(1000029,[1,2,9,10,13,15,17],[7,14]),(1000030,[1,2,9,10,13,15,16,17],[7,14]),(1000035,[1,2,9,10,13,15,17,165],[7,14]),(1000039,[1,9,10,13,15,16],[7,14]),(1000042,[1,9,10,13,15,16,22],[7,14]),(1000043,[1,9,10,13,15,16,22],[7,14]),(1000048,[9,10,13,16],[7]),(1000049,[9,10,212],[7]),(1000055,[9,10,25,237],[7]),(1000056,[],[])],alt:=[(28,1,[8,12,15],[([],[0,1,2,3,4,5,6,7,8,9,10,11,12,13,14,15,16,17,18]),([8,12,15],[0,2,3,4,5,6,7,8,9,10,11,12,13,14,15,1,16,17,18]),([8,12],[0,2,3,4,5,6,7,8,9,10,11,12,1,13,14,15,16,17,18]),([8],[0,2,3,4,5,6,7,8,1,9,10,11,12,13,14,15,16,17,18]),([12],[0,9,10,11,12,1,2,3,4,5,6,7,8,13,14,15,16,17,18])])] }
theorem Zu:cC N3 Tryz.f8 (aP Tryz.f8) 3=IE:=by
  funext args K σ
  rcases args with _|⟨a0,_|⟨a1,_|⟨a2,_|⟨b,r⟩⟩⟩⟩<;>kernel_rfl
theorem e_bd:Entry Tryz.prog 8 .write IE:=
  entry (C:=N3) (aS.cons V3 (aS.cons abm (aS.cons V2 (aS.cons VR (aS.cons VU (aS.cons VX (aS.cons VY (aS.cons abk (aS.cons V1 (aS.cons VQ (aS.cons abn aS.nil))))))))))) aG Tryz.func8 (by kernel_rfl) (by kernel_rfl) (by kernel_rfl) Zu
attribute [irreducible] vT Ab vS Aa cR db vU Ad vV uP qY uO vR z_ cS dc vW cL sM eZ sI we sJ ko sH v_ sK nP oJ nO sN wg cT de vX qZ lP nN sG vZ c_ dB vY Ae P7 IE
end Go.Fl
namespace Go.Fl
open Go
theorem Mem.set_set(σ:Mem)(i:Nat)(a b:uc):(σ.set i a).set i b=σ.set i b:=by
 apply Mem.ext';funext j;simp only[Mem.set];split<;>rfl
theorem Mem.rJ{σ:Mem}{i:Nat}{b:uc}(h:σ.get i=some b):σ.set i b=σ:=by
 apply Mem.ext';funext j;simp only[Mem.set];split
 ·rename_i e;rw[e,h]
 ·rfl
theorem Mem.set_comm(σ:Mem){i j:Nat}(a b:uc)(h:i≠j):(σ.set i a).set j b=(σ.set j b).set i a:=by
 apply Mem.ext';funext k;simp only[Mem.set]
 by_cases h1:k=j<;>by_cases h2:k=i<;>simp[h1,h2]
 ·exact absurd (h2.symm.trans h1) h
 ·intro e;exact absurd e.symm h
 ·intro e;exact absurd e h
@[simp] theorem Mem.bf(σ:Mem)(i:Nat)(b:uc):(σ.set i b).get i=some b:=by simp[Mem.set]
theorem Mem.bZ(σ:Mem){i j:Nat}(b:uc)(h:j≠i):(σ.set i b).get j=σ.get j:=by simp[Mem.set,h]
theorem nr{α:Sort _}{a b:α}(h:a=b):a=b:=h
section
variable{K:Value→Prop}{x y z:Value}{b o off:Nat}{q:Option Nat}{k k':IntKind}{a c:Int}{Q:fY}
theorem L4:xF zx [x] K=K x:=nr rfl
theorem HT:xF aB [.bool true,x,y] K=K x:=nr rfl
theorem HU:xF aB [.bool false,x,y] K=K y:=nr rfl
theorem Tj{p:Addr}:xF ay [.pointer (some p)] K=K (.pointer (some p)):=nr rfl
theorem Ty{p:Addr}:xF (Jw off) [.pointer (some p)] K=K (.pointer (some ⟨p.block,p.off+off,p.spot⟩)):=nr rfl
theorem L6:xF (dH 0) [.tuple #[x,y]] K=K x:=nr rfl
theorem L5:xF (dH 1) [.tuple #[x,y]] K=K y:=nr rfl
theorem HZ:xF (dH 0) [.tuple #[x,y,z]] K=K x:=nr rfl
theorem HY:xF (dH 1) [.tuple #[x,y,z]] K=K y:=nr rfl
theorem HX:xF (dH 2) [.tuple #[x,y,z]] K=K z:=nr rfl
theorem Gr:xF (aq .add Q) [.int k a,.int k c] K=K (.int k (k.wrap (a+c))):=by simp[xF,aq,ka,mZ]
theorem Th:xF (aq .sub Q) [.int k a,.int k c] K=K (.int k (k.wrap (a-c))):=by simp[xF,aq,ka,mZ]
theorem Tn:xF (aq .mul Q) [.int k a,.int k c] K=K (.int k (k.wrap (a*c))):=by simp[xF,aq,ka,mZ]
theorem XY(h:c≠0):xF (aq .quo Q) [.int k a,.int k c] K=K (.int k (k.wrap (a.tdiv c))):=by simp[xF,aq,ka,mZ,h]
theorem HS(h:c≠0):xF (aq .rem Q) [.int k a,.int k c] K=K (.int k (a.tmod c)):=by simp[xF,aq,ka,mZ,h]
theorem Tz:xF (aq .eql Q) [.int k a,.int k c] K=K (.bool (decide (a=c))):=by
 simp only[xF,aq,ka,mZ]
 simp only[Bool.false_eq_true,if_false,if_true]
 congr 2
theorem Tl:xF (aq .neq Q) [.int k a,.int k c] K=K (.bool (decide (a≠c))):=by
 simp only[xF,aq,ka,mZ]
 simp only[Bool.false_eq_true,if_false,if_true]
 congr 2
 by_cases h:a=c<;>simp[h]
theorem Tq:xF (aq .lss Q) [.int k a,.int k c] K=K (.bool (decide (a<c))):=by simp[xF,aq,ka,mZ]
theorem Tr:xF (aq .leq Q) [.int k a,.int k c] K=K (.bool (decide (a≤c))):=by simp[xF,aq,ka,mZ]
theorem Tw:xF (aq .gtr Q) [.int k a,.int k c] K=K (.bool (decide (c<a))):=by simp[xF,aq,ka,mZ]
theorem Tx:xF (aq .geq Q) [.int k a,.int k c] K=K (.bool (decide (c≤a))):=by simp[xF,aq,ka,mZ]
theorem L7{p:Addr}:xF (aq .eql .ptr) [.pointer (some p),.pointer none] K=K (.bool false):=nr rfl
theorem L8:xF (aq .eql .ptr) [.pointer none,.pointer none] K=K (.bool true):=nr rfl
theorem L2{p:Addr}:xF (aq .neq .ptr) [.pointer (some p),.pointer none] K=K (.bool true):=nr rfl
theorem L3:xF (aq .neq .ptr) [.pointer none,.pointer none] K=K (.bool false):=nr rfl
theorem L9{u v:Bool}:xF (aq .eql .bool) [.bool u,.bool v] K=K (.bool (u == v)):=nr rfl
theorem FC{u v:Bool}:xF (aq .neq .bool) [.bool u,.bool v] K=K (.bool (!(u == v))):=nr rfl
theorem Ti{u:Bool}:xF (mV .not) [.bool u] K=K (.bool (!u)):=by simp[xF,mV]
theorem Tm:xF (mV .neg) [.int k a] K=K (.int k (k.wrap (-a))):=by simp[xF,mV]
theorem L_:xF (cZ k) [.int k' a] K=K (.int k (k.wrap a)):=nr rfl
theorem DW{p:Option Addr}{n m:Nat}:xF jS [.slice p n m] K=K (.int .i64 n):=nr rfl
theorem To:xF Jv [.int k a,.int k c] K=K (.int k (min a c)):=by
 show K (.int k (if c<a then c else a))=_
 congr 2;split<;>omega
theorem Tp:xF Lp [.int k a,.int k c] K=K (.int k (max a c)):=by
 show K (.int k (if c > a then c else a))=_
 congr 2;split<;>omega
theorem Ts{t:TypeId}:xF (E9 t) [x] K=K (.iface t x):=nr rfl
theorem fx{p:Addr}{n m es:Nat}(h0:0≤a)(h1:a<n):xF (dx es) [.slice (some p) n m,.int k a] K=K (.pointer (some ⟨p.block,p.off+a.toNat*es,p.spot⟩)):=by
 simp only[xF,dx,af (And.intro h0 h1)];rfl
theorem pw{cs:Array Value}{sz:Nat}{ag:Bool}:xF (b7 off sz ag) [.agg cs] K=xO (sub cs.toList off sz ag) K:=nr rfl
end
theorem Tt{A B:Prop}:aV (.bool true) A B=A:=nr rfl
theorem Tu{A B:Prop}:aV (.bool false) A B=B:=nr rfl
theorem Tv{A B:Prop}{p:Prop}[Decidable p]:aV (.bool (decide p)) A B=if p then A else B:=by
 by_cases h:p<;>simp[aV,h]
theorem Gp{A B:Prop}{u:Bool}:aV (.bool u) A B=if u=true then A else B:=by cases u<;>rfl
theorem HW{F:List Value→List (List Value)→Mem→Prop}{G:(List Value→List (List Value)→Mem→Prop)→Prop}:a9 F G=G F:=nr rfl
theorem Ce{v:Value}{K:Value→Prop}:xO (some v) K=K v:=nr rfl
theorem H0{c:List Value}{K:List Value→Prop}:xC (some c) K=K c:=nr rfl
theorem sub_one{cs:List Value}{o:Nat}{v:Value}(h:cs[o]?=some v):sub cs o 1 false=some v:=by
 have:o<cs.length:=(List.getElem?_eq_some_iff.1 h).1
 simp[sub,h,show o+1≤cs.length by omega]
theorem KU{cs:List Value}{o:Nat}{v:Value}:lay cs o [v]=cs.take o++v::cs.drop (o+1):=by simp[lay]
theorem KS{cs:List Value}{o:Nat}{v:Value}(h:o<cs.length):lay cs o [v]=cs.set o v:=by
 rw[KU,List.set_eq_take_append_cons_drop,af h]
theorem cf{sz b o:Nat}{ag:Bool}{K:Value→Mem→Prop}{σ:Mem}{cs:List Value}{rw:Bool}(h:σ.get b=some ⟨cs,rw⟩) :
  aj sz ag [.pointer (some ⟨b,o,none⟩)] K σ=xO (sub cs o sz ag) (fun v=>K v σ):=by
 simp only[aj,rd,h]
 cases sub cs o sz ag<;>rfl
theorem d_{sz b o:Nat}{K:Value→Mem→Prop}{σ:Mem}{cs c:List Value}{x:Value}(h:σ.get b=some ⟨cs,true⟩)(hc:cellsOf x sz=some c)
  (hl:o+sz≤cs.length) (ho:c.all dV=true):ax sz [.pointer (some ⟨b,o,none⟩),x] K σ=K undef (σ.set b ⟨lay cs o c,true⟩):=by
 simp only[ax,wr,h,hc]
 rw[af ⟨trivial,hl,ho⟩]
def aX(f:Int→Int)(a v:Int):Int→Int:=fun i=>if i=a then v else f i
theorem aE(f:Int→Int)(a v:Int):aX f a v a=v:=by simp[aX]
theorem az(f:Int→Int){a i:Int}(v:Int)(h:i≠a):aX f a v i=f i:=by simp[aX,h]
def cells(k:IntKind)(n:Nat)(f:Int→Int):List Value:=(List.range n).map fun i:Nat=>Value.int k (f (i:Int))
@[simp] theorem zA(k:IntKind)(n:Nat)(f:Int→Int):(cells k n f).length=n:=by simp[cells]
theorem Hg(k:IntKind){n:Nat}(f:Int→Int){a:Int}(h0:0≤a)(h1:a<n):(cells k n f)[a.toNat]?=some (.int k (f a)):=by
 have:a.toNat<n:=by omega
 simp only[cells,List.getElem?_map,List.getElem?_range this,Option.map_some]
 rw[show((a.toNat:Nat):Int)=a by omega]
theorem Hf(k:IntKind){n:Nat}(f:Int→Int){a:Int}(v:Int)(h0:0≤a)(h1:a<n):(cells k n f).set a.toNat (.int k v)=cells k n (aX f a v):=by
 apply List.ext_getElem?
 intro i
 rw[List.getElem?_set]
 by_cases hi:i<n
 ·simp only[cells,List.getElem?_map,List.getElem?_range hi,Option.map_some,List.length_map,List.length_range]
  by_cases e:a.toNat=i
  ·subst e
   rw[af rfl,af hi]
   simp[aX]
   intro hc;omega
  ·rw[ae e]
   have:(i:Int)≠a:=by omega
   simp[aX,this]
 ·have h2:¬ a.toNat=i:=by omega
  rw[ae h2]
  simp[cells,hi]
theorem tD(k:IntKind){n:Nat}(f:Int→Int){a:Int}(h0:0≤a)(h1:a<n):sub (cells k n f) (0+a.toNat*1) 1 false=some (.int k (f a)):=by
 rw[show 0+a.toNat*1=a.toNat by omega]
 exact sub_one (Hg k f h0 h1)
theorem tE(k:IntKind){n:Nat}(f:Int→Int){a:Int}(v:Int)(h0:0≤a)(h1:a<n):lay (cells k n f) (0+a.toNat*1) [.int k v]=cells k n (aX f a v):=by
 rw[show 0+a.toNat*1=a.toNat by omega,KS (by simp;omega),Hf k f v h0 h1]
theorem xX(k:IntKind)(n:Nat):(List.replicate n [Value.int k 0]).flatten=cells k n fun _=>0:=by
 rw[List.flatten_replicate_singleton]
 apply List.ext_getElem?
 intro i
 by_cases hi:i<n
 ·simp[cells,hi]
 ·simp[cells,hi]
theorem tr(k:Nat):au k=.pointer (some ⟨k,0,some 0⟩):=nr rfl
theorem Js{cs:List Value}{sz:Nat}{l:List Value}(h:cs.length=sz):bO sz [.agg cs.toArray] l=some cs:=by
 subst h
 show cellsOf (.agg cs.toArray) _=_
 simp[cellsOf]
theorem Jq{k:IntKind}{n:Int}{l:List Value}:bO 1 [.int k n] l=some [.int k n]:=nr rfl
theorem Jr{b:Bool}{l:List Value}:bO 1 [.bool b] l=some [.bool b]:=nr rfl
theorem Jp{p:Option Addr}{l:List Value}:bO 1 [.pointer p] l=some [.pointer p]:=nr rfl
theorem oY{sz k o:Nat}{ag:Bool}{q:Option Nat}{cs:List Value}:ah sz ag [.pointer (some ⟨k,o,q⟩)] cs=sub cs o sz ag:=nr rfl
theorem iv{z l:List Value}:mU z [] l=some z:=nr rfl
theorem Df{sz k o:Nat}{q:Option Nat}{c cs:List Value}(h:c.length=sz)(hl:o+sz≤cs.length)(ho:c.all dV=true) :
  aH sz [.pointer (some ⟨k,o,q⟩),.agg c.toArray] cs=some (lay cs o c):=by
 subst h
 have:cellsOf (.agg c.toArray) c.length=some c:=by simp[cellsOf]
 simp only[aH,this]
 rw[af ⟨hl,ho⟩]
theorem xP{k o:Nat}{q:Option Nat}{x:Value}{cs:List Value}(h:cellsOf x 1=some [x])(hl:o+1≤cs.length)(ho:dV x=true) :
  aH 1 [.pointer (some ⟨k,o,q⟩),x] cs=some (lay cs o [x]):=by
 simp only[aH,h]
 rw[af ⟨hl,by simp[ho]⟩]
theorem Dd{k o:Nat}{q:Option Nat}{kd:IntKind}{n:Int}{cs:List Value}(hl:o+1≤cs.length) :
  aH 1 [.pointer (some ⟨k,o,q⟩),.int kd n] cs=some (lay cs o [.int kd n]):=xP rfl hl rfl
theorem De{k o:Nat}{q:Option Nat}{b:Bool}{cs:List Value}(hl:o+1≤cs.length) :
  aH 1 [.pointer (some ⟨k,o,q⟩),.bool b] cs=some (lay cs o [.bool b]):=xP rfl hl rfl
theorem Dc{k o:Nat}{q:Option Nat}{p:Option Addr}{cs:List Value}(hl:o+1≤cs.length) :
  aH 1 [.pointer (some ⟨k,o,q⟩),.pointer p] cs=some (lay cs o [.pointer p]):=xP rfl hl rfl
theorem Mb{x:Value}{cs:List Value}:sub (x::cs) 0 1 false=some x:=by simp[sub]
theorem Mc{x:Value}{cs:List Value}{n:Nat}:sub (x::cs) (n+1) 1 false=sub cs n 1 false:=by
 simp only[sub,List.length_cons]
 by_cases h:n+1≤cs.length
 ·rw[af h,af (by omega)];simp
 ·rw[ae h,ae (by omega)]
theorem Io{cs:List Value}{o sz:Nat}:sub cs o sz true=if o+sz≤cs.length then some (.agg ((cs.drop o).take sz).toArray)else none:=by simp[sub]
theorem IQ{k:IntKind}{n:Int}:dV (.int k n)=true:=nr rfl
theorem IS{b:Bool}:dV (.bool b)=true:=nr rfl
theorem IP{p:Option Addr}:dV (.pointer p)=true:=nr rfl
theorem FT{p:Option Addr}{n c:Nat}:dV (.slice p n c)=true:=nr rfl
theorem ME{cs vs:List Value}:lay cs 0 vs=vs++cs.drop vs.length:=by simp[lay]
theorem MF{x:Value}{cs vs:List Value}{n:Nat}:lay (x::cs) (n+1) vs=x::lay cs n vs:=by
 simp only[lay,List.take_succ_cons,List.cons_append]
 rw[show n+1+vs.length=(n+vs.length)+1 by omega,List.drop_succ_cons]
def SlW(w:World)(ks:List (Option IntKind))(v:Value):Prop:=v=.slice none 0 0∨∃(a:Addr) (len cap:Nat) (cells:List Value),v=.slice (some a) len cap∧len≤cap∧cap≤maxLen ∧
 ct (List.replicate len ks).flatten cells∧(cap=0∨InW w a (cap*ks.length) (len*ks.length) cells)
theorem Opn.sl{w:World}{ρ:dS}{σ:Mem}{tZ kI:List Value}{v:Value}{ks:List (Option IntKind)}(h:Opn w ρ σ tZ kI)(hv:SlW w ks v) :
  ∃ ρ' σ' s n cs,Opn w ρ' σ' (s::tZ) (v::kI)∧Sl σ' ks.length n cs s∧n≤maxLen∧ct (List.replicate n ks).flatten cs∧∀ i b,σ.get i=some b→σ'.get i=some b:=by
 rcases hv with rfl|⟨a,len,cap,cs,rfl,h1,h2,h3,h4⟩
 ·exact⟨ρ,σ,_,0,[],h.yM,.nil,Nat.zero_le _,.nil,fun _ _ q=>q⟩
 ·obtain⟨ρ',σ',s,o,sl,ext⟩:=h.slice (es:=ks.length) h1 h3 (by simp) h4
  exact⟨ρ',σ',s,len,cs,o,sl,Nat.le_trans h1 h2,h3,ext⟩
theorem ct.ints{k:IntKind}:∀{n:Nat} {cs:List Value},ct (List.replicate n [some k]).flatten cs→∃ f:Int→Int,cs=cells k n f∧∀ i,(Lit.int k (f i)).wf=true
 | 0,cs,h=>by
  cases h
  refine⟨fun _=>0,rfl,fun i=>?_⟩
  show(Lit.int k 0).wf=true
  cases k<;>decide
 | n+1,cs,h=>by
  have e:(List.replicate (n+1) [some k]).flatten=some k::(List.replicate n [some k]).flatten:=by simp[List.replicate_succ]
  rw[e]at h
  cases h with
  | cons h1 h2=>
   obtain⟨m,rfl,hm⟩:=h1
   obtain⟨f,rfl,hf⟩:=ct.ints h2
   refine⟨fun i=>if i=0 then m else f (i-1),?_,fun i=>?_⟩
   ·simp only[cells,List.range_succ_eq_map,List.map_cons,List.map_map]
    congr 1
    apply List.map_congr_left
    intro i _
    simp only[Function.comp]
    rw[ae (by omega)]
    congr 2;omega
   ·dsimp only;split
    ·exact hm
    ·exact hf _
theorem aF:type_of% ((And.intro (And.intro (And.intro (And.intro (And.intro @L4 (And.intro @HT @HU)) (And.intro @Tj (And.intro @Ty @L6))) (And.intro (And.intro @L5 (And.intro @HZ @HY)) (And.intro (And.intro @HX @Gr) (And.intro @Th @Tn)))) (And.intro (And.intro (And.intro @Tz (And.intro @Tl @Tq)) (And.intro @Tr (And.intro @Tw @Tx))) (And.intro (And.intro @L7 (And.intro @L8 @L2)) (And.intro (And.intro @L3 @L9) (And.intro @FC @Ti))))) (And.intro (And.intro (And.intro (And.intro @L_ (And.intro @DW @To)) (And.intro @Tp (And.intro @Ts @Tt))) (And.intro (And.intro @Tu (And.intro @Tv @HW)) (And.intro (And.intro @Ce @H0) (And.intro @pw @List.getD_cons_zero.{0})))) (And.intro (And.intro (And.intro @List.getD_cons_succ.{0} (And.intro @Nat.zero_add @Mem.bf)) (And.intro (And.intro @Mem.set_set @if_true.{1}) (And.intro @if_false.{1} @Bool.not_true))) (And.intro (And.intro @Bool.not_false (And.intro @decide_true @decide_false)) (And.intro (And.intro @decide_eq_true_eq @decide_not) (And.intro @Bool.not_eq_true @Bool.false_eq_true))))))):=(And.intro (And.intro (And.intro (And.intro (And.intro @L4 (And.intro @HT @HU)) (And.intro @Tj (And.intro @Ty @L6))) (And.intro (And.intro @L5 (And.intro @HZ @HY)) (And.intro (And.intro @HX @Gr) (And.intro @Th @Tn)))) (And.intro (And.intro (And.intro @Tz (And.intro @Tl @Tq)) (And.intro @Tr (And.intro @Tw @Tx))) (And.intro (And.intro @L7 (And.intro @L8 @L2)) (And.intro (And.intro @L3 @L9) (And.intro @FC @Ti))))) (And.intro (And.intro (And.intro (And.intro @L_ (And.intro @DW @To)) (And.intro @Tp (And.intro @Ts @Tt))) (And.intro (And.intro @Tu (And.intro @Tv @HW)) (And.intro (And.intro @Ce @H0) (And.intro @pw @List.getD_cons_zero.{0})))) (And.intro (And.intro (And.intro @List.getD_cons_succ.{0} (And.intro @Nat.zero_add @Mem.bf)) (And.intro (And.intro @Mem.set_set @if_true.{1}) (And.intro @if_false.{1} @Bool.not_true))) (And.intro (And.intro @Bool.not_false (And.intro @decide_true @decide_false)) (And.intro (And.intro @decide_eq_true_eq @decide_not) (And.intro @Bool.not_eq_true @Bool.false_eq_true))))))
theorem bc:type_of% ((And.intro (And.intro (And.intro (And.intro (And.intro @tr @Js) (And.intro @Jq @Jr)) (And.intro (And.intro @Jp @oY) (And.intro @iv @Df))) (And.intro (And.intro (And.intro @Dd @De) (And.intro @Dc @Mb)) (And.intro (And.intro @Mc @ME) (And.intro @MF @List.length_cons.{0})))) (And.intro (And.intro (And.intro (And.intro @List.length_nil.{0} @Nat.le_refl) (And.intro @List.drop_zero.{0} @List.drop_succ_cons.{0})) (And.intro (And.intro @List.take_succ_cons.{0} @List.take_zero.{0}) (And.intro @List.drop_nil.{0} @List.cons_append.{0}))) (And.intro (And.intro (And.intro @List.nil_append.{0} @List.all_cons.{0}) (And.intro @List.all_nil.{0} @IQ)) (And.intro (And.intro @IS @IP) (And.intro @FT @Bool.and_true)))))):=(And.intro (And.intro (And.intro (And.intro (And.intro @tr @Js) (And.intro @Jq @Jr)) (And.intro (And.intro @Jp @oY) (And.intro @iv @Df))) (And.intro (And.intro (And.intro @Dd @De) (And.intro @Dc @Mb)) (And.intro (And.intro @Mc @ME) (And.intro @MF @List.length_cons.{0})))) (And.intro (And.intro (And.intro (And.intro @List.length_nil.{0} @Nat.le_refl) (And.intro @List.drop_zero.{0} @List.drop_succ_cons.{0})) (And.intro (And.intro @List.take_succ_cons.{0} @List.take_zero.{0}) (And.intro @List.drop_nil.{0} @List.cons_append.{0}))) (And.intro (And.intro (And.intro @List.nil_append.{0} @List.all_cons.{0}) (And.intro @List.all_nil.{0} @IQ)) (And.intro (And.intro @IS @IP) (And.intro @FT @Bool.and_true)))))
theorem KI:type_of% (@Io):=@Io
end Go.Fl
namespace Go.Fl
open Go
structure Ar where
 n:Nat
 w:Int→Int
 t:Int→Int
 s:Int
 who:Int
 la:Int
 lw:Int
 lc:Bool
structure Nm where
 m:Nat
 w:Nat
 t:Nat
def Ar.mc(N:Nm)(A:Ar):List Value:=[.slice (some ⟨N.w,0,none⟩) A.n 1,.slice (some ⟨N.t,0,none⟩) A.n 1,.int .i64 A.s,.int .i64 A.who,.int .i64 A.la,.int .i64 A.lw,.bool A.lc]
def Ar.wb(A:Ar):uc:=⟨cells .u64 A.n A.w,true⟩
def Ar.tb(A:Ar):uc:=⟨cells .i64 A.n A.t,true⟩
structure Nm.ok(N:Nm):Prop where
 mw:N.m≠N.w
 mt:N.m≠N.t
 wt:N.w≠N.t
def aD(N:Nm)(A:Ar)(σ:Mem):Mem:=((σ.set N.t A.tb).set N.w A.wb).set N.m ⟨A.mc N,true⟩
variable{N:Nm}{A B:Ar}{σ:Mem}{K:Value→Mem→Prop}
theorem lB:(aD N A σ).get N.m=some ⟨A.mc N,true⟩:=by simp[aD]
theorem EH(h:N.ok):(aD N A σ).get N.w=some A.wb:=by simp[aD,Mem.cE,h.mw.symm]
theorem EI(h:N.ok):(aD N A σ).get N.t=some A.tb:=by simp[aD,Mem.cE,h.mt.symm,h.wt.symm]
theorem Bq{i:Nat}(h1:i≠N.m)(h2:i≠N.w)(h3:i≠N.t):(aD N A σ).get i=σ.get i:=by simp[aD,Mem.cE,h1,h2,h3]
theorem IJ{p:Nat}{c:uc}(h1:p≠N.m)(h2:p≠N.w)(h3:p≠N.t):(aD N A σ).set p c=aD N A (σ.set p c):=by
 simp only[aD]
 rw[Mem.set_comm _ _ _ h1.symm,Mem.set_comm _ _ _ h2.symm,Mem.set_comm _ _ _ h3.symm]
def Ar.by(A:Ar)(who:Int):Ar:={ A with who:=who }
def Ar.step(A:Ar)(a:Int):Ar:={ A with s:=IntKind.i64.wrap (A.s+1),la:=a,lw:=A.who,lc:=false }
def Ar.lay(A:Ar)(a v:Int):Ar:={ A with lc:=decide (A.w a≠v),t:=if A.w a≠v then aX A.t a A.s else A.t,w:=aX A.w a v }
def Ar.tick(A:Ar):Ar:={ A with s:=IntKind.i64.wrap (A.s+1) }
def Ar.lst(A:Ar)(a:Int):Ar:={ A with la:=a,lw:=A.who,lc:=false }
def Ar.HO(A:Ar)(c:Bool):Ar:={ A with lc:=c }
def Ar.Q9(A:Ar)(a v:Int):Ar:={ A with w:=aX A.w a v }
def Ar.Q_(A:Ar)(a v:Int):Ar:={ A with t:=aX A.t a v }
theorem oQ(h:A.n=B.n)(hw:A.w=B.w)(ht:A.t=B.t):(aD N A σ).set N.m ⟨B.mc N,true⟩=aD N B σ:=by
 simp only[aD,Mem.set_set,Ar.wb,Ar.tb,h,hw,ht]
theorem C1:aj 1 false [.pointer (some ⟨N.m,0,none⟩)] K (aD N A σ)=K (.slice (some ⟨N.w,0,none⟩) A.n 1) (aD N A σ):=(cf lB).trans rfl
theorem UB:aj 1 false [.pointer (some ⟨N.m,1,none⟩)] K (aD N A σ)=K (.slice (some ⟨N.t,0,none⟩) A.n 1) (aD N A σ):=(cf lB).trans rfl
theorem Rv:aj 1 false [.pointer (some ⟨N.m,2,none⟩)] K (aD N A σ)=K (.int .i64 A.s) (aD N A σ):=(cf lB).trans rfl
theorem aau:aj 1 false [.pointer (some ⟨N.m,3,none⟩)] K (aD N A σ)=K (.int .i64 A.who) (aD N A σ):=(cf lB).trans rfl
theorem aat:aj 1 false [.pointer (some ⟨N.m,6,none⟩)] K (aD N A σ)=K (.bool A.lc) (aD N A σ):=(cf lB).trans rfl
theorem X9:ax 1 [.pointer (some ⟨N.m,2,none⟩),.int .i64 (IntKind.i64.wrap (A.s+1))] K (aD N A σ)=K undef (aD N A.tick σ):=by
 rw[d_ lB rfl (by simp[Ar.mc]) rfl]
 exact congrArg _ (oQ (B:=A.tick) rfl rfl rfl)
theorem X8{who:Int}:ax 1 [.pointer (some ⟨N.m,3,none⟩),.int .i64 who] K (aD N A σ)=K undef (aD N (A.by who) σ):=by
 rw[d_ lB rfl (by simp[Ar.mc]) rfl]
 exact congrArg _ (oQ (B:=A.by who) rfl rfl rfl)
theorem X7{a:Int}:ax 3 [.pointer (some ⟨N.m,4,none⟩),.agg #[.int .i64 a,.int .i64 A.who,.bool false]] K (aD N A σ)=K undef (aD N (A.lst a) σ):=by
 rw[d_ lB rfl (by simp[Ar.mc]) rfl]
 exact congrArg _ (oQ (B:=A.lst a) rfl rfl rfl)
theorem X6{c:Bool}:ax 1 [.pointer (some ⟨N.m,6,none⟩),.bool c] K (aD N A σ)=K undef (aD N (A.HO c) σ):=by
 rw[d_ lB rfl (by simp[Ar.mc]) rfl]
 exact congrArg _ (oQ (B:=A.HO c) rfl rfl rfl)
theorem UA(h:N.ok){a:Int}(h0:0≤a)(h1:a<A.n):aj 1 false [.pointer (some ⟨N.w,a.toNat*1,none⟩)] K (aD N A σ)=K (.int .u64 (A.w a)) (aD N A σ):=by
 rw[cf (EH h)]
 have:=tD .u64 A.w h0 h1
 rw[Nat.zero_add]at this
 rw[this,Ce]
theorem stW(h:N.ok){a v:Int}(h0:0≤a)(h1:a<A.n):ax 1 [.pointer (some ⟨N.w,a.toNat*1,none⟩),.int .u64 v] K (aD N A σ)=K undef (aD N (A.Q9 a v) σ):=by
 have:=tE .u64 A.w v h0 h1
 rw[Nat.zero_add]at this
 rw[d_ (EH h) rfl (by simp;omega) rfl,this]
 refine congrArg _ ?_
 simp only[aD]
 rw[Mem.set_comm _ _ _ h.mw,Mem.set_set];rfl
theorem stT(h:N.ok){a v:Int}(h0:0≤a)(h1:a<A.n):ax 1 [.pointer (some ⟨N.t,a.toNat*1,none⟩),.int .i64 v] K (aD N A σ)=K undef (aD N (A.Q_ a v) σ):=by
 have:=tE .i64 A.t v h0 h1
 rw[Nat.zero_add]at this
 rw[d_ (EI h) rfl (by simp;omega) rfl,this]
 refine congrArg _ ?_
 simp only[aD]
 rw[Mem.set_comm _ _ _ h.mt,Mem.set_comm _ _ _ h.wt,Mem.set_set];rfl
theorem ldT(h:N.ok){a:Int}(h0:0≤a)(h1:a<A.n):aj 1 false [.pointer (some ⟨N.t,a.toNat*1,none⟩)] K (aD N A σ)=K (.int .i64 (A.t a)) (aD N A σ):=by
 rw[cf (EI h)]
 have:=tD .i64 A.t h0 h1
 rw[Nat.zero_add]at this
 rw[this,Ce]
theorem DX{a b:Int}{K:Value→Prop}:xF (aM [(0,1),(1,1),(2,1)] [.int .i64 0,.int .i64 0,.bool false] [0,1]) [.int .i64 a,.int .i64 b] K=K (.agg #[.int .i64 a,.int .i64 b,.bool false]):=rfl
def Nm.p(N:Nm):Value:=.pointer (some ⟨N.m,0,none⟩)
theorem LR{who:Int}:tg [N.p,.int .i64 who] K (aD N A σ)=K (.tuple #[]) (aD N (A.by who) σ):=by
 simp only[tg,Qg,Nm.p,X8,aF]
theorem BV{a:Int}(h0:0≤a)(h1:a<A.n):ta [N.p,.int .i64 a] K (aD N A σ)=K (.bool true) (aD N (A.step a) σ):=by
 simp only[ta,PB,zR,vE,Nm.p,C1,Rv,aau,X9,X7,DX,aF]
 rw[ae (by omega),ae (by omega)]
 rfl
theorem JI(h:N.ok){a v:Int}(h0:0≤a)(h1:a<A.n):xk [N.p,.int .i64 a,.int .u64 v] K (aD N A σ)=K (.tuple #[]) (aD N (A.lay a v) σ):=by
 have h2:∀ c,a<(A.HO c).n:=fun _=>h1
 simp only[xk,P_,Af,wq,Nm.p,C1,UB,Rv,aat,X6,fx h0 h1,fx h0 (h2 _),UA h h0 h1,aF,Nat.reduceAdd]
 by_cases hc:A.w a=v
 ·simp only[hc,Ar.HO,aF]
  have h3:a<(A.HO false).n:=h1
  rw[show({ n:=A.n,w:=A.w,t:=A.t,s:=A.s,who:=A.who,la:=A.la,lw:=A.lw,lc:=false }:Ar)=A.HO false from rfl]
  simp only[stW h h0 h3]
  refine congrArg _ (congrArg (aD N · σ) ?_)
  simp[Ar.Q9,Ar.HO,Ar.lay,hc]
 ·simp only[hc,Ar.HO,aF]
  have h3:a<(A.HO true).n:=h1
  have h4:a<((A.HO true).Q_ a A.s).n:=h1
  rw[show({ n:=A.n,w:=A.w,t:=A.t,s:=A.s,who:=A.who,la:=A.la,lw:=A.lw,lc:=true }:Ar)=A.HO true from rfl]
  simp only[stT h h0 h3]
  simp only[C1]
  simp only[fx h0 h4,stW h h0 h4,Nat.zero_add]
  refine congrArg _ (congrArg (aD N · σ) ?_)
  simp[Ar.Q9,Ar.Q_,Ar.HO,Ar.lay,hc]
def Ar.load(A:Ar)(a:Int):Ar:=A.step a
def Ar.store(A:Ar)(a v:Int):Ar:=(A.step a).lay a v
def Ar.dI(A:Ar)(a o v:Int):Ar:=if A.w a=o then(A.step a).lay a v else A.step a
def Ar.add(A:Ar)(a d:Int):Ar:=(A.step a).lay a (IntKind.u64.wrap (A.w a+d))
theorem j8{a b:Int}(h:a<A.n):a<(A.step b).n:=h
theorem Ly(h:N.ok){a:Int}(h0:0≤a)(h1:a<A.n):El [N.p,.int .i64 a] K (aD N A σ)=K (.tuple #[.int .u64 (A.w a),.int .i64 0]) (aD N (A.load a) σ):=by
 simp only[El,Qe,aF,BV h0 h1]
 simp only[Nm.p,C1,fx h0 (j8 h1),UA h h0 (j8 h1),aF]
 rfl
theorem oB(h:N.ok){a v:Int}(h0:0≤a)(h1:a<A.n):uw [N.p,.int .i64 a,.int .u64 v] K (aD N A σ)=K (.int .i64 0) (aD N (A.store a v) σ):=by
 simp only[uw,Qb,aF,BV h0 h1,JI h h0 (j8 h1)]
 rfl
theorem Sa(h:N.ok){a o v:Int}(h0:0≤a)(h1:a<A.n):Em [N.p,.int .i64 a,.int .u64 o,.int .u64 v] K (aD N A σ)=K (.tuple #[.bool (decide (A.w a=o)),.int .i64 0]) (aD N (A.dI a o v) σ):=by
 simp only[Em,Qf,aF,BV h0 h1]
 have hw:(A.step a).w a=A.w a:=rfl
 simp only[Nm.p,C1,fx h0 (j8 h1),UA h h0 (j8 h1),aF,hw]
 by_cases hc:A.w a=o
 ·have:=JI (K:=fun v σ=>K (.tuple #[.bool true,.int .i64 0]) σ) (σ:=σ) (v:=v) h h0 (j8 (b:=a) h1)
  simp only[Nm.p]at this
  simp only[hc,decide_true,if_true,this,Ar.dI,aF]
 ·simp only[hc,decide_false,Ar.dI,if_false,aF]
theorem Sb(h:N.ok){a d:Int}(h0:0≤a)(h1:a<A.n):En [N.p,.int .i64 a,.int .u64 d] K (aD N A σ)=K (.tuple #[.int .u64 (A.w a),.int .i64 0]) (aD N (A.add a d) σ):=by
 simp only[En,Qh,aF,BV h0 h1]
 have hw:(A.step a).w a=A.w a:=rfl
 simp only[Nm.p,C1,fx h0 (j8 h1),UA h h0 (j8 h1),aF,hw]
 have:=JI (K:=fun q σ=>K (.tuple #[.int .u64 (A.w a),.int .i64 0]) σ) (σ:=σ) (v:=IntKind.u64.wrap (A.w a+d)) h h0 (j8 (b:=a) h1)
 simp only[Nm.p]at this
 simp only[this]
 rfl
theorem Lx(h:N.ok){a:Int}(h0:0≤a)(h1:a<A.n):CJ [N.p,.int .i64 a] K (aD N A σ)=K (.int .u64 (A.w a)) (aD N A σ):=by
 simp only[CJ,Qd,Ah,wv,Nm.p,C1,aF]
 rw[ae (by omega),ae (by omega),fx h0 h1]
 simp only[Nat.zero_add]
 rw[UA h h0 h1]
theorem JJ:Ek [N.p] K (aD N A σ)=K (.int .i64 A.s) (aD N A σ):=by
 simp only[Ek,Qc,Nm.p,Rv,aF]
structure Cf where
 T:Int
 S:Int
 C:Int
 W:Int
 G:Int
 P:Int
 R:Int
def Cf.l(c:Cf):List Value:=[.int .i64 c.T,.int .i64 c.S,.int .i64 c.C,.int .i64 c.W,.int .i64 c.G,.int .i64 c.P,.int .i64 c.R]
def Cf.v(c:Cf):Value:=.agg #[.int .i64 c.T,.int .i64 c.S,.int .i64 c.C,.int .i64 c.W,.int .i64 c.G,.int .i64 c.P,.int .i64 c.R]
def Nm.env(N:Nm)(c:Cf)(who:Int):Value:=.agg #[.int .i64 c.T,.int .i64 c.S,.int .i64 c.C,.int .i64 c.W,.int .i64 c.G,.int .i64 c.P,.int .i64 c.R,N.p,.int .i64 who]
variable{C:Cf}{who:Int}
theorem Gk{a:Int}(h:a<A.n):a<(A.by who).n:=h
theorem cg(h:N.ok){a:Int}(h0:0≤a)(h1:a<A.n):cG [N.env C who,.int .i64 a] K (aD N A σ)=K (.int .u64 (A.w a)) (aD N ((A.by who).load a) σ):=by
 simp only[cG,PW,Nm.env,aF,bc,Nat.reduceAdd,LR,Ly h h0 (Gk h1)]
 rfl
theorem dG(h:N.ok){a v:Int}(h0:0≤a)(h1:a<A.n):ie [N.env C who,.int .i64 a,.int .u64 v] K (aD N A σ)=K (.tuple #[]) (aD N ((A.by who).store a v) σ):=by
 simp only[ie,PU,Nm.env,aF,bc,Nat.reduceAdd,LR,oB h h0 (Gk h1)]
theorem jE(h:N.ok){a o v:Int}(h0:0≤a)(h1:a<A.n):fN [N.env C who,.int .i64 a,.int .u64 o,.int .u64 v] K (aD N A σ)=K (.bool (decide (A.w a=o))) (aD N ((A.by who).dI a o v) σ):=by
 simp only[fN,PX,Nm.env,aF,bc,Nat.reduceAdd,LR,Sa h h0 (Gk h1)]
 rfl
theorem Gj(h:N.ok){a d:Int}(h0:0≤a)(h1:a<A.n):uv [N.env C who,.int .i64 a,.int .i64 d] K (aD N A σ)=K (.tuple #[]) (aD N ((A.by who).add a (IntKind.u64.wrap d)) σ):=by
 simp only[uv,PY,Nm.env,aF,bc,Nat.reduceAdd,LR,Sb h h0 (Gk h1)]
theorem oC:lX [N.env C who] K (aD N A σ)=K (.int .i64 A.s) (aD N A σ):=by
 simp only[lX,PV,Nm.env,aF,bc,Nat.reduceAdd,JJ]
theorem lq{K:Value→Prop}{Q:fY}{k:Nat}{w:Int}(h0:0≤w)(h1:w<18446744073709551616)(hk:k≤63):xF (aq .and Q) [.int .u64 w,.int .u64 (2 ^ k-1)] K=K (.int .u64 (w % 2 ^ k)):=by
 obtain⟨n,rfl⟩:=Int.eq_ofNat_of_zero_le h0
 have e:((2:Int) ^ k-1)=((2 ^ k-1:Nat):Int):=by
  have:0<2 ^ k:=Nat.two_pow_pos k
  push_cast [Nat.one_le_two_pow]
  rfl
 have hb:2 ^ k<2 ^ 64:=Nat.pow_lt_pow_right (by decide) (by omega)
 have hn:n<2 ^ 64:=by omega
 have q:(BitVec.ofInt 64 (n:Int) &&& BitVec.ofInt 64 ((2 ^ k-1:Nat):Int)).toNat=n % 2 ^ k:=by
  rw[BitVec.toNat_and,BitVec.toNat_ofInt,BitVec.toNat_ofInt]
  have h3:((n:Int) % ((2 ^ 64:Nat):Int)).toNat=n:=by omega
  have h4:(((2 ^ k-1:Nat):Int) % ((2 ^ 64:Nat):Int)).toNat=2 ^ k-1:=by omega
  rw[h3,h4,Nat.and_two_pow_sub_one_eq_mod]
 show xF (aq .and Q) _ _=_
 simp only[xF,aq,ka,mZ,Bool.false_eq_true,if_false,if_true]
 show K (.int .u64 (IntKind.u64.wrap ((BitVec.ofInt 64 (n:Int) &&& BitVec.ofInt 64 (2 ^ k-1)).toNat:Int)))=_
 rw[e,q,IntWalk.u64_in _ (by have:=Nat.mod_lt n (Nat.two_pow_pos k);omega)]
 push_cast
 rfl
theorem Xb{K:Value→Prop}{Q:fY}{w:Int}(h0:0≤w)(h1:w<18446744073709551616):xF (aq .and Q) [.int .u64 w,.int .u64 3] K=K (.int .u64 (w % 4)):=by
 simpa using lq (K:=K) (Q:=Q) (k:=2) h0 h1 (by decide)
theorem abW{K:Value→Prop}{Q:fY}{w:Int}(h0:0≤w)(h1:w<18446744073709551616):xF (aq .and Q) [.int .u64 w,.int .u64 7] K=K (.int .u64 (w % 8)):=by
 simpa using lq (K:=K) (Q:=Q) (k:=3) h0 h1 (by decide)
theorem abV{K:Value→Prop}{Q:fY}{w:Int}(h0:0≤w)(h1:w<18446744073709551616):xF (aq .and Q) [.int .u64 w,.int .u64 63] K=K (.int .u64 (w % 64)):=by
 simpa using lq (K:=K) (Q:=Q) (k:=6) h0 h1 (by decide)
theorem DE{K:Value→Prop}{Q:fY}{w:Int}(h0:0≤w)(h1:w<18446744073709551616):xF (aq .and Q) [.int .u64 w,.int .u64 65535] K=K (.int .u64 (w % 65536)):=by
 simpa using lq (K:=K) (Q:=Q) (k:=16) h0 h1 (by decide)
theorem Xc{K:Value→Prop}{Q:fY}{w:Int}(h0:0≤w)(h1:w<18446744073709551616):xF (aq .and Q) [.int .u64 w,.int .u64 131071] K=K (.int .u64 (w % 131072)):=by
 simpa using lq (K:=K) (Q:=Q) (k:=17) h0 h1 (by decide)
theorem O3{K:Value→Prop}{Q:fY}{w:Int}(h0:0≤w)(h1:w<18446744073709551616):xF (aq .and Q) [.int .u64 w,.int .u64 1048575] K=K (.int .u64 (w % 1048576)):=by
 simpa using lq (K:=K) (Q:=Q) (k:=20) h0 h1 (by decide)
theorem O1{K:Value→Prop}{Q:fY}{w:Int}(h0:0≤w)(h1:w<18446744073709551616):xF (aq .and Q) [.int .u64 w,.int .u64 4194303] K=K (.int .u64 (w % 4194304)):=by
 simpa using lq (K:=K) (Q:=Q) (k:=22) h0 h1 (by decide)
theorem O0{K:Value→Prop}{Q:fY}{w:Int}(h0:0≤w)(h1:w<18446744073709551616):xF (aq .and Q) [.int .u64 w,.int .u64 68719476735] K=K (.int .u64 (w % 68719476736)):=by
 simpa using lq (K:=K) (Q:=Q) (k:=36) h0 h1 (by decide)
theorem Xa{K:Value→Prop}{Q:fY}{w:Int}(h0:0≤w)(h1:w<18446744073709551616):xF (aq .and Q) [.int .u64 w,.int .u64 1099511627775] K=K (.int .u64 (w % 1099511627776)):=by
 simpa using lq (K:=K) (Q:=Q) (k:=40) h0 h1 (by decide)
theorem abX{K:Value→Prop}{Q:fY}{w:Int}(h0:0≤w)(h1:w<18446744073709551616):xF (aq .and Q) [.int .u64 w,.int .u64 1] K=K (.int .u64 (w % 2)):=by
 simpa using lq (K:=K) (Q:=Q) (k:=1) h0 h1 (by decide)
theorem kY{K:Value→Prop}{Q:fY}{k':IntKind}{s:Nat}{w:Int}(h0:0≤w)(hs:s≤64):xF (aq .shr Q) [.int .u64 w,.int k' (s:Int)] K=K (.int .u64 (w / 2 ^ s)):=by
 have h:¬((s:Int)<0):=by omega
 have hm:min s IntKind.u64.bits=s:=Nat.min_eq_left hs
 simp only[xF,aq,ka,SE,if_true,ae h,Int.toNat_natCast,hm]
 rw[Int.fdiv_eq_ediv_of_nonneg _ (by exact Int.le_of_lt (Int.pow_pos (by decide)))]
theorem nI{K:Value→Prop}{Q:fY}{k':IntKind}{s:Nat}{w:Int}(h0:0≤w)(h1:w*2 ^ s<18446744073709551616)(hs:s≤64):xF (aq .shl Q) [.int .u64 w,.int k' (s:Int)] K=K (.int .u64 (w*2 ^ s)):=by
 have h:¬((s:Int)<0):=by omega
 have hm:min s IntKind.u64.bits=s:=Nat.min_eq_left hs
 simp only[xF,aq,ka,SE,if_true,ae h,Int.toNat_natCast,hm]
 rw[IntWalk.u64_in _ ⟨Int.mul_nonneg h0 (Int.le_of_lt (Int.pow_pos (by decide))),by omega⟩]
theorem sD{K:Value→Prop}{Q:fY}{s:Nat}{a c:Int}(h0:0≤a)(h1:a<2 ^ s)(h2:0≤c)(h3:a+c*2 ^ s<18446744073709551616) :
  xF (aq .or Q) [.int .u64 a,.int .u64 (c*2 ^ s)] K=K (.int .u64 (a+c*2 ^ s)):=by
 obtain⟨m,rfl⟩:=Int.eq_ofNat_of_zero_le h0
 obtain⟨n,rfl⟩:=Int.eq_ofNat_of_zero_le h2
 have e:(n:Int)*2 ^ s=((n*2 ^ s:Nat):Int):=by push_cast;rfl
 rw[e]at h3 ⊢
 have hm:m<2 ^ s:=by exact_mod_cast h1
 have q:(BitVec.ofInt 64 (m:Int) ||| BitVec.ofInt 64 ((n*2 ^ s:Nat):Int)).toNat=m+n*2 ^ s:=by
  rw[BitVec.toNat_or,BitVec.toNat_ofInt,BitVec.toNat_ofInt]
  have h4:((m:Int) % ((2 ^ 64:Nat):Int)).toNat=m:=by omega
  have h5:(((n*2 ^ s:Nat):Int) % ((2 ^ 64:Nat):Int)).toNat=n*2 ^ s:=by omega
  rw[h4,h5,Nat.mul_comm n,Nat.or_comm,←Nat.two_pow_add_eq_or_of_lt hm,Nat.add_comm]
 simp only[xF,aq,ka,mZ,Bool.false_eq_true,if_false,if_true]
 show K (.int .u64 (IntKind.u64.wrap ((BitVec.ofInt 64 (m:Int) ||| BitVec.ofInt 64 ((n*2 ^ s:Nat):Int)).toNat:Int)))=_
 rw[q,IntWalk.u64_in _ (by omega)]
 push_cast
 rfl
theorem T3{K:Value→Prop}{Q:fY}{k':IntKind}{w:Int}(h0:0≤w):xF (aq .shr Q) [.int .u64 w,.int k' 2] K=K (.int .u64 (w / 4)):=by
 simpa using kY (K:=K) (Q:=Q) (k':=k') (s:=2) h0 (by decide)
theorem Ua{K:Value→Prop}{Q:fY}{k':IntKind}{w:Int}(h0:0≤w)(h1:w*4<18446744073709551616):xF (aq .shl Q) [.int .u64 w,.int k' 2] K=K (.int .u64 (w*4)):=by
 simpa using nI (K:=K) (Q:=Q) (k':=k') (s:=2) h0 (by simpa using h1) (by decide)
theorem or2{K:Value→Prop}{Q:fY}{a c:Int}(h0:0≤a)(h1:a<4)(h2:0≤c)(h3:a+c*4<18446744073709551616):xF (aq .or Q) [.int .u64 a,.int .u64 (c*4)] K=K (.int .u64 (a+c*4)):=by
 simpa using sD (K:=K) (Q:=Q) (s:=2) h0 (by simpa using h1) h2 (by simpa using h3)
theorem Ye{K:Value→Prop}{Q:fY}{k':IntKind}{w:Int}(h0:0≤w):xF (aq .shr Q) [.int .u64 w,.int k' 3] K=K (.int .u64 (w / 8)):=by
 simpa using kY (K:=K) (Q:=Q) (k':=k') (s:=3) h0 (by decide)
theorem Yg{K:Value→Prop}{Q:fY}{k':IntKind}{w:Int}(h0:0≤w)(h1:w*8<18446744073709551616):xF (aq .shl Q) [.int .u64 w,.int k' 3] K=K (.int .u64 (w*8)):=by
 simpa using nI (K:=K) (Q:=Q) (k':=k') (s:=3) h0 (by simpa using h1) (by decide)
theorem or3{K:Value→Prop}{Q:fY}{a c:Int}(h0:0≤a)(h1:a<8)(h2:0≤c)(h3:a+c*8<18446744073709551616):xF (aq .or Q) [.int .u64 a,.int .u64 (c*8)] K=K (.int .u64 (a+c*8)):=by
 simpa using sD (K:=K) (Q:=Q) (s:=3) h0 (by simpa using h1) h2 (by simpa using h3)
theorem Yd{K:Value→Prop}{Q:fY}{k':IntKind}{w:Int}(h0:0≤w):xF (aq .shr Q) [.int .u64 w,.int k' 8] K=K (.int .u64 (w / 256)):=by
 simpa using kY (K:=K) (Q:=Q) (k':=k') (s:=8) h0 (by decide)
theorem Yf{K:Value→Prop}{Q:fY}{k':IntKind}{w:Int}(h0:0≤w)(h1:w*256<18446744073709551616):xF (aq .shl Q) [.int .u64 w,.int k' 8] K=K (.int .u64 (w*256)):=by
 simpa using nI (K:=K) (Q:=Q) (k':=k') (s:=8) h0 (by simpa using h1) (by decide)
theorem or8{K:Value→Prop}{Q:fY}{a c:Int}(h0:0≤a)(h1:a<256)(h2:0≤c)(h3:a+c*256<18446744073709551616):xF (aq .or Q) [.int .u64 a,.int .u64 (c*256)] K=K (.int .u64 (a+c*256)):=by
 simpa using sD (K:=K) (Q:=Q) (s:=8) h0 (by simpa using h1) h2 (by simpa using h3)
theorem Ix{K:Value→Prop}{Q:fY}{k':IntKind}{w:Int}(h0:0≤w):xF (aq .shr Q) [.int .u64 w,.int k' 16] K=K (.int .u64 (w / 65536)):=by
 simpa using kY (K:=K) (Q:=Q) (k':=k') (s:=16) h0 (by decide)
theorem Ud{K:Value→Prop}{Q:fY}{k':IntKind}{w:Int}(h0:0≤w)(h1:w*65536<18446744073709551616):xF (aq .shl Q) [.int .u64 w,.int k' 16] K=K (.int .u64 (w*65536)):=by
 simpa using nI (K:=K) (Q:=Q) (k':=k') (s:=16) h0 (by simpa using h1) (by decide)
theorem aao{K:Value→Prop}{Q:fY}{a c:Int}(h0:0≤a)(h1:a<65536)(h2:0≤c)(h3:a+c*65536<18446744073709551616):xF (aq .or Q) [.int .u64 a,.int .u64 (c*65536)] K=K (.int .u64 (a+c*65536)):=by
 simpa using sD (K:=K) (Q:=Q) (s:=16) h0 (by simpa using h1) h2 (by simpa using h3)
theorem T5{K:Value→Prop}{Q:fY}{k':IntKind}{w:Int}(h0:0≤w):xF (aq .shr Q) [.int .u64 w,.int k' 17] K=K (.int .u64 (w / 131072)):=by
 simpa using kY (K:=K) (Q:=Q) (k':=k') (s:=17) h0 (by decide)
theorem Uc{K:Value→Prop}{Q:fY}{k':IntKind}{w:Int}(h0:0≤w)(h1:w*131072<18446744073709551616):xF (aq .shl Q) [.int .u64 w,.int k' 17] K=K (.int .u64 (w*131072)):=by
 simpa using nI (K:=K) (Q:=Q) (k':=k') (s:=17) h0 (by simpa using h1) (by decide)
theorem aan{K:Value→Prop}{Q:fY}{a c:Int}(h0:0≤a)(h1:a<131072)(h2:0≤c)(h3:a+c*131072<18446744073709551616):xF (aq .or Q) [.int .u64 a,.int .u64 (c*131072)] K=K (.int .u64 (a+c*131072)):=by
 simpa using sD (K:=K) (Q:=Q) (s:=17) h0 (by simpa using h1) h2 (by simpa using h3)
theorem T4{K:Value→Prop}{Q:fY}{k':IntKind}{w:Int}(h0:0≤w):xF (aq .shr Q) [.int .u64 w,.int k' 18] K=K (.int .u64 (w / 262144)):=by
 simpa using kY (K:=K) (Q:=Q) (k':=k') (s:=18) h0 (by decide)
theorem Ub{K:Value→Prop}{Q:fY}{k':IntKind}{w:Int}(h0:0≤w)(h1:w*262144<18446744073709551616):xF (aq .shl Q) [.int .u64 w,.int k' 18] K=K (.int .u64 (w*262144)):=by
 simpa using nI (K:=K) (Q:=Q) (k':=k') (s:=18) h0 (by simpa using h1) (by decide)
theorem aam{K:Value→Prop}{Q:fY}{a c:Int}(h0:0≤a)(h1:a<262144)(h2:0≤c)(h3:a+c*262144<18446744073709551616):xF (aq .or Q) [.int .u64 a,.int .u64 (c*262144)] K=K (.int .u64 (a+c*262144)):=by
 simpa using sD (K:=K) (Q:=Q) (s:=18) h0 (by simpa using h1) h2 (by simpa using h3)
theorem T2{K:Value→Prop}{Q:fY}{k':IntKind}{w:Int}(h0:0≤w):xF (aq .shr Q) [.int .u64 w,.int k' 23] K=K (.int .u64 (w / 8388608)):=by
 simpa using kY (K:=K) (Q:=Q) (k':=k') (s:=23) h0 (by decide)
theorem T_{K:Value→Prop}{Q:fY}{k':IntKind}{w:Int}(h0:0≤w)(h1:w*8388608<18446744073709551616):xF (aq .shl Q) [.int .u64 w,.int k' 23] K=K (.int .u64 (w*8388608)):=by
 simpa using nI (K:=K) (Q:=Q) (k':=k') (s:=23) h0 (by simpa using h1) (by decide)
theorem aal{K:Value→Prop}{Q:fY}{a c:Int}(h0:0≤a)(h1:a<8388608)(h2:0≤c)(h3:a+c*8388608<18446744073709551616):xF (aq .or Q) [.int .u64 a,.int .u64 (c*8388608)] K=K (.int .u64 (a+c*8388608)):=by
 simpa using sD (K:=K) (Q:=Q) (s:=23) h0 (by simpa using h1) h2 (by simpa using h3)
theorem T1{K:Value→Prop}{Q:fY}{k':IntKind}{w:Int}(h0:0≤w):xF (aq .shr Q) [.int .u64 w,.int k' 28] K=K (.int .u64 (w / 268435456)):=by
 simpa using kY (K:=K) (Q:=Q) (k':=k') (s:=28) h0 (by decide)
theorem T9{K:Value→Prop}{Q:fY}{k':IntKind}{w:Int}(h0:0≤w)(h1:w*268435456<18446744073709551616):xF (aq .shl Q) [.int .u64 w,.int k' 28] K=K (.int .u64 (w*268435456)):=by
 simpa using nI (K:=K) (Q:=Q) (k':=k') (s:=28) h0 (by simpa using h1) (by decide)
theorem aak{K:Value→Prop}{Q:fY}{a c:Int}(h0:0≤a)(h1:a<268435456)(h2:0≤c)(h3:a+c*268435456<18446744073709551616):xF (aq .or Q) [.int .u64 a,.int .u64 (c*268435456)] K=K (.int .u64 (a+c*268435456)):=by
 simpa using sD (K:=K) (Q:=Q) (s:=28) h0 (by simpa using h1) h2 (by simpa using h3)
theorem Iw{K:Value→Prop}{Q:fY}{k':IntKind}{w:Int}(h0:0≤w):xF (aq .shr Q) [.int .u64 w,.int k' 32] K=K (.int .u64 (w / 4294967296)):=by
 simpa using kY (K:=K) (Q:=Q) (k':=k') (s:=32) h0 (by decide)
theorem T0{K:Value→Prop}{Q:fY}{k':IntKind}{w:Int}(h0:0≤w):xF (aq .shr Q) [.int .u64 w,.int k' 34] K=K (.int .u64 (w / 17179869184)):=by
 simpa using kY (K:=K) (Q:=Q) (k':=k') (s:=34) h0 (by decide)
theorem T8{K:Value→Prop}{Q:fY}{k':IntKind}{w:Int}(h0:0≤w)(h1:w*17179869184<18446744073709551616):xF (aq .shl Q) [.int .u64 w,.int k' 34] K=K (.int .u64 (w*17179869184)):=by
 simpa using nI (K:=K) (Q:=Q) (k':=k') (s:=34) h0 (by simpa using h1) (by decide)
theorem aaj{K:Value→Prop}{Q:fY}{a c:Int}(h0:0≤a)(h1:a<17179869184)(h2:0≤c)(h3:a+c*17179869184<18446744073709551616):xF (aq .or Q) [.int .u64 a,.int .u64 (c*17179869184)] K=K (.int .u64 (a+c*17179869184)):=by
 simpa using sD (K:=K) (Q:=Q) (s:=34) h0 (by simpa using h1) h2 (by simpa using h3)
theorem TZ{K:Value→Prop}{Q:fY}{k':IntKind}{w:Int}(h0:0≤w):xF (aq .shr Q) [.int .u64 w,.int k' 39] K=K (.int .u64 (w / 549755813888)):=by
 simpa using kY (K:=K) (Q:=Q) (k':=k') (s:=39) h0 (by decide)
theorem T7{K:Value→Prop}{Q:fY}{k':IntKind}{w:Int}(h0:0≤w)(h1:w*549755813888<18446744073709551616):xF (aq .shl Q) [.int .u64 w,.int k' 39] K=K (.int .u64 (w*549755813888)):=by
 simpa using nI (K:=K) (Q:=Q) (k':=k') (s:=39) h0 (by simpa using h1) (by decide)
theorem aai{K:Value→Prop}{Q:fY}{a c:Int}(h0:0≤a)(h1:a<549755813888)(h2:0≤c)(h3:a+c*549755813888<18446744073709551616):xF (aq .or Q) [.int .u64 a,.int .u64 (c*549755813888)] K=K (.int .u64 (a+c*549755813888)):=by
 simpa using sD (K:=K) (Q:=Q) (s:=39) h0 (by simpa using h1) h2 (by simpa using h3)
theorem TY{K:Value→Prop}{Q:fY}{k':IntKind}{w:Int}(h0:0≤w):xF (aq .shr Q) [.int .u64 w,.int k' 40] K=K (.int .u64 (w / 1099511627776)):=by
 simpa using kY (K:=K) (Q:=Q) (k':=k') (s:=40) h0 (by decide)
theorem T6{K:Value→Prop}{Q:fY}{k':IntKind}{w:Int}(h0:0≤w)(h1:w*1099511627776<18446744073709551616):xF (aq .shl Q) [.int .u64 w,.int k' 40] K=K (.int .u64 (w*1099511627776)):=by
 simpa using nI (K:=K) (Q:=Q) (k':=k') (s:=40) h0 (by simpa using h1) (by decide)
theorem aah{K:Value→Prop}{Q:fY}{a c:Int}(h0:0≤a)(h1:a<1099511627776)(h2:0≤c)(h3:a+c*1099511627776<18446744073709551616):xF (aq .or Q) [.int .u64 a,.int .u64 (c*1099511627776)] K=K (.int .u64 (a+c*1099511627776)):=by
 simpa using sD (K:=K) (Q:=Q) (s:=40) h0 (by simpa using h1) h2 (by simpa using h3)
theorem TX{K:Value→Prop}{Q:fY}{k':IntKind}{w:Int}(h0:0≤w):xF (aq .shr Q) [.int .u64 w,.int k' 50] K=K (.int .u64 (w / 1125899906842624)):=by
 simpa using kY (K:=K) (Q:=Q) (k':=k') (s:=50) h0 (by decide)
theorem aag{K:Value→Prop}{Q:fY}{a c:Int}(h0:0≤a)(h1:a<1125899906842624)(h2:0≤c)(h3:a+c*1125899906842624<18446744073709551616):xF (aq .or Q) [.int .u64 a,.int .u64 (c*1125899906842624)] K=K (.int .u64 (a+c*1125899906842624)):=by
 simpa using sD (K:=K) (Q:=Q) (s:=50) h0 (by simpa using h1) h2 (by simpa using h3)
theorem TV{K:Value→Prop}{Q:fY}{k':IntKind}{w:Int}(h0:0≤w):xF (aq .shr Q) [.int .u64 w,.int k' 63] K=K (.int .u64 (w / 9223372036854775808)):=by
 simpa using kY (K:=K) (Q:=Q) (k':=k') (s:=63) h0 (by decide)
def cl(n m:Int):Int:=min (max n 0) m
theorem gI{n m:Int}(h:0≤m):0≤cl n m:=by unfold cl;omega
theorem gJ{n m:Int}:cl n m≤m:=by unfold cl;omega
theorem fP{n m:Int}(h0:0≤n)(h1:n≤m):cl n m=n:=by unfold cl;omega
theorem iN{n m:Int}(h0:0≤m)(h1:m<18446744073709551616):ia [.int .i64 n,.int .i64 m] K σ=K (.int .u64 (cl n m)) σ:=by
 simp only[ia,O8,aF]
 rw[IntWalk.u64_in _ (by omega)];rfl
def bV(s c:Int):Int:=cl (min s 65535+1) 65536+cl c 68719476735*131072
theorem gG(s c:Int):0≤bV s c∧bV s c<18446744073709551616:=by unfold bV cl;omega
theorem mm{s c:Int}(h : -9223372036854775808≤s):rK [.int .i64 s,.int .i64 c] K σ=K (.int .u64 (bV s c)) σ:=by
 simp only[rK,Pc,aF]
 have h1:=@gJ (min s 65535+1) 65536
 have h2:=@gI (min s 65535+1) 65536 (by decide)
 have h3:=@gJ c 68719476735
 have h4:=@gI c 68719476735 (by decide)
 rw[IntWalk.i64_in _ (by omega),iN (by decide) (by decide),iN (by decide) (by decide),Uc h4 (by omega),aan h2 (by omega) h4 (by omega)]
 rfl
def dO(w:Int):Int:=w % 131072-1
def lx(w:Int):Int:=w / 131072 % 68719476736
theorem Gd{w:Int}(h0:0≤w)(h1:w<18446744073709551616):xe [.int .u64 w] K σ=K (.tuple #[.int .i64 (dO w),.int .i64 (lx w)]) σ:=by
 simp only[xe,O9,aF]
 rw[Xc h0 h1]
 simp only[aF]
 rw[T5 h0,O0 (by omega) (by omega)]
 simp only[aF]
 rw[IntWalk.i64_in (w % 131072) (by omega),IntWalk.i64_in (w % 131072-1) (by omega),IntWalk.i64_in (w / 131072 % 68719476736) (by omega)]
 rfl
def aK(st ad ge ve:Int):Int:=cl st 7+cl ad 1048575*8+cl ge 65535*8388608+cl ve 4194303*549755813888
theorem cV(st ad ge ve:Int):0≤aK st ad ge ve∧aK st ad ge ve<18446744073709551616:=by unfold aK cl;omega
theorem jf{st ad ge ve:Int}:n_ [.agg #[.int .i64 st,.int .i64 ad,.int .i64 ge,.int .i64 ve]] K σ=K (.int .u64 (aK st ad ge ve)) σ:=by
 simp only[n_,PC,aF,bc,Nat.reduceAdd]
 have h1:=@gJ st 7
 have h2:=@gI st 7 (by decide)
 have h3:=@gJ ad 1048575
 have h4:=@gI ad 1048575 (by decide)
 have h5:=@gJ ge 65535
 have h6:=@gI ge 65535 (by decide)
 have h7:=@gJ ve 4194303
 have h8:=@gI ve 4194303 (by decide)
 rw[iN (by decide) (by decide),iN (by decide) (by decide),Yg h4 (by omega),or3 h2 (by omega) h4 (by omega),iN (by decide) (by decide),T_ h6 (by omega),aal (by omega) (by omega) h6 (by omega),
  iN (by decide) (by decide),T7 h8 (by omega),aai (by omega) (by omega) h8 (by omega)]
 rfl
structure aZ(N:Nm)(A:Ar)(σ:Mem):Prop where
 m:σ.get N.m=some ⟨A.mc N,true⟩
 w:σ.get N.w=some A.wb
 t:σ.get N.t=some A.tb
def Ext(σ τ:Mem):Prop:=∀ i b,σ.get i=some b→τ.get i=some b
def aQ(L:List Nat)(σ τ:Mem):Prop:=∀ i b,σ.get i=some b→i∉L→τ.get i=some b
theorem Ext.trans{τ υ:Mem}(h:Ext σ τ)(k:Ext τ υ):Ext σ υ:=fun i b q=>k i b (h i b q)
theorem aQ.refl{L:List Nat}:aQ L σ σ:=fun _ _ h _=>h
theorem aQ.trans{L:List Nat}{τ υ:Mem}(h:aQ L σ τ)(k:aQ L τ υ):aQ L σ υ:=fun i b q n=>k i b (h i b q n) n
theorem aQ.mono{L L':List Nat}{τ:Mem}(h:aQ L σ τ)(hl:∀ i∈L,i∈L'):aQ L' σ τ:=fun i b q n=>h i b q fun hi=>n (hl i hi)
theorem Ext.aL{L:List Nat}{τ:Mem}(h:Ext σ τ):aQ L σ τ:=fun i b q _=>h i b q
theorem Ext.fresh{id:Nat}{b:uc}(h:σ.get id=none):Ext σ (σ.set id b):=by
 intro i c hi
 rw[Mem.bZ _ _ (by rintro rfl;rw[h]at hi;cases hi)]
 exact hi
theorem mS(h:N.ok):aZ N A (aD N A σ):=⟨lB,EH h,EI h⟩
theorem aZ.eq(h:aZ N A σ):σ=aD N A σ:=by
 unfold aD
 rw[Mem.rJ h.t,Mem.rJ h.w,Mem.rJ h.m]
theorem aZ.ext{τ:Mem}(h:aZ N A σ)(k:Ext σ τ):aZ N A τ:=⟨k _ _ h.m,k _ _ h.w,k _ _ h.t⟩
def Nm.l(N:Nm):List Nat:=[N.m,N.w,N.t]
theorem aZ.aL{L:List Nat}{τ:Mem}(h:aZ N A σ)(k:aQ L σ τ)(hd:N.m∉L∧N.w∉L∧N.t∉L):aZ N A τ:=⟨k _ _ h.m hd.1,k _ _ h.w hd.2.1,k _ _ h.t hd.2.2⟩
theorem aQ.put:aQ N.l σ (aD N A σ):=by
 intro i b hi hn
 simp only[Nm.l,List.mem_cons,List.not_mem_nil,or_false,not_or]at hn
 rw[Bq hn.1 hn.2.1 hn.2.2];exact hi
theorem aZ.fresh(h:aZ N A σ){id:Nat}(dQ:σ.get id=none):id≠N.m∧id≠N.w∧id≠N.t:=
 ⟨fun e=>(by rw[e,h.m]at dQ;cases dQ),fun e=>(by rw[e,h.w]at dQ;cases dQ),fun e=>(by rw[e,h.t]at dQ;cases dQ)⟩
structure Cf.ok(c:Cf):Prop where
 T:1≤c.T∧c.T≤8
 S:1≤c.S∧c.S≤65536
 C:1≤c.C∧c.C≤64
 W:17≤c.W∧c.W≤256
 G:1≤c.G∧c.G≤65535
 P:0≤c.P∧c.P≤1000
 R:1≤c.R∧c.R≤16
def Cf.slot(c:Cf)(s:Int):Int:=6+c.T+2*s
def Cf.chunk(c:Cf)(k:Int):Int:=6+c.T+2*c.S+3*k
def Cf.base(c:Cf)(k:Int):Int:=6+c.T+2*c.S+3*c.C+c.W*k
def Cf.len(c:Cf):Int:=c.base c.C
theorem EP{c:Cf}(h:c.ok){k:Int}(h0:0≤k)(h1:k≤1048576):0≤c.W*k∧c.W*k≤268435456:=by
 have hW:=h.W
 refine⟨Int.mul_nonneg (by omega) h0,?_⟩
 calc c.W*k≤256*k:=Int.mul_le_mul_of_nonneg_right hW.2 h0
  _≤268435456:=by omega
theorem mY:pg [] K σ=K (.int .i64 0) σ:=by simp only[pg,PT,aF]
theorem Fe:th [] K σ=K (.int .i64 1) σ:=by simp only[th,Qi,aF]
theorem Ff{k:Int}(h0:0≤k)(h1:k≤65536):yD [.int .i64 k] K σ=K (.int .i64 (2+k)) σ:=by
 simp only[yD,PO,aF]
 rw[IntWalk.i64_in _ (by omega)]
theorem JO{k:Int}(h0:0≤k)(h1:k≤65536):xi [.int .i64 k] K σ=K (.int .i64 (6+k)) σ:=by
 simp only[xi,PN,aF]
 rw[IntWalk.i64_in _ (by omega)]
theorem dD(h:C.ok){s:Int}(h0:0≤s)(h1:s≤65536):gw [C.v,.int .i64 s] K σ=K (.int .i64 (C.slot s)) σ:=by
 have:=h.T
 simp only[gw,PL,Cf.v,aF,bc,Nat.reduceAdd]
 rw[IntWalk.i64_in (6+C.T) (by omega),IntWalk.i64_in (2*s) (by omega),IntWalk.i64_in _ (by omega)];rfl
theorem cB(h:C.ok){s:Int}(h0:0≤s)(h1:s≤65536):ff [C.v,.int .i64 s] K σ=K (.int .i64 (C.chunk s)) σ:=by
 have:=h.T
 have:=h.S
 simp only[ff,P0,Cf.v,aF,bc,Nat.reduceAdd]
 rw[IntWalk.i64_in (6+C.T) (by omega),IntWalk.i64_in (2*C.S) (by omega),IntWalk.i64_in (3*s) (by omega),IntWalk.i64_in (6+C.T+2*C.S) (by omega),IntWalk.i64_in _ (by omega)];rfl
theorem ya(h:C.ok){s:Int}(h0:0≤s)(h1:s≤65536):pV [C.v,.int .i64 s] K σ=K (.int .i64 (C.base s)) σ:=by
 have:=h.T
 have:=h.S
 have:=h.C
 have:=EP h h0 (by omega)
 simp only[pV,P3,Cf.v,aF,bc,Nat.reduceAdd]
 rw[IntWalk.i64_in (6+C.T) (by omega),IntWalk.i64_in (2*C.S) (by omega),IntWalk.i64_in (3*C.C) (by omega),IntWalk.i64_in (6+C.T+2*C.S) (by omega),IntWalk.i64_in (6+C.T+2*C.S+3*C.C) (by omega),IntWalk.i64_in (C.W*s) (by omega),IntWalk.i64_in _ (by omega)];rfl
theorem JK(h:C.ok):Bi [C.v] K σ=K (.int .i64 C.len) σ:=by
 have:=h.C
 have e:=fun(K:Value→Mem→Prop) σ=>ya (K:=K) (σ:=σ) h (s:=C.C) (by omega) (by omega)
 simp only[Bi,PR,Cf.v,aF,bc,KI,Nat.reduceAdd]at e ⊢
 rw[e];rfl
section
variable{K:Value→Prop}
theorem IB:xF (aq .shl .no) [.int .i64 2,.int .i64 0] K=K (.int .i64 2):=nr rfl
theorem IA:xF (aq .shl .no) [.int .i64 2,.int .i64 1] K=K (.int .i64 4):=nr rfl
theorem Iz:xF (aq .shl .no) [.int .i64 2,.int .i64 2] K=K (.int .i64 8):=nr rfl
theorem Iy:xF (aq .shl .no) [.int .i64 2,.int .i64 3] K=K (.int .i64 16):=nr rfl
end
theorem MJ:IntKind.i64.wrap 1=1:=nr rfl
theorem MI:IntKind.i64.wrap 2=2:=nr rfl
theorem IZ:IntKind.i64.wrap 3=3:=nr rfl
theorem MH:IntKind.i64.wrap 4=4:=nr rfl
theorem UN:IntKind.i64.wrap 5=5:=nr rfl
theorem UM:IntKind.i64.wrap 9=9:=nr rfl
theorem Ry:IntKind.i64.wrap 17=17:=nr rfl
def ai(n:Int):Int:=if n<1 then -1 else if n≤2 then 0 else if n≤4 then 1 else if n≤8 then 2 else if n≤16 then 3 else -1
theorem kc{n:Int}(hk:K (.int .i64 (ai n)) σ):pU [.int .i64 n] K σ:=by
 simp only[pU,PZ,aF]
 by_cases h:1≤n
 ·unfold ai at hk
  rw[ae (by omega)]at hk
  refine dA ?_
  simp only[bt,bn,fR,dW,fS,dX,aF,Int.reduceLT,Int.reduceNeg,Int.reduceAdd,h,IB,MJ]
  by_cases h1:n≤2
  ·rw[af h1]at hk ⊢;exact hk
  rw[ae h1]at hk ⊢
  refine dA ?_
  simp only[bt,bn,fR,dW,fS,dX,aF,Int.reduceLT,Int.reduceNeg,Int.reduceAdd,h,IA,MI]
  by_cases h1:n≤4
  ·rw[af h1]at hk ⊢;exact hk
  rw[ae h1]at hk ⊢
  refine dA ?_
  simp only[bt,bn,fR,dW,fS,dX,aF,Int.reduceLT,Int.reduceNeg,Int.reduceAdd,h,Iz,IZ]
  by_cases h1:n≤8
  ·rw[af h1]at hk ⊢;exact hk
  rw[ae h1]at hk ⊢
  refine dA ?_
  simp only[bt,bn,fR,dW,fS,dX,aF,Int.reduceLT,Int.reduceNeg,Int.reduceAdd,h,Iy,MH]
  by_cases h1:n≤16
  ·rw[af h1]at hk ⊢;exact hk
  rw[ae h1]at hk ⊢
  refine dA ?_
  simp only[bt,bn,fR,dW,fS,dX,aF,Int.reduceLT,Int.reduceNeg,Int.reduceAdd]
  exact hk
 ·unfold ai at hk
  rw[af (by omega)]at hk
  refine dA ?_
  simp only[bt,bn,fR,dW,fS,dX,aF,Int.reduceLT,Int.reduceNeg,Int.reduceAdd,h,MJ]
  refine dA ?_
  simp only[bt,bn,fR,dW,fS,dX,aF,Int.reduceLT,Int.reduceNeg,Int.reduceAdd,h,MI]
  refine dA ?_
  simp only[bt,bn,fR,dW,fS,dX,aF,Int.reduceLT,Int.reduceNeg,Int.reduceAdd,h,IZ]
  refine dA ?_
  simp only[bt,bn,fR,dW,fS,dX,aF,Int.reduceLT,Int.reduceNeg,Int.reduceAdd,h,MH]
  refine dA ?_
  simp only[bt,bn,fR,dW,fS,dX,aF,Int.reduceLT,Int.reduceNeg,Int.reduceAdd]
  exact hk
def aA(k:Int):Int:=if k=0 then 3 else if k=1 then 5 else if k=2 then 9 else 17
theorem mX{k:Int}(h0:0≤k)(h1:k≤3):nB [.int .i64 k] K σ=K (.int .i64 (aA k)) σ:=by
 simp only[nB,PM,aF]
 rcases(show k=0∨k=1∨k=2∨k=3 by omega)with rfl|rfl|rfl|rfl <;>
  simp only[IB,IA,Iz,Iy,aF,Int.reduceAdd,IZ,UN,UM,Ry]<;>rfl
end Go.Fl
namespace Go.Fl
open Go
variable{N:Nm}{A B:Ar}{σ:Mem}{K:Value→Mem→Prop}{C:Cf}{who:Int}
def Cf.okB(c:Cf):Bool:=
 (decide (1≤c.T)&&decide (c.T≤8)&&decide (1≤c.S)&&decide (c.S≤65536))&&(decide (1≤c.C)&&decide (c.C≤64)&&decide (17≤c.W)&&decide (c.W≤256)) &&
 (decide (1≤c.G)&&decide (c.G≤65535)&&decide (0≤c.P)&&decide (c.P≤1000)&&decide (1≤c.R)&&decide (c.R≤16))
theorem Cf.KM{c:Cf}:c.okB=true ↔ c.ok:=by
 simp only[Cf.okB,Bool.and_eq_true,decide_eq_true_eq]
 constructor
 ·rintro⟨⟨⟨⟨⟨a,b⟩,d⟩,e⟩,⟨⟨f,g⟩,h⟩,i⟩,⟨⟨⟨⟨j,k⟩,l⟩,m⟩,n⟩,o⟩
  exact⟨⟨a,b⟩,⟨d,e⟩,⟨f,g⟩,⟨h,i⟩,⟨j,k⟩,⟨l,m⟩,⟨n,o⟩⟩
 ·rintro⟨⟨a,b⟩,⟨d,e⟩,⟨f,g⟩,⟨h,i⟩,⟨j,k⟩,⟨l,m⟩,⟨n,o⟩⟩
  exact⟨⟨⟨⟨⟨a,b⟩,d⟩,e⟩,⟨⟨f,g⟩,h⟩,i⟩,⟨⟨⟨⟨j,k⟩,l⟩,m⟩,n⟩,o⟩
theorem JF{x y z:Bool}:qT K (.bool x) (.bool y) (.bool z) σ=K (.bool (x&&y&&z)) σ:=by
 simp only[qT,aF]
 cases x<;>cases y<;>cases z<;>simp only[aF,bc,Bool.and_false]
theorem JG{x y:Bool}:qU K (.bool x) (.bool y) C.l σ=K (.bool (x&&y&&(decide (1≤C.G)&&decide (C.G≤65535)&&decide (0≤C.P)&&decide (C.P≤1000)&&decide (1≤C.R)&&decide (C.R≤16)))) σ:=by
 simp only[qU,zY,Cf.l,aF,bc,JF]
 by_cases h1:1≤C.G<;>by_cases h2:C.G≤65535<;>by_cases h3:0≤C.P<;>by_cases h4:C.P≤1000<;>by_cases h5:1≤C.R <;>
  simp only[h1,h2,h3,h4,h5,aF,bc,Bool.and_false,Bool.false_and,Bool.true_and]
theorem LQ:Eh [C.v] K σ=K (.bool C.okB) σ:=by
 have j1:∀{x:Bool},qV K (.bool x) C.l σ=K (.bool (x&&(decide (1≤C.C)&&decide (C.C≤64)&&decide (17≤C.W)&&decide (C.W≤256))&&(decide (1≤C.G)&&decide (C.G≤65535)&&decide (0≤C.P)&&decide (C.P≤1000)&&decide (1≤C.R)&&decide (C.R≤16)))) σ:=by
  intro x
  have e:=@JG σ K C
  simp only[Cf.l]at e
  simp only[qV,zZ,Cf.l,aF,bc]
  by_cases h1:1≤C.C<;>by_cases h2:C.C≤64<;>by_cases h3:17≤C.W <;>
   simp only[h1,h2,h3,aF,bc,e,Bool.and_false,Bool.false_and,Bool.true_and]
 simp only[Cf.l]at j1
 simp only[Eh,P2,z5,Cf.v,aF,bc,Nat.reduceAdd]
 unfold Cf.okB
 by_cases h1:1≤C.T<;>by_cases h2:C.T≤8<;>by_cases h3:1≤C.S <;>
  simp only[h1,h2,h3,aF,bc,j1,Bool.and_false,Bool.false_and,Bool.true_and]
theorem zt{es W7:Nat}{z:List Value}{n:Int}{K:Value→Mem→Prop}{σ:Mem}(h0:0≤n)(h1:n≤1073741824)(hb:W7≤1024) :
  kG es W7 z [.int .i64 n,.int .i64 n] K σ=tq (List.replicate n.toNat z).flatten (fun id=>.slice (some ⟨id,0,none⟩) n.toNat es) K σ:=by
 simp only[kG]
 rw[af ⟨trivial,h0,h1,hb⟩]
theorem Jl{cs:List Value}{sz:Nat}{K:Value→Mem→Prop}{σ:Mem}(h:cs.length=sz) :
  jD sz [.agg cs.toArray] K σ=tq cs (fun id=>.pointer (some ⟨id,0,none⟩)) K σ:=by
 subst h
 have:cellsOf (.agg cs.toArray) cs.length=some cs:=by simp[cellsOf]
 simp only[jD,this]
def Ar.new(n:Nat):Ar:=⟨n,fun _=>0,fun _=>0,0,0,0,0,false⟩
structure Nm.fr(N:Nm)(σ:Mem):Prop where
 m:σ.get N.m=none
 w:σ.get N.w=none
 t:σ.get N.t=none
theorem Gq{a b:Value}{K:Value→Prop}(ha:cellsOf a 1=some [a])(hb:cellsOf b 1=some [b]) :
  xF (aM [(0,1),(1,1),(2,1),(3,1),(4,3)] [.slice none 0 0,.slice none 0 0,.int .i64 0,.int .i64 0,.int .i64 0,.int .i64 0,.bool false] [0,1]) [a,b] K =
   K (.agg #[a,b,.int .i64 0,.int .i64 0,.int .i64 0,.int .i64 0,.bool false]):=by
 simp[xF,aM,jU,ha,hb,lay]
theorem Wh{n:Int}(h0:1≤n)(h1:n≤1048576)(hk:∀ N τ,N.ok→aZ N (.new n.toNat) τ→Ext σ τ→N.fr σ→K (.tuple #[N.p,.int .i64 0]) τ):Ed [.int .i64 n] K σ:=by
 simp only[Ed,PA,zQ,vD,aF]
 rw[ae (by omega),ae (by omega)]
 rw[zt (by omega) (by omega) (by decide)]
 intro w hw
 rw[zt (by omega) (by omega) (by decide)]
 intro t ht
 rw[Gq rfl rfl]
 refine(Jl (cs:=[_,_,_,_,_,_,_]) rfl).mpr ?_
 intro m hm
 simp only
 have Xv:w≠t:=by rintro rfl;simp at ht
 have hmt:m≠t:=by rintro rfl;simp at hm
 have ss:m≠w:=by
  rintro rfl
  rw[Mem.bZ _ _ Xv,Mem.bf]at hm;cases hm
 refine hk ⟨m,w,t⟩ _ ⟨ss,hmt,Xv⟩ ⟨?_,?_,?_⟩ ?_ ⟨?_,hw,?_⟩
 ·rw[Mem.bf];rfl
 ·rw[Mem.bZ _ _ ss.symm,Mem.bZ _ _ Xv,Mem.bf,xX];rfl
 ·rw[Mem.bZ _ _ hmt.symm,Mem.bf,xX];rfl
 ·exact((Ext.fresh hw).trans (Ext.fresh ht)).trans (Ext.fresh hm)
 ·rw[Mem.bZ _ _ hmt,Mem.bZ _ _ ss]at hm;exact hm
 ·rw[Mem.bZ _ _ Xv.symm]at ht;exact ht
def Nm.el(N:Nm)(c:Cf)(who:Int):List Value:=[.int .i64 c.T,.int .i64 c.S,.int .i64 c.C,.int .i64 c.W,.int .i64 c.G,.int .i64 c.P,.int .i64 c.R,N.p,.int .i64 who]
section
variable{c:Cf}{l:List Value}
theorem Dg:bO 7 [c.v] l=some c.l:=nr rfl
theorem GC:sub c.l 0 7 true=some c.v:=nr rfl
theorem Ms:sub c.l 0 1 false=some (.int .i64 c.T):=nr rfl
theorem FL:sub c.l 1 1 false=some (.int .i64 c.S):=nr rfl
theorem Mr:sub c.l 2 1 false=some (.int .i64 c.C):=nr rfl
theorem Mq:sub c.l 3 1 false=some (.int .i64 c.W):=nr rfl
theorem Mp:sub c.l 4 1 false=some (.int .i64 c.G):=nr rfl
theorem Mn:sub c.l 5 1 false=some (.int .i64 c.P):=nr rfl
theorem Mm:sub c.l 6 1 false=some (.int .i64 c.R):=nr rfl
theorem MX:bO 9 [N.env c who] l=some (N.el c who):=nr rfl
theorem TE:sub (N.el c who) 0 9 true=some (N.env c who):=nr rfl
theorem Md:sub (N.el c who) 0 7 true=some c.v:=nr rfl
theorem Ml:sub (N.el c who) 0 1 false=some (.int .i64 c.T):=nr rfl
theorem Mk:sub (N.el c who) 1 1 false=some (.int .i64 c.S):=nr rfl
theorem Mj:sub (N.el c who) 2 1 false=some (.int .i64 c.C):=nr rfl
theorem Mi:sub (N.el c who) 3 1 false=some (.int .i64 c.W):=nr rfl
theorem Mh:sub (N.el c who) 4 1 false=some (.int .i64 c.G):=nr rfl
theorem Mg:sub (N.el c who) 6 1 false=some (.int .i64 c.R):=nr rfl
theorem Mf:sub (N.el c who) 7 1 false=some N.p:=nr rfl
theorem Me:sub (N.el c who) 8 1 false=some (.int .i64 who):=nr rfl
end
section
variable{a o v d:Int}
@[simp] theorem ab':(A.by who).n=A.n:=rfl
@[simp] theorem W6:(A.by who).w=A.w:=rfl
@[simp] theorem ab9:(A.by who).t=A.t:=rfl
@[simp] theorem JW:(A.by who).s=A.s:=rfl
@[simp] theorem aas:(A.load a).n=A.n:=rfl
@[simp] theorem aar:(A.load a).w=A.w:=rfl
@[simp] theorem Rr:(A.load a).t=A.t:=rfl
@[simp] theorem ES:(A.load a).s=IntKind.i64.wrap (A.s+1):=rfl
@[simp] theorem KQ:(A.load a).la=a:=rfl
@[simp] theorem Xp:(A.load a).lc=false:=rfl
@[simp] theorem FM:(A.store a v).n=A.n:=rfl
@[simp] theorem fl:(A.store a v).w=aX A.w a v:=rfl
@[simp] theorem k9:(A.store a v).s=IntKind.i64.wrap (A.s+1):=rfl
@[simp] theorem TG:(A.store a v).la=a:=rfl
@[simp] theorem TF:(A.store a v).lc=decide (A.w a≠v):=rfl
theorem A3:(A.store a v).t=if A.w a≠v then aX A.t a (IntKind.i64.wrap (A.s+1))else A.t:=rfl
@[simp] theorem Wa:(A.dI a o v).n=A.n:=by unfold Ar.dI;split<;>rfl
theorem V':(A.dI a o v).w=if A.w a=o then aX A.w a v else A.w:=by unfold Ar.dI;split<;>rfl
@[simp] theorem ab0:(A.dI a o v).s=IntKind.i64.wrap (A.s+1):=by unfold Ar.dI;split<;>rfl
@[simp] theorem lG:(A.dI a o v).la=a:=by unfold Ar.dI;split<;>rfl
theorem gB(h:A.w a≠o):A.dI a o v=A.load a:=by unfold Ar.dI;rw[ae h];rfl
theorem cx(h:A.w a=o):A.dI a o v=A.store a v:=by unfold Ar.dI;rw[af h];rfl
theorem add_eq:A.add a d=A.store a (IntKind.u64.wrap (A.w a+d)):=rfl
end
structure Ar.ok(A:Ar)(b:Int):Prop where
 w:∀ i,0≤A.w i∧A.w i<18446744073709551616
 s:0≤A.s∧A.s≤b
 t:∀ i,0≤A.t i∧A.t i≤A.s
theorem Ar.ok.s1{b:Int}(h:A.ok b)(hb:b<9223372036854775807):IntKind.i64.wrap (A.s+1)=A.s+1:=IntWalk.i64_in _ (by have:=h.s;omega)
theorem Ar.ok.by{b:Int}(h:A.ok b):(A.by who).ok b:=⟨h.w,h.s,h.t⟩
theorem Ar.ok.load{b a:Int}(h:A.ok b)(hb:b<9223372036854775807):(A.load a).ok (b+1):=by
 refine⟨h.w,?_,fun i=>?_⟩
 ·rw[ES,h.s1 hb];have:=h.s;omega
 ·rw[ES,h.s1 hb,Rr];have:=h.t i;omega
theorem dm{f:Int→Int}{a v i:Int}{P:Int→Prop}(h1:P v)(h2:P (f i)):P (aX f a v i):=by unfold aX;split<;>assumption
theorem Ar.ok.store{b a v:Int}(h:A.ok b)(hb:b<9223372036854775807)(hv:0≤v∧v<18446744073709551616):(A.store a v).ok (b+1):=by
 refine⟨fun i=>dm (P:=fun x=>0≤x∧x<18446744073709551616) hv (h.w i),?_,fun i=>?_⟩
 ·rw[k9,h.s1 hb];have:=h.s;omega
 ·rw[k9,h.s1 hb,A3]
  have:=h.t i
  have:=h.s
  split
  ·rw[h.s1 hb];exact dm (P:=fun x=>0≤x∧x≤A.s+1) (by omega) (by omega)
  ·omega
theorem FE(n:Int):0≤IntKind.u64.wrap n∧IntKind.u64.wrap n<18446744073709551616:=by rw[IntKind.wrap_u64];omega
theorem Ar.ok.add{b a d:Int}(h:A.ok b)(hb:b<9223372036854775807):(A.add a d).ok (b+1):=h.store hb (FE _)
def Cf.fr(c:Cf)(i:Int)(a:Int):Int:=
 if c.slot 0≤a∧a<c.slot i then(if(a-c.slot 0) % 2=0 then aK 0 0 1 0 else bV ((a-c.slot 0) / 2+1) 0)else 0
def Cf.w0(c:Cf)(a:Int):Int:=if a=1 then bV 0 0 else if a=c.slot (c.S-1)+1 then bV (-1) 0 else c.fr c.S a
structure FrI(N:Nm)(C:Cf)(σ0:Mem)(i:Int)(A:Ar)(σ:Mem):Prop where
 i0:0≤i
 i1:i≤C.S
 n:A.n=C.len.toNat
 w:A.w=C.fr i
 s:A.s=2*i
 who:A.who=0
 ok:A.ok (2*i)
 aZ:aZ N A σ
 ext:Ext σ0 σ
 fr:N.fr σ0
theorem Ext.put{σ0:Mem}(h:Ext σ0 σ)(f:N.fr σ0):Ext σ0 (aD N A σ):=by
 intro i b hi
 rw[Bq (fun e=>by rw[e,f.m]at hi;cases hi) (fun e=>by rw[e,f.w]at hi;cases hi) (fun e=>by rw[e,f.t]at hi;cases hi)]
 exact h i b hi
theorem Ru:C.len=6+C.T+2*C.S+3*C.C+C.W*C.C:=rfl
theorem br(h:C.ok):C.chunk C.C+17≤C.len∧C.len≤200000:=by
 have hW:=h.W
 have hC:=h.C
 have hS:=h.S
 have hT:=h.T
 have h1:17*1≤C.W*C.C:=Int.mul_le_mul hW.1 hC.1 (by omega) (by omega)
 have h2:C.W*C.C≤256*64:=Int.mul_le_mul hW.2 hC.2 (by omega) (by omega)
 rw[Ru];unfold Cf.chunk
 omega
theorem Cj{K:Value→Prop}{g:Int}:xF (aM [(0,1),(1,1),(2,1),(3,1)] [.int .i64 0,.int .i64 0,.int .i64 0,.int .i64 0] [2]) [.int .i64 g] K=K (.agg #[.int .i64 0,.int .i64 0,.int .i64 g,.int .i64 0]):=nr rfl
theorem yT(hC:C.ok)(hN:N.ok){σ0:Mem}{J1 R1:List Value→List (List Value)→Mem→Prop}{i:Int}(h:FrI N C σ0 i A σ)
  (hj:i=C.S→J1 [N.p] [C.l] σ) (hr:i<C.S→∀ A' τ,FrI N C σ0 (i+1) A' τ→R1 [N.p,.int .i64 C.S,.int .i64 (i+1)] [C.l] τ) :
  eI K J1 R1 [N.p,.int .i64 C.S,.int .i64 i] [C.l] σ:=by
 have hS:=hC.S
 have hT:=hC.T
 have hl:=br hC
 simp only[eI,gf,aF,tr,oY,GC]
 by_cases hi:i<C.S
 ·simp only[hi,aF]
  have hn:C.slot i+1<A.n:=by rw[h.n];unfold Cf.slot;unfold Cf.chunk at hl;have:=hC.C;omega
  have qc:0≤C.slot i:=by unfold Cf.slot;have:=h.i0;omega
  have i0:=h.i0
  rw[dD hC h.i0 (by omega)]
  rw[Cj,jf,h.aZ.eq,oB hN qc (by omega),dD hC h.i0 (by omega)]
  simp only[Gr]
  rw[IntWalk.i64_in (i+1) (by omega),mm (by omega),IntWalk.i64_in (C.slot i+1) (by unfold Cf.slot;omega),oB hN (by omega) (by rw[FM];omega)]
  have Kf:=h.ok.store (a:=C.slot i) (by omega) (cV 0 0 1 0)
  have Uu:=Kf.store (a:=C.slot i+1) (by omega) (gG (i+1) 0)
  have s1:=h.ok.s1 (by omega)
  have s2:=Kf.s1 (by omega)
  refine hr hi ((A.store (C.slot i) (aK 0 0 1 0)).store (C.slot i+1) (bV (i+1) 0)) _ ⟨by omega,by omega,h.n,?_,?_,h.who,?_,mS hN,h.ext.put h.fr,h.fr⟩
  ·funext a
   rw[fl,fl,h.w]
   unfold aX Cf.fr Cf.slot
   have:=hC.C
   by_cases e1:a=6+C.T+2*i+1
   ·subst e1
    rw[af rfl,af (by omega),ae (by omega)]
    congr 1;omega
   ·rw[ae e1]
    by_cases e2:a=6+C.T+2*i
    ·subst e2
     rw[af rfl,af (by omega),af (by omega)]
    ·rw[ae e2]
     by_cases e3:6+C.T+2*0≤a∧a<6+C.T+2*i
     ·rw[af e3,af (show 6+C.T+2*0≤a∧a<6+C.T+2*(i+1) by omega)]
     ·rw[ae e3,ae (show ¬(6+C.T+2*0≤a∧a<6+C.T+2*(i+1)) by omega)]
  ·rw[k9,s2,k9,s1,h.s];omega
  ·rw[show 2*(i+1)=2*i+1+1 by omega];exact Uu
 ·rw[ae hi]
  exact hj (by have:=h.i1;omega)
structure DK(N:Nm)(C:Cf)(A:Ar):Prop where
 ok:A.ok (2*C.S+2)
 n:A.n=C.len.toNat
 w:A.w=C.w0
 s:A.s=2*C.S+2
 who:A.who=0
 la:A.la=1
theorem Ar.Rm{n:Nat}:(Ar.new n).ok (2*0):=⟨fun _=>⟨Int.le_refl 0,(by decide:(0:Int)<18446744073709551616)⟩,⟨Int.le_refl 0,Int.le_refl 0⟩,fun _=>⟨Int.le_refl 0,Int.le_refl 0⟩⟩
theorem LI(hC:C.ok)(hk:∀ N A τ,N.ok→DK N C A→aZ N A τ→Ext σ τ→N.fr σ→K (.tuple #[N.p,.int .i64 0]) τ):Eg [C.v] K σ:=by
 have hl:=br hC
 have hS:=hC.S
 have hT:=hC.T
 have iD:=hC.C
 have kW:C.chunk C.C=6+C.T+2*C.S+3*C.C:=rfl
 have lI:C.okB=true:=Cf.KM.2 hC
 simp only[Eg,PS,aF,tr,Dg,oY,GC,FL,LQ,lI,JK hC]
 refine Wh (by omega) (by omega) fun N τ hN hA hE hf=>?_
 simp only[aF]
 refine sE (fun k ts ls τ=>∃ i A,k=(C.S-i).toNat∧ts=[N.p,.int .i64 C.S,.int .i64 i]∧ls=[C.l]∧FrI N C σ i A τ) ?_ (n:=(C.S-0).toNat)
  ⟨0,_,rfl,rfl,rfl,⟨by omega,by omega,rfl,?_,rfl,rfl,Ar.Rm,hA,hE,hf⟩⟩
 ·rintro k ts ls τ ⟨i,A,rfl,rfl,rfl,h⟩
  refine yT hC hN h (fun e=>?_) fun hi A' τ' h'=>⟨_,by have:=h.i0;omega,i+1,A',rfl,rfl,rfl,h'⟩
  subst e
  simp only[zX,vK,aF,Int.reduceNeg,tr,oY,GC,FL]
  have n2:C.slot (C.S-1)+1<A.n:=by rw[h.n];unfold Cf.slot;omega
  have qc:0≤C.slot (C.S-1):=by unfold Cf.slot;omega
  rw[IntWalk.i64_in (C.S-1) (by omega),dD hC (by omega) (by omega)]
  simp only[Gr]
  rw[IntWalk.i64_in (C.slot (C.S-1)+1) (by unfold Cf.slot;omega),mm (by omega),h.aZ.eq,oB hN (by omega) n2,Fe,mm (by omega),oB hN (by omega) (by rw[FM];omega)]
  have Kf:=h.ok.store (a:=C.slot (C.S-1)+1) (by omega) (gG (-1) 0)
  have Uu:=Kf.store (a:=1) (by omega) (gG 0 0)
  have s1:=h.ok.s1 (by omega)
  have s2:=Kf.s1 (by omega)
  refine hk N ((A.store (C.slot (C.S-1)+1) (bV (-1) 0)).store 1 (bV 0 0)) _ hN ⟨by rw[show 2*C.S+2=2*C.S+1+1 by omega];exact Uu,h.n,?_,?_,h.who,rfl⟩ (mS hN) (h.ext.put h.fr) h.fr
  ·rw[fl,fl,h.w];rfl
  ·rw[k9,s2,k9,s1,h.s];omega
 ·funext a
  unfold Cf.fr
  rw[ae (by omega)];rfl
theorem Gi(hC:C.ok)(hG:C.G=100)(hP:C.P=600)(hR:C.R=3)(hk:∀ N A τ,N.ok→DK N C A→aZ N A τ→Ext σ τ→N.fr σ→K (.tuple #[N.env C 0,.bool true]) τ) :
  Bn [.int .i64 C.T,.int .i64 C.S,.int .i64 C.C,.int .i64 C.W] K σ:=by
 simp only[Bn,QE,aF]
 have b1:∀ K:Value→Prop,xF (aM [(0,1),(1,1),(2,1),(3,1),(4,1),(5,1),(6,1)] [.int .i64 0,.int .i64 0,.int .i64 0,.int .i64 0,.int .i64 0,.int .i64 0,.int .i64 0] [0,1,2,3,4,5,6])
   [.int .i64 C.T,.int .i64 C.S,.int .i64 C.C,.int .i64 C.W,.int .i64 100,.int .i64 600,.int .i64 3] K=K C.v:=by
  intro K;unfold Cf.v;rw[hG,hP,hR];exact nr rfl
 have b2:∀ K:List Value→Prop,xC (aH 7 [au 10,C.v] [.int .i64 0,.int .i64 0,.int .i64 0,.int .i64 0,.int .i64 0,.int .i64 0,.int .i64 0]) K=K C.l:=fun K=>nr rfl
 rw[b1,b2]
 simp only[tr,oY,GC,Ce]
 refine LI hC fun N A τ hN hF hA hE hf=>?_
 simp only[aF]
 exact hk N A τ hN hF hA hE hf
theorem bN:type_of% ((And.intro (And.intro (And.intro (And.intro @Nat.lt_irrefl @Nat.zero_lt_one) (And.intro @MX (And.intro @Dg @TE))) (And.intro (And.intro @Md (And.intro @Ml @Mk)) (And.intro @Mj (And.intro @Mi @Mh)))) (And.intro (And.intro (And.intro @Mg @Mf) (And.intro @Me (And.intro @GC @Ms))) (And.intro (And.intro @FL (And.intro @Mr @Mq)) (And.intro @Mp (And.intro @Mn @Mm)))))):=(And.intro (And.intro (And.intro (And.intro @Nat.lt_irrefl @Nat.zero_lt_one) (And.intro @MX (And.intro @Dg @TE))) (And.intro (And.intro @Md (And.intro @Ml @Mk)) (And.intro @Mj (And.intro @Mi @Mh)))) (And.intro (And.intro (And.intro @Mg @Mf) (And.intro @Me (And.intro @GC @Ms))) (And.intro (And.intro @FL (And.intro @Mr @Mq)) (And.intro @Mp (And.intro @Mn @Mm)))))
end Go.Fl
namespace Go.Fl
open Go
variable{N:Nm}{A B:Ar}{σ:Mem}{K:Value→Mem→Prop}{C:Cf}{who:Int}
theorem zg{p:Nat}(h:p∉N.l):p≠N.m∧p≠N.w∧p≠N.t:=by simpa[Nm.l]using h
theorem dv{p:Nat}(h:p∉N.l):(aD N A σ).get p=σ.get p:=Bq (zg h).1 (zg h).2.1 (zg h).2.2
theorem GV{p:Nat}{c:uc}(h:p∉N.l):(aD N A σ).set p c=aD N A (σ.set p c):=IJ (zg h).1 (zg h).2.1 (zg h).2.2
theorem aZ.obj{p:Nat}{c:uc}(h:aZ N A σ)(hp:σ.get p=some c):σ=aD N A (σ.set p c):=by rw[Mem.rJ hp];exact h.eq
section
variable{p o k sz:Nat}{pre L post:List Value}{ag:Bool}
theorem FK(hz:0<sz)(hk:k+sz≤L.length):sub (pre++L++post) (pre.length+k) sz ag=sub L k sz ag:=by
 have h1:pre.length+k+sz≤(pre++L++post).length:=by simp;omega
 simp only[sub,af h1,af hk]
 cases ag
 ·simp only[Bool.false_eq_true,if_false]
  rw[List.append_assoc,List.getElem?_append_right (by omega),Nat.add_sub_cancel_left,List.getElem?_append_left (by omega)]
 ·simp only[if_true]
  rw[List.append_assoc,List.drop_append,List.drop_of_length_le (by omega),List.nil_append,Nat.add_sub_cancel_left,List.drop_append_of_le_length (by omega),List.take_append_of_le_length (by simp;omega)]
theorem FV{vs:List Value}(hk:k+vs.length≤L.length):lay (pre++L++post) (pre.length+k) vs=pre++lay L k vs++post:=by
 have e:pre.length+k+vs.length=pre.length+(k+vs.length):=by omega
 simp only[lay,e]
 rw[List.append_assoc pre,List.take_append,List.take_of_length_le (by omega),Nat.add_sub_cancel_left,List.take_append_of_le_length (by omega),
  List.drop_append,List.drop_of_length_le (by omega),List.nil_append,Nat.add_sub_cancel_left,List.drop_append_of_le_length (by omega)]
 simp only[List.append_assoc]
theorem l7(hd:p∉N.l)(hz:0<sz)(hk:k+sz≤L.length):aj sz ag [.pointer (some ⟨p,pre.length+k,none⟩)] K (aD N A (σ.set p ⟨pre++L++post,true⟩)) =
  xO (sub L k sz ag) (fun v=>K v (aD N A (σ.set p ⟨pre++L++post,true⟩))):=by
 rw[cf ((dv hd).trans (Mem.bf _ _ _)),FK hz hk]
theorem Mt(hd:p∉N.l){x:Value}{c:List Value}(hc:cellsOf x sz=some c)(hl:c.length=sz)(hk:k+sz≤L.length)(ho:c.all dV=true) :
  ax sz [.pointer (some ⟨p,pre.length+k,none⟩),x] K (aD N A (σ.set p ⟨pre++L++post,true⟩))=K undef (aD N A (σ.set p ⟨pre++lay L k c++post,true⟩)):=by
 rw[d_ ((dv hd).trans (Mem.bf _ _ _)) hc (by simp;omega) ho,GV hd,Mem.set_set,FV (by omega)]
theorem jR(hd:p∉N.l){kd:IntKind}{n:Int}(hk:k+1≤L.length) :
  ax 1 [.pointer (some ⟨p,pre.length+k,none⟩),.int kd n] K (aD N A (σ.set p ⟨pre++L++post,true⟩))=K undef (aD N A (σ.set p ⟨pre++lay L k [.int kd n]++post,true⟩)):=Mt hd rfl rfl hk rfl
theorem CB(hd:p∉N.l){b:Bool}(hk:k+1≤L.length) :
  ax 1 [.pointer (some ⟨p,pre.length+k,none⟩),.bool b] K (aD N A (σ.set p ⟨pre++L++post,true⟩))=K undef (aD N A (σ.set p ⟨pre++lay L k [.bool b]++post,true⟩)):=Mt hd rfl rfl hk rfl
theorem stOp(hd:p∉N.l){b:Option Addr}(hk:k+1≤L.length) :
  ax 1 [.pointer (some ⟨p,pre.length+k,none⟩),.pointer b] K (aD N A (σ.set p ⟨pre++L++post,true⟩))=K undef (aD N A (σ.set p ⟨pre++lay L k [.pointer b]++post,true⟩)):=Mt hd rfl rfl hk rfl
theorem CC(hd:p∉N.l){c:List Value}(hl:c.length=sz)(hk:k+sz≤L.length)(ho:c.all dV=true) :
  ax sz [.pointer (some ⟨p,pre.length+k,none⟩),.agg c.toArray] K (aD N A (σ.set p ⟨pre++L++post,true⟩))=K undef (aD N A (σ.set p ⟨pre++lay L k c++post,true⟩)):=
 Mt hd (by subst hl;simp[cellsOf]) hl hk ho
theorem behind(hN:N.ok)(hd:p∉N.l){c:uc}{v:Value}(hk:∀ τ,aZ N A τ→τ.get p=some c→aQ (p::N.l) σ τ→K v τ):K v (aD N A (σ.set p c)):=by
 refine hk _ (mS hN) ((dv hd).trans (Mem.bf _ _ _)) fun i b hi hn=>?_
 simp only[List.mem_cons,not_or]at hn
 rw[dv hn.2,Mem.bZ _ _ hn.1]
 exact hi
end
structure Tk where
 pc:Int
 top:Int
 next:Int
 slot:Int
 ok:Bool
def Tk.l(t:Tk):List Value:=[.int .i64 t.pc,.int .u64 t.top,.int .i64 t.next,.int .i64 t.slot,.bool t.ok]
def Tk.new:Tk:=⟨0,0,0,0,false⟩
def Tk.step(C:Cf)(who:Int)(A:Ar)(t:Tk):Bool×Tk×Ar:=
 if t.pc=0 then(decide (dO (A.w 1)<0),⟨1,A.w 1,t.next,dO (A.w 1),t.ok⟩,(A.by who).load 1)
 else if t.pc=1 then(t.ok,⟨2,t.top,dO (A.w (C.slot t.slot+1)),t.slot,t.ok⟩,(A.by who).load (C.slot t.slot+1))
 else(decide (A.w 1=t.top),⟨0,t.top,t.next,t.slot,decide (A.w 1=t.top)⟩,(A.by who).dI 1 t.top (bV t.next (lx t.top+1)))
theorem Dq(hN:N.ok)(hC:C.ok)(hA:aZ N A σ){p:Nat}{pre post:List Value}{t:Tk}(hp:σ.get p=some ⟨pre++t.l++post,true⟩)(hd:p∉N.l)
  (hw:∀ i,0≤A.w i∧A.w i<18446744073709551616) (hn:C.len≤A.n) (h0:0≤t.top∧t.top<18446744073709551616) (h1:t.pc=1→0≤t.slot∧t.slot<C.S) (h2:0≤t.next+1)
  (hk:∀ τ,aZ N (t.step C who A).2.2 τ→τ.get p=some ⟨pre++(t.step C who A).2.1.l++post,true⟩→aQ (p::N.l) σ τ→K (.bool (t.step C who A).1) τ) :
  Ef [.pointer (some ⟨p,pre.length,none⟩),N.env C who] K σ:=by
 rw[hA.obj hp]
 have hl:=br hC
 have hT:=hC.T
 have hS:=hC.S
 have iD:=hC.C
 have kW:C.chunk C.C=6+C.T+2*C.S+3*C.C:=rfl
 simp only[Ef,PK,zV,vI,Tk.l,l7 hd,Fe,aF,bc,bN,Nat.reduceAdd,Nat.reduceLeDiff]
 by_cases c0:t.pc=0
 ·rw[af c0,cg hN (by omega) (by omega)]
  simp only[jR hd,l7 hd,aF,bc,bN,Nat.reduceAdd,Nat.reduceLeDiff]
  rw[Gd (hw 1).1 (hw 1).2]
  simp only[jR hd,l7 hd,aF,bc,bN,Nat.reduceAdd,Nat.reduceLeDiff]
  simp only[Tk.step,af c0]at hk
  exact behind hN hd hk
 ·by_cases c1:t.pc=1
  ·have:=h1 c1
   have ha:0≤C.slot t.slot+1∧C.slot t.slot+1<A.n:=by unfold Cf.slot;unfold Cf.chunk at hl;have:=hC.C;omega
   rw[ae c0,af c1,dD hC (by omega) (by omega)]
   simp only[Gr]
   rw[IntWalk.i64_in (C.slot t.slot+1) (by unfold Cf.slot;omega),cg hN ha.1 ha.2,Gd (hw _).1 (hw _).2]
   simp only[jR hd,l7 hd,aF,bc,bN,Nat.reduceAdd,Nat.reduceLeDiff]
   simp only[Tk.step,ae c0,af c1]at hk
   exact behind hN hd hk
  ·rw[ae c0,ae c1,Gd h0.1 h0.2]
   simp only[jR hd,l7 hd,aF,bc,bN,Nat.reduceAdd,Nat.reduceLeDiff]
   have hN2:0≤lx t.top∧lx t.top<68719476736:=by unfold lx;omega
   rw[IntWalk.i64_in (lx t.top+1) (by omega),mm (by omega),jE hN (by omega) (by omega)]
   simp only[CB hd,l7 hd,aF,bc,bN,Nat.reduceAdd]
   simp only[Tk.step,ae c0,ae c1]at hk
   exact behind hN hd hk
theorem Ds(hA:aZ N A σ){p:Nat}{pre post:List Value}{t:Tk}(hp:σ.get p=some ⟨pre++t.l++post,true⟩)(hd:p∉N.l)
  (hk:K (.tuple #[.int .i64 (if t.ok=true then t.slot else 0),.bool t.ok]) σ):D_ [.pointer (some ⟨p,pre.length,none⟩)] K σ:=by
 have e:=hA.obj hp
 generalize hq:σ=υ at *
 rw[e]at hk ⊢
 simp only[D_,Pd,zL,vr,Tk.l,l7 hd,aF,bc,bN,Nat.reduceAdd,Nat.reduceLeDiff]at hk ⊢
 cases h:t.ok<;>simp only[h,Gp,aF]at hk ⊢<;>exact hk
structure Gv where
 pc:Int
 slot:Int
 top:Int
def Gv.l(g:Gv):List Value:=[.int .i64 g.pc,.int .i64 g.slot,.int .u64 g.top]
def Gv.step(C:Cf)(who:Int)(A:Ar)(g:Gv):Bool×Gv×Ar:=
 if g.pc=0 then(false,⟨1,g.slot,A.w 1⟩,(A.by who).load 1)
 else if g.pc=1 then(false,⟨2,g.slot,g.top⟩,(A.by who).store (C.slot g.slot+1) (bV (dO g.top) 0))
 else(decide (A.w 1=g.top),⟨0,g.slot,g.top⟩,(A.by who).dI 1 g.top (bV g.slot (lx g.top+1)))
theorem tY(hN:N.ok)(hC:C.ok)(hA:aZ N A σ){p:Nat}{pre post:List Value}{t:Gv}(hp:σ.get p=some ⟨pre++t.l++post,true⟩)(hd:p∉N.l)
  (hw:∀ i,0≤A.w i∧A.w i<18446744073709551616) (hn:C.len≤A.n) (h0:0≤t.top∧t.top<18446744073709551616) (h1:0≤t.slot∧t.slot<C.S)
  (hk:∀ τ,aZ N (t.step C who A).2.2 τ→τ.get p=some ⟨pre++(t.step C who A).2.1.l++post,true⟩→aQ (p::N.l) σ τ→K (.bool (t.step C who A).1) τ) :
  Ba [.pointer (some ⟨p,pre.length,none⟩),N.env C who] K σ:=by
 rw[hA.obj hp]
 have hl:=br hC
 have hT:=hC.T
 have hS:=hC.S
 have iD:=hC.C
 have kW:C.chunk C.C=6+C.T+2*C.S+3*C.C:=rfl
 simp only[Ba,Pf,zM,vt,Gv.l,l7 hd,Fe,aF,bc,bN,Nat.reduceAdd]
 rw[Gd h0.1 h0.2]
 simp only[l7 hd,aF,bc,bN,Nat.reduceAdd,Nat.reduceLeDiff]
 by_cases c0:t.pc=0
 ·rw[af c0,cg hN (by omega) (by omega)]
  simp only[jR hd,aF,bc,Nat.reduceAdd,Nat.reduceLeDiff]
  simp only[Gv.step,af c0]at hk
  exact behind hN hd hk
 ·by_cases c1:t.pc=1
  ·have ha:0≤C.slot t.slot+1∧C.slot t.slot+1<A.n:=by unfold Cf.slot;omega
   have hN1 : -1≤dO t.top:=by unfold dO;omega
   rw[ae c0,af c1,dD hC (by omega) (by omega)]
   simp only[Gr]
   rw[IntWalk.i64_in (C.slot t.slot+1) (by unfold Cf.slot;omega),mm (by omega),dG hN ha.1 ha.2]
   simp only[jR hd,aF,bc,Nat.reduceAdd,Nat.reduceLeDiff]
   simp only[Gv.step,ae c0,af c1]at hk
   exact behind hN hd hk
  ·rw[ae c0,ae c1]
   simp only[jR hd,l7 hd,aF,bc,bN,Nat.reduceAdd,Nat.reduceLeDiff]
   have hN2:0≤lx t.top∧lx t.top<68719476736:=by unfold lx;omega
   rw[IntWalk.i64_in (lx t.top+1) (by omega),mm (by omega),jE hN (by omega) (by omega)]
   simp only[Gv.step,ae c0,ae c1]at hk
   exact behind hN hd hk
theorem gA{cs:List Value}{sz:Nat}{K:Value→Mem→Prop}{σ:Mem}(h:cs.length=sz)(hk:∀ id τ,σ.get id=none→τ.get id=some ⟨cs,true⟩→Ext σ τ→K (.pointer (some ⟨id,0,none⟩)) τ) :
  jD sz [.agg cs.toArray] K σ:=by
 rw[Jl h]
 exact fun id dQ=>hk id _ dQ (Mem.bf _ _ _) (Ext.fresh dQ)
theorem aZ.new(h:aZ N A σ){id:Nat}(dQ:σ.get id=none):id∉N.l:=by
 have:=h.fresh dQ
 simpa[Nm.l]using this
theorem zC{s:Int}(hk:∀ id τ,σ.get id=none→τ.get id=some ⟨(Gv.mk 0 s 0).l,true⟩→Ext σ τ→K (.pointer (some ⟨id,0,none⟩)) τ):xf [.int .i64 s] K σ:=by
 have b:∀ K:Value→Prop,xF (aM [(0,1),(1,1),(2,1)] [.int .i64 0,.int .i64 0,.int .u64 0] [1]) [.int .i64 s] K=K (.agg #[.int .i64 0,.int .i64 s,.int .u64 0]):=fun K=>nr rfl
 simp only[xf,Pe,b,aF]
 exact gA (cs:=[_,_,_]) rfl hk
theorem Rn{c:List Value}{v:Nat→Value}{K:Value→Mem→Prop}{σ:Mem}(h:∀ id τ,σ.get id=none→τ.get id=some ⟨c,true⟩→Ext σ τ→K (v id) τ):tq c v K σ:=
 fun id dQ=>h id _ dQ (Mem.bf _ _ _) (Ext.fresh dQ)
theorem tA{es len:Nat}{z:List Value}{idx:List Nat}{args:List Value}{K:Value→Mem→Prop}{σ:Mem}(c:List Value)(hc:jU (fun i=>some (i*es,es)) (List.replicate len z).flatten idx args=some c)
  (h:∀ id τ,σ.get id=none→τ.get id=some ⟨c,true⟩→Ext σ τ→K (.slice (some ⟨id,0,none⟩) len es) τ):fW es len z idx args K σ:=by
 simp only[fW,hc]
 exact Rn h
theorem uC{F:(List Value→List (List Value)→Mem→Prop)→List Value→List (List Value)→Mem→Prop}(enc:Int→List Value)(ls:List (List Value))(m:Int)(I:Int→Mem→Prop)
  (hr:∀ i σ,I i σ→∀ R:List Value→List (List Value)→Mem→Prop,(∀ τ,i<m→I (i+1) τ→R (enc (i+1)) ls τ)→F R (enc i) ls σ) {i:Int} {σ:Mem} (h0:I i σ):eY F (enc i) ls σ:=by
 refine sE (fun k ts l τ=>∃ i,k=(m-i).toNat∧ts=enc i∧l=ls∧I i τ) ?_ (n:=(m-i).toNat) ⟨i,rfl,rfl,rfl,h0⟩
 rintro k ts l τ ⟨i,rfl,rfl,rfl,h⟩
 exact hr i τ h _ fun υ hi h'=>⟨_,by omega,i+1,rfl,rfl,rfl,h'⟩
theorem jY{F:(List Value→List (List Value)→Mem→Prop)→List Value→List (List Value)→Mem→Prop}(I:Nat→List Value→List (List Value)→Mem→Prop)
  (hr:∀ n ts ls σ,I n ts ls σ→∀ R:List Value→List (List Value)→Mem→Prop,(∀ m Q0 Rq σ',m<n→I m Q0 Rq σ'→R Q0 Rq σ')→F R ts ls σ)
  {n:Nat} {ts:List Value} {ls:List (List Value)} {σ:Mem} (h0:I n ts ls σ):eY F ts ls σ:=
 sE I (fun n ts ls σ h=>hr n ts ls σ h _ fun m Q0 Rq σ' hm h'=>⟨m,hm,h'⟩) h0
theorem jr{k:IntKind}{n q:Nat}{g:Int→Int}{i:Int}{b:Bool}(h:σ.get q=some ⟨cells k n g,b⟩)(h0:0≤i)(h1:i<n) :
  aj 1 false [.pointer (some ⟨q,i.toNat*1,none⟩)] K σ=K (.int k (g i)) σ:=by
 have:=tD k g h0 h1
 rw[Nat.zero_add]at this
 rw[cf h,this,Ce]
theorem FO{k:IntKind}{n q:Nat}{g:Int→Int}{i v:Int}(h:σ.get q=some ⟨cells k n g,true⟩)(h0:0≤i)(h1:i<n) :
  ax 1 [.pointer (some ⟨q,i.toNat*1,none⟩),.int k v] K σ=K undef (σ.set q ⟨cells k n (aX g i v),true⟩):=by
 have:=tE k g v h0 h1
 rw[Nat.zero_add]at this
 rw[d_ h rfl (by simp;omega) rfl,this]
theorem H2{K:Value→Prop}{Q:fY}{k:Nat}{a:Int}(hk:k≤62):xF (aq .and Q) [.int .i64 a,.int .i64 (2 ^ k-1)] K=K (.int .i64 (a % 2 ^ k)):=by
 have e:((2:Int) ^ k-1)=((2 ^ k-1:Nat):Int):=by
  push_cast [Nat.one_le_two_pow]
  rfl
 have hp:0<2 ^ k:=Nat.two_pow_pos k
 have e2:((2 ^ k:Nat):Int)=2 ^ k:=by push_cast;rfl
 have hb:2 ^ k≤2 ^ 62:=Nat.pow_le_pow_right (by decide) hk
 have hd:(2 ^ k:Nat) ∣ 2 ^ 64:=Nat.pow_dvd_pow 2 (by omega)
 have q:((BitVec.ofInt 64 a &&& BitVec.ofInt 64 ((2 ^ k-1:Nat):Int)).toNat:Int)=a % 2 ^ k:=by
  rw[BitVec.toNat_and,BitVec.toNat_ofInt,BitVec.toNat_ofInt]
  have h4:(((2 ^ k-1:Nat):Int) % ((2 ^ 64:Nat):Int)).toNat=2 ^ k-1:=by omega
  rw[h4,Nat.and_two_pow_sub_one_eq_mod,Int.natCast_emod,Int.toNat_of_nonneg (by omega),Int.emod_emod_of_dvd a (Int.natCast_dvd_natCast.2 hd),e2]
 simp only[xF,aq,ka,mZ,Bool.false_eq_true,if_false,if_true]
 show K (.int .i64 (IntKind.i64.wrap ((BitVec.ofInt 64 a &&& BitVec.ofInt 64 (2 ^ k-1)).toNat:Int)))=_
 rw[e,q]
 have h1:0≤a % 2 ^ k:=by rw[←e2];exact Int.emod_nonneg _ (by omega)
 have h2:a % 2 ^ k<2 ^ k:=by rw[←e2];exact Int.emod_lt_of_pos _ (by omega)
 have h3:(2:Int) ^ k≤4611686018427387904:=by rw[←e2];omega
 rw[IntWalk.i64_in _ (by omega)]
theorem OZ{K:Value→Prop}{Q:fY}{a:Int}:xF (aq .and Q) [.int .i64 a,.int .i64 1] K=K (.int .i64 (a % 2)):=by simpa using H2 (K:=K) (Q:=Q) (k:=1) (a:=a) (by decide)
theorem Su{K:Value→Prop}{Q:fY}{a:Int}:xF (aq .and Q) [.int .i64 a,.int .i64 15] K=K (.int .i64 (a % 16)):=by simpa using H2 (K:=K) (Q:=Q) (k:=4) (a:=a) (by decide)
theorem F9{k:Nat}:aH 9 [.pointer (some ⟨k,0,some 0⟩),N.env C who] [.int .i64 0,.int .i64 0,.int .i64 0,.int .i64 0,.int .i64 0,.int .i64 0,.int .i64 0,.pointer none,.int .i64 0]=some (N.el C who):=nr rfl
theorem LC(hN:N.ok)(hA:aZ N A σ){a:Int}(h0:0≤a)(h1:a<A.n):CJ [N.p,.int .i64 a] K σ=K (.int .u64 (A.w a)) σ:=by
 have:=Lx (N:=N) (A:=A) (σ:=σ) (K:=K) hN h0 h1
 rwa [←hA.eq]at this
def cA(T S Ch W:Int):Cf:=⟨T,S,Ch,W,100,600,3⟩
theorem OW{T S Ch W:Int}(h1:1≤T∧T≤8)(h2:1≤S∧S≤65536)(h3:1≤Ch∧Ch≤64)(h4:17≤W∧W≤256):(cA T S Ch W).ok:=
 ⟨h1,h2,h3,h4,⟨by show(1:Int)≤100;decide,by show(100:Int)≤65535;decide⟩,⟨by show(0:Int)≤600;decide,by show(600:Int)≤1000;decide⟩,⟨by show(1:Int)≤3;decide,by show(3:Int)≤16;decide⟩⟩
theorem aQ.get{L:List Nat}{τ:Mem}{i:Nat}{b:uc}(k:aQ L σ τ)(h:σ.get i=some b)(hn:i∉L):τ.get i=some b:=k i b h hn
structure L1(A A':Ar)(k:Int)(w:Int→Int):Prop where
 n:A'.n=A.n
 w:A'.w=w
 s:A'.s=A.s+k
 t:∀ i,A'.t i=A.t i∨A.s<A'.t i∧A'.t i≤A'.s
theorem L1.ok{A':Ar}{k b:Int}{w:Int→Int}(h:L1 A A' k w)(hk:0≤k)(ho:A.ok b)(hw:∀ i,0≤w i∧w i<18446744073709551616):A'.ok (b+k):=by
 refine⟨fun i=>by rw[h.w];exact hw i,?_,fun i=>?_⟩
 ·have:=ho.s;have:=h.s;omega
 ·have:=ho.s;have:=h.s;have:=ho.t i
  rcases h.t i with e|e<;>omega
theorem L1.trans{A' A'':Ar}{k k':Int}{w w':Int→Int}(h:L1 A A' k w)(h':L1 A' A'' k' w')(hk:0≤k)(kV:0≤k'):L1 A A'' (k+k') w':=by
 refine⟨h'.n.trans h.n,h'.w,by rw[h'.s,h.s];omega,fun i=>?_⟩
 have:=h.s;have:=h'.s
 rcases h'.t i with e|e
 ·rw[e]
  rcases h.t i with e|e<;>omega
 ·omega
theorem cW{b a:Int}(h:A.ok b)(hb:b<9223372036854775807):L1 A ((A.by who).load a) 1 A.w:=
 ⟨rfl,rfl,by rw[ES,JW,h.s1 hb],fun i=>.inl rfl⟩
theorem dJ{b a v:Int}(h:A.ok b)(hb:b<9223372036854775807):L1 A ((A.by who).store a v) 1 (aX A.w a v):=by
 refine⟨rfl,rfl,by rw[k9,JW,h.s1 hb],fun i=>?_⟩
 rw[A3,JW,h.s1 hb,k9,JW,h.s1 hb]
 split
 ·unfold aX;split
  ·right;omega
  ·left;rfl
 ·left;rfl
theorem dy{b a o v:Int}(h:A.ok b)(hb:b<9223372036854775807):L1 A ((A.by who).dI a o v) 1 (if A.w a=o then aX A.w a v else A.w):=by
 by_cases hc:A.w a=o
 ·rw[af hc,cx (by exact hc)];exact dJ h hb
 ·rw[ae hc,gB (by exact hc)];exact cW h hb
end Go.Fl
namespace Go.Fl
open Go
variable{N:Nm}{A B:Ar}{σ:Mem}{K:Value→Mem→Prop}{C:Cf}{who:Int}
def DN(k:IntKind)(σ:Mem)(s:Value)(n:Nat)(g:Int→Int):Prop:=∃ a c,s=.slice a n c∧(0<n→∃ b rw,a=some ⟨b,0,none⟩∧σ.get b=some ⟨cells k n g,rw⟩)
theorem Sl.Sq{k:IntKind}{s:Value}{n:Nat}{cs:List Value}(h:Sl σ 1 n cs s)(hf:ct (List.replicate n [some k]).flatten cs):∃ g,DN k σ s n g∧∀ i,(Lit.int k (g i)).wf=true:=by
 obtain⟨g,rfl,hw⟩:=hf.ints
 refine⟨g,?_,hw⟩
 generalize hc:cells k n g=cs at h
 cases h with
 | nil=>exact⟨none,0,rfl,fun h=>absurd h (Nat.lt_irrefl 0)⟩
 | mk hl hg=>
  rename_i b
  refine⟨some ⟨b,0,none⟩,1,rfl,fun h=>?_⟩
  rcases hg with hg|⟨rw,hg⟩
  ·omega
  ·exact⟨b,rw,rfl,by rw[hg,hc]⟩
theorem DN.aL{kd:IntKind}{s:Value}{n:Nat}{g:Int→Int}{τ:Mem}(h:DN kd σ s n g)(k:Ext σ τ):DN kd τ s n g:=by
 obtain⟨a,c,rfl,h⟩:=h
 refine⟨a,c,rfl,fun hn=>?_⟩
 obtain⟨b,rw,e,h⟩:=h hn
 exact⟨b,rw,e,k _ _ h⟩
theorem DN.len{k:IntKind}{s:Value}{n:Nat}{g:Int→Int}(h:DN k σ s n g){K:Value→Prop}:xF jS [s] K=K (.int .i64 n):=by
 obtain⟨a,c,rfl,_⟩:=h;exact DW
theorem DN.ix{k':IntKind}{s:Value}{n:Nat}{g:Int→Int}(h:DN k' σ s n g){i:Int}(h0:0≤i)(h1:i<n){kd:IntKind} :
  (xF (dx 1) [s,.int kd i] fun v=>aj 1 false [v] K σ)=K (.int k' (g i)) σ:=by
 obtain⟨a,c,rfl,h⟩:=h
 obtain⟨b,rw,rfl,h'⟩:=h (by omega)
 rw[fx h0 h1]
 simp only[Nat.zero_add]
 exact jr h' h0 h1
theorem Ext.pA{σ0 τ:Mem}{L:List Nat}(h:Ext σ0 σ)(k:aQ L σ τ)(hL:∀ i∈L,σ0.get i=none):Ext σ0 τ:=by
 intro i b hi
 refine k i b (h i b hi) fun hm=>?_
 rw[hL i hm]at hi;cases hi
theorem Ext.none{τ:Mem}(h:Ext σ τ){i:Nat}(hi:τ.get i=none):σ.get i=none:=by
 cases e:σ.get i with
 | none=>rfl
 | some b=>rw[h i b e]at hi;cases hi
theorem Nm.fr.all(h:N.fr σ):∀ i∈N.l,σ.get i=none:=by
 intro i hi
 simp only[Nm.l,List.mem_cons,List.not_mem_nil,or_false]at hi
 rcases hi with rfl|rfl|rfl
 ·exact h.m
 ·exact h.w
 ·exact h.t
theorem ct.split:∀{ks ls:List (Option IntKind)} {cs:List Value},ct (ks++ls) cs→ct ks (cs.take ks.length)∧ct ls (cs.drop ks.length)
 | [],ls,cs,h=>⟨.nil,h⟩
 | k::ks,ls,cs,h=>by
  cases h with
  | cons h1 h2=>
   obtain⟨a,b⟩:=ct.split h2
   exact⟨.cons h1 a,b⟩
section
variable{b o:Nat}{pre L post:List Value}{rw:Bool}
theorem xL{W7 k n:Nat}{x:Value}(h:σ.get b=some ⟨pre++L,true⟩)(ho:pre.length=o)(hn:L.length=n)(hb:W7≤1024)(hx:dV x=true)(hl:n<1073741823)
  (hk:∀ id τ,σ.get id=none→τ.get id=some ⟨L++[x],true⟩→aQ [b] σ τ→K (.slice (some ⟨id,0,none⟩) (n+1) 1) τ):cv 1 W7 [x] [.slice (some ⟨b,o,none⟩) n 1,rR k 1 1] K σ:=by
 subst ho;subst hn
 simp only[cv,rR,app,h]
 rw[af ⟨hb,rfl,by simp[hx]⟩,af ⟨trivial,trivial,by decide,by simp,by omega⟩,List.drop_left]
 intro id dQ
 have jd:id≠b:=by rintro rfl;rw[h]at dQ;cases dQ
 refine hk id _ dQ (by simp[Mem.del,Mem.set,jd]) fun i c hi hn=>?_
 simp only[List.mem_cons,List.not_mem_nil,or_false]at hn
 have:i≠id:=by rintro rfl;rw[dQ]at hi;cases hi
 simp[Mem.del,Mem.set,hn,this,hi]
end
end Go.Fl
namespace Go.Fl
open Go
variable{N:Nm}{A B:Ar}{σ:Mem}{K:Value→Mem→Prop}{C:Cf}{who:Int}
def cF(w:Int):Int:=w % 8
def a8(w:Int):Int:=w / 8 % 1048576
def b9(w:Int):Int:=w / 8388608 % 65536
def cO(w:Int):Int:=w / 549755813888 % 4194304
theorem cX{w:Int}(h0:0≤w)(h1:w<18446744073709551616):fe [.int .u64 w] K σ=K (.agg #[.int .i64 (cF w),.int .i64 (a8 w),.int .i64 (b9 w),.int .i64 (cO w)]) σ:=by
 have b:∀(a b c d:Int) (K:Value→Prop),xF (aM [(0,1),(1,1),(2,1),(3,1)] [.int .i64 0,.int .i64 0,.int .i64 0,.int .i64 0] [0,1,2,3]) [.int .i64 a,.int .i64 b,.int .i64 c,.int .i64 d] K =
   K (.agg #[.int .i64 a,.int .i64 b,.int .i64 c,.int .i64 d]):=fun _ _ _ _ K=>nr rfl
 simp only[fe,O_,iv,H0,aF]
 rw[abW h0 h1]
 simp only[aF]
 rw[Ye h0,O3 (by omega) (by omega)]
 simp only[aF]
 rw[T2 h0,DE (by omega) (by omega)]
 simp only[aF]
 rw[TZ h0,O1 (by omega) (by omega)]
 simp only[aF]
 rw[IntWalk.i64_in (w % 8) (by omega),IntWalk.i64_in (w / 8 % 1048576) (by omega),IntWalk.i64_in (w / 8388608 % 65536) (by omega),IntWalk.i64_in (w / 549755813888 % 4194304) (by omega),b]
 simp only[aF,bc,KI,Nat.reduceAdd]
 rfl
theorem xd(w:Int):0≤a8 w∧a8 w≤1048575:=by unfold a8;omega
theorem Q7(w:Int):0≤b9 w∧b9 w≤65535:=by unfold b9;omega
theorem A9(w:Int):0≤cO w∧cO w≤4194303:=by unfold cO;omega
theorem fc{st ad ge ve:Int}(h1:0≤st∧st≤7)(h2:0≤ad∧ad≤1048575)(h3:0≤ge∧ge≤65535)(h4:0≤ve∧ve≤4194303) :
  cF (aK st ad ge ve)=st∧a8 (aK st ad ge ve)=ad∧b9 (aK st ad ge ve)=ge∧cO (aK st ad ge ve)=ve:=by
 have e:aK st ad ge ve=st+ad*8+ge*8388608+ve*549755813888:=by unfold aK;rw[fP h1.1 h1.2,fP h2.1 h2.2,fP h3.1 h3.2,fP h4.1 h4.2]
 rw[e];unfold cF a8 b9 cO;omega
def bI(b:Bool):Int:=if b=true then 1 else 0
def aW(k s t g:Int)(o:Bool):Int:=cl k 3+cl s 65535*4+cl t 65535*262144+cl g 65535*17179869184+bI o*1125899906842624
theorem OY(b:Bool):0≤bI b∧bI b≤1:=by cases b<;>decide
theorem kA(k s t g:Int)(o:Bool):0≤aW k s t g o∧aW k s t g o<18446744073709551616:=by have:=OY o;unfold aW cl;omega
def nF(w:Int):Int:=w % 4
def gH(w:Int):Int:=w / 4 % 65536
def tx(w:Int):Int:=w / 262144 % 65536
def E3(w:Int):Int:=w / 17179869184 % 65536
def sy(w:Int):Bool:=decide (w / 1125899906842624 % 2=1)
theorem je{k s t g:Int}{o:Bool}(h1:0≤k∧k≤3)(h2:0≤s∧s≤65535)(h3:0≤t∧t≤65535)(h4:0≤g∧g≤65535) :
  nF (aW k s t g o)=k∧gH (aW k s t g o)=s∧tx (aW k s t g o)=t∧E3 (aW k s t g o)=g∧sy (aW k s t g o)=o:=by
 have e:aW k s t g o=k+s*4+t*262144+g*17179869184+bI o*1125899906842624:=by unfold aW;rw[fP h1.1 h1.2,fP h2.1 h2.2,fP h3.1 h3.2,fP h4.1 h4.2]
 have hb:=OY o
 rw[e];unfold nF gH tx E3 sy
 refine⟨by omega,by omega,by omega,by omega,?_⟩
 have:(k+s*4+t*262144+g*17179869184+bI o*1125899906842624) / 1125899906842624 % 2=bI o:=by omega
 rw[this];cases o<;>rfl
theorem zB{k s t g:Int}{o:Bool}:Bf [.agg #[.int .i64 k,.int .i64 s,.int .i64 t,.int .i64 g,.bool o]] K σ=K (.int .u64 (aW k s t g o)) σ:=by
 simp only[Bf,PD,zS,vF,aF,bc,Nat.reduceAdd]
 have h1:=@gJ k 3
 have h2:=@gI k 3 (by decide)
 have h3:=@gJ s 65535
 have h4:=@gI s 65535 (by decide)
 have h5:=@gJ t 65535
 have h6:=@gI t 65535 (by decide)
 have h7:=@gJ g 65535
 have h8:=@gI g 65535 (by decide)
 rw[iN (by decide) (by decide),iN (by decide) (by decide),Ua h4 (by omega),or2 h2 (by omega) h4 (by omega),iN (by decide) (by decide),Ub h6 (by omega),aam (by omega) (by omega) h6 (by omega),
  iN (by decide) (by decide),T8 h8 (by omega),aaj (by omega) (by omega) h8 (by omega)]
 have o50:∀ K:Value→Prop,xF (aq .or .no) [.int .u64 (cl k 3+cl s 65535*4+cl t 65535*262144+cl g 65535*17179869184),.int .u64 1125899906842624] K=K (.int .u64 (cl k 3+cl s 65535*4+cl t 65535*262144+cl g 65535*17179869184+1*1125899906842624)):=
  fun K=>aag (c:=1) (by omega) (by omega) (by decide) (by omega)
 cases o
 ·simp only[Gp,aF]
  unfold aW bI;simp
 ·simp only[Gp,o50,aF]
  unfold aW bI;simp
theorem BU{w:Int}(h0:0≤w)(h1:w<18446744073709551616):xh [.int .u64 w] K σ=K (.agg #[.int .i64 (nF w),.int .i64 (gH w),.int .i64 (tx w),.int .i64 (E3 w),.bool (sy w)]) σ:=by
 have b:∀(a b c d:Int) (e:Bool) (K:Value→Prop),xF (aM [(0,1),(1,1),(2,1),(3,1),(4,1)] [.int .i64 0,.int .i64 0,.int .i64 0,.int .i64 0,.bool false] [0,1,2,3,4]) [.int .i64 a,.int .i64 b,.int .i64 c,.int .i64 d,.bool e] K =
   K (.agg #[.int .i64 a,.int .i64 b,.int .i64 c,.int .i64 d,.bool e]):=fun _ _ _ _ _ K=>nr rfl
 simp only[xh,PH,iv,H0,aF]
 rw[Xb h0 h1]
 simp only[aF]
 rw[T3 h0,DE (by omega) (by omega)]
 simp only[aF]
 rw[T4 h0,DE (by omega) (by omega)]
 simp only[aF]
 rw[T0 h0,DE (by omega) (by omega)]
 simp only[aF]
 rw[TX h0,abX (by omega) (by omega)]
 simp only[aF]
 rw[IntWalk.i64_in (w % 4) (by omega),IntWalk.i64_in (w / 4 % 65536) (by omega),IntWalk.i64_in (w / 262144 % 65536) (by omega),IntWalk.i64_in (w / 17179869184 % 65536) (by omega),b]
 simp only[aF,bc,KI,Nat.reduceAdd]
 rfl
def bC(s g:Int):Int:=cl s 65535+cl g 65535*65536
theorem Dt{s g:Int}:Ee [.agg #[.int .i64 s,.int .i64 g]] K σ=K (.int .u64 (bC s g)) σ:=by
 simp only[Ee,PE,aF,bc,Nat.reduceAdd]
 have h1:=@gJ s 65535
 have h2:=@gI s 65535 (by decide)
 have h3:=@gJ g 65535
 have h4:=@gI g 65535 (by decide)
 rw[iN (by decide) (by decide),iN (by decide) (by decide),Ud h4 (by omega),aao h2 (by omega) h4 (by omega)]
 rfl
theorem Hh{w:Int}(h0:0≤w)(h1:w<4294967296)(h2:65536≤w):uu [.int .u64 w] K σ=K (.tuple #[.agg #[.int .i64 (w % 65536),.int .i64 (w / 65536)],.bool true]) σ:=by
 have b:∀(a b:Int) (K:Value→Prop),xF (aM [(0,1),(1,1)] [.int .i64 0,.int .i64 0] [0,1]) [.int .i64 a,.int .i64 b] K=K (.agg #[.int .i64 a,.int .i64 b]):=fun _ _ K=>nr rfl
 simp only[uu,H4,qS,nL,iv,H0,aF]
 have e1:w / 4294967296=0:=by omega
 have e2:¬ w / 65536=0:=by omega
 rw[Iw h0,e1]
 simp only[aF]
 rw[Ix h0]
 simp only[e2,aF]
 rw[DE h0 (by omega)]
 simp only[aF]
 rw[Ix h0]
 simp only[aF]
 rw[IntWalk.i64_in (w % 65536) (by omega),IntWalk.i64_in (w / 65536) (by omega),b]
 simp only[aF,bc,KI,Nat.reduceAdd]
end Go.Fl
namespace Go.Fl
open Go
variable{N:Nm}{A B:Ar}{σ:Mem}{K:Value→Mem→Prop}{C:Cf}{who:Int}
def bF(w:Int):Int:=w % 4
def bL(w:Int):Int:=w / 4 % 64
def bD(w:Int):Int:=w / 256 % 1048576
def eM(w:Int):Int:=w / 268435456 % 68719476736
def aR(st c us sp:Int):Int:=cl st 3+cl c 63*4+cl us 1048575*256+cl sp 68719476735*268435456
theorem bS(st c us sp:Int):0≤aR st c us sp∧aR st c us sp<18446744073709551616:=by unfold aR cl;omega
theorem jg{st c us sp:Int}:oc [.agg #[.int .i64 st,.int .i64 c,.int .i64 us,.int .i64 sp]] K σ=K (.int .u64 (aR st c us sp)) σ:=by
 simp only[oc,PF,aF,bc,Nat.reduceAdd]
 have h1:=@gJ st 3
 have h2:=@gI st 3 (by decide)
 have h3:=@gJ c 63
 have h4:=@gI c 63 (by decide)
 have h5:=@gJ us 1048575
 have h6:=@gI us 1048575 (by decide)
 have h7:=@gJ sp 68719476735
 have h8:=@gI sp 68719476735 (by decide)
 rw[iN (by decide) (by decide),iN (by decide) (by decide),Ua h4 (by omega),or2 h2 (by omega) h4 (by omega),iN (by decide) (by decide),Yf h6 (by omega),or8 (by omega) (by omega) h6 (by omega),
  iN (by decide) (by decide),T9 h8 (by omega),aak (by omega) (by omega) h8 (by omega)]
 rfl
theorem cz{w:Int}(h0:0≤w)(h1:w<18446744073709551616):iJ [.int .u64 w] K σ=K (.agg #[.int .i64 (bF w),.int .i64 (bL w),.int .i64 (bD w),.int .i64 (eM w)]) σ:=by
 have b:∀(a b c d:Int) (K:Value→Prop),xF (aM [(0,1),(1,1),(2,1),(3,1)] [.int .i64 0,.int .i64 0,.int .i64 0,.int .i64 0] [0,1,2,3]) [.int .i64 a,.int .i64 b,.int .i64 c,.int .i64 d] K =
   K (.agg #[.int .i64 a,.int .i64 b,.int .i64 c,.int .i64 d]):=fun _ _ _ _ K=>nr rfl
 simp only[iJ,PI,iv,H0,aF]
 rw[Xb h0 h1]
 simp only[aF]
 rw[T3 h0,abV (by omega) (by omega)]
 simp only[aF]
 rw[Yd h0,O3 (by omega) (by omega)]
 simp only[aF]
 rw[T1 h0,O0 (by omega) (by omega)]
 simp only[aF]
 rw[IntWalk.i64_in (w % 4) (by omega),IntWalk.i64_in (w / 4 % 64) (by omega),IntWalk.i64_in (w / 256 % 1048576) (by omega),IntWalk.i64_in (w / 268435456 % 68719476736) (by omega),b]
 simp only[aF,bc,KI,Nat.reduceAdd]
 rfl
theorem Fb(w:Int):0≤bF w∧bF w≤3:=by unfold bF;omega
theorem xV(w:Int):0≤bL w∧bL w≤63:=by unfold bL;omega
theorem mW(w:Int):0≤bD w∧bD w≤1048575:=by unfold bD;omega
theorem jT(w:Int):0≤eM w∧eM w≤68719476735:=by unfold eM;omega
theorem lF{st c us sp:Int}(h1:0≤st∧st≤3)(h2:0≤c∧c≤63)(h3:0≤us∧us≤1048575)(h4:0≤sp∧sp≤68719476735) :
  bF (aR st c us sp)=st∧bL (aR st c us sp)=c∧bD (aR st c us sp)=us∧eM (aR st c us sp)=sp:=by
 have e:aR st c us sp=st+c*4+us*256+sp*268435456:=by unfold aR;rw[fP h1.1 h1.2,fP h2.1 h2.2,fP h3.1 h3.2,fP h4.1 h4.2]
 rw[e];unfold bF bL bD eM;omega
structure Pl where
 cls:Int
 pc:Int
 k_:Int
 at':Int
 w:Int
 sa:Int
 sc:Int
 ok:Bool
def Pl.l(p:Pl):List Value:=[.int .i64 p.cls,.int .i64 p.pc,.int .u64 p.k_,.int .i64 p.at',.int .u64 p.w,.int .i64 p.sa,.int .i64 p.sc,.bool p.ok]
def Pl.new(c:Int):Pl:=⟨c,0,0,0,0,0,0,false⟩
def Pl.fresh(p:Pl):Int:=aR 1 p.cls 0 (eM p.w+1)
def Pl.next(C:Cf)(p:Pl):Bool×Pl:=(decide (C.C≤p.at'+1),{ p with at':=p.at'+1,pc:=3 })
def Pl.step(C:Cf)(who:Int)(A:Ar)(p:Pl):Bool×Pl×Ar:=
 if p.pc=0 then
  let w:=A.w (2+p.cls)
  (false,(if IntKind.i64.wrap w-1<0 then{ p with k_:=w,at':=0,pc:=3 }else{ p with k_:=w,at':=IntKind.i64.wrap w-1,pc:=1 }),(A.by who).load (2+p.cls))
 else if p.pc=1 then
  let w:=A.w (C.chunk p.at')
  (false,(if bF w≠1∨bL w≠p.cls∨C.W<bD w+aA p.cls then{ p with w:=w,at':=0,pc:=3 }else{ p with w:=w,pc:=2 }),(A.by who).load (C.chunk p.at'))
 else if p.pc=2 then
  let bP:=A.w (C.chunk p.at')=p.w
  (decide bP,(if bP then{ p with pc:=0,sa:=C.base p.at'+bD p.w,sc:=p.at',ok:=true }else{ p with pc:=0 }),(A.by who).dI (C.chunk p.at') p.w (aR (bF p.w) (bL p.w) (bD p.w+aA p.cls) (eM p.w)))
 else if p.pc=3 then
  let w:=A.w (C.chunk p.at')
  let q:Pl:={ p with w:=w }
  if bF w≠0 then((q.next C).1,(q.next C).2,(A.by who).load (C.chunk p.at'))else(false,{ q with pc:=4 },(A.by who).load (C.chunk p.at'))
 else if p.pc=4 then
  if A.w (C.chunk p.at')=p.w then(false,{ p with pc:=5 },(A.by who).dI (C.chunk p.at') p.w p.fresh)else((p.next C).1,(p.next C).2,(A.by who).dI (C.chunk p.at') p.w p.fresh)
 else if p.pc=5 then
  (false,(if A.w (2+p.cls)=p.k_ then{ p with pc:=0 }else{ p with pc:=6 }),(A.by who).dI (2+p.cls) p.k_ (p.at'+1))
 else(false,{ p with pc:=0 },(A.by who).dI (C.chunk p.at') p.fresh (aR 0 0 0 (eM p.w+2)))
structure Pl.fit(C:Cf)(p:Pl):Prop where
 cls:0≤p.cls∧p.cls≤3
 k_:0≤p.k_∧p.k_<18446744073709551616
 at':0≤p.at'∧p.at'<C.C
 w:0≤p.w∧p.w<18446744073709551616
theorem x9{c:Int}(hk:∀ id τ,σ.get id=none→τ.get id=some ⟨(Pl.new c).l,true⟩→Ext σ τ→K (.pointer (some ⟨id,0,none⟩)) τ):yz [.int .i64 c] K σ:=by
 have b:∀ K:Value→Prop,xF (aM [(0,1),(1,1),(2,1),(3,1),(4,1),(5,2),(7,1)] [.int .i64 0,.int .i64 0,.int .u64 0,.int .i64 0,.int .u64 0,.int .i64 0,.int .i64 0,.bool false] [0]) [.int .i64 c] K =
   K (.agg #[.int .i64 c,.int .i64 0,.int .u64 0,.int .i64 0,.int .u64 0,.int .i64 0,.int .i64 0,.bool false]):=fun K=>nr rfl
 simp only[yz,Pr,b,aF]
 exact gA (cs:=[_,_,_,_,_,_,_,_]) rfl hk
theorem sj(hA:aZ N A σ){p:Nat}{pre post:List Value}{t:Pl}(hp:σ.get p=some ⟨pre++t.l++post,true⟩)(hd:p∉N.l)
  (hk:K (.tuple #[if t.ok=true then .agg #[.int .i64 t.sa,.int .i64 t.sc]else .agg #[.int .i64 0,.int .i64 0],.bool t.ok]) σ):Bd [.pointer (some ⟨p,pre.length,none⟩)] K σ:=by
 have b:∀ K:Value→Prop,xF (aM [(0,1),(1,1)] [.int .i64 0,.int .i64 0] []) [] K=K (.agg #[.int .i64 0,.int .i64 0]):=fun K=>nr rfl
 have e:=hA.obj hp
 generalize hq:σ=υ at *
 rw[e]at hk ⊢
 simp only[Bd,Pq,zP,vB,Pl.l,l7 hd,b,aF,bc,bN,Nat.reduceAdd,Nat.reduceLeDiff,Nat.reduceLT]at hk ⊢
 cases h:t.ok<;>simp only[h,Gp,aF,bc,Nat.reduceAdd,Nat.reduceLeDiff,Io]at hk ⊢<;>exact hk
theorem Gc{p:Nat}{pre post:List Value}{t:Pl}(hd:p∉N.l)(hw:0≤t.w∧t.w<18446744073709551616) :
  CG [.pointer (some ⟨p,pre.length,none⟩)] K (aD N A (σ.set p ⟨pre++t.l++post,true⟩))=K (.int .u64 t.fresh) (aD N A (σ.set p ⟨pre++t.l++post,true⟩)):=by
 have b:∀(a b c:Int) (K:Value→Prop),xF (aM [(0,1),(1,1),(2,1),(3,1)] [.int .i64 0,.int .i64 0,.int .i64 0,.int .i64 0] [0,1,3]) [.int .i64 a,.int .i64 b,.int .i64 c] K=K (.agg #[.int .i64 a,.int .i64 b,.int .i64 0,.int .i64 c]):=fun _ _ _ K=>nr rfl
 have hN:=jT t.w
 simp only[CG,Po,Pl.l,l7 hd,aF,bc,bN,Nat.reduceAdd,Nat.reduceLeDiff]
 rw[cz hw.1 hw.2]
 simp only[aF,bc]
 rw[IntWalk.i64_in (eM t.w+1) (by omega),b,jg]
 rfl
theorem We{p:Nat}{pre post:List Value}{t:Pl}(hd:p∉N.l)(ha:0≤t.at'∧t.at'<1000) :
  CF [.pointer (some ⟨p,pre.length,none⟩),N.env C who] K (aD N A (σ.set p ⟨pre++t.l++post,true⟩))=K (.bool (t.next C).1) (aD N A (σ.set p ⟨pre++(t.next C).2.l++post,true⟩)):=by
 simp only[CF,Pm,Pl.l,jR hd,l7 hd,aF,bc,bN,Nat.reduceAdd,Nat.reduceLeDiff]
 rw[IntWalk.i64_in (t.at'+1) (by omega)]
 rfl
end Go.Fl
namespace Go.Fl
open Go
variable{N:Nm}{A B:Ar}{σ:Mem}{K:Value→Mem→Prop}{C:Cf}{who:Int}
theorem bR{k:Int}(h0:0≤k)(h1:k≤3):3≤aA k∧aA k≤17:=by
 rcases(show k=0∨k=1∨k=2∨k=3 by omega)with rfl|rfl|rfl|rfl<;>decide
theorem xU(h:C.ok){a:Int}(h0:0≤a)(h1:a<C.C)(hn:C.len≤A.n):0≤C.chunk a∧C.chunk a<A.n:=by
 have:=br h;have:=h.T;have:=h.S;have:=h.C
 unfold Cf.chunk at *;omega
theorem LW(h:C.ok){a:Int}(h0:0≤a)(h1:a<65536):0≤C.base a∧C.base a≤1000000000:=by
 have:=h.T;have:=h.S;have:=h.C
 have:=EP h h0 (by omega)
 unfold Cf.base;omega
theorem uk{a b c d:Value}:sub [a,b,c,d] 0 4 true=some (.agg #[a,b,c,d]):=rfl
theorem si(hN:N.ok)(hC:C.ok)(hA:aZ N A σ){p:Nat}{pre post:List Value}{t:Pl}(hp:σ.get p=some ⟨pre++t.l++post,true⟩)(hd:p∉N.l)
  (hw:∀ i,0≤A.w i∧A.w i<18446744073709551616) (hn:C.len≤A.n) (hf:t.fit C) (ho:A.w (2+t.cls)≤C.C)
  (hk:∀ τ,aZ N (t.step C who A).2.2 τ→τ.get p=some ⟨pre++(t.step C who A).2.1.l++post,true⟩→aQ (p::N.l) σ τ→K (.bool (t.step C who A).1) τ) :
  Bc [.pointer (some ⟨p,pre.length,none⟩),N.env C who] K σ:=by
 rw[hA.obj hp]
 have hl:=br hC
 have hT:=hC.T
 have hS:=hC.S
 have iD:=hC.C
 have hW:=hC.W
 obtain⟨f1,f2,f3,f4⟩:=hf
 have kW:C.chunk C.C=6+C.T+2*C.S+3*C.C:=rfl
 have tz:=xU hC f3.1 f3.2 hn
 have hbb:=LW hC f3.1 (by omega)
 have hrb:=bR f1.1 f1.2
 have hwo:=hw (2+t.cls)
 have K3:=hw (C.chunk t.at')
 have GZ:IntKind.i64.wrap (A.w (2+t.cls))=A.w (2+t.cls):=IntWalk.i64_in _ (by omega)
 simp only[Bc,Pp,zO,vA,zN,vz,Pl.l,l7 hd,aF,bc,bN,Nat.reduceAdd,Nat.reduceLeDiff]
 by_cases c0:t.pc=0
 ·rw[af c0,Ff f1.1 (by omega),cg hN (by omega) (by omega)]
  simp only[jR hd,l7 hd,aF,bc,bN,Nat.reduceAdd,Nat.reduceLeDiff]
  rw[GZ,IntWalk.i64_in (A.w (2+t.cls)-1) (by omega)]
  simp only[Pl.step,af c0,GZ]at hk
  by_cases q:A.w (2+t.cls)-1<0
  ·rw[af q]at hk ⊢
   exact behind hN hd hk
  ·rw[ae q]at hk ⊢
   exact behind hN hd hk
 ·by_cases c1:t.pc=1
  ·rw[ae c0,af c1,cB hC f3.1 (by omega),cg hN tz.1 tz.2]
   simp only[jR hd,l7 hd,aF,bc,bN,Nat.reduceAdd,Nat.reduceLeDiff]
   rw[cz K3.1 K3.2]
   simp only[jR hd,l7 hd,aF,bc,bN,Nat.reduceAdd,Nat.reduceLeDiff]
   simp only[Pl.step,ae c0,af c1]at hk
   have hu:=mW (A.w (C.chunk t.at'))
   by_cases q1:bF (A.w (C.chunk t.at'))=1
   ·by_cases q2:bL (A.w (C.chunk t.at'))=t.cls
    ·simp only[q1,q2,aF]
     rw[mX f1.1 f1.2]
     simp only[aF]
     rw[IntWalk.i64_in (bD (A.w (C.chunk t.at'))+aA t.cls) (by omega)]
     by_cases q3:C.W<bD (A.w (C.chunk t.at'))+aA t.cls
     ·simp only[q3,jR hd,aF,bc,Nat.reduceAdd,Nat.reduceLeDiff]
      rw[af (.inr (.inr q3))]at hk
      exact behind hN hd hk
     ·simp only[q3,aF]
      rw[ae (by rintro(h|h|h)<;>contradiction)]at hk
      exact behind hN hd hk
    ·simp only[q1,q2,aF]
     rw[af (.inr (.inl q2))]at hk
     exact behind hN hd hk
   ·simp only[q1,aF]
    rw[af (.inl q1)]at hk
    exact behind hN hd hk
  ·by_cases c2:t.pc=2
   ·rw[ae c0,ae c1,af c2]
    simp only[Pl.step,ae c0,ae c1,af c2]at hk
    simp only[GJ,Pn,l7 hd,aF,bc,bN,Nat.reduceAdd,Nat.reduceLeDiff]
    rw[cz f4.1 f4.2]
    have hu:=mW t.w
    simp only[l7 hd,aF,bc,bN,Nat.reduceAdd,Nat.reduceLeDiff]
    rw[mX f1.1 f1.2]
    simp only[aF,bc,Nat.reduceAdd,Nat.reduceLeDiff]
    rw[IntWalk.i64_in (bD t.w+aA t.cls) (by omega)]
    simp only[jR hd,l7 hd,aF,bc,bN,Nat.reduceAdd,Nat.reduceLeDiff]
    rw[cB hC f3.1 (by omega)]
    simp only[l7 hd,uk,aF,bc,bN,Nat.reduceAdd,Nat.reduceLeDiff]
    rw[jg,jE hN tz.1 tz.2]
    by_cases q:A.w (C.chunk t.at')=t.w
    ·have b:∀(a c:Int) (K:Value→Prop),xF (aM [(0,1),(1,1)] [.int .i64 0,.int .i64 0] [0,1]) [.int .i64 a,.int .i64 c] K=K (.agg #[.int .i64 a,.int .i64 c]):=fun _ _ K=>nr rfl
     simp only[q,l7 hd,aF,bc,bN,Nat.reduceAdd,Nat.reduceLeDiff]
     rw[ya hC f3.1 (by omega)]
     simp only[l7 hd,aF,bc,bN,Nat.reduceAdd,Nat.reduceLeDiff]
     rw[IntWalk.i64_in (C.base t.at'+bD t.w) (by omega),b]
     simp only[CC hd,CB hd,q,aF,bc,Nat.reduceAdd,Nat.reduceLeDiff]at hk ⊢
     exact behind hN hd hk
    ·simp only[q,aF]at hk ⊢
     exact behind hN hd hk
   ·by_cases c3:t.pc=3
    ·rw[ae c0,ae c1,ae c2,af c3,cB hC f3.1 (by omega),cg hN tz.1 tz.2]
     simp only[Pl.step,ae c0,ae c1,ae c2,af c3]at hk
     simp only[jR hd,l7 hd,aF,bc,bN,Nat.reduceAdd,Nat.reduceLeDiff]
     rw[cz K3.1 K3.2]
     simp only[jR hd,aF,bc,Nat.reduceAdd,Nat.reduceLeDiff]
     by_cases q:bF (A.w (C.chunk t.at'))=0
     ·simp only[q,aF]
      rw[ae (fun h=>h q)]at hk
      exact behind hN hd hk
     ·simp only[q,aF]
      rw[af q]at hk
      exact Eq.mpr (We (K:=K) (t:=⟨t.cls,t.pc,t.k_,t.at',A.w (C.chunk t.at'),t.sa,t.sc,t.ok⟩) hd ⟨f3.1,by dsimp only;omega⟩) (behind hN hd hk)
    ·by_cases c4:t.pc=4
     ·rw[ae c0,ae c1,ae c2,ae c3,af c4,cB hC f3.1 (by omega)]
      simp only[Pl.step,ae c0,ae c1,ae c2,ae c3,af c4]at hk
      simp only[l7 hd,aF,bc,bN,Nat.reduceAdd,Nat.reduceLeDiff]
      refine Eq.mpr (Gc (t:=t) hd f4) ?_
      rw[jE hN tz.1 tz.2]
      by_cases q:A.w (C.chunk t.at')=t.w
      ·simp only[q,jR hd,Pl.l,aF,bc,Nat.reduceAdd,Nat.reduceLeDiff]at hk ⊢
       exact behind hN hd hk
      ·simp only[q,aF]at hk ⊢
       exact Eq.mpr (We (K:=K) (t:=t) hd ⟨f3.1,by omega⟩) (behind hN hd hk)
     ·by_cases c5:t.pc=5
      ·rw[ae c0,ae c1,ae c2,ae c3,ae c4,af c5]
       simp only[Pl.step,ae c0,ae c1,ae c2,ae c3,ae c4,af c5]at hk
       simp only[jR hd,l7 hd,aF,bc,bN,Nat.reduceAdd,Nat.reduceLeDiff]
       rw[Ff f1.1 (by omega)]
       simp only[l7 hd,aF,bc,bN,Nat.reduceAdd,Nat.reduceLeDiff]
       rw[IntWalk.i64_in (t.at'+1) (by omega),show IntKind.u64.wrap (t.at'+1)=t.at'+1 from IntWalk.u64_in _ (by omega),jE hN (by omega) (by omega)]
       by_cases q:A.w (2+t.cls)=t.k_
       ·simp only[q,jR hd,aF,bc,Nat.reduceAdd,Nat.reduceLeDiff]at hk ⊢
        exact behind hN hd hk
       ·simp only[q,aF]at hk ⊢
        exact behind hN hd hk
      ·rw[ae c0,ae c1,ae c2,ae c3,ae c4,ae c5,cz f4.1 f4.2]
       simp only[Pl.step,ae c0,ae c1,ae c2,ae c3,ae c4,ae c5]at hk
       have hN:=jT t.w
       have b:∀(a:Int) (K:Value→Prop),xF (aM [(0,1),(1,1),(2,1),(3,1)] [.int .i64 0,.int .i64 0,.int .i64 0,.int .i64 0] [3]) [.int .i64 a] K=K (.agg #[.int .i64 0,.int .i64 0,.int .i64 0,.int .i64 a]):=fun _ K=>nr rfl
       simp only[aF,bc]
       rw[IntWalk.i64_in (eM t.w+2) (by omega),b,jg]
       simp only[l7 hd,aF,bc,bN,Nat.reduceAdd,Nat.reduceLeDiff]
       rw[cB hC f3.1 (by omega)]
       refine Eq.mpr (Gc (t:=t) hd f4) ?_
       rw[jE ‹N.ok› tz.1 tz.2]
       simp only[jR hd,Pl.l,aF,bc,Nat.reduceAdd,Nat.reduceLeDiff]at hk ⊢
       exact behind ‹N.ok› hd hk
end Go.Fl
