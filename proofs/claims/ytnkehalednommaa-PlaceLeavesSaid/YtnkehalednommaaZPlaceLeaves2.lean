/- What the claim leans on, part 2: own readings of the program's functions, what they come to, laws of them. No condition. -/
import Derived.Test.YtnkehalednommaaZPlaceLeaves1
namespace Go.Fl
open Go
noncomputable def zz (m : XM) (r : Run) (d : Option Nat) (a : List Operand) : XO XN := ⟨none, d, a, ⟨m, r⟩⟩
noncomputable def zS (a : List Operand) : XO XN := ⟨none, none, a, ⟨.store 1, rStore1⟩⟩
noncomputable def zy (l : List (Nat × Nat)) (m : XM) (d : Nat) (a : List Operand) : XO XN := ⟨none, some d, a, ⟨m, rAny l m⟩⟩
noncomputable def zY (l : List (Nat × Nat)) (m : XM) (a : List Operand) : XO XN := ⟨none, none, a, ⟨m, rAny l m⟩⟩
noncomputable def zk (c : Cls) (s : Spec) (v : EvF) (d : Nat) (a : List Operand) : XO XN := ⟨none, some d, a, ⟨.call c s v, rCall v⟩⟩
noncomputable def zM (d s : Nat) : XO XN := ⟨none, some d, [.tmp s], ⟨.f fMove, rMove⟩⟩
noncomputable def zc (d : Nat) (v : Value) : XO XN := ⟨none, some d, [.const v], ⟨.f fMove, rMove⟩⟩
noncomputable def zF (k d s : Nat) : XO XN := ⟨none, some d, [.tmp s], ⟨.f (fFld k), rFld k⟩⟩
noncomputable def zN (d s : Nat) : XO XN := ⟨none, some d, [.tmp s], ⟨.f fNil, rNil⟩⟩
noncomputable def zr (k d s : Nat) : XO XN := ⟨none, some d, [.tmp s], ⟨.lr k 1 false, rLr1 k⟩⟩
noncomputable def zb (b : BinOp) (r : Run) (d : Nat) (a : List Operand) : XO XN := ⟨none, some d, a, ⟨.f (fBin b .no), r⟩⟩
noncomputable def zL (d s : Nat) : XO XN := ⟨none, some d, [.tmp s], ⟨.load 1 false, rLoad1⟩⟩
open Go Go.Proofs
set_option linter.unusedVariables false
set_option maxRecDepth 10000000
theorem mixedOk : Try.prog.follows .mixedOrders = true := by kernel_rfl
def bodyOf (fn : Func) : Code :=
  match fn.body with
  | some c => c
  | none => .skip
def w_ag_j3b (K : Value → Mem → Prop) (v3 v4 v5 : Value) (σ : Mem) : Prop :=xF fMove [v3] fun v70 =>xF fMove [v70] fun v71 =>xIf v71
 (xF fMove [v4] fun v72 =>xF fPick [.bool true, v72, .bool false] fun v73 =>xF fMove [v73] fun v74 =>xIf v74
 (xF fMove [v5] fun v75 =>xF fPick [.bool true, v75, .bool false] fun v76 =>xF fMove [v76] fun v2 =>K v2 σ)
 (xF fPick [.bool false, undef, .bool false] fun v76 =>xF fMove [v76] fun v2 =>K v2 σ))
 (xF fPick [.bool false, undef, .bool false] fun v73 =>xF fMove [v73] fun v74 =>xIf v74
 (xF fMove [v5] fun v75 =>xF fPick [.bool true, v75, .bool false] fun v76 =>xF fMove [v76] fun v2 =>K v2 σ)
 (xF fPick [.bool false, undef, .bool false] fun v76 =>xF fMove [v76] fun v2 =>K v2 σ))
def w_ag_j3 (K : Value → Mem → Prop) (ts : List Value) (ls : List (List Value)) (σ : Mem) : Prop := w_ag_j3b K (ts.getD 0 poison) (ts.getD 1 poison) (ts.getD 2 poison) σ
def w_ag_j2b (K : Value → Mem → Prop) (v3 v4 : Value) (c1 : List Value) (σ : Mem) : Prop :=xJoin (w_ag_j3 K) fun J3 =>xF (fFld 4) [(locP 1)] fun v42 =>xO (gLoad 1 false [v42] c1) fun v43 =>xF (fBin .geq .no) [v43, .int .i64 1] fun v44 =>xF fMove [v44] fun v45 =>xIf v45
 (xF (fFld 4) [(locP 1)] fun v46 =>xO (gLoad 1 false [v46] c1) fun v47 =>xF (fBin .leq .no) [v47, .int .i64 65535] fun v48 =>xF fPick [.bool true, v48, .bool false] fun v49 =>xF fMove [v49] fun v50 =>xIf v50
 (xF (fFld 5) [(locP 1)] fun v51 =>xO (gLoad 1 false [v51] c1) fun v52 =>xF (fBin .geq .no) [v52, .int .i64 0] fun v53 =>xF fPick [.bool true, v53, .bool false] fun v54 =>xF fMove [v54] fun v55 =>xIf v55
 (xF (fFld 5) [(locP 1)] fun v56 =>xO (gLoad 1 false [v56] c1) fun v57 =>xF (fBin .leq .no) [v57, .int .i64 1000] fun v58 =>xF fPick [.bool true, v58, .bool false] fun v59 =>xF fMove [v59] fun v60 =>xIf v60
 (xF (fFld 6) [(locP 1)] fun v61 =>xO (gLoad 1 false [v61] c1) fun v62 =>xF (fBin .geq .no) [v62, .int .i64 1] fun v63 =>xF fPick [.bool true, v63, .bool false] fun v64 =>xF fMove [v64] fun v65 =>xIf v65
 (xF (fFld 6) [(locP 1)] fun v66 =>xO (gLoad 1 false [v66] c1) fun v67 =>xF (fBin .leq .no) [v67, .int .i64 16] fun v68 =>xF fPick [.bool true, v68, .bool false] fun v69 =>xF fMove [v69] fun v5 =>J3 [v3, v4, v5] [] σ)
 (xF fPick [.bool false, undef, .bool false] fun v69 =>xF fMove [v69] fun v5 =>J3 [v3, v4, v5] [] σ))
 (xF fPick [.bool false, undef, .bool false] fun v64 =>xF fMove [v64] fun v65 =>xIf v65
 (xF (fFld 6) [(locP 1)] fun v66 =>xO (gLoad 1 false [v66] c1) fun v67 =>xF (fBin .leq .no) [v67, .int .i64 16] fun v68 =>xF fPick [.bool true, v68, .bool false] fun v69 =>xF fMove [v69] fun v5 =>J3 [v3, v4, v5] [] σ)
 (xF fPick [.bool false, undef, .bool false] fun v69 =>xF fMove [v69] fun v5 =>J3 [v3, v4, v5] [] σ)))
 (xF fPick [.bool false, undef, .bool false] fun v59 =>xF fMove [v59] fun v60 =>xIf v60
 (xF (fFld 6) [(locP 1)] fun v61 =>xO (gLoad 1 false [v61] c1) fun v62 =>xF (fBin .geq .no) [v62, .int .i64 1] fun v63 =>xF fPick [.bool true, v63, .bool false] fun v64 =>xF fMove [v64] fun v65 =>xIf v65
 (xF (fFld 6) [(locP 1)] fun v66 =>xO (gLoad 1 false [v66] c1) fun v67 =>xF (fBin .leq .no) [v67, .int .i64 16] fun v68 =>xF fPick [.bool true, v68, .bool false] fun v69 =>xF fMove [v69] fun v5 =>J3 [v3, v4, v5] [] σ)
 (xF fPick [.bool false, undef, .bool false] fun v69 =>xF fMove [v69] fun v5 =>J3 [v3, v4, v5] [] σ))
 (xF fPick [.bool false, undef, .bool false] fun v64 =>xF fMove [v64] fun v65 =>xIf v65
 (xF (fFld 6) [(locP 1)] fun v66 =>xO (gLoad 1 false [v66] c1) fun v67 =>xF (fBin .leq .no) [v67, .int .i64 16] fun v68 =>xF fPick [.bool true, v68, .bool false] fun v69 =>xF fMove [v69] fun v5 =>J3 [v3, v4, v5] [] σ)
 (xF fPick [.bool false, undef, .bool false] fun v69 =>xF fMove [v69] fun v5 =>J3 [v3, v4, v5] [] σ))))
 (xF fPick [.bool false, undef, .bool false] fun v54 =>xF fMove [v54] fun v55 =>xIf v55
 (xF (fFld 5) [(locP 1)] fun v56 =>xO (gLoad 1 false [v56] c1) fun v57 =>xF (fBin .leq .no) [v57, .int .i64 1000] fun v58 =>xF fPick [.bool true, v58, .bool false] fun v59 =>xF fMove [v59] fun v60 =>xIf v60
 (xF (fFld 6) [(locP 1)] fun v61 =>xO (gLoad 1 false [v61] c1) fun v62 =>xF (fBin .geq .no) [v62, .int .i64 1] fun v63 =>xF fPick [.bool true, v63, .bool false] fun v64 =>xF fMove [v64] fun v65 =>xIf v65
 (xF (fFld 6) [(locP 1)] fun v66 =>xO (gLoad 1 false [v66] c1) fun v67 =>xF (fBin .leq .no) [v67, .int .i64 16] fun v68 =>xF fPick [.bool true, v68, .bool false] fun v69 =>xF fMove [v69] fun v5 =>J3 [v3, v4, v5] [] σ)
 (xF fPick [.bool false, undef, .bool false] fun v69 =>xF fMove [v69] fun v5 =>J3 [v3, v4, v5] [] σ))
 (xF fPick [.bool false, undef, .bool false] fun v64 =>xF fMove [v64] fun v65 =>xIf v65
 (xF (fFld 6) [(locP 1)] fun v66 =>xO (gLoad 1 false [v66] c1) fun v67 =>xF (fBin .leq .no) [v67, .int .i64 16] fun v68 =>xF fPick [.bool true, v68, .bool false] fun v69 =>xF fMove [v69] fun v5 =>J3 [v3, v4, v5] [] σ)
 (xF fPick [.bool false, undef, .bool false] fun v69 =>xF fMove [v69] fun v5 =>J3 [v3, v4, v5] [] σ)))
 (xF fPick [.bool false, undef, .bool false] fun v59 =>xF fMove [v59] fun v60 =>xIf v60
 (xF (fFld 6) [(locP 1)] fun v61 =>xO (gLoad 1 false [v61] c1) fun v62 =>xF (fBin .geq .no) [v62, .int .i64 1] fun v63 =>xF fPick [.bool true, v63, .bool false] fun v64 =>xF fMove [v64] fun v65 =>xIf v65
 (xF (fFld 6) [(locP 1)] fun v66 =>xO (gLoad 1 false [v66] c1) fun v67 =>xF (fBin .leq .no) [v67, .int .i64 16] fun v68 =>xF fPick [.bool true, v68, .bool false] fun v69 =>xF fMove [v69] fun v5 =>J3 [v3, v4, v5] [] σ)
 (xF fPick [.bool false, undef, .bool false] fun v69 =>xF fMove [v69] fun v5 =>J3 [v3, v4, v5] [] σ))
 (xF fPick [.bool false, undef, .bool false] fun v64 =>xF fMove [v64] fun v65 =>xIf v65
 (xF (fFld 6) [(locP 1)] fun v66 =>xO (gLoad 1 false [v66] c1) fun v67 =>xF (fBin .leq .no) [v67, .int .i64 16] fun v68 =>xF fPick [.bool true, v68, .bool false] fun v69 =>xF fMove [v69] fun v5 =>J3 [v3, v4, v5] [] σ)
 (xF fPick [.bool false, undef, .bool false] fun v69 =>xF fMove [v69] fun v5 =>J3 [v3, v4, v5] [] σ)))))
 (xF fPick [.bool false, undef, .bool false] fun v49 =>xF fMove [v49] fun v50 =>xIf v50
 (xF (fFld 5) [(locP 1)] fun v51 =>xO (gLoad 1 false [v51] c1) fun v52 =>xF (fBin .geq .no) [v52, .int .i64 0] fun v53 =>xF fPick [.bool true, v53, .bool false] fun v54 =>xF fMove [v54] fun v55 =>xIf v55
 (xF (fFld 5) [(locP 1)] fun v56 =>xO (gLoad 1 false [v56] c1) fun v57 =>xF (fBin .leq .no) [v57, .int .i64 1000] fun v58 =>xF fPick [.bool true, v58, .bool false] fun v59 =>xF fMove [v59] fun v60 =>xIf v60
 (xF (fFld 6) [(locP 1)] fun v61 =>xO (gLoad 1 false [v61] c1) fun v62 =>xF (fBin .geq .no) [v62, .int .i64 1] fun v63 =>xF fPick [.bool true, v63, .bool false] fun v64 =>xF fMove [v64] fun v65 =>xIf v65
 (xF (fFld 6) [(locP 1)] fun v66 =>xO (gLoad 1 false [v66] c1) fun v67 =>xF (fBin .leq .no) [v67, .int .i64 16] fun v68 =>xF fPick [.bool true, v68, .bool false] fun v69 =>xF fMove [v69] fun v5 =>J3 [v3, v4, v5] [] σ)
 (xF fPick [.bool false, undef, .bool false] fun v69 =>xF fMove [v69] fun v5 =>J3 [v3, v4, v5] [] σ))
 (xF fPick [.bool false, undef, .bool false] fun v64 =>xF fMove [v64] fun v65 =>xIf v65
 (xF (fFld 6) [(locP 1)] fun v66 =>xO (gLoad 1 false [v66] c1) fun v67 =>xF (fBin .leq .no) [v67, .int .i64 16] fun v68 =>xF fPick [.bool true, v68, .bool false] fun v69 =>xF fMove [v69] fun v5 =>J3 [v3, v4, v5] [] σ)
 (xF fPick [.bool false, undef, .bool false] fun v69 =>xF fMove [v69] fun v5 =>J3 [v3, v4, v5] [] σ)))
 (xF fPick [.bool false, undef, .bool false] fun v59 =>xF fMove [v59] fun v60 =>xIf v60
 (xF (fFld 6) [(locP 1)] fun v61 =>xO (gLoad 1 false [v61] c1) fun v62 =>xF (fBin .geq .no) [v62, .int .i64 1] fun v63 =>xF fPick [.bool true, v63, .bool false] fun v64 =>xF fMove [v64] fun v65 =>xIf v65
 (xF (fFld 6) [(locP 1)] fun v66 =>xO (gLoad 1 false [v66] c1) fun v67 =>xF (fBin .leq .no) [v67, .int .i64 16] fun v68 =>xF fPick [.bool true, v68, .bool false] fun v69 =>xF fMove [v69] fun v5 =>J3 [v3, v4, v5] [] σ)
 (xF fPick [.bool false, undef, .bool false] fun v69 =>xF fMove [v69] fun v5 =>J3 [v3, v4, v5] [] σ))
 (xF fPick [.bool false, undef, .bool false] fun v64 =>xF fMove [v64] fun v65 =>xIf v65
 (xF (fFld 6) [(locP 1)] fun v66 =>xO (gLoad 1 false [v66] c1) fun v67 =>xF (fBin .leq .no) [v67, .int .i64 16] fun v68 =>xF fPick [.bool true, v68, .bool false] fun v69 =>xF fMove [v69] fun v5 =>J3 [v3, v4, v5] [] σ)
 (xF fPick [.bool false, undef, .bool false] fun v69 =>xF fMove [v69] fun v5 =>J3 [v3, v4, v5] [] σ))))
 (xF fPick [.bool false, undef, .bool false] fun v54 =>xF fMove [v54] fun v55 =>xIf v55
 (xF (fFld 5) [(locP 1)] fun v56 =>xO (gLoad 1 false [v56] c1) fun v57 =>xF (fBin .leq .no) [v57, .int .i64 1000] fun v58 =>xF fPick [.bool true, v58, .bool false] fun v59 =>xF fMove [v59] fun v60 =>xIf v60
 (xF (fFld 6) [(locP 1)] fun v61 =>xO (gLoad 1 false [v61] c1) fun v62 =>xF (fBin .geq .no) [v62, .int .i64 1] fun v63 =>xF fPick [.bool true, v63, .bool false] fun v64 =>xF fMove [v64] fun v65 =>xIf v65
 (xF (fFld 6) [(locP 1)] fun v66 =>xO (gLoad 1 false [v66] c1) fun v67 =>xF (fBin .leq .no) [v67, .int .i64 16] fun v68 =>xF fPick [.bool true, v68, .bool false] fun v69 =>xF fMove [v69] fun v5 =>J3 [v3, v4, v5] [] σ)
 (xF fPick [.bool false, undef, .bool false] fun v69 =>xF fMove [v69] fun v5 =>J3 [v3, v4, v5] [] σ))
 (xF fPick [.bool false, undef, .bool false] fun v64 =>xF fMove [v64] fun v65 =>xIf v65
 (xF (fFld 6) [(locP 1)] fun v66 =>xO (gLoad 1 false [v66] c1) fun v67 =>xF (fBin .leq .no) [v67, .int .i64 16] fun v68 =>xF fPick [.bool true, v68, .bool false] fun v69 =>xF fMove [v69] fun v5 =>J3 [v3, v4, v5] [] σ)
 (xF fPick [.bool false, undef, .bool false] fun v69 =>xF fMove [v69] fun v5 =>J3 [v3, v4, v5] [] σ)))
 (xF fPick [.bool false, undef, .bool false] fun v59 =>xF fMove [v59] fun v60 =>xIf v60
 (xF (fFld 6) [(locP 1)] fun v61 =>xO (gLoad 1 false [v61] c1) fun v62 =>xF (fBin .geq .no) [v62, .int .i64 1] fun v63 =>xF fPick [.bool true, v63, .bool false] fun v64 =>xF fMove [v64] fun v65 =>xIf v65
 (xF (fFld 6) [(locP 1)] fun v66 =>xO (gLoad 1 false [v66] c1) fun v67 =>xF (fBin .leq .no) [v67, .int .i64 16] fun v68 =>xF fPick [.bool true, v68, .bool false] fun v69 =>xF fMove [v69] fun v5 =>J3 [v3, v4, v5] [] σ)
 (xF fPick [.bool false, undef, .bool false] fun v69 =>xF fMove [v69] fun v5 =>J3 [v3, v4, v5] [] σ))
 (xF fPick [.bool false, undef, .bool false] fun v64 =>xF fMove [v64] fun v65 =>xIf v65
 (xF (fFld 6) [(locP 1)] fun v66 =>xO (gLoad 1 false [v66] c1) fun v67 =>xF (fBin .leq .no) [v67, .int .i64 16] fun v68 =>xF fPick [.bool true, v68, .bool false] fun v69 =>xF fMove [v69] fun v5 =>J3 [v3, v4, v5] [] σ)
 (xF fPick [.bool false, undef, .bool false] fun v69 =>xF fMove [v69] fun v5 =>J3 [v3, v4, v5] [] σ)))))
def w_ag_j2 (K : Value → Mem → Prop) (ts : List Value) (ls : List (List Value)) (σ : Mem) : Prop := w_ag_j2b K (ts.getD 0 poison) (ts.getD 1 poison) (ls.getD 0 []) σ
def w_ag_j1b (K : Value → Mem → Prop) (v3 : Value) (c1 : List Value) (σ : Mem) : Prop :=xJoin (w_ag_j2 K) fun J2 =>xF (fFld 2) [(locP 1)] fun v24 =>xO (gLoad 1 false [v24] c1) fun v25 =>xF (fBin .geq .no) [v25, .int .i64 1] fun v26 =>xF fMove [v26] fun v27 =>xIf v27
 (xF (fFld 2) [(locP 1)] fun v28 =>xO (gLoad 1 false [v28] c1) fun v29 =>xF (fBin .leq .no) [v29, .int .i64 64] fun v30 =>xF fPick [.bool true, v30, .bool false] fun v31 =>xF fMove [v31] fun v32 =>xIf v32
 (xF (fFld 3) [(locP 1)] fun v33 =>xO (gLoad 1 false [v33] c1) fun v34 =>xF (fBin .geq .no) [v34, .int .i64 17] fun v35 =>xF fPick [.bool true, v35, .bool false] fun v36 =>xF fMove [v36] fun v37 =>xIf v37
 (xF (fFld 3) [(locP 1)] fun v38 =>xO (gLoad 1 false [v38] c1) fun v39 =>xF (fBin .leq .no) [v39, .int .i64 256] fun v40 =>xF fPick [.bool true, v40, .bool false] fun v41 =>xF fMove [v41] fun v4 =>J2 [v3, v4] [c1] σ)
 (xF fPick [.bool false, undef, .bool false] fun v41 =>xF fMove [v41] fun v4 =>J2 [v3, v4] [c1] σ))
 (xF fPick [.bool false, undef, .bool false] fun v36 =>xF fMove [v36] fun v37 =>xIf v37
 (xF (fFld 3) [(locP 1)] fun v38 =>xO (gLoad 1 false [v38] c1) fun v39 =>xF (fBin .leq .no) [v39, .int .i64 256] fun v40 =>xF fPick [.bool true, v40, .bool false] fun v41 =>xF fMove [v41] fun v4 =>J2 [v3, v4] [c1] σ)
 (xF fPick [.bool false, undef, .bool false] fun v41 =>xF fMove [v41] fun v4 =>J2 [v3, v4] [c1] σ)))
 (xF fPick [.bool false, undef, .bool false] fun v31 =>xF fMove [v31] fun v32 =>xIf v32
 (xF (fFld 3) [(locP 1)] fun v33 =>xO (gLoad 1 false [v33] c1) fun v34 =>xF (fBin .geq .no) [v34, .int .i64 17] fun v35 =>xF fPick [.bool true, v35, .bool false] fun v36 =>xF fMove [v36] fun v37 =>xIf v37
 (xF (fFld 3) [(locP 1)] fun v38 =>xO (gLoad 1 false [v38] c1) fun v39 =>xF (fBin .leq .no) [v39, .int .i64 256] fun v40 =>xF fPick [.bool true, v40, .bool false] fun v41 =>xF fMove [v41] fun v4 =>J2 [v3, v4] [c1] σ)
 (xF fPick [.bool false, undef, .bool false] fun v41 =>xF fMove [v41] fun v4 =>J2 [v3, v4] [c1] σ))
 (xF fPick [.bool false, undef, .bool false] fun v36 =>xF fMove [v36] fun v37 =>xIf v37
 (xF (fFld 3) [(locP 1)] fun v38 =>xO (gLoad 1 false [v38] c1) fun v39 =>xF (fBin .leq .no) [v39, .int .i64 256] fun v40 =>xF fPick [.bool true, v40, .bool false] fun v41 =>xF fMove [v41] fun v4 =>J2 [v3, v4] [c1] σ)
 (xF fPick [.bool false, undef, .bool false] fun v41 =>xF fMove [v41] fun v4 =>J2 [v3, v4] [c1] σ)))
def w_ag_j1 (K : Value → Mem → Prop) (ts : List Value) (ls : List (List Value)) (σ : Mem) : Prop := w_ag_j1b K (ts.getD 0 poison) (ls.getD 0 []) σ
def w_ag (a0 : Value) (K : Value → Mem → Prop) (σ : Mem) : Prop :=xC (gBox 7 [a0] []) fun c1 =>xF fMove [.bool false] fun v2 =>xJoin (w_ag_j1 K) fun J1 =>xF (fFld 0) [(locP 1)] fun v6 =>xO (gLoad 1 false [v6] c1) fun v7 =>xF (fBin .geq .no) [v7, .int .i64 1] fun v8 =>xF fMove [v8] fun v9 =>xIf v9
 (xF (fFld 0) [(locP 1)] fun v10 =>xO (gLoad 1 false [v10] c1) fun v11 =>xF (fBin .leq .no) [v11, .int .i64 8] fun v12 =>xF fPick [.bool true, v12, .bool false] fun v13 =>xF fMove [v13] fun v14 =>xIf v14
 (xF (fFld 1) [(locP 1)] fun v15 =>xO (gLoad 1 false [v15] c1) fun v16 =>xF (fBin .geq .no) [v16, .int .i64 1] fun v17 =>xF fPick [.bool true, v17, .bool false] fun v18 =>xF fMove [v18] fun v19 =>xIf v19
 (xF (fFld 1) [(locP 1)] fun v20 =>xO (gLoad 1 false [v20] c1) fun v21 =>xF (fBin .leq .no) [v21, .int .i64 65536] fun v22 =>xF fPick [.bool true, v22, .bool false] fun v23 =>xF fMove [v23] fun v3 =>J1 [v3] [c1] σ)
 (xF fPick [.bool false, undef, .bool false] fun v23 =>xF fMove [v23] fun v3 =>J1 [v3] [c1] σ))
 (xF fPick [.bool false, undef, .bool false] fun v18 =>xF fMove [v18] fun v19 =>xIf v19
 (xF (fFld 1) [(locP 1)] fun v20 =>xO (gLoad 1 false [v20] c1) fun v21 =>xF (fBin .leq .no) [v21, .int .i64 65536] fun v22 =>xF fPick [.bool true, v22, .bool false] fun v23 =>xF fMove [v23] fun v3 =>J1 [v3] [c1] σ)
 (xF fPick [.bool false, undef, .bool false] fun v23 =>xF fMove [v23] fun v3 =>J1 [v3] [c1] σ)))
 (xF fPick [.bool false, undef, .bool false] fun v13 =>xF fMove [v13] fun v14 =>xIf v14
 (xF (fFld 1) [(locP 1)] fun v15 =>xO (gLoad 1 false [v15] c1) fun v16 =>xF (fBin .geq .no) [v16, .int .i64 1] fun v17 =>xF fPick [.bool true, v17, .bool false] fun v18 =>xF fMove [v18] fun v19 =>xIf v19
 (xF (fFld 1) [(locP 1)] fun v20 =>xO (gLoad 1 false [v20] c1) fun v21 =>xF (fBin .leq .no) [v21, .int .i64 65536] fun v22 =>xF fPick [.bool true, v22, .bool false] fun v23 =>xF fMove [v23] fun v3 =>J1 [v3] [c1] σ)
 (xF fPick [.bool false, undef, .bool false] fun v23 =>xF fMove [v23] fun v3 =>J1 [v3] [c1] σ))
 (xF fPick [.bool false, undef, .bool false] fun v18 =>xF fMove [v18] fun v19 =>xIf v19
 (xF (fFld 1) [(locP 1)] fun v20 =>xO (gLoad 1 false [v20] c1) fun v21 =>xF (fBin .leq .no) [v21, .int .i64 65536] fun v22 =>xF fPick [.bool true, v22, .bool false] fun v23 =>xF fMove [v23] fun v3 =>J1 [v3] [c1] σ)
 (xF fPick [.bool false, undef, .bool false] fun v23 =>xF fMove [v23] fun v3 =>J1 [v3] [c1] σ)))
def s_ag : Spec := fun args K σ => match args with
  | [a0] => w_ag a0 K σ
  | _ => False
noncomputable def cx_ag : Cx := { P := Try.prog, T := [], loc := [(1, 1), (6, 1), (10, 1), (15, 1), (20, 1), (24, 1), (28, 1), (33, 1), (38, 1), (42, 1), (46, 1), (51, 1), (56, 1), (61, 1), (66, 1)], eqt := [], n := 77, keep := [(1000003, [3], [1]), (1000004, [3, 4], [1]), (1000005, [3, 4, 5], [])] }
theorem q_ag : FnS cx_ag Try.f57 (bodyOf Try.f57) 1 = s_ag := by
  funext args K σ
  rcases args with _ | ⟨a0, _ | ⟨b, r⟩⟩ <;> kernel_rfl
theorem e_ag : Entry Try.prog 57 .none s_ag :=
  entry (C := cx_ag) TOk.nil mixedOk Try.func57 (by kernel_rfl) (by kernel_rfl) (by kernel_rfl) q_ag
def xl_ag : List (Nat × Nat) := [(1, 1), (6, 1), (10, 1), (15, 1), (20, 1), (24, 1), (28, 1), (33, 1), (38, 1), (42, 1), (46, 1), (51, 1), (56, 1), (61, 1), (66, 1)]
noncomputable def xc_ag : XC XN :=
(.seq none
 (.reg [zy xl_ag (.lb 1 7) 1 [.tmp 0],
  zc 2 (.bool false)])
 (.seq (some ([3], [1]))
 (.reg [zF 0 6 1,
  zr 1 7 6,
  zb .geq rGeq 8 [.tmp 7, .const (.int .i64 1)],
  zM 9 8,
  ⟨(some (4, 3, true, some 9)), some 10, [.tmp 1], ⟨.f (fFld 0), rFld 0⟩⟩,
  ⟨(some (5, 3, true, some 9)), some 11, [.tmp 10], ⟨.lr 1 1 false, rLr1 1⟩⟩,
  ⟨(some (6, 3, true, some 9)), some 12, [.tmp 11, (.const (.int .i64 8))], ⟨.f (fBin .leq .no), rLeq⟩⟩,
  zz (.f fPick) rPick (some 13) [.tmp 9, .tmp 12, .const (.bool false)],
  zM 14 13,
  ⟨(some (9, 8, true, some 14)), some 15, [.tmp 1], ⟨.f (fFld 1), rFld 1⟩⟩,
  ⟨(some (10, 8, true, some 14)), some 16, [.tmp 15], ⟨.lr 1 1 false, rLr1 1⟩⟩,
  ⟨(some (11, 8, true, some 14)), some 17, [.tmp 16, (.const (.int .i64 1))], ⟨.f (fBin .geq .no), rGeq⟩⟩,
  zz (.f fPick) rPick (some 18) [.tmp 14, .tmp 17, .const (.bool false)],
  zM 19 18,
  ⟨(some (14, 13, true, some 19)), some 20, [.tmp 1], ⟨.f (fFld 1), rFld 1⟩⟩,
  ⟨(some (15, 13, true, some 19)), some 21, [.tmp 20], ⟨.lr 1 1 false, rLr1 1⟩⟩,
  ⟨(some (16, 13, true, some 19)), some 22, [.tmp 21, (.const (.int .i64 65536))], ⟨.f (fBin .leq .no), rLeq⟩⟩,
  zz (.f fPick) rPick (some 23) [.tmp 19, .tmp 22, .const (.bool false)],
  zM 3 23])
 (.seq (some ([3, 4], [1]))
 (.reg [zF 2 24 1,
  zr 1 25 24,
  zb .geq rGeq 26 [.tmp 25, .const (.int .i64 1)],
  zM 27 26,
  ⟨(some (4, 3, true, some 27)), some 28, [.tmp 1], ⟨.f (fFld 2), rFld 2⟩⟩,
  ⟨(some (5, 3, true, some 27)), some 29, [.tmp 28], ⟨.lr 1 1 false, rLr1 1⟩⟩,
  ⟨(some (6, 3, true, some 27)), some 30, [.tmp 29, (.const (.int .i64 64))], ⟨.f (fBin .leq .no), rLeq⟩⟩,
  zz (.f fPick) rPick (some 31) [.tmp 27, .tmp 30, .const (.bool false)],
  zM 32 31,
  ⟨(some (9, 8, true, some 32)), some 33, [.tmp 1], ⟨.f (fFld 3), rFld 3⟩⟩,
  ⟨(some (10, 8, true, some 32)), some 34, [.tmp 33], ⟨.lr 1 1 false, rLr1 1⟩⟩,
  ⟨(some (11, 8, true, some 32)), some 35, [.tmp 34, (.const (.int .i64 17))], ⟨.f (fBin .geq .no), rGeq⟩⟩,
  zz (.f fPick) rPick (some 36) [.tmp 32, .tmp 35, .const (.bool false)],
  zM 37 36,
  ⟨(some (14, 13, true, some 37)), some 38, [.tmp 1], ⟨.f (fFld 3), rFld 3⟩⟩,
  ⟨(some (15, 13, true, some 37)), some 39, [.tmp 38], ⟨.lr 1 1 false, rLr1 1⟩⟩,
  ⟨(some (16, 13, true, some 37)), some 40, [.tmp 39, (.const (.int .i64 256))], ⟨.f (fBin .leq .no), rLeq⟩⟩,
  zz (.f fPick) rPick (some 41) [.tmp 37, .tmp 40, .const (.bool false)],
  zM 4 41])
 (.seq (some ([3, 4, 5], []))
 (.reg [zF 4 42 1,
  zr 1 43 42,
  zb .geq rGeq 44 [.tmp 43, .const (.int .i64 1)],
  zM 45 44,
  ⟨(some (4, 3, true, some 45)), some 46, [.tmp 1], ⟨.f (fFld 4), rFld 4⟩⟩,
  ⟨(some (5, 3, true, some 45)), some 47, [.tmp 46], ⟨.lr 1 1 false, rLr1 1⟩⟩,
  ⟨(some (6, 3, true, some 45)), some 48, [.tmp 47, (.const (.int .i64 65535))], ⟨.f (fBin .leq .no), rLeq⟩⟩,
  zz (.f fPick) rPick (some 49) [.tmp 45, .tmp 48, .const (.bool false)],
  zM 50 49,
  ⟨(some (9, 8, true, some 50)), some 51, [.tmp 1], ⟨.f (fFld 5), rFld 5⟩⟩,
  ⟨(some (10, 8, true, some 50)), some 52, [.tmp 51], ⟨.lr 1 1 false, rLr1 1⟩⟩,
  ⟨(some (11, 8, true, some 50)), some 53, [.tmp 52, (.const (.int .i64 0))], ⟨.f (fBin .geq .no), rGeq⟩⟩,
  zz (.f fPick) rPick (some 54) [.tmp 50, .tmp 53, .const (.bool false)],
  zM 55 54,
  ⟨(some (14, 13, true, some 55)), some 56, [.tmp 1], ⟨.f (fFld 5), rFld 5⟩⟩,
  ⟨(some (15, 13, true, some 55)), some 57, [.tmp 56], ⟨.lr 1 1 false, rLr1 1⟩⟩,
  ⟨(some (16, 13, true, some 55)), some 58, [.tmp 57, (.const (.int .i64 1000))], ⟨.f (fBin .leq .no), rLeq⟩⟩,
  zz (.f fPick) rPick (some 59) [.tmp 55, .tmp 58, .const (.bool false)],
  zM 60 59,
  ⟨(some (19, 18, true, some 60)), some 61, [.tmp 1], ⟨.f (fFld 6), rFld 6⟩⟩,
  ⟨(some (20, 18, true, some 60)), some 62, [.tmp 61], ⟨.lr 1 1 false, rLr1 1⟩⟩,
  ⟨(some (21, 18, true, some 60)), some 63, [.tmp 62, (.const (.int .i64 1))], ⟨.f (fBin .geq .no), rGeq⟩⟩,
  zz (.f fPick) rPick (some 64) [.tmp 60, .tmp 63, .const (.bool false)],
  zM 65 64,
  ⟨(some (24, 23, true, some 65)), some 66, [.tmp 1], ⟨.f (fFld 6), rFld 6⟩⟩,
  ⟨(some (25, 23, true, some 65)), some 67, [.tmp 66], ⟨.lr 1 1 false, rLr1 1⟩⟩,
  ⟨(some (26, 23, true, some 65)), some 68, [.tmp 67, (.const (.int .i64 16))], ⟨.f (fBin .leq .no), rLeq⟩⟩,
  zz (.f fPick) rPick (some 69) [.tmp 65, .tmp 68, .const (.bool false)],
  zM 5 69])
 (.seq none
 (.reg [zM 70 3,
  zM 71 70,
  ⟨(some (2, 1, true, some 71)), some 72, [.tmp 4], ⟨.f fMove, rMove⟩⟩,
  zz (.f fPick) rPick (some 73) [.tmp 71, .tmp 72, .const (.bool false)],
  zM 74 73,
  ⟨(some (5, 4, true, some 74)), some 75, [.tmp 5], ⟨.f fMove, rMove⟩⟩,
  zz (.f fPick) rPick (some 76) [.tmp 74, .tmp 75, .const (.bool false)],
  zM 2 76])
 .ret)))))
noncomputable def v_ag : EvF := evFn 1 xc_ag [.t 2]
theorem xt_ag : toC cx_ag (bodyOf Try.f57) = some (xc_ag.map XN.sm) := by kernel_rfl
theorem xr_ag : toR cx_ag Try.f57.results.toList = some [.t 2] := by kernel_rfl
theorem xo_ag : xc_ag.ok xl_ag := ⟨⟨r_a (trivial), r_m, trivial⟩, ⟨⟨r_f _, r_r _, rGeq_ok, r_m, r_f _, r_r _, rLeq_ok, r_p, r_m, r_f _, r_r _, rGeq_ok, r_p, r_m, r_f _, r_r _, rLeq_ok, r_p, r_m, trivial⟩, ⟨⟨r_f _, r_r _, rGeq_ok, r_m, r_f _, r_r _, rLeq_ok, r_p, r_m, r_f _, r_r _, rGeq_ok, r_p, r_m, r_f _, r_r _, rLeq_ok, r_p, r_m, trivial⟩, ⟨⟨r_f _, r_r _, rGeq_ok, r_m, r_f _, r_r _, rLeq_ok, r_p, r_m, r_f _, r_r _, rGeq_ok, r_p, r_m, r_f _, r_r _, rLeq_ok, r_p, r_m, r_f _, r_r _, rGeq_ok, r_p, r_m, r_f _, r_r _, rLeq_ok, r_p, r_m, trivial⟩, ⟨⟨r_m, r_m, r_m, r_p, r_m, r_m, r_p, r_m, trivial⟩, trivial⟩⟩⟩⟩⟩
theorem ve_ag : EvOk s_ag v_ag := EvOk.of (evFn_sound (C := cx_ag) xt_ag xr_ag xo_ag) q_ag
attribute [irreducible] w_ag_j3b w_ag_j3 w_ag_j2b w_ag_j2 w_ag_j1b w_ag_j1 w_ag s_ag
def w_af (a0 a1 : Value) (K : Value → Mem → Prop) (σ : Mem) : Prop :=xC (gBox 7 [a0] []) fun c2 =>xF fMove [.int .i64 0] fun v4 =>xF (fFld 0) [(locP 2)] fun v5 =>xO (gLoad 1 false [v5] c2) fun v6 =>xF (fBin .add .no) [.int .i64 6, v6] fun v7 =>xF (fFld 1) [(locP 2)] fun v8 =>xO (gLoad 1 false [v8] c2) fun v9 =>xF (fBin .mul .no) [.int .i64 2, v9] fun v10 =>xF (fBin .add .no) [v7, v10] fun v11 =>xF (fFld 2) [(locP 2)] fun v12 =>xO (gLoad 1 false [v12] c2) fun v13 =>xF (fBin .mul .no) [.int .i64 3, v13] fun v14 =>xF (fBin .add .no) [v11, v14] fun v15 =>xF (fFld 3) [(locP 2)] fun v16 =>xO (gLoad 1 false [v16] c2) fun v17 =>xF fMove [a1] fun v18 =>xF (fBin .mul .no) [v17, v18] fun v19 =>xF (fBin .add .no) [v15, v19] fun v20 =>xF fMove [v20] fun v4 =>K v4 σ
def s_af : Spec := fun args K σ => match args with
  | [a0, a1] => w_af a0 a1 K σ
  | _ => False
noncomputable def cx_af : Cx := { P := Try.prog, T := [], loc := [(2, 2), (5, 2), (8, 2), (12, 2), (16, 2)], eqt := [], n := 21, keep := [] }
theorem q_af : FnS cx_af Try.f27 (bodyOf Try.f27) 2 = s_af := by
  funext args K σ
  rcases args with _ | ⟨a0, _ | ⟨a1, _ | ⟨b, r⟩⟩⟩ <;> kernel_rfl
theorem e_af : Entry Try.prog 27 .none s_af :=
  entry (C := cx_af) TOk.nil mixedOk Try.func27 (by kernel_rfl) (by kernel_rfl) (by kernel_rfl) q_af
def xl_af : List (Nat × Nat) := [(2, 2), (5, 2), (8, 2), (12, 2), (16, 2)]
noncomputable def xc_af : XC XN :=
(.seq none
 (.reg [zy xl_af (.lb 2 7) 2 [.tmp 0],
  zc 4 (.int .i64 0)])
 (.seq none
 (.reg [zF 0 5 2,
  zr 2 6 5,
  zb .add rAdd 7 [.const (.int .i64 6), .tmp 6],
  zF 1 8 2,
  zr 2 9 8,
  zb .mul rMul 10 [.const (.int .i64 2), .tmp 9],
  zb .add rAdd 11 [.tmp 7, .tmp 10],
  zF 2 12 2,
  zr 2 13 12,
  zb .mul rMul 14 [.const (.int .i64 3), .tmp 13],
  zb .add rAdd 15 [.tmp 11, .tmp 14],
  zF 3 16 2,
  zr 2 17 16,
  zM 18 1,
  zb .mul rMul 19 [.tmp 17, .tmp 18],
  zb .add rAdd 20 [.tmp 15, .tmp 19],
  zM 4 20])
 .ret))
noncomputable def v_af : EvF := evFn 2 xc_af [.t 4]
theorem xt_af : toC cx_af (bodyOf Try.f27) = some (xc_af.map XN.sm) := by kernel_rfl
theorem xr_af : toR cx_af Try.f27.results.toList = some [.t 4] := by kernel_rfl
theorem xo_af : xc_af.ok xl_af := ⟨⟨r_a (trivial), r_m, trivial⟩, ⟨⟨r_f _, r_r _, r_d, r_f _, r_r _, rMul_ok, r_d, r_f _, r_r _, rMul_ok, r_d, r_f _, r_r _, r_m, rMul_ok, r_d, r_m, trivial⟩, trivial⟩⟩
theorem ve_af : EvOk s_af v_af := EvOk.of (evFn_sound (C := cx_af) xt_af xr_af xo_af) q_af
attribute [irreducible] w_af s_af
def w_al (a0 : Value) (K : Value → Mem → Prop) (σ : Mem) : Prop :=xC (gBox 7 [a0] []) fun c1 =>xF fMove [.int .i64 0] fun v2 =>xO (gLoad 7 true [(locP 1)] c1) fun v3 =>xF (fFld 2) [(locP 1)] fun v4 =>xO (gLoad 1 false [v4] c1) fun v5 =>s_af [v3, v5] (fun v6 σ =>xF fMove [v6] fun v2 =>K v2 σ) σ
def s_al : Spec := fun args K σ => match args with
  | [a0] => w_al a0 K σ
  | _ => False
noncomputable def cx_al : Cx := { P := Try.prog, T := [(27, .none, s_af)], loc := [(1, 1), (4, 1)], eqt := [], n := 7, keep := [] }
theorem q_al : FnS cx_al Try.f59 (bodyOf Try.f59) 1 = s_al := by
  funext args K σ
  rcases args with _ | ⟨a0, _ | ⟨b, r⟩⟩ <;> kernel_rfl
theorem e_al : Entry Try.prog 59 .none s_al :=
  entry (C := cx_al) (TOk.cons e_af TOk.nil) mixedOk Try.func59 (by kernel_rfl) (by kernel_rfl) (by kernel_rfl) q_al
def xl_al : List (Nat × Nat) := [(1, 1), (4, 1)]
noncomputable def xc_al : XC XN :=
(.seq none
 (.reg [zy xl_al (.lb 1 7) 1 [.tmp 0],
  zc 2 (.int .i64 0)])
 (.seq none
 (.reg [zy xl_al (.lr 1 7 true) 3 [.tmp 1],
  zF 2 4 1,
  zr 1 5 4,
  zk .none s_af v_af 6 [.tmp 3, .tmp 5],
  zM 2 6])
 .ret))
noncomputable def v_al : EvF := evFn 1 xc_al [.t 2]
theorem xt_al : toC cx_al (bodyOf Try.f59) = some (xc_al.map XN.sm) := by kernel_rfl
theorem xr_al : toR cx_al Try.f59.results.toList = some [.t 2] := by kernel_rfl
theorem xo_al : xc_al.ok xl_al := ⟨⟨r_a (trivial), r_m, trivial⟩, ⟨⟨r_a (trivial), r_f _, r_r _, r_c ve_af, r_m, trivial⟩, trivial⟩⟩
theorem ve_al : EvOk s_al v_al := EvOk.of (evFn_sound (C := cx_al) xt_al xr_al xo_al) q_al
attribute [irreducible] w_al s_al
def w_ax_j1b (K : Value → Mem → Prop) (v0 v9 : Value) (σ : Mem) : Prop :=xIf v9
 (xF fMove [.pointer none] fun v2 =>xF fMove [.int .i64 1] fun v3 =>K (.tuple #[v2, v3]) σ)
 (xF fMove [v0] fun v10 =>hMakeS 1 8 [.int .u64 0] [v10, v10] (fun v11 σ =>xF fMove [v0] fun v12 =>hMakeS 1 8 [.int .i64 0] [v12, v12] (fun v13 σ =>xF (fBuild [(0, 1), (1, 1), (2, 1), (3, 1), (4, 3)] [(.slice none 0 0), (.slice none 0 0), .int .i64 0, .int .i64 0, .int .i64 0, .int .i64 0, .bool false] [0, 1]) [v11, v13] fun v14 =>hBox 7 [v14] (fun v15 σ =>xF fMove [v15] fun v2 =>xF fMove [.int .i64 0] fun v3 =>K (.tuple #[v2, v3]) σ) σ) σ) σ)
def w_ax_j1 (K : Value → Mem → Prop) (ts : List Value) (ls : List (List Value)) (σ : Mem) : Prop := w_ax_j1b K (ts.getD 0 poison) (ts.getD 1 poison) σ
def w_ax (a0 : Value) (K : Value → Mem → Prop) (σ : Mem) : Prop :=xF fMove [.pointer none] fun v2 =>xF fMove [.int .i64 0] fun v3 =>xJoin (w_ax_j1 K) fun J1 =>xF fMove [a0] fun v4 =>xF (fBin .lss .no) [v4, .int .i64 1] fun v5 =>xF fMove [v5] fun v6 =>xIf v6
 (xF fPick [.bool true, .bool true, undef] fun v9 =>J1 [a0, v9] [] σ)
 (xF fMove [a0] fun v7 =>xF (fBin .gtr .no) [v7, .int .i64 1048576] fun v8 =>xF fPick [.bool false, .bool true, v8] fun v9 =>J1 [a0, v9] [] σ)
def s_ax : Spec := fun args K σ => match args with
  | [a0] => w_ax a0 K σ
  | _ => False
noncomputable def cx_ax : Cx := { P := Try.prog, T := [], loc := [], eqt := [], n := 16, keep := [(1000003, [0, 9], [])] }
theorem q_ax : FnS cx_ax Try.f58 (bodyOf Try.f58) 1 = s_ax := by
  funext args K σ
  rcases args with _ | ⟨a0, _ | ⟨b, r⟩⟩ <;> kernel_rfl
theorem e_ax : Entry Try.prog 58 .write s_ax :=
  entry (C := cx_ax) TOk.nil mixedOk Try.func58 (by kernel_rfl) (by kernel_rfl) (by kernel_rfl) q_ax
def xl_ax : List (Nat × Nat) := []
noncomputable def xc_ax : XC XN :=
(.seq none
 (.reg [zc 2 (.pointer none),
  zc 3 (.int .i64 0)])
 (.seq none
 (.seq (some ([0, 9], []))
 (.reg [zM 4 0,
  zb .lss rLss 5 [.tmp 4, .const (.int .i64 1)],
  zM 6 5,
  ⟨(some (3, 2, false, some 6)), some 7, [.tmp 0], ⟨.f fMove, rMove⟩⟩,
  ⟨(some (4, 2, false, some 6)), some 8, [.tmp 7, (.const (.int .i64 1048576))], ⟨.f (fBin .gtr .no), rGtr⟩⟩,
  zz (.f fPick) rPick (some 9) [.tmp 6, .const (.bool true), .tmp 8]])
 (.cond (.tmp 9)
 (.seq none
 (.reg [zc 2 (.pointer none),
  zc 3 (.int .i64 1)])
 .ret)
 .skip))
 (.seq none
 (.reg [zM 10 0,
  zy xl_ax (.ms 1 8 [.int .u64 0]) 11 [.tmp 10, .tmp 10],
  zM 12 0,
  zy xl_ax (.ms 1 8 [.int .i64 0]) 13 [.tmp 12, .tmp 12],
  zy xl_ax (.f (fBuild [(0, 1), (1, 1), (2, 1), (3, 1), (4, 3)] [(.slice none 0 0), (.slice none 0 0), .int .i64 0, .int .i64 0, .int .i64 0, .int .i64 0, .bool false] [0, 1])) 14 [.tmp 11, .tmp 13],
  zy xl_ax (.box 7) 15 [.tmp 14],
  zM 2 15,
  zc 3 (.int .i64 0)])
 .ret)))
noncomputable def v_ax : EvF := evFn 1 xc_ax [.t 2, .t 3]
theorem xt_ax : toC cx_ax (bodyOf Try.f58) = some (xc_ax.map XN.sm) := by kernel_rfl
theorem xr_ax : toR cx_ax Try.f58.results.toList = some [.t 2, .t 3] := by kernel_rfl
theorem xo_ax : xc_ax.ok xl_ax := ⟨⟨r_m, r_m, trivial⟩, ⟨⟨⟨r_m, rLss_ok, r_m, r_m, rGtr_ok, r_p, trivial⟩, ⟨⟨⟨r_m, r_m, trivial⟩, trivial⟩, trivial⟩⟩, ⟨⟨r_m, r_a (trivial), r_m, r_a (trivial), r_a (eqv_build _ rfl _), r_a (trivial), r_m, r_m, trivial⟩, trivial⟩⟩⟩
theorem ve_ax : EvOk s_ax v_ax := EvOk.of (evFn_sound (C := cx_ax) xt_ax xr_ax xo_ax) q_ax
attribute [irreducible] w_ax_j1b w_ax_j1 w_ax s_ax
def w_ao (a0 a1 : Value) (K : Value → Mem → Prop) (σ : Mem) : Prop :=xC (gBox 7 [a0] []) fun c2 =>xF fMove [.int .i64 0] fun v4 =>xF (fFld 0) [(locP 2)] fun v5 =>xO (gLoad 1 false [v5] c2) fun v6 =>xF (fBin .add .no) [.int .i64 6, v6] fun v7 =>xF fMove [a1] fun v8 =>xF (fBin .mul .no) [.int .i64 2, v8] fun v9 =>xF (fBin .add .no) [v7, v9] fun v10 =>xF fMove [v10] fun v4 =>K v4 σ
def s_ao : Spec := fun args K σ => match args with
  | [a0, a1] => w_ao a0 a1 K σ
  | _ => False
noncomputable def cx_ao : Cx := { P := Try.prog, T := [], loc := [(2, 2), (5, 2)], eqt := [], n := 11, keep := [] }
theorem q_ao : FnS cx_ao Try.f40 (bodyOf Try.f40) 2 = s_ao := by
  funext args K σ
  rcases args with _ | ⟨a0, _ | ⟨a1, _ | ⟨b, r⟩⟩⟩ <;> kernel_rfl
theorem e_ao : Entry Try.prog 40 .none s_ao :=
  entry (C := cx_ao) TOk.nil mixedOk Try.func40 (by kernel_rfl) (by kernel_rfl) (by kernel_rfl) q_ao
def xl_ao : List (Nat × Nat) := [(2, 2), (5, 2)]
noncomputable def xc_ao : XC XN :=
(.seq none
 (.reg [zy xl_ao (.lb 2 7) 2 [.tmp 0],
  zc 4 (.int .i64 0)])
 (.seq none
 (.reg [zF 0 5 2,
  zr 2 6 5,
  zb .add rAdd 7 [.const (.int .i64 6), .tmp 6],
  zM 8 1,
  zb .mul rMul 9 [.const (.int .i64 2), .tmp 8],
  zb .add rAdd 10 [.tmp 7, .tmp 9],
  zM 4 10])
 .ret))
noncomputable def v_ao : EvF := evFn 2 xc_ao [.t 4]
theorem xt_ao : toC cx_ao (bodyOf Try.f40) = some (xc_ao.map XN.sm) := by kernel_rfl
theorem xr_ao : toR cx_ao Try.f40.results.toList = some [.t 4] := by kernel_rfl
theorem xo_ao : xc_ao.ok xl_ao := ⟨⟨r_a (trivial), r_m, trivial⟩, ⟨⟨r_f _, r_r _, r_d, r_m, rMul_ok, r_d, r_m, trivial⟩, trivial⟩⟩
theorem ve_ao : EvOk s_ao v_ao := EvOk.of (evFn_sound (C := cx_ao) xt_ao xr_ao xo_ao) q_ao
attribute [irreducible] w_ao s_ao
def w_a9 (a0 a1 : Value) (K : Value → Mem → Prop) (σ : Mem) : Prop :=xF fMove [.int .u64 0] fun v4 =>xF fMove [a0] fun v5 =>xF fMax [v5, .int .i64 0] fun v6 =>xF fMove [a1] fun v7 =>xF fMin [v6, v7] fun v8 =>xF (fConv .u64) [v8] fun v9 =>xF fMove [v9] fun v4 =>K v4 σ
def s_a9 : Spec := fun args K σ => match args with
  | [a0, a1] => w_a9 a0 a1 K σ
  | _ => False
noncomputable def cx_a9 : Cx := { P := Try.prog, T := [], loc := [], eqt := [], n := 10, keep := [] }
theorem q_a9 : FnS cx_a9 Try.f66 (bodyOf Try.f66) 2 = s_a9 := by
  funext args K σ
  rcases args with _ | ⟨a0, _ | ⟨a1, _ | ⟨b, r⟩⟩⟩ <;> kernel_rfl
theorem e_a9 : Entry Try.prog 66 .none s_a9 :=
  entry (C := cx_a9) TOk.nil mixedOk Try.func66 (by kernel_rfl) (by kernel_rfl) (by kernel_rfl) q_a9
def xl_a9 : List (Nat × Nat) := []
noncomputable def xc_a9 : XC XN :=
(.seq none
 (.reg [zc 4 (.int .u64 0)])
 (.seq none
 (.reg [zM 5 0,
  zy xl_a9 (.f fMax) 6 [.tmp 5, .const (.int .i64 0)],
  zM 7 1,
  zy xl_a9 (.f fMin) 8 [.tmp 6, .tmp 7],
  zz (.f (fConv .u64)) (rConv .u64) (some 9) [.tmp 8],
  zM 4 9])
 .ret))
noncomputable def v_a9 : EvF := evFn 2 xc_a9 [.t 4]
theorem xt_a9 : toC cx_a9 (bodyOf Try.f66) = some (xc_a9.map XN.sm) := by kernel_rfl
theorem xr_a9 : toR cx_a9 Try.f66.results.toList = some [.t 4] := by kernel_rfl
theorem xo_a9 : xc_a9.ok xl_a9 := ⟨⟨r_m, trivial⟩, ⟨⟨r_m, r_a (eqv_max), r_m, r_a (eqv_min), r_v _, r_m, trivial⟩, trivial⟩⟩
theorem ve_a9 : EvOk s_a9 v_a9 := EvOk.of (evFn_sound (C := cx_a9) xt_a9 xr_a9 xo_a9) q_a9
attribute [irreducible] w_a9 s_a9
def w_a7 (a0 : Value) (K : Value → Mem → Prop) (σ : Mem) : Prop :=xC (gBox 4 [a0] []) fun c1 =>xF fMove [.int .u64 0] fun v2 =>xF (fFld 0) [(locP 1)] fun v3 =>xO (gLoad 1 false [v3] c1) fun v4 =>s_a9 [v4, .int .i64 7] (fun v5 σ =>xF (fFld 1) [(locP 1)] fun v6 =>xO (gLoad 1 false [v6] c1) fun v7 =>s_a9 [v7, .int .i64 1048575] (fun v8 σ =>xF (fBin .shl .no) [v8, .int .u64 3] fun v9 =>xF (fBin .or .no) [v5, v9] fun v10 =>xF (fFld 2) [(locP 1)] fun v11 =>xO (gLoad 1 false [v11] c1) fun v12 =>s_a9 [v12, .int .i64 65535] (fun v13 σ =>xF (fBin .shl .no) [v13, .int .u64 23] fun v14 =>xF (fBin .or .no) [v10, v14] fun v15 =>xF (fFld 3) [(locP 1)] fun v16 =>xO (gLoad 1 false [v16] c1) fun v17 =>s_a9 [v17, .int .i64 4194303] (fun v18 σ =>xF (fBin .shl .no) [v18, .int .u64 39] fun v19 =>xF (fBin .or .no) [v15, v19] fun v20 =>xF fMove [v20] fun v2 =>K v2 σ) σ) σ) σ) σ
def s_a7 : Spec := fun args K σ => match args with
  | [a0] => w_a7 a0 K σ
  | _ => False
noncomputable def cx_a7 : Cx := { P := Try.prog, T := [(66, .none, s_a9)], loc := [(1, 1), (3, 1), (6, 1), (11, 1), (16, 1)], eqt := [], n := 21, keep := [] }
theorem q_a7 : FnS cx_a7 Try.f46 (bodyOf Try.f46) 1 = s_a7 := by
  funext args K σ
  rcases args with _ | ⟨a0, _ | ⟨b, r⟩⟩ <;> kernel_rfl
theorem e_a7 : Entry Try.prog 46 .none s_a7 :=
  entry (C := cx_a7) (TOk.cons e_a9 TOk.nil) mixedOk Try.func46 (by kernel_rfl) (by kernel_rfl) (by kernel_rfl) q_a7
def xl_a7 : List (Nat × Nat) := [(1, 1), (3, 1), (6, 1), (11, 1), (16, 1)]
noncomputable def xc_a7 : XC XN :=
(.seq none
 (.reg [zy xl_a7 (.lb 1 4) 1 [.tmp 0],
  zc 2 (.int .u64 0)])
 (.seq none
 (.reg [zF 0 3 1,
  zr 1 4 3,
  zk .none s_a9 v_a9 5 [.tmp 4, .const (.int .i64 7)],
  zF 1 6 1,
  zr 1 7 6,
  zk .none s_a9 v_a9 8 [.tmp 7, .const (.int .i64 1048575)],
  zy xl_a7 (.f (fBin .shl .no)) 9 [.tmp 8, .const (.int .u64 3)],
  zy xl_a7 (.f (fBin .or .no)) 10 [.tmp 5, .tmp 9],
  zF 2 11 1,
  zr 1 12 11,
  zk .none s_a9 v_a9 13 [.tmp 12, .const (.int .i64 65535)],
  zy xl_a7 (.f (fBin .shl .no)) 14 [.tmp 13, .const (.int .u64 23)],
  zy xl_a7 (.f (fBin .or .no)) 15 [.tmp 10, .tmp 14],
  zF 3 16 1,
  zr 1 17 16,
  zk .none s_a9 v_a9 18 [.tmp 17, .const (.int .i64 4194303)],
  zy xl_a7 (.f (fBin .shl .no)) 19 [.tmp 18, .const (.int .u64 39)],
  zy xl_a7 (.f (fBin .or .no)) 20 [.tmp 15, .tmp 19],
  zM 2 20])
 .ret))
noncomputable def v_a7 : EvF := evFn 1 xc_a7 [.t 2]
theorem xt_a7 : toC cx_a7 (bodyOf Try.f46) = some (xc_a7.map XN.sm) := by kernel_rfl
theorem xr_a7 : toR cx_a7 Try.f46.results.toList = some [.t 2] := by kernel_rfl
theorem xo_a7 : xc_a7.ok xl_a7 := ⟨⟨r_a (trivial), r_m, trivial⟩, ⟨⟨r_f _, r_r _, r_c ve_a9, r_f _, r_r _, r_c ve_a9, r_a (eqv_bin _ _), r_a (eqv_bin _ _), r_f _, r_r _, r_c ve_a9, r_a (eqv_bin _ _), r_a (eqv_bin _ _), r_f _, r_r _, r_c ve_a9, r_a (eqv_bin _ _), r_a (eqv_bin _ _), r_m, trivial⟩, trivial⟩⟩
theorem ve_a7 : EvOk s_a7 v_a7 := EvOk.of (evFn_sound (C := cx_a7) xt_a7 xr_a7 xo_a7) q_a7
attribute [irreducible] w_a7 s_a7
def w_aw_j1b (K : Value → Mem → Prop) (v0 v1 v19 : Value) (σ : Mem) : Prop :=xIf v19
 (xF fMove [.bool false] fun v4 =>K v4 σ)
 (xF fMove [v0] fun v20 =>xF fNil [v20] fun v21 =>xF (fFld 2) [v21] fun v22 =>hLoad 1 false [v22] (fun v23 σ =>xF (fBin .add .no) [v23, .int .i64 1] fun v24 =>xF fNil [v20] fun v25 =>xF (fFld 2) [v25] fun v26 =>hStore 1 [v26, v24] (fun _v σ =>xF fMove [v0] fun v27 =>xF fMove [v1] fun v28 =>xF fMove [v0] fun v29 =>xF fNil [v29] fun v30 =>xF (fFld 3) [v30] fun v31 =>hLoad 1 false [v31] (fun v32 σ =>xF (fBuild [(0, 1), (1, 1), (2, 1)] [.int .i64 0, .int .i64 0, .bool false] [0, 1]) [v28, v32] fun v33 =>xF fNil [v27] fun v34 =>xF (fFld 4) [v34] fun v35 =>hStore 3 [v35, v33] (fun _v σ =>xF fMove [.bool true] fun v4 =>K v4 σ) σ) σ) σ) σ)
def w_aw_j1 (K : Value → Mem → Prop) (ts : List Value) (ls : List (List Value)) (σ : Mem) : Prop := w_aw_j1b K (ts.getD 0 poison) (ts.getD 1 poison) (ts.getD 2 poison) σ
def w_aw (a0 a1 : Value) (K : Value → Mem → Prop) (σ : Mem) : Prop :=xF fMove [.bool false] fun v4 =>xJoin (w_aw_j1 K) fun J1 =>xF fMove [a0] fun v5 =>xF (fBin .eql .ptr) [v5, .pointer none] fun v6 =>xF fMove [v6] fun v7 =>xIf v7
 (xF fPick [.bool true, .bool true, undef] fun v10 =>xF fMove [v10] fun v11 =>xIf v11
 (xF fPick [.bool true, .bool true, undef] fun v19 =>J1 [a0, a1, v19] [] σ)
 (xF fMove [a1] fun v12 =>xF fMove [a0] fun v13 =>xF fNil [v13] fun v14 =>xF (fFld 0) [v14] fun v15 =>hLoad 1 false [v15] (fun v16 σ =>xF fLen [v16] fun v17 =>xF (fBin .geq .no) [v12, v17] fun v18 =>xF fPick [.bool false, .bool true, v18] fun v19 =>J1 [a0, a1, v19] [] σ) σ))
 (xF fMove [a1] fun v8 =>xF (fBin .lss .no) [v8, .int .i64 0] fun v9 =>xF fPick [.bool false, .bool true, v9] fun v10 =>xF fMove [v10] fun v11 =>xIf v11
 (xF fPick [.bool true, .bool true, undef] fun v19 =>J1 [a0, a1, v19] [] σ)
 (xF fMove [a1] fun v12 =>xF fMove [a0] fun v13 =>xF fNil [v13] fun v14 =>xF (fFld 0) [v14] fun v15 =>hLoad 1 false [v15] (fun v16 σ =>xF fLen [v16] fun v17 =>xF (fBin .geq .no) [v12, v17] fun v18 =>xF fPick [.bool false, .bool true, v18] fun v19 =>J1 [a0, a1, v19] [] σ) σ))
def s_aw : Spec := fun args K σ => match args with
  | [a0, a1] => w_aw a0 a1 K σ
  | _ => False
noncomputable def cx_aw : Cx := { P := Try.prog, T := [], loc := [], eqt := [(25, .ptr)], n := 36, keep := [(1000003, [0, 1, 19], [])] }
theorem q_aw : FnS cx_aw Try.f79 (bodyOf Try.f79) 2 = s_aw := by
  funext args K σ
  rcases args with _ | ⟨a0, _ | ⟨a1, _ | ⟨b, r⟩⟩⟩ <;> kernel_rfl
theorem e_aw : Entry Try.prog 79 .write s_aw :=
  entry (C := cx_aw) TOk.nil mixedOk Try.func79 (by kernel_rfl) (by kernel_rfl) (by kernel_rfl) q_aw
def xl_aw : List (Nat × Nat) := []
noncomputable def xc_aw : XC XN :=
(.seq none
 (.reg [zc 4 (.bool false)])
 (.seq none
 (.seq (some ([0, 1, 19], []))
 (.reg [zM 5 0,
  zy xl_aw (.f (fBin .eql .ptr)) 6 [.tmp 5, .const (.pointer none)],
  zM 7 6,
  ⟨(some (3, 2, false, some 7)), some 8, [.tmp 1], ⟨.f fMove, rMove⟩⟩,
  ⟨(some (4, 2, false, some 7)), some 9, [.tmp 8, (.const (.int .i64 0))], ⟨.f (fBin .lss .no), rLss⟩⟩,
  zz (.f fPick) rPick (some 10) [.tmp 7, .const (.bool true), .tmp 9],
  zM 11 10,
  ⟨(some (7, 6, false, some 11)), some 12, [.tmp 1], ⟨.f fMove, rMove⟩⟩,
  ⟨(some (8, 6, false, some 11)), some 13, [.tmp 0], ⟨.f fMove, rMove⟩⟩,
  ⟨(some (9, 6, false, some 11)), some 14, [.tmp 13], ⟨.f fNil, rNil⟩⟩,
  ⟨(some (10, 6, false, some 11)), some 15, [.tmp 14], ⟨.f (fFld 0), rFld 0⟩⟩,
  ⟨(some (11, 6, false, some 11)), some 16, [.tmp 15], ⟨.load 1 false, rLoad1⟩⟩,
  ⟨(some (12, 6, false, some 11)), some 17, [.tmp 16], ⟨.f fLen, rAny xl_aw (.f fLen)⟩⟩,
  ⟨(some (13, 6, false, some 11)), some 18, [.tmp 12, .tmp 17], ⟨.f (fBin .geq .no), rGeq⟩⟩,
  zz (.f fPick) rPick (some 19) [.tmp 11, .const (.bool true), .tmp 18]])
 (.cond (.tmp 19)
 (.seq none
 (.reg [zc 4 (.bool false)])
 .ret)
 .skip))
 (.seq none
 (.reg [zM 20 0,
  zN 21 20,
  zF 2 22 21,
  zL 23 22,
  zb .add rAdd 24 [.tmp 23, .const (.int .i64 1)],
  zN 25 20,
  zF 2 26 25,
  zS [.tmp 26, .tmp 24]])
 (.seq none
 (.reg [zM 27 0,
  zM 28 1,
  zM 29 0,
  zN 30 29,
  zF 3 31 30,
  zL 32 31,
  zy xl_aw (.f (fBuild [(0, 1), (1, 1), (2, 1)] [.int .i64 0, .int .i64 0, .bool false] [0, 1])) 33 [.tmp 28, .tmp 32],
  zN 34 27,
  zF 4 35 34,
  zY xl_aw (.store 3) [.tmp 35, .tmp 33]])
 (.seq none
 (.reg [zc 4 (.bool true)])
 .ret)))))
noncomputable def v_aw : EvF := evFn 2 xc_aw [.t 4]
theorem xt_aw : toC cx_aw (bodyOf Try.f79) = some (xc_aw.map XN.sm) := by kernel_rfl
theorem xr_aw : toR cx_aw Try.f79.results.toList = some [.t 4] := by kernel_rfl
theorem xo_aw : xc_aw.ok xl_aw := ⟨⟨r_m, trivial⟩, ⟨⟨⟨r_m, r_a (eqv_bin _ _), r_m, r_m, rLss_ok, r_p, r_m, r_m, r_m, r_n, r_f _, r_l, r_a (eqv_len), rGeq_ok, r_p, trivial⟩, ⟨⟨⟨r_m, trivial⟩, trivial⟩, trivial⟩⟩, ⟨⟨r_m, r_n, r_f _, r_l, r_d, r_n, r_f _, r_s, trivial⟩, ⟨⟨r_m, r_m, r_m, r_n, r_f _, r_l, r_a (eqv_build _ rfl _), r_n, r_f _, r_a (trivial), trivial⟩, ⟨⟨r_m, trivial⟩, trivial⟩⟩⟩⟩⟩
theorem ve_aw : EvOk s_aw v_aw := EvOk.of (evFn_sound (C := cx_aw) xt_aw xr_aw xo_aw) q_aw
attribute [irreducible] w_aw_j1b w_aw_j1 w_aw s_aw
def w_av_j1b (K : Value → Mem → Prop) (v0 v1 v2 : Value) (σ : Mem) : Prop :=xF fMove [v0] fun v34 =>xF fNil [v34] fun v35 =>xF (fFld 0) [v35] fun v36 =>hLoad 1 false [v36] (fun v37 σ =>xF fMove [v1] fun v38 =>xF fMove [v2] fun v39 =>xF (fIxS 1) [v37, v38] fun v40 =>hStore 1 [v40, v39] (fun _v σ =>K (.tuple #[]) σ) σ) σ
def w_av_j1 (K : Value → Mem → Prop) (ts : List Value) (ls : List (List Value)) (σ : Mem) : Prop := w_av_j1b K (ts.getD 0 poison) (ts.getD 1 poison) (ts.getD 2 poison) σ
def w_av (a0 a1 a2 : Value) (K : Value → Mem → Prop) (σ : Mem) : Prop :=xJoin (w_av_j1 K) fun J1 =>xF fMove [a0] fun v6 =>xF fMove [a0] fun v7 =>xF fNil [v7] fun v8 =>xF (fFld 0) [v8] fun v9 =>hLoad 1 false [v9] (fun v10 σ =>xF fMove [a1] fun v11 =>xF (fIxS 1) [v10, v11] fun v12 =>hLoad 1 false [v12] (fun v13 σ =>xF fMove [a2] fun v14 =>xF (fBin .neq .no) [v13, v14] fun v15 =>xF fNil [v6] fun v16 =>xF (fFld 4) [v16] fun v17 =>xF (fFld 2) [v17] fun v18 =>hStore 1 [v18, v15] (fun _v σ =>xF fMove [a0] fun v19 =>xF fNil [v19] fun v20 =>xF (fFld 4) [v20] fun v21 =>xF (fFld 2) [v21] fun v22 =>hLoad 1 false [v22] (fun v23 σ =>xIf v23
 (xF fMove [a0] fun v24 =>xF fNil [v24] fun v25 =>xF (fFld 1) [v25] fun v26 =>hLoad 1 false [v26] (fun v27 σ =>xF fMove [a1] fun v28 =>xF fMove [a0] fun v29 =>xF fNil [v29] fun v30 =>xF (fFld 2) [v30] fun v31 =>hLoad 1 false [v31] (fun v32 σ =>xF (fIxS 1) [v27, v28] fun v33 =>hStore 1 [v33, v32] (fun _v σ =>J1 [a0, a1, a2] [] σ) σ) σ) σ)
 (J1 [a0, a1, a2] [] σ)) σ) σ) σ) σ
def s_av : Spec := fun args K σ => match args with
  | [a0, a1, a2] => w_av a0 a1 a2 K σ
  | _ => False
noncomputable def cx_av : Cx := { P := Try.prog, T := [], loc := [], eqt := [], n := 41, keep := [(1000004, [0, 1, 2], [])] }
theorem q_av : FnS cx_av Try.f80 (bodyOf Try.f80) 3 = s_av := by
  funext args K σ
  rcases args with _ | ⟨a0, _ | ⟨a1, _ | ⟨a2, _ | ⟨b, r⟩⟩⟩⟩ <;> kernel_rfl
theorem e_av : Entry Try.prog 80 .write s_av :=
  entry (C := cx_av) TOk.nil mixedOk Try.func80 (by kernel_rfl) (by kernel_rfl) (by kernel_rfl) q_av
def xl_av : List (Nat × Nat) := []
noncomputable def xc_av : XC XN :=
(.seq (some ([0, 1, 2], []))
 (.seq none
 (.reg [zM 6 0,
  zM 7 0,
  zN 8 7,
  zF 0 9 8,
  zL 10 9,
  zM 11 1,
  zz (.f (fIxS 1)) (rIxS 1) (some 12) [.tmp 10, .tmp 11],
  zL 13 12,
  zM 14 2,
  zb .neq rNeq 15 [.tmp 13, .tmp 14],
  zN 16 6,
  zF 4 17 16,
  zF 2 18 17,
  zS [.tmp 18, .tmp 15]])
 (.seq none
 (.reg [zM 19 0,
  zN 20 19,
  zF 4 21 20,
  zF 2 22 21,
  zL 23 22])
 (.cond (.tmp 23)
 (.reg [zM 24 0,
  zN 25 24,
  zF 1 26 25,
  zL 27 26,
  zM 28 1,
  zM 29 0,
  zN 30 29,
  zF 2 31 30,
  zL 32 31,
  zz (.f (fIxS 1)) (rIxS 1) (some 33) [.tmp 27, .tmp 28],
  zS [.tmp 33, .tmp 32]])
 .skip)))
 (.reg [zM 34 0,
  zN 35 34,
  zF 0 36 35,
  zL 37 36,
  zM 38 1,
  zM 39 2,
  zz (.f (fIxS 1)) (rIxS 1) (some 40) [.tmp 37, .tmp 38],
  zS [.tmp 40, .tmp 39]]))
noncomputable def v_av : EvF := evFn 3 xc_av []
theorem xt_av : toC cx_av (bodyOf Try.f80) = some (xc_av.map XN.sm) := by kernel_rfl
theorem xr_av : toR cx_av Try.f80.results.toList = some [] := by kernel_rfl
theorem xo_av : xc_av.ok xl_av := ⟨⟨⟨r_m, r_m, r_n, r_f _, r_l, r_m, rIxS_ok _, r_l, r_m, rNeq_ok, r_n, r_f _, r_f _, r_s, trivial⟩, ⟨⟨r_m, r_n, r_f _, r_f _, r_l, trivial⟩, ⟨⟨r_m, r_n, r_f _, r_l, r_m, r_m, r_n, r_f _, r_l, rIxS_ok _, r_s, trivial⟩, trivial⟩⟩⟩, ⟨r_m, r_n, r_f _, r_l, r_m, r_m, rIxS_ok _, r_s, trivial⟩⟩
theorem ve_av : EvOk s_av v_av := EvOk.of (evFn_sound (C := cx_av) xt_av xr_av xo_av) q_av
attribute [irreducible] w_av_j1b w_av_j1 w_av s_av
def w_au (a0 a1 a2 : Value) (K : Value → Mem → Prop) (σ : Mem) : Prop :=xF fMove [.int .i64 0] fun v6 =>xF fMove [a0] fun v7 =>xF fMove [a1] fun v8 =>s_aw [v7, v8] (fun v9 σ =>xF (fUn .not) [v9] fun v10 =>xIf v10
 (xF fMove [.int .i64 2] fun v6 =>K v6 σ)
 (xF fMove [a0] fun v11 =>xF fMove [a1] fun v12 =>xF fMove [a2] fun v13 =>s_av [v11, v12, v13] (fun v14 σ =>xF fMove [.int .i64 0] fun v6 =>K v6 σ) σ)) σ
def s_au : Spec := fun args K σ => match args with
  | [a0, a1, a2] => w_au a0 a1 a2 K σ
  | _ => False
noncomputable def cx_au : Cx := { P := Try.prog, T := [(79, .write, s_aw), (80, .write, s_av)], loc := [], eqt := [], n := 15, keep := [] }
theorem q_au : FnS cx_au Try.f60 (bodyOf Try.f60) 3 = s_au := by
  funext args K σ
  rcases args with _ | ⟨a0, _ | ⟨a1, _ | ⟨a2, _ | ⟨b, r⟩⟩⟩⟩ <;> kernel_rfl
theorem e_au : Entry Try.prog 60 .write s_au :=
  entry (C := cx_au) (TOk.cons e_aw (TOk.cons e_av TOk.nil)) mixedOk Try.func60 (by kernel_rfl) (by kernel_rfl) (by kernel_rfl) q_au
def xl_au : List (Nat × Nat) := []
noncomputable def xc_au : XC XN :=
(.seq none
 (.reg [zc 6 (.int .i64 0)])
 (.seq none
 (.seq none
 (.reg [zM 7 0,
  zM 8 1,
  zk .write s_aw v_aw 9 [.tmp 7, .tmp 8],
  zz (.f (fUn .not)) rNot (some 10) [.tmp 9]])
 (.cond (.tmp 10)
 (.seq none
 (.reg [zc 6 (.int .i64 2)])
 .ret)
 .skip))
 (.seq none
 (.reg [zM 11 0,
  zM 12 1,
  zM 13 2,
  zk .write s_av v_av 14 [.tmp 11, .tmp 12, .tmp 13]])
 (.seq none
 (.reg [zc 6 (.int .i64 0)])
 .ret))))
noncomputable def v_au : EvF := evFn 3 xc_au [.t 6]
theorem xt_au : toC cx_au (bodyOf Try.f60) = some (xc_au.map XN.sm) := by kernel_rfl
theorem xr_au : toR cx_au Try.f60.results.toList = some [.t 6] := by kernel_rfl
theorem xo_au : xc_au.ok xl_au := ⟨⟨r_m, trivial⟩, ⟨⟨⟨r_m, r_m, r_c ve_aw, r_t, trivial⟩, ⟨⟨⟨r_m, trivial⟩, trivial⟩, trivial⟩⟩, ⟨⟨r_m, r_m, r_m, r_c ve_av, trivial⟩, ⟨⟨r_m, trivial⟩, trivial⟩⟩⟩⟩
theorem ve_au : EvOk s_au v_au := EvOk.of (evFn_sound (C := cx_au) xt_au xr_au xo_au) q_au
attribute [irreducible] w_au s_au
def w_a8 (a0 a1 : Value) (K : Value → Mem → Prop) (σ : Mem) : Prop :=xF fMove [.int .u64 0] fun v4 =>xF fMove [a0] fun v5 =>xF fMin [v5, .int .i64 65535] fun v6 =>xF (fBin .add .no) [v6, .int .i64 1] fun v7 =>s_a9 [v7, .int .i64 65536] (fun v8 σ =>xF fMove [a1] fun v9 =>s_a9 [v9, .int .i64 68719476735] (fun v10 σ =>xF (fBin .shl .no) [v10, .int .u64 17] fun v11 =>xF (fBin .or .no) [v8, v11] fun v12 =>xF fMove [v12] fun v4 =>K v4 σ) σ) σ
def s_a8 : Spec := fun args K σ => match args with
  | [a0, a1] => w_a8 a0 a1 K σ
  | _ => False
noncomputable def cx_a8 : Cx := { P := Try.prog, T := [(66, .none, s_a9)], loc := [], eqt := [], n := 13, keep := [] }
theorem q_a8 : FnS cx_a8 Try.f61 (bodyOf Try.f61) 2 = s_a8 := by
  funext args K σ
  rcases args with _ | ⟨a0, _ | ⟨a1, _ | ⟨b, r⟩⟩⟩ <;> kernel_rfl
theorem e_a8 : Entry Try.prog 61 .none s_a8 :=
  entry (C := cx_a8) (TOk.cons e_a9 TOk.nil) mixedOk Try.func61 (by kernel_rfl) (by kernel_rfl) (by kernel_rfl) q_a8
def xl_a8 : List (Nat × Nat) := []
noncomputable def xc_a8 : XC XN :=
(.seq none
 (.reg [zc 4 (.int .u64 0)])
 (.seq none
 (.reg [zM 5 0,
  zy xl_a8 (.f fMin) 6 [.tmp 5, .const (.int .i64 65535)],
  zb .add rAdd 7 [.tmp 6, .const (.int .i64 1)],
  zk .none s_a9 v_a9 8 [.tmp 7, .const (.int .i64 65536)],
  zM 9 1,
  zk .none s_a9 v_a9 10 [.tmp 9, .const (.int .i64 68719476735)],
  zy xl_a8 (.f (fBin .shl .no)) 11 [.tmp 10, .const (.int .u64 17)],
  zy xl_a8 (.f (fBin .or .no)) 12 [.tmp 8, .tmp 11],
  zM 4 12])
 .ret))
noncomputable def v_a8 : EvF := evFn 2 xc_a8 [.t 4]
theorem xt_a8 : toC cx_a8 (bodyOf Try.f61) = some (xc_a8.map XN.sm) := by kernel_rfl
theorem xr_a8 : toR cx_a8 Try.f61.results.toList = some [.t 4] := by kernel_rfl
theorem xo_a8 : xc_a8.ok xl_a8 := ⟨⟨r_m, trivial⟩, ⟨⟨r_m, r_a (eqv_min), r_d, r_c ve_a9, r_m, r_c ve_a9, r_a (eqv_bin _ _), r_a (eqv_bin _ _), r_m, trivial⟩, trivial⟩⟩
theorem ve_a8 : EvOk s_a8 v_a8 := EvOk.of (evFn_sound (C := cx_a8) xt_a8 xr_a8 xo_a8) q_a8
attribute [irreducible] w_a8 s_a8
def w_ap (K : Value → Mem → Prop) (σ : Mem) : Prop :=xF fMove [.int .i64 0] fun v0 =>xF fMove [.int .i64 1] fun v0 =>K v0 σ
def s_ap : Spec := fun args K σ => match args with
  | [] => w_ap  K σ
  | _ => False
noncomputable def cx_ap : Cx := { P := Try.prog, T := [], loc := [], eqt := [], n := 1, keep := [] }
theorem q_ap : FnS cx_ap Try.f62 (bodyOf Try.f62) 0 = s_ap := by
  funext args K σ
  rcases args with _ | ⟨b, r⟩ <;> kernel_rfl
theorem e_ap : Entry Try.prog 62 .none s_ap :=
  entry (C := cx_ap) TOk.nil mixedOk Try.func62 (by kernel_rfl) (by kernel_rfl) (by kernel_rfl) q_ap
def xl_ap : List (Nat × Nat) := []
noncomputable def xc_ap : XC XN :=
(.seq none
 (.reg [zc 0 (.int .i64 0)])
 (.seq none
 (.reg [zc 0 (.int .i64 1)])
 .ret))
noncomputable def v_ap : EvF := evFn 0 xc_ap [.t 0]
theorem xt_ap : toC cx_ap (bodyOf Try.f62) = some (xc_ap.map XN.sm) := by kernel_rfl
theorem xr_ap : toR cx_ap Try.f62.results.toList = some [.t 0] := by kernel_rfl
theorem xo_ap : xc_ap.ok xl_ap := ⟨⟨r_m, trivial⟩, ⟨⟨r_m, trivial⟩, trivial⟩⟩
theorem ve_ap : EvOk s_ap v_ap := EvOk.of (evFn_sound (C := cx_ap) xt_ap xr_ap xo_ap) q_ap
attribute [irreducible] w_ap s_ap
def w_ak_j1b (K : Value → Mem → Prop) (v4 : Value) (c1 : List Value) (σ : Mem) : Prop :=xF fMove [v4] fun v41 =>xO (gLoad 7 true [(locP 1)] c1) fun v42 =>xF (fFld 1) [(locP 1)] fun v43 =>xO (gLoad 1 false [v43] c1) fun v44 =>xF (fBin .sub .no) [v44, .int .i64 1] fun v45 =>s_ao [v42, v45] (fun v46 σ =>xF (fBin .add .no) [v46, .int .i64 1] fun v47 =>s_a8 [(.int .i64 (-1)), .int .i64 0] (fun v48 σ =>s_au [v41, v47, v48] (fun v49 σ =>xF fMove [v4] fun v50 =>s_ap [] (fun v51 σ =>s_a8 [.int .i64 0, .int .i64 0] (fun v52 σ =>s_au [v50, v51, v52] (fun v53 σ =>xF fMove [v4] fun v54 =>xF fMove [v54] fun v2 =>xF fMove [.int .i64 0] fun v3 =>K (.tuple #[v2, v3]) σ) σ) σ) σ) σ) σ) σ
def w_ak_j1 (K : Value → Mem → Prop) (ts : List Value) (ls : List (List Value)) (σ : Mem) : Prop := w_ak_j1b K (ts.getD 0 poison) (ls.getD 0 []) σ
def w_layout_Fresh_l8b (K : Value → Mem → Prop) (J1 : List Value → List (List Value) → Mem → Prop) (R1 : List Value → List (List Value) → Mem → Prop) (v4 v20 v21 : Value) (c1 : List Value) (σ : Mem) : Prop :=xF (fBin .lss .no) [v21, v20] fun v22 =>xIf v22
 (xF fMove [v21] fun v23 =>xF fMove [v23] fun v6 =>xF fMove [v4] fun v24 =>xO (gLoad 7 true [(locP 1)] c1) fun v25 =>xF fMove [v6] fun v26 =>s_ao [v25, v26] (fun v27 σ =>xF (fBuild [(0, 1), (1, 1), (2, 1), (3, 1)] [.int .i64 0, .int .i64 0, .int .i64 0, .int .i64 0] [2]) [.int .i64 1] fun v28 =>s_a7 [v28] (fun v29 σ =>s_au [v24, v27, v29] (fun v30 σ =>xF fMove [v4] fun v31 =>xO (gLoad 7 true [(locP 1)] c1) fun v32 =>xF fMove [v6] fun v33 =>s_ao [v32, v33] (fun v34 σ =>xF (fBin .add .no) [v34, .int .i64 1] fun v35 =>xF fMove [v6] fun v36 =>xF (fBin .add .no) [v36, .int .i64 1] fun v37 =>s_a8 [v37, .int .i64 0] (fun v38 σ =>s_au [v31, v35, v38] (fun v39 σ =>xF (fBin .add .no) [v21, .int .i64 1] fun v40 =>xF fMove [v40] fun v21 =>R1 [v4, v20, v21] [c1] σ) σ) σ) σ) σ) σ) σ)
 (J1 [v4] [c1] σ)
def w_layout_Fresh_l8 (K : Value → Mem → Prop) (J1 : List Value → List (List Value) → Mem → Prop) (R1 : List Value → List (List Value) → Mem → Prop) (ts : List Value) (ls : List (List Value)) (σ : Mem) : Prop := w_layout_Fresh_l8b K J1 R1 (ts.getD 0 poison) (ts.getD 1 poison) (ts.getD 2 poison) (ls.getD 0 []) σ
def w_ak (a0 : Value) (K : Value → Mem → Prop) (σ : Mem) : Prop :=xC (gBox 7 [a0] []) fun c1 =>xF fMove [.pointer none] fun v2 =>xF fMove [.int .i64 0] fun v3 =>xO (gLoad 7 true [(locP 1)] c1) fun v7 =>s_ag [v7] (fun v8 σ =>xF (fUn .not) [v8] fun v9 =>xIf v9
 (xF fMove [.pointer none] fun v2 =>xF fMove [.int .i64 1] fun v3 =>K (.tuple #[v2, v3]) σ)
 (xO (gLoad 7 true [(locP 1)] c1) fun v11 =>s_al [v11] (fun v12 σ =>s_ax [v12] (fun v13 σ =>xF fMove [v13] fun v10 =>xF (fExt 0) [v10] fun v14 =>xF (fExt 1) [v10] fun v15 =>xF fMove [v14] fun v4 =>xF fMove [v15] fun v5 =>xF fMove [v5] fun v16 =>xF (fBin .neq .no) [v16, .int .i64 0] fun v17 =>xIf v17
 (xF fMove [v5] fun v18 =>xF fMove [.pointer none] fun v2 =>xF fMove [v18] fun v3 =>K (.tuple #[v2, v3]) σ)
 (xJoin (w_ak_j1 K) fun J1 =>xF (fFld 1) [(locP 1)] fun v19 =>xO (gLoad 1 false [v19] c1) fun v20 =>xF fMove [.int .i64 0] fun v21 =>xLoop (w_layout_Fresh_l8 K J1) [v4, v20, v21] [c1] σ)) σ) σ)) σ
def s_ak : Spec := fun args K σ => match args with
  | [a0] => w_ak a0 K σ
  | _ => False
noncomputable def cx_ak : Cx := { P := Try.prog, T := [(57, .none, s_ag), (59, .none, s_al), (58, .write, s_ax), (40, .none, s_ao), (46, .none, s_a7), (60, .write, s_au), (61, .none, s_a8), (62, .none, s_ap)], loc := [(1, 1), (19, 1), (43, 1)], eqt := [], n := 55, keep := [(8, [4, 20, 21], [1]), (1000013, [4], [1])] }
theorem q_ak : FnS cx_ak Try.f25 (bodyOf Try.f25) 1 = s_ak := by
  funext args K σ
  rcases args with _ | ⟨a0, _ | ⟨b, r⟩⟩ <;> kernel_rfl
theorem e_ak : Entry Try.prog 25 .write s_ak :=
  entry (C := cx_ak) (TOk.cons e_ag (TOk.cons e_al (TOk.cons e_ax (TOk.cons e_ao (TOk.cons e_a7 (TOk.cons e_au (TOk.cons e_a8 (TOk.cons e_ap TOk.nil)))))))) mixedOk Try.func25 (by kernel_rfl) (by kernel_rfl) (by kernel_rfl) q_ak
def xl_ak : List (Nat × Nat) := [(1, 1), (19, 1), (43, 1)]
noncomputable def xc_ak : XC XN :=
(.seq none
 (.reg [zy xl_ak (.lb 1 7) 1 [.tmp 0],
  zc 2 (.pointer none),
  zc 3 (.int .i64 0)])
 (.seq none
 (.seq none
 (.reg [zy xl_ak (.lr 1 7 true) 7 [.tmp 1],
  zk .none s_ag v_ag 8 [.tmp 7],
  zz (.f (fUn .not)) rNot (some 9) [.tmp 8]])
 (.cond (.tmp 9)
 (.seq none
 (.reg [zc 2 (.pointer none),
  zc 3 (.int .i64 1)])
 .ret)
 .skip))
 (.seq none
 (.reg [zy xl_ak (.lr 1 7 true) 11 [.tmp 1],
  zk .none s_al v_al 12 [.tmp 11],
  zk .write s_ax v_ax 13 [.tmp 12],
  zM 10 13,
  zy xl_ak (.f (fExt 0)) 14 [.tmp 10],
  zy xl_ak (.f (fExt 1)) 15 [.tmp 10],
  zM 4 14,
  zM 5 15])
 (.seq none
 (.seq none
 (.reg [zM 16 5,
  zb .neq rNeq 17 [.tmp 16, .const (.int .i64 0)]])
 (.cond (.tmp 17)
 (.seq none
 (.reg [zM 18 5,
  zc 2 (.pointer none),
  zM 3 18])
 .ret)
 .skip))
 (.seq (some ([4], [1]))
 (.seq none
 (.reg [zF 1 19 1,
  zr 1 20 19,
  zc 21 (.int .i64 0)])
 (.block 0
 (.loop ([4, 20, 21], [1])
 (.seq none
 (.reg [zb .lss rLss 22 [.tmp 21, .tmp 20]])
 (.seq none
 (.cond (.tmp 22)
 .skip
 (.exit 0))
 (.seq none
 (.block 1
 (.seq none
 (.reg [zM 23 21,
  zM 6 23])
 (.seq none
 (.reg [zM 24 4,
  zy xl_ak (.lr 1 7 true) 25 [.tmp 1],
  zM 26 6,
  zk .none s_ao v_ao 27 [.tmp 25, .tmp 26],
  zy xl_ak (.f (fBuild [(0, 1), (1, 1), (2, 1), (3, 1)] [.int .i64 0, .int .i64 0, .int .i64 0, .int .i64 0] [2])) 28 [.const (.int .i64 1)],
  zk .none s_a7 v_a7 29 [.tmp 28],
  zk .write s_au v_au 30 [.tmp 24, .tmp 27, .tmp 29]])
 (.reg [zM 31 4,
  zy xl_ak (.lr 1 7 true) 32 [.tmp 1],
  zM 33 6,
  zk .none s_ao v_ao 34 [.tmp 32, .tmp 33],
  zb .add rAdd 35 [.tmp 34, .const (.int .i64 1)],
  zM 36 6,
  zb .add rAdd 37 [.tmp 36, .const (.int .i64 1)],
  zk .none s_a8 v_a8 38 [.tmp 37, .const (.int .i64 0)],
  zk .write s_au v_au 39 [.tmp 31, .tmp 35, .tmp 38]]))))
 (.reg [zb .add rAdd 40 [.tmp 21, .const (.int .i64 1)],
  zM 21 40])))))))
 (.seq none
 (.reg [zM 41 4,
  zy xl_ak (.lr 1 7 true) 42 [.tmp 1],
  zF 1 43 1,
  zr 1 44 43,
  zb .sub rSub 45 [.tmp 44, .const (.int .i64 1)],
  zk .none s_ao v_ao 46 [.tmp 42, .tmp 45],
  zb .add rAdd 47 [.tmp 46, .const (.int .i64 1)],
  zk .none s_a8 v_a8 48 [.const (.int .i64 (-1)), .const (.int .i64 0)],
  zk .write s_au v_au 49 [.tmp 41, .tmp 47, .tmp 48]])
 (.seq none
 (.reg [zM 50 4,
  zk .none s_ap v_ap 51 [],
  zk .none s_a8 v_a8 52 [.const (.int .i64 0), .const (.int .i64 0)],
  zk .write s_au v_au 53 [.tmp 50, .tmp 51, .tmp 52]])
 (.seq none
 (.reg [zM 54 4,
  zM 2 54,
  zc 3 (.int .i64 0)])
 .ret))))))))
noncomputable def v_ak : EvF := evFn 1 xc_ak [.t 2, .t 3]
theorem xt_ak : toC cx_ak (bodyOf Try.f25) = some (xc_ak.map XN.sm) := by kernel_rfl
theorem xr_ak : toR cx_ak Try.f25.results.toList = some [.t 2, .t 3] := by kernel_rfl
theorem xo_ak : xc_ak.ok xl_ak := ⟨⟨r_a (trivial), r_m, r_m, trivial⟩, ⟨⟨⟨r_a (trivial), r_c ve_ag, r_t, trivial⟩, ⟨⟨⟨r_m, r_m, trivial⟩, trivial⟩, trivial⟩⟩, ⟨⟨r_a (trivial), r_c ve_al, r_c ve_ax, r_m, r_a (eqv_ext _), r_a (eqv_ext _), r_m, r_m, trivial⟩, ⟨⟨⟨r_m, rNeq_ok, trivial⟩, ⟨⟨⟨r_m, r_m, r_m, trivial⟩, trivial⟩, trivial⟩⟩, ⟨⟨⟨r_f _, r_r _, r_m, trivial⟩, ⟨⟨rLss_ok, trivial⟩, ⟨⟨trivial, trivial⟩, ⟨⟨⟨r_m, r_m, trivial⟩, ⟨⟨r_m, r_a (trivial), r_m, r_c ve_ao, r_a (eqv_build _ rfl _), r_c ve_a7, r_c ve_au, trivial⟩, ⟨r_m, r_a (trivial), r_m, r_c ve_ao, r_d, r_m, r_d, r_c ve_a8, r_c ve_au, trivial⟩⟩⟩, ⟨r_d, r_m, trivial⟩⟩⟩⟩⟩, ⟨⟨r_m, r_a (trivial), r_f _, r_r _, rSub_ok, r_c ve_ao, r_d, r_c ve_a8, r_c ve_au, trivial⟩, ⟨⟨r_m, r_c ve_ap, r_c ve_a8, r_c ve_au, trivial⟩, ⟨⟨r_m, r_m, r_m, trivial⟩, trivial⟩⟩⟩⟩⟩⟩⟩⟩
theorem ve_ak : EvOk s_ak v_ak := EvOk.of (evFn_sound (C := cx_ak) xt_ak xr_ak xo_ak) q_ak
attribute [irreducible] w_ak_j1b w_ak_j1 w_layout_Fresh_l8b w_layout_Fresh_l8 w_ak s_ak
def w_aa (a0 a1 a2 a3 : Value) (K : Value → Mem → Prop) (σ : Mem) : Prop :=xF fMove [.bool false] fun v9 =>xF fMove [a0] fun v13 =>xF fMove [a1] fun v14 =>xF fMove [a2] fun v15 =>xF fMove [a3] fun v16 =>xF (fBuild [(0, 1), (1, 1), (2, 1), (3, 1), (4, 1), (5, 1), (6, 1)] [.int .i64 0, .int .i64 0, .int .i64 0, .int .i64 0, .int .i64 0, .int .i64 0, .int .i64 0] [0, 1, 2, 3, 4, 5, 6]) [v13, v14, v15, v16, .int .i64 100, .int .i64 600, .int .i64 3] fun v17 =>xC (gStore 7 [(locP 10), v17] [.int .i64 0, .int .i64 0, .int .i64 0, .int .i64 0, .int .i64 0, .int .i64 0, .int .i64 0]) fun c10 =>xO (gLoad 7 true [(locP 10)] c10) fun v19 =>s_ak [v19] (fun v20 σ =>xF fMove [v20] fun v18 =>xF (fExt 0) [v18] fun v21 =>xF (fExt 1) [v18] fun v22 =>xF fMove [v21] fun v11 =>xF fMove [v22] fun v12 =>xO (gLoad 7 true [(locP 10)] c10) fun v23 =>xF fMove [v11] fun v24 =>xF (fBuild [(0, 7), (7, 1), (8, 1)] [.int .i64 0, .int .i64 0, .int .i64 0, .int .i64 0, .int .i64 0, .int .i64 0, .int .i64 0, .pointer none, .int .i64 0] [0, 1]) [v23, v24] fun v25 =>xF fMove [v12] fun v26 =>xF (fBin .eql .no) [v26, .int .i64 0] fun v27 =>xC (gStore 9 [(locP 8), v25] [.int .i64 0, .int .i64 0, .int .i64 0, .int .i64 0, .int .i64 0, .int .i64 0, .int .i64 0, .pointer none, .int .i64 0]) fun c8 =>xF fMove [v27] fun v9 =>xO (gLoad 9 true [(locP 8)] c8) fun r8 =>K (.tuple #[r8, v9]) σ) σ
def s_aa : Spec := fun args K σ => match args with
  | [a0, a1, a2, a3] => w_aa a0 a1 a2 a3 K σ
  | _ => False
noncomputable def cx_aa : Cx := { P := Try.prog, T := [(25, .write, s_ak)], loc := [(8, 8), (10, 10)], eqt := [], n := 28, keep := [] }
theorem q_aa : FnS cx_aa Try.f6 (bodyOf Try.f6) 4 = s_aa := by
  funext args K σ
  rcases args with _ | ⟨a0, _ | ⟨a1, _ | ⟨a2, _ | ⟨a3, _ | ⟨b, r⟩⟩⟩⟩⟩ <;> kernel_rfl
theorem e_aa : Entry Try.prog 6 .write s_aa :=
  entry (C := cx_aa) (TOk.cons e_ak TOk.nil) mixedOk Try.func6 (by kernel_rfl) (by kernel_rfl) (by kernel_rfl) q_aa
def xl_aa : List (Nat × Nat) := [(8, 8), (10, 10)]
noncomputable def xc_aa : XC XN :=
(.seq none
 (.reg [zy xl_aa (.la 8 [.int .i64 0, .int .i64 0, .int .i64 0, .int .i64 0, .int .i64 0, .int .i64 0, .int .i64 0, .pointer none, .int .i64 0]) 8 [],
  zc 9 (.bool false)])
 (.seq none
 (.reg [zM 13 0,
  zM 14 1,
  zM 15 2,
  zM 16 3,
  zy xl_aa (.f (fBuild [(0, 1), (1, 1), (2, 1), (3, 1), (4, 1), (5, 1), (6, 1)] [.int .i64 0, .int .i64 0, .int .i64 0, .int .i64 0, .int .i64 0, .int .i64 0, .int .i64 0] [0, 1, 2, 3, 4, 5, 6])) 17 [.tmp 13, .tmp 14, .tmp 15, .tmp 16, .const (.int .i64 100), .const (.int .i64 600), .const (.int .i64 3)],
  zy xl_aa (.la 10 [.int .i64 0, .int .i64 0, .int .i64 0, .int .i64 0, .int .i64 0, .int .i64 0, .int .i64 0]) 10 [],
  zY xl_aa (.ls 10 7) [.tmp 10, .tmp 17]])
 (.seq none
 (.reg [zy xl_aa (.lr 10 7 true) 19 [.tmp 10],
  zk .write s_ak v_ak 20 [.tmp 19],
  zM 18 20,
  zy xl_aa (.f (fExt 0)) 21 [.tmp 18],
  zy xl_aa (.f (fExt 1)) 22 [.tmp 18],
  zM 11 21,
  zM 12 22])
 (.seq none
 (.reg [zy xl_aa (.lr 10 7 true) 23 [.tmp 10],
  zM 24 11,
  zy xl_aa (.f (fBuild [(0, 7), (7, 1), (8, 1)] [.int .i64 0, .int .i64 0, .int .i64 0, .int .i64 0, .int .i64 0, .int .i64 0, .int .i64 0, .pointer none, .int .i64 0] [0, 1])) 25 [.tmp 23, .tmp 24],
  zM 26 12,
  zb .eql rEql 27 [.tmp 26, .const (.int .i64 0)],
  zY xl_aa (.ls 8 9) [.tmp 8, .tmp 25],
  zM 9 27])
 .ret))))
noncomputable def v_aa : EvF := evFn 4 xc_aa [.c 8 8 9 true, .t 9]
theorem xt_aa : toC cx_aa (bodyOf Try.f6) = some (xc_aa.map XN.sm) := by kernel_rfl
theorem xr_aa : toR cx_aa Try.f6.results.toList = some [.c 8 8 9 true, .t 9] := by kernel_rfl
theorem xo_aa : xc_aa.ok xl_aa := ⟨⟨r_a (trivial), r_m, trivial⟩, ⟨⟨r_m, r_m, r_m, r_m, r_a (eqv_build _ rfl _), r_a (trivial), r_a (trivial), trivial⟩, ⟨⟨r_a (trivial), r_c ve_ak, r_m, r_a (eqv_ext _), r_a (eqv_ext _), r_m, r_m, trivial⟩, ⟨⟨r_a (trivial), r_m, r_a (eqv_build _ rfl _), r_m, r_e, r_a (trivial), r_m, trivial⟩, trivial⟩⟩⟩⟩
theorem ve_aa : EvOk s_aa v_aa := EvOk.of (evFn_sound (C := cx_aa) xt_aa xr_aa xo_aa) q_aa
attribute [irreducible] w_aa s_aa
def w_ay (a0 : Value) (K : Value → Mem → Prop) (σ : Mem) : Prop :=xF fMove [.pointer none] fun v2 =>xF fMove [a0] fun v3 =>xF (fBuild [(0, 1), (1, 1), (2, 1), (3, 1), (4, 1), (5, 2), (7, 1)] [.int .i64 0, .int .i64 0, .int .u64 0, .int .i64 0, .int .u64 0, .int .i64 0, .int .i64 0, .bool false] [0]) [v3] fun v4 =>hBox 8 [v4] (fun v5 σ =>xF fMove [v5] fun v2 =>K v2 σ) σ
def s_ay : Spec := fun args K σ => match args with
  | [a0] => w_ay a0 K σ
  | _ => False
noncomputable def cx_ay : Cx := { P := Try.prog, T := [], loc := [], eqt := [], n := 6, keep := [] }
theorem q_ay : FnS cx_ay Try.f8 (bodyOf Try.f8) 1 = s_ay := by
  funext args K σ
  rcases args with _ | ⟨a0, _ | ⟨b, r⟩⟩ <;> kernel_rfl
theorem e_ay : Entry Try.prog 8 .write s_ay :=
  entry (C := cx_ay) TOk.nil mixedOk Try.func8 (by kernel_rfl) (by kernel_rfl) (by kernel_rfl) q_ay
def xl_ay : List (Nat × Nat) := []
noncomputable def xc_ay : XC XN :=
(.seq none
 (.reg [zc 2 (.pointer none)])
 (.seq none
 (.reg [zM 3 0,
  zy xl_ay (.f (fBuild [(0, 1), (1, 1), (2, 1), (3, 1), (4, 1), (5, 2), (7, 1)] [.int .i64 0, .int .i64 0, .int .u64 0, .int .i64 0, .int .u64 0, .int .i64 0, .int .i64 0, .bool false] [0])) 4 [.tmp 3],
  zy xl_ay (.box 8) 5 [.tmp 4],
  zM 2 5])
 .ret))
noncomputable def v_ay : EvF := evFn 1 xc_ay [.t 2]
theorem xt_ay : toC cx_ay (bodyOf Try.f8) = some (xc_ay.map XN.sm) := by kernel_rfl
theorem xr_ay : toR cx_ay Try.f8.results.toList = some [.t 2] := by kernel_rfl
theorem xo_ay : xc_ay.ok xl_ay := ⟨⟨r_m, trivial⟩, ⟨⟨r_m, r_a (eqv_build _ rfl _), r_a (trivial), r_m, trivial⟩, trivial⟩⟩
theorem ve_ay : EvOk s_ay v_ay := EvOk.of (evFn_sound (C := cx_ay) xt_ay xr_ay xo_ay) q_ay
attribute [irreducible] w_ay s_ay
def w_am (a0 : Value) (K : Value → Mem → Prop) (σ : Mem) : Prop :=xF fMove [.int .i64 0] fun v2 =>xF fMove [a0] fun v3 =>xF (fBin .add .no) [.int .i64 2, v3] fun v4 =>xF fMove [v4] fun v2 =>K v2 σ
def s_am : Spec := fun args K σ => match args with
  | [a0] => w_am a0 K σ
  | _ => False
noncomputable def cx_am : Cx := { P := Try.prog, T := [], loc := [], eqt := [], n := 5, keep := [] }
theorem q_am : FnS cx_am Try.f11 (bodyOf Try.f11) 1 = s_am := by
  funext args K σ
  rcases args with _ | ⟨a0, _ | ⟨b, r⟩⟩ <;> kernel_rfl
theorem e_am : Entry Try.prog 11 .none s_am :=
  entry (C := cx_am) TOk.nil mixedOk Try.func11 (by kernel_rfl) (by kernel_rfl) (by kernel_rfl) q_am
def xl_am : List (Nat × Nat) := []
noncomputable def xc_am : XC XN :=
(.seq none
 (.reg [zc 2 (.int .i64 0)])
 (.seq none
 (.reg [zM 3 0,
  zb .add rAdd 4 [.const (.int .i64 2), .tmp 3],
  zM 2 4])
 .ret))
noncomputable def v_am : EvF := evFn 1 xc_am [.t 2]
theorem xt_am : toC cx_am (bodyOf Try.f11) = some (xc_am.map XN.sm) := by kernel_rfl
theorem xr_am : toR cx_am Try.f11.results.toList = some [.t 2] := by kernel_rfl
theorem xo_am : xc_am.ok xl_am := ⟨⟨r_m, trivial⟩, ⟨⟨r_m, r_d, r_m, trivial⟩, trivial⟩⟩
theorem ve_am : EvOk s_am v_am := EvOk.of (evFn_sound (C := cx_am) xt_am xr_am xo_am) q_am
attribute [irreducible] w_am s_am
def w_aq (a0 a1 : Value) (K : Value → Mem → Prop) (σ : Mem) : Prop :=xF fMove [a0] fun v4 =>xF (fBin .neq .ptr) [v4, .pointer none] fun v5 =>xIf v5
 (xF fMove [a0] fun v6 =>xF fMove [a1] fun v7 =>xF fNil [v6] fun v8 =>xF (fFld 3) [v8] fun v9 =>hStore 1 [v9, v7] (fun _v σ =>K (.tuple #[]) σ) σ)
 (K (.tuple #[]) σ)
def s_aq : Spec := fun args K σ => match args with
  | [a0, a1] => w_aq a0 a1 K σ
  | _ => False
noncomputable def cx_aq : Cx := { P := Try.prog, T := [], loc := [], eqt := [(25, .ptr)], n := 10, keep := [] }
theorem q_aq : FnS cx_aq Try.f63 (bodyOf Try.f63) 2 = s_aq := by
  funext args K σ
  rcases args with _ | ⟨a0, _ | ⟨a1, _ | ⟨b, r⟩⟩⟩ <;> kernel_rfl
theorem e_aq : Entry Try.prog 63 .write s_aq :=
  entry (C := cx_aq) TOk.nil mixedOk Try.func63 (by kernel_rfl) (by kernel_rfl) (by kernel_rfl) q_aq
def xl_aq : List (Nat × Nat) := []
noncomputable def xc_aq : XC XN :=
(.seq none
 (.reg [zM 4 0,
  zy xl_aq (.f (fBin .neq .ptr)) 5 [.tmp 4, .const (.pointer none)]])
 (.cond (.tmp 5)
 (.reg [zM 6 0,
  zM 7 1,
  zN 8 6,
  zF 3 9 8,
  zS [.tmp 9, .tmp 7]])
 .skip))
noncomputable def v_aq : EvF := evFn 2 xc_aq []
theorem xt_aq : toC cx_aq (bodyOf Try.f63) = some (xc_aq.map XN.sm) := by kernel_rfl
theorem xr_aq : toR cx_aq Try.f63.results.toList = some [] := by kernel_rfl
theorem xo_aq : xc_aq.ok xl_aq := ⟨⟨r_m, r_a (eqv_bin _ _), trivial⟩, ⟨⟨r_m, r_m, r_n, r_f _, r_s, trivial⟩, trivial⟩⟩
theorem ve_aq : EvOk s_aq v_aq := EvOk.of (evFn_sound (C := cx_aq) xt_aq xr_aq xo_aq) q_aq
attribute [irreducible] w_aq s_aq
def w_as (a0 a1 : Value) (K : Value → Mem → Prop) (σ : Mem) : Prop :=xF fMove [.int .u64 0] fun v4 =>xF fMove [.int .i64 0] fun v5 =>xF fMove [a0] fun v6 =>xF fMove [a1] fun v7 =>s_aw [v6, v7] (fun v8 σ =>xF (fUn .not) [v8] fun v9 =>xIf v9
 (xF fMove [.int .u64 0] fun v4 =>xF fMove [.int .i64 2] fun v5 =>K (.tuple #[v4, v5]) σ)
 (xF fMove [a0] fun v10 =>xF fNil [v10] fun v11 =>xF (fFld 0) [v11] fun v12 =>hLoad 1 false [v12] (fun v13 σ =>xF fMove [a1] fun v14 =>xF (fIxS 1) [v13, v14] fun v15 =>hLoad 1 false [v15] (fun v16 σ =>xF fMove [v16] fun v4 =>xF fMove [.int .i64 0] fun v5 =>K (.tuple #[v4, v5]) σ) σ) σ)) σ
def s_as : Spec := fun args K σ => match args with
  | [a0, a1] => w_as a0 a1 K σ
  | _ => False
noncomputable def cx_as : Cx := { P := Try.prog, T := [(79, .write, s_aw)], loc := [], eqt := [], n := 17, keep := [] }
theorem q_as : FnS cx_as Try.f64 (bodyOf Try.f64) 2 = s_as := by
  funext args K σ
  rcases args with _ | ⟨a0, _ | ⟨a1, _ | ⟨b, r⟩⟩⟩ <;> kernel_rfl
theorem e_as : Entry Try.prog 64 .write s_as :=
  entry (C := cx_as) (TOk.cons e_aw TOk.nil) mixedOk Try.func64 (by kernel_rfl) (by kernel_rfl) (by kernel_rfl) q_as
def xl_as : List (Nat × Nat) := []
noncomputable def xc_as : XC XN :=
(.seq none
 (.reg [zc 4 (.int .u64 0),
  zc 5 (.int .i64 0)])
 (.seq none
 (.seq none
 (.reg [zM 6 0,
  zM 7 1,
  zk .write s_aw v_aw 8 [.tmp 6, .tmp 7],
  zz (.f (fUn .not)) rNot (some 9) [.tmp 8]])
 (.cond (.tmp 9)
 (.seq none
 (.reg [zc 4 (.int .u64 0),
  zc 5 (.int .i64 2)])
 .ret)
 .skip))
 (.seq none
 (.reg [zM 10 0,
  zN 11 10,
  zF 0 12 11,
  zL 13 12,
  zM 14 1,
  zz (.f (fIxS 1)) (rIxS 1) (some 15) [.tmp 13, .tmp 14],
  zL 16 15,
  zM 4 16,
  zc 5 (.int .i64 0)])
 .ret)))
noncomputable def v_as : EvF := evFn 2 xc_as [.t 4, .t 5]
theorem xt_as : toC cx_as (bodyOf Try.f64) = some (xc_as.map XN.sm) := by kernel_rfl
theorem xr_as : toR cx_as Try.f64.results.toList = some [.t 4, .t 5] := by kernel_rfl
theorem xo_as : xc_as.ok xl_as := ⟨⟨r_m, r_m, trivial⟩, ⟨⟨⟨r_m, r_m, r_c ve_aw, r_t, trivial⟩, ⟨⟨⟨r_m, r_m, trivial⟩, trivial⟩, trivial⟩⟩, ⟨⟨r_m, r_n, r_f _, r_l, r_m, rIxS_ok _, r_l, r_m, r_m, trivial⟩, trivial⟩⟩⟩
theorem ve_as : EvOk s_as v_as := EvOk.of (evFn_sound (C := cx_as) xt_as xr_as xo_as) q_as
attribute [irreducible] w_as s_as
def w_aj (a0 a1 : Value) (K : Value → Mem → Prop) (σ : Mem) : Prop :=xC (gBox 9 [a0] []) fun c2 =>xF fMove [.int .u64 0] fun v4 =>xF (fFld 7) [(locP 2)] fun v7 =>xO (gLoad 1 false [v7] c2) fun v8 =>xF (fFld 8) [(locP 2)] fun v9 =>xO (gLoad 1 false [v9] c2) fun v10 =>s_aq [v8, v10] (fun v11 σ =>xF (fFld 7) [(locP 2)] fun v13 =>xO (gLoad 1 false [v13] c2) fun v14 =>xF fMove [a1] fun v15 =>s_as [v14, v15] (fun v16 σ =>xF fMove [v16] fun v12 =>xF (fExt 0) [v12] fun v17 =>xF (fExt 1) [v12] fun v18 =>xF fMove [v17] fun v5 =>xF fMove [v18] fun v6 =>xF fMove [v5] fun v19 =>xF fMove [v19] fun v4 =>K v4 σ) σ) σ
def s_aj : Spec := fun args K σ => match args with
  | [a0, a1] => w_aj a0 a1 K σ
  | _ => False
noncomputable def cx_aj : Cx := { P := Try.prog, T := [(63, .write, s_aq), (64, .write, s_as)], loc := [(2, 2), (7, 2), (9, 2), (13, 2)], eqt := [], n := 20, keep := [] }
theorem q_aj : FnS cx_aj Try.f28 (bodyOf Try.f28) 2 = s_aj := by
  funext args K σ
  rcases args with _ | ⟨a0, _ | ⟨a1, _ | ⟨b, r⟩⟩⟩ <;> kernel_rfl
theorem e_aj : Entry Try.prog 28 .write s_aj :=
  entry (C := cx_aj) (TOk.cons e_aq (TOk.cons e_as TOk.nil)) mixedOk Try.func28 (by kernel_rfl) (by kernel_rfl) (by kernel_rfl) q_aj
def xl_aj : List (Nat × Nat) := [(2, 2), (7, 2), (9, 2), (13, 2)]
noncomputable def xc_aj : XC XN :=
(.seq none
 (.reg [zy xl_aj (.lb 2 9) 2 [.tmp 0],
  zc 4 (.int .u64 0)])
 (.seq none
 (.reg [zF 7 7 2,
  zr 2 8 7,
  zF 8 9 2,
  zr 2 10 9,
  zk .write s_aq v_aq 11 [.tmp 8, .tmp 10]])
 (.seq none
 (.reg [zF 7 13 2,
  zr 2 14 13,
  zM 15 1,
  zk .write s_as v_as 16 [.tmp 14, .tmp 15],
  zM 12 16,
  zy xl_aj (.f (fExt 0)) 17 [.tmp 12],
  zy xl_aj (.f (fExt 1)) 18 [.tmp 12],
  zM 5 17,
  zM 6 18])
 (.seq none
 (.reg [zM 19 5,
  zM 4 19])
 .ret))))
noncomputable def v_aj : EvF := evFn 2 xc_aj [.t 4]
theorem xt_aj : toC cx_aj (bodyOf Try.f28) = some (xc_aj.map XN.sm) := by kernel_rfl
theorem xr_aj : toR cx_aj Try.f28.results.toList = some [.t 4] := by kernel_rfl
theorem xo_aj : xc_aj.ok xl_aj := ⟨⟨r_a (trivial), r_m, trivial⟩, ⟨⟨r_f _, r_r _, r_f _, r_r _, r_c ve_aq, trivial⟩, ⟨⟨r_f _, r_r _, r_m, r_c ve_as, r_m, r_a (eqv_ext _), r_a (eqv_ext _), r_m, r_m, trivial⟩, ⟨⟨r_m, r_m, trivial⟩, trivial⟩⟩⟩⟩
theorem ve_aj : EvOk s_aj v_aj := EvOk.of (evFn_sound (C := cx_aj) xt_aj xr_aj xo_aj) q_aj
attribute [irreducible] w_aj s_aj
def w_ah (a0 a1 : Value) (K : Value → Mem → Prop) (σ : Mem) : Prop :=xC (gBox 7 [a0] []) fun c2 =>xF fMove [.int .i64 0] fun v4 =>xF (fFld 0) [(locP 2)] fun v5 =>xO (gLoad 1 false [v5] c2) fun v6 =>xF (fBin .add .no) [.int .i64 6, v6] fun v7 =>xF (fFld 1) [(locP 2)] fun v8 =>xO (gLoad 1 false [v8] c2) fun v9 =>xF (fBin .mul .no) [.int .i64 2, v9] fun v10 =>xF (fBin .add .no) [v7, v10] fun v11 =>xF fMove [a1] fun v12 =>xF (fBin .mul .no) [.int .i64 3, v12] fun v13 =>xF (fBin .add .no) [v11, v13] fun v14 =>xF fMove [v14] fun v4 =>K v4 σ
def s_ah : Spec := fun args K σ => match args with
  | [a0, a1] => w_ah a0 a1 K σ
  | _ => False
noncomputable def cx_ah : Cx := { P := Try.prog, T := [], loc := [(2, 2), (5, 2), (8, 2)], eqt := [], n := 15, keep := [] }
theorem q_ah : FnS cx_ah Try.f13 (bodyOf Try.f13) 2 = s_ah := by
  funext args K σ
  rcases args with _ | ⟨a0, _ | ⟨a1, _ | ⟨b, r⟩⟩⟩ <;> kernel_rfl
theorem e_ah : Entry Try.prog 13 .none s_ah :=
  entry (C := cx_ah) TOk.nil mixedOk Try.func13 (by kernel_rfl) (by kernel_rfl) (by kernel_rfl) q_ah
def xl_ah : List (Nat × Nat) := [(2, 2), (5, 2), (8, 2)]
noncomputable def xc_ah : XC XN :=
(.seq none
 (.reg [zy xl_ah (.lb 2 7) 2 [.tmp 0],
  zc 4 (.int .i64 0)])
 (.seq none
 (.reg [zF 0 5 2,
  zr 2 6 5,
  zb .add rAdd 7 [.const (.int .i64 6), .tmp 6],
  zF 1 8 2,
  zr 2 9 8,
  zb .mul rMul 10 [.const (.int .i64 2), .tmp 9],
  zb .add rAdd 11 [.tmp 7, .tmp 10],
  zM 12 1,
  zb .mul rMul 13 [.const (.int .i64 3), .tmp 12],
  zb .add rAdd 14 [.tmp 11, .tmp 13],
  zM 4 14])
 .ret))
noncomputable def v_ah : EvF := evFn 2 xc_ah [.t 4]
theorem xt_ah : toC cx_ah (bodyOf Try.f13) = some (xc_ah.map XN.sm) := by kernel_rfl
theorem xr_ah : toR cx_ah Try.f13.results.toList = some [.t 4] := by kernel_rfl
theorem xo_ah : xc_ah.ok xl_ah := ⟨⟨r_a (trivial), r_m, trivial⟩, ⟨⟨r_f _, r_r _, r_d, r_f _, r_r _, rMul_ok, r_d, r_m, rMul_ok, r_d, r_m, trivial⟩, trivial⟩⟩
theorem ve_ah : EvOk s_ah v_ah := EvOk.of (evFn_sound (C := cx_ah) xt_ah xr_ah xo_ah) q_ah
attribute [irreducible] w_ah s_ah
def w_a5 (a0 : Value) (K : Value → Mem → Prop) (σ : Mem) : Prop :=if true = true then (xC (gAlloc [.int .i64 0, .int .i64 0, .int .i64 0, .int .i64 0] [] []) fun c2 =>xF fMove [a0] fun v3 =>xF (fBin .and .no) [v3, .int .u64 3] fun v4 =>xF (fConv .i64) [v4] fun v5 =>xF fMove [a0] fun v6 =>xF (fBin .shr .no) [v6, .int .u64 2] fun v7 =>xF (fBin .and .no) [v7, .int .u64 63] fun v8 =>xF (fConv .i64) [v8] fun v9 =>xF fMove [a0] fun v10 =>xF (fBin .shr .no) [v10, .int .u64 8] fun v11 =>xF (fBin .and .no) [v11, .int .u64 1048575] fun v12 =>xF (fConv .i64) [v12] fun v13 =>xF fMove [a0] fun v14 =>xF (fBin .shr .no) [v14, .int .u64 28] fun v15 =>xF (fBin .and .no) [v15, .int .u64 68719476735] fun v16 =>xF (fConv .i64) [v16] fun v17 =>xF (fBuild [(0, 1), (1, 1), (2, 1), (3, 1)] [.int .i64 0, .int .i64 0, .int .i64 0, .int .i64 0] [0, 1, 2, 3]) [v5, v9, v13, v17] fun v18 =>xC (gStore 4 [(locP 2), v18] c2) fun c2 =>xO (gLoad 4 true [(locP 2)] c2) fun r2 =>K r2 σ) else False
def s_a5 : Spec := fun args K σ => match args with
  | [a0] => w_a5 a0 K σ
  | _ => False
noncomputable def cx_a5 : Cx := { P := Try.prog, T := [], loc := [(2, 2)], eqt := [], n := 19, keep := [] }
theorem q_a5 : FnS cx_a5 Try.f12 (bodyOf Try.f12) 1 = s_a5 := by
  funext args K σ
  rcases args with _ | ⟨a0, _ | ⟨b, r⟩⟩ <;> kernel_rfl
theorem e_a5 : Entry Try.prog 12 .none s_a5 :=
  entry (C := cx_a5) TOk.nil mixedOk Try.func12 (by kernel_rfl) (by kernel_rfl) (by kernel_rfl) q_a5
def xl_a5 : List (Nat × Nat) := [(2, 2)]
noncomputable def xc_a5 : XC XN :=
(.seq none
 (.reg [zy xl_a5 (.la 2 [.int .i64 0, .int .i64 0, .int .i64 0, .int .i64 0]) 2 []])
 (.seq none
 (.reg [zM 3 0,
  zy xl_a5 (.band .no) 4 [.tmp 3, .const (.int .u64 3)],
  zz (.f (fConv .i64)) (rConv .i64) (some 5) [.tmp 4],
  zM 6 0,
  zy xl_a5 (.f (fBin .shr .no)) 7 [.tmp 6, .const (.int .u64 2)],
  zy xl_a5 (.band .no) 8 [.tmp 7, .const (.int .u64 63)],
  zz (.f (fConv .i64)) (rConv .i64) (some 9) [.tmp 8],
  zM 10 0,
  zy xl_a5 (.f (fBin .shr .no)) 11 [.tmp 10, .const (.int .u64 8)],
  zy xl_a5 (.band .no) 12 [.tmp 11, .const (.int .u64 1048575)],
  zz (.f (fConv .i64)) (rConv .i64) (some 13) [.tmp 12],
  zM 14 0,
  zy xl_a5 (.f (fBin .shr .no)) 15 [.tmp 14, .const (.int .u64 28)],
  zy xl_a5 (.band .no) 16 [.tmp 15, .const (.int .u64 68719476735)],
  zz (.f (fConv .i64)) (rConv .i64) (some 17) [.tmp 16],
  zy xl_a5 (.f (fBuild [(0, 1), (1, 1), (2, 1), (3, 1)] [.int .i64 0, .int .i64 0, .int .i64 0, .int .i64 0] [0, 1, 2, 3])) 18 [.tmp 5, .tmp 9, .tmp 13, .tmp 17],
  zY xl_a5 (.ls 2 4) [.tmp 2, .tmp 18]])
 .ret))
noncomputable def v_a5 : EvF := evFn 1 xc_a5 [.c 2 2 4 true]
theorem xt_a5 : toC cx_a5 (bodyOf Try.f12) = some (xc_a5.map XN.sm) := by kernel_rfl
theorem xr_a5 : toR cx_a5 Try.f12.results.toList = some [.c 2 2 4 true] := by kernel_rfl
theorem xo_a5 : xc_a5.ok xl_a5 := ⟨⟨r_a (trivial), trivial⟩, ⟨⟨r_m, r_a (trivial), r_v _, r_m, r_a (eqv_bin _ _), r_a (trivial), r_v _, r_m, r_a (eqv_bin _ _), r_a (trivial), r_v _, r_m, r_a (eqv_bin _ _), r_a (trivial), r_v _, r_a (eqv_build _ rfl _), r_a (trivial), trivial⟩, trivial⟩⟩
theorem ve_a5 : EvOk s_a5 v_a5 := EvOk.of (evFn_sound (C := cx_a5) xt_a5 xr_a5 xo_a5) q_a5
attribute [irreducible] w_a5 s_a5
def w_an (a0 : Value) (K : Value → Mem → Prop) (σ : Mem) : Prop :=xF fMove [.int .i64 0] fun v2 =>xF fMove [a0] fun v3 =>xF (fBin .shl .no) [.int .i64 2, v3] fun v4 =>xF (fBin .add .no) [.int .i64 1, v4] fun v5 =>xF fMove [v5] fun v2 =>K v2 σ
def s_an : Spec := fun args K σ => match args with
  | [a0] => w_an a0 K σ
  | _ => False
noncomputable def cx_an : Cx := { P := Try.prog, T := [], loc := [], eqt := [], n := 6, keep := [] }
theorem q_an : FnS cx_an Try.f29 (bodyOf Try.f29) 1 = s_an := by
  funext args K σ
  rcases args with _ | ⟨a0, _ | ⟨b, r⟩⟩ <;> kernel_rfl
theorem e_an : Entry Try.prog 29 .none s_an :=
  entry (C := cx_an) TOk.nil mixedOk Try.func29 (by kernel_rfl) (by kernel_rfl) (by kernel_rfl) q_an
def xl_an : List (Nat × Nat) := []
noncomputable def xc_an : XC XN :=
(.seq none
 (.reg [zc 2 (.int .i64 0)])
 (.seq none
 (.reg [zM 3 0,
  zy xl_an (.f (fBin .shl .no)) 4 [.const (.int .i64 2), .tmp 3],
  zb .add rAdd 5 [.const (.int .i64 1), .tmp 4],
  zM 2 5])
 .ret))
noncomputable def v_an : EvF := evFn 1 xc_an [.t 2]
theorem xt_an : toC cx_an (bodyOf Try.f29) = some (xc_an.map XN.sm) := by kernel_rfl
theorem xr_an : toR cx_an Try.f29.results.toList = some [.t 2] := by kernel_rfl
theorem xo_an : xc_an.ok xl_an := ⟨⟨r_m, trivial⟩, ⟨⟨r_m, r_a (eqv_bin _ _), r_d, r_m, trivial⟩, trivial⟩⟩
theorem ve_an : EvOk s_an v_an := EvOk.of (evFn_sound (C := cx_an) xt_an xr_an xo_an) q_an
attribute [irreducible] w_an s_an
def w_a6 (a0 : Value) (K : Value → Mem → Prop) (σ : Mem) : Prop :=xC (gBox 4 [a0] []) fun c1 =>xF fMove [.int .u64 0] fun v2 =>xF (fFld 0) [(locP 1)] fun v3 =>xO (gLoad 1 false [v3] c1) fun v4 =>s_a9 [v4, .int .i64 3] (fun v5 σ =>xF (fFld 1) [(locP 1)] fun v6 =>xO (gLoad 1 false [v6] c1) fun v7 =>s_a9 [v7, .int .i64 63] (fun v8 σ =>xF (fBin .shl .no) [v8, .int .u64 2] fun v9 =>xF (fBin .or .no) [v5, v9] fun v10 =>xF (fFld 2) [(locP 1)] fun v11 =>xO (gLoad 1 false [v11] c1) fun v12 =>s_a9 [v12, .int .i64 1048575] (fun v13 σ =>xF (fBin .shl .no) [v13, .int .u64 8] fun v14 =>xF (fBin .or .no) [v10, v14] fun v15 =>xF (fFld 3) [(locP 1)] fun v16 =>xO (gLoad 1 false [v16] c1) fun v17 =>s_a9 [v17, .int .i64 68719476735] (fun v18 σ =>xF (fBin .shl .no) [v18, .int .u64 28] fun v19 =>xF (fBin .or .no) [v15, v19] fun v20 =>xF fMove [v20] fun v2 =>K v2 σ) σ) σ) σ) σ
def s_a6 : Spec := fun args K σ => match args with
  | [a0] => w_a6 a0 K σ
  | _ => False
noncomputable def cx_a6 : Cx := { P := Try.prog, T := [(66, .none, s_a9)], loc := [(1, 1), (3, 1), (6, 1), (11, 1), (16, 1)], eqt := [], n := 21, keep := [] }
theorem q_a6 : FnS cx_a6 Try.f34 (bodyOf Try.f34) 1 = s_a6 := by
  funext args K σ
  rcases args with _ | ⟨a0, _ | ⟨b, r⟩⟩ <;> kernel_rfl
theorem e_a6 : Entry Try.prog 34 .none s_a6 :=
  entry (C := cx_a6) (TOk.cons e_a9 TOk.nil) mixedOk Try.func34 (by kernel_rfl) (by kernel_rfl) (by kernel_rfl) q_a6
def xl_a6 : List (Nat × Nat) := [(1, 1), (3, 1), (6, 1), (11, 1), (16, 1)]
noncomputable def xc_a6 : XC XN :=
(.seq none
 (.reg [zy xl_a6 (.lb 1 4) 1 [.tmp 0],
  zc 2 (.int .u64 0)])
 (.seq none
 (.reg [zF 0 3 1,
  zr 1 4 3,
  zk .none s_a9 v_a9 5 [.tmp 4, .const (.int .i64 3)],
  zF 1 6 1,
  zr 1 7 6,
  zk .none s_a9 v_a9 8 [.tmp 7, .const (.int .i64 63)],
  zy xl_a6 (.f (fBin .shl .no)) 9 [.tmp 8, .const (.int .u64 2)],
  zy xl_a6 (.f (fBin .or .no)) 10 [.tmp 5, .tmp 9],
  zF 2 11 1,
  zr 1 12 11,
  zk .none s_a9 v_a9 13 [.tmp 12, .const (.int .i64 1048575)],
  zy xl_a6 (.f (fBin .shl .no)) 14 [.tmp 13, .const (.int .u64 8)],
  zy xl_a6 (.f (fBin .or .no)) 15 [.tmp 10, .tmp 14],
  zF 3 16 1,
  zr 1 17 16,
  zk .none s_a9 v_a9 18 [.tmp 17, .const (.int .i64 68719476735)],
  zy xl_a6 (.f (fBin .shl .no)) 19 [.tmp 18, .const (.int .u64 28)],
  zy xl_a6 (.f (fBin .or .no)) 20 [.tmp 15, .tmp 19],
  zM 2 20])
 .ret))
noncomputable def v_a6 : EvF := evFn 1 xc_a6 [.t 2]
theorem xt_a6 : toC cx_a6 (bodyOf Try.f34) = some (xc_a6.map XN.sm) := by kernel_rfl
theorem xr_a6 : toR cx_a6 Try.f34.results.toList = some [.t 2] := by kernel_rfl
theorem xo_a6 : xc_a6.ok xl_a6 := ⟨⟨r_a (trivial), r_m, trivial⟩, ⟨⟨r_f _, r_r _, r_c ve_a9, r_f _, r_r _, r_c ve_a9, r_a (eqv_bin _ _), r_a (eqv_bin _ _), r_f _, r_r _, r_c ve_a9, r_a (eqv_bin _ _), r_a (eqv_bin _ _), r_f _, r_r _, r_c ve_a9, r_a (eqv_bin _ _), r_a (eqv_bin _ _), r_m, trivial⟩, trivial⟩⟩
theorem ve_a6 : EvOk s_a6 v_a6 := EvOk.of (evFn_sound (C := cx_a6) xt_a6 xr_a6 xo_a6) q_a6
attribute [irreducible] w_a6 s_a6
def w_ar (a0 a1 a2 a3 : Value) (K : Value → Mem → Prop) (σ : Mem) : Prop :=xF fMove [.bool false] fun v8 =>xF fMove [.int .i64 0] fun v9 =>xF fMove [a0] fun v10 =>xF fMove [a1] fun v11 =>s_aw [v10, v11] (fun v12 σ =>xF (fUn .not) [v12] fun v13 =>xIf v13
 (xF fMove [.bool false] fun v8 =>xF fMove [.int .i64 2] fun v9 =>K (.tuple #[v8, v9]) σ)
 (xF fMove [a0] fun v14 =>xF fNil [v14] fun v15 =>xF (fFld 0) [v15] fun v16 =>hLoad 1 false [v16] (fun v17 σ =>xF fMove [a1] fun v18 =>xF (fIxS 1) [v17, v18] fun v19 =>hLoad 1 false [v19] (fun v20 σ =>xF fMove [a2] fun v21 =>xF (fBin .neq .no) [v20, v21] fun v22 =>xIf v22
 (xF fMove [.bool false] fun v8 =>xF fMove [.int .i64 0] fun v9 =>K (.tuple #[v8, v9]) σ)
 (xF fMove [a0] fun v23 =>xF fMove [a1] fun v24 =>xF fMove [a3] fun v25 =>s_av [v23, v24, v25] (fun v26 σ =>xF fMove [.bool true] fun v8 =>xF fMove [.int .i64 0] fun v9 =>K (.tuple #[v8, v9]) σ) σ)) σ) σ)) σ
def s_ar : Spec := fun args K σ => match args with
  | [a0, a1, a2, a3] => w_ar a0 a1 a2 a3 K σ
  | _ => False
noncomputable def cx_ar : Cx := { P := Try.prog, T := [(79, .write, s_aw), (80, .write, s_av)], loc := [], eqt := [], n := 27, keep := [] }
theorem q_ar : FnS cx_ar Try.f65 (bodyOf Try.f65) 4 = s_ar := by
  funext args K σ
  rcases args with _ | ⟨a0, _ | ⟨a1, _ | ⟨a2, _ | ⟨a3, _ | ⟨b, r⟩⟩⟩⟩⟩ <;> kernel_rfl
theorem e_ar : Entry Try.prog 65 .write s_ar :=
  entry (C := cx_ar) (TOk.cons e_aw (TOk.cons e_av TOk.nil)) mixedOk Try.func65 (by kernel_rfl) (by kernel_rfl) (by kernel_rfl) q_ar
def xl_ar : List (Nat × Nat) := []
noncomputable def xc_ar : XC XN :=
(.seq none
 (.reg [zc 8 (.bool false),
  zc 9 (.int .i64 0)])
 (.seq none
 (.seq none
 (.reg [zM 10 0,
  zM 11 1,
  zk .write s_aw v_aw 12 [.tmp 10, .tmp 11],
  zz (.f (fUn .not)) rNot (some 13) [.tmp 12]])
 (.cond (.tmp 13)
 (.seq none
 (.reg [zc 8 (.bool false),
  zc 9 (.int .i64 2)])
 .ret)
 .skip))
 (.seq none
 (.seq none
 (.reg [zM 14 0,
  zN 15 14,
  zF 0 16 15,
  zL 17 16,
  zM 18 1,
  zz (.f (fIxS 1)) (rIxS 1) (some 19) [.tmp 17, .tmp 18],
  zL 20 19,
  zM 21 2,
  zb .neq rNeq 22 [.tmp 20, .tmp 21]])
 (.cond (.tmp 22)
 (.seq none
 (.reg [zc 8 (.bool false),
  zc 9 (.int .i64 0)])
 .ret)
 .skip))
 (.seq none
 (.reg [zM 23 0,
  zM 24 1,
  zM 25 3,
  zk .write s_av v_av 26 [.tmp 23, .tmp 24, .tmp 25]])
 (.seq none
 (.reg [zc 8 (.bool true),
  zc 9 (.int .i64 0)])
 .ret)))))
noncomputable def v_ar : EvF := evFn 4 xc_ar [.t 8, .t 9]
theorem xt_ar : toC cx_ar (bodyOf Try.f65) = some (xc_ar.map XN.sm) := by kernel_rfl
theorem xr_ar : toR cx_ar Try.f65.results.toList = some [.t 8, .t 9] := by kernel_rfl
theorem xo_ar : xc_ar.ok xl_ar := ⟨⟨r_m, r_m, trivial⟩, ⟨⟨⟨r_m, r_m, r_c ve_aw, r_t, trivial⟩, ⟨⟨⟨r_m, r_m, trivial⟩, trivial⟩, trivial⟩⟩, ⟨⟨⟨r_m, r_n, r_f _, r_l, r_m, rIxS_ok _, r_l, r_m, rNeq_ok, trivial⟩, ⟨⟨⟨r_m, r_m, trivial⟩, trivial⟩, trivial⟩⟩, ⟨⟨r_m, r_m, r_m, r_c ve_av, trivial⟩, ⟨⟨r_m, r_m, trivial⟩, trivial⟩⟩⟩⟩⟩
theorem ve_ar : EvOk s_ar v_ar := EvOk.of (evFn_sound (C := cx_ar) xt_ar xr_ar xo_ar) q_ar
attribute [irreducible] w_ar s_ar
def w_ai (a0 a1 a2 a3 : Value) (K : Value → Mem → Prop) (σ : Mem) : Prop :=xC (gBox 9 [a0] []) fun c4 =>xF fMove [.bool false] fun v8 =>xF (fFld 7) [(locP 4)] fun v11 =>xO (gLoad 1 false [v11] c4) fun v12 =>xF (fFld 8) [(locP 4)] fun v13 =>xO (gLoad 1 false [v13] c4) fun v14 =>s_aq [v12, v14] (fun v15 σ =>xF (fFld 7) [(locP 4)] fun v17 =>xO (gLoad 1 false [v17] c4) fun v18 =>xF fMove [a1] fun v19 =>xF fMove [a2] fun v20 =>xF fMove [a3] fun v21 =>s_ar [v18, v19, v20, v21] (fun v22 σ =>xF fMove [v22] fun v16 =>xF (fExt 0) [v16] fun v23 =>xF (fExt 1) [v16] fun v24 =>xF fMove [v23] fun v9 =>xF fMove [v24] fun v10 =>xF fMove [v9] fun v25 =>xF fMove [v25] fun v8 =>K v8 σ) σ) σ
def s_ai : Spec := fun args K σ => match args with
  | [a0, a1, a2, a3] => w_ai a0 a1 a2 a3 K σ
  | _ => False
noncomputable def cx_ai : Cx := { P := Try.prog, T := [(63, .write, s_aq), (65, .write, s_ar)], loc := [(4, 4), (11, 4), (13, 4), (17, 4)], eqt := [], n := 26, keep := [] }
theorem q_ai : FnS cx_ai Try.f32 (bodyOf Try.f32) 4 = s_ai := by
  funext args K σ
  rcases args with _ | ⟨a0, _ | ⟨a1, _ | ⟨a2, _ | ⟨a3, _ | ⟨b, r⟩⟩⟩⟩⟩ <;> kernel_rfl
theorem e_ai : Entry Try.prog 32 .write s_ai :=
  entry (C := cx_ai) (TOk.cons e_aq (TOk.cons e_ar TOk.nil)) mixedOk Try.func32 (by kernel_rfl) (by kernel_rfl) (by kernel_rfl) q_ai
def xl_ai : List (Nat × Nat) := [(4, 4), (11, 4), (13, 4), (17, 4)]
noncomputable def xc_ai : XC XN :=
(.seq none
 (.reg [zy xl_ai (.lb 4 9) 4 [.tmp 0],
  zc 8 (.bool false)])
 (.seq none
 (.reg [zF 7 11 4,
  zr 4 12 11,
  zF 8 13 4,
  zr 4 14 13,
  zk .write s_aq v_aq 15 [.tmp 12, .tmp 14]])
 (.seq none
 (.reg [zF 7 17 4,
  zr 4 18 17,
  zM 19 1,
  zM 20 2,
  zM 21 3,
  zk .write s_ar v_ar 22 [.tmp 18, .tmp 19, .tmp 20, .tmp 21],
  zM 16 22,
  zy xl_ai (.f (fExt 0)) 23 [.tmp 16],
  zy xl_ai (.f (fExt 1)) 24 [.tmp 16],
  zM 9 23,
  zM 10 24])
 (.seq none
 (.reg [zM 25 9,
  zM 8 25])
 .ret))))
noncomputable def v_ai : EvF := evFn 4 xc_ai [.t 8]
theorem xt_ai : toC cx_ai (bodyOf Try.f32) = some (xc_ai.map XN.sm) := by kernel_rfl
theorem xr_ai : toR cx_ai Try.f32.results.toList = some [.t 8] := by kernel_rfl
theorem xo_ai : xc_ai.ok xl_ai := ⟨⟨r_a (trivial), r_m, trivial⟩, ⟨⟨r_f _, r_r _, r_f _, r_r _, r_c ve_aq, trivial⟩, ⟨⟨r_f _, r_r _, r_m, r_m, r_m, r_c ve_ar, r_m, r_a (eqv_ext _), r_a (eqv_ext _), r_m, r_m, trivial⟩, ⟨⟨r_m, r_m, trivial⟩, trivial⟩⟩⟩⟩
theorem ve_ai : EvOk s_ai v_ai := EvOk.of (evFn_sound (C := cx_ai) xt_ai xr_ai xo_ai) q_ai
attribute [irreducible] w_ai s_ai
def w_a2 (a0 a1 : Value) (K : Value → Mem → Prop) (σ : Mem) : Prop :=xC (gBox 9 [a1] []) fun c3 =>xF fMove [.bool false] fun v4 =>xF fMove [a0] fun v7 =>xF fNil [v7] fun v8 =>xF (fFld 4) [v8] fun v9 =>hLoad 1 false [v9] (fun v10 σ =>s_a5 [v10] (fun v11 σ =>xC (gStore 4 [(locP 5), v11] [.int .i64 0, .int .i64 0, .int .i64 0, .int .i64 0]) fun c5 =>xF (fFld 2) [(locP 5)] fun v12 =>xO (gLoad 1 false [v12] c5) fun v13 =>xF fMove [v13] fun v6 =>xF (fFld 2) [(locP 5)] fun v14 =>xO (gLoad 1 false [v14] c5) fun v15 =>xF fMove [a0] fun v16 =>xF fNil [v16] fun v17 =>xF (fFld 0) [v17] fun v18 =>hLoad 1 false [v18] (fun v19 σ =>s_an [v19] (fun v20 σ =>xF (fBin .add .no) [v15, v20] fun v21 =>xF (fFld 2) [(locP 5)] fun v22 =>xC (gStore 1 [v22, v21] c5) fun c5 =>xF fMove [a0] fun v23 =>xF fNil [v23] fun v24 =>xF (fFld 1) [v24] fun v25 =>hStore 1 [v25, .int .i64 0] (fun _v σ =>xO (gLoad 9 true [(locP 3)] c3) fun v26 =>xF (fFld 0) [(locP 3)] fun v27 =>xO (gLoad 7 true [v27] c3) fun v28 =>xF fMove [a0] fun v29 =>xF fNil [v29] fun v30 =>xF (fFld 3) [v30] fun v31 =>hLoad 1 false [v31] (fun v32 σ =>s_ah [v28, v32] (fun v33 σ =>xF fMove [a0] fun v34 =>xF fNil [v34] fun v35 =>xF (fFld 4) [v35] fun v36 =>hLoad 1 false [v36] (fun v37 σ =>xO (gLoad 4 true [(locP 5)] c5) fun v38 =>s_a6 [v38] (fun v39 σ =>s_ai [v26, v33, v37, v39] (fun v40 σ =>xF (fUn .not) [v40] fun v41 =>xIf v41
 (xF fMove [.bool false] fun v4 =>K v4 σ)
 (xF fMove [a0] fun v42 =>xF fMove [a0] fun v43 =>xF (fFld 0) [(locP 3)] fun v44 =>xO (gLoad 7 true [v44] c3) fun v45 =>xF fMove [a0] fun v46 =>xF fNil [v46] fun v47 =>xF (fFld 3) [v47] fun v48 =>hLoad 1 false [v48] (fun v49 σ =>s_af [v45, v49] (fun v50 σ =>xF fMove [v6] fun v51 =>xF (fBin .add .no) [v50, v51] fun v52 =>xF fMove [a0] fun v53 =>xF fNil [v53] fun v54 =>xF (fFld 3) [v54] fun v55 =>hLoad 1 false [v55] (fun v56 σ =>xF (fBuild [(0, 1), (1, 1)] [.int .i64 0, .int .i64 0] [0, 1]) [v52, v56] fun v57 =>xF fNil [v42] fun v58 =>xF (fFld 5) [v58] fun v59 =>hStore 2 [v59, v57] (fun _v σ =>xF fNil [v43] fun v60 =>xF (fFld 7) [v60] fun v61 =>hStore 1 [v61, .bool true] (fun _v σ =>xF fMove [.bool true] fun v4 =>K v4 σ) σ) σ) σ) σ) σ)) σ) σ) σ) σ) σ) σ) σ) σ) σ) σ
def s_a2 : Spec := fun args K σ => match args with
  | [a0, a1] => w_a2 a0 a1 K σ
  | _ => False
noncomputable def cx_a2 : Cx := { P := Try.prog, T := [(12, .none, s_a5), (29, .none, s_an), (13, .none, s_ah), (34, .none, s_a6), (32, .write, s_ai), (27, .none, s_af)], loc := [(3, 3), (5, 5), (12, 5), (14, 5), (22, 5), (27, 3), (44, 3)], eqt := [], n := 62, keep := [] }
theorem q_a2 : FnS cx_a2 Try.f30 (bodyOf Try.f30) 2 = s_a2 := by
  funext args K σ
  rcases args with _ | ⟨a0, _ | ⟨a1, _ | ⟨b, r⟩⟩⟩ <;> kernel_rfl
theorem e_a2 : Entry Try.prog 30 .write s_a2 :=
  entry (C := cx_a2) (TOk.cons e_a5 (TOk.cons e_an (TOk.cons e_ah (TOk.cons e_a6 (TOk.cons e_ai (TOk.cons e_af TOk.nil)))))) mixedOk Try.func30 (by kernel_rfl) (by kernel_rfl) (by kernel_rfl) q_a2
def xl_a2 : List (Nat × Nat) := [(3, 3), (5, 5), (12, 5), (14, 5), (22, 5), (27, 3), (44, 3)]
noncomputable def xc_a2 : XC XN :=
(.seq none
 (.reg [zy xl_a2 (.lb 3 9) 3 [.tmp 1],
  zc 4 (.bool false)])
 (.seq none
 (.reg [zM 7 0,
  zN 8 7,
  zF 4 9 8,
  zL 10 9,
  zk .none s_a5 v_a5 11 [.tmp 10],
  zy xl_a2 (.la 5 [.int .i64 0, .int .i64 0, .int .i64 0, .int .i64 0]) 5 [],
  zY xl_a2 (.ls 5 4) [.tmp 5, .tmp 11]])
 (.seq none
 (.reg [zF 2 12 5,
  zr 5 13 12,
  zM 6 13])
 (.seq none
 (.reg [zF 2 14 5,
  zr 5 15 14,
  zM 16 0,
  zN 17 16,
  zF 0 18 17,
  zL 19 18,
  zk .none s_an v_an 20 [.tmp 19],
  zb .add rAdd 21 [.tmp 15, .tmp 20],
  zF 2 22 5,
  zz (.ls 5 1) (rLs1 5) none [.tmp 22, .tmp 21]])
 (.seq none
 (.reg [zM 23 0,
  zN 24 23,
  zF 1 25 24,
  zS [.tmp 25, .const (.int .i64 0)]])
 (.seq none
 (.seq none
 (.reg [zy xl_a2 (.lr 3 9 true) 26 [.tmp 3],
  zF 0 27 3,
  zy xl_a2 (.lr 3 7 true) 28 [.tmp 27],
  zM 29 0,
  zN 30 29,
  zF 3 31 30,
  zL 32 31,
  zk .none s_ah v_ah 33 [.tmp 28, .tmp 32],
  zM 34 0,
  zN 35 34,
  zF 4 36 35,
  zL 37 36,
  zy xl_a2 (.lr 5 4 true) 38 [.tmp 5],
  zk .none s_a6 v_a6 39 [.tmp 38],
  zk .write s_ai v_ai 40 [.tmp 26, .tmp 33, .tmp 37, .tmp 39],
  zz (.f (fUn .not)) rNot (some 41) [.tmp 40]])
 (.cond (.tmp 41)
 (.seq none
 (.reg [zc 4 (.bool false)])
 .ret)
 .skip))
 (.seq none
 (.reg [zM 42 0,
  zM 43 0,
  zF 0 44 3,
  zy xl_a2 (.lr 3 7 true) 45 [.tmp 44],
  zM 46 0,
  zN 47 46,
  zF 3 48 47,
  zL 49 48,
  zk .none s_af v_af 50 [.tmp 45, .tmp 49],
  zM 51 6,
  zb .add rAdd 52 [.tmp 50, .tmp 51],
  zM 53 0,
  zN 54 53,
  zF 3 55 54,
  zL 56 55,
  zy xl_a2 (.f (fBuild [(0, 1), (1, 1)] [.int .i64 0, .int .i64 0] [0, 1])) 57 [.tmp 52, .tmp 56],
  zN 58 42,
  zF 5 59 58,
  zY xl_a2 (.store 2) [.tmp 59, .tmp 57],
  zN 60 43,
  zF 7 61 60,
  zS [.tmp 61, .const (.bool true)]])
 (.seq none
 (.reg [zc 4 (.bool true)])
 .ret))))))))
noncomputable def v_a2 : EvF := evFn 2 xc_a2 [.t 4]
theorem xt_a2 : toC cx_a2 (bodyOf Try.f30) = some (xc_a2.map XN.sm) := by kernel_rfl
theorem xr_a2 : toR cx_a2 Try.f30.results.toList = some [.t 4] := by kernel_rfl
theorem xo_a2 : xc_a2.ok xl_a2 := ⟨⟨r_a (trivial), r_m, trivial⟩, ⟨⟨r_m, r_n, r_f _, r_l, r_c ve_a5, r_a (trivial), r_a (trivial), trivial⟩, ⟨⟨r_f _, r_r _, r_m, trivial⟩, ⟨⟨r_f _, r_r _, r_m, r_n, r_f _, r_l, r_c ve_an, r_d, r_f _, rLs1_ok _, trivial⟩, ⟨⟨r_m, r_n, r_f _, r_s, trivial⟩, ⟨⟨⟨r_a (trivial), r_f _, r_a (trivial), r_m, r_n, r_f _, r_l, r_c ve_ah, r_m, r_n, r_f _, r_l, r_a (trivial), r_c ve_a6, r_c ve_ai, r_t, trivial⟩, ⟨⟨⟨r_m, trivial⟩, trivial⟩, trivial⟩⟩, ⟨⟨r_m, r_m, r_f _, r_a (trivial), r_m, r_n, r_f _, r_l, r_c ve_af, r_m, r_d, r_m, r_n, r_f _, r_l, r_a (eqv_build _ rfl _), r_n, r_f _, r_a (trivial), r_n, r_f _, r_s, trivial⟩, ⟨⟨r_m, trivial⟩, trivial⟩⟩⟩⟩⟩⟩⟩⟩
theorem ve_a2 : EvOk s_a2 v_a2 := EvOk.of (evFn_sound (C := cx_a2) xt_a2 xr_a2 xo_a2) q_a2
attribute [irreducible] w_a2 s_a2
def w_a3 (a0 a1 : Value) (K : Value → Mem → Prop) (σ : Mem) : Prop :=xC (gBox 9 [a1] []) fun c3 =>xF fMove [.bool false] fun v4 =>xF fMove [a0] fun v5 =>xF fMove [a0] fun v6 =>xF fMove [a0] fun v7 =>xF fNil [v7] fun v8 =>xF (fFld 3) [v8] fun v9 =>hLoad 1 false [v9] (fun v10 σ =>xF (fBin .add .no) [v10, .int .i64 1] fun v11 =>xF fNil [v5] fun v12 =>xF (fFld 3) [v12] fun v13 =>hStore 1 [v13, v11] (fun _v σ =>xF fNil [v6] fun v14 =>xF (fFld 1) [v14] fun v15 =>hStore 1 [v15, .int .i64 3] (fun _v σ =>xF fMove [a0] fun v16 =>xF fNil [v16] fun v17 =>xF (fFld 3) [v17] fun v18 =>hLoad 1 false [v18] (fun v19 σ =>xF (fFld 0) [(locP 3)] fun v20 =>xF (fFld 2) [v20] fun v21 =>xO (gLoad 1 false [v21] c3) fun v22 =>xF (fBin .geq .no) [v19, v22] fun v23 =>xF fMove [v23] fun v4 =>K v4 σ) σ) σ) σ) σ
def s_a3 : Spec := fun args K σ => match args with
  | [a0, a1] => w_a3 a0 a1 K σ
  | _ => False
noncomputable def cx_a3 : Cx := { P := Try.prog, T := [], loc := [(3, 3), (20, 3), (21, 3)], eqt := [], n := 24, keep := [] }
theorem q_a3 : FnS cx_a3 Try.f31 (bodyOf Try.f31) 2 = s_a3 := by
  funext args K σ
  rcases args with _ | ⟨a0, _ | ⟨a1, _ | ⟨b, r⟩⟩⟩ <;> kernel_rfl
theorem e_a3 : Entry Try.prog 31 .write s_a3 :=
  entry (C := cx_a3) TOk.nil mixedOk Try.func31 (by kernel_rfl) (by kernel_rfl) (by kernel_rfl) q_a3
def xl_a3 : List (Nat × Nat) := [(3, 3), (20, 3), (21, 3)]
noncomputable def xc_a3 : XC XN :=
(.seq none
 (.reg [zy xl_a3 (.lb 3 9) 3 [.tmp 1],
  zc 4 (.bool false)])
 (.seq none
 (.reg [zM 5 0,
  zM 6 0,
  zM 7 0,
  zN 8 7,
  zF 3 9 8,
  zL 10 9,
  zb .add rAdd 11 [.tmp 10, .const (.int .i64 1)],
  zN 12 5,
  zF 3 13 12,
  zS [.tmp 13, .tmp 11],
  zN 14 6,
  zF 1 15 14,
  zS [.tmp 15, .const (.int .i64 3)]])
 (.seq none
 (.reg [zM 16 0,
  zN 17 16,
  zF 3 18 17,
  zL 19 18,
  zF 0 20 3,
  zF 2 21 20,
  zr 3 22 21,
  zb .geq rGeq 23 [.tmp 19, .tmp 22],
  zM 4 23])
 .ret)))
noncomputable def v_a3 : EvF := evFn 2 xc_a3 [.t 4]
theorem xt_a3 : toC cx_a3 (bodyOf Try.f31) = some (xc_a3.map XN.sm) := by kernel_rfl
theorem xr_a3 : toR cx_a3 Try.f31.results.toList = some [.t 4] := by kernel_rfl
theorem xo_a3 : xc_a3.ok xl_a3 := ⟨⟨r_a (trivial), r_m, trivial⟩, ⟨⟨r_m, r_m, r_m, r_n, r_f _, r_l, r_d, r_n, r_f _, r_s, r_n, r_f _, r_s, trivial⟩, ⟨⟨r_m, r_n, r_f _, r_l, r_f _, r_f _, r_r _, rGeq_ok, r_m, trivial⟩, trivial⟩⟩⟩
theorem ve_a3 : EvOk s_a3 v_a3 := EvOk.of (evFn_sound (C := cx_a3) xt_a3 xr_a3 xo_a3) q_a3
attribute [irreducible] w_a3 s_a3
def w_a1 (a0 : Value) (K : Value → Mem → Prop) (σ : Mem) : Prop :=xF fMove [.int .u64 0] fun v2 =>xF fMove [a0] fun v3 =>xF fNil [v3] fun v4 =>xF (fFld 0) [v4] fun v5 =>hLoad 1 false [v5] (fun v6 σ =>xF fMove [a0] fun v7 =>xF fNil [v7] fun v8 =>xF (fFld 4) [v8] fun v9 =>hLoad 1 false [v9] (fun v10 σ =>s_a5 [v10] (fun v11 σ =>xF (fFldV 3 1 false) [v11] fun v12 =>xF (fBin .add .no) [v12, .int .i64 1] fun v13 =>xF (fBuild [(0, 1), (1, 1), (2, 1), (3, 1)] [.int .i64 0, .int .i64 0, .int .i64 0, .int .i64 0] [0, 1, 3]) [.int .i64 1, v6, v13] fun v14 =>s_a6 [v14] (fun v15 σ =>xF fMove [v15] fun v2 =>K v2 σ) σ) σ) σ) σ
def s_a1 : Spec := fun args K σ => match args with
  | [a0] => w_a1 a0 K σ
  | _ => False
noncomputable def cx_a1 : Cx := { P := Try.prog, T := [(12, .none, s_a5), (34, .none, s_a6)], loc := [], eqt := [], n := 16, keep := [] }
theorem q_a1 : FnS cx_a1 Try.f33 (bodyOf Try.f33) 1 = s_a1 := by
  funext args K σ
  rcases args with _ | ⟨a0, _ | ⟨b, r⟩⟩ <;> kernel_rfl
theorem e_a1 : Entry Try.prog 33 .read s_a1 :=
  entry (C := cx_a1) (TOk.cons e_a5 (TOk.cons e_a6 TOk.nil)) mixedOk Try.func33 (by kernel_rfl) (by kernel_rfl) (by kernel_rfl) q_a1
def xl_a1 : List (Nat × Nat) := []
noncomputable def xc_a1 : XC XN :=
(.seq none
 (.reg [zc 2 (.int .u64 0)])
 (.seq none
 (.reg [zM 3 0,
  zN 4 3,
  zF 0 5 4,
  zL 6 5,
  zM 7 0,
  zN 8 7,
  zF 4 9 8,
  zL 10 9,
  zk .none s_a5 v_a5 11 [.tmp 10],
  zy xl_a1 (.f (fFldV 3 1 false)) 12 [.tmp 11],
  zb .add rAdd 13 [.tmp 12, .const (.int .i64 1)],
  zy xl_a1 (.f (fBuild [(0, 1), (1, 1), (2, 1), (3, 1)] [.int .i64 0, .int .i64 0, .int .i64 0, .int .i64 0] [0, 1, 3])) 14 [.const (.int .i64 1), .tmp 6, .tmp 13],
  zk .none s_a6 v_a6 15 [.tmp 14],
  zM 2 15])
 .ret))
noncomputable def v_a1 : EvF := evFn 1 xc_a1 [.t 2]
theorem xt_a1 : toC cx_a1 (bodyOf Try.f33) = some (xc_a1.map XN.sm) := by kernel_rfl
theorem xr_a1 : toR cx_a1 Try.f33.results.toList = some [.t 2] := by kernel_rfl
theorem xo_a1 : xc_a1.ok xl_a1 := ⟨⟨r_m, trivial⟩, ⟨⟨r_m, r_n, r_f _, r_l, r_m, r_n, r_f _, r_l, r_c ve_a5, r_a (eqv_fldV _ _ _), r_d, r_a (eqv_build _ rfl _), r_c ve_a6, r_m, trivial⟩, trivial⟩⟩
theorem ve_a1 : EvOk s_a1 v_a1 := EvOk.of (evFn_sound (C := cx_a1) xt_a1 xr_a1 xo_a1) q_a1
attribute [irreducible] w_a1 s_a1
def w_a0_j1b (K : Value → Mem → Prop) (σ : Mem) : Prop :=xF fMove [.bool false] fun v4 =>K v4 σ
def w_a0_j1 (K : Value → Mem → Prop) (ts : List Value) (ls : List (List Value)) (σ : Mem) : Prop := w_a0_j1b K σ
def w_a0_j2b (K : Value → Mem → Prop) (J1 : List Value → List (List Value) → Mem → Prop) (v0 v117 : Value) (σ : Mem) : Prop :=xIf v117
 (xF fMove [v0] fun v118 =>xF fMove [v0] fun v119 =>xF fNil [v118] fun v120 =>xF (fFld 3) [v120] fun v121 =>hStore 1 [v121, .int .i64 0] (fun _v σ =>xF fNil [v119] fun v122 =>xF (fFld 1) [v122] fun v123 =>hStore 1 [v123, .int .i64 3] (fun _v σ =>J1 [] [] σ) σ) σ)
 (J1 [] [] σ)
def w_a0_j2 (K : Value → Mem → Prop) (J1 : List Value → List (List Value) → Mem → Prop) (ts : List Value) (ls : List (List Value)) (σ : Mem) : Prop := w_a0_j2b K J1 (ts.getD 0 poison) (ts.getD 1 poison) σ
def w_a0 (a0 a1 : Value) (K : Value → Mem → Prop) (σ : Mem) : Prop :=xC (gBox 9 [a1] []) fun c3 =>xF fMove [.bool false] fun v4 =>xJoin (w_a0_j1 K) fun J1 =>xF fMove [a0] fun v7 =>xF fNil [v7] fun v8 =>xF (fFld 1) [v8] fun v9 =>hLoad 1 false [v9] (fun v10 σ =>xF (fBin .eql .no) [v10, .int .i64 0] fun v36 =>xF fMove [v36] fun v35 =>xIf v35
 (xF fMove [a0] fun v37 =>xO (gLoad 9 true [(locP 3)] c3) fun v38 =>xF fMove [a0] fun v39 =>xF fNil [v39] fun v40 =>xF (fFld 0) [v40] fun v41 =>hLoad 1 false [v41] (fun v42 σ =>s_am [v42] (fun v43 σ =>s_aj [v38, v43] (fun v44 σ =>xF fNil [v37] fun v45 =>xF (fFld 2) [v45] fun v46 =>hStore 1 [v46, v44] (fun _v σ =>xF fMove [a0] fun v47 =>xF fMove [a0] fun v48 =>xF fMove [a0] fun v49 =>xF fNil [v49] fun v50 =>xF (fFld 2) [v50] fun v51 =>hLoad 1 false [v51] (fun v52 σ =>xF (fConv .i64) [v52] fun v53 =>xF (fBin .sub .no) [v53, .int .i64 1] fun v54 =>xF fNil [v47] fun v55 =>xF (fFld 3) [v55] fun v56 =>hStore 1 [v56, v54] (fun _v σ =>xF fNil [v48] fun v57 =>xF (fFld 1) [v57] fun v58 =>hStore 1 [v58, .int .i64 1] (fun _v σ =>xF fMove [a0] fun v59 =>xF fNil [v59] fun v60 =>xF (fFld 3) [v60] fun v61 =>hLoad 1 false [v61] (fun v62 σ =>xF (fBin .lss .no) [v62, .int .i64 0] fun v63 =>xIf v63
 (xF fMove [a0] fun v64 =>xF fMove [a0] fun v65 =>xF fNil [v64] fun v66 =>xF (fFld 3) [v66] fun v67 =>hStore 1 [v67, .int .i64 0] (fun _v σ =>xF fNil [v65] fun v68 =>xF (fFld 1) [v68] fun v69 =>hStore 1 [v69, .int .i64 3] (fun _v σ =>J1 [] [] σ) σ) σ)
 (J1 [] [] σ)) σ) σ) σ) σ) σ) σ) σ) σ)
 (xF (fBin .eql .no) [v10, .int .i64 1] fun v71 =>xF fMove [v71] fun v70 =>xIf v70
 (xF fMove [a0] fun v72 =>xO (gLoad 9 true [(locP 3)] c3) fun v73 =>xF (fFld 0) [(locP 3)] fun v74 =>xO (gLoad 7 true [v74] c3) fun v75 =>xF fMove [a0] fun v76 =>xF fNil [v76] fun v77 =>xF (fFld 3) [v77] fun v78 =>hLoad 1 false [v78] (fun v79 σ =>s_ah [v75, v79] (fun v80 σ =>s_aj [v73, v80] (fun v81 σ =>xF fNil [v72] fun v82 =>xF (fFld 4) [v82] fun v83 =>hStore 1 [v83, v81] (fun _v σ =>xF fMove [a0] fun v84 =>xF fNil [v84] fun v85 =>xF (fFld 4) [v85] fun v86 =>hLoad 1 false [v86] (fun v87 σ =>s_a5 [v87] (fun v88 σ =>xC (gStore 4 [(locP 5), v88] [.int .i64 0, .int .i64 0, .int .i64 0, .int .i64 0]) fun c5 =>xF fMove [a0] fun v89 =>xF fNil [v89] fun v90 =>xF (fFld 1) [v90] fun v91 =>hStore 1 [v91, .int .i64 2] (fun _v σ =>xJoin (w_a0_j2 K J1) fun J2 =>xF (fFld 0) [(locP 5)] fun v92 =>xO (gLoad 1 false [v92] c5) fun v93 =>xF (fBin .neq .no) [v93, .int .i64 1] fun v94 =>xF fMove [v94] fun v95 =>xIf v95
 (xF fPick [.bool true, .bool true, undef] fun v103 =>xF fMove [v103] fun v104 =>xIf v104
 (xF fPick [.bool true, .bool true, undef] fun v117 =>J2 [a0, v117] [] σ)
 (xF (fFld 2) [(locP 5)] fun v105 =>xO (gLoad 1 false [v105] c5) fun v106 =>xF fMove [a0] fun v107 =>xF fNil [v107] fun v108 =>xF (fFld 0) [v108] fun v109 =>hLoad 1 false [v109] (fun v110 σ =>s_an [v110] (fun v111 σ =>xF (fBin .add .no) [v106, v111] fun v112 =>xF (fFld 0) [(locP 3)] fun v113 =>xF (fFld 3) [v113] fun v114 =>xO (gLoad 1 false [v114] c3) fun v115 =>xF (fBin .gtr .no) [v112, v115] fun v116 =>xF fPick [.bool false, .bool true, v116] fun v117 =>J2 [a0, v117] [] σ) σ) σ))
 (xF (fFld 1) [(locP 5)] fun v96 =>xO (gLoad 1 false [v96] c5) fun v97 =>xF fMove [a0] fun v98 =>xF fNil [v98] fun v99 =>xF (fFld 0) [v99] fun v100 =>hLoad 1 false [v100] (fun v101 σ =>xF (fBin .neq .no) [v97, v101] fun v102 =>xF fPick [.bool false, .bool true, v102] fun v103 =>xF fMove [v103] fun v104 =>xIf v104
 (xF fPick [.bool true, .bool true, undef] fun v117 =>J2 [a0, v117] [] σ)
 (xF (fFld 2) [(locP 5)] fun v105 =>xO (gLoad 1 false [v105] c5) fun v106 =>xF fMove [a0] fun v107 =>xF fNil [v107] fun v108 =>xF (fFld 0) [v108] fun v109 =>hLoad 1 false [v109] (fun v110 σ =>s_an [v110] (fun v111 σ =>xF (fBin .add .no) [v106, v111] fun v112 =>xF (fFld 0) [(locP 3)] fun v113 =>xF (fFld 3) [v113] fun v114 =>xO (gLoad 1 false [v114] c3) fun v115 =>xF (fBin .gtr .no) [v112, v115] fun v116 =>xF fPick [.bool false, .bool true, v116] fun v117 =>J2 [a0, v117] [] σ) σ) σ)) σ)) σ) σ) σ) σ) σ) σ) σ)
 (xF (fBin .eql .no) [v10, .int .i64 2] fun v125 =>xF fMove [v125] fun v124 =>xIf v124
 (xF fMove [a0] fun v126 =>xO (gLoad 9 true [(locP 3)] c3) fun v127 =>s_a2 [v126, v127] (fun v128 σ =>xF fMove [v128] fun v4 =>K v4 σ) σ)
 (xF (fBin .eql .no) [v10, .int .i64 3] fun v130 =>xF fMove [v130] fun v129 =>xIf v129
 (xF fMove [a0] fun v131 =>xO (gLoad 9 true [(locP 3)] c3) fun v132 =>xF (fFld 0) [(locP 3)] fun v133 =>xO (gLoad 7 true [v133] c3) fun v134 =>xF fMove [a0] fun v135 =>xF fNil [v135] fun v136 =>xF (fFld 3) [v136] fun v137 =>hLoad 1 false [v137] (fun v138 σ =>s_ah [v134, v138] (fun v139 σ =>s_aj [v132, v139] (fun v140 σ =>xF fNil [v131] fun v141 =>xF (fFld 4) [v141] fun v142 =>hStore 1 [v142, v140] (fun _v σ =>xF fMove [a0] fun v143 =>xF fNil [v143] fun v144 =>xF (fFld 4) [v144] fun v145 =>hLoad 1 false [v145] (fun v146 σ =>s_a5 [v146] (fun v147 σ =>xF (fFldV 0 1 false) [v147] fun v148 =>xF (fBin .neq .no) [v148, .int .i64 0] fun v149 =>xIf v149
 (xF fMove [a0] fun v150 =>xO (gLoad 9 true [(locP 3)] c3) fun v151 =>s_a3 [v150, v151] (fun v152 σ =>xF fMove [v152] fun v4 =>K v4 σ) σ)
 (xF fMove [a0] fun v153 =>xF fNil [v153] fun v154 =>xF (fFld 1) [v154] fun v155 =>hStore 1 [v155, .int .i64 4] (fun _v σ =>J1 [] [] σ) σ)) σ) σ) σ) σ) σ) σ)
 (xF (fBin .eql .no) [v10, .int .i64 4] fun v157 =>xF fMove [v157] fun v156 =>xIf v156
 (xO (gLoad 9 true [(locP 3)] c3) fun v158 =>xF (fFld 0) [(locP 3)] fun v159 =>xO (gLoad 7 true [v159] c3) fun v160 =>xF fMove [a0] fun v161 =>xF fNil [v161] fun v162 =>xF (fFld 3) [v162] fun v163 =>hLoad 1 false [v163] (fun v164 σ =>s_ah [v160, v164] (fun v165 σ =>xF fMove [a0] fun v166 =>xF fNil [v166] fun v167 =>xF (fFld 4) [v167] fun v168 =>hLoad 1 false [v168] (fun v169 σ =>xF fMove [a0] fun v170 =>s_a1 [v170] (fun v171 σ =>s_ai [v158, v165, v169, v171] (fun v172 σ =>xF (fUn .not) [v172] fun v173 =>xIf v173
 (xF fMove [a0] fun v174 =>xO (gLoad 9 true [(locP 3)] c3) fun v175 =>s_a3 [v174, v175] (fun v176 σ =>xF fMove [v176] fun v4 =>K v4 σ) σ)
 (xF fMove [a0] fun v177 =>xF fNil [v177] fun v178 =>xF (fFld 1) [v178] fun v179 =>hStore 1 [v179, .int .i64 5] (fun _v σ =>J1 [] [] σ) σ)) σ) σ) σ) σ) σ)
 (xF (fBin .eql .no) [v10, .int .i64 5] fun v181 =>xF fMove [v181] fun v180 =>xIf v180
 (xF fMove [a0] fun v182 =>xF fNil [v182] fun v183 =>xF (fFld 1) [v183] fun v184 =>hStore 1 [v184, .int .i64 6] (fun _v σ =>xO (gLoad 9 true [(locP 3)] c3) fun v185 =>xF fMove [a0] fun v186 =>xF fNil [v186] fun v187 =>xF (fFld 0) [v187] fun v188 =>hLoad 1 false [v188] (fun v189 σ =>s_am [v189] (fun v190 σ =>xF fMove [a0] fun v191 =>xF fNil [v191] fun v192 =>xF (fFld 2) [v192] fun v193 =>hLoad 1 false [v193] (fun v194 σ =>xF fMove [a0] fun v195 =>xF fNil [v195] fun v196 =>xF (fFld 3) [v196] fun v197 =>hLoad 1 false [v197] (fun v198 σ =>xF (fBin .add .no) [v198, .int .i64 1] fun v199 =>xF (fConv .u64) [v199] fun v200 =>s_ai [v185, v190, v194, v200] (fun v201 σ =>xIf v201
 (xF fMove [a0] fun v202 =>xF fNil [v202] fun v203 =>xF (fFld 1) [v203] fun v204 =>hStore 1 [v204, .int .i64 0] (fun _v σ =>J1 [] [] σ) σ)
 (J1 [] [] σ)) σ) σ) σ) σ) σ) σ)
 (xF fMove [a0] fun v11 =>xF fNil [v11] fun v12 =>xF (fFld 4) [v12] fun v13 =>hLoad 1 false [v13] (fun v14 σ =>s_a5 [v14] (fun v15 σ =>xF (fFldV 3 1 false) [v15] fun v16 =>xF (fBin .add .no) [v16, .int .i64 2] fun v17 =>xF (fBuild [(0, 1), (1, 1), (2, 1), (3, 1)] [.int .i64 0, .int .i64 0, .int .i64 0, .int .i64 0] [3]) [v17] fun v18 =>s_a6 [v18] (fun v19 σ =>xF fMove [v19] fun v6 =>xO (gLoad 9 true [(locP 3)] c3) fun v20 =>xF (fFld 0) [(locP 3)] fun v21 =>xO (gLoad 7 true [v21] c3) fun v22 =>xF fMove [a0] fun v23 =>xF fNil [v23] fun v24 =>xF (fFld 3) [v24] fun v25 =>hLoad 1 false [v25] (fun v26 σ =>s_ah [v22, v26] (fun v27 σ =>xF fMove [a0] fun v28 =>s_a1 [v28] (fun v29 σ =>xF fMove [v6] fun v30 =>s_ai [v20, v27, v29, v30] (fun v31 σ =>xF fMove [a0] fun v32 =>xF fNil [v32] fun v33 =>xF (fFld 1) [v33] fun v34 =>hStore 1 [v34, .int .i64 0] (fun _v σ =>J1 [] [] σ) σ) σ) σ) σ) σ) σ) σ) σ))))))) σ
def s_a0 : Spec := fun args K σ => match args with
  | [a0, a1] => w_a0 a0 a1 K σ
  | _ => False
noncomputable def cx_a0 : Cx := { P := Try.prog, T := [(11, .none, s_am), (28, .write, s_aj), (13, .none, s_ah), (12, .none, s_a5), (29, .none, s_an), (30, .write, s_a2), (31, .write, s_a3), (33, .read, s_a1), (32, .write, s_ai), (34, .none, s_a6)], loc := [(3, 3), (5, 5), (21, 3), (74, 3), (92, 5), (96, 5), (105, 5), (113, 3), (114, 3), (133, 3), (159, 3)], eqt := [], n := 205, keep := [(1000016, [0, 117], []), (1000032, [], [])] }
theorem q_a0 : FnS cx_a0 Try.f9 (bodyOf Try.f9) 2 = s_a0 := by
  funext args K σ
  rcases args with _ | ⟨a0, _ | ⟨a1, _ | ⟨b, r⟩⟩⟩ <;> kernel_rfl
theorem e_a0 : Entry Try.prog 9 .write s_a0 :=
  entry (C := cx_a0) (TOk.cons e_am (TOk.cons e_aj (TOk.cons e_ah (TOk.cons e_a5 (TOk.cons e_an (TOk.cons e_a2 (TOk.cons e_a3 (TOk.cons e_a1 (TOk.cons e_ai (TOk.cons e_a6 TOk.nil)))))))))) mixedOk Try.func9 (by kernel_rfl) (by kernel_rfl) (by kernel_rfl) q_a0
def xl_a0 : List (Nat × Nat) := [(3, 3), (5, 5), (21, 3), (74, 3), (92, 5), (96, 5), (105, 5), (113, 3), (114, 3), (133, 3), (159, 3)]
noncomputable def xc_a0 : XC XN :=
(.seq none
 (.reg [zy xl_a0 (.lb 3 9) 3 [.tmp 1],
  zc 4 (.bool false)])
 (.seq (some ([], []))
 (.seq none
 (.reg [zM 7 0,
  zN 8 7,
  zF 1 9 8,
  zL 10 9])
 (.block 0
 (.seq none
 (.reg [zb .eql rEql 36 [.tmp 10, .const (.int .i64 0)],
  zM 35 36])
 (.cond (.tmp 35)
 (.seq none
 (.reg [zM 37 0,
  zy xl_a0 (.lr 3 9 true) 38 [.tmp 3],
  zM 39 0,
  zN 40 39,
  zF 0 41 40,
  zL 42 41,
  zk .none s_am v_am 43 [.tmp 42],
  zk .write s_aj v_aj 44 [.tmp 38, .tmp 43],
  zN 45 37,
  zF 2 46 45,
  zS [.tmp 46, .tmp 44]])
 (.seq none
 (.reg [zM 47 0,
  zM 48 0,
  zM 49 0,
  zN 50 49,
  zF 2 51 50,
  zL 52 51,
  zz (.f (fConv .i64)) (rConv .i64) (some 53) [.tmp 52],
  zb .sub rSub 54 [.tmp 53, .const (.int .i64 1)],
  zN 55 47,
  zF 3 56 55,
  zS [.tmp 56, .tmp 54],
  zN 57 48,
  zF 1 58 57,
  zS [.tmp 58, .const (.int .i64 1)]])
 (.seq none
 (.reg [zM 59 0,
  zN 60 59,
  zF 3 61 60,
  zL 62 61,
  zb .lss rLss 63 [.tmp 62, .const (.int .i64 0)]])
 (.cond (.tmp 63)
 (.reg [zM 64 0,
  zM 65 0,
  zN 66 64,
  zF 3 67 66,
  zS [.tmp 67, .const (.int .i64 0)],
  zN 68 65,
  zF 1 69 68,
  zS [.tmp 69, .const (.int .i64 3)]])
 .skip))))
 (.seq none
 (.reg [zb .eql rEql 71 [.tmp 10, .const (.int .i64 1)],
  zM 70 71])
 (.cond (.tmp 70)
 (.seq none
 (.reg [zM 72 0,
  zy xl_a0 (.lr 3 9 true) 73 [.tmp 3],
  zF 0 74 3,
  zy xl_a0 (.lr 3 7 true) 75 [.tmp 74],
  zM 76 0,
  zN 77 76,
  zF 3 78 77,
  zL 79 78,
  zk .none s_ah v_ah 80 [.tmp 75, .tmp 79],
  zk .write s_aj v_aj 81 [.tmp 73, .tmp 80],
  zN 82 72,
  zF 4 83 82,
  zS [.tmp 83, .tmp 81]])
 (.seq none
 (.reg [zM 84 0,
  zN 85 84,
  zF 4 86 85,
  zL 87 86,
  zk .none s_a5 v_a5 88 [.tmp 87],
  zy xl_a0 (.la 5 [.int .i64 0, .int .i64 0, .int .i64 0, .int .i64 0]) 5 [],
  zY xl_a0 (.ls 5 4) [.tmp 5, .tmp 88]])
 (.seq none
 (.reg [zM 89 0,
  zN 90 89,
  zF 1 91 90,
  zS [.tmp 91, .const (.int .i64 2)]])
 (.seq (some ([0, 117], []))
 (.reg [zF 0 92 5,
  zr 5 93 92,
  zb .neq rNeq 94 [.tmp 93, .const (.int .i64 1)],
  zM 95 94,
  ⟨(some (4, 3, false, some 95)), some 96, [.tmp 5], ⟨.f (fFld 1), rFld 1⟩⟩,
  ⟨(some (5, 3, false, some 95)), some 97, [.tmp 96], ⟨.lr 5 1 false, rLr1 5⟩⟩,
  ⟨(some (6, 3, false, some 95)), some 98, [.tmp 0], ⟨.f fMove, rMove⟩⟩,
  ⟨(some (7, 3, false, some 95)), some 99, [.tmp 98], ⟨.f fNil, rNil⟩⟩,
  ⟨(some (8, 3, false, some 95)), some 100, [.tmp 99], ⟨.f (fFld 0), rFld 0⟩⟩,
  ⟨(some (9, 3, false, some 95)), some 101, [.tmp 100], ⟨.load 1 false, rLoad1⟩⟩,
  ⟨(some (10, 3, false, some 95)), some 102, [.tmp 97, .tmp 101], ⟨.f (fBin .neq .no), rNeq⟩⟩,
  zz (.f fPick) rPick (some 103) [.tmp 95, .const (.bool true), .tmp 102],
  zM 104 103,
  ⟨(some (13, 12, false, some 104)), some 105, [.tmp 5], ⟨.f (fFld 2), rFld 2⟩⟩,
  ⟨(some (14, 12, false, some 104)), some 106, [.tmp 105], ⟨.lr 5 1 false, rLr1 5⟩⟩,
  ⟨(some (15, 12, false, some 104)), some 107, [.tmp 0], ⟨.f fMove, rMove⟩⟩,
  ⟨(some (16, 12, false, some 104)), some 108, [.tmp 107], ⟨.f fNil, rNil⟩⟩,
  ⟨(some (17, 12, false, some 104)), some 109, [.tmp 108], ⟨.f (fFld 0), rFld 0⟩⟩,
  ⟨(some (18, 12, false, some 104)), some 110, [.tmp 109], ⟨.load 1 false, rLoad1⟩⟩,
  ⟨(some (19, 12, false, some 104)), some 111, [.tmp 110], ⟨.call .none s_an v_an, rCall v_an⟩⟩,
  ⟨(some (20, 12, false, some 104)), some 112, [.tmp 106, .tmp 111], ⟨.f (fBin .add .no), rAdd⟩⟩,
  ⟨(some (21, 12, false, some 104)), some 113, [.tmp 3], ⟨.f (fFld 0), rFld 0⟩⟩,
  ⟨(some (22, 12, false, some 104)), some 114, [.tmp 113], ⟨.f (fFld 3), rFld 3⟩⟩,
  ⟨(some (23, 12, false, some 104)), some 115, [.tmp 114], ⟨.lr 3 1 false, rLr1 3⟩⟩,
  ⟨(some (24, 12, false, some 104)), some 116, [.tmp 112, .tmp 115], ⟨.f (fBin .gtr .no), rGtr⟩⟩,
  zz (.f fPick) rPick (some 117) [.tmp 104, .const (.bool true), .tmp 116]])
 (.cond (.tmp 117)
 (.reg [zM 118 0,
  zM 119 0,
  zN 120 118,
  zF 3 121 120,
  zS [.tmp 121, .const (.int .i64 0)],
  zN 122 119,
  zF 1 123 122,
  zS [.tmp 123, .const (.int .i64 3)]])
 .skip)))))
 (.seq none
 (.reg [zb .eql rEql 125 [.tmp 10, .const (.int .i64 2)],
  zM 124 125])
 (.cond (.tmp 124)
 (.seq none
 (.reg [zM 126 0,
  zy xl_a0 (.lr 3 9 true) 127 [.tmp 3],
  zk .write s_a2 v_a2 128 [.tmp 126, .tmp 127],
  zM 4 128])
 .ret)
 (.seq none
 (.reg [zb .eql rEql 130 [.tmp 10, .const (.int .i64 3)],
  zM 129 130])
 (.cond (.tmp 129)
 (.seq none
 (.reg [zM 131 0,
  zy xl_a0 (.lr 3 9 true) 132 [.tmp 3],
  zF 0 133 3,
  zy xl_a0 (.lr 3 7 true) 134 [.tmp 133],
  zM 135 0,
  zN 136 135,
  zF 3 137 136,
  zL 138 137,
  zk .none s_ah v_ah 139 [.tmp 134, .tmp 138],
  zk .write s_aj v_aj 140 [.tmp 132, .tmp 139],
  zN 141 131,
  zF 4 142 141,
  zS [.tmp 142, .tmp 140]])
 (.seq none
 (.seq none
 (.reg [zM 143 0,
  zN 144 143,
  zF 4 145 144,
  zL 146 145,
  zk .none s_a5 v_a5 147 [.tmp 146],
  zy xl_a0 (.f (fFldV 0 1 false)) 148 [.tmp 147],
  zb .neq rNeq 149 [.tmp 148, .const (.int .i64 0)]])
 (.cond (.tmp 149)
 (.seq none
 (.reg [zM 150 0,
  zy xl_a0 (.lr 3 9 true) 151 [.tmp 3],
  zk .write s_a3 v_a3 152 [.tmp 150, .tmp 151],
  zM 4 152])
 .ret)
 .skip))
 (.reg [zM 153 0,
  zN 154 153,
  zF 1 155 154,
  zS [.tmp 155, .const (.int .i64 4)]])))
 (.seq none
 (.reg [zb .eql rEql 157 [.tmp 10, .const (.int .i64 4)],
  zM 156 157])
 (.cond (.tmp 156)
 (.seq none
 (.seq none
 (.reg [zy xl_a0 (.lr 3 9 true) 158 [.tmp 3],
  zF 0 159 3,
  zy xl_a0 (.lr 3 7 true) 160 [.tmp 159],
  zM 161 0,
  zN 162 161,
  zF 3 163 162,
  zL 164 163,
  zk .none s_ah v_ah 165 [.tmp 160, .tmp 164],
  zM 166 0,
  zN 167 166,
  zF 4 168 167,
  zL 169 168,
  zM 170 0,
  zk .read s_a1 v_a1 171 [.tmp 170],
  zk .write s_ai v_ai 172 [.tmp 158, .tmp 165, .tmp 169, .tmp 171],
  zz (.f (fUn .not)) rNot (some 173) [.tmp 172]])
 (.cond (.tmp 173)
 (.seq none
 (.reg [zM 174 0,
  zy xl_a0 (.lr 3 9 true) 175 [.tmp 3],
  zk .write s_a3 v_a3 176 [.tmp 174, .tmp 175],
  zM 4 176])
 .ret)
 .skip))
 (.reg [zM 177 0,
  zN 178 177,
  zF 1 179 178,
  zS [.tmp 179, .const (.int .i64 5)]]))
 (.seq none
 (.reg [zb .eql rEql 181 [.tmp 10, .const (.int .i64 5)],
  zM 180 181])
 (.cond (.tmp 180)
 (.seq none
 (.reg [zM 182 0,
  zN 183 182,
  zF 1 184 183,
  zS [.tmp 184, .const (.int .i64 6)]])
 (.seq none
 (.reg [zy xl_a0 (.lr 3 9 true) 185 [.tmp 3],
  zM 186 0,
  zN 187 186,
  zF 0 188 187,
  zL 189 188,
  zk .none s_am v_am 190 [.tmp 189],
  zM 191 0,
  zN 192 191,
  zF 2 193 192,
  zL 194 193,
  zM 195 0,
  zN 196 195,
  zF 3 197 196,
  zL 198 197,
  zb .add rAdd 199 [.tmp 198, .const (.int .i64 1)],
  zz (.f (fConv .u64)) (rConv .u64) (some 200) [.tmp 199],
  zk .write s_ai v_ai 201 [.tmp 185, .tmp 190, .tmp 194, .tmp 200]])
 (.cond (.tmp 201)
 (.reg [zM 202 0,
  zN 203 202,
  zF 1 204 203,
  zS [.tmp 204, .const (.int .i64 0)]])
 .skip)))
 (.seq none
 (.reg [zM 11 0,
  zN 12 11,
  zF 4 13 12,
  zL 14 13,
  zk .none s_a5 v_a5 15 [.tmp 14],
  zy xl_a0 (.f (fFldV 3 1 false)) 16 [.tmp 15],
  zb .add rAdd 17 [.tmp 16, .const (.int .i64 2)],
  zy xl_a0 (.f (fBuild [(0, 1), (1, 1), (2, 1), (3, 1)] [.int .i64 0, .int .i64 0, .int .i64 0, .int .i64 0] [3])) 18 [.tmp 17],
  zk .none s_a6 v_a6 19 [.tmp 18],
  zM 6 19])
 (.seq none
 (.reg [zy xl_a0 (.lr 3 9 true) 20 [.tmp 3],
  zF 0 21 3,
  zy xl_a0 (.lr 3 7 true) 22 [.tmp 21],
  zM 23 0,
  zN 24 23,
  zF 3 25 24,
  zL 26 25,
  zk .none s_ah v_ah 27 [.tmp 22, .tmp 26],
  zM 28 0,
  zk .read s_a1 v_a1 29 [.tmp 28],
  zM 30 6,
  zk .write s_ai v_ai 31 [.tmp 20, .tmp 27, .tmp 29, .tmp 30]])
 (.reg [zM 32 0,
  zN 33 32,
  zF 1 34 33,
  zS [.tmp 34, .const (.int .i64 0)]])))))))))))))))))
 (.seq none
 (.reg [zc 4 (.bool false)])
 .ret)))
noncomputable def v_a0 : EvF := evFn 2 xc_a0 [.t 4]
theorem xt_a0 : toC cx_a0 (bodyOf Try.f9) = some (xc_a0.map XN.sm) := by kernel_rfl
theorem xr_a0 : toR cx_a0 Try.f9.results.toList = some [.t 4] := by kernel_rfl
theorem xo_a0 : xc_a0.ok xl_a0 := ⟨⟨r_a (trivial), r_m, trivial⟩, ⟨⟨⟨r_m, r_n, r_f _, r_l, trivial⟩, ⟨⟨r_e, r_m, trivial⟩, ⟨⟨⟨r_m, r_a (trivial), r_m, r_n, r_f _, r_l, r_c ve_am, r_c ve_aj, r_n, r_f _, r_s, trivial⟩, ⟨⟨r_m, r_m, r_m, r_n, r_f _, r_l, r_v _, rSub_ok, r_n, r_f _, r_s, r_n, r_f _, r_s, trivial⟩, ⟨⟨r_m, r_n, r_f _, r_l, rLss_ok, trivial⟩, ⟨⟨r_m, r_m, r_n, r_f _, r_s, r_n, r_f _, r_s, trivial⟩, trivial⟩⟩⟩⟩, ⟨⟨r_e, r_m, trivial⟩, ⟨⟨⟨r_m, r_a (trivial), r_f _, r_a (trivial), r_m, r_n, r_f _, r_l, r_c ve_ah, r_c ve_aj, r_n, r_f _, r_s, trivial⟩, ⟨⟨r_m, r_n, r_f _, r_l, r_c ve_a5, r_a (trivial), r_a (trivial), trivial⟩, ⟨⟨r_m, r_n, r_f _, r_s, trivial⟩, ⟨⟨r_f _, r_r _, rNeq_ok, r_m, r_f _, r_r _, r_m, r_n, r_f _, r_l, rNeq_ok, r_p, r_m, r_f _, r_r _, r_m, r_n, r_f _, r_l, r_c ve_an, r_d, r_f _, r_f _, r_r _, rGtr_ok, r_p, trivial⟩, ⟨⟨r_m, r_m, r_n, r_f _, r_s, r_n, r_f _, r_s, trivial⟩, trivial⟩⟩⟩⟩⟩, ⟨⟨r_e, r_m, trivial⟩, ⟨⟨⟨r_m, r_a (trivial), r_c ve_a2, r_m, trivial⟩, trivial⟩, ⟨⟨r_e, r_m, trivial⟩, ⟨⟨⟨r_m, r_a (trivial), r_f _, r_a (trivial), r_m, r_n, r_f _, r_l, r_c ve_ah, r_c ve_aj, r_n, r_f _, r_s, trivial⟩, ⟨⟨⟨r_m, r_n, r_f _, r_l, r_c ve_a5, r_a (eqv_fldV _ _ _), rNeq_ok, trivial⟩, ⟨⟨⟨r_m, r_a (trivial), r_c ve_a3, r_m, trivial⟩, trivial⟩, trivial⟩⟩, ⟨r_m, r_n, r_f _, r_s, trivial⟩⟩⟩, ⟨⟨r_e, r_m, trivial⟩, ⟨⟨⟨⟨r_a (trivial), r_f _, r_a (trivial), r_m, r_n, r_f _, r_l, r_c ve_ah, r_m, r_n, r_f _, r_l, r_m, r_c ve_a1, r_c ve_ai, r_t, trivial⟩, ⟨⟨⟨r_m, r_a (trivial), r_c ve_a3, r_m, trivial⟩, trivial⟩, trivial⟩⟩, ⟨r_m, r_n, r_f _, r_s, trivial⟩⟩, ⟨⟨r_e, r_m, trivial⟩, ⟨⟨⟨r_m, r_n, r_f _, r_s, trivial⟩, ⟨⟨r_a (trivial), r_m, r_n, r_f _, r_l, r_c ve_am, r_m, r_n, r_f _, r_l, r_m, r_n, r_f _, r_l, r_d, r_v _, r_c ve_ai, trivial⟩, ⟨⟨r_m, r_n, r_f _, r_s, trivial⟩, trivial⟩⟩⟩, ⟨⟨r_m, r_n, r_f _, r_l, r_c ve_a5, r_a (eqv_fldV _ _ _), r_d, r_a (eqv_build _ rfl _), r_c ve_a6, r_m, trivial⟩, ⟨⟨r_a (trivial), r_f _, r_a (trivial), r_m, r_n, r_f _, r_l, r_c ve_ah, r_m, r_c ve_a1, r_m, r_c ve_ai, trivial⟩, ⟨r_m, r_n, r_f _, r_s, trivial⟩⟩⟩⟩⟩⟩⟩⟩⟩⟩⟩⟩⟩⟩⟩⟩, ⟨⟨r_m, trivial⟩, trivial⟩⟩⟩
theorem ve_a0 : EvOk s_a0 v_a0 := EvOk.of (evFn_sound (C := cx_a0) xt_a0 xr_a0 xo_a0) q_a0
attribute [irreducible] w_a0_j1b w_a0_j1 w_a0_j2b w_a0_j2 w_a0 s_a0
end Go.Fl
namespace Go.Fl
open Go Go.Proofs
set_option linter.unusedVariables false
set_option maxRecDepth 10000000
def w_az_j1b (K : Value → Mem → Prop) (v0 v12 : Value) (c2 : List Value) (σ : Mem) : Prop :=xIf v12
 (xF (fBuild [(0, 1), (1, 1)] [.int .i64 0, .int .i64 0] []) [] fun v13 =>xC (gStore 2 [(locP 2), v13] c2) fun c2 =>xF fMove [.bool false] fun v3 =>xO (gLoad 2 true [(locP 2)] c2) fun r2 =>K (.tuple #[r2, v3]) σ)
 (xF fMove [v0] fun v14 =>xF fNil [v14] fun v15 =>xF (fFld 5) [v15] fun v16 =>hLoad 2 true [v16] (fun v17 σ =>xC (gStore 2 [(locP 2), v17] c2) fun c2 =>xF fMove [.bool true] fun v3 =>xO (gLoad 2 true [(locP 2)] c2) fun r2 =>K (.tuple #[r2, v3]) σ) σ)
def w_az_j1 (K : Value → Mem → Prop) (ts : List Value) (ls : List (List Value)) (σ : Mem) : Prop := w_az_j1b K (ts.getD 0 poison) (ts.getD 1 poison) (ls.getD 0 []) σ
def w_az (a0 : Value) (K : Value → Mem → Prop) (σ : Mem) : Prop :=xF fMove [.bool false] fun v3 =>xJoin (w_az_j1 K) fun J1 =>xF fMove [a0] fun v4 =>xF (fBin .eql .ptr) [v4, .pointer none] fun v5 =>xF fMove [v5] fun v6 =>xIf v6
 (xF fPick [.bool true, .bool true, undef] fun v12 =>J1 [a0, v12] [[.int .i64 0, .int .i64 0]] σ)
 (xF fMove [a0] fun v7 =>xF fNil [v7] fun v8 =>xF (fFld 7) [v8] fun v9 =>hLoad 1 false [v9] (fun v10 σ =>xF (fUn .not) [v10] fun v11 =>xF fPick [.bool false, .bool true, v11] fun v12 =>J1 [a0, v12] [[.int .i64 0, .int .i64 0]] σ) σ)
def s_az : Spec := fun args K σ => match args with
  | [a0] => w_az a0 K σ
  | _ => False
noncomputable def cx_az : Cx := { P := Try.prog, T := [], loc := [(2, 2)], eqt := [(31, .ptr)], n := 18, keep := [(1000003, [0, 12], [2])] }
theorem q_az : FnS cx_az Try.f41 (bodyOf Try.f41) 1 = s_az := by
  funext args K σ
  rcases args with _ | ⟨a0, _ | ⟨b, r⟩⟩ <;> kernel_rfl
theorem e_az : Entry Try.prog 41 .read s_az :=
  entry (C := cx_az) TOk.nil mixedOk Try.func41 (by kernel_rfl) (by kernel_rfl) (by kernel_rfl) q_az
def xl_az : List (Nat × Nat) := [(2, 2)]
noncomputable def xc_az : XC XN :=
(.seq none
 (.reg [zy xl_az (.la 2 [.int .i64 0, .int .i64 0]) 2 [],
  zc 3 (.bool false)])
 (.seq none
 (.seq (some ([0, 12], [2]))
 (.reg [zM 4 0,
  zy xl_az (.f (fBin .eql .ptr)) 5 [.tmp 4, .const (.pointer none)],
  zM 6 5,
  ⟨(some (3, 2, false, some 6)), some 7, [.tmp 0], ⟨.f fMove, rMove⟩⟩,
  ⟨(some (4, 2, false, some 6)), some 8, [.tmp 7], ⟨.f fNil, rNil⟩⟩,
  ⟨(some (5, 2, false, some 6)), some 9, [.tmp 8], ⟨.f (fFld 7), rFld 7⟩⟩,
  ⟨(some (6, 2, false, some 6)), some 10, [.tmp 9], ⟨.load 1 false, rLoad1⟩⟩,
  ⟨(some (7, 2, false, some 6)), some 11, [.tmp 10], ⟨.f (fUn .not), rNot⟩⟩,
  zz (.f fPick) rPick (some 12) [.tmp 6, .const (.bool true), .tmp 11]])
 (.cond (.tmp 12)
 (.seq none
 (.reg [zy xl_az (.f (fBuild [(0, 1), (1, 1)] [.int .i64 0, .int .i64 0] [])) 13 [],
  zY xl_az (.ls 2 2) [.tmp 2, .tmp 13],
  zc 3 (.bool false)])
 .ret)
 .skip))
 (.seq none
 (.reg [zM 14 0,
  zN 15 14,
  zF 5 16 15,
  zy xl_az (.load 2 true) 17 [.tmp 16],
  zY xl_az (.ls 2 2) [.tmp 2, .tmp 17],
  zc 3 (.bool true)])
 .ret)))
noncomputable def v_az : EvF := evFn 1 xc_az [.c 2 2 2 true, .t 3]
theorem xt_az : toC cx_az (bodyOf Try.f41) = some (xc_az.map XN.sm) := by kernel_rfl
theorem xr_az : toR cx_az Try.f41.results.toList = some [.c 2 2 2 true, .t 3] := by kernel_rfl
theorem xo_az : xc_az.ok xl_az := ⟨⟨r_a (trivial), r_m, trivial⟩, ⟨⟨⟨r_m, r_a (eqv_bin _ _), r_m, r_m, r_n, r_f _, r_l, r_t, r_p, trivial⟩, ⟨⟨⟨r_a (eqv_build _ rfl _), r_a (trivial), r_m, trivial⟩, trivial⟩, trivial⟩⟩, ⟨⟨r_m, r_n, r_f _, r_a (trivial), r_a (trivial), r_m, trivial⟩, trivial⟩⟩⟩
theorem ve_az : EvOk s_az v_az := EvOk.of (evFn_sound (C := cx_az) xt_az xr_az xo_az) q_az
attribute [irreducible] w_az_j1b w_az_j1 w_az s_az
def w_ae_j1b (K : Value → Mem → Prop) (v6 : Value) (c4 : List Value) (σ : Mem) : Prop :=xF fMove [v6] fun v17 =>s_az [v17] (fun v18 σ =>xF (fExt 0) [v18] fun v19 =>xF (fExt 1) [v18] fun v20 =>xC (gStore 2 [(locP 4), v19] c4) fun c4 =>xF fMove [v20] fun v5 =>xO (gLoad 2 true [(locP 4)] c4) fun r4 =>K (.tuple #[r4, v5]) σ) σ
def w_ae_j1 (K : Value → Mem → Prop) (ts : List Value) (ls : List (List Value)) (σ : Mem) : Prop := w_ae_j1b K (ts.getD 0 poison) (ls.getD 0 []) σ
def w_law07_get_l4b (K : Value → Mem → Prop) (J1 : List Value → List (List Value) → Mem → Prop) (R1 : List Value → List (List Value) → Mem → Prop) (v6 v7 : Value) (c2 c4 : List Value) (σ : Mem) : Prop :=xF fMove [v7] fun v10 =>xF (fBin .lss .no) [v10, .int .i64 300] fun v11 =>xIf v11
 (xF fMove [v6] fun v14 =>xO (gLoad 9 true [(locP 2)] c2) fun v15 =>s_a0 [v14, v15] (fun v16 σ =>xIf v16
 (J1 [v6] [c4] σ)
 (xF fMove [v7] fun v12 =>xF (fBin .add .no) [v12, .int .i64 1] fun v13 =>xF fMove [v13] fun v7 =>R1 [v6, v7] [c2, c4] σ)) σ)
 (J1 [v6] [c4] σ)
def w_law07_get_l4 (K : Value → Mem → Prop) (J1 : List Value → List (List Value) → Mem → Prop) (R1 : List Value → List (List Value) → Mem → Prop) (ts : List Value) (ls : List (List Value)) (σ : Mem) : Prop := w_law07_get_l4b K J1 R1 (ts.getD 0 poison) (ts.getD 1 poison) (ls.getD 0 []) (ls.getD 1 []) σ
def w_ae (a0 a1 : Value) (K : Value → Mem → Prop) (σ : Mem) : Prop :=xC (gBox 9 [a0] []) fun c2 =>xF fMove [.bool false] fun v5 =>xF fMove [a1] fun v8 =>s_ay [v8] (fun v9 σ =>xF fMove [v9] fun v6 =>xJoin (w_ae_j1 K) fun J1 =>xF fMove [.int .i64 0] fun v7 =>xLoop (w_law07_get_l4 K J1) [v6, v7] [c2, [.int .i64 0, .int .i64 0]] σ) σ
def s_ae : Spec := fun args K σ => match args with
  | [a0, a1] => w_ae a0 a1 K σ
  | _ => False
noncomputable def cx_ae : Cx := { P := Try.prog, T := [(8, .write, s_ay), (9, .write, s_a0), (41, .read, s_az)], loc := [(2, 2), (4, 4)], eqt := [], n := 21, keep := [(4, [6, 7], [2, 4]), (1000007, [6], [4])] }
theorem q_ae : FnS cx_ae Try.f26 (bodyOf Try.f26) 2 = s_ae := by
  funext args K σ
  rcases args with _ | ⟨a0, _ | ⟨a1, _ | ⟨b, r⟩⟩⟩ <;> kernel_rfl
theorem e_ae : Entry Try.prog 26 .write s_ae :=
  entry (C := cx_ae) (TOk.cons e_ay (TOk.cons e_a0 (TOk.cons e_az TOk.nil))) mixedOk Try.func26 (by kernel_rfl) (by kernel_rfl) (by kernel_rfl) q_ae
def xl_ae : List (Nat × Nat) := [(2, 2), (4, 4)]
noncomputable def xc_ae : XC XN :=
(.seq none
 (.reg [zy xl_ae (.lb 2 9) 2 [.tmp 0],
  zy xl_ae (.la 4 [.int .i64 0, .int .i64 0]) 4 [],
  zc 5 (.bool false)])
 (.seq none
 (.reg [zM 8 1,
  zk .write s_ay v_ay 9 [.tmp 8],
  zM 6 9])
 (.seq (some ([6], [4]))
 (.seq none
 (.reg [zc 7 (.int .i64 0)])
 (.block 0
 (.loop ([6, 7], [2, 4])
 (.seq none
 (.seq none
 (.reg [zM 10 7,
  zb .lss rLss 11 [.tmp 10, .const (.int .i64 300)]])
 (.cond (.tmp 11)
 .skip
 (.exit 0)))
 (.seq none
 (.block 1
 (.seq none
 (.reg [zM 14 6,
  zy xl_ae (.lr 2 9 true) 15 [.tmp 2],
  zk .write s_a0 v_a0 16 [.tmp 14, .tmp 15]])
 (.cond (.tmp 16)
 (.exit 0)
 .skip)))
 (.reg [zM 12 7,
  zb .add rAdd 13 [.tmp 12, .const (.int .i64 1)],
  zM 7 13]))))))
 (.seq none
 (.reg [zM 17 6,
  zk .read s_az v_az 18 [.tmp 17],
  zy xl_ae (.f (fExt 0)) 19 [.tmp 18],
  zy xl_ae (.f (fExt 1)) 20 [.tmp 18],
  zY xl_ae (.ls 4 2) [.tmp 4, .tmp 19],
  zM 5 20])
 .ret))))
noncomputable def v_ae : EvF := evFn 2 xc_ae [.c 4 4 2 true, .t 5]
theorem xt_ae : toC cx_ae (bodyOf Try.f26) = some (xc_ae.map XN.sm) := by kernel_rfl
theorem xr_ae : toR cx_ae Try.f26.results.toList = some [.c 4 4 2 true, .t 5] := by kernel_rfl
theorem xo_ae : xc_ae.ok xl_ae := ⟨⟨r_a (trivial), r_a (trivial), r_m, trivial⟩, ⟨⟨r_m, r_c ve_ay, r_m, trivial⟩, ⟨⟨⟨r_m, trivial⟩, ⟨⟨⟨r_m, rLss_ok, trivial⟩, ⟨trivial, trivial⟩⟩, ⟨⟨⟨r_m, r_a (trivial), r_c ve_a0, trivial⟩, ⟨trivial, trivial⟩⟩, ⟨r_m, r_d, r_m, trivial⟩⟩⟩⟩, ⟨⟨r_m, r_c ve_az, r_a (eqv_ext _), r_a (eqv_ext _), r_a (trivial), r_m, trivial⟩, trivial⟩⟩⟩⟩
theorem ve_ae : EvOk s_ae v_ae := EvOk.of (evFn_sound (C := cx_ae) xt_ae xr_ae xo_ae) q_ae
attribute [irreducible] w_ae_j1b w_ae_j1 w_law07_get_l4b w_law07_get_l4 w_ae s_ae
def w_ad (K : Value → Mem → Prop) (σ : Mem) : Prop :=xF fMove [.bool false] fun v0 =>s_aa [.int .i64 1, .int .i64 1, .int .i64 2, .int .i64 20] (fun v8 σ =>xF fMove [v8] fun v7 =>xF (fExt 0) [v7] fun v9 =>xF (fExt 1) [v7] fun v10 =>xC (gStore 9 [(locP 1), v9] [.int .i64 0, .int .i64 0, .int .i64 0, .int .i64 0, .int .i64 0, .int .i64 0, .int .i64 0, .pointer none, .int .i64 0]) fun c1 =>xF fMove [v10] fun v2 =>xF fMove [v2] fun v11 =>xF (fUn .not) [v11] fun v12 =>xIf v12
 (xF fMove [.bool false] fun v0 =>K v0 σ)
 (xO (gLoad 9 true [(locP 1)] c1) fun v14 =>s_ae [v14, .int .i64 0] (fun v15 σ =>xF fMove [v15] fun v13 =>xF (fExt 0) [v13] fun v16 =>xF (fExt 1) [v13] fun v17 =>xC (gStore 2 [(locP 3), v16] [.int .i64 0, .int .i64 0]) fun c3 =>xF fMove [v17] fun v4 =>xO (gLoad 9 true [(locP 1)] c1) fun v19 =>s_ae [v19, .int .i64 0] (fun v20 σ =>xF fMove [v20] fun v18 =>xF (fExt 0) [v18] fun v21 =>xF (fExt 1) [v18] fun v22 =>xC (gStore 2 [(locP 5), v21] [.int .i64 0, .int .i64 0]) fun c5 =>xF fMove [v22] fun v6 =>xF fMove [v4] fun v23 =>xF fMove [v23] fun v24 =>xIf v24
 (xF fMove [v6] fun v25 =>xF fPick [.bool true, v25, .bool false] fun v26 =>xF fMove [v26] fun v27 =>xIf v27
 (xF (fFld 0) [(locP 3)] fun v28 =>xO (gLoad 1 false [v28] c3) fun v29 =>xF (fFld 0) [(locP 1)] fun v30 =>xO (gLoad 7 true [v30] c1) fun v31 =>s_af [v31, .int .i64 0] (fun v32 σ =>xF (fBin .eql .no) [v29, v32] fun v33 =>xF fPick [.bool true, v33, .bool false] fun v34 =>xF fMove [v34] fun v35 =>xIf v35
 (xF (fFld 0) [(locP 5)] fun v36 =>xO (gLoad 1 false [v36] c5) fun v37 =>xF (fFld 0) [(locP 3)] fun v38 =>xO (gLoad 1 false [v38] c3) fun v39 =>xF (fBin .add .no) [v39, .int .i64 3] fun v40 =>xF (fBin .eql .no) [v37, v40] fun v41 =>xF fPick [.bool true, v41, .bool false] fun v42 =>xF fMove [v42] fun v43 =>xIf v43
 (xF (fFld 1) [(locP 5)] fun v44 =>xO (gLoad 1 false [v44] c5) fun v45 =>xF (fBin .eql .no) [v45, .int .i64 0] fun v46 =>xF fPick [.bool true, v46, .bool false] fun v47 =>xF fMove [v47] fun v0 =>K v0 σ)
 (xF fPick [.bool false, undef, .bool false] fun v47 =>xF fMove [v47] fun v0 =>K v0 σ))
 (xF fPick [.bool false, undef, .bool false] fun v42 =>xF fMove [v42] fun v43 =>xIf v43
 (xF (fFld 1) [(locP 5)] fun v44 =>xO (gLoad 1 false [v44] c5) fun v45 =>xF (fBin .eql .no) [v45, .int .i64 0] fun v46 =>xF fPick [.bool true, v46, .bool false] fun v47 =>xF fMove [v47] fun v0 =>K v0 σ)
 (xF fPick [.bool false, undef, .bool false] fun v47 =>xF fMove [v47] fun v0 =>K v0 σ))) σ)
 (xF fPick [.bool false, undef, .bool false] fun v34 =>xF fMove [v34] fun v35 =>xIf v35
 (xF (fFld 0) [(locP 5)] fun v36 =>xO (gLoad 1 false [v36] c5) fun v37 =>xF (fFld 0) [(locP 3)] fun v38 =>xO (gLoad 1 false [v38] c3) fun v39 =>xF (fBin .add .no) [v39, .int .i64 3] fun v40 =>xF (fBin .eql .no) [v37, v40] fun v41 =>xF fPick [.bool true, v41, .bool false] fun v42 =>xF fMove [v42] fun v43 =>xIf v43
 (xF (fFld 1) [(locP 5)] fun v44 =>xO (gLoad 1 false [v44] c5) fun v45 =>xF (fBin .eql .no) [v45, .int .i64 0] fun v46 =>xF fPick [.bool true, v46, .bool false] fun v47 =>xF fMove [v47] fun v0 =>K v0 σ)
 (xF fPick [.bool false, undef, .bool false] fun v47 =>xF fMove [v47] fun v0 =>K v0 σ))
 (xF fPick [.bool false, undef, .bool false] fun v42 =>xF fMove [v42] fun v43 =>xIf v43
 (xF (fFld 1) [(locP 5)] fun v44 =>xO (gLoad 1 false [v44] c5) fun v45 =>xF (fBin .eql .no) [v45, .int .i64 0] fun v46 =>xF fPick [.bool true, v46, .bool false] fun v47 =>xF fMove [v47] fun v0 =>K v0 σ)
 (xF fPick [.bool false, undef, .bool false] fun v47 =>xF fMove [v47] fun v0 =>K v0 σ))))
 (xF fPick [.bool false, undef, .bool false] fun v26 =>xF fMove [v26] fun v27 =>xIf v27
 (xF (fFld 0) [(locP 3)] fun v28 =>xO (gLoad 1 false [v28] c3) fun v29 =>xF (fFld 0) [(locP 1)] fun v30 =>xO (gLoad 7 true [v30] c1) fun v31 =>s_af [v31, .int .i64 0] (fun v32 σ =>xF (fBin .eql .no) [v29, v32] fun v33 =>xF fPick [.bool true, v33, .bool false] fun v34 =>xF fMove [v34] fun v35 =>xIf v35
 (xF (fFld 0) [(locP 5)] fun v36 =>xO (gLoad 1 false [v36] c5) fun v37 =>xF (fFld 0) [(locP 3)] fun v38 =>xO (gLoad 1 false [v38] c3) fun v39 =>xF (fBin .add .no) [v39, .int .i64 3] fun v40 =>xF (fBin .eql .no) [v37, v40] fun v41 =>xF fPick [.bool true, v41, .bool false] fun v42 =>xF fMove [v42] fun v43 =>xIf v43
 (xF (fFld 1) [(locP 5)] fun v44 =>xO (gLoad 1 false [v44] c5) fun v45 =>xF (fBin .eql .no) [v45, .int .i64 0] fun v46 =>xF fPick [.bool true, v46, .bool false] fun v47 =>xF fMove [v47] fun v0 =>K v0 σ)
 (xF fPick [.bool false, undef, .bool false] fun v47 =>xF fMove [v47] fun v0 =>K v0 σ))
 (xF fPick [.bool false, undef, .bool false] fun v42 =>xF fMove [v42] fun v43 =>xIf v43
 (xF (fFld 1) [(locP 5)] fun v44 =>xO (gLoad 1 false [v44] c5) fun v45 =>xF (fBin .eql .no) [v45, .int .i64 0] fun v46 =>xF fPick [.bool true, v46, .bool false] fun v47 =>xF fMove [v47] fun v0 =>K v0 σ)
 (xF fPick [.bool false, undef, .bool false] fun v47 =>xF fMove [v47] fun v0 =>K v0 σ))) σ)
 (xF fPick [.bool false, undef, .bool false] fun v34 =>xF fMove [v34] fun v35 =>xIf v35
 (xF (fFld 0) [(locP 5)] fun v36 =>xO (gLoad 1 false [v36] c5) fun v37 =>xF (fFld 0) [(locP 3)] fun v38 =>xO (gLoad 1 false [v38] c3) fun v39 =>xF (fBin .add .no) [v39, .int .i64 3] fun v40 =>xF (fBin .eql .no) [v37, v40] fun v41 =>xF fPick [.bool true, v41, .bool false] fun v42 =>xF fMove [v42] fun v43 =>xIf v43
 (xF (fFld 1) [(locP 5)] fun v44 =>xO (gLoad 1 false [v44] c5) fun v45 =>xF (fBin .eql .no) [v45, .int .i64 0] fun v46 =>xF fPick [.bool true, v46, .bool false] fun v47 =>xF fMove [v47] fun v0 =>K v0 σ)
 (xF fPick [.bool false, undef, .bool false] fun v47 =>xF fMove [v47] fun v0 =>K v0 σ))
 (xF fPick [.bool false, undef, .bool false] fun v42 =>xF fMove [v42] fun v43 =>xIf v43
 (xF (fFld 1) [(locP 5)] fun v44 =>xO (gLoad 1 false [v44] c5) fun v45 =>xF (fBin .eql .no) [v45, .int .i64 0] fun v46 =>xF fPick [.bool true, v46, .bool false] fun v47 =>xF fMove [v47] fun v0 =>K v0 σ)
 (xF fPick [.bool false, undef, .bool false] fun v47 =>xF fMove [v47] fun v0 =>K v0 σ))))) σ) σ)) σ
def s_ad : Spec := fun args K σ => match args with
  | [] => w_ad  K σ
  | _ => False
noncomputable def cx_ad : Cx := { P := Try.prog, T := [(6, .write, s_aa), (26, .write, s_ae), (27, .none, s_af)], loc := [(1, 1), (3, 3), (5, 5), (28, 3), (30, 1), (36, 5), (38, 3), (44, 5)], eqt := [], n := 48, keep := [] }
theorem q_ad : FnS cx_ad Try.f7 (bodyOf Try.f7) 0 = s_ad := by
  funext args K σ
  rcases args with _ | ⟨b, r⟩ <;> kernel_rfl
theorem e_ad : Entry Try.prog 7 .write s_ad :=
  entry (C := cx_ad) (TOk.cons e_aa (TOk.cons e_ae (TOk.cons e_af TOk.nil))) mixedOk Try.func7 (by kernel_rfl) (by kernel_rfl) (by kernel_rfl) q_ad
def xl_ad : List (Nat × Nat) := [(1, 1), (3, 3), (5, 5), (28, 3), (30, 1), (36, 5), (38, 3), (44, 5)]
noncomputable def xc_ad : XC XN :=
(.seq none
 (.reg [zc 0 (.bool false)])
 (.seq none
 (.reg [zk .write s_aa v_aa 8 [.const (.int .i64 1), .const (.int .i64 1), .const (.int .i64 2), .const (.int .i64 20)],
  zM 7 8,
  zy xl_ad (.f (fExt 0)) 9 [.tmp 7],
  zy xl_ad (.f (fExt 1)) 10 [.tmp 7],
  zy xl_ad (.la 1 [.int .i64 0, .int .i64 0, .int .i64 0, .int .i64 0, .int .i64 0, .int .i64 0, .int .i64 0, .pointer none, .int .i64 0]) 1 [],
  zY xl_ad (.ls 1 9) [.tmp 1, .tmp 9],
  zM 2 10])
 (.seq none
 (.seq none
 (.reg [zM 11 2,
  zz (.f (fUn .not)) rNot (some 12) [.tmp 11]])
 (.cond (.tmp 12)
 (.seq none
 (.reg [zc 0 (.bool false)])
 .ret)
 .skip))
 (.seq none
 (.reg [zy xl_ad (.lr 1 9 true) 14 [.tmp 1],
  zk .write s_ae v_ae 15 [.tmp 14, .const (.int .i64 0)],
  zM 13 15,
  zy xl_ad (.f (fExt 0)) 16 [.tmp 13],
  zy xl_ad (.f (fExt 1)) 17 [.tmp 13],
  zy xl_ad (.la 3 [.int .i64 0, .int .i64 0]) 3 [],
  zY xl_ad (.ls 3 2) [.tmp 3, .tmp 16],
  zM 4 17])
 (.seq none
 (.reg [zy xl_ad (.lr 1 9 true) 19 [.tmp 1],
  zk .write s_ae v_ae 20 [.tmp 19, .const (.int .i64 0)],
  zM 18 20,
  zy xl_ad (.f (fExt 0)) 21 [.tmp 18],
  zy xl_ad (.f (fExt 1)) 22 [.tmp 18],
  zy xl_ad (.la 5 [.int .i64 0, .int .i64 0]) 5 [],
  zY xl_ad (.ls 5 2) [.tmp 5, .tmp 21],
  zM 6 22])
 (.seq none
 (.reg [zM 23 4,
  zM 24 23,
  ⟨(some (2, 1, true, some 24)), some 25, [.tmp 6], ⟨.f fMove, rMove⟩⟩,
  zz (.f fPick) rPick (some 26) [.tmp 24, .tmp 25, .const (.bool false)],
  zM 27 26,
  ⟨(some (5, 4, true, some 27)), some 28, [.tmp 3], ⟨.f (fFld 0), rFld 0⟩⟩,
  ⟨(some (6, 4, true, some 27)), some 29, [.tmp 28], ⟨.lr 3 1 false, rLr1 3⟩⟩,
  ⟨(some (7, 4, true, some 27)), some 30, [.tmp 1], ⟨.f (fFld 0), rFld 0⟩⟩,
  ⟨(some (8, 4, true, some 27)), some 31, [.tmp 30], ⟨.lr 1 7 true, rAny xl_ad (.lr 1 7 true)⟩⟩,
  ⟨(some (9, 4, true, some 27)), some 32, [.tmp 31, (.const (.int .i64 0))], ⟨.call .none s_af v_af, rCall v_af⟩⟩,
  ⟨(some (10, 4, true, some 27)), some 33, [.tmp 29, .tmp 32], ⟨.f (fBin .eql .no), rEql⟩⟩,
  zz (.f fPick) rPick (some 34) [.tmp 27, .tmp 33, .const (.bool false)],
  zM 35 34,
  ⟨(some (13, 12, true, some 35)), some 36, [.tmp 5], ⟨.f (fFld 0), rFld 0⟩⟩,
  ⟨(some (14, 12, true, some 35)), some 37, [.tmp 36], ⟨.lr 5 1 false, rLr1 5⟩⟩,
  ⟨(some (15, 12, true, some 35)), some 38, [.tmp 3], ⟨.f (fFld 0), rFld 0⟩⟩,
  ⟨(some (16, 12, true, some 35)), some 39, [.tmp 38], ⟨.lr 3 1 false, rLr1 3⟩⟩,
  ⟨(some (17, 12, true, some 35)), some 40, [.tmp 39, (.const (.int .i64 3))], ⟨.f (fBin .add .no), rAdd⟩⟩,
  ⟨(some (18, 12, true, some 35)), some 41, [.tmp 37, .tmp 40], ⟨.f (fBin .eql .no), rEql⟩⟩,
  zz (.f fPick) rPick (some 42) [.tmp 35, .tmp 41, .const (.bool false)],
  zM 43 42,
  ⟨(some (21, 20, true, some 43)), some 44, [.tmp 5], ⟨.f (fFld 1), rFld 1⟩⟩,
  ⟨(some (22, 20, true, some 43)), some 45, [.tmp 44], ⟨.lr 5 1 false, rLr1 5⟩⟩,
  ⟨(some (23, 20, true, some 43)), some 46, [.tmp 45, (.const (.int .i64 0))], ⟨.f (fBin .eql .no), rEql⟩⟩,
  zz (.f fPick) rPick (some 47) [.tmp 43, .tmp 46, .const (.bool false)],
  zM 0 47])
 .ret))))))
noncomputable def v_ad : EvF := evFn 0 xc_ad [.t 0]
theorem xt_ad : toC cx_ad (bodyOf Try.f7) = some (xc_ad.map XN.sm) := by kernel_rfl
theorem xr_ad : toR cx_ad Try.f7.results.toList = some [.t 0] := by kernel_rfl
theorem xo_ad : xc_ad.ok xl_ad := ⟨⟨r_m, trivial⟩, ⟨⟨r_c ve_aa, r_m, r_a (eqv_ext _), r_a (eqv_ext _), r_a (trivial), r_a (trivial), r_m, trivial⟩, ⟨⟨⟨r_m, r_t, trivial⟩, ⟨⟨⟨r_m, trivial⟩, trivial⟩, trivial⟩⟩, ⟨⟨r_a (trivial), r_c ve_ae, r_m, r_a (eqv_ext _), r_a (eqv_ext _), r_a (trivial), r_a (trivial), r_m, trivial⟩, ⟨⟨r_a (trivial), r_c ve_ae, r_m, r_a (eqv_ext _), r_a (eqv_ext _), r_a (trivial), r_a (trivial), r_m, trivial⟩, ⟨⟨r_m, r_m, r_m, r_p, r_m, r_f _, r_r _, r_f _, r_a (trivial), r_c ve_af, r_e, r_p, r_m, r_f _, r_r _, r_f _, r_r _, r_d, r_e, r_p, r_m, r_f _, r_r _, r_e, r_p, r_m, trivial⟩, trivial⟩⟩⟩⟩⟩⟩
theorem ve_ad : EvOk s_ad v_ad := EvOk.of (evFn_sound (C := cx_ad) xt_ad xr_ad xo_ad) q_ad
theorem a_law07_awake : v_ad [] ⟨.e, 0⟩ (fun v _ => isT v) = true := by kernel_rfl
def s_ac : Spec := sTrue
theorem e_ac : Entry Try.prog 7 .none s_ac := e_ad.awake ve_ad a_law07_awake
attribute [irreducible] w_ad s_ad s_ac
def w_at_j1b (K : Value → Mem → Prop) (v0 v1 v19 : Value) (σ : Mem) : Prop :=xIf v19
 (xF fMove [.int .u64 0] fun v4 =>K v4 σ)
 (xF fMove [v0] fun v20 =>xF fNil [v20] fun v21 =>xF (fFld 0) [v21] fun v22 =>hLoad 1 false [v22] (fun v23 σ =>xF fMove [v1] fun v24 =>xF (fIxS 1) [v23, v24] fun v25 =>hLoad 1 false [v25] (fun v26 σ =>xF fMove [v26] fun v4 =>K v4 σ) σ) σ)
def w_at_j1 (K : Value → Mem → Prop) (ts : List Value) (ls : List (List Value)) (σ : Mem) : Prop := w_at_j1b K (ts.getD 0 poison) (ts.getD 1 poison) (ts.getD 2 poison) σ
def w_at (a0 a1 : Value) (K : Value → Mem → Prop) (σ : Mem) : Prop :=xF fMove [.int .u64 0] fun v4 =>xJoin (w_at_j1 K) fun J1 =>xF fMove [a0] fun v5 =>xF (fBin .eql .ptr) [v5, .pointer none] fun v6 =>xF fMove [v6] fun v7 =>xIf v7
 (xF fPick [.bool true, .bool true, undef] fun v10 =>xF fMove [v10] fun v11 =>xIf v11
 (xF fPick [.bool true, .bool true, undef] fun v19 =>J1 [a0, a1, v19] [] σ)
 (xF fMove [a1] fun v12 =>xF fMove [a0] fun v13 =>xF fNil [v13] fun v14 =>xF (fFld 0) [v14] fun v15 =>hLoad 1 false [v15] (fun v16 σ =>xF fLen [v16] fun v17 =>xF (fBin .geq .no) [v12, v17] fun v18 =>xF fPick [.bool false, .bool true, v18] fun v19 =>J1 [a0, a1, v19] [] σ) σ))
 (xF fMove [a1] fun v8 =>xF (fBin .lss .no) [v8, .int .i64 0] fun v9 =>xF fPick [.bool false, .bool true, v9] fun v10 =>xF fMove [v10] fun v11 =>xIf v11
 (xF fPick [.bool true, .bool true, undef] fun v19 =>J1 [a0, a1, v19] [] σ)
 (xF fMove [a1] fun v12 =>xF fMove [a0] fun v13 =>xF fNil [v13] fun v14 =>xF (fFld 0) [v14] fun v15 =>hLoad 1 false [v15] (fun v16 σ =>xF fLen [v16] fun v17 =>xF (fBin .geq .no) [v12, v17] fun v18 =>xF fPick [.bool false, .bool true, v18] fun v19 =>J1 [a0, a1, v19] [] σ) σ))
def s_at : Spec := fun args K σ => match args with
  | [a0, a1] => w_at a0 a1 K σ
  | _ => False
noncomputable def cx_at : Cx := { P := Try.prog, T := [], loc := [], eqt := [(25, .ptr)], n := 27, keep := [(1000003, [0, 1, 19], [])] }
theorem q_at : FnS cx_at Try.f10 (bodyOf Try.f10) 2 = s_at := by
  funext args K σ
  rcases args with _ | ⟨a0, _ | ⟨a1, _ | ⟨b, r⟩⟩⟩ <;> kernel_rfl
theorem e_at : Entry Try.prog 10 .read s_at :=
  entry (C := cx_at) TOk.nil mixedOk Try.func10 (by kernel_rfl) (by kernel_rfl) (by kernel_rfl) q_at
attribute [irreducible] w_at_j1b w_at_j1 w_at s_at
def w_a4 (a0 : Value) (K : Value → Mem → Prop) (σ : Mem) : Prop :=xF fMove [.int .i64 0] fun v2 =>hBuildS 1 4 [.int .i64 0] [0, 1, 2, 3] [.int .i64 3, .int .i64 5, .int .i64 9, .int .i64 17] (fun v3 σ =>xF fMove [a0] fun v4 =>xF (fIxS 1) [v3, v4] fun v5 =>hLoad 1 false [v5] (fun v6 σ =>xF fMove [v6] fun v2 =>K v2 σ) σ) σ
def s_a4 : Spec := fun args K σ => match args with
  | [a0] => w_a4 a0 K σ
  | _ => False
noncomputable def cx_a4 : Cx := { P := Try.prog, T := [], loc := [], eqt := [], n := 7, keep := [] }
theorem q_a4 : FnS cx_a4 Try.f14 (bodyOf Try.f14) 1 = s_a4 := by
  funext args K σ
  rcases args with _ | ⟨a0, _ | ⟨b, r⟩⟩ <;> kernel_rfl
theorem e_a4 : Entry Try.prog 14 .write s_a4 :=
  entry (C := cx_a4) TOk.nil mixedOk Try.func14 (by kernel_rfl) (by kernel_rfl) (by kernel_rfl) q_a4
attribute [irreducible] w_a4 s_a4
def w_ab_j5b (K : Value → Mem → Prop) (v7 v13 v14 : Value) (σ : Mem) : Prop :=xF fMove [v13] fun v139 =>xF (fBin .geq .no) [v139, .int .i64 0] fun v140 =>xF fMove [v140] fun v141 =>xIf v141
 (xF fMove [v14] fun v142 =>xF fMove [v7] fun v143 =>s_a4 [v143] (fun v144 σ =>xF (fBin .mul .no) [.int .i64 3, v144] fun v145 =>xF (fBin .eql .no) [v142, v145] fun v146 =>xF fPick [.bool true, v146, .bool false] fun v147 =>xF fMove [v147] fun v4 =>K v4 σ) σ)
 (xF fPick [.bool false, undef, .bool false] fun v147 =>xF fMove [v147] fun v4 =>K v4 σ)
def w_ab_j5 (K : Value → Mem → Prop) (ts : List Value) (ls : List (List Value)) (σ : Mem) : Prop := w_ab_j5b K (ts.getD 0 poison) (ts.getD 1 poison) (ts.getD 2 poison) σ
def w_ab_j6b (K : Value → Mem → Prop) (J5 : List Value → List (List Value) → Mem → Prop) (R1 : List Value → List (List Value) → Mem → Prop) (v7 v13 v14 v15 v138 : Value) (c5 : List Value) (σ : Mem) : Prop :=xIf v138
 (xF fMove [.bool false] fun v4 =>K v4 σ)
 (xF fMove [v15] fun v93 =>xF (fBin .add .no) [v93, .int .i64 1] fun v94 =>xF fMove [v94] fun v15 =>R1 [v7, v13, v14, v15] [c5] σ)
def w_ab_j6 (K : Value → Mem → Prop) (J5 : List Value → List (List Value) → Mem → Prop) (R1 : List Value → List (List Value) → Mem → Prop) (ts : List Value) (ls : List (List Value)) (σ : Mem) : Prop := w_ab_j6b K J5 R1 (ts.getD 0 poison) (ts.getD 1 poison) (ts.getD 2 poison) (ts.getD 3 poison) (ts.getD 4 poison) (ls.getD 0 []) σ
def w_law07_PlaceLeaves_l23b (K : Value → Mem → Prop) (J5 : List Value → List (List Value) → Mem → Prop) (R1 : List Value → List (List Value) → Mem → Prop) (v7 v13 v14 v15 : Value) (c5 : List Value) (σ : Mem) : Prop :=xF fMove [v15] fun v91 =>xF (fBin .lss .no) [v91, .int .i64 6] fun v92 =>xIf v92
 (xF (fFld 7) [(locP 5)] fun v95 =>xO (gLoad 1 false [v95] c5) fun v96 =>xF (fFld 0) [(locP 5)] fun v97 =>xO (gLoad 7 true [v97] c5) fun v98 =>xF fMove [v15] fun v99 =>s_ah [v98, v99] (fun v100 σ =>s_at [v96, v100] (fun v101 σ =>s_a5 [v101] (fun v102 σ =>xC (gStore 4 [(locP 16), v102] [.int .i64 0, .int .i64 0, .int .i64 0, .int .i64 0]) fun c16 =>xF fMove [v14] fun v103 =>xF (fFld 2) [(locP 16)] fun v104 =>xO (gLoad 1 false [v104] c16) fun v105 =>xF (fBin .add .no) [v103, v105] fun v106 =>xF fMove [v106] fun v14 =>xJoin (w_ab_j6 K J5 R1) fun J6 =>xF fMove [v15] fun v107 =>xF fMove [v13] fun v108 =>xF (fBin .eql .no) [v107, v108] fun v109 =>xF fMove [v109] fun v110 =>xIf v110
 (xF (fFld 0) [(locP 16)] fun v111 =>xO (gLoad 1 false [v111] c16) fun v112 =>xF (fBin .neq .no) [v112, .int .i64 1] fun v113 =>xF fMove [v113] fun v114 =>xIf v114
 (xF fPick [.bool true, .bool true, undef] fun v119 =>xF fPick [.bool true, v119, .bool false] fun v120 =>xF fMove [v120] fun v121 =>xIf v121
 (xF fPick [.bool true, .bool true, undef] fun v138 =>J6 [v7, v13, v14, v15, v138] [c5] σ)
 (xF fMove [v15] fun v122 =>xF fMove [v13] fun v123 =>xF (fBin .neq .no) [v122, v123] fun v124 =>xF fMove [v124] fun v125 =>xIf v125
 (xF (fFld 0) [(locP 16)] fun v126 =>xO (gLoad 1 false [v126] c16) fun v127 =>xF (fBin .eql .no) [v127, .int .i64 1] fun v128 =>xF fPick [.bool true, v128, .bool false] fun v129 =>xF fMove [v129] fun v130 =>xIf v130
 (xF (fFld 2) [(locP 16)] fun v131 =>xO (gLoad 1 false [v131] c16) fun v132 =>xF fMove [v7] fun v133 =>s_a4 [v133] (fun v134 σ =>xF (fBin .add .no) [v132, v134] fun v135 =>xF (fBin .leq .no) [v135, .int .i64 20] fun v136 =>xF fPick [.bool true, v136, .bool false] fun v137 =>xF fPick [.bool false, .bool true, v137] fun v138 =>J6 [v7, v13, v14, v15, v138] [c5] σ) σ)
 (xF fPick [.bool false, undef, .bool false] fun v137 =>xF fPick [.bool false, .bool true, v137] fun v138 =>J6 [v7, v13, v14, v15, v138] [c5] σ))
 (xF fPick [.bool false, undef, .bool false] fun v129 =>xF fMove [v129] fun v130 =>xIf v130
 (xF (fFld 2) [(locP 16)] fun v131 =>xO (gLoad 1 false [v131] c16) fun v132 =>xF fMove [v7] fun v133 =>s_a4 [v133] (fun v134 σ =>xF (fBin .add .no) [v132, v134] fun v135 =>xF (fBin .leq .no) [v135, .int .i64 20] fun v136 =>xF fPick [.bool true, v136, .bool false] fun v137 =>xF fPick [.bool false, .bool true, v137] fun v138 =>J6 [v7, v13, v14, v15, v138] [c5] σ) σ)
 (xF fPick [.bool false, undef, .bool false] fun v137 =>xF fPick [.bool false, .bool true, v137] fun v138 =>J6 [v7, v13, v14, v15, v138] [c5] σ))))
 (xF (fFld 1) [(locP 16)] fun v115 =>xO (gLoad 1 false [v115] c16) fun v116 =>xF fMove [v7] fun v117 =>xF (fBin .neq .no) [v116, v117] fun v118 =>xF fPick [.bool false, .bool true, v118] fun v119 =>xF fPick [.bool true, v119, .bool false] fun v120 =>xF fMove [v120] fun v121 =>xIf v121
 (xF fPick [.bool true, .bool true, undef] fun v138 =>J6 [v7, v13, v14, v15, v138] [c5] σ)
 (xF fMove [v15] fun v122 =>xF fMove [v13] fun v123 =>xF (fBin .neq .no) [v122, v123] fun v124 =>xF fMove [v124] fun v125 =>xIf v125
 (xF (fFld 0) [(locP 16)] fun v126 =>xO (gLoad 1 false [v126] c16) fun v127 =>xF (fBin .eql .no) [v127, .int .i64 1] fun v128 =>xF fPick [.bool true, v128, .bool false] fun v129 =>xF fMove [v129] fun v130 =>xIf v130
 (xF (fFld 2) [(locP 16)] fun v131 =>xO (gLoad 1 false [v131] c16) fun v132 =>xF fMove [v7] fun v133 =>s_a4 [v133] (fun v134 σ =>xF (fBin .add .no) [v132, v134] fun v135 =>xF (fBin .leq .no) [v135, .int .i64 20] fun v136 =>xF fPick [.bool true, v136, .bool false] fun v137 =>xF fPick [.bool false, .bool true, v137] fun v138 =>J6 [v7, v13, v14, v15, v138] [c5] σ) σ)
 (xF fPick [.bool false, undef, .bool false] fun v137 =>xF fPick [.bool false, .bool true, v137] fun v138 =>J6 [v7, v13, v14, v15, v138] [c5] σ))
 (xF fPick [.bool false, undef, .bool false] fun v129 =>xF fMove [v129] fun v130 =>xIf v130
 (xF (fFld 2) [(locP 16)] fun v131 =>xO (gLoad 1 false [v131] c16) fun v132 =>xF fMove [v7] fun v133 =>s_a4 [v133] (fun v134 σ =>xF (fBin .add .no) [v132, v134] fun v135 =>xF (fBin .leq .no) [v135, .int .i64 20] fun v136 =>xF fPick [.bool true, v136, .bool false] fun v137 =>xF fPick [.bool false, .bool true, v137] fun v138 =>J6 [v7, v13, v14, v15, v138] [c5] σ) σ)
 (xF fPick [.bool false, undef, .bool false] fun v137 =>xF fPick [.bool false, .bool true, v137] fun v138 =>J6 [v7, v13, v14, v15, v138] [c5] σ)))))
 (xF fPick [.bool false, undef, .bool false] fun v120 =>xF fMove [v120] fun v121 =>xIf v121
 (xF fPick [.bool true, .bool true, undef] fun v138 =>J6 [v7, v13, v14, v15, v138] [c5] σ)
 (xF fMove [v15] fun v122 =>xF fMove [v13] fun v123 =>xF (fBin .neq .no) [v122, v123] fun v124 =>xF fMove [v124] fun v125 =>xIf v125
 (xF (fFld 0) [(locP 16)] fun v126 =>xO (gLoad 1 false [v126] c16) fun v127 =>xF (fBin .eql .no) [v127, .int .i64 1] fun v128 =>xF fPick [.bool true, v128, .bool false] fun v129 =>xF fMove [v129] fun v130 =>xIf v130
 (xF (fFld 2) [(locP 16)] fun v131 =>xO (gLoad 1 false [v131] c16) fun v132 =>xF fMove [v7] fun v133 =>s_a4 [v133] (fun v134 σ =>xF (fBin .add .no) [v132, v134] fun v135 =>xF (fBin .leq .no) [v135, .int .i64 20] fun v136 =>xF fPick [.bool true, v136, .bool false] fun v137 =>xF fPick [.bool false, .bool true, v137] fun v138 =>J6 [v7, v13, v14, v15, v138] [c5] σ) σ)
 (xF fPick [.bool false, undef, .bool false] fun v137 =>xF fPick [.bool false, .bool true, v137] fun v138 =>J6 [v7, v13, v14, v15, v138] [c5] σ))
 (xF fPick [.bool false, undef, .bool false] fun v129 =>xF fMove [v129] fun v130 =>xIf v130
 (xF (fFld 2) [(locP 16)] fun v131 =>xO (gLoad 1 false [v131] c16) fun v132 =>xF fMove [v7] fun v133 =>s_a4 [v133] (fun v134 σ =>xF (fBin .add .no) [v132, v134] fun v135 =>xF (fBin .leq .no) [v135, .int .i64 20] fun v136 =>xF fPick [.bool true, v136, .bool false] fun v137 =>xF fPick [.bool false, .bool true, v137] fun v138 =>J6 [v7, v13, v14, v15, v138] [c5] σ) σ)
 (xF fPick [.bool false, undef, .bool false] fun v137 =>xF fPick [.bool false, .bool true, v137] fun v138 =>J6 [v7, v13, v14, v15, v138] [c5] σ))))) σ) σ) σ)
 (J5 [v7, v13, v14] [] σ)
def w_law07_PlaceLeaves_l23 (K : Value → Mem → Prop) (J5 : List Value → List (List Value) → Mem → Prop) (R1 : List Value → List (List Value) → Mem → Prop) (ts : List Value) (ls : List (List Value)) (σ : Mem) : Prop := w_law07_PlaceLeaves_l23b K J5 R1 (ts.getD 0 poison) (ts.getD 1 poison) (ts.getD 2 poison) (ts.getD 3 poison) (ls.getD 0 []) σ
def w_ab_j4b (K : Value → Mem → Prop) (v7 v83 : Value) (c5 : List Value) (σ : Mem) : Prop :=xIf v83
 (xF fMove [.bool false] fun v4 =>K v4 σ)
 (xF (fFld 7) [(locP 5)] fun v84 =>xO (gLoad 1 false [v84] c5) fun v85 =>xF fMove [v7] fun v86 =>s_am [v86] (fun v87 σ =>s_at [v85, v87] (fun v88 σ =>xF (fConv .i64) [v88] fun v89 =>xF (fBin .sub .no) [v89, .int .i64 1] fun v90 =>xF fMove [v90] fun v13 =>xF fMove [.int .i64 0] fun v14 =>xJoin (w_ab_j5 K) fun J5 =>xF fMove [.int .i64 0] fun v15 =>xLoop (w_law07_PlaceLeaves_l23 K J5) [v7, v13, v14, v15] [c5] σ) σ) σ)
def w_ab_j4 (K : Value → Mem → Prop) (ts : List Value) (ls : List (List Value)) (σ : Mem) : Prop := w_ab_j4b K (ts.getD 0 poison) (ts.getD 1 poison) (ls.getD 0 []) σ
def w_ab_j3b (K : Value → Mem → Prop) (v7 : Value) (c5 c9 : List Value) (σ : Mem) : Prop :=xJoin (w_ab_j4 K) fun J4 =>xF (fIxA 3 1) [(locP 9), .int .i64 0] fun v71 =>xO (gLoad 1 false [v71] c9) fun v72 =>xF (fUn .not) [v72] fun v73 =>xF fMove [v73] fun v74 =>xIf v74
 (xF fPick [.bool true, .bool true, undef] fun v78 =>xF fMove [v78] fun v79 =>xIf v79
 (xF fPick [.bool true, .bool true, undef] fun v83 =>J4 [v7, v83] [c5] σ)
 (xF (fIxA 3 1) [(locP 9), .int .i64 2] fun v80 =>xO (gLoad 1 false [v80] c9) fun v81 =>xF (fUn .not) [v81] fun v82 =>xF fPick [.bool false, .bool true, v82] fun v83 =>J4 [v7, v83] [c5] σ))
 (xF (fIxA 3 1) [(locP 9), .int .i64 1] fun v75 =>xO (gLoad 1 false [v75] c9) fun v76 =>xF (fUn .not) [v76] fun v77 =>xF fPick [.bool false, .bool true, v77] fun v78 =>xF fMove [v78] fun v79 =>xIf v79
 (xF fPick [.bool true, .bool true, undef] fun v83 =>J4 [v7, v83] [c5] σ)
 (xF (fIxA 3 1) [(locP 9), .int .i64 2] fun v80 =>xO (gLoad 1 false [v80] c9) fun v81 =>xF (fUn .not) [v81] fun v82 =>xF fPick [.bool false, .bool true, v82] fun v83 =>J4 [v7, v83] [c5] σ))
def w_ab_j3 (K : Value → Mem → Prop) (ts : List Value) (ls : List (List Value)) (σ : Mem) : Prop := w_ab_j3b K (ts.getD 0 poison) (ls.getD 0 []) (ls.getD 1 []) σ
def w_ab_j7b (K : Value → Mem → Prop) (J3 : List Value → List (List Value) → Mem → Prop) (R1 : List Value → List (List Value) → Mem → Prop) (v1 v7 v11 : Value) (c5 c8 c9 : List Value) (σ : Mem) : Prop :=xF fMove [v11] fun v41 =>xF (fBin .add .no) [v41, .int .i64 1] fun v42 =>xF fMove [v42] fun v11 =>R1 [v1, v7, v11] [c5, c8, c9] σ
def w_ab_j7 (K : Value → Mem → Prop) (J3 : List Value → List (List Value) → Mem → Prop) (R1 : List Value → List (List Value) → Mem → Prop) (ts : List Value) (ls : List (List Value)) (σ : Mem) : Prop := w_ab_j7b K J3 R1 (ts.getD 0 poison) (ts.getD 1 poison) (ts.getD 2 poison) (ls.getD 0 []) (ls.getD 1 []) (ls.getD 2 []) σ
def w_ab_j8b (K : Value → Mem → Prop) (J3 : List Value → List (List Value) → Mem → Prop) (R1 : List Value → List (List Value) → Mem → Prop) (J7 : List Value → List (List Value) → Mem → Prop) (v1 v7 v11 v12 : Value) (c5 c8 c9 : List Value) (σ : Mem) : Prop :=xF fMove [v12] fun v60 =>xF (fIxA 3 1) [(locP 9), v60] fun v61 =>xO (gLoad 1 false [v61] c9) fun v62 =>xF (fUn .not) [v62] fun v63 =>xIf v63
 (xF fMove [v12] fun v64 =>xF fMove [v12] fun v65 =>xF (fIxA 3 1) [(locP 8), v65] fun v66 =>xO (gLoad 1 false [v66] c8) fun v67 =>xO (gLoad 9 true [(locP 5)] c5) fun v68 =>s_a0 [v67, v68] (fun v69 σ =>xF (fIxA 3 1) [(locP 9), v64] fun v70 =>xC (gStore 1 [v70, v69] c9) fun c9 =>J7 [v1, v7, v11] [c5, c8, c9] σ) σ)
 (J7 [v1, v7, v11] [c5, c8, c9] σ)
def w_ab_j8 (K : Value → Mem → Prop) (J3 : List Value → List (List Value) → Mem → Prop) (R1 : List Value → List (List Value) → Mem → Prop) (J7 : List Value → List (List Value) → Mem → Prop) (ts : List Value) (ls : List (List Value)) (σ : Mem) : Prop := w_ab_j8b K J3 R1 J7 (ts.getD 0 poison) (ts.getD 1 poison) (ts.getD 2 poison) (ts.getD 3 poison) (ls.getD 0 []) (ls.getD 1 []) (ls.getD 2 []) σ
def w_ab_j9b (K : Value → Mem → Prop) (J3 : List Value → List (List Value) → Mem → Prop) (R1 : List Value → List (List Value) → Mem → Prop) (J7 : List Value → List (List Value) → Mem → Prop) (J8 : List Value → List (List Value) → Mem → Prop) (v1 v7 v11 v12 v52 : Value) (c5 c8 c9 : List Value) (σ : Mem) : Prop :=xIf v52
 (xF fMove [v1] fun v53 =>xF fMove [v11] fun v54 =>xF (fIxS 1) [v53, v54] fun v55 =>hLoad 1 false [v55] (fun v56 σ =>xF (fBin .rem .no) [v56, .int .i64 3] fun v57 =>xF (fBin .add .no) [v57, .int .i64 3] fun v58 =>xF (fBin .rem .no) [v58, .int .i64 3] fun v59 =>xF fMove [v59] fun v12 =>J8 [v1, v7, v11, v12] [c5, c8, c9] σ) σ)
 (J8 [v1, v7, v11, v12] [c5, c8, c9] σ)
def w_ab_j9 (K : Value → Mem → Prop) (J3 : List Value → List (List Value) → Mem → Prop) (R1 : List Value → List (List Value) → Mem → Prop) (J7 : List Value → List (List Value) → Mem → Prop) (J8 : List Value → List (List Value) → Mem → Prop) (ts : List Value) (ls : List (List Value)) (σ : Mem) : Prop := w_ab_j9b K J3 R1 J7 J8 (ts.getD 0 poison) (ts.getD 1 poison) (ts.getD 2 poison) (ts.getD 3 poison) (ts.getD 4 poison) (ls.getD 0 []) (ls.getD 1 []) (ls.getD 2 []) σ
def w_law07_PlaceLeaves_l12b (K : Value → Mem → Prop) (J3 : List Value → List (List Value) → Mem → Prop) (R1 : List Value → List (List Value) → Mem → Prop) (v1 v7 v11 : Value) (c5 c8 c9 : List Value) (σ : Mem) : Prop :=xF fMove [v11] fun v39 =>xF (fBin .lss .no) [v39, .int .i64 300] fun v40 =>xIf v40
 (xJoin (w_ab_j7 K J3 R1) fun J7 =>xF fMove [v11] fun v43 =>xF (fBin .rem .no) [v43, .int .i64 3] fun v44 =>xF fMove [v44] fun v12 =>xJoin (w_ab_j8 K J3 R1 J7) fun J8 =>xJoin (w_ab_j9 K J3 R1 J7 J8) fun J9 =>xF fMove [v11] fun v45 =>xF fMove [v1] fun v46 =>xF fLen [v46] fun v47 =>xF (fBin .lss .no) [v45, v47] fun v48 =>xF fMove [v48] fun v49 =>xIf v49
 (xF fMove [v11] fun v50 =>xF (fBin .lss .no) [v50, .int .i64 100] fun v51 =>xF fPick [.bool true, v51, .bool false] fun v52 =>J9 [v1, v7, v11, v12, v52] [c5, c8, c9] σ)
 (xF fPick [.bool false, undef, .bool false] fun v52 =>J9 [v1, v7, v11, v12, v52] [c5, c8, c9] σ))
 (J3 [v7] [c5, c9] σ)
def w_law07_PlaceLeaves_l12 (K : Value → Mem → Prop) (J3 : List Value → List (List Value) → Mem → Prop) (R1 : List Value → List (List Value) → Mem → Prop) (ts : List Value) (ls : List (List Value)) (σ : Mem) : Prop := w_law07_PlaceLeaves_l12b K J3 R1 (ts.getD 0 poison) (ts.getD 1 poison) (ts.getD 2 poison) (ls.getD 0 []) (ls.getD 1 []) (ls.getD 2 []) σ
def w_ab_j2b (K : Value → Mem → Prop) (v1 v7 : Value) (c5 c8 c9 : List Value) (σ : Mem) : Prop :=xJoin (w_ab_j3 K) fun J3 =>xF fMove [.int .i64 0] fun v11 =>xLoop (w_law07_PlaceLeaves_l12 K J3) [v1, v7, v11] [c5, c8, c9] σ
def w_ab_j2 (K : Value → Mem → Prop) (ts : List Value) (ls : List (List Value)) (σ : Mem) : Prop := w_ab_j2b K (ts.getD 0 poison) (ts.getD 1 poison) (ls.getD 0 []) (ls.getD 1 []) (ls.getD 2 []) σ
def w_law07_PlaceLeaves_l8b (K : Value → Mem → Prop) (J2 : List Value → List (List Value) → Mem → Prop) (R1 : List Value → List (List Value) → Mem → Prop) (v1 v7 v10 : Value) (c5 c8 c9 : List Value) (σ : Mem) : Prop :=xF fMove [v10] fun v31 =>xF (fBin .lss .no) [v31, .int .i64 3] fun v32 =>xIf v32
 (xF fMove [v10] fun v35 =>xF fMove [v7] fun v36 =>s_ay [v36] (fun v37 σ =>xF (fIxA 3 1) [(locP 8), v35] fun v38 =>xC (gStore 1 [v38, v37] c8) fun c8 =>xF fMove [v10] fun v33 =>xF (fBin .add .no) [v33, .int .i64 1] fun v34 =>xF fMove [v34] fun v10 =>R1 [v1, v7, v10] [c5, c8, c9] σ) σ)
 (J2 [v1, v7] [c5, c8, c9] σ)
def w_law07_PlaceLeaves_l8 (K : Value → Mem → Prop) (J2 : List Value → List (List Value) → Mem → Prop) (R1 : List Value → List (List Value) → Mem → Prop) (ts : List Value) (ls : List (List Value)) (σ : Mem) : Prop := w_law07_PlaceLeaves_l8b K J2 R1 (ts.getD 0 poison) (ts.getD 1 poison) (ts.getD 2 poison) (ls.getD 0 []) (ls.getD 1 []) (ls.getD 2 []) σ
def w_ab_j1b (K : Value → Mem → Prop) (v0 v1 v26 : Value) (c5 : List Value) (σ : Mem) : Prop :=xIf v26
 (xF fMove [.bool false] fun v4 =>K v4 σ)
 (xF fMove [v0] fun v27 =>xF (fBin .and .no) [v27, .int .i64 3] fun v28 =>xF fMove [v28] fun v7 =>xF (fBuild [(0, 1), (1, 1), (2, 1)] [.pointer none, .pointer none, .pointer none] []) [] fun v29 =>xF (fBuild [(0, 1), (1, 1), (2, 1)] [.bool false, .bool false, .bool false] []) [] fun v30 =>xC (gStore 3 [(locP 8), v29] [.pointer none, .pointer none, .pointer none]) fun c8 =>xC (gStore 3 [(locP 9), v30] [.bool false, .bool false, .bool false]) fun c9 =>xJoin (w_ab_j2 K) fun J2 =>xF fMove [.int .i64 0] fun v10 =>xLoop (w_law07_PlaceLeaves_l8 K J2) [v1, v7, v10] [c5, c8, c9] σ)
def w_ab_j1 (K : Value → Mem → Prop) (ts : List Value) (ls : List (List Value)) (σ : Mem) : Prop := w_ab_j1b K (ts.getD 0 poison) (ts.getD 1 poison) (ts.getD 2 poison) (ls.getD 0 []) σ
def w_ab (a0 a1 : Value) (K : Value → Mem → Prop) (σ : Mem) : Prop :=xF fMove [.bool false] fun v4 =>s_aa [.int .i64 4, .int .i64 1, .int .i64 6, .int .i64 20] (fun v18 σ =>xF fMove [v18] fun v17 =>xF (fExt 0) [v17] fun v19 =>xF (fExt 1) [v17] fun v20 =>xC (gStore 9 [(locP 5), v19] [.int .i64 0, .int .i64 0, .int .i64 0, .int .i64 0, .int .i64 0, .int .i64 0, .int .i64 0, .pointer none, .int .i64 0]) fun c5 =>xF fMove [v20] fun v6 =>xJoin (w_ab_j1 K) fun J1 =>s_ac [] (fun v21 σ =>xF (fUn .not) [v21] fun v22 =>xF fMove [v22] fun v23 =>xIf v23
 (xF fPick [.bool true, .bool true, undef] fun v26 =>J1 [a0, a1, v26] [c5] σ)
 (xF fMove [v6] fun v24 =>xF (fUn .not) [v24] fun v25 =>xF fPick [.bool false, .bool true, v25] fun v26 =>J1 [a0, a1, v26] [c5] σ)) σ) σ
def s_ab : Spec := fun args K σ => match args with
  | [a0, a1] => w_ab a0 a1 K σ
  | _ => False
noncomputable def cx_ab : Cx := { P := Try.prog, T := [(6, .write, s_aa), (7, .none, s_ac), (8, .write, s_ay), (9, .write, s_a0), (11, .none, s_am), (10, .read, s_at), (13, .none, s_ah), (12, .none, s_a5), (14, .write, s_a4)], loc := [(5, 5), (8, 8), (9, 9), (16, 16), (38, 8), (61, 9), (66, 8), (70, 9), (71, 9), (75, 9), (80, 9), (84, 5), (95, 5), (97, 5), (104, 16), (111, 16), (115, 16), (126, 16), (131, 16)], eqt := [], n := 148, keep := [(8, [1, 7, 10], [5, 8, 9]), (12, [1, 7, 11], [5, 8, 9]), (23, [7, 13, 14, 15], [5]), (1000004, [0, 1, 26], [5]), (1000011, [1, 7], [5, 8, 9]), (1000013, [1, 7, 11], [5, 8, 9]), (1000016, [1, 7, 11, 12, 52], [5, 8, 9]), (1000017, [1, 7, 11, 12], [5, 8, 9]), (1000019, [7], [5, 9]), (1000020, [7, 83], [5]), (1000028, [7, 13, 14, 15, 138], [5]), (1000029, [7, 13, 14], [])] }
theorem q_ab : FnS cx_ab Try.f3 (bodyOf Try.f3) 2 = s_ab := by
  funext args K σ
  rcases args with _ | ⟨a0, _ | ⟨a1, _ | ⟨b, r⟩⟩⟩ <;> kernel_rfl
theorem e_ab : Entry Try.prog 3 .write s_ab :=
  entry (C := cx_ab) (TOk.cons e_aa (TOk.cons e_ac (TOk.cons e_ay (TOk.cons e_a0 (TOk.cons e_am (TOk.cons e_at (TOk.cons e_ah (TOk.cons e_a5 (TOk.cons e_a4 TOk.nil))))))))) mixedOk Try.func3 (by kernel_rfl) (by kernel_rfl) (by kernel_rfl) q_ab
attribute [irreducible] w_ab_j5b w_ab_j5 w_ab_j6b w_ab_j6 w_law07_PlaceLeaves_l23b w_law07_PlaceLeaves_l23 w_ab_j4b w_ab_j4 w_ab_j3b w_ab_j3 w_ab_j7b w_ab_j7 w_ab_j8b w_ab_j8 w_ab_j9b w_ab_j9 w_law07_PlaceLeaves_l12b w_law07_PlaceLeaves_l12 w_ab_j2b w_ab_j2 w_law07_PlaceLeaves_l8b w_law07_PlaceLeaves_l8 w_ab_j1b w_ab_j1 w_ab s_ab
end Go.Fl
namespace Go.Fl
open Go
set_option linter.unusedVariables false
set_option linter.unusedSimpArgs false
theorem Mem.set_set (σ : Mem) (i : Nat) (a b : Blk) : (σ.set i a).set i b = σ.set i b := by
 apply Mem.ext'; funext j; simp only [Mem.set]; split <;> rfl
theorem Mem.set_self {σ : Mem} {i : Nat} {b : Blk} (h : σ.get i = some b) : σ.set i b = σ := by
 apply Mem.ext'; funext j; simp only [Mem.set]; split
 ·rename_i e; rw [e, h]
 ·rfl
theorem Mem.set_comm (σ : Mem) {i j : Nat} (a b : Blk) (h : i ≠ j) : (σ.set i a).set j b = (σ.set j b).set i a := by
 apply Mem.ext'; funext k; simp only [Mem.set]
 by_cases h1 : k = j <;> by_cases h2 : k = i <;> simp [h1, h2]
 ·exact absurd (h2.symm.trans h1) h
 ·intro e; exact absurd e.symm h
 ·intro e; exact absurd e h
@[simp] theorem Mem.get_set_same (σ : Mem) (i : Nat) (b : Blk) : (σ.set i b).get i = some b := by simp [Mem.set]
theorem Mem.get_set_ne (σ : Mem) {i j : Nat} (b : Blk) (h : j ≠ i) : (σ.set i b).get j = σ.get j := by simp [Mem.set, h]
theorem nr {α : Sort _} {a b : α} (h : a = b) : a = b := h
section
variable {K : Value → Prop} {x y z : Value} {b o off : Nat} {q : Option Nat} {k k' : IntKind} {a c : Int} {Q : EqK}
theorem xMove : xF fMove [x] K = K x := nr rfl
theorem xPickT : xF fPick [.bool true, x, y] K = K x := nr rfl
theorem xPickF : xF fPick [.bool false, x, y] K = K y := nr rfl
theorem xNil {p : Addr} : xF fNil [.pointer (some p)] K = K (.pointer (some p)) := nr rfl
theorem xFld {p : Addr} : xF (fFld off) [.pointer (some p)] K = K (.pointer (some ⟨p.block, p.off + off, p.spot⟩)) := nr rfl
theorem xExt0 : xF (fExt 0) [.tuple #[x, y]] K = K x := nr rfl
theorem xExt1 : xF (fExt 1) [.tuple #[x, y]] K = K y := nr rfl
theorem xExt30 : xF (fExt 0) [.tuple #[x, y, z]] K = K x := nr rfl
theorem xExt31 : xF (fExt 1) [.tuple #[x, y, z]] K = K y := nr rfl
theorem xExt32 : xF (fExt 2) [.tuple #[x, y, z]] K = K z := nr rfl
theorem xAdd : xF (fBin .add Q) [.int k a, .int k c] K = K (.int k (k.wrap (a + c))) := by simp [xF, fBin, isSh, binI]
theorem xSub : xF (fBin .sub Q) [.int k a, .int k c] K = K (.int k (k.wrap (a - c))) := by simp [xF, fBin, isSh, binI]
theorem xMul : xF (fBin .mul Q) [.int k a, .int k c] K = K (.int k (k.wrap (a * c))) := by simp [xF, fBin, isSh, binI]
theorem xRem (h : c ≠ 0) : xF (fBin .rem Q) [.int k a, .int k c] K = K (.int k (a.tmod c)) := by simp [xF, fBin, isSh, binI, h]
theorem xEql : xF (fBin .eql Q) [.int k a, .int k c] K = K (.bool (decide (a = c))) := by
 simp only [xF, fBin, isSh, binI]
 simp only [Bool.false_eq_true, if_false, if_true]
 congr 2
theorem xNeq : xF (fBin .neq Q) [.int k a, .int k c] K = K (.bool (decide (a ≠ c))) := by
 simp only [xF, fBin, isSh, binI]
 simp only [Bool.false_eq_true, if_false, if_true]
 congr 2
 by_cases h : a = c <;> simp [h]
theorem xLss : xF (fBin .lss Q) [.int k a, .int k c] K = K (.bool (decide (a < c))) := by simp [xF, fBin, isSh, binI]
theorem xLeq : xF (fBin .leq Q) [.int k a, .int k c] K = K (.bool (decide (a ≤ c))) := by simp [xF, fBin, isSh, binI]
theorem xGtr : xF (fBin .gtr Q) [.int k a, .int k c] K = K (.bool (decide (c < a))) := by simp [xF, fBin, isSh, binI]
theorem xGeq : xF (fBin .geq Q) [.int k a, .int k c] K = K (.bool (decide (c ≤ a))) := by simp [xF, fBin, isSh, binI]
theorem xEqPN {p : Addr} : xF (fBin .eql .ptr) [.pointer (some p), .pointer none] K = K (.bool false) := nr rfl
theorem xEqNN : xF (fBin .eql .ptr) [.pointer none, .pointer none] K = K (.bool true) := nr rfl
theorem xNePN {p : Addr} : xF (fBin .neq .ptr) [.pointer (some p), .pointer none] K = K (.bool true) := nr rfl
theorem xNeNN : xF (fBin .neq .ptr) [.pointer none, .pointer none] K = K (.bool false) := nr rfl
theorem xEqBB {u v : Bool} : xF (fBin .eql .bool) [.bool u, .bool v] K = K (.bool (u == v)) := nr rfl
theorem xNeBB {u v : Bool} : xF (fBin .neq .bool) [.bool u, .bool v] K = K (.bool (!(u == v))) := nr rfl
theorem xNot {u : Bool} : xF (fUn .not) [.bool u] K = K (.bool (!u)) := by simp [xF, fUn]
theorem xConv : xF (fConv k) [.int k' a] K = K (.int k (k.wrap a)) := nr rfl
theorem xLen {p : Option Addr} {n m : Nat} : xF fLen [.slice p n m] K = K (.int .i64 n) := nr rfl
theorem xMin : xF fMin [.int k a, .int k c] K = K (.int k (min a c)) := by
 show K (.int k (if c < a then c else a)) = _
 congr 2; split <;> omega
theorem xMax : xF fMax [.int k a, .int k c] K = K (.int k (max a c)) := by
 show K (.int k (if c > a then c else a)) = _
 congr 2; split <;> omega
theorem xIfc {t : TypeId} : xF (fIface t) [x] K = K (.iface t x) := nr rfl
theorem xIxS {p : Addr} {n m es : Nat} (h0 : 0 ≤ a) (h1 : a < n) : xF (fIxS es) [.slice (some p) n m, .int k a] K = K (.pointer (some ⟨p.block, p.off + a.toNat * es, p.spot⟩)) := by
 simp only [xF, fIxS, if_pos (And.intro h0 h1)]; rfl
theorem xIxA {p : Addr} {n es : Nat} (h0 : 0 ≤ a) (h1 : a < n) : xF (fIxA n es) [.pointer (some p), .int k a] K = K (.pointer (some ⟨p.block, p.off + a.toNat * es, p.spot⟩)) := by
 simp only [xF, fIxA, if_pos (And.intro h0 h1)]; rfl
theorem xFldV {cs : Array Value} {sz : Nat} {ag : Bool} : xF (fFldV off sz ag) [.agg cs] K = xO (sub cs.toList off sz ag) K := nr rfl
end
theorem xIfT {A B : Prop} : xIf (.bool true) A B = A := nr rfl
theorem xIfF {A B : Prop} : xIf (.bool false) A B = B := nr rfl
theorem xIfD {A B : Prop} {p : Prop} [Decidable p] : xIf (.bool (decide p)) A B = if p then A else B := by
 by_cases h : p <;> simp [xIf, h]
theorem xJoinE {F : List Value → List (List Value) → Mem → Prop} {G : (List Value → List (List Value) → Mem → Prop) → Prop} : xJoin F G = G F := nr rfl
theorem xOs {v : Value} {K : Value → Prop} : xO (some v) K = K v := nr rfl
theorem xCs {c : List Value} {K : List Value → Prop} : xC (some c) K = K c := nr rfl
theorem sub_one {cs : List Value} {o : Nat} {v : Value} (h : cs[o]? = some v) : sub cs o 1 false = some v := by
 have : o < cs.length := (List.getElem?_eq_some_iff.1 h).1
 simp [sub, h, show o + 1 ≤ cs.length by omega]
theorem lay_one {cs : List Value} {o : Nat} {v : Value} : lay cs o [v] = cs.take o ++ v :: cs.drop (o + 1) := by simp [lay]
theorem lay_set {cs : List Value} {o : Nat} {v : Value} (h : o < cs.length) : lay cs o [v] = cs.set o v := by
 rw [lay_one, List.set_eq_take_append_cons_drop, if_pos h]
theorem hLoad_eq {sz b o : Nat} {ag : Bool} {K : Value → Mem → Prop} {σ : Mem} {cs : List Value} {rw : Bool} (h : σ.get b = some ⟨cs, rw⟩) :
  hLoad sz ag [.pointer (some ⟨b, o, none⟩)] K σ = xO (sub cs o sz ag) (fun v => K v σ) := by
 simp only [hLoad, rd, h]
 cases sub cs o sz ag <;> rfl
theorem hStore_eq {sz b o : Nat} {K : Value → Mem → Prop} {σ : Mem} {cs c : List Value} {x : Value} (h : σ.get b = some ⟨cs, true⟩) (hc : cellsOf x sz = some c)
  (hl : o + sz ≤ cs.length) (ho : c.all oneB = true) : hStore sz [.pointer (some ⟨b, o, none⟩), x] K σ = K undef (σ.set b ⟨lay cs o c, true⟩) := by
 simp only [hStore, wr, h, hc]
 rw [if_pos ⟨trivial, hl, ho⟩]
def upd (f : Int → Int) (a v : Int) : Int → Int := fun i => if i = a then v else f i
theorem upd_same (f : Int → Int) (a v : Int) : upd f a v a = v := by simp [upd]
theorem upd_ne (f : Int → Int) {a i : Int} (v : Int) (h : i ≠ a) : upd f a v i = f i := by simp [upd, h]
def cells (k : IntKind) (n : Nat) (f : Int → Int) : List Value := (List.range n).map fun i : Nat => Value.int k (f (i : Int))
@[simp] theorem cells_len (k : IntKind) (n : Nat) (f : Int → Int) : (cells k n f).length = n := by simp [cells]
theorem cells_get (k : IntKind) {n : Nat} (f : Int → Int) {a : Int} (h0 : 0 ≤ a) (h1 : a < n) : (cells k n f)[a.toNat]? = some (.int k (f a)) := by
 have : a.toNat < n := by omega
 simp only [cells, List.getElem?_map, List.getElem?_range this, Option.map_some]
 rw [show ((a.toNat : Nat) : Int) = a by omega]
theorem cells_set (k : IntKind) {n : Nat} (f : Int → Int) {a : Int} (v : Int) (h0 : 0 ≤ a) (h1 : a < n) : (cells k n f).set a.toNat (.int k v) = cells k n (upd f a v) := by
 apply List.ext_getElem?
 intro i
 rw [List.getElem?_set]
 by_cases hi : i < n
 ·simp only [cells, List.getElem?_map, List.getElem?_range hi, Option.map_some, List.length_map, List.length_range]
  by_cases e : a.toNat = i
  ·subst e
   rw [if_pos rfl, if_pos hi]
   simp [upd]
   intro hc; omega
  ·rw [if_neg e]
   have : (i : Int) ≠ a := by omega
   simp [upd, this]
 ·have h2 : ¬ a.toNat = i := by omega
  rw [if_neg h2]
  simp [cells, hi]
theorem cells_sub (k : IntKind) {n : Nat} (f : Int → Int) {a : Int} (h0 : 0 ≤ a) (h1 : a < n) : sub (cells k n f) (0 + a.toNat * 1) 1 false = some (.int k (f a)) := by
 rw [show 0 + a.toNat * 1 = a.toNat by omega]
 exact sub_one (cells_get k f h0 h1)
theorem cells_lay (k : IntKind) {n : Nat} (f : Int → Int) {a : Int} (v : Int) (h0 : 0 ≤ a) (h1 : a < n) : lay (cells k n f) (0 + a.toNat * 1) [.int k v] = cells k n (upd f a v) := by
 rw [show 0 + a.toNat * 1 = a.toNat by omega, lay_set (by simp; omega), cells_set k f v h0 h1]
theorem cells_repl (k : IntKind) (n : Nat) : (List.replicate n [Value.int k 0]).flatten = cells k n fun _ => 0 := by
 rw [List.flatten_replicate_singleton]
 apply List.ext_getElem?
 intro i
 by_cases hi : i < n
 ·simp [cells, hi, List.getElem?_replicate, List.getElem?_range hi]
 ·simp [cells, hi, List.getElem?_replicate]
theorem locP_e (k : Nat) : locP k = .pointer (some ⟨k, 0, some 0⟩) := nr rfl
theorem gBox_a {cs : List Value} {sz : Nat} {l : List Value} (h : cs.length = sz) : gBox sz [.agg cs.toArray] l = some cs := by
 subst h
 show cellsOf (.agg cs.toArray) _ = _
 simp [cellsOf]
theorem gBox_i {k : IntKind} {n : Int} {l : List Value} : gBox 1 [.int k n] l = some [.int k n] := nr rfl
theorem gBox_b {b : Bool} {l : List Value} : gBox 1 [.bool b] l = some [.bool b] := nr rfl
theorem gBox_p {p : Option Addr} {l : List Value} : gBox 1 [.pointer p] l = some [.pointer p] := nr rfl
theorem gLoad_s {sz k o : Nat} {ag : Bool} {q : Option Nat} {cs : List Value} : gLoad sz ag [.pointer (some ⟨k, o, q⟩)] cs = sub cs o sz ag := nr rfl
theorem gAlloc_s {z l : List Value} : gAlloc z [] l = some z := nr rfl
theorem gStore_a {sz k o : Nat} {q : Option Nat} {c cs : List Value} (h : c.length = sz) (hl : o + sz ≤ cs.length) (ho : c.all oneB = true) :
  gStore sz [.pointer (some ⟨k, o, q⟩), .agg c.toArray] cs = some (lay cs o c) := by
 subst h
 have : cellsOf (.agg c.toArray) c.length = some c := by simp [cellsOf]
 simp only [gStore, this]
 rw [if_pos ⟨hl, ho⟩]
theorem gStore_1 {k o : Nat} {q : Option Nat} {x : Value} {cs : List Value} (h : cellsOf x 1 = some [x]) (hl : o + 1 ≤ cs.length) (ho : oneB x = true) :
  gStore 1 [.pointer (some ⟨k, o, q⟩), x] cs = some (lay cs o [x]) := by
 simp only [gStore, h]
 rw [if_pos ⟨hl, by simp [ho]⟩]
theorem gStore_i {k o : Nat} {q : Option Nat} {kd : IntKind} {n : Int} {cs : List Value} (hl : o + 1 ≤ cs.length) :
  gStore 1 [.pointer (some ⟨k, o, q⟩), .int kd n] cs = some (lay cs o [.int kd n]) := gStore_1 rfl hl rfl
theorem gStore_b {k o : Nat} {q : Option Nat} {b : Bool} {cs : List Value} (hl : o + 1 ≤ cs.length) :
  gStore 1 [.pointer (some ⟨k, o, q⟩), .bool b] cs = some (lay cs o [.bool b]) := gStore_1 rfl hl rfl
theorem gStore_p {k o : Nat} {q : Option Nat} {p : Option Addr} {cs : List Value} (hl : o + 1 ≤ cs.length) :
  gStore 1 [.pointer (some ⟨k, o, q⟩), .pointer p] cs = some (lay cs o [.pointer p]) := gStore_1 rfl hl rfl
theorem sub_z {x : Value} {cs : List Value} : sub (x :: cs) 0 1 false = some x := by simp [sub]
theorem sub_s {x : Value} {cs : List Value} {n : Nat} : sub (x :: cs) (n + 1) 1 false = sub cs n 1 false := by
 simp only [sub, List.length_cons]
 by_cases h : n + 1 ≤ cs.length
 ·rw [if_pos h, if_pos (by omega)]; simp
 ·rw [if_neg h, if_neg (by omega)]
theorem sub_l {cs : List Value} {o sz : Nat} : sub cs o sz true = if o + sz ≤ cs.length then some (.agg ((cs.drop o).take sz).toArray) else none := by simp [sub]
theorem oneB_i {k : IntKind} {n : Int} : oneB (.int k n) = true := nr rfl
theorem oneB_b {b : Bool} : oneB (.bool b) = true := nr rfl
theorem oneB_p {p : Option Addr} : oneB (.pointer p) = true := nr rfl
theorem oneB_sl {p : Option Addr} {n c : Nat} : oneB (.slice p n c) = true := nr rfl
theorem lay_z {cs vs : List Value} : lay cs 0 vs = vs ++ cs.drop vs.length := by simp [lay]
theorem lay_s {x : Value} {cs vs : List Value} {n : Nat} : lay (x :: cs) (n + 1) vs = x :: lay cs n vs := by
 simp only [lay, List.take_succ_cons, List.cons_append]
 rw [show n + 1 + vs.length = (n + vs.length) + 1 by omega, List.drop_succ_cons]
def SlW (w : World) (ks : List (Option IntKind)) (v : Value) : Prop := v = .slice none 0 0 ∨ ∃ (a : Addr) (len cap : Nat) (cells : List Value), v = .slice (some a) len cap ∧ len ≤ cap ∧ cap ≤ maxLen ∧
 FlatL (List.replicate len ks).flatten cells ∧ (cap = 0 ∨ InW w a (cap * ks.length) (len * ks.length) cells)
theorem Opn.sl {w : World} {ρ : Ren} {σ : Mem} {avs avs' : List Value} {v : Value} {ks : List (Option IntKind)} (h : Opn w ρ σ avs avs') (hv : SlW w ks v) :
  ∃ ρ' σ' s n cs, Opn w ρ' σ' (s :: avs) (v :: avs') ∧ Sl σ' ks.length n cs s ∧ n ≤ maxLen ∧ FlatL (List.replicate n ks).flatten cs ∧ ∀ i b, σ.get i = some b → σ'.get i = some b := by
 rcases hv with rfl | ⟨a, len, cap, cs, rfl, h1, h2, h3, h4⟩
 ·exact ⟨ρ, σ, _, 0, [], h.nilS, .nil, Nat.zero_le _, .nil, fun _ _ q => q⟩
 ·obtain ⟨ρ', σ', s, o, sl, ext⟩ := h.slice (es := ks.length) h1 h3 (by simp) h4
  exact ⟨ρ', σ', s, len, cs, o, sl, Nat.le_trans h1 h2, h3, ext⟩
theorem FlatL.ints {k : IntKind} : ∀ {n : Nat} {cs : List Value}, FlatL (List.replicate n [some k]).flatten cs → ∃ f : Int → Int, cs = cells k n f ∧ ∀ i, (Lit.int k (f i)).wf = true
 | 0, cs, h => by
  cases h
  refine ⟨fun _ => 0, rfl, fun i => ?_⟩
  show (Lit.int k 0).wf = true
  cases k <;> decide
 | n + 1, cs, h => by
  have e : (List.replicate (n + 1) [some k]).flatten = some k :: (List.replicate n [some k]).flatten := by simp [List.replicate_succ]
  rw [e] at h
  cases h with
  | cons h1 h2 =>
   obtain ⟨m, rfl, hm⟩ := h1
   obtain ⟨f, rfl, hf⟩ := FlatL.ints h2
   refine ⟨fun i => if i = 0 then m else f (i - 1), ?_, fun i => ?_⟩
   ·simp only [cells, List.range_succ_eq_map, List.map_cons, List.map_map]
    congr 1
    apply List.map_congr_left
    intro i _
    simp only [Function.comp]
    rw [if_neg (by omega)]
    congr 2; omega
   ·dsimp only; split
    ·exact hm
    ·exact hf _
theorem ruS : type_of% ((And.intro (And.intro (And.intro (And.intro (And.intro @xMove (And.intro @xPickT @xPickF)) (And.intro @xNil (And.intro @xFld @xExt0))) (And.intro (And.intro @xExt1 (And.intro @xExt30 @xExt31)) (And.intro (And.intro @xExt32 @xAdd) (And.intro @xSub @xMul)))) (And.intro (And.intro (And.intro @xEql (And.intro @xNeq @xLss)) (And.intro @xLeq (And.intro @xGtr @xGeq))) (And.intro (And.intro @xEqPN (And.intro @xEqNN @xNePN)) (And.intro (And.intro @xNeNN @xEqBB) (And.intro @xNeBB @xNot))))) (And.intro (And.intro (And.intro (And.intro @xConv (And.intro @xLen @xMin)) (And.intro @xMax (And.intro @xIfc @xIfT))) (And.intro (And.intro @xIfF (And.intro @xIfD @xJoinE)) (And.intro (And.intro @xOs @xCs) (And.intro @xFldV @List.getD_cons_zero.{0})))) (And.intro (And.intro (And.intro @List.getD_cons_succ.{0} (And.intro @Nat.zero_add @Mem.get_set_same)) (And.intro (And.intro @Mem.set_set @if_true.{1}) (And.intro @if_false.{1} @Bool.not_true))) (And.intro (And.intro @Bool.not_false (And.intro @decide_true @decide_false)) (And.intro (And.intro @decide_eq_true_eq @decide_not) (And.intro @Bool.not_eq_true @Bool.false_eq_true))))))) := (And.intro (And.intro (And.intro (And.intro (And.intro @xMove (And.intro @xPickT @xPickF)) (And.intro @xNil (And.intro @xFld @xExt0))) (And.intro (And.intro @xExt1 (And.intro @xExt30 @xExt31)) (And.intro (And.intro @xExt32 @xAdd) (And.intro @xSub @xMul)))) (And.intro (And.intro (And.intro @xEql (And.intro @xNeq @xLss)) (And.intro @xLeq (And.intro @xGtr @xGeq))) (And.intro (And.intro @xEqPN (And.intro @xEqNN @xNePN)) (And.intro (And.intro @xNeNN @xEqBB) (And.intro @xNeBB @xNot))))) (And.intro (And.intro (And.intro (And.intro @xConv (And.intro @xLen @xMin)) (And.intro @xMax (And.intro @xIfc @xIfT))) (And.intro (And.intro @xIfF (And.intro @xIfD @xJoinE)) (And.intro (And.intro @xOs @xCs) (And.intro @xFldV @List.getD_cons_zero.{0})))) (And.intro (And.intro (And.intro @List.getD_cons_succ.{0} (And.intro @Nat.zero_add @Mem.get_set_same)) (And.intro (And.intro @Mem.set_set @if_true.{1}) (And.intro @if_false.{1} @Bool.not_true))) (And.intro (And.intro @Bool.not_false (And.intro @decide_true @decide_false)) (And.intro (And.intro @decide_eq_true_eq @decide_not) (And.intro @Bool.not_eq_true @Bool.false_eq_true))))))
theorem ruL : type_of% ((And.intro (And.intro (And.intro (And.intro (And.intro @locP_e @gBox_a) (And.intro @gBox_i @gBox_b)) (And.intro (And.intro @gBox_p @gLoad_s) (And.intro @gAlloc_s @gStore_a))) (And.intro (And.intro (And.intro @gStore_i @gStore_b) (And.intro @gStore_p @sub_z)) (And.intro (And.intro @sub_s @lay_z) (And.intro @lay_s @List.length_cons.{0})))) (And.intro (And.intro (And.intro (And.intro @List.length_nil.{0} @Nat.le_refl) (And.intro @List.drop_zero.{0} @List.drop_succ_cons.{0})) (And.intro (And.intro @List.take_succ_cons.{0} @List.take_zero.{0}) (And.intro @List.drop_nil.{0} @List.cons_append.{0}))) (And.intro (And.intro (And.intro @List.nil_append.{0} @List.all_cons.{0}) (And.intro @List.all_nil.{0} @oneB_i)) (And.intro (And.intro @oneB_b @oneB_p) (And.intro @oneB_sl @Bool.and_true)))))) := (And.intro (And.intro (And.intro (And.intro (And.intro @locP_e @gBox_a) (And.intro @gBox_i @gBox_b)) (And.intro (And.intro @gBox_p @gLoad_s) (And.intro @gAlloc_s @gStore_a))) (And.intro (And.intro (And.intro @gStore_i @gStore_b) (And.intro @gStore_p @sub_z)) (And.intro (And.intro @sub_s @lay_z) (And.intro @lay_s @List.length_cons.{0})))) (And.intro (And.intro (And.intro (And.intro @List.length_nil.{0} @Nat.le_refl) (And.intro @List.drop_zero.{0} @List.drop_succ_cons.{0})) (And.intro (And.intro @List.take_succ_cons.{0} @List.take_zero.{0}) (And.intro @List.drop_nil.{0} @List.cons_append.{0}))) (And.intro (And.intro (And.intro @List.nil_append.{0} @List.all_cons.{0}) (And.intro @List.all_nil.{0} @oneB_i)) (And.intro (And.intro @oneB_b @oneB_p) (And.intro @oneB_sl @Bool.and_true)))))
theorem ruX : type_of% (@sub_l) := @sub_l
end Go.Fl
namespace Go.Fl
open Go
set_option linter.unusedVariables false
set_option linter.unusedSimpArgs false
structure Ar where
 n : Nat
 w : Int → Int
 t : Int → Int
 s : Int
 who : Int
 la : Int
 lw : Int
 lc : Bool
structure Nm where
 m : Nat
 w : Nat
 t : Nat
def Ar.mc (N : Nm) (A : Ar) : List Value := [.slice (some ⟨N.w, 0, none⟩) A.n 1, .slice (some ⟨N.t, 0, none⟩) A.n 1, .int .i64 A.s, .int .i64 A.who, .int .i64 A.la, .int .i64 A.lw, .bool A.lc]
def Ar.wb (A : Ar) : Blk := ⟨cells .u64 A.n A.w, true⟩
def Ar.tb (A : Ar) : Blk := ⟨cells .i64 A.n A.t, true⟩
structure Nm.ok (N : Nm) : Prop where
 mw : N.m ≠ N.w
 mt : N.m ≠ N.t
 wt : N.w ≠ N.t
def putA (N : Nm) (A : Ar) (σ : Mem) : Mem := ((σ.set N.t A.tb).set N.w A.wb).set N.m ⟨A.mc N, true⟩
variable {N : Nm} {A B : Ar} {σ : Mem} {K : Value → Mem → Prop}
theorem putA_m : (putA N A σ).get N.m = some ⟨A.mc N, true⟩ := by simp [putA]
theorem putA_w (h : N.ok) : (putA N A σ).get N.w = some A.wb := by simp [putA, Mem.get_set, h.mw.symm]
theorem putA_t (h : N.ok) : (putA N A σ).get N.t = some A.tb := by simp [putA, Mem.get_set, h.mt.symm, h.wt.symm]
theorem putA_ne {i : Nat} (h1 : i ≠ N.m) (h2 : i ≠ N.w) (h3 : i ≠ N.t) : (putA N A σ).get i = σ.get i := by simp [putA, Mem.get_set, h1, h2, h3]
theorem putA_set {p : Nat} {c : Blk} (h1 : p ≠ N.m) (h2 : p ≠ N.w) (h3 : p ≠ N.t) : (putA N A σ).set p c = putA N A (σ.set p c) := by
 simp only [putA]
 rw [Mem.set_comm _ _ _ h1.symm, Mem.set_comm _ _ _ h2.symm, Mem.set_comm _ _ _ h3.symm]
def Ar.by (A : Ar) (who : Int) : Ar := { A with who := who }
def Ar.step (A : Ar) (a : Int) : Ar := { A with s := IntKind.i64.wrap (A.s + 1), la := a, lw := A.who, lc := false }
def Ar.lay (A : Ar) (a v : Int) : Ar := { A with lc := decide (A.w a ≠ v), t := if A.w a ≠ v then upd A.t a A.s else A.t, w := upd A.w a v }
def Ar.tick (A : Ar) : Ar := { A with s := IntKind.i64.wrap (A.s + 1) }
def Ar.lst (A : Ar) (a : Int) : Ar := { A with la := a, lw := A.who, lc := false }
def Ar.chg (A : Ar) (c : Bool) : Ar := { A with lc := c }
def Ar.setW (A : Ar) (a v : Int) : Ar := { A with w := upd A.w a v }
def Ar.setT (A : Ar) (a v : Int) : Ar := { A with t := upd A.t a v }
theorem putA_setM (h : A.n = B.n) (hw : A.w = B.w) (ht : A.t = B.t) : (putA N A σ).set N.m ⟨B.mc N, true⟩ = putA N B σ := by
 simp only [putA, Mem.set_set, Ar.wb, Ar.tb, h, hw, ht]
theorem ldM0 : hLoad 1 false [.pointer (some ⟨N.m, 0, none⟩)] K (putA N A σ) = K (.slice (some ⟨N.w, 0, none⟩) A.n 1) (putA N A σ) := (hLoad_eq putA_m).trans rfl
theorem ldM1 : hLoad 1 false [.pointer (some ⟨N.m, 1, none⟩)] K (putA N A σ) = K (.slice (some ⟨N.t, 0, none⟩) A.n 1) (putA N A σ) := (hLoad_eq putA_m).trans rfl
theorem ldM2 : hLoad 1 false [.pointer (some ⟨N.m, 2, none⟩)] K (putA N A σ) = K (.int .i64 A.s) (putA N A σ) := (hLoad_eq putA_m).trans rfl
theorem ldM3 : hLoad 1 false [.pointer (some ⟨N.m, 3, none⟩)] K (putA N A σ) = K (.int .i64 A.who) (putA N A σ) := (hLoad_eq putA_m).trans rfl
theorem ldM6 : hLoad 1 false [.pointer (some ⟨N.m, 6, none⟩)] K (putA N A σ) = K (.bool A.lc) (putA N A σ) := (hLoad_eq putA_m).trans rfl
theorem stM2 : hStore 1 [.pointer (some ⟨N.m, 2, none⟩), .int .i64 (IntKind.i64.wrap (A.s + 1))] K (putA N A σ) = K undef (putA N A.tick σ) := by
 rw [hStore_eq putA_m rfl (by simp [Ar.mc]) rfl]
 exact congrArg _ (putA_setM (B := A.tick) rfl rfl rfl)
theorem stM3 {who : Int} : hStore 1 [.pointer (some ⟨N.m, 3, none⟩), .int .i64 who] K (putA N A σ) = K undef (putA N (A.by who) σ) := by
 rw [hStore_eq putA_m rfl (by simp [Ar.mc]) rfl]
 exact congrArg _ (putA_setM (B := A.by who) rfl rfl rfl)
theorem stM4 {a : Int} : hStore 3 [.pointer (some ⟨N.m, 4, none⟩), .agg #[.int .i64 a, .int .i64 A.who, .bool false]] K (putA N A σ) = K undef (putA N (A.lst a) σ) := by
 rw [hStore_eq putA_m rfl (by simp [Ar.mc]) rfl]
 exact congrArg _ (putA_setM (B := A.lst a) rfl rfl rfl)
theorem stM6 {c : Bool} : hStore 1 [.pointer (some ⟨N.m, 6, none⟩), .bool c] K (putA N A σ) = K undef (putA N (A.chg c) σ) := by
 rw [hStore_eq putA_m rfl (by simp [Ar.mc]) rfl]
 exact congrArg _ (putA_setM (B := A.chg c) rfl rfl rfl)
theorem ldW (h : N.ok) {a : Int} (h0 : 0 ≤ a) (h1 : a < A.n) : hLoad 1 false [.pointer (some ⟨N.w, a.toNat * 1, none⟩)] K (putA N A σ) = K (.int .u64 (A.w a)) (putA N A σ) := by
 rw [hLoad_eq (putA_w h)]
 have := cells_sub .u64 A.w h0 h1
 rw [Nat.zero_add] at this
 rw [this, xOs]
theorem stW (h : N.ok) {a v : Int} (h0 : 0 ≤ a) (h1 : a < A.n) : hStore 1 [.pointer (some ⟨N.w, a.toNat * 1, none⟩), .int .u64 v] K (putA N A σ) = K undef (putA N (A.setW a v) σ) := by
 have := cells_lay .u64 A.w v h0 h1
 rw [Nat.zero_add] at this
 rw [hStore_eq (putA_w h) rfl (by simp; omega) rfl, this]
 refine congrArg _ ?_
 simp only [putA]
 rw [Mem.set_comm _ _ _ h.mw, Mem.set_set]; rfl
theorem stT (h : N.ok) {a v : Int} (h0 : 0 ≤ a) (h1 : a < A.n) : hStore 1 [.pointer (some ⟨N.t, a.toNat * 1, none⟩), .int .i64 v] K (putA N A σ) = K undef (putA N (A.setT a v) σ) := by
 have := cells_lay .i64 A.t v h0 h1
 rw [Nat.zero_add] at this
 rw [hStore_eq (putA_t h) rfl (by simp; omega) rfl, this]
 refine congrArg _ ?_
 simp only [putA]
 rw [Mem.set_comm _ _ _ h.mt, Mem.set_comm _ _ _ h.wt, Mem.set_set]; rfl
theorem xBuildLast {a b : Int} {K : Value → Prop} : xF (fBuild [(0, 1), (1, 1), (2, 1)] [.int .i64 0, .int .i64 0, .bool false] [0, 1]) [.int .i64 a, .int .i64 b] K = K (.agg #[.int .i64 a, .int .i64 b, .bool false]) := rfl
def Nm.p (N : Nm) : Value := .pointer (some ⟨N.m, 0, none⟩)
theorem c_By {who : Int} : s_aq [N.p, .int .i64 who] K (putA N A σ) = K (.tuple #[]) (putA N (A.by who) σ) := by
 simp only [s_aq, w_aq, Nm.p, stM3, ruS, Nat.reduceAdd, reduceIte, Int.reduceLT, Int.reduceLE, Int.reduceEq, Int.reduceNeg, Int.reduceAdd, Int.reduceSub]
theorem c_step {a : Int} (h0 : 0 ≤ a) (h1 : a < A.n) : s_aw [N.p, .int .i64 a] K (putA N A σ) = K (.bool true) (putA N (A.step a) σ) := by
 simp only [s_aw, w_aw, w_aw_j1, w_aw_j1b, Nm.p, ldM0, ldM2, ldM3, stM2, stM4, xBuildLast, ruS, Nat.reduceAdd, reduceIte, Int.reduceLT, Int.reduceLE, Int.reduceEq, Int.reduceNeg, Int.reduceAdd, Int.reduceSub]
 rw [if_neg (by omega), if_neg (by omega)]
 rfl
theorem c_set (h : N.ok) {a v : Int} (h0 : 0 ≤ a) (h1 : a < A.n) : s_av [N.p, .int .i64 a, .int .u64 v] K (putA N A σ) = K (.tuple #[]) (putA N (A.lay a v) σ) := by
 have h2 : ∀ c, a < (A.chg c).n := fun _ => h1
 simp only [s_av, w_av, w_av_j1, w_av_j1b, Nm.p, ldM0, ldM1, ldM2, ldM6, stM6, xIxS h0 h1, xIxS h0 (h2 _), ldW h h0 h1, ruS, Nat.reduceAdd, reduceIte, Int.reduceLT, Int.reduceLE, Int.reduceEq, Int.reduceNeg, Int.reduceAdd, Int.reduceSub]
 by_cases hc : A.w a = v
 ·simp only [hc, Ar.chg, ne_eq, not_true_eq_false, decide_false, Bool.false_eq_true, if_false, xIxS h0 h1, ruS, Nat.reduceAdd, reduceIte, Int.reduceLT, Int.reduceLE, Int.reduceEq, Int.reduceNeg, Int.reduceAdd, Int.reduceSub]
  have h3 : a < (A.chg false).n := h1
  rw [show ({ n := A.n, w := A.w, t := A.t, s := A.s, who := A.who, la := A.la, lw := A.lw, lc := false } : Ar) = A.chg false from rfl]
  simp only [xIxS h0 h3, stW h h0 h3, Nat.zero_add]
  refine congrArg _ (congrArg (putA N · σ) ?_)
  simp [Ar.setW, Ar.chg, Ar.lay, hc]
 ·simp only [hc, ne_eq, not_false_eq_true, decide_true, if_true, Ar.chg, ruS, Nat.reduceAdd, reduceIte, Int.reduceLT, Int.reduceLE, Int.reduceEq, Int.reduceNeg, Int.reduceAdd, Int.reduceSub]
  have h3 : a < (A.chg true).n := h1
  have h4 : a < ((A.chg true).setT a A.s).n := h1
  rw [show ({ n := A.n, w := A.w, t := A.t, s := A.s, who := A.who, la := A.la, lw := A.lw, lc := true } : Ar) = A.chg true from rfl]
  simp only [xIxS h0 h3, stT h h0 h3, Nat.zero_add]
  simp only [ldM0, ruS, Nat.reduceAdd, reduceIte, Int.reduceLT, Int.reduceLE, Int.reduceEq, Int.reduceNeg, Int.reduceAdd, Int.reduceSub]
  simp only [xIxS h0 h4, stW h h0 h4, Nat.zero_add]
  refine congrArg _ (congrArg (putA N · σ) ?_)
  simp [Ar.setW, Ar.setT, Ar.chg, Ar.lay, hc]
def Ar.load (A : Ar) (a : Int) : Ar := A.step a
def Ar.store (A : Ar) (a v : Int) : Ar := (A.step a).lay a v
def Ar.cas (A : Ar) (a o v : Int) : Ar := if A.w a = o then (A.step a).lay a v else A.step a
def Ar.add (A : Ar) (a d : Int) : Ar := (A.step a).lay a (IntKind.u64.wrap (A.w a + d))
theorem step_lt {a b : Int} (h : a < A.n) : a < (A.step b).n := h
theorem c_mLoad (h : N.ok) {a : Int} (h0 : 0 ≤ a) (h1 : a < A.n) : s_as [N.p, .int .i64 a] K (putA N A σ) = K (.tuple #[.int .u64 (A.w a), .int .i64 0]) (putA N (A.load a) σ) := by
 simp only [s_as, w_as, ruS, Nat.reduceAdd, reduceIte, Int.reduceLT, Int.reduceLE, Int.reduceEq, Int.reduceNeg, Int.reduceAdd, Int.reduceSub, c_step h0 h1]
 simp only [Nm.p, ldM0, xIxS h0 (step_lt h1), ldW h h0 (step_lt h1), ruS, Nat.reduceAdd, reduceIte, Int.reduceLT, Int.reduceLE, Int.reduceEq, Int.reduceNeg, Int.reduceAdd, Int.reduceSub]
 rfl
theorem c_mStore (h : N.ok) {a v : Int} (h0 : 0 ≤ a) (h1 : a < A.n) : s_au [N.p, .int .i64 a, .int .u64 v] K (putA N A σ) = K (.int .i64 0) (putA N (A.store a v) σ) := by
 simp only [s_au, w_au, ruS, Nat.reduceAdd, reduceIte, Int.reduceLT, Int.reduceLE, Int.reduceEq, Int.reduceNeg, Int.reduceAdd, Int.reduceSub, c_step h0 h1, c_set h h0 (step_lt h1)]
 rfl
theorem c_mCas (h : N.ok) {a o v : Int} (h0 : 0 ≤ a) (h1 : a < A.n) : s_ar [N.p, .int .i64 a, .int .u64 o, .int .u64 v] K (putA N A σ) = K (.tuple #[.bool (decide (A.w a = o)), .int .i64 0]) (putA N (A.cas a o v) σ) := by
 simp only [s_ar, w_ar, ruS, Nat.reduceAdd, reduceIte, Int.reduceLT, Int.reduceLE, Int.reduceEq, Int.reduceNeg, Int.reduceAdd, Int.reduceSub, c_step h0 h1]
 have hw : (A.step a).w a = A.w a := rfl
 simp only [Nm.p, ldM0, xIxS h0 (step_lt h1), ldW h h0 (step_lt h1), ruS, Nat.reduceAdd, reduceIte, Int.reduceLT, Int.reduceLE, Int.reduceEq, Int.reduceNeg, Int.reduceAdd, Int.reduceSub, hw]
 by_cases hc : A.w a = o
 ·have := c_set (K := fun v σ => K (.tuple #[.bool true, .int .i64 0]) σ) (σ := σ) (v := v) h h0 (step_lt (b := a) h1)
  simp only [Nm.p] at this
  simp only [hc, decide_true, if_false, if_true, not_true_eq_false, ne_eq, this, Ar.cas, ruS, Nat.reduceAdd, reduceIte, Int.reduceLT, Int.reduceLE, Int.reduceEq, Int.reduceNeg, Int.reduceAdd, Int.reduceSub]
 ·simp only [hc, decide_false, if_true, not_false_eq_true, ne_eq, Ar.cas, if_false, ruS, Nat.reduceAdd, reduceIte, Int.reduceLT, Int.reduceLE, Int.reduceEq, Int.reduceNeg, Int.reduceAdd, Int.reduceSub]
theorem c_mPeek (h : N.ok) {a : Int} (h0 : 0 ≤ a) (h1 : a < A.n) : s_at [N.p, .int .i64 a] K (putA N A σ) = K (.int .u64 (A.w a)) (putA N A σ) := by
 simp only [s_at, w_at, w_at_j1, w_at_j1b, Nm.p, ldM0, ruS, Nat.reduceAdd, reduceIte, Int.reduceLT, Int.reduceLE, Int.reduceEq, Int.reduceNeg, Int.reduceAdd, Int.reduceSub]
 rw [if_neg (by omega), if_neg (by omega), xIxS h0 h1]
 simp only [Nat.zero_add]
 rw [ldW h h0 h1]
structure Cf where
 T : Int
 S : Int
 C : Int
 W : Int
 G : Int
 P : Int
 R : Int
def Cf.l (c : Cf) : List Value := [.int .i64 c.T, .int .i64 c.S, .int .i64 c.C, .int .i64 c.W, .int .i64 c.G, .int .i64 c.P, .int .i64 c.R]
def Cf.v (c : Cf) : Value := .agg #[.int .i64 c.T, .int .i64 c.S, .int .i64 c.C, .int .i64 c.W, .int .i64 c.G, .int .i64 c.P, .int .i64 c.R]
def Nm.env (N : Nm) (c : Cf) (who : Int) : Value := .agg #[.int .i64 c.T, .int .i64 c.S, .int .i64 c.C, .int .i64 c.W, .int .i64 c.G, .int .i64 c.P, .int .i64 c.R, N.p, .int .i64 who]
variable {C : Cf} {who : Int}
theorem by_lt {a : Int} (h : a < A.n) : a < (A.by who).n := h
theorem c_Load (h : N.ok) {a : Int} (h0 : 0 ≤ a) (h1 : a < A.n) : s_aj [N.env C who, .int .i64 a] K (putA N A σ) = K (.int .u64 (A.w a)) (putA N ((A.by who).load a) σ) := by
 simp only [s_aj, w_aj, Nm.env, ruS, ruL, ruX, Nat.reduceAdd, reduceIte, Int.reduceLT, Int.reduceLE, Int.reduceEq, Int.reduceNeg, Int.reduceAdd, Int.reduceSub, Nat.reduceLeDiff, c_By, c_mLoad h h0 (by_lt h1)]
 rfl
theorem c_Cas (h : N.ok) {a o v : Int} (h0 : 0 ≤ a) (h1 : a < A.n) : s_ai [N.env C who, .int .i64 a, .int .u64 o, .int .u64 v] K (putA N A σ) = K (.bool (decide (A.w a = o))) (putA N ((A.by who).cas a o v) σ) := by
 simp only [s_ai, w_ai, Nm.env, ruS, ruL, ruX, Nat.reduceAdd, reduceIte, Int.reduceLT, Int.reduceLE, Int.reduceEq, Int.reduceNeg, Int.reduceAdd, Int.reduceSub, Nat.reduceLeDiff, c_By, c_mCas h h0 (by_lt h1)]
 rfl
theorem xAnd63 {K : Value → Prop} {Q : EqK} {k : Nat} {w : Int} (h0 : 0 ≤ w) (h1 : w < 18446744073709551616) (hk : k ≤ 63) : xF (fBin .and Q) [.int .u64 w, .int .u64 (2 ^ k - 1)] K = K (.int .u64 (w % 2 ^ k)) := by
 obtain ⟨n, rfl⟩ := Int.eq_ofNat_of_zero_le h0
 have e : ((2 : Int) ^ k - 1) = ((2 ^ k - 1 : Nat) : Int) := by
  have : 0 < 2 ^ k := Nat.two_pow_pos k
  push_cast [Nat.one_le_two_pow]
  rfl
 have hb : 2 ^ k < 2 ^ 64 := Nat.pow_lt_pow_right (by decide) (by omega)
 have hn : n < 2 ^ 64 := by omega
 have q : (BitVec.ofInt 64 (n : Int) &&& BitVec.ofInt 64 ((2 ^ k - 1 : Nat) : Int)).toNat = n % 2 ^ k := by
  rw [BitVec.toNat_and, BitVec.toNat_ofInt, BitVec.toNat_ofInt]
  have h3 : ((n : Int) % ((2 ^ 64 : Nat) : Int)).toNat = n := by omega
  have h4 : (((2 ^ k - 1 : Nat) : Int) % ((2 ^ 64 : Nat) : Int)).toNat = 2 ^ k - 1 := by omega
  rw [h3, h4, Nat.and_two_pow_sub_one_eq_mod]
 show xF (fBin .and Q) _ _ = _
 simp only [xF, fBin, isSh, binI, Bool.false_eq_true, if_false, if_true]
 show K (.int .u64 (IntKind.u64.wrap ((BitVec.ofInt 64 (n : Int) &&& BitVec.ofInt 64 (2 ^ k - 1)).toNat : Int))) = _
 rw [e, q, IntWalk.u64_in _ (by have := Nat.mod_lt n (Nat.two_pow_pos k); omega)]
 push_cast
 rfl
theorem and2 {K : Value → Prop} {Q : EqK} {w : Int} (h0 : 0 ≤ w) (h1 : w < 18446744073709551616) : xF (fBin .and Q) [.int .u64 w, .int .u64 3] K = K (.int .u64 (w % 4)) := by
 simpa using xAnd63 (K := K) (Q := Q) (k := 2) h0 h1 (by decide)
theorem and6 {K : Value → Prop} {Q : EqK} {w : Int} (h0 : 0 ≤ w) (h1 : w < 18446744073709551616) : xF (fBin .and Q) [.int .u64 w, .int .u64 63] K = K (.int .u64 (w % 64)) := by
 simpa using xAnd63 (K := K) (Q := Q) (k := 6) h0 h1 (by decide)
theorem and20 {K : Value → Prop} {Q : EqK} {w : Int} (h0 : 0 ≤ w) (h1 : w < 18446744073709551616) : xF (fBin .and Q) [.int .u64 w, .int .u64 1048575] K = K (.int .u64 (w % 1048576)) := by
 simpa using xAnd63 (K := K) (Q := Q) (k := 20) h0 h1 (by decide)
theorem and36 {K : Value → Prop} {Q : EqK} {w : Int} (h0 : 0 ≤ w) (h1 : w < 18446744073709551616) : xF (fBin .and Q) [.int .u64 w, .int .u64 68719476735] K = K (.int .u64 (w % 68719476736)) := by
 simpa using xAnd63 (K := K) (Q := Q) (k := 36) h0 h1 (by decide)
theorem xShrG {K : Value → Prop} {Q : EqK} {k' : IntKind} {s : Nat} {w : Int} (h0 : 0 ≤ w) (hs : s ≤ 64) : xF (fBin .shr Q) [.int .u64 w, .int k' (s : Int)] K = K (.int .u64 (w / 2 ^ s)) := by
 have h : ¬ ((s : Int) < 0) := by omega
 have hm : min s IntKind.u64.bits = s := Nat.min_eq_left hs
 simp only [xF, fBin, isSh, shI, if_true, if_neg h, Int.toNat_natCast, hm]
 rw [Int.fdiv_eq_ediv_of_nonneg _ (by exact Int.le_of_lt (Int.pow_pos (by decide)))]
theorem xShlG {K : Value → Prop} {Q : EqK} {k' : IntKind} {s : Nat} {w : Int} (h0 : 0 ≤ w) (h1 : w * 2 ^ s < 18446744073709551616) (hs : s ≤ 64) : xF (fBin .shl Q) [.int .u64 w, .int k' (s : Int)] K = K (.int .u64 (w * 2 ^ s)) := by
 have h : ¬ ((s : Int) < 0) := by omega
 have hm : min s IntKind.u64.bits = s := Nat.min_eq_left hs
 simp only [xF, fBin, isSh, shI, if_true, if_neg h, Int.toNat_natCast, hm]
 rw [IntWalk.u64_in _ ⟨Int.mul_nonneg h0 (Int.le_of_lt (Int.pow_pos (by decide))), by omega⟩]
theorem xOrG {K : Value → Prop} {Q : EqK} {s : Nat} {a c : Int} (h0 : 0 ≤ a) (h1 : a < 2 ^ s) (h2 : 0 ≤ c) (h3 : a + c * 2 ^ s < 18446744073709551616) :
  xF (fBin .or Q) [.int .u64 a, .int .u64 (c * 2 ^ s)] K = K (.int .u64 (a + c * 2 ^ s)) := by
 obtain ⟨m, rfl⟩ := Int.eq_ofNat_of_zero_le h0
 obtain ⟨n, rfl⟩ := Int.eq_ofNat_of_zero_le h2
 have e : (n : Int) * 2 ^ s = ((n * 2 ^ s : Nat) : Int) := by push_cast; rfl
 rw [e] at h3 ⊢
 have hm : m < 2 ^ s := by exact_mod_cast h1
 have q : (BitVec.ofInt 64 (m : Int) ||| BitVec.ofInt 64 ((n * 2 ^ s : Nat) : Int)).toNat = m + n * 2 ^ s := by
  rw [BitVec.toNat_or, BitVec.toNat_ofInt, BitVec.toNat_ofInt]
  have h4 : ((m : Int) % ((2 ^ 64 : Nat) : Int)).toNat = m := by omega
  have h5 : (((n * 2 ^ s : Nat) : Int) % ((2 ^ 64 : Nat) : Int)).toNat = n * 2 ^ s := by omega
  rw [h4, h5, Nat.mul_comm n, Nat.or_comm, ← Nat.two_pow_add_eq_or_of_lt hm, Nat.add_comm]
 simp only [xF, fBin, isSh, binI, Bool.false_eq_true, if_false, if_true]
 show K (.int .u64 (IntKind.u64.wrap ((BitVec.ofInt 64 (m : Int) ||| BitVec.ofInt 64 ((n * 2 ^ s : Nat) : Int)).toNat : Int))) = _
 rw [q, IntWalk.u64_in _ (by omega)]
 push_cast
 rfl
theorem shr2 {K : Value → Prop} {Q : EqK} {k' : IntKind} {w : Int} (h0 : 0 ≤ w) : xF (fBin .shr Q) [.int .u64 w, .int k' 2] K = K (.int .u64 (w / 4)) := by
 simpa using xShrG (K := K) (Q := Q) (k' := k') (s := 2) h0 (by decide)
theorem shl2 {K : Value → Prop} {Q : EqK} {k' : IntKind} {w : Int} (h0 : 0 ≤ w) (h1 : w * 4 < 18446744073709551616) : xF (fBin .shl Q) [.int .u64 w, .int k' 2] K = K (.int .u64 (w * 4)) := by
 simpa using xShlG (K := K) (Q := Q) (k' := k') (s := 2) h0 (by simpa using h1) (by decide)
theorem or2 {K : Value → Prop} {Q : EqK} {a c : Int} (h0 : 0 ≤ a) (h1 : a < 4) (h2 : 0 ≤ c) (h3 : a + c * 4 < 18446744073709551616) : xF (fBin .or Q) [.int .u64 a, .int .u64 (c * 4)] K = K (.int .u64 (a + c * 4)) := by
 simpa using xOrG (K := K) (Q := Q) (s := 2) h0 (by simpa using h1) h2 (by simpa using h3)
theorem shl3 {K : Value → Prop} {Q : EqK} {k' : IntKind} {w : Int} (h0 : 0 ≤ w) (h1 : w * 8 < 18446744073709551616) : xF (fBin .shl Q) [.int .u64 w, .int k' 3] K = K (.int .u64 (w * 8)) := by
 simpa using xShlG (K := K) (Q := Q) (k' := k') (s := 3) h0 (by simpa using h1) (by decide)
theorem or3 {K : Value → Prop} {Q : EqK} {a c : Int} (h0 : 0 ≤ a) (h1 : a < 8) (h2 : 0 ≤ c) (h3 : a + c * 8 < 18446744073709551616) : xF (fBin .or Q) [.int .u64 a, .int .u64 (c * 8)] K = K (.int .u64 (a + c * 8)) := by
 simpa using xOrG (K := K) (Q := Q) (s := 3) h0 (by simpa using h1) h2 (by simpa using h3)
theorem shr8 {K : Value → Prop} {Q : EqK} {k' : IntKind} {w : Int} (h0 : 0 ≤ w) : xF (fBin .shr Q) [.int .u64 w, .int k' 8] K = K (.int .u64 (w / 256)) := by
 simpa using xShrG (K := K) (Q := Q) (k' := k') (s := 8) h0 (by decide)
theorem shl8 {K : Value → Prop} {Q : EqK} {k' : IntKind} {w : Int} (h0 : 0 ≤ w) (h1 : w * 256 < 18446744073709551616) : xF (fBin .shl Q) [.int .u64 w, .int k' 8] K = K (.int .u64 (w * 256)) := by
 simpa using xShlG (K := K) (Q := Q) (k' := k') (s := 8) h0 (by simpa using h1) (by decide)
theorem or8 {K : Value → Prop} {Q : EqK} {a c : Int} (h0 : 0 ≤ a) (h1 : a < 256) (h2 : 0 ≤ c) (h3 : a + c * 256 < 18446744073709551616) : xF (fBin .or Q) [.int .u64 a, .int .u64 (c * 256)] K = K (.int .u64 (a + c * 256)) := by
 simpa using xOrG (K := K) (Q := Q) (s := 8) h0 (by simpa using h1) h2 (by simpa using h3)
theorem shl17 {K : Value → Prop} {Q : EqK} {k' : IntKind} {w : Int} (h0 : 0 ≤ w) (h1 : w * 131072 < 18446744073709551616) : xF (fBin .shl Q) [.int .u64 w, .int k' 17] K = K (.int .u64 (w * 131072)) := by
 simpa using xShlG (K := K) (Q := Q) (k' := k') (s := 17) h0 (by simpa using h1) (by decide)
theorem or17 {K : Value → Prop} {Q : EqK} {a c : Int} (h0 : 0 ≤ a) (h1 : a < 131072) (h2 : 0 ≤ c) (h3 : a + c * 131072 < 18446744073709551616) : xF (fBin .or Q) [.int .u64 a, .int .u64 (c * 131072)] K = K (.int .u64 (a + c * 131072)) := by
 simpa using xOrG (K := K) (Q := Q) (s := 17) h0 (by simpa using h1) h2 (by simpa using h3)
theorem shl23 {K : Value → Prop} {Q : EqK} {k' : IntKind} {w : Int} (h0 : 0 ≤ w) (h1 : w * 8388608 < 18446744073709551616) : xF (fBin .shl Q) [.int .u64 w, .int k' 23] K = K (.int .u64 (w * 8388608)) := by
 simpa using xShlG (K := K) (Q := Q) (k' := k') (s := 23) h0 (by simpa using h1) (by decide)
theorem or23 {K : Value → Prop} {Q : EqK} {a c : Int} (h0 : 0 ≤ a) (h1 : a < 8388608) (h2 : 0 ≤ c) (h3 : a + c * 8388608 < 18446744073709551616) : xF (fBin .or Q) [.int .u64 a, .int .u64 (c * 8388608)] K = K (.int .u64 (a + c * 8388608)) := by
 simpa using xOrG (K := K) (Q := Q) (s := 23) h0 (by simpa using h1) h2 (by simpa using h3)
theorem shr28 {K : Value → Prop} {Q : EqK} {k' : IntKind} {w : Int} (h0 : 0 ≤ w) : xF (fBin .shr Q) [.int .u64 w, .int k' 28] K = K (.int .u64 (w / 268435456)) := by
 simpa using xShrG (K := K) (Q := Q) (k' := k') (s := 28) h0 (by decide)
theorem shl28 {K : Value → Prop} {Q : EqK} {k' : IntKind} {w : Int} (h0 : 0 ≤ w) (h1 : w * 268435456 < 18446744073709551616) : xF (fBin .shl Q) [.int .u64 w, .int k' 28] K = K (.int .u64 (w * 268435456)) := by
 simpa using xShlG (K := K) (Q := Q) (k' := k') (s := 28) h0 (by simpa using h1) (by decide)
theorem or28 {K : Value → Prop} {Q : EqK} {a c : Int} (h0 : 0 ≤ a) (h1 : a < 268435456) (h2 : 0 ≤ c) (h3 : a + c * 268435456 < 18446744073709551616) : xF (fBin .or Q) [.int .u64 a, .int .u64 (c * 268435456)] K = K (.int .u64 (a + c * 268435456)) := by
 simpa using xOrG (K := K) (Q := Q) (s := 28) h0 (by simpa using h1) h2 (by simpa using h3)
theorem shl39 {K : Value → Prop} {Q : EqK} {k' : IntKind} {w : Int} (h0 : 0 ≤ w) (h1 : w * 549755813888 < 18446744073709551616) : xF (fBin .shl Q) [.int .u64 w, .int k' 39] K = K (.int .u64 (w * 549755813888)) := by
 simpa using xShlG (K := K) (Q := Q) (k' := k') (s := 39) h0 (by simpa using h1) (by decide)
theorem or39 {K : Value → Prop} {Q : EqK} {a c : Int} (h0 : 0 ≤ a) (h1 : a < 549755813888) (h2 : 0 ≤ c) (h3 : a + c * 549755813888 < 18446744073709551616) : xF (fBin .or Q) [.int .u64 a, .int .u64 (c * 549755813888)] K = K (.int .u64 (a + c * 549755813888)) := by
 simpa using xOrG (K := K) (Q := Q) (s := 39) h0 (by simpa using h1) h2 (by simpa using h3)
def cl (n m : Int) : Int := min (max n 0) m
theorem cl_nn {n m : Int} (h : 0 ≤ m) : 0 ≤ cl n m := by unfold cl; omega
theorem cl_le {n m : Int} : cl n m ≤ m := by unfold cl; omega
theorem cl_in {n m : Int} (h0 : 0 ≤ n) (h1 : n ≤ m) : cl n m = n := by unfold cl; omega
theorem c_fit {n m : Int} (h0 : 0 ≤ m) (h1 : m < 18446744073709551616) : s_a9 [.int .i64 n, .int .i64 m] K σ = K (.int .u64 (cl n m)) σ := by
 simp only [s_a9, w_a9, ruS, Nat.reduceAdd, reduceIte, Int.reduceLT, Int.reduceLE, Int.reduceEq, Int.reduceNeg, Int.reduceAdd, Int.reduceSub]
 rw [IntWalk.u64_in _ (by omega)]; rfl
def putTop (s c : Int) : Int := cl (min s 65535 + 1) 65536 + cl c 68719476735 * 131072
theorem putTop_in (s c : Int) : 0 ≤ putTop s c ∧ putTop s c < 18446744073709551616 := by unfold putTop cl; omega
theorem c_PutTop {s c : Int} (h : -9223372036854775808 ≤ s) : s_a8 [.int .i64 s, .int .i64 c] K σ = K (.int .u64 (putTop s c)) σ := by
 simp only [s_a8, w_a8, ruS, Nat.reduceAdd, reduceIte, Int.reduceLT, Int.reduceLE, Int.reduceEq, Int.reduceNeg, Int.reduceAdd, Int.reduceSub]
 have h1 := @cl_le (min s 65535 + 1) 65536
 have h2 := @cl_nn (min s 65535 + 1) 65536 (by decide)
 have h3 := @cl_le c 68719476735
 have h4 := @cl_nn c 68719476735 (by decide)
 rw [IntWalk.i64_in _ (by omega), c_fit (by decide) (by decide), c_fit (by decide) (by decide), shl17 h4 (by omega), or17 h2 (by omega) h4 (by omega)]
 rfl
def putSlot (st ad ge ve : Int) : Int := cl st 7 + cl ad 1048575 * 8 + cl ge 65535 * 8388608 + cl ve 4194303 * 549755813888
theorem putSlot_in (st ad ge ve : Int) : 0 ≤ putSlot st ad ge ve ∧ putSlot st ad ge ve < 18446744073709551616 := by unfold putSlot cl; omega
theorem c_PutSlot {st ad ge ve : Int} : s_a7 [.agg #[.int .i64 st, .int .i64 ad, .int .i64 ge, .int .i64 ve]] K σ = K (.int .u64 (putSlot st ad ge ve)) σ := by
 simp only [s_a7, w_a7, ruS, ruL, ruX, Nat.reduceAdd, reduceIte, Int.reduceLT, Int.reduceLE, Int.reduceEq, Int.reduceNeg, Int.reduceAdd, Int.reduceSub, Nat.reduceLeDiff]
 have h1 := @cl_le st 7
 have h2 := @cl_nn st 7 (by decide)
 have h3 := @cl_le ad 1048575
 have h4 := @cl_nn ad 1048575 (by decide)
 have h5 := @cl_le ge 65535
 have h6 := @cl_nn ge 65535 (by decide)
 have h7 := @cl_le ve 4194303
 have h8 := @cl_nn ve 4194303 (by decide)
 rw [c_fit (by decide) (by decide), c_fit (by decide) (by decide), shl3 h4 (by omega), or3 h2 (by omega) h4 (by omega), c_fit (by decide) (by decide), shl23 h6 (by omega), or23 (by omega) (by omega) h6 (by omega),
  c_fit (by decide) (by decide), shl39 h8 (by omega), or39 (by omega) (by omega) h8 (by omega)]
 rfl
structure isA (N : Nm) (A : Ar) (σ : Mem) : Prop where
 m : σ.get N.m = some ⟨A.mc N, true⟩
 w : σ.get N.w = some A.wb
 t : σ.get N.t = some A.tb
def Ext (σ τ : Mem) : Prop := ∀ i b, σ.get i = some b → τ.get i = some b
def Keep (L : List Nat) (σ τ : Mem) : Prop := ∀ i b, σ.get i = some b → i ∉ L → τ.get i = some b
theorem Ext.refl : Ext σ σ := fun _ _ h => h
theorem Ext.trans {τ υ : Mem} (h : Ext σ τ) (k : Ext τ υ) : Ext σ υ := fun i b q => k i b (h i b q)
theorem Keep.refl {L : List Nat} : Keep L σ σ := fun _ _ h _ => h
theorem Keep.trans {L : List Nat} {τ υ : Mem} (h : Keep L σ τ) (k : Keep L τ υ) : Keep L σ υ := fun i b q n => k i b (h i b q n) n
theorem Keep.mono {L L' : List Nat} {τ : Mem} (h : Keep L σ τ) (hl : ∀ i ∈ L, i ∈ L') : Keep L' σ τ := fun i b q n => h i b q fun hi => n (hl i hi)
theorem Ext.keep {L : List Nat} {τ : Mem} (h : Ext σ τ) : Keep L σ τ := fun i b q _ => h i b q
theorem Ext.fresh {id : Nat} {b : Blk} (h : σ.get id = none) : Ext σ (σ.set id b) := by
 intro i c hi
 rw [Mem.get_set_ne _ _ (by rintro rfl; rw [h] at hi; cases hi)]
 exact hi
theorem isA_put (h : N.ok) : isA N A (putA N A σ) := ⟨putA_m, putA_w h, putA_t h⟩
theorem isA.eq (h : isA N A σ) : σ = putA N A σ := by
 unfold putA
 rw [Mem.set_self h.t, Mem.set_self h.w, Mem.set_self h.m]
theorem isA.ext {τ : Mem} (h : isA N A σ) (k : Ext σ τ) : isA N A τ := ⟨k _ _ h.m, k _ _ h.w, k _ _ h.t⟩
def Nm.l (N : Nm) : List Nat := [N.m, N.w, N.t]
theorem isA.keep {L : List Nat} {τ : Mem} (h : isA N A σ) (k : Keep L σ τ) (hd : N.m ∉ L ∧ N.w ∉ L ∧ N.t ∉ L) : isA N A τ := ⟨k _ _ h.m hd.1, k _ _ h.w hd.2.1, k _ _ h.t hd.2.2⟩
theorem Keep.put : Keep N.l σ (putA N A σ) := by
 intro i b hi hn
 simp only [Nm.l, List.mem_cons, List.not_mem_nil, or_false, not_or] at hn
 rw [putA_ne hn.1 hn.2.1 hn.2.2]; exact hi
theorem isA.fresh (h : isA N A σ) {id : Nat} (hid : σ.get id = none) : id ≠ N.m ∧ id ≠ N.w ∧ id ≠ N.t :=
 ⟨fun e => (by rw [e, h.m] at hid; cases hid), fun e => (by rw [e, h.w] at hid; cases hid), fun e => (by rw [e, h.t] at hid; cases hid)⟩
structure Cf.ok (c : Cf) : Prop where
 T : 1 ≤ c.T ∧ c.T ≤ 8
 S : 1 ≤ c.S ∧ c.S ≤ 65536
 C : 1 ≤ c.C ∧ c.C ≤ 64
 W : 17 ≤ c.W ∧ c.W ≤ 256
 G : 1 ≤ c.G ∧ c.G ≤ 65535
 P : 0 ≤ c.P ∧ c.P ≤ 1000
 R : 1 ≤ c.R ∧ c.R ≤ 16
def Cf.slot (c : Cf) (s : Int) : Int := 6 + c.T + 2 * s
def Cf.chunk (c : Cf) (k : Int) : Int := 6 + c.T + 2 * c.S + 3 * k
def Cf.base (c : Cf) (k : Int) : Int := 6 + c.T + 2 * c.S + 3 * c.C + c.W * k
def Cf.len (c : Cf) : Int := c.base c.C
theorem mulW {c : Cf} (h : c.ok) {k : Int} (h0 : 0 ≤ k) (h1 : k ≤ 1048576) : 0 ≤ c.W * k ∧ c.W * k ≤ 268435456 := by
 have hW := h.W
 refine ⟨Int.mul_nonneg (by omega) h0, ?_⟩
 calc c.W * k ≤ 256 * k := Int.mul_le_mul_of_nonneg_right hW.2 h0
  _ ≤ 268435456 := by omega
theorem c_lTop : s_ap [] K σ = K (.int .i64 1) σ := by simp only [s_ap, w_ap, ruS, Nat.reduceAdd, reduceIte, Int.reduceLT, Int.reduceLE, Int.reduceEq, Int.reduceNeg, Int.reduceAdd, Int.reduceSub]
theorem c_Open {k : Int} (h0 : 0 ≤ k) (h1 : k ≤ 65536) : s_am [.int .i64 k] K σ = K (.int .i64 (2 + k)) σ := by
 simp only [s_am, w_am, ruS, Nat.reduceAdd, reduceIte, Int.reduceLT, Int.reduceLE, Int.reduceEq, Int.reduceNeg, Int.reduceAdd, Int.reduceSub]
 rw [IntWalk.i64_in _ (by omega)]
theorem c_Slot (h : C.ok) {s : Int} (h0 : 0 ≤ s) (h1 : s ≤ 65536) : s_ao [C.v, .int .i64 s] K σ = K (.int .i64 (C.slot s)) σ := by
 have := h.T
 simp only [s_ao, w_ao, Cf.v, ruS, ruL, ruX, Nat.reduceAdd, reduceIte, Int.reduceLT, Int.reduceLE, Int.reduceEq, Int.reduceNeg, Int.reduceAdd, Int.reduceSub, Nat.reduceLeDiff]
 rw [IntWalk.i64_in (6 + C.T) (by omega), IntWalk.i64_in (2 * s) (by omega), IntWalk.i64_in _ (by omega)]; rfl
theorem c_Chunk (h : C.ok) {s : Int} (h0 : 0 ≤ s) (h1 : s ≤ 65536) : s_ah [C.v, .int .i64 s] K σ = K (.int .i64 (C.chunk s)) σ := by
 have := h.T
 have := h.S
 simp only [s_ah, w_ah, Cf.v, ruS, ruL, ruX, Nat.reduceAdd, reduceIte, Int.reduceLT, Int.reduceLE, Int.reduceEq, Int.reduceNeg, Int.reduceAdd, Int.reduceSub, Nat.reduceLeDiff]
 rw [IntWalk.i64_in (6 + C.T) (by omega), IntWalk.i64_in (2 * C.S) (by omega), IntWalk.i64_in (3 * s) (by omega), IntWalk.i64_in (6 + C.T + 2 * C.S) (by omega), IntWalk.i64_in _ (by omega)]; rfl
theorem c_Base (h : C.ok) {s : Int} (h0 : 0 ≤ s) (h1 : s ≤ 65536) : s_af [C.v, .int .i64 s] K σ = K (.int .i64 (C.base s)) σ := by
 have := h.T
 have := h.S
 have := h.C
 have := mulW h h0 (by omega)
 simp only [s_af, w_af, Cf.v, ruS, ruL, ruX, Nat.reduceAdd, reduceIte, Int.reduceLT, Int.reduceLE, Int.reduceEq, Int.reduceNeg, Int.reduceAdd, Int.reduceSub, Nat.reduceLeDiff]
 rw [IntWalk.i64_in (6 + C.T) (by omega), IntWalk.i64_in (2 * C.S) (by omega), IntWalk.i64_in (3 * C.C) (by omega), IntWalk.i64_in (6 + C.T + 2 * C.S) (by omega), IntWalk.i64_in (6 + C.T + 2 * C.S + 3 * C.C) (by omega), IntWalk.i64_in (C.W * s) (by omega), IntWalk.i64_in _ (by omega)]; rfl
theorem c_lLen (h : C.ok) : s_al [C.v] K σ = K (.int .i64 C.len) σ := by
 have := h.C
 have e := fun (K : Value → Mem → Prop) σ => c_Base (K := K) (σ := σ) h (s := C.C) (by omega) (by omega)
 simp only [s_al, w_al, Cf.v, ruS, ruL, ruX, Nat.reduceAdd, reduceIte, Int.reduceLT, Int.reduceLE, Int.reduceEq, Int.reduceNeg, Int.reduceAdd, Int.reduceSub, Nat.reduceLeDiff] at e ⊢
 rw [e]; rfl
section
variable {K : Value → Prop}
theorem shl2_0 : xF (fBin .shl .no) [.int .i64 2, .int .i64 0] K = K (.int .i64 2) := nr rfl
theorem shl2_1 : xF (fBin .shl .no) [.int .i64 2, .int .i64 1] K = K (.int .i64 4) := nr rfl
theorem shl2_2 : xF (fBin .shl .no) [.int .i64 2, .int .i64 2] K = K (.int .i64 8) := nr rfl
theorem shl2_3 : xF (fBin .shl .no) [.int .i64 2, .int .i64 3] K = K (.int .i64 16) := nr rfl
end
theorem i64_3 : IntKind.i64.wrap 3 = 3 := nr rfl
theorem i64_5 : IntKind.i64.wrap 5 = 5 := nr rfl
theorem i64_9 : IntKind.i64.wrap 9 = 9 := nr rfl
theorem i64_17 : IntKind.i64.wrap 17 = 17 := nr rfl
def roomOf (k : Int) : Int := if k = 0 then 3 else if k = 1 then 5 else if k = 2 then 9 else 17
theorem c_Room {k : Int} (h0 : 0 ≤ k) (h1 : k ≤ 3) : s_an [.int .i64 k] K σ = K (.int .i64 (roomOf k)) σ := by
 simp only [s_an, w_an, ruS, Nat.reduceAdd, reduceIte, Int.reduceLT, Int.reduceLE, Int.reduceEq, Int.reduceNeg, Int.reduceAdd, Int.reduceSub]
 rcases (show k = 0 ∨ k = 1 ∨ k = 2 ∨ k = 3 by omega) with rfl | rfl | rfl | rfl <;>
  simp only [shl2_0, shl2_1, shl2_2, shl2_3, ruS, Nat.reduceAdd, reduceIte, Int.reduceLT, Int.reduceLE, Int.reduceEq, Int.reduceNeg, Int.reduceAdd, Int.reduceSub, i64_3, i64_5, i64_9, i64_17] <;> rfl
end Go.Fl
namespace Go.Fl
open Go
set_option linter.unusedVariables false
set_option linter.unusedSimpArgs false
variable {N : Nm} {A B : Ar} {σ : Mem} {K : Value → Mem → Prop} {C : Cf} {who : Int}
def Cf.okB (c : Cf) : Bool :=
 (decide (1 ≤ c.T) && decide (c.T ≤ 8) && decide (1 ≤ c.S) && decide (c.S ≤ 65536)) && (decide (1 ≤ c.C) && decide (c.C ≤ 64) && decide (17 ≤ c.W) && decide (c.W ≤ 256)) &&
 (decide (1 ≤ c.G) && decide (c.G ≤ 65535) && decide (0 ≤ c.P) && decide (c.P ≤ 1000) && decide (1 ≤ c.R) && decide (c.R ≤ 16))
theorem Cf.okB_iff {c : Cf} : c.okB = true ↔ c.ok := by
 simp only [Cf.okB, Bool.and_eq_true, decide_eq_true_eq]
 constructor
 ·rintro ⟨⟨⟨⟨⟨a, b⟩, d⟩, e⟩, ⟨⟨f, g⟩, h⟩, i⟩, ⟨⟨⟨⟨j, k⟩, l⟩, m⟩, n⟩, o⟩
  exact ⟨⟨a, b⟩, ⟨d, e⟩, ⟨f, g⟩, ⟨h, i⟩, ⟨j, k⟩, ⟨l, m⟩, ⟨n, o⟩⟩
 ·rintro ⟨⟨a, b⟩, ⟨d, e⟩, ⟨f, g⟩, ⟨h, i⟩, ⟨j, k⟩, ⟨l, m⟩, ⟨n, o⟩⟩
  exact ⟨⟨⟨⟨⟨a, b⟩, d⟩, e⟩, ⟨⟨f, g⟩, h⟩, i⟩, ⟨⟨⟨⟨j, k⟩, l⟩, m⟩, n⟩, o⟩
theorem check_j3 {x y z : Bool} : w_ag_j3b K (.bool x) (.bool y) (.bool z) σ = K (.bool (x && y && z)) σ := by
 simp only [w_ag_j3b, ruS, ruL, ruX, Nat.reduceAdd, reduceIte, Int.reduceLT, Int.reduceLE, Int.reduceEq, Int.reduceNeg, Int.reduceAdd, Int.reduceSub, Nat.reduceLeDiff]
 cases x <;> cases y <;> cases z <;> simp only [ruS, ruL, ruX, Nat.reduceAdd, reduceIte, Int.reduceLT, Int.reduceLE, Int.reduceEq, Int.reduceNeg, Int.reduceAdd, Int.reduceSub, Nat.reduceLeDiff, Bool.and_true, Bool.and_false, Bool.false_and, Bool.true_and]
theorem check_j2 {x y : Bool} : w_ag_j2b K (.bool x) (.bool y) C.l σ = K (.bool (x && y && (decide (1 ≤ C.G) && decide (C.G ≤ 65535) && decide (0 ≤ C.P) && decide (C.P ≤ 1000) && decide (1 ≤ C.R) && decide (C.R ≤ 16)))) σ := by
 simp only [w_ag_j2b, w_ag_j3, Cf.l, ruS, ruL, ruX, Nat.reduceAdd, reduceIte, Int.reduceLT, Int.reduceLE, Int.reduceEq, Int.reduceNeg, Int.reduceAdd, Int.reduceSub, Nat.reduceLeDiff, check_j3]
 by_cases h1 : 1 ≤ C.G <;> by_cases h2 : C.G ≤ 65535 <;> by_cases h3 : 0 ≤ C.P <;> by_cases h4 : C.P ≤ 1000 <;> by_cases h5 : 1 ≤ C.R <;>
  simp only [h1, h2, h3, h4, h5, ruS, ruL, ruX, Nat.reduceAdd, reduceIte, Int.reduceLT, Int.reduceLE, Int.reduceEq, Int.reduceNeg, Int.reduceAdd, Int.reduceSub, Nat.reduceLeDiff, check_j3, Bool.and_true, Bool.and_false, Bool.false_and, Bool.true_and]
theorem c_Check : s_ag [C.v] K σ = K (.bool C.okB) σ := by
 have j1 : ∀ {x : Bool}, w_ag_j1b K (.bool x) C.l σ = K (.bool (x && (decide (1 ≤ C.C) && decide (C.C ≤ 64) && decide (17 ≤ C.W) && decide (C.W ≤ 256)) && (decide (1 ≤ C.G) && decide (C.G ≤ 65535) && decide (0 ≤ C.P) && decide (C.P ≤ 1000) && decide (1 ≤ C.R) && decide (C.R ≤ 16)))) σ := by
  intro x
  have e := @check_j2 σ K C
  simp only [Cf.l] at e
  simp only [w_ag_j1b, w_ag_j2, Cf.l, ruS, ruL, ruX, Nat.reduceAdd, reduceIte, Int.reduceLT, Int.reduceLE, Int.reduceEq, Int.reduceNeg, Int.reduceAdd, Int.reduceSub, Nat.reduceLeDiff]
  by_cases h1 : 1 ≤ C.C <;> by_cases h2 : C.C ≤ 64 <;> by_cases h3 : 17 ≤ C.W <;>
   simp only [h1, h2, h3, ruS, ruL, ruX, Nat.reduceAdd, reduceIte, Int.reduceLT, Int.reduceLE, Int.reduceEq, Int.reduceNeg, Int.reduceAdd, Int.reduceSub, Nat.reduceLeDiff, e, Bool.and_true, Bool.and_false, Bool.false_and, Bool.true_and]
 simp only [Cf.l] at j1
 simp only [s_ag, w_ag, w_ag_j1, Cf.v, ruS, ruL, ruX, Nat.reduceAdd, reduceIte, Int.reduceLT, Int.reduceLE, Int.reduceEq, Int.reduceNeg, Int.reduceAdd, Int.reduceSub, Nat.reduceLeDiff]
 unfold Cf.okB
 by_cases h1 : 1 ≤ C.T <;> by_cases h2 : C.T ≤ 8 <;> by_cases h3 : 1 ≤ C.S <;>
  simp only [h1, h2, h3, ruS, ruL, ruX, Nat.reduceAdd, reduceIte, Int.reduceLT, Int.reduceLE, Int.reduceEq, Int.reduceNeg, Int.reduceAdd, Int.reduceSub, Nat.reduceLeDiff, j1, Bool.and_true, Bool.and_false, Bool.false_and, Bool.true_and]
theorem hMakeS_eq {es by' : Nat} {z : List Value} {n : Int} {K : Value → Mem → Prop} {σ : Mem} (h0 : 0 ≤ n) (h1 : n ≤ 1073741824) (hb : by' ≤ 1024) :
  hMakeS es by' z [.int .i64 n, .int .i64 n] K σ = newB (List.replicate n.toNat z).flatten (fun id => .slice (some ⟨id, 0, none⟩) n.toNat es) K σ := by
 simp only [hMakeS]
 rw [if_pos ⟨trivial, h0, h1, hb⟩]
theorem hBox_a {cs : List Value} {sz : Nat} {K : Value → Mem → Prop} {σ : Mem} (h : cs.length = sz) :
  hBox sz [.agg cs.toArray] K σ = newB cs (fun id => .pointer (some ⟨id, 0, none⟩)) K σ := by
 subst h
 have : cellsOf (.agg cs.toArray) cs.length = some cs := by simp [cellsOf]
 simp only [hBox, this]
def Ar.new (n : Nat) : Ar := ⟨n, fun _ => 0, fun _ => 0, 0, 0, 0, 0, false⟩
structure Nm.fr (N : Nm) (σ : Mem) : Prop where
 m : σ.get N.m = none
 w : σ.get N.w = none
 t : σ.get N.t = none
theorem xBuildMem {a b : Value} {K : Value → Prop} (ha : cellsOf a 1 = some [a]) (hb : cellsOf b 1 = some [b]) :
  xF (fBuild [(0, 1), (1, 1), (2, 1), (3, 1), (4, 3)] [.slice none 0 0, .slice none 0 0, .int .i64 0, .int .i64 0, .int .i64 0, .int .i64 0, .bool false] [0, 1]) [a, b] K =
   K (.agg #[a, b, .int .i64 0, .int .i64 0, .int .i64 0, .int .i64 0, .bool false]) := by
 simp [xF, fBuild, fillL, ha, hb, lay]
theorem c_New {n : Int} (h0 : 1 ≤ n) (h1 : n ≤ 1048576) (hk : ∀ N τ, N.ok → isA N (.new n.toNat) τ → Ext σ τ → N.fr σ → K (.tuple #[N.p, .int .i64 0]) τ) : s_ax [.int .i64 n] K σ := by
 simp only [s_ax, w_ax, w_ax_j1, w_ax_j1b, ruS, Nat.reduceAdd, reduceIte, Int.reduceLT, Int.reduceLE, Int.reduceEq, Int.reduceNeg, Int.reduceAdd, Int.reduceSub]
 rw [if_neg (by omega), if_neg (by omega)]
 rw [hMakeS_eq (by omega) (by omega) (by decide)]
 intro w hw
 rw [hMakeS_eq (by omega) (by omega) (by decide)]
 intro t ht
 rw [xBuildMem rfl rfl]
 refine (hBox_a (cs := [_, _, _, _, _, _, _]) rfl).mpr ?_
 intro m hm
 simp only [ruS, Nat.reduceAdd, reduceIte, Int.reduceLT, Int.reduceLE, Int.reduceEq, Int.reduceNeg, Int.reduceAdd, Int.reduceSub]
 have hwt : w ≠ t := by rintro rfl; simp at ht
 have hmt : m ≠ t := by rintro rfl; simp at hm
 have hmw : m ≠ w := by
  rintro rfl
  rw [Mem.get_set_ne _ _ hwt, Mem.get_set_same] at hm; cases hm
 refine hk ⟨m, w, t⟩ _ ⟨hmw, hmt, hwt⟩ ⟨?_, ?_, ?_⟩ ?_ ⟨?_, hw, ?_⟩
 ·rw [Mem.get_set_same]; rfl
 ·rw [Mem.get_set_ne _ _ hmw.symm, Mem.get_set_ne _ _ hwt, Mem.get_set_same, cells_repl]; rfl
 ·rw [Mem.get_set_ne _ _ hmt.symm, Mem.get_set_same, cells_repl]; rfl
 ·exact ((Ext.fresh hw).trans (Ext.fresh ht)).trans (Ext.fresh hm)
 ·rw [Mem.get_set_ne _ _ hmt, Mem.get_set_ne _ _ hmw] at hm; exact hm
 ·rw [Mem.get_set_ne _ _ hwt.symm] at ht; exact ht
def Nm.el (N : Nm) (c : Cf) (who : Int) : List Value := [.int .i64 c.T, .int .i64 c.S, .int .i64 c.C, .int .i64 c.W, .int .i64 c.G, .int .i64 c.P, .int .i64 c.R, N.p, .int .i64 who]
section
variable {c : Cf} {l : List Value}
theorem gBoxC : gBox 7 [c.v] l = some c.l := nr rfl
theorem subC : sub c.l 0 7 true = some c.v := nr rfl
theorem subC0 : sub c.l 0 1 false = some (.int .i64 c.T) := nr rfl
theorem subC1 : sub c.l 1 1 false = some (.int .i64 c.S) := nr rfl
theorem subC2 : sub c.l 2 1 false = some (.int .i64 c.C) := nr rfl
theorem subC3 : sub c.l 3 1 false = some (.int .i64 c.W) := nr rfl
theorem subC4 : sub c.l 4 1 false = some (.int .i64 c.G) := nr rfl
theorem subC5 : sub c.l 5 1 false = some (.int .i64 c.P) := nr rfl
theorem subC6 : sub c.l 6 1 false = some (.int .i64 c.R) := nr rfl
theorem gBoxE : gBox 9 [N.env c who] l = some (N.el c who) := nr rfl
theorem subE : sub (N.el c who) 0 9 true = some (N.env c who) := nr rfl
theorem subEC : sub (N.el c who) 0 7 true = some c.v := nr rfl
theorem subE0 : sub (N.el c who) 0 1 false = some (.int .i64 c.T) := nr rfl
theorem subE1 : sub (N.el c who) 1 1 false = some (.int .i64 c.S) := nr rfl
theorem subE2 : sub (N.el c who) 2 1 false = some (.int .i64 c.C) := nr rfl
theorem subE3 : sub (N.el c who) 3 1 false = some (.int .i64 c.W) := nr rfl
theorem subE4 : sub (N.el c who) 4 1 false = some (.int .i64 c.G) := nr rfl
theorem subE6 : sub (N.el c who) 6 1 false = some (.int .i64 c.R) := nr rfl
theorem subE7 : sub (N.el c who) 7 1 false = some N.p := nr rfl
theorem subE8 : sub (N.el c who) 8 1 false = some (.int .i64 who) := nr rfl
end
section
variable {a o v d : Int}
@[simp] theorem by_n : (A.by who).n = A.n := rfl
@[simp] theorem by_w : (A.by who).w = A.w := rfl
@[simp] theorem by_t : (A.by who).t = A.t := rfl
@[simp] theorem by_s : (A.by who).s = A.s := rfl
@[simp] theorem load_n : (A.load a).n = A.n := rfl
@[simp] theorem load_w : (A.load a).w = A.w := rfl
@[simp] theorem load_t : (A.load a).t = A.t := rfl
@[simp] theorem load_s : (A.load a).s = IntKind.i64.wrap (A.s + 1) := rfl
@[simp] theorem load_la : (A.load a).la = a := rfl
@[simp] theorem load_lc : (A.load a).lc = false := rfl
@[simp] theorem store_n : (A.store a v).n = A.n := rfl
@[simp] theorem store_w : (A.store a v).w = upd A.w a v := rfl
@[simp] theorem store_s : (A.store a v).s = IntKind.i64.wrap (A.s + 1) := rfl
@[simp] theorem store_la : (A.store a v).la = a := rfl
@[simp] theorem store_lc : (A.store a v).lc = decide (A.w a ≠ v) := rfl
theorem store_t : (A.store a v).t = if A.w a ≠ v then upd A.t a (IntKind.i64.wrap (A.s + 1)) else A.t := rfl
@[simp] theorem cas_n : (A.cas a o v).n = A.n := by unfold Ar.cas; split <;> rfl
theorem cas_w : (A.cas a o v).w = if A.w a = o then upd A.w a v else A.w := by unfold Ar.cas; split <;> rfl
@[simp] theorem cas_s : (A.cas a o v).s = IntKind.i64.wrap (A.s + 1) := by unfold Ar.cas; split <;> rfl
@[simp] theorem cas_la : (A.cas a o v).la = a := by unfold Ar.cas; split <;> rfl
theorem cas_no (h : A.w a ≠ o) : A.cas a o v = A.load a := by unfold Ar.cas; rw [if_neg h]; rfl
theorem cas_yes (h : A.w a = o) : A.cas a o v = A.store a v := by unfold Ar.cas; rw [if_pos h]; rfl
end
structure Ar.ok (A : Ar) (b : Int) : Prop where
 w : ∀ i, 0 ≤ A.w i ∧ A.w i < 18446744073709551616
 s : 0 ≤ A.s ∧ A.s ≤ b
 t : ∀ i, 0 ≤ A.t i ∧ A.t i ≤ A.s
theorem Ar.ok.s1 {b : Int} (h : A.ok b) (hb : b < 9223372036854775807) : IntKind.i64.wrap (A.s + 1) = A.s + 1 := IntWalk.i64_in _ (by have := h.s; omega)
theorem Ar.ok.by {b : Int} (h : A.ok b) : (A.by who).ok b := ⟨h.w, h.s, h.t⟩
theorem Ar.ok.load {b a : Int} (h : A.ok b) (hb : b < 9223372036854775807) : (A.load a).ok (b + 1) := by
 refine ⟨h.w, ?_, fun i => ?_⟩
 ·rw [load_s, h.s1 hb]; have := h.s; omega
 ·rw [load_s, h.s1 hb, load_t]; have := h.t i; omega
theorem upd_cases {f : Int → Int} {a v i : Int} {P : Int → Prop} (h1 : P v) (h2 : P (f i)) : P (upd f a v i) := by unfold upd; split <;> assumption
theorem Ar.ok.store {b a v : Int} (h : A.ok b) (hb : b < 9223372036854775807) (hv : 0 ≤ v ∧ v < 18446744073709551616) : (A.store a v).ok (b + 1) := by
 refine ⟨fun i => upd_cases (P := fun x => 0 ≤ x ∧ x < 18446744073709551616) hv (h.w i), ?_, fun i => ?_⟩
 ·rw [store_s, h.s1 hb]; have := h.s; omega
 ·rw [store_s, h.s1 hb, store_t]
  have := h.t i
  have := h.s
  split
  ·rw [h.s1 hb]; exact upd_cases (P := fun x => 0 ≤ x ∧ x ≤ A.s + 1) (by omega) (by omega)
  ·omega
theorem Ar.ok.cas {b a o v : Int} (h : A.ok b) (hb : b < 9223372036854775807) (hv : 0 ≤ v ∧ v < 18446744073709551616) : (A.cas a o v).ok (b + 1) := by
 by_cases hc : A.w a = o
 ·rw [cas_yes hc]; exact h.store hb hv
 ·rw [cas_no hc]; exact h.load hb
theorem wrap_in (n : Int) : 0 ≤ IntKind.u64.wrap n ∧ IntKind.u64.wrap n < 18446744073709551616 := by rw [IntKind.wrap_u64]; omega
theorem Ar.ok.add {b a d : Int} (h : A.ok b) (hb : b < 9223372036854775807) : (A.add a d).ok (b + 1) := h.store hb (wrap_in _)
def Cf.fr (c : Cf) (i : Int) (a : Int) : Int :=
 if c.slot 0 ≤ a ∧ a < c.slot i then (if (a - c.slot 0) % 2 = 0 then putSlot 0 0 1 0 else putTop ((a - c.slot 0) / 2 + 1) 0) else 0
def Cf.w0 (c : Cf) (a : Int) : Int := if a = 1 then putTop 0 0 else if a = c.slot (c.S - 1) + 1 then putTop (-1) 0 else c.fr c.S a
structure FrI (N : Nm) (C : Cf) (σ0 : Mem) (i : Int) (A : Ar) (σ : Mem) : Prop where
 i0 : 0 ≤ i
 i1 : i ≤ C.S
 n : A.n = C.len.toNat
 w : A.w = C.fr i
 s : A.s = 2 * i
 who : A.who = 0
 ok : A.ok (2 * i)
 isA : isA N A σ
 ext : Ext σ0 σ
 fr : N.fr σ0
theorem Ext.put {σ0 : Mem} (h : Ext σ0 σ) (f : N.fr σ0) : Ext σ0 (putA N A σ) := by
 intro i b hi
 rw [putA_ne (fun e => by rw [e, f.m] at hi; cases hi) (fun e => by rw [e, f.w] at hi; cases hi) (fun e => by rw [e, f.t] at hi; cases hi)]
 exact h i b hi
theorem len_eq : C.len = 6 + C.T + 2 * C.S + 3 * C.C + C.W * C.C := rfl
theorem len_bd (h : C.ok) : C.chunk C.C + 17 ≤ C.len ∧ C.len ≤ 200000 := by
 have hW := h.W
 have hC := h.C
 have hS := h.S
 have hT := h.T
 have h1 : 17 * 1 ≤ C.W * C.C := Int.mul_le_mul hW.1 hC.1 (by omega) (by omega)
 have h2 : C.W * C.C ≤ 256 * 64 := Int.mul_le_mul hW.2 hC.2 (by omega) (by omega)
 rw [len_eq]; unfold Cf.chunk
 omega
theorem xBuildSlotG {K : Value → Prop} {g : Int} : xF (fBuild [(0, 1), (1, 1), (2, 1), (3, 1)] [.int .i64 0, .int .i64 0, .int .i64 0, .int .i64 0] [2]) [.int .i64 g] K = K (.agg #[.int .i64 0, .int .i64 0, .int .i64 g, .int .i64 0]) := nr rfl
theorem c_Fresh_round (hC : C.ok) (hN : N.ok) {σ0 : Mem} {J1 R1 : List Value → List (List Value) → Mem → Prop} {i : Int} (h : FrI N C σ0 i A σ)
  (hj : i = C.S → J1 [N.p] [C.l] σ) (hr : i < C.S → ∀ A' τ, FrI N C σ0 (i + 1) A' τ → R1 [N.p, .int .i64 C.S, .int .i64 (i + 1)] [C.l] τ) :
  w_layout_Fresh_l8 K J1 R1 [N.p, .int .i64 C.S, .int .i64 i] [C.l] σ := by
 have hS := hC.S
 have hT := hC.T
 have hl := len_bd hC
 simp only [w_layout_Fresh_l8, w_layout_Fresh_l8b, ruS, Nat.reduceAdd, reduceIte, Int.reduceLT, Int.reduceLE, Int.reduceEq, Int.reduceNeg, Int.reduceAdd, Int.reduceSub, locP_e, gLoad_s, subC]
 by_cases hi : i < C.S
 ·simp only [hi, ruS, Nat.reduceAdd, reduceIte, Int.reduceLT, Int.reduceLE, Int.reduceEq, Int.reduceNeg, Int.reduceAdd, Int.reduceSub]
  have hn : C.slot i + 1 < A.n := by rw [h.n]; unfold Cf.slot; unfold Cf.chunk at hl; have := hC.C; omega
  have hs0 : 0 ≤ C.slot i := by unfold Cf.slot; have := h.i0; omega
  have i0 := h.i0
  rw [c_Slot hC h.i0 (by omega)]
  rw [xBuildSlotG, c_PutSlot, h.isA.eq, c_mStore hN hs0 (by omega), c_Slot hC h.i0 (by omega)]
  simp only [xAdd]
  rw [IntWalk.i64_in (i + 1) (by omega), c_PutTop (by omega), IntWalk.i64_in (C.slot i + 1) (by unfold Cf.slot; omega), c_mStore hN (by omega) (by rw [store_n]; omega)]
  have ok1 := h.ok.store (a := C.slot i) (by omega) (putSlot_in 0 0 1 0)
  have ok2 := ok1.store (a := C.slot i + 1) (by omega) (putTop_in (i + 1) 0)
  have s1 := h.ok.s1 (by omega)
  have s2 := ok1.s1 (by omega)
  refine hr hi ((A.store (C.slot i) (putSlot 0 0 1 0)).store (C.slot i + 1) (putTop (i + 1) 0)) _ ⟨by omega, by omega, h.n, ?_, ?_, h.who, ?_, isA_put hN, h.ext.put h.fr, h.fr⟩
  ·funext a
   rw [store_w, store_w, h.w]
   unfold upd Cf.fr Cf.slot
   have := hC.C
   by_cases e1 : a = 6 + C.T + 2 * i + 1
   ·subst e1
    rw [if_pos rfl, if_pos (by omega), if_neg (by omega)]
    congr 1; omega
   ·rw [if_neg e1]
    by_cases e2 : a = 6 + C.T + 2 * i
    ·subst e2
     rw [if_pos rfl, if_pos (by omega), if_pos (by omega)]
    ·rw [if_neg e2]
     by_cases e3 : 6 + C.T + 2 * 0 ≤ a ∧ a < 6 + C.T + 2 * i
     ·rw [if_pos e3, if_pos (show 6 + C.T + 2 * 0 ≤ a ∧ a < 6 + C.T + 2 * (i + 1) by omega)]
     ·rw [if_neg e3, if_neg (show ¬ (6 + C.T + 2 * 0 ≤ a ∧ a < 6 + C.T + 2 * (i + 1)) by omega)]
  ·rw [store_s, s2, store_s, s1, h.s]; omega
  ·rw [show 2 * (i + 1) = 2 * i + 1 + 1 by omega]; exact ok2
 ·rw [if_neg hi]
  exact hj (by have := h.i1; omega)
structure Frsh (N : Nm) (C : Cf) (A : Ar) : Prop where
 ok : A.ok (2 * C.S + 2)
 n : A.n = C.len.toNat
 w : A.w = C.w0
 s : A.s = 2 * C.S + 2
 who : A.who = 0
 la : A.la = 1
theorem Ar.new_ok {n : Nat} : (Ar.new n).ok (2 * 0) := ⟨fun _ => ⟨Int.le_refl 0, (by decide : (0 : Int) < 18446744073709551616)⟩, ⟨Int.le_refl 0, Int.le_refl 0⟩, fun _ => ⟨Int.le_refl 0, Int.le_refl 0⟩⟩
theorem c_Fresh (hC : C.ok) (hk : ∀ N A τ, N.ok → Frsh N C A → isA N A τ → Ext σ τ → N.fr σ → K (.tuple #[N.p, .int .i64 0]) τ) : s_ak [C.v] K σ := by
 have hl := len_bd hC
 have hS := hC.S
 have hT := hC.T
 have hCC := hC.C
 have hch : C.chunk C.C = 6 + C.T + 2 * C.S + 3 * C.C := rfl
 have hok : C.okB = true := Cf.okB_iff.2 hC
 simp only [s_ak, w_ak, ruS, Nat.reduceAdd, reduceIte, Int.reduceLT, Int.reduceLE, Int.reduceEq, Int.reduceNeg, Int.reduceAdd, Int.reduceSub, locP_e, gBoxC, gLoad_s, subC, subC1, c_Check, hok, c_lLen hC]
 refine c_New (by omega) (by omega) fun N τ hN hA hE hf => ?_
 simp only [ruS, Nat.reduceAdd, reduceIte, Int.reduceLT, Int.reduceLE, Int.reduceEq, Int.reduceNeg, Int.reduceAdd, Int.reduceSub]
 refine xLoop_inv (fun k ts ls τ => ∃ i A, k = (C.S - i).toNat ∧ ts = [N.p, .int .i64 C.S, .int .i64 i] ∧ ls = [C.l] ∧ FrI N C σ i A τ) ?_ (n := (C.S - 0).toNat)
  ⟨0, _, rfl, rfl, rfl, ⟨by omega, by omega, rfl, ?_, rfl, rfl, Ar.new_ok, hA, hE, hf⟩⟩
 ·rintro k ts ls τ ⟨i, A, rfl, rfl, rfl, h⟩
  refine c_Fresh_round hC hN h (fun e => ?_) fun hi A' τ' h' => ⟨_, by have := h.i0; omega, i + 1, A', rfl, rfl, rfl, h'⟩
  subst e
  simp only [w_ak_j1, w_ak_j1b, ruS, Nat.reduceAdd, reduceIte, Int.reduceLT, Int.reduceLE, Int.reduceEq, Int.reduceNeg, Int.reduceAdd, Int.reduceSub, locP_e, gLoad_s, subC, subC1]
  have n2 : C.slot (C.S - 1) + 1 < A.n := by rw [h.n]; unfold Cf.slot; omega
  have hs0 : 0 ≤ C.slot (C.S - 1) := by unfold Cf.slot; omega
  rw [IntWalk.i64_in (C.S - 1) (by omega), c_Slot hC (by omega) (by omega)]
  simp only [xAdd]
  rw [IntWalk.i64_in (C.slot (C.S - 1) + 1) (by unfold Cf.slot; omega), c_PutTop (by omega), h.isA.eq, c_mStore hN (by omega) n2, c_lTop, c_PutTop (by omega), c_mStore hN (by omega) (by rw [store_n]; omega)]
  have ok1 := h.ok.store (a := C.slot (C.S - 1) + 1) (by omega) (putTop_in (-1) 0)
  have ok2 := ok1.store (a := 1) (by omega) (putTop_in 0 0)
  have s1 := h.ok.s1 (by omega)
  have s2 := ok1.s1 (by omega)
  refine hk N ((A.store (C.slot (C.S - 1) + 1) (putTop (-1) 0)).store 1 (putTop 0 0)) _ hN ⟨by rw [show 2 * C.S + 2 = 2 * C.S + 1 + 1 by omega]; exact ok2, h.n, ?_, ?_, h.who, rfl⟩ (isA_put hN) (h.ext.put h.fr) h.fr
  ·rw [store_w, store_w, h.w]; rfl
  ·rw [store_s, s2, store_s, s1, h.s]; omega
 ·funext a
  unfold Cf.fr
  rw [if_neg (by omega)]; rfl
theorem c_Arena (hC : C.ok) (hG : C.G = 100) (hP : C.P = 600) (hR : C.R = 3) (hk : ∀ N A τ, N.ok → Frsh N C A → isA N A τ → Ext σ τ → N.fr σ → K (.tuple #[N.env C 0, .bool true]) τ) :
  s_aa [.int .i64 C.T, .int .i64 C.S, .int .i64 C.C, .int .i64 C.W] K σ := by
 simp only [s_aa, w_aa, ruS, Nat.reduceAdd, reduceIte, Int.reduceLT, Int.reduceLE, Int.reduceEq, Int.reduceNeg, Int.reduceAdd, Int.reduceSub]
 have b1 : ∀ K : Value → Prop, xF (fBuild [(0, 1), (1, 1), (2, 1), (3, 1), (4, 1), (5, 1), (6, 1)] [.int .i64 0, .int .i64 0, .int .i64 0, .int .i64 0, .int .i64 0, .int .i64 0, .int .i64 0] [0, 1, 2, 3, 4, 5, 6])
   [.int .i64 C.T, .int .i64 C.S, .int .i64 C.C, .int .i64 C.W, .int .i64 100, .int .i64 600, .int .i64 3] K = K C.v := by
  intro K; unfold Cf.v; rw [hG, hP, hR]; exact nr rfl
 have b2 : ∀ K : List Value → Prop, xC (gStore 7 [locP 10, C.v] [.int .i64 0, .int .i64 0, .int .i64 0, .int .i64 0, .int .i64 0, .int .i64 0, .int .i64 0]) K = K C.l := fun K => nr rfl
 rw [b1, b2]
 simp only [locP_e, gLoad_s, subC, xOs]
 refine c_Fresh hC fun N A τ hN hF hA hE hf => ?_
 simp only [ruS, Nat.reduceAdd, reduceIte, Int.reduceLT, Int.reduceLE, Int.reduceEq, Int.reduceNeg, Int.reduceAdd, Int.reduceSub, locP_e, gLoad_s, subC]
 exact hk N A τ hN hF hA hE hf
theorem ruE : type_of% ((And.intro (And.intro (And.intro (And.intro @Nat.lt_irrefl @Nat.zero_lt_one) (And.intro @gBoxE (And.intro @gBoxC @subE))) (And.intro (And.intro @subEC (And.intro @subE0 @subE1)) (And.intro @subE2 (And.intro @subE3 @subE4)))) (And.intro (And.intro (And.intro @subE6 @subE7) (And.intro @subE8 (And.intro @subC @subC0))) (And.intro (And.intro @subC1 (And.intro @subC2 @subC3)) (And.intro @subC4 (And.intro @subC5 @subC6)))))) := (And.intro (And.intro (And.intro (And.intro @Nat.lt_irrefl @Nat.zero_lt_one) (And.intro @gBoxE (And.intro @gBoxC @subE))) (And.intro (And.intro @subEC (And.intro @subE0 @subE1)) (And.intro @subE2 (And.intro @subE3 @subE4)))) (And.intro (And.intro (And.intro @subE6 @subE7) (And.intro @subE8 (And.intro @subC @subC0))) (And.intro (And.intro @subC1 (And.intro @subC2 @subC3)) (And.intro @subC4 (And.intro @subC5 @subC6)))))
end Go.Fl
namespace Go.Fl
open Go
set_option linter.unusedVariables false
set_option linter.unusedSimpArgs false
variable {N : Nm} {A B : Ar} {σ : Mem} {K : Value → Mem → Prop} {C : Cf} {who : Int}
theorem notin {p : Nat} (h : p ∉ N.l) : p ≠ N.m ∧ p ≠ N.w ∧ p ≠ N.t := by simpa [Nm.l] using h
theorem putA_get {p : Nat} (h : p ∉ N.l) : (putA N A σ).get p = σ.get p := putA_ne (notin h).1 (notin h).2.1 (notin h).2.2
theorem putA_setP {p : Nat} {c : Blk} (h : p ∉ N.l) : (putA N A σ).set p c = putA N A (σ.set p c) := putA_set (notin h).1 (notin h).2.1 (notin h).2.2
theorem isA.obj {p : Nat} {c : Blk} (h : isA N A σ) (hp : σ.get p = some c) : σ = putA N A (σ.set p c) := by rw [Mem.set_self hp]; exact h.eq
section
variable {p o k sz : Nat} {pre L post : List Value} {ag : Bool}
theorem sub_app (hz : 0 < sz) (hk : k + sz ≤ L.length) : sub (pre ++ L ++ post) (pre.length + k) sz ag = sub L k sz ag := by
 have h1 : pre.length + k + sz ≤ (pre ++ L ++ post).length := by simp; omega
 simp only [sub, if_pos h1, if_pos hk]
 cases ag
 ·simp only [Bool.false_eq_true, if_false]
  rw [List.append_assoc, List.getElem?_append_right (by omega), Nat.add_sub_cancel_left, List.getElem?_append_left (by omega)]
 ·simp only [if_true]
  rw [List.append_assoc, List.drop_append, List.drop_of_length_le (by omega), List.nil_append, Nat.add_sub_cancel_left, List.drop_append_of_le_length (by omega), List.take_append_of_le_length (by simp; omega)]
theorem lay_app {vs : List Value} (hk : k + vs.length ≤ L.length) : lay (pre ++ L ++ post) (pre.length + k) vs = pre ++ lay L k vs ++ post := by
 have e : pre.length + k + vs.length = pre.length + (k + vs.length) := by omega
 simp only [lay, e]
 rw [List.append_assoc pre, List.take_append, List.take_of_length_le (by omega), Nat.add_sub_cancel_left, List.take_append_of_le_length (by omega),
  List.drop_append, List.drop_of_length_le (by omega), List.nil_append, Nat.add_sub_cancel_left, List.drop_append_of_le_length (by omega)]
 simp only [List.append_assoc]
theorem ldO (hd : p ∉ N.l) (hz : 0 < sz) (hk : k + sz ≤ L.length) : hLoad sz ag [.pointer (some ⟨p, pre.length + k, none⟩)] K (putA N A (σ.set p ⟨pre ++ L ++ post, true⟩)) =
  xO (sub L k sz ag) (fun v => K v (putA N A (σ.set p ⟨pre ++ L ++ post, true⟩))) := by
 rw [hLoad_eq ((putA_get hd).trans (Mem.get_set_same _ _ _)), sub_app hz hk]
theorem stO (hd : p ∉ N.l) {x : Value} {c : List Value} (hc : cellsOf x sz = some c) (hl : c.length = sz) (hk : k + sz ≤ L.length) (ho : c.all oneB = true) :
  hStore sz [.pointer (some ⟨p, pre.length + k, none⟩), x] K (putA N A (σ.set p ⟨pre ++ L ++ post, true⟩)) = K undef (putA N A (σ.set p ⟨pre ++ lay L k c ++ post, true⟩)) := by
 rw [hStore_eq ((putA_get hd).trans (Mem.get_set_same _ _ _)) hc (by simp; omega) ho, putA_setP hd, Mem.set_set, lay_app (by omega)]
theorem stOi (hd : p ∉ N.l) {kd : IntKind} {n : Int} (hk : k + 1 ≤ L.length) :
  hStore 1 [.pointer (some ⟨p, pre.length + k, none⟩), .int kd n] K (putA N A (σ.set p ⟨pre ++ L ++ post, true⟩)) = K undef (putA N A (σ.set p ⟨pre ++ lay L k [.int kd n] ++ post, true⟩)) := stO hd rfl rfl hk rfl
theorem stOb (hd : p ∉ N.l) {b : Bool} (hk : k + 1 ≤ L.length) :
  hStore 1 [.pointer (some ⟨p, pre.length + k, none⟩), .bool b] K (putA N A (σ.set p ⟨pre ++ L ++ post, true⟩)) = K undef (putA N A (σ.set p ⟨pre ++ lay L k [.bool b] ++ post, true⟩)) := stO hd rfl rfl hk rfl
theorem stOa (hd : p ∉ N.l) {c : List Value} (hl : c.length = sz) (hk : k + sz ≤ L.length) (ho : c.all oneB = true) :
  hStore sz [.pointer (some ⟨p, pre.length + k, none⟩), .agg c.toArray] K (putA N A (σ.set p ⟨pre ++ L ++ post, true⟩)) = K undef (putA N A (σ.set p ⟨pre ++ lay L k c ++ post, true⟩)) :=
 stO hd (by subst hl; simp [cellsOf]) hl hk ho
theorem behind (hN : N.ok) (hd : p ∉ N.l) {c : Blk} {v : Value} (hk : ∀ τ, isA N A τ → τ.get p = some c → Keep (p :: N.l) σ τ → K v τ) : K v (putA N A (σ.set p c)) := by
 refine hk _ (isA_put hN) ((putA_get hd).trans (Mem.get_set_same _ _ _)) fun i b hi hn => ?_
 simp only [List.mem_cons, not_or] at hn
 rw [putA_get hn.2, Mem.get_set_ne _ _ hn.1]
 exact hi
end
theorem hBox_i {cs : List Value} {sz : Nat} {K : Value → Mem → Prop} {σ : Mem} (h : cs.length = sz) (hk : ∀ id τ, σ.get id = none → τ.get id = some ⟨cs, true⟩ → Ext σ τ → K (.pointer (some ⟨id, 0, none⟩)) τ) :
  hBox sz [.agg cs.toArray] K σ := by
 rw [hBox_a h]
 exact fun id hid => hk id _ hid (Mem.get_set_same _ _ _) (Ext.fresh hid)
theorem Keep.fresh {L : List Nat} {τ υ : Mem} {id : Nat} (h : σ.get id = none) (e : Ext σ τ) (k : Keep (id :: L) τ υ) : Keep L σ υ := by
 intro i b hi hn
 refine k i b (e i b hi) ?_
 simp only [List.mem_cons, not_or]
 exact ⟨fun e' => (by rw [e', h] at hi; cases hi), hn⟩
theorem isA.new (h : isA N A σ) {id : Nat} (hid : σ.get id = none) : id ∉ N.l := by
 have := h.fresh hid
 simpa [Nm.l] using this
theorem newB_i {c : List Value} {v : Nat → Value} {K : Value → Mem → Prop} {σ : Mem} (h : ∀ id τ, σ.get id = none → τ.get id = some ⟨c, true⟩ → Ext σ τ → K (v id) τ) : newB c v K σ :=
 fun id hid => h id _ hid (Mem.get_set_same _ _ _) (Ext.fresh hid)
theorem hBuildS_i {es len : Nat} {z : List Value} {idx : List Nat} {args : List Value} {K : Value → Mem → Prop} {σ : Mem} (c : List Value) (hc : fillL (fun i => some (i * es, es)) (List.replicate len z).flatten idx args = some c)
  (h : ∀ id τ, σ.get id = none → τ.get id = some ⟨c, true⟩ → Ext σ τ → K (.slice (some ⟨id, 0, none⟩) len es) τ) : hBuildS es len z idx args K σ := by
 simp only [hBuildS, hc]
 exact newB_i h
theorem xLoop_r {F : (List Value → List (List Value) → Mem → Prop) → List Value → List (List Value) → Mem → Prop} (I : Nat → List Value → List (List Value) → Mem → Prop)
  (hr : ∀ n ts ls σ, I n ts ls σ → ∀ R : List Value → List (List Value) → Mem → Prop, (∀ m ts' ls' σ', m < n → I m ts' ls' σ' → R ts' ls' σ') → F R ts ls σ)
  {n : Nat} {ts : List Value} {ls : List (List Value)} {σ : Mem} (h0 : I n ts ls σ) : xLoop F ts ls σ :=
 xLoop_inv I (fun n ts ls σ h => hr n ts ls σ h _ fun m ts' ls' σ' hm h' => ⟨m, hm, h'⟩) h0
theorem ldCells {k : IntKind} {n q : Nat} {g : Int → Int} {i : Int} {b : Bool} (h : σ.get q = some ⟨cells k n g, b⟩) (h0 : 0 ≤ i) (h1 : i < n) :
  hLoad 1 false [.pointer (some ⟨q, i.toNat * 1, none⟩)] K σ = K (.int k (g i)) σ := by
 have := cells_sub k g h0 h1
 rw [Nat.zero_add] at this
 rw [hLoad_eq h, this, xOs]
theorem xAndI {K : Value → Prop} {Q : EqK} {k : Nat} {a : Int} (hk : k ≤ 62) : xF (fBin .and Q) [.int .i64 a, .int .i64 (2 ^ k - 1)] K = K (.int .i64 (a % 2 ^ k)) := by
 have e : ((2 : Int) ^ k - 1) = ((2 ^ k - 1 : Nat) : Int) := by
  push_cast [Nat.one_le_two_pow]
  rfl
 have hp : 0 < 2 ^ k := Nat.two_pow_pos k
 have e2 : ((2 ^ k : Nat) : Int) = 2 ^ k := by push_cast; rfl
 have hb : 2 ^ k ≤ 2 ^ 62 := Nat.pow_le_pow_right (by decide) hk
 have hd : (2 ^ k : Nat) ∣ 2 ^ 64 := Nat.pow_dvd_pow 2 (by omega)
 have q : ((BitVec.ofInt 64 a &&& BitVec.ofInt 64 ((2 ^ k - 1 : Nat) : Int)).toNat : Int) = a % 2 ^ k := by
  rw [BitVec.toNat_and, BitVec.toNat_ofInt, BitVec.toNat_ofInt]
  have h4 : (((2 ^ k - 1 : Nat) : Int) % ((2 ^ 64 : Nat) : Int)).toNat = 2 ^ k - 1 := by omega
  rw [h4, Nat.and_two_pow_sub_one_eq_mod, Int.natCast_emod, Int.toNat_of_nonneg (by omega), Int.emod_emod_of_dvd a (Int.natCast_dvd_natCast.2 hd), e2]
 simp only [xF, fBin, isSh, binI, Bool.false_eq_true, if_false, if_true]
 show K (.int .i64 (IntKind.i64.wrap ((BitVec.ofInt 64 a &&& BitVec.ofInt 64 (2 ^ k - 1)).toNat : Int))) = _
 rw [e, q]
 have h1 : 0 ≤ a % 2 ^ k := by rw [← e2]; exact Int.emod_nonneg _ (by omega)
 have h2 : a % 2 ^ k < 2 ^ k := by rw [← e2]; exact Int.emod_lt_of_pos _ (by omega)
 have h3 : (2 : Int) ^ k ≤ 4611686018427387904 := by rw [← e2]; omega
 rw [IntWalk.i64_in _ (by omega)]
theorem andI3 {K : Value → Prop} {Q : EqK} {a : Int} : xF (fBin .and Q) [.int .i64 a, .int .i64 3] K = K (.int .i64 (a % 4)) := by simpa using xAndI (K := K) (Q := Q) (k := 2) (a := a) (by decide)
theorem gStoreE {k : Nat} : gStore 9 [.pointer (some ⟨k, 0, some 0⟩), N.env C who] [.int .i64 0, .int .i64 0, .int .i64 0, .int .i64 0, .int .i64 0, .int .i64 0, .int .i64 0, .pointer none, .int .i64 0] = some (N.el C who) := nr rfl
theorem c_PeekA (hN : N.ok) (hA : isA N A σ) {a : Int} (h0 : 0 ≤ a) (h1 : a < A.n) : s_at [N.p, .int .i64 a] K σ = K (.int .u64 (A.w a)) σ := by
 have := c_mPeek (N := N) (A := A) (σ := σ) (K := K) hN h0 h1
 rwa [← hA.eq] at this
def cA (T S Ch W : Int) : Cf := ⟨T, S, Ch, W, 100, 600, 3⟩
theorem cA_ok {T S Ch W : Int} (h1 : 1 ≤ T ∧ T ≤ 8) (h2 : 1 ≤ S ∧ S ≤ 65536) (h3 : 1 ≤ Ch ∧ Ch ≤ 64) (h4 : 17 ≤ W ∧ W ≤ 256) : (cA T S Ch W).ok :=
 ⟨h1, h2, h3, h4, ⟨by show (1 : Int) ≤ 100; decide, by show (100 : Int) ≤ 65535; decide⟩, ⟨by show (0 : Int) ≤ 600; decide, by show (600 : Int) ≤ 1000; decide⟩, ⟨by show (1 : Int) ≤ 3; decide, by show (3 : Int) ≤ 16; decide⟩⟩
theorem Keep.get {L : List Nat} {τ : Mem} {i : Nat} {b : Blk} (k : Keep L σ τ) (h : σ.get i = some b) (hn : i ∉ L) : τ.get i = some b := k i b h hn
structure Aft (A A' : Ar) (k : Int) (w : Int → Int) : Prop where
 n : A'.n = A.n
 w : A'.w = w
 s : A'.s = A.s + k
 t : ∀ i, A'.t i = A.t i ∨ A.s < A'.t i ∧ A'.t i ≤ A'.s
theorem Aft.ok {A' : Ar} {k b : Int} {w : Int → Int} (h : Aft A A' k w) (hk : 0 ≤ k) (ho : A.ok b) (hw : ∀ i, 0 ≤ w i ∧ w i < 18446744073709551616) : A'.ok (b + k) := by
 refine ⟨fun i => by rw [h.w]; exact hw i, ?_, fun i => ?_⟩
 ·have := ho.s; have := h.s; omega
 ·have := ho.s; have := h.s; have := ho.t i
  rcases h.t i with e | e <;> omega
theorem Aft.trans {A' A'' : Ar} {k k' : Int} {w w' : Int → Int} (h : Aft A A' k w) (h' : Aft A' A'' k' w') (hk : 0 ≤ k) (hk' : 0 ≤ k') : Aft A A'' (k + k') w' := by
 refine ⟨h'.n.trans h.n, h'.w, by rw [h'.s, h.s]; omega, fun i => ?_⟩
 have := h.s; have := h'.s
 rcases h'.t i with e | e
 ·rw [e]
  rcases h.t i with e | e <;> omega
 ·omega
theorem aft_load {b a : Int} (h : A.ok b) (hb : b < 9223372036854775807) : Aft A ((A.by who).load a) 1 A.w :=
 ⟨rfl, rfl, by rw [load_s, by_s, h.s1 hb], fun i => .inl rfl⟩
theorem aft_store {b a v : Int} (h : A.ok b) (hb : b < 9223372036854775807) : Aft A ((A.by who).store a v) 1 (upd A.w a v) := by
 refine ⟨rfl, rfl, by rw [store_s, by_s, h.s1 hb], fun i => ?_⟩
 rw [store_t, by_s, h.s1 hb, store_s, by_s, h.s1 hb]
 split
 ·unfold upd; split
  ·right; omega
  ·left; rfl
 ·left; rfl
theorem aft_cas {b a o v : Int} (h : A.ok b) (hb : b < 9223372036854775807) : Aft A ((A.by who).cas a o v) 1 (if A.w a = o then upd A.w a v else A.w) := by
 by_cases hc : A.w a = o
 ·rw [if_pos hc, cas_yes (by exact hc)]; exact aft_store h hb
 ·rw [if_neg hc, cas_no (by exact hc)]; exact aft_load h hb
end Go.Fl
namespace Go.Fl
open Go
set_option linter.unusedVariables false
set_option linter.unusedSimpArgs false
variable {N : Nm} {A B : Ar} {σ : Mem} {K : Value → Mem → Prop} {C : Cf} {who : Int}
def ArgI (k : IntKind) (σ : Mem) (s : Value) (n : Nat) (g : Int → Int) : Prop := ∃ a c, s = .slice a n c ∧ (0 < n → ∃ b rw, a = some ⟨b, 0, none⟩ ∧ σ.get b = some ⟨cells k n g, rw⟩)
theorem Sl.argI {k : IntKind} {s : Value} {n : Nat} {cs : List Value} (h : Sl σ 1 n cs s) (hf : FlatL (List.replicate n [some k]).flatten cs) : ∃ g, ArgI k σ s n g ∧ ∀ i, (Lit.int k (g i)).wf = true := by
 obtain ⟨g, rfl, hw⟩ := hf.ints
 refine ⟨g, ?_, hw⟩
 generalize hc : cells k n g = cs at h
 cases h with
 | nil => exact ⟨none, 0, rfl, fun h => absurd h (Nat.lt_irrefl 0)⟩
 | mk hl hg =>
  rename_i b
  refine ⟨some ⟨b, 0, none⟩, 1, rfl, fun h => ?_⟩
  rcases hg with hg | ⟨rw, hg⟩
  ·omega
  ·exact ⟨b, rw, rfl, by rw [hg, hc]⟩
theorem ArgI.keep {kd : IntKind} {s : Value} {n : Nat} {g : Int → Int} {τ : Mem} (h : ArgI kd σ s n g) (k : Ext σ τ) : ArgI kd τ s n g := by
 obtain ⟨a, c, rfl, h⟩ := h
 refine ⟨a, c, rfl, fun hn => ?_⟩
 obtain ⟨b, rw, e, h⟩ := h hn
 exact ⟨b, rw, e, k _ _ h⟩
theorem ArgI.len {k : IntKind} {s : Value} {n : Nat} {g : Int → Int} (h : ArgI k σ s n g) {K : Value → Prop} : xF fLen [s] K = K (.int .i64 n) := by
 obtain ⟨a, c, rfl, _⟩ := h; exact xLen
theorem ArgI.ix {k' : IntKind} {s : Value} {n : Nat} {g : Int → Int} (h : ArgI k' σ s n g) {i : Int} (h0 : 0 ≤ i) (h1 : i < n) {kd : IntKind} :
  (xF (fIxS 1) [s, .int kd i] fun v => hLoad 1 false [v] K σ) = K (.int k' (g i)) σ := by
 obtain ⟨a, c, rfl, h⟩ := h
 obtain ⟨b, rw, rfl, h'⟩ := h (by omega)
 rw [xIxS h0 h1]
 simp only [Nat.zero_add]
 exact ldCells h' h0 h1
theorem Ext.keep' {σ0 τ : Mem} {L : List Nat} (h : Ext σ0 σ) (k : Keep L σ τ) (hL : ∀ i ∈ L, σ0.get i = none) : Ext σ0 τ := by
 intro i b hi
 refine k i b (h i b hi) fun hm => ?_
 rw [hL i hm] at hi; cases hi
theorem Ext.none {τ : Mem} (h : Ext σ τ) {i : Nat} (hi : τ.get i = none) : σ.get i = none := by
 cases e : σ.get i with
 | none => rfl
 | some b => rw [h i b e] at hi; cases hi
theorem Nm.fr.all (h : N.fr σ) : ∀ i ∈ N.l, σ.get i = none := by
 intro i hi
 simp only [Nm.l, List.mem_cons, List.not_mem_nil, or_false] at hi
 rcases hi with rfl | rfl | rfl
 ·exact h.m
 ·exact h.w
 ·exact h.t
theorem FlatL.split : ∀ {ks ls : List (Option IntKind)} {cs : List Value}, FlatL (ks ++ ls) cs → FlatL ks (cs.take ks.length) ∧ FlatL ls (cs.drop ks.length)
 | [], ls, cs, h => ⟨.nil, h⟩
 | k :: ks, ls, cs, h => by
  cases h with
  | cons h1 h2 =>
   obtain ⟨a, b⟩ := FlatL.split h2
   exact ⟨.cons h1 a, b⟩
section
variable {b o : Nat} {pre L post : List Value} {rw : Bool}
end
end Go.Fl
namespace Go.Fl
open Go
set_option linter.unusedVariables false
set_option linter.unusedSimpArgs false
variable {N : Nm} {A B : Ar} {σ : Mem} {K : Value → Mem → Prop} {C : Cf} {who : Int}
def chS (w : Int) : Int := w % 4
def chC (w : Int) : Int := w / 4 % 64
def chU (w : Int) : Int := w / 256 % 1048576
def chN (w : Int) : Int := w / 268435456 % 68719476736
def putChunk (st c us sp : Int) : Int := cl st 3 + cl c 63 * 4 + cl us 1048575 * 256 + cl sp 68719476735 * 268435456
theorem putChunk_in (st c us sp : Int) : 0 ≤ putChunk st c us sp ∧ putChunk st c us sp < 18446744073709551616 := by unfold putChunk cl; omega
theorem c_PutChunk {st c us sp : Int} : s_a6 [.agg #[.int .i64 st, .int .i64 c, .int .i64 us, .int .i64 sp]] K σ = K (.int .u64 (putChunk st c us sp)) σ := by
 simp only [s_a6, w_a6, ruS, ruL, ruX, Nat.reduceAdd, reduceIte, Int.reduceLT, Int.reduceLE, Int.reduceEq, Int.reduceNeg, Int.reduceAdd, Int.reduceSub, Nat.reduceLeDiff]
 have h1 := @cl_le st 3
 have h2 := @cl_nn st 3 (by decide)
 have h3 := @cl_le c 63
 have h4 := @cl_nn c 63 (by decide)
 have h5 := @cl_le us 1048575
 have h6 := @cl_nn us 1048575 (by decide)
 have h7 := @cl_le sp 68719476735
 have h8 := @cl_nn sp 68719476735 (by decide)
 rw [c_fit (by decide) (by decide), c_fit (by decide) (by decide), shl2 h4 (by omega), or2 h2 (by omega) h4 (by omega), c_fit (by decide) (by decide), shl8 h6 (by omega), or8 (by omega) (by omega) h6 (by omega),
  c_fit (by decide) (by decide), shl28 h8 (by omega), or28 (by omega) (by omega) h8 (by omega)]
 rfl
theorem c_wChunk {w : Int} (h0 : 0 ≤ w) (h1 : w < 18446744073709551616) : s_a5 [.int .u64 w] K σ = K (.agg #[.int .i64 (chS w), .int .i64 (chC w), .int .i64 (chU w), .int .i64 (chN w)]) σ := by
 have b : ∀ (a b c d : Int) (K : Value → Prop), xF (fBuild [(0, 1), (1, 1), (2, 1), (3, 1)] [.int .i64 0, .int .i64 0, .int .i64 0, .int .i64 0] [0, 1, 2, 3]) [.int .i64 a, .int .i64 b, .int .i64 c, .int .i64 d] K =
   K (.agg #[.int .i64 a, .int .i64 b, .int .i64 c, .int .i64 d]) := fun _ _ _ _ K => nr rfl
 simp only [s_a5, w_a5, gAlloc_s, xCs, ruS, Nat.reduceAdd, reduceIte, Int.reduceLT, Int.reduceLE, Int.reduceEq, Int.reduceNeg, Int.reduceAdd, Int.reduceSub]
 rw [and2 h0 h1]
 simp only [ruS, Nat.reduceAdd, reduceIte, Int.reduceLT, Int.reduceLE, Int.reduceEq, Int.reduceNeg, Int.reduceAdd, Int.reduceSub]
 rw [shr2 h0, and6 (by omega) (by omega)]
 simp only [ruS, Nat.reduceAdd, reduceIte, Int.reduceLT, Int.reduceLE, Int.reduceEq, Int.reduceNeg, Int.reduceAdd, Int.reduceSub]
 rw [shr8 h0, and20 (by omega) (by omega)]
 simp only [ruS, Nat.reduceAdd, reduceIte, Int.reduceLT, Int.reduceLE, Int.reduceEq, Int.reduceNeg, Int.reduceAdd, Int.reduceSub]
 rw [shr28 h0, and36 (by omega) (by omega)]
 simp only [ruS, Nat.reduceAdd, reduceIte, Int.reduceLT, Int.reduceLE, Int.reduceEq, Int.reduceNeg, Int.reduceAdd, Int.reduceSub]
 rw [IntWalk.i64_in (w % 4) (by omega), IntWalk.i64_in (w / 4 % 64) (by omega), IntWalk.i64_in (w / 256 % 1048576) (by omega), IntWalk.i64_in (w / 268435456 % 68719476736) (by omega), b]
 simp only [ruS, ruL, ruX, Nat.reduceAdd, reduceIte, Int.reduceLT, Int.reduceLE, Int.reduceEq, Int.reduceNeg, Int.reduceAdd, Int.reduceSub, Nat.reduceLeDiff]
 rfl
theorem chU_bd (w : Int) : 0 ≤ chU w ∧ chU w ≤ 1048575 := by unfold chU; omega
theorem chN_bd (w : Int) : 0 ≤ chN w ∧ chN w ≤ 68719476735 := by unfold chN; omega
theorem ch_put {st c us sp : Int} (h1 : 0 ≤ st ∧ st ≤ 3) (h2 : 0 ≤ c ∧ c ≤ 63) (h3 : 0 ≤ us ∧ us ≤ 1048575) (h4 : 0 ≤ sp ∧ sp ≤ 68719476735) :
  chS (putChunk st c us sp) = st ∧ chC (putChunk st c us sp) = c ∧ chU (putChunk st c us sp) = us ∧ chN (putChunk st c us sp) = sp := by
 have e : putChunk st c us sp = st + c * 4 + us * 256 + sp * 268435456 := by unfold putChunk; rw [cl_in h1.1 h1.2, cl_in h2.1 h2.2, cl_in h3.1 h3.2, cl_in h4.1 h4.2]
 rw [e]; unfold chS chC chU chN; omega
structure Pl where
 cls : Int
 pc : Int
 opn : Int
 at' : Int
 w : Int
 sa : Int
 sc : Int
 ok : Bool
def Pl.l (p : Pl) : List Value := [.int .i64 p.cls, .int .i64 p.pc, .int .u64 p.opn, .int .i64 p.at', .int .u64 p.w, .int .i64 p.sa, .int .i64 p.sc, .bool p.ok]
def Pl.new (c : Int) : Pl := ⟨c, 0, 0, 0, 0, 0, 0, false⟩
def Pl.fresh (p : Pl) : Int := putChunk 1 p.cls 0 (chN p.w + 1)
def Pl.next (C : Cf) (p : Pl) : Bool × Pl := (decide (C.C ≤ p.at' + 1), { p with at' := p.at' + 1, pc := 3 })
def Pl.step (C : Cf) (who : Int) (A : Ar) (p : Pl) : Bool × Pl × Ar :=
 if p.pc = 0 then
  let w := A.w (2 + p.cls)
  (false, (if IntKind.i64.wrap w - 1 < 0 then { p with opn := w, at' := 0, pc := 3 } else { p with opn := w, at' := IntKind.i64.wrap w - 1, pc := 1 }), (A.by who).load (2 + p.cls))
 else if p.pc = 1 then
  let w := A.w (C.chunk p.at')
  (false, (if chS w ≠ 1 ∨ chC w ≠ p.cls ∨ C.W < chU w + roomOf p.cls then { p with w := w, at' := 0, pc := 3 } else { p with w := w, pc := 2 }), (A.by who).load (C.chunk p.at'))
 else if p.pc = 2 then
  let good := A.w (C.chunk p.at') = p.w
  (decide good, (if good then { p with pc := 0, sa := C.base p.at' + chU p.w, sc := p.at', ok := true } else { p with pc := 0 }), (A.by who).cas (C.chunk p.at') p.w (putChunk (chS p.w) (chC p.w) (chU p.w + roomOf p.cls) (chN p.w)))
 else if p.pc = 3 then
  let w := A.w (C.chunk p.at')
  let q : Pl := { p with w := w }
  if chS w ≠ 0 then ((q.next C).1, (q.next C).2, (A.by who).load (C.chunk p.at')) else (false, { q with pc := 4 }, (A.by who).load (C.chunk p.at'))
 else if p.pc = 4 then
  if A.w (C.chunk p.at') = p.w then (false, { p with pc := 5 }, (A.by who).cas (C.chunk p.at') p.w p.fresh) else ((p.next C).1, (p.next C).2, (A.by who).cas (C.chunk p.at') p.w p.fresh)
 else if p.pc = 5 then
  (false, (if A.w (2 + p.cls) = p.opn then { p with pc := 0 } else { p with pc := 6 }), (A.by who).cas (2 + p.cls) p.opn (p.at' + 1))
 else (false, { p with pc := 0 }, (A.by who).cas (C.chunk p.at') p.fresh (putChunk 0 0 0 (chN p.w + 2)))
structure Pl.fit (C : Cf) (p : Pl) : Prop where
 cls : 0 ≤ p.cls ∧ p.cls ≤ 3
 opn : 0 ≤ p.opn ∧ p.opn < 18446744073709551616
 at' : 0 ≤ p.at' ∧ p.at' < C.C
 w : 0 ≤ p.w ∧ p.w < 18446744073709551616
theorem c_PlaceNew {c : Int} (hk : ∀ id τ, σ.get id = none → τ.get id = some ⟨(Pl.new c).l, true⟩ → Ext σ τ → K (.pointer (some ⟨id, 0, none⟩)) τ) : s_ay [.int .i64 c] K σ := by
 have b : ∀ K : Value → Prop, xF (fBuild [(0, 1), (1, 1), (2, 1), (3, 1), (4, 1), (5, 2), (7, 1)] [.int .i64 0, .int .i64 0, .int .u64 0, .int .i64 0, .int .u64 0, .int .i64 0, .int .i64 0, .bool false] [0]) [.int .i64 c] K =
   K (.agg #[.int .i64 c, .int .i64 0, .int .u64 0, .int .i64 0, .int .u64 0, .int .i64 0, .int .i64 0, .bool false]) := fun K => nr rfl
 simp only [s_ay, w_ay, b, ruS, Nat.reduceAdd, reduceIte, Int.reduceLT, Int.reduceLE, Int.reduceEq, Int.reduceNeg, Int.reduceAdd, Int.reduceSub]
 exact hBox_i (cs := [_, _, _, _, _, _, _, _]) rfl hk
theorem c_fresh {p : Nat} {pre post : List Value} {t : Pl} (hd : p ∉ N.l) (hw : 0 ≤ t.w ∧ t.w < 18446744073709551616) :
  s_a1 [.pointer (some ⟨p, pre.length, none⟩)] K (putA N A (σ.set p ⟨pre ++ t.l ++ post, true⟩)) = K (.int .u64 t.fresh) (putA N A (σ.set p ⟨pre ++ t.l ++ post, true⟩)) := by
 have b : ∀ (a b c : Int) (K : Value → Prop), xF (fBuild [(0, 1), (1, 1), (2, 1), (3, 1)] [.int .i64 0, .int .i64 0, .int .i64 0, .int .i64 0] [0, 1, 3]) [.int .i64 a, .int .i64 b, .int .i64 c] K = K (.agg #[.int .i64 a, .int .i64 b, .int .i64 0, .int .i64 c]) := fun _ _ _ K => nr rfl
 have hN := chN_bd t.w
 simp only [s_a1, w_a1, Pl.l, ldO hd, ruS, ruL, ruE, Nat.reduceAdd, reduceIte, Int.reduceLT, Int.reduceLE, Int.reduceEq, Int.reduceNeg, Int.reduceAdd, Int.reduceSub, Nat.reduceLeDiff, Nat.reduceLT]
 rw [c_wChunk hw.1 hw.2]
 simp only [ruS, ruL, ruE, Nat.reduceAdd, reduceIte, Int.reduceLT, Int.reduceLE, Int.reduceEq, Int.reduceNeg, Int.reduceAdd, Int.reduceSub, Nat.reduceLeDiff, Nat.reduceLT]
 rw [IntWalk.i64_in (chN t.w + 1) (by omega), b, c_PutChunk]
 rfl
theorem c_on {p : Nat} {pre post : List Value} {t : Pl} (hd : p ∉ N.l) (ha : 0 ≤ t.at' ∧ t.at' < 1000) :
  s_a3 [.pointer (some ⟨p, pre.length, none⟩), N.env C who] K (putA N A (σ.set p ⟨pre ++ t.l ++ post, true⟩)) = K (.bool (t.next C).1) (putA N A (σ.set p ⟨pre ++ (t.next C).2.l ++ post, true⟩)) := by
 simp only [s_a3, w_a3, Pl.l, stOi hd, ldO hd, ruS, ruL, ruE, Nat.reduceAdd, reduceIte, Int.reduceLT, Int.reduceLE, Int.reduceEq, Int.reduceNeg, Int.reduceAdd, Int.reduceSub, Nat.reduceLeDiff, Nat.reduceLT]
 rw [IntWalk.i64_in (t.at' + 1) (by omega)]
 rfl
end Go.Fl
