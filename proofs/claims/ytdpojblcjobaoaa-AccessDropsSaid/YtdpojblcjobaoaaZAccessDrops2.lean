/- What the claim leans on, part 2: own readings of the program's functions, what they come to, laws of them. No condition. -/
import Derived.Test.YtdpojblcjobaoaaZAccessDrops1
namespace Go.Fl
open Go Go.Proofs
set_option linter.unusedVariables false
set_option maxRecDepth 10000000
theorem mixedOk : Try.prog.follows .mixedOrders = true := by kernel_rfl
def bodyOf (fn : Func) : Code :=
  match fn.body with
  | some c => c
  | none => .skip
def w_layout_Check_j3b (K : Value → Mem → Prop) (v3 v4 v5 : Value) (σ : Mem) : Prop :=
xF fMove [v3] fun v70 =>
xF fMove [v70] fun v71 =>
xIf v71
 (xF fMove [v4] fun v72 =>
xF fPick [(.bool true), v72, (.bool false)] fun v73 =>
xF fMove [v73] fun v74 =>
xIf v74
 (xF fMove [v5] fun v75 =>
xF fPick [(.bool true), v75, (.bool false)] fun v76 =>
xF fMove [v76] fun v2 =>
K v2 σ)
 (xF fPick [(.bool false), undef, (.bool false)] fun v76 =>
xF fMove [v76] fun v2 =>
K v2 σ))
 (xF fPick [(.bool false), undef, (.bool false)] fun v73 =>
xF fMove [v73] fun v74 =>
xIf v74
 (xF fMove [v5] fun v75 =>
xF fPick [(.bool true), v75, (.bool false)] fun v76 =>
xF fMove [v76] fun v2 =>
K v2 σ)
 (xF fPick [(.bool false), undef, (.bool false)] fun v76 =>
xF fMove [v76] fun v2 =>
K v2 σ))
def w_layout_Check_j3 (K : Value → Mem → Prop) (ts : List Value) (ls : List (List Value)) (σ : Mem) : Prop := w_layout_Check_j3b K (ts.getD 0 poison) (ts.getD 1 poison) (ts.getD 2 poison) σ
def w_layout_Check_j2b (K : Value → Mem → Prop) (v3 v4 : Value) (c1 : List Value) (σ : Mem) : Prop :=
xJoin (w_layout_Check_j3 K) fun J3 =>
xF (fFld 4) [(locP 1)] fun v42 =>
xO (gLoad 1 false [v42] c1) fun v43 =>
xF (fBin .geq .no) [v43, (.int .i64 1)] fun v44 =>
xF fMove [v44] fun v45 =>
xIf v45
 (xF (fFld 4) [(locP 1)] fun v46 =>
xO (gLoad 1 false [v46] c1) fun v47 =>
xF (fBin .leq .no) [v47, (.int .i64 65535)] fun v48 =>
xF fPick [(.bool true), v48, (.bool false)] fun v49 =>
xF fMove [v49] fun v50 =>
xIf v50
 (xF (fFld 5) [(locP 1)] fun v51 =>
xO (gLoad 1 false [v51] c1) fun v52 =>
xF (fBin .geq .no) [v52, (.int .i64 0)] fun v53 =>
xF fPick [(.bool true), v53, (.bool false)] fun v54 =>
xF fMove [v54] fun v55 =>
xIf v55
 (xF (fFld 5) [(locP 1)] fun v56 =>
xO (gLoad 1 false [v56] c1) fun v57 =>
xF (fBin .leq .no) [v57, (.int .i64 1000)] fun v58 =>
xF fPick [(.bool true), v58, (.bool false)] fun v59 =>
xF fMove [v59] fun v60 =>
xIf v60
 (xF (fFld 6) [(locP 1)] fun v61 =>
xO (gLoad 1 false [v61] c1) fun v62 =>
xF (fBin .geq .no) [v62, (.int .i64 1)] fun v63 =>
xF fPick [(.bool true), v63, (.bool false)] fun v64 =>
xF fMove [v64] fun v65 =>
xIf v65
 (xF (fFld 6) [(locP 1)] fun v66 =>
xO (gLoad 1 false [v66] c1) fun v67 =>
xF (fBin .leq .no) [v67, (.int .i64 16)] fun v68 =>
xF fPick [(.bool true), v68, (.bool false)] fun v69 =>
xF fMove [v69] fun v5 =>
J3 [v3, v4, v5] [] σ)
 (xF fPick [(.bool false), undef, (.bool false)] fun v69 =>
xF fMove [v69] fun v5 =>
J3 [v3, v4, v5] [] σ))
 (xF fPick [(.bool false), undef, (.bool false)] fun v64 =>
xF fMove [v64] fun v65 =>
xIf v65
 (xF (fFld 6) [(locP 1)] fun v66 =>
xO (gLoad 1 false [v66] c1) fun v67 =>
xF (fBin .leq .no) [v67, (.int .i64 16)] fun v68 =>
xF fPick [(.bool true), v68, (.bool false)] fun v69 =>
xF fMove [v69] fun v5 =>
J3 [v3, v4, v5] [] σ)
 (xF fPick [(.bool false), undef, (.bool false)] fun v69 =>
xF fMove [v69] fun v5 =>
J3 [v3, v4, v5] [] σ)))
 (xF fPick [(.bool false), undef, (.bool false)] fun v59 =>
xF fMove [v59] fun v60 =>
xIf v60
 (xF (fFld 6) [(locP 1)] fun v61 =>
xO (gLoad 1 false [v61] c1) fun v62 =>
xF (fBin .geq .no) [v62, (.int .i64 1)] fun v63 =>
xF fPick [(.bool true), v63, (.bool false)] fun v64 =>
xF fMove [v64] fun v65 =>
xIf v65
 (xF (fFld 6) [(locP 1)] fun v66 =>
xO (gLoad 1 false [v66] c1) fun v67 =>
xF (fBin .leq .no) [v67, (.int .i64 16)] fun v68 =>
xF fPick [(.bool true), v68, (.bool false)] fun v69 =>
xF fMove [v69] fun v5 =>
J3 [v3, v4, v5] [] σ)
 (xF fPick [(.bool false), undef, (.bool false)] fun v69 =>
xF fMove [v69] fun v5 =>
J3 [v3, v4, v5] [] σ))
 (xF fPick [(.bool false), undef, (.bool false)] fun v64 =>
xF fMove [v64] fun v65 =>
xIf v65
 (xF (fFld 6) [(locP 1)] fun v66 =>
xO (gLoad 1 false [v66] c1) fun v67 =>
xF (fBin .leq .no) [v67, (.int .i64 16)] fun v68 =>
xF fPick [(.bool true), v68, (.bool false)] fun v69 =>
xF fMove [v69] fun v5 =>
J3 [v3, v4, v5] [] σ)
 (xF fPick [(.bool false), undef, (.bool false)] fun v69 =>
xF fMove [v69] fun v5 =>
J3 [v3, v4, v5] [] σ))))
 (xF fPick [(.bool false), undef, (.bool false)] fun v54 =>
xF fMove [v54] fun v55 =>
xIf v55
 (xF (fFld 5) [(locP 1)] fun v56 =>
xO (gLoad 1 false [v56] c1) fun v57 =>
xF (fBin .leq .no) [v57, (.int .i64 1000)] fun v58 =>
xF fPick [(.bool true), v58, (.bool false)] fun v59 =>
xF fMove [v59] fun v60 =>
xIf v60
 (xF (fFld 6) [(locP 1)] fun v61 =>
xO (gLoad 1 false [v61] c1) fun v62 =>
xF (fBin .geq .no) [v62, (.int .i64 1)] fun v63 =>
xF fPick [(.bool true), v63, (.bool false)] fun v64 =>
xF fMove [v64] fun v65 =>
xIf v65
 (xF (fFld 6) [(locP 1)] fun v66 =>
xO (gLoad 1 false [v66] c1) fun v67 =>
xF (fBin .leq .no) [v67, (.int .i64 16)] fun v68 =>
xF fPick [(.bool true), v68, (.bool false)] fun v69 =>
xF fMove [v69] fun v5 =>
J3 [v3, v4, v5] [] σ)
 (xF fPick [(.bool false), undef, (.bool false)] fun v69 =>
xF fMove [v69] fun v5 =>
J3 [v3, v4, v5] [] σ))
 (xF fPick [(.bool false), undef, (.bool false)] fun v64 =>
xF fMove [v64] fun v65 =>
xIf v65
 (xF (fFld 6) [(locP 1)] fun v66 =>
xO (gLoad 1 false [v66] c1) fun v67 =>
xF (fBin .leq .no) [v67, (.int .i64 16)] fun v68 =>
xF fPick [(.bool true), v68, (.bool false)] fun v69 =>
xF fMove [v69] fun v5 =>
J3 [v3, v4, v5] [] σ)
 (xF fPick [(.bool false), undef, (.bool false)] fun v69 =>
xF fMove [v69] fun v5 =>
J3 [v3, v4, v5] [] σ)))
 (xF fPick [(.bool false), undef, (.bool false)] fun v59 =>
xF fMove [v59] fun v60 =>
xIf v60
 (xF (fFld 6) [(locP 1)] fun v61 =>
xO (gLoad 1 false [v61] c1) fun v62 =>
xF (fBin .geq .no) [v62, (.int .i64 1)] fun v63 =>
xF fPick [(.bool true), v63, (.bool false)] fun v64 =>
xF fMove [v64] fun v65 =>
xIf v65
 (xF (fFld 6) [(locP 1)] fun v66 =>
xO (gLoad 1 false [v66] c1) fun v67 =>
xF (fBin .leq .no) [v67, (.int .i64 16)] fun v68 =>
xF fPick [(.bool true), v68, (.bool false)] fun v69 =>
xF fMove [v69] fun v5 =>
J3 [v3, v4, v5] [] σ)
 (xF fPick [(.bool false), undef, (.bool false)] fun v69 =>
xF fMove [v69] fun v5 =>
J3 [v3, v4, v5] [] σ))
 (xF fPick [(.bool false), undef, (.bool false)] fun v64 =>
xF fMove [v64] fun v65 =>
xIf v65
 (xF (fFld 6) [(locP 1)] fun v66 =>
xO (gLoad 1 false [v66] c1) fun v67 =>
xF (fBin .leq .no) [v67, (.int .i64 16)] fun v68 =>
xF fPick [(.bool true), v68, (.bool false)] fun v69 =>
xF fMove [v69] fun v5 =>
J3 [v3, v4, v5] [] σ)
 (xF fPick [(.bool false), undef, (.bool false)] fun v69 =>
xF fMove [v69] fun v5 =>
J3 [v3, v4, v5] [] σ)))))
 (xF fPick [(.bool false), undef, (.bool false)] fun v49 =>
xF fMove [v49] fun v50 =>
xIf v50
 (xF (fFld 5) [(locP 1)] fun v51 =>
xO (gLoad 1 false [v51] c1) fun v52 =>
xF (fBin .geq .no) [v52, (.int .i64 0)] fun v53 =>
xF fPick [(.bool true), v53, (.bool false)] fun v54 =>
xF fMove [v54] fun v55 =>
xIf v55
 (xF (fFld 5) [(locP 1)] fun v56 =>
xO (gLoad 1 false [v56] c1) fun v57 =>
xF (fBin .leq .no) [v57, (.int .i64 1000)] fun v58 =>
xF fPick [(.bool true), v58, (.bool false)] fun v59 =>
xF fMove [v59] fun v60 =>
xIf v60
 (xF (fFld 6) [(locP 1)] fun v61 =>
xO (gLoad 1 false [v61] c1) fun v62 =>
xF (fBin .geq .no) [v62, (.int .i64 1)] fun v63 =>
xF fPick [(.bool true), v63, (.bool false)] fun v64 =>
xF fMove [v64] fun v65 =>
xIf v65
 (xF (fFld 6) [(locP 1)] fun v66 =>
xO (gLoad 1 false [v66] c1) fun v67 =>
xF (fBin .leq .no) [v67, (.int .i64 16)] fun v68 =>
xF fPick [(.bool true), v68, (.bool false)] fun v69 =>
xF fMove [v69] fun v5 =>
J3 [v3, v4, v5] [] σ)
 (xF fPick [(.bool false), undef, (.bool false)] fun v69 =>
xF fMove [v69] fun v5 =>
J3 [v3, v4, v5] [] σ))
 (xF fPick [(.bool false), undef, (.bool false)] fun v64 =>
xF fMove [v64] fun v65 =>
xIf v65
 (xF (fFld 6) [(locP 1)] fun v66 =>
xO (gLoad 1 false [v66] c1) fun v67 =>
xF (fBin .leq .no) [v67, (.int .i64 16)] fun v68 =>
xF fPick [(.bool true), v68, (.bool false)] fun v69 =>
xF fMove [v69] fun v5 =>
J3 [v3, v4, v5] [] σ)
 (xF fPick [(.bool false), undef, (.bool false)] fun v69 =>
xF fMove [v69] fun v5 =>
J3 [v3, v4, v5] [] σ)))
 (xF fPick [(.bool false), undef, (.bool false)] fun v59 =>
xF fMove [v59] fun v60 =>
xIf v60
 (xF (fFld 6) [(locP 1)] fun v61 =>
xO (gLoad 1 false [v61] c1) fun v62 =>
xF (fBin .geq .no) [v62, (.int .i64 1)] fun v63 =>
xF fPick [(.bool true), v63, (.bool false)] fun v64 =>
xF fMove [v64] fun v65 =>
xIf v65
 (xF (fFld 6) [(locP 1)] fun v66 =>
xO (gLoad 1 false [v66] c1) fun v67 =>
xF (fBin .leq .no) [v67, (.int .i64 16)] fun v68 =>
xF fPick [(.bool true), v68, (.bool false)] fun v69 =>
xF fMove [v69] fun v5 =>
J3 [v3, v4, v5] [] σ)
 (xF fPick [(.bool false), undef, (.bool false)] fun v69 =>
xF fMove [v69] fun v5 =>
J3 [v3, v4, v5] [] σ))
 (xF fPick [(.bool false), undef, (.bool false)] fun v64 =>
xF fMove [v64] fun v65 =>
xIf v65
 (xF (fFld 6) [(locP 1)] fun v66 =>
xO (gLoad 1 false [v66] c1) fun v67 =>
xF (fBin .leq .no) [v67, (.int .i64 16)] fun v68 =>
xF fPick [(.bool true), v68, (.bool false)] fun v69 =>
xF fMove [v69] fun v5 =>
J3 [v3, v4, v5] [] σ)
 (xF fPick [(.bool false), undef, (.bool false)] fun v69 =>
xF fMove [v69] fun v5 =>
J3 [v3, v4, v5] [] σ))))
 (xF fPick [(.bool false), undef, (.bool false)] fun v54 =>
xF fMove [v54] fun v55 =>
xIf v55
 (xF (fFld 5) [(locP 1)] fun v56 =>
xO (gLoad 1 false [v56] c1) fun v57 =>
xF (fBin .leq .no) [v57, (.int .i64 1000)] fun v58 =>
xF fPick [(.bool true), v58, (.bool false)] fun v59 =>
xF fMove [v59] fun v60 =>
xIf v60
 (xF (fFld 6) [(locP 1)] fun v61 =>
xO (gLoad 1 false [v61] c1) fun v62 =>
xF (fBin .geq .no) [v62, (.int .i64 1)] fun v63 =>
xF fPick [(.bool true), v63, (.bool false)] fun v64 =>
xF fMove [v64] fun v65 =>
xIf v65
 (xF (fFld 6) [(locP 1)] fun v66 =>
xO (gLoad 1 false [v66] c1) fun v67 =>
xF (fBin .leq .no) [v67, (.int .i64 16)] fun v68 =>
xF fPick [(.bool true), v68, (.bool false)] fun v69 =>
xF fMove [v69] fun v5 =>
J3 [v3, v4, v5] [] σ)
 (xF fPick [(.bool false), undef, (.bool false)] fun v69 =>
xF fMove [v69] fun v5 =>
J3 [v3, v4, v5] [] σ))
 (xF fPick [(.bool false), undef, (.bool false)] fun v64 =>
xF fMove [v64] fun v65 =>
xIf v65
 (xF (fFld 6) [(locP 1)] fun v66 =>
xO (gLoad 1 false [v66] c1) fun v67 =>
xF (fBin .leq .no) [v67, (.int .i64 16)] fun v68 =>
xF fPick [(.bool true), v68, (.bool false)] fun v69 =>
xF fMove [v69] fun v5 =>
J3 [v3, v4, v5] [] σ)
 (xF fPick [(.bool false), undef, (.bool false)] fun v69 =>
xF fMove [v69] fun v5 =>
J3 [v3, v4, v5] [] σ)))
 (xF fPick [(.bool false), undef, (.bool false)] fun v59 =>
xF fMove [v59] fun v60 =>
xIf v60
 (xF (fFld 6) [(locP 1)] fun v61 =>
xO (gLoad 1 false [v61] c1) fun v62 =>
xF (fBin .geq .no) [v62, (.int .i64 1)] fun v63 =>
xF fPick [(.bool true), v63, (.bool false)] fun v64 =>
xF fMove [v64] fun v65 =>
xIf v65
 (xF (fFld 6) [(locP 1)] fun v66 =>
xO (gLoad 1 false [v66] c1) fun v67 =>
xF (fBin .leq .no) [v67, (.int .i64 16)] fun v68 =>
xF fPick [(.bool true), v68, (.bool false)] fun v69 =>
xF fMove [v69] fun v5 =>
J3 [v3, v4, v5] [] σ)
 (xF fPick [(.bool false), undef, (.bool false)] fun v69 =>
xF fMove [v69] fun v5 =>
J3 [v3, v4, v5] [] σ))
 (xF fPick [(.bool false), undef, (.bool false)] fun v64 =>
xF fMove [v64] fun v65 =>
xIf v65
 (xF (fFld 6) [(locP 1)] fun v66 =>
xO (gLoad 1 false [v66] c1) fun v67 =>
xF (fBin .leq .no) [v67, (.int .i64 16)] fun v68 =>
xF fPick [(.bool true), v68, (.bool false)] fun v69 =>
xF fMove [v69] fun v5 =>
J3 [v3, v4, v5] [] σ)
 (xF fPick [(.bool false), undef, (.bool false)] fun v69 =>
xF fMove [v69] fun v5 =>
J3 [v3, v4, v5] [] σ)))))
def w_layout_Check_j2 (K : Value → Mem → Prop) (ts : List Value) (ls : List (List Value)) (σ : Mem) : Prop := w_layout_Check_j2b K (ts.getD 0 poison) (ts.getD 1 poison) (ls.getD 0 []) σ
def w_layout_Check_j1b (K : Value → Mem → Prop) (v3 : Value) (c1 : List Value) (σ : Mem) : Prop :=
xJoin (w_layout_Check_j2 K) fun J2 =>
xF (fFld 2) [(locP 1)] fun v24 =>
xO (gLoad 1 false [v24] c1) fun v25 =>
xF (fBin .geq .no) [v25, (.int .i64 1)] fun v26 =>
xF fMove [v26] fun v27 =>
xIf v27
 (xF (fFld 2) [(locP 1)] fun v28 =>
xO (gLoad 1 false [v28] c1) fun v29 =>
xF (fBin .leq .no) [v29, (.int .i64 64)] fun v30 =>
xF fPick [(.bool true), v30, (.bool false)] fun v31 =>
xF fMove [v31] fun v32 =>
xIf v32
 (xF (fFld 3) [(locP 1)] fun v33 =>
xO (gLoad 1 false [v33] c1) fun v34 =>
xF (fBin .geq .no) [v34, (.int .i64 17)] fun v35 =>
xF fPick [(.bool true), v35, (.bool false)] fun v36 =>
xF fMove [v36] fun v37 =>
xIf v37
 (xF (fFld 3) [(locP 1)] fun v38 =>
xO (gLoad 1 false [v38] c1) fun v39 =>
xF (fBin .leq .no) [v39, (.int .i64 256)] fun v40 =>
xF fPick [(.bool true), v40, (.bool false)] fun v41 =>
xF fMove [v41] fun v4 =>
J2 [v3, v4] [c1] σ)
 (xF fPick [(.bool false), undef, (.bool false)] fun v41 =>
xF fMove [v41] fun v4 =>
J2 [v3, v4] [c1] σ))
 (xF fPick [(.bool false), undef, (.bool false)] fun v36 =>
xF fMove [v36] fun v37 =>
xIf v37
 (xF (fFld 3) [(locP 1)] fun v38 =>
xO (gLoad 1 false [v38] c1) fun v39 =>
xF (fBin .leq .no) [v39, (.int .i64 256)] fun v40 =>
xF fPick [(.bool true), v40, (.bool false)] fun v41 =>
xF fMove [v41] fun v4 =>
J2 [v3, v4] [c1] σ)
 (xF fPick [(.bool false), undef, (.bool false)] fun v41 =>
xF fMove [v41] fun v4 =>
J2 [v3, v4] [c1] σ)))
 (xF fPick [(.bool false), undef, (.bool false)] fun v31 =>
xF fMove [v31] fun v32 =>
xIf v32
 (xF (fFld 3) [(locP 1)] fun v33 =>
xO (gLoad 1 false [v33] c1) fun v34 =>
xF (fBin .geq .no) [v34, (.int .i64 17)] fun v35 =>
xF fPick [(.bool true), v35, (.bool false)] fun v36 =>
xF fMove [v36] fun v37 =>
xIf v37
 (xF (fFld 3) [(locP 1)] fun v38 =>
xO (gLoad 1 false [v38] c1) fun v39 =>
xF (fBin .leq .no) [v39, (.int .i64 256)] fun v40 =>
xF fPick [(.bool true), v40, (.bool false)] fun v41 =>
xF fMove [v41] fun v4 =>
J2 [v3, v4] [c1] σ)
 (xF fPick [(.bool false), undef, (.bool false)] fun v41 =>
xF fMove [v41] fun v4 =>
J2 [v3, v4] [c1] σ))
 (xF fPick [(.bool false), undef, (.bool false)] fun v36 =>
xF fMove [v36] fun v37 =>
xIf v37
 (xF (fFld 3) [(locP 1)] fun v38 =>
xO (gLoad 1 false [v38] c1) fun v39 =>
xF (fBin .leq .no) [v39, (.int .i64 256)] fun v40 =>
xF fPick [(.bool true), v40, (.bool false)] fun v41 =>
xF fMove [v41] fun v4 =>
J2 [v3, v4] [c1] σ)
 (xF fPick [(.bool false), undef, (.bool false)] fun v41 =>
xF fMove [v41] fun v4 =>
J2 [v3, v4] [c1] σ)))
def w_layout_Check_j1 (K : Value → Mem → Prop) (ts : List Value) (ls : List (List Value)) (σ : Mem) : Prop := w_layout_Check_j1b K (ts.getD 0 poison) (ls.getD 0 []) σ
def w_layout_Check (a0 : Value) (K : Value → Mem → Prop) (σ : Mem) : Prop :=
xC (gBox 7 [a0] []) fun c1 =>
xF fMove [(.bool false)] fun v2 =>
xJoin (w_layout_Check_j1 K) fun J1 =>
xF (fFld 0) [(locP 1)] fun v6 =>
xO (gLoad 1 false [v6] c1) fun v7 =>
xF (fBin .geq .no) [v7, (.int .i64 1)] fun v8 =>
xF fMove [v8] fun v9 =>
xIf v9
 (xF (fFld 0) [(locP 1)] fun v10 =>
xO (gLoad 1 false [v10] c1) fun v11 =>
xF (fBin .leq .no) [v11, (.int .i64 8)] fun v12 =>
xF fPick [(.bool true), v12, (.bool false)] fun v13 =>
xF fMove [v13] fun v14 =>
xIf v14
 (xF (fFld 1) [(locP 1)] fun v15 =>
xO (gLoad 1 false [v15] c1) fun v16 =>
xF (fBin .geq .no) [v16, (.int .i64 1)] fun v17 =>
xF fPick [(.bool true), v17, (.bool false)] fun v18 =>
xF fMove [v18] fun v19 =>
xIf v19
 (xF (fFld 1) [(locP 1)] fun v20 =>
xO (gLoad 1 false [v20] c1) fun v21 =>
xF (fBin .leq .no) [v21, (.int .i64 65536)] fun v22 =>
xF fPick [(.bool true), v22, (.bool false)] fun v23 =>
xF fMove [v23] fun v3 =>
J1 [v3] [c1] σ)
 (xF fPick [(.bool false), undef, (.bool false)] fun v23 =>
xF fMove [v23] fun v3 =>
J1 [v3] [c1] σ))
 (xF fPick [(.bool false), undef, (.bool false)] fun v18 =>
xF fMove [v18] fun v19 =>
xIf v19
 (xF (fFld 1) [(locP 1)] fun v20 =>
xO (gLoad 1 false [v20] c1) fun v21 =>
xF (fBin .leq .no) [v21, (.int .i64 65536)] fun v22 =>
xF fPick [(.bool true), v22, (.bool false)] fun v23 =>
xF fMove [v23] fun v3 =>
J1 [v3] [c1] σ)
 (xF fPick [(.bool false), undef, (.bool false)] fun v23 =>
xF fMove [v23] fun v3 =>
J1 [v3] [c1] σ)))
 (xF fPick [(.bool false), undef, (.bool false)] fun v13 =>
xF fMove [v13] fun v14 =>
xIf v14
 (xF (fFld 1) [(locP 1)] fun v15 =>
xO (gLoad 1 false [v15] c1) fun v16 =>
xF (fBin .geq .no) [v16, (.int .i64 1)] fun v17 =>
xF fPick [(.bool true), v17, (.bool false)] fun v18 =>
xF fMove [v18] fun v19 =>
xIf v19
 (xF (fFld 1) [(locP 1)] fun v20 =>
xO (gLoad 1 false [v20] c1) fun v21 =>
xF (fBin .leq .no) [v21, (.int .i64 65536)] fun v22 =>
xF fPick [(.bool true), v22, (.bool false)] fun v23 =>
xF fMove [v23] fun v3 =>
J1 [v3] [c1] σ)
 (xF fPick [(.bool false), undef, (.bool false)] fun v23 =>
xF fMove [v23] fun v3 =>
J1 [v3] [c1] σ))
 (xF fPick [(.bool false), undef, (.bool false)] fun v18 =>
xF fMove [v18] fun v19 =>
xIf v19
 (xF (fFld 1) [(locP 1)] fun v20 =>
xO (gLoad 1 false [v20] c1) fun v21 =>
xF (fBin .leq .no) [v21, (.int .i64 65536)] fun v22 =>
xF fPick [(.bool true), v22, (.bool false)] fun v23 =>
xF fMove [v23] fun v3 =>
J1 [v3] [c1] σ)
 (xF fPick [(.bool false), undef, (.bool false)] fun v23 =>
xF fMove [v23] fun v3 =>
J1 [v3] [c1] σ)))
def s_layout_Check : Spec := fun args K σ => match args with
  | [a0] => w_layout_Check a0 K σ
  | _ => False
noncomputable def cx_layout_Check : Cx := { P := Try.prog, T := [], loc := [(1, 1), (6, 1), (10, 1), (15, 1), (20, 1), (24, 1), (28, 1), (33, 1), (38, 1), (42, 1), (46, 1), (51, 1), (56, 1), (61, 1), (66, 1)], eqt := [], n := 77, keep := [(1000003, [3], [1]), (1000004, [3, 4], [1]), (1000005, [3, 4, 5], [])] }
theorem q_layout_Check : FnS cx_layout_Check Try.f53 (bodyOf Try.f53) 1 = s_layout_Check := by
  funext args K σ
  rcases args with _ | ⟨a0, _ | ⟨b, r⟩⟩ <;> kernel_rfl
theorem e_layout_Check : Entry Try.prog 53 .none s_layout_Check :=
  entry (C := cx_layout_Check) TOk.nil mixedOk Try.func53 (by kernel_rfl) (by kernel_rfl) (by kernel_rfl) q_layout_Check
def xl_layout_Check : List (Nat × Nat) := [(1, 1), (6, 1), (10, 1), (15, 1), (20, 1), (24, 1), (28, 1), (33, 1), (38, 1), (42, 1), (46, 1), (51, 1), (56, 1), (61, 1), (66, 1)]
noncomputable def xc_layout_Check : XC XN :=
(.seq none
 (.reg [⟨none, some 1, [(.tmp 0)], ⟨.lb 1 7, rAny xl_layout_Check (.lb 1 7)⟩⟩,
  ⟨none, some 2, [(.const (.bool false))], ⟨.f fMove, rMove⟩⟩])
 (.seq (some ([3], [1]))
 (.reg [⟨none, some 6, [(.tmp 1)], ⟨.f (fFld 0), rFld 0⟩⟩,
  ⟨none, some 7, [(.tmp 6)], ⟨.lr 1 1 false, rLr1 1⟩⟩,
  ⟨none, some 8, [(.tmp 7), (.const (.int .i64 1))], ⟨.f (fBin .geq .no), rGeq⟩⟩,
  ⟨none, some 9, [(.tmp 8)], ⟨.f fMove, rMove⟩⟩,
  ⟨(some (4, 3, true, some 9)), some 10, [(.tmp 1)], ⟨.f (fFld 0), rFld 0⟩⟩,
  ⟨(some (5, 3, true, some 9)), some 11, [(.tmp 10)], ⟨.lr 1 1 false, rLr1 1⟩⟩,
  ⟨(some (6, 3, true, some 9)), some 12, [(.tmp 11), (.const (.int .i64 8))], ⟨.f (fBin .leq .no), rLeq⟩⟩,
  ⟨none, some 13, [(.tmp 9), (.tmp 12), (.const (.bool false))], ⟨.f fPick, rPick⟩⟩,
  ⟨none, some 14, [(.tmp 13)], ⟨.f fMove, rMove⟩⟩,
  ⟨(some (9, 8, true, some 14)), some 15, [(.tmp 1)], ⟨.f (fFld 1), rFld 1⟩⟩,
  ⟨(some (10, 8, true, some 14)), some 16, [(.tmp 15)], ⟨.lr 1 1 false, rLr1 1⟩⟩,
  ⟨(some (11, 8, true, some 14)), some 17, [(.tmp 16), (.const (.int .i64 1))], ⟨.f (fBin .geq .no), rGeq⟩⟩,
  ⟨none, some 18, [(.tmp 14), (.tmp 17), (.const (.bool false))], ⟨.f fPick, rPick⟩⟩,
  ⟨none, some 19, [(.tmp 18)], ⟨.f fMove, rMove⟩⟩,
  ⟨(some (14, 13, true, some 19)), some 20, [(.tmp 1)], ⟨.f (fFld 1), rFld 1⟩⟩,
  ⟨(some (15, 13, true, some 19)), some 21, [(.tmp 20)], ⟨.lr 1 1 false, rLr1 1⟩⟩,
  ⟨(some (16, 13, true, some 19)), some 22, [(.tmp 21), (.const (.int .i64 65536))], ⟨.f (fBin .leq .no), rLeq⟩⟩,
  ⟨none, some 23, [(.tmp 19), (.tmp 22), (.const (.bool false))], ⟨.f fPick, rPick⟩⟩,
  ⟨none, some 3, [(.tmp 23)], ⟨.f fMove, rMove⟩⟩])
 (.seq (some ([3, 4], [1]))
 (.reg [⟨none, some 24, [(.tmp 1)], ⟨.f (fFld 2), rFld 2⟩⟩,
  ⟨none, some 25, [(.tmp 24)], ⟨.lr 1 1 false, rLr1 1⟩⟩,
  ⟨none, some 26, [(.tmp 25), (.const (.int .i64 1))], ⟨.f (fBin .geq .no), rGeq⟩⟩,
  ⟨none, some 27, [(.tmp 26)], ⟨.f fMove, rMove⟩⟩,
  ⟨(some (4, 3, true, some 27)), some 28, [(.tmp 1)], ⟨.f (fFld 2), rFld 2⟩⟩,
  ⟨(some (5, 3, true, some 27)), some 29, [(.tmp 28)], ⟨.lr 1 1 false, rLr1 1⟩⟩,
  ⟨(some (6, 3, true, some 27)), some 30, [(.tmp 29), (.const (.int .i64 64))], ⟨.f (fBin .leq .no), rLeq⟩⟩,
  ⟨none, some 31, [(.tmp 27), (.tmp 30), (.const (.bool false))], ⟨.f fPick, rPick⟩⟩,
  ⟨none, some 32, [(.tmp 31)], ⟨.f fMove, rMove⟩⟩,
  ⟨(some (9, 8, true, some 32)), some 33, [(.tmp 1)], ⟨.f (fFld 3), rFld 3⟩⟩,
  ⟨(some (10, 8, true, some 32)), some 34, [(.tmp 33)], ⟨.lr 1 1 false, rLr1 1⟩⟩,
  ⟨(some (11, 8, true, some 32)), some 35, [(.tmp 34), (.const (.int .i64 17))], ⟨.f (fBin .geq .no), rGeq⟩⟩,
  ⟨none, some 36, [(.tmp 32), (.tmp 35), (.const (.bool false))], ⟨.f fPick, rPick⟩⟩,
  ⟨none, some 37, [(.tmp 36)], ⟨.f fMove, rMove⟩⟩,
  ⟨(some (14, 13, true, some 37)), some 38, [(.tmp 1)], ⟨.f (fFld 3), rFld 3⟩⟩,
  ⟨(some (15, 13, true, some 37)), some 39, [(.tmp 38)], ⟨.lr 1 1 false, rLr1 1⟩⟩,
  ⟨(some (16, 13, true, some 37)), some 40, [(.tmp 39), (.const (.int .i64 256))], ⟨.f (fBin .leq .no), rLeq⟩⟩,
  ⟨none, some 41, [(.tmp 37), (.tmp 40), (.const (.bool false))], ⟨.f fPick, rPick⟩⟩,
  ⟨none, some 4, [(.tmp 41)], ⟨.f fMove, rMove⟩⟩])
 (.seq (some ([3, 4, 5], []))
 (.reg [⟨none, some 42, [(.tmp 1)], ⟨.f (fFld 4), rFld 4⟩⟩,
  ⟨none, some 43, [(.tmp 42)], ⟨.lr 1 1 false, rLr1 1⟩⟩,
  ⟨none, some 44, [(.tmp 43), (.const (.int .i64 1))], ⟨.f (fBin .geq .no), rGeq⟩⟩,
  ⟨none, some 45, [(.tmp 44)], ⟨.f fMove, rMove⟩⟩,
  ⟨(some (4, 3, true, some 45)), some 46, [(.tmp 1)], ⟨.f (fFld 4), rFld 4⟩⟩,
  ⟨(some (5, 3, true, some 45)), some 47, [(.tmp 46)], ⟨.lr 1 1 false, rLr1 1⟩⟩,
  ⟨(some (6, 3, true, some 45)), some 48, [(.tmp 47), (.const (.int .i64 65535))], ⟨.f (fBin .leq .no), rLeq⟩⟩,
  ⟨none, some 49, [(.tmp 45), (.tmp 48), (.const (.bool false))], ⟨.f fPick, rPick⟩⟩,
  ⟨none, some 50, [(.tmp 49)], ⟨.f fMove, rMove⟩⟩,
  ⟨(some (9, 8, true, some 50)), some 51, [(.tmp 1)], ⟨.f (fFld 5), rFld 5⟩⟩,
  ⟨(some (10, 8, true, some 50)), some 52, [(.tmp 51)], ⟨.lr 1 1 false, rLr1 1⟩⟩,
  ⟨(some (11, 8, true, some 50)), some 53, [(.tmp 52), (.const (.int .i64 0))], ⟨.f (fBin .geq .no), rGeq⟩⟩,
  ⟨none, some 54, [(.tmp 50), (.tmp 53), (.const (.bool false))], ⟨.f fPick, rPick⟩⟩,
  ⟨none, some 55, [(.tmp 54)], ⟨.f fMove, rMove⟩⟩,
  ⟨(some (14, 13, true, some 55)), some 56, [(.tmp 1)], ⟨.f (fFld 5), rFld 5⟩⟩,
  ⟨(some (15, 13, true, some 55)), some 57, [(.tmp 56)], ⟨.lr 1 1 false, rLr1 1⟩⟩,
  ⟨(some (16, 13, true, some 55)), some 58, [(.tmp 57), (.const (.int .i64 1000))], ⟨.f (fBin .leq .no), rLeq⟩⟩,
  ⟨none, some 59, [(.tmp 55), (.tmp 58), (.const (.bool false))], ⟨.f fPick, rPick⟩⟩,
  ⟨none, some 60, [(.tmp 59)], ⟨.f fMove, rMove⟩⟩,
  ⟨(some (19, 18, true, some 60)), some 61, [(.tmp 1)], ⟨.f (fFld 6), rFld 6⟩⟩,
  ⟨(some (20, 18, true, some 60)), some 62, [(.tmp 61)], ⟨.lr 1 1 false, rLr1 1⟩⟩,
  ⟨(some (21, 18, true, some 60)), some 63, [(.tmp 62), (.const (.int .i64 1))], ⟨.f (fBin .geq .no), rGeq⟩⟩,
  ⟨none, some 64, [(.tmp 60), (.tmp 63), (.const (.bool false))], ⟨.f fPick, rPick⟩⟩,
  ⟨none, some 65, [(.tmp 64)], ⟨.f fMove, rMove⟩⟩,
  ⟨(some (24, 23, true, some 65)), some 66, [(.tmp 1)], ⟨.f (fFld 6), rFld 6⟩⟩,
  ⟨(some (25, 23, true, some 65)), some 67, [(.tmp 66)], ⟨.lr 1 1 false, rLr1 1⟩⟩,
  ⟨(some (26, 23, true, some 65)), some 68, [(.tmp 67), (.const (.int .i64 16))], ⟨.f (fBin .leq .no), rLeq⟩⟩,
  ⟨none, some 69, [(.tmp 65), (.tmp 68), (.const (.bool false))], ⟨.f fPick, rPick⟩⟩,
  ⟨none, some 5, [(.tmp 69)], ⟨.f fMove, rMove⟩⟩])
 (.seq none
 (.reg [⟨none, some 70, [(.tmp 3)], ⟨.f fMove, rMove⟩⟩,
  ⟨none, some 71, [(.tmp 70)], ⟨.f fMove, rMove⟩⟩,
  ⟨(some (2, 1, true, some 71)), some 72, [(.tmp 4)], ⟨.f fMove, rMove⟩⟩,
  ⟨none, some 73, [(.tmp 71), (.tmp 72), (.const (.bool false))], ⟨.f fPick, rPick⟩⟩,
  ⟨none, some 74, [(.tmp 73)], ⟨.f fMove, rMove⟩⟩,
  ⟨(some (5, 4, true, some 74)), some 75, [(.tmp 5)], ⟨.f fMove, rMove⟩⟩,
  ⟨none, some 76, [(.tmp 74), (.tmp 75), (.const (.bool false))], ⟨.f fPick, rPick⟩⟩,
  ⟨none, some 2, [(.tmp 76)], ⟨.f fMove, rMove⟩⟩])
 .ret)))))
noncomputable def v_layout_Check : EvF := evFn 1 xc_layout_Check [.t 2]
theorem xt_layout_Check : toC cx_layout_Check (bodyOf Try.f53) = some (xc_layout_Check.map XN.sm) := by kernel_rfl
theorem xr_layout_Check : toR cx_layout_Check Try.f53.results.toList = some [.t 2] := by kernel_rfl
theorem xo_layout_Check : xc_layout_Check.ok xl_layout_Check := ⟨⟨rAny_ok (trivial), rMove_ok, trivial⟩, ⟨⟨rFld_ok _, rLr1_ok _, rGeq_ok, rMove_ok, rFld_ok _, rLr1_ok _, rLeq_ok, rPick_ok, rMove_ok, rFld_ok _, rLr1_ok _, rGeq_ok, rPick_ok, rMove_ok, rFld_ok _, rLr1_ok _, rLeq_ok, rPick_ok, rMove_ok, trivial⟩, ⟨⟨rFld_ok _, rLr1_ok _, rGeq_ok, rMove_ok, rFld_ok _, rLr1_ok _, rLeq_ok, rPick_ok, rMove_ok, rFld_ok _, rLr1_ok _, rGeq_ok, rPick_ok, rMove_ok, rFld_ok _, rLr1_ok _, rLeq_ok, rPick_ok, rMove_ok, trivial⟩, ⟨⟨rFld_ok _, rLr1_ok _, rGeq_ok, rMove_ok, rFld_ok _, rLr1_ok _, rLeq_ok, rPick_ok, rMove_ok, rFld_ok _, rLr1_ok _, rGeq_ok, rPick_ok, rMove_ok, rFld_ok _, rLr1_ok _, rLeq_ok, rPick_ok, rMove_ok, rFld_ok _, rLr1_ok _, rGeq_ok, rPick_ok, rMove_ok, rFld_ok _, rLr1_ok _, rLeq_ok, rPick_ok, rMove_ok, trivial⟩, ⟨⟨rMove_ok, rMove_ok, rMove_ok, rPick_ok, rMove_ok, rMove_ok, rPick_ok, rMove_ok, trivial⟩, trivial⟩⟩⟩⟩⟩
theorem ve_layout_Check : EvOk s_layout_Check v_layout_Check := EvOk.of (evFn_sound (C := cx_layout_Check) xt_layout_Check xr_layout_Check xo_layout_Check) q_layout_Check
attribute [irreducible] w_layout_Check_j3b w_layout_Check_j3 w_layout_Check_j2b w_layout_Check_j2 w_layout_Check_j1b w_layout_Check_j1 w_layout_Check s_layout_Check
def w_layout_Base (a0 a1 : Value) (K : Value → Mem → Prop) (σ : Mem) : Prop :=
xC (gBox 7 [a0] []) fun c2 =>
xF fMove [(.int .i64 0)] fun v4 =>
xF (fFld 0) [(locP 2)] fun v5 =>
xO (gLoad 1 false [v5] c2) fun v6 =>
xF (fBin .add .no) [(.int .i64 6), v6] fun v7 =>
xF (fFld 1) [(locP 2)] fun v8 =>
xO (gLoad 1 false [v8] c2) fun v9 =>
xF (fBin .mul .no) [(.int .i64 2), v9] fun v10 =>
xF (fBin .add .no) [v7, v10] fun v11 =>
xF (fFld 2) [(locP 2)] fun v12 =>
xO (gLoad 1 false [v12] c2) fun v13 =>
xF (fBin .mul .no) [(.int .i64 3), v13] fun v14 =>
xF (fBin .add .no) [v11, v14] fun v15 =>
xF (fFld 3) [(locP 2)] fun v16 =>
xO (gLoad 1 false [v16] c2) fun v17 =>
xF fMove [a1] fun v18 =>
xF (fBin .mul .no) [v17, v18] fun v19 =>
xF (fBin .add .no) [v15, v19] fun v20 =>
xF fMove [v20] fun v4 =>
K v4 σ
def s_layout_Base : Spec := fun args K σ => match args with
  | [a0, a1] => w_layout_Base a0 a1 K σ
  | _ => False
noncomputable def cx_layout_Base : Cx := { P := Try.prog, T := [], loc := [(2, 2), (5, 2), (8, 2), (12, 2), (16, 2)], eqt := [], n := 21, keep := [] }
theorem q_layout_Base : FnS cx_layout_Base Try.f81 (bodyOf Try.f81) 2 = s_layout_Base := by
  funext args K σ
  rcases args with _ | ⟨a0, _ | ⟨a1, _ | ⟨b, r⟩⟩⟩ <;> kernel_rfl
theorem e_layout_Base : Entry Try.prog 81 .none s_layout_Base :=
  entry (C := cx_layout_Base) TOk.nil mixedOk Try.func81 (by kernel_rfl) (by kernel_rfl) (by kernel_rfl) q_layout_Base
def xl_layout_Base : List (Nat × Nat) := [(2, 2), (5, 2), (8, 2), (12, 2), (16, 2)]
noncomputable def xc_layout_Base : XC XN :=
(.seq none
 (.reg [⟨none, some 2, [(.tmp 0)], ⟨.lb 2 7, rAny xl_layout_Base (.lb 2 7)⟩⟩,
  ⟨none, some 4, [(.const (.int .i64 0))], ⟨.f fMove, rMove⟩⟩])
 (.seq none
 (.reg [⟨none, some 5, [(.tmp 2)], ⟨.f (fFld 0), rFld 0⟩⟩,
  ⟨none, some 6, [(.tmp 5)], ⟨.lr 2 1 false, rLr1 2⟩⟩,
  ⟨none, some 7, [(.const (.int .i64 6)), (.tmp 6)], ⟨.f (fBin .add .no), rAdd⟩⟩,
  ⟨none, some 8, [(.tmp 2)], ⟨.f (fFld 1), rFld 1⟩⟩,
  ⟨none, some 9, [(.tmp 8)], ⟨.lr 2 1 false, rLr1 2⟩⟩,
  ⟨none, some 10, [(.const (.int .i64 2)), (.tmp 9)], ⟨.f (fBin .mul .no), rMul⟩⟩,
  ⟨none, some 11, [(.tmp 7), (.tmp 10)], ⟨.f (fBin .add .no), rAdd⟩⟩,
  ⟨none, some 12, [(.tmp 2)], ⟨.f (fFld 2), rFld 2⟩⟩,
  ⟨none, some 13, [(.tmp 12)], ⟨.lr 2 1 false, rLr1 2⟩⟩,
  ⟨none, some 14, [(.const (.int .i64 3)), (.tmp 13)], ⟨.f (fBin .mul .no), rMul⟩⟩,
  ⟨none, some 15, [(.tmp 11), (.tmp 14)], ⟨.f (fBin .add .no), rAdd⟩⟩,
  ⟨none, some 16, [(.tmp 2)], ⟨.f (fFld 3), rFld 3⟩⟩,
  ⟨none, some 17, [(.tmp 16)], ⟨.lr 2 1 false, rLr1 2⟩⟩,
  ⟨none, some 18, [(.tmp 1)], ⟨.f fMove, rMove⟩⟩,
  ⟨none, some 19, [(.tmp 17), (.tmp 18)], ⟨.f (fBin .mul .no), rMul⟩⟩,
  ⟨none, some 20, [(.tmp 15), (.tmp 19)], ⟨.f (fBin .add .no), rAdd⟩⟩,
  ⟨none, some 4, [(.tmp 20)], ⟨.f fMove, rMove⟩⟩])
 .ret))
noncomputable def v_layout_Base : EvF := evFn 2 xc_layout_Base [.t 4]
theorem xt_layout_Base : toC cx_layout_Base (bodyOf Try.f81) = some (xc_layout_Base.map XN.sm) := by kernel_rfl
theorem xr_layout_Base : toR cx_layout_Base Try.f81.results.toList = some [.t 4] := by kernel_rfl
theorem xo_layout_Base : xc_layout_Base.ok xl_layout_Base := ⟨⟨rAny_ok (trivial), rMove_ok, trivial⟩, ⟨⟨rFld_ok _, rLr1_ok _, rAdd_ok, rFld_ok _, rLr1_ok _, rMul_ok, rAdd_ok, rFld_ok _, rLr1_ok _, rMul_ok, rAdd_ok, rFld_ok _, rLr1_ok _, rMove_ok, rMul_ok, rAdd_ok, rMove_ok, trivial⟩, trivial⟩⟩
theorem ve_layout_Base : EvOk s_layout_Base v_layout_Base := EvOk.of (evFn_sound (C := cx_layout_Base) xt_layout_Base xr_layout_Base xo_layout_Base) q_layout_Base
attribute [irreducible] w_layout_Base s_layout_Base
def w_layout_Len (a0 : Value) (K : Value → Mem → Prop) (σ : Mem) : Prop :=
xC (gBox 7 [a0] []) fun c1 =>
xF fMove [(.int .i64 0)] fun v2 =>
xO (gLoad 7 true [(locP 1)] c1) fun v3 =>
xF (fFld 2) [(locP 1)] fun v4 =>
xO (gLoad 1 false [v4] c1) fun v5 =>
s_layout_Base [v3, v5] (fun v6 σ =>
xF fMove [v6] fun v2 =>
K v2 σ) σ
def s_layout_Len : Spec := fun args K σ => match args with
  | [a0] => w_layout_Len a0 K σ
  | _ => False
noncomputable def cx_layout_Len : Cx := { P := Try.prog, T := [(81, .none, s_layout_Base)], loc := [(1, 1), (4, 1)], eqt := [], n := 7, keep := [] }
theorem q_layout_Len : FnS cx_layout_Len Try.f55 (bodyOf Try.f55) 1 = s_layout_Len := by
  funext args K σ
  rcases args with _ | ⟨a0, _ | ⟨b, r⟩⟩ <;> kernel_rfl
theorem e_layout_Len : Entry Try.prog 55 .none s_layout_Len :=
  entry (C := cx_layout_Len) (TOk.cons e_layout_Base TOk.nil) mixedOk Try.func55 (by kernel_rfl) (by kernel_rfl) (by kernel_rfl) q_layout_Len
def xl_layout_Len : List (Nat × Nat) := [(1, 1), (4, 1)]
noncomputable def xc_layout_Len : XC XN :=
(.seq none
 (.reg [⟨none, some 1, [(.tmp 0)], ⟨.lb 1 7, rAny xl_layout_Len (.lb 1 7)⟩⟩,
  ⟨none, some 2, [(.const (.int .i64 0))], ⟨.f fMove, rMove⟩⟩])
 (.seq none
 (.reg [⟨none, some 3, [(.tmp 1)], ⟨.lr 1 7 true, rAny xl_layout_Len (.lr 1 7 true)⟩⟩,
  ⟨none, some 4, [(.tmp 1)], ⟨.f (fFld 2), rFld 2⟩⟩,
  ⟨none, some 5, [(.tmp 4)], ⟨.lr 1 1 false, rLr1 1⟩⟩,
  ⟨none, some 6, [(.tmp 3), (.tmp 5)], ⟨.call .none s_layout_Base v_layout_Base, rCall v_layout_Base⟩⟩,
  ⟨none, some 2, [(.tmp 6)], ⟨.f fMove, rMove⟩⟩])
 .ret))
noncomputable def v_layout_Len : EvF := evFn 1 xc_layout_Len [.t 2]
theorem xt_layout_Len : toC cx_layout_Len (bodyOf Try.f55) = some (xc_layout_Len.map XN.sm) := by kernel_rfl
theorem xr_layout_Len : toR cx_layout_Len Try.f55.results.toList = some [.t 2] := by kernel_rfl
theorem xo_layout_Len : xc_layout_Len.ok xl_layout_Len := ⟨⟨rAny_ok (trivial), rMove_ok, trivial⟩, ⟨⟨rAny_ok (trivial), rFld_ok _, rLr1_ok _, rCall_ok ve_layout_Base, rMove_ok, trivial⟩, trivial⟩⟩
theorem ve_layout_Len : EvOk s_layout_Len v_layout_Len := EvOk.of (evFn_sound (C := cx_layout_Len) xt_layout_Len xr_layout_Len xo_layout_Len) q_layout_Len
attribute [irreducible] w_layout_Len s_layout_Len
def w_mem_New_j1b (K : Value → Mem → Prop) (v0 v9 : Value) (σ : Mem) : Prop :=
xIf v9
 (xF fMove [(.pointer none)] fun v2 =>
xF fMove [(.int .i64 1)] fun v3 =>
K (.tuple #[v2, v3]) σ)
 (xF fMove [v0] fun v10 =>
hMakeS 1 8 [(.int .u64 0)] [v10, v10] (fun v11 σ =>
xF fMove [v0] fun v12 =>
hMakeS 1 8 [(.int .i64 0)] [v12, v12] (fun v13 σ =>
xF (fBuild [(0, 1), (1, 1), (2, 1), (3, 1), (4, 3)] [(.slice none 0 0), (.slice none 0 0), (.int .i64 0), (.int .i64 0), (.int .i64 0), (.int .i64 0), (.bool false)] [0, 1]) [v11, v13] fun v14 =>
hBox 7 [v14] (fun v15 σ =>
xF fMove [v15] fun v2 =>
xF fMove [(.int .i64 0)] fun v3 =>
K (.tuple #[v2, v3]) σ) σ) σ) σ)
def w_mem_New_j1 (K : Value → Mem → Prop) (ts : List Value) (ls : List (List Value)) (σ : Mem) : Prop := w_mem_New_j1b K (ts.getD 0 poison) (ts.getD 1 poison) σ
def w_mem_New (a0 : Value) (K : Value → Mem → Prop) (σ : Mem) : Prop :=
xF fMove [(.pointer none)] fun v2 =>
xF fMove [(.int .i64 0)] fun v3 =>
xJoin (w_mem_New_j1 K) fun J1 =>
xF fMove [a0] fun v4 =>
xF (fBin .lss .no) [v4, (.int .i64 1)] fun v5 =>
xF fMove [v5] fun v6 =>
xIf v6
 (xF fPick [(.bool true), (.bool true), undef] fun v9 =>
J1 [a0, v9] [] σ)
 (xF fMove [a0] fun v7 =>
xF (fBin .gtr .no) [v7, (.int .i64 1048576)] fun v8 =>
xF fPick [(.bool false), (.bool true), v8] fun v9 =>
J1 [a0, v9] [] σ)
def s_mem_New : Spec := fun args K σ => match args with
  | [a0] => w_mem_New a0 K σ
  | _ => False
noncomputable def cx_mem_New : Cx := { P := Try.prog, T := [], loc := [], eqt := [], n := 16, keep := [(1000003, [0, 9], [])] }
theorem q_mem_New : FnS cx_mem_New Try.f54 (bodyOf Try.f54) 1 = s_mem_New := by
  funext args K σ
  rcases args with _ | ⟨a0, _ | ⟨b, r⟩⟩ <;> kernel_rfl
theorem e_mem_New : Entry Try.prog 54 .write s_mem_New :=
  entry (C := cx_mem_New) TOk.nil mixedOk Try.func54 (by kernel_rfl) (by kernel_rfl) (by kernel_rfl) q_mem_New
def xl_mem_New : List (Nat × Nat) := []
noncomputable def xc_mem_New : XC XN :=
(.seq none
 (.reg [⟨none, some 2, [(.const (.pointer none))], ⟨.f fMove, rMove⟩⟩,
  ⟨none, some 3, [(.const (.int .i64 0))], ⟨.f fMove, rMove⟩⟩])
 (.seq none
 (.seq (some ([0, 9], []))
 (.reg [⟨none, some 4, [(.tmp 0)], ⟨.f fMove, rMove⟩⟩,
  ⟨none, some 5, [(.tmp 4), (.const (.int .i64 1))], ⟨.f (fBin .lss .no), rLss⟩⟩,
  ⟨none, some 6, [(.tmp 5)], ⟨.f fMove, rMove⟩⟩,
  ⟨(some (3, 2, false, some 6)), some 7, [(.tmp 0)], ⟨.f fMove, rMove⟩⟩,
  ⟨(some (4, 2, false, some 6)), some 8, [(.tmp 7), (.const (.int .i64 1048576))], ⟨.f (fBin .gtr .no), rGtr⟩⟩,
  ⟨none, some 9, [(.tmp 6), (.const (.bool true)), (.tmp 8)], ⟨.f fPick, rPick⟩⟩])
 (.cond (.tmp 9)
 (.seq none
 (.reg [⟨none, some 2, [(.const (.pointer none))], ⟨.f fMove, rMove⟩⟩,
  ⟨none, some 3, [(.const (.int .i64 1))], ⟨.f fMove, rMove⟩⟩])
 .ret)
 .skip))
 (.seq none
 (.reg [⟨none, some 10, [(.tmp 0)], ⟨.f fMove, rMove⟩⟩,
  ⟨none, some 11, [(.tmp 10), (.tmp 10)], ⟨.ms 1 8 [(.int .u64 0)], rAny xl_mem_New (.ms 1 8 [(.int .u64 0)])⟩⟩,
  ⟨none, some 12, [(.tmp 0)], ⟨.f fMove, rMove⟩⟩,
  ⟨none, some 13, [(.tmp 12), (.tmp 12)], ⟨.ms 1 8 [(.int .i64 0)], rAny xl_mem_New (.ms 1 8 [(.int .i64 0)])⟩⟩,
  ⟨none, some 14, [(.tmp 11), (.tmp 13)], ⟨.f (fBuild [(0, 1), (1, 1), (2, 1), (3, 1), (4, 3)] [(.slice none 0 0), (.slice none 0 0), (.int .i64 0), (.int .i64 0), (.int .i64 0), (.int .i64 0), (.bool false)] [0, 1]), rAny xl_mem_New (.f (fBuild [(0, 1), (1, 1), (2, 1), (3, 1), (4, 3)] [(.slice none 0 0), (.slice none 0 0), (.int .i64 0), (.int .i64 0), (.int .i64 0), (.int .i64 0), (.bool false)] [0, 1]))⟩⟩,
  ⟨none, some 15, [(.tmp 14)], ⟨.box 7, rAny xl_mem_New (.box 7)⟩⟩,
  ⟨none, some 2, [(.tmp 15)], ⟨.f fMove, rMove⟩⟩,
  ⟨none, some 3, [(.const (.int .i64 0))], ⟨.f fMove, rMove⟩⟩])
 .ret)))
noncomputable def v_mem_New : EvF := evFn 1 xc_mem_New [.t 2, .t 3]
theorem xt_mem_New : toC cx_mem_New (bodyOf Try.f54) = some (xc_mem_New.map XN.sm) := by kernel_rfl
theorem xr_mem_New : toR cx_mem_New Try.f54.results.toList = some [.t 2, .t 3] := by kernel_rfl
theorem xo_mem_New : xc_mem_New.ok xl_mem_New := ⟨⟨rMove_ok, rMove_ok, trivial⟩, ⟨⟨⟨rMove_ok, rLss_ok, rMove_ok, rMove_ok, rGtr_ok, rPick_ok, trivial⟩, ⟨⟨⟨rMove_ok, rMove_ok, trivial⟩, trivial⟩, trivial⟩⟩, ⟨⟨rMove_ok, rAny_ok (trivial), rMove_ok, rAny_ok (trivial), rAny_ok (eqv_build _ rfl _), rAny_ok (trivial), rMove_ok, rMove_ok, trivial⟩, trivial⟩⟩⟩
theorem ve_mem_New : EvOk s_mem_New v_mem_New := EvOk.of (evFn_sound (C := cx_mem_New) xt_mem_New xr_mem_New xo_mem_New) q_mem_New
attribute [irreducible] w_mem_New_j1b w_mem_New_j1 w_mem_New s_mem_New
def w_layout_Slot (a0 a1 : Value) (K : Value → Mem → Prop) (σ : Mem) : Prop :=
xC (gBox 7 [a0] []) fun c2 =>
xF fMove [(.int .i64 0)] fun v4 =>
xF (fFld 0) [(locP 2)] fun v5 =>
xO (gLoad 1 false [v5] c2) fun v6 =>
xF (fBin .add .no) [(.int .i64 6), v6] fun v7 =>
xF fMove [a1] fun v8 =>
xF (fBin .mul .no) [(.int .i64 2), v8] fun v9 =>
xF (fBin .add .no) [v7, v9] fun v10 =>
xF fMove [v10] fun v4 =>
K v4 σ
def s_layout_Slot : Spec := fun args K σ => match args with
  | [a0, a1] => w_layout_Slot a0 a1 K σ
  | _ => False
noncomputable def cx_layout_Slot : Cx := { P := Try.prog, T := [], loc := [(2, 2), (5, 2)], eqt := [], n := 11, keep := [] }
theorem q_layout_Slot : FnS cx_layout_Slot Try.f18 (bodyOf Try.f18) 2 = s_layout_Slot := by
  funext args K σ
  rcases args with _ | ⟨a0, _ | ⟨a1, _ | ⟨b, r⟩⟩⟩ <;> kernel_rfl
theorem e_layout_Slot : Entry Try.prog 18 .none s_layout_Slot :=
  entry (C := cx_layout_Slot) TOk.nil mixedOk Try.func18 (by kernel_rfl) (by kernel_rfl) (by kernel_rfl) q_layout_Slot
def xl_layout_Slot : List (Nat × Nat) := [(2, 2), (5, 2)]
noncomputable def xc_layout_Slot : XC XN :=
(.seq none
 (.reg [⟨none, some 2, [(.tmp 0)], ⟨.lb 2 7, rAny xl_layout_Slot (.lb 2 7)⟩⟩,
  ⟨none, some 4, [(.const (.int .i64 0))], ⟨.f fMove, rMove⟩⟩])
 (.seq none
 (.reg [⟨none, some 5, [(.tmp 2)], ⟨.f (fFld 0), rFld 0⟩⟩,
  ⟨none, some 6, [(.tmp 5)], ⟨.lr 2 1 false, rLr1 2⟩⟩,
  ⟨none, some 7, [(.const (.int .i64 6)), (.tmp 6)], ⟨.f (fBin .add .no), rAdd⟩⟩,
  ⟨none, some 8, [(.tmp 1)], ⟨.f fMove, rMove⟩⟩,
  ⟨none, some 9, [(.const (.int .i64 2)), (.tmp 8)], ⟨.f (fBin .mul .no), rMul⟩⟩,
  ⟨none, some 10, [(.tmp 7), (.tmp 9)], ⟨.f (fBin .add .no), rAdd⟩⟩,
  ⟨none, some 4, [(.tmp 10)], ⟨.f fMove, rMove⟩⟩])
 .ret))
noncomputable def v_layout_Slot : EvF := evFn 2 xc_layout_Slot [.t 4]
theorem xt_layout_Slot : toC cx_layout_Slot (bodyOf Try.f18) = some (xc_layout_Slot.map XN.sm) := by kernel_rfl
theorem xr_layout_Slot : toR cx_layout_Slot Try.f18.results.toList = some [.t 4] := by kernel_rfl
theorem xo_layout_Slot : xc_layout_Slot.ok xl_layout_Slot := ⟨⟨rAny_ok (trivial), rMove_ok, trivial⟩, ⟨⟨rFld_ok _, rLr1_ok _, rAdd_ok, rMove_ok, rMul_ok, rAdd_ok, rMove_ok, trivial⟩, trivial⟩⟩
theorem ve_layout_Slot : EvOk s_layout_Slot v_layout_Slot := EvOk.of (evFn_sound (C := cx_layout_Slot) xt_layout_Slot xr_layout_Slot xo_layout_Slot) q_layout_Slot
attribute [irreducible] w_layout_Slot s_layout_Slot
def w_word_fit (a0 a1 : Value) (K : Value → Mem → Prop) (σ : Mem) : Prop :=
xF fMove [(.int .u64 0)] fun v4 =>
xF fMove [a0] fun v5 =>
xF fMax [v5, (.int .i64 0)] fun v6 =>
xF fMove [a1] fun v7 =>
xF fMin [v6, v7] fun v8 =>
xF (fConv .u64) [v8] fun v9 =>
xF fMove [v9] fun v4 =>
K v4 σ
def s_word_fit : Spec := fun args K σ => match args with
  | [a0, a1] => w_word_fit a0 a1 K σ
  | _ => False
noncomputable def cx_word_fit : Cx := { P := Try.prog, T := [], loc := [], eqt := [], n := 10, keep := [] }
theorem q_word_fit : FnS cx_word_fit Try.f48 (bodyOf Try.f48) 2 = s_word_fit := by
  funext args K σ
  rcases args with _ | ⟨a0, _ | ⟨a1, _ | ⟨b, r⟩⟩⟩ <;> kernel_rfl
theorem e_word_fit : Entry Try.prog 48 .none s_word_fit :=
  entry (C := cx_word_fit) TOk.nil mixedOk Try.func48 (by kernel_rfl) (by kernel_rfl) (by kernel_rfl) q_word_fit
def xl_word_fit : List (Nat × Nat) := []
noncomputable def xc_word_fit : XC XN :=
(.seq none
 (.reg [⟨none, some 4, [(.const (.int .u64 0))], ⟨.f fMove, rMove⟩⟩])
 (.seq none
 (.reg [⟨none, some 5, [(.tmp 0)], ⟨.f fMove, rMove⟩⟩,
  ⟨none, some 6, [(.tmp 5), (.const (.int .i64 0))], ⟨.f fMax, rAny xl_word_fit (.f fMax)⟩⟩,
  ⟨none, some 7, [(.tmp 1)], ⟨.f fMove, rMove⟩⟩,
  ⟨none, some 8, [(.tmp 6), (.tmp 7)], ⟨.f fMin, rAny xl_word_fit (.f fMin)⟩⟩,
  ⟨none, some 9, [(.tmp 8)], ⟨.f (fConv .u64), rConv .u64⟩⟩,
  ⟨none, some 4, [(.tmp 9)], ⟨.f fMove, rMove⟩⟩])
 .ret))
noncomputable def v_word_fit : EvF := evFn 2 xc_word_fit [.t 4]
theorem xt_word_fit : toC cx_word_fit (bodyOf Try.f48) = some (xc_word_fit.map XN.sm) := by kernel_rfl
theorem xr_word_fit : toR cx_word_fit Try.f48.results.toList = some [.t 4] := by kernel_rfl
theorem xo_word_fit : xc_word_fit.ok xl_word_fit := ⟨⟨rMove_ok, trivial⟩, ⟨⟨rMove_ok, rAny_ok (eqv_max), rMove_ok, rAny_ok (eqv_min), rConv_ok _, rMove_ok, trivial⟩, trivial⟩⟩
theorem ve_word_fit : EvOk s_word_fit v_word_fit := EvOk.of (evFn_sound (C := cx_word_fit) xt_word_fit xr_word_fit xo_word_fit) q_word_fit
attribute [irreducible] w_word_fit s_word_fit
def w_word_PutSlot (a0 : Value) (K : Value → Mem → Prop) (σ : Mem) : Prop :=
xC (gBox 4 [a0] []) fun c1 =>
xF fMove [(.int .u64 0)] fun v2 =>
xF (fFld 0) [(locP 1)] fun v3 =>
xO (gLoad 1 false [v3] c1) fun v4 =>
s_word_fit [v4, (.int .i64 7)] (fun v5 σ =>
xF (fFld 1) [(locP 1)] fun v6 =>
xO (gLoad 1 false [v6] c1) fun v7 =>
s_word_fit [v7, (.int .i64 1048575)] (fun v8 σ =>
xF (fBin .shl .no) [v8, (.int .u64 3)] fun v9 =>
xF (fBin .or .no) [v5, v9] fun v10 =>
xF (fFld 2) [(locP 1)] fun v11 =>
xO (gLoad 1 false [v11] c1) fun v12 =>
s_word_fit [v12, (.int .i64 65535)] (fun v13 σ =>
xF (fBin .shl .no) [v13, (.int .u64 23)] fun v14 =>
xF (fBin .or .no) [v10, v14] fun v15 =>
xF (fFld 3) [(locP 1)] fun v16 =>
xO (gLoad 1 false [v16] c1) fun v17 =>
s_word_fit [v17, (.int .i64 4194303)] (fun v18 σ =>
xF (fBin .shl .no) [v18, (.int .u64 39)] fun v19 =>
xF (fBin .or .no) [v15, v19] fun v20 =>
xF fMove [v20] fun v2 =>
K v2 σ) σ) σ) σ) σ
def s_word_PutSlot : Spec := fun args K σ => match args with
  | [a0] => w_word_PutSlot a0 K σ
  | _ => False
noncomputable def cx_word_PutSlot : Cx := { P := Try.prog, T := [(48, .none, s_word_fit)], loc := [(1, 1), (3, 1), (6, 1), (11, 1), (16, 1)], eqt := [], n := 21, keep := [] }
theorem q_word_PutSlot : FnS cx_word_PutSlot Try.f22 (bodyOf Try.f22) 1 = s_word_PutSlot := by
  funext args K σ
  rcases args with _ | ⟨a0, _ | ⟨b, r⟩⟩ <;> kernel_rfl
theorem e_word_PutSlot : Entry Try.prog 22 .none s_word_PutSlot :=
  entry (C := cx_word_PutSlot) (TOk.cons e_word_fit TOk.nil) mixedOk Try.func22 (by kernel_rfl) (by kernel_rfl) (by kernel_rfl) q_word_PutSlot
def xl_word_PutSlot : List (Nat × Nat) := [(1, 1), (3, 1), (6, 1), (11, 1), (16, 1)]
noncomputable def xc_word_PutSlot : XC XN :=
(.seq none
 (.reg [⟨none, some 1, [(.tmp 0)], ⟨.lb 1 4, rAny xl_word_PutSlot (.lb 1 4)⟩⟩,
  ⟨none, some 2, [(.const (.int .u64 0))], ⟨.f fMove, rMove⟩⟩])
 (.seq none
 (.reg [⟨none, some 3, [(.tmp 1)], ⟨.f (fFld 0), rFld 0⟩⟩,
  ⟨none, some 4, [(.tmp 3)], ⟨.lr 1 1 false, rLr1 1⟩⟩,
  ⟨none, some 5, [(.tmp 4), (.const (.int .i64 7))], ⟨.call .none s_word_fit v_word_fit, rCall v_word_fit⟩⟩,
  ⟨none, some 6, [(.tmp 1)], ⟨.f (fFld 1), rFld 1⟩⟩,
  ⟨none, some 7, [(.tmp 6)], ⟨.lr 1 1 false, rLr1 1⟩⟩,
  ⟨none, some 8, [(.tmp 7), (.const (.int .i64 1048575))], ⟨.call .none s_word_fit v_word_fit, rCall v_word_fit⟩⟩,
  ⟨none, some 9, [(.tmp 8), (.const (.int .u64 3))], ⟨.f (fBin .shl .no), rAny xl_word_PutSlot (.f (fBin .shl .no))⟩⟩,
  ⟨none, some 10, [(.tmp 5), (.tmp 9)], ⟨.f (fBin .or .no), rAny xl_word_PutSlot (.f (fBin .or .no))⟩⟩,
  ⟨none, some 11, [(.tmp 1)], ⟨.f (fFld 2), rFld 2⟩⟩,
  ⟨none, some 12, [(.tmp 11)], ⟨.lr 1 1 false, rLr1 1⟩⟩,
  ⟨none, some 13, [(.tmp 12), (.const (.int .i64 65535))], ⟨.call .none s_word_fit v_word_fit, rCall v_word_fit⟩⟩,
  ⟨none, some 14, [(.tmp 13), (.const (.int .u64 23))], ⟨.f (fBin .shl .no), rAny xl_word_PutSlot (.f (fBin .shl .no))⟩⟩,
  ⟨none, some 15, [(.tmp 10), (.tmp 14)], ⟨.f (fBin .or .no), rAny xl_word_PutSlot (.f (fBin .or .no))⟩⟩,
  ⟨none, some 16, [(.tmp 1)], ⟨.f (fFld 3), rFld 3⟩⟩,
  ⟨none, some 17, [(.tmp 16)], ⟨.lr 1 1 false, rLr1 1⟩⟩,
  ⟨none, some 18, [(.tmp 17), (.const (.int .i64 4194303))], ⟨.call .none s_word_fit v_word_fit, rCall v_word_fit⟩⟩,
  ⟨none, some 19, [(.tmp 18), (.const (.int .u64 39))], ⟨.f (fBin .shl .no), rAny xl_word_PutSlot (.f (fBin .shl .no))⟩⟩,
  ⟨none, some 20, [(.tmp 15), (.tmp 19)], ⟨.f (fBin .or .no), rAny xl_word_PutSlot (.f (fBin .or .no))⟩⟩,
  ⟨none, some 2, [(.tmp 20)], ⟨.f fMove, rMove⟩⟩])
 .ret))
noncomputable def v_word_PutSlot : EvF := evFn 1 xc_word_PutSlot [.t 2]
theorem xt_word_PutSlot : toC cx_word_PutSlot (bodyOf Try.f22) = some (xc_word_PutSlot.map XN.sm) := by kernel_rfl
theorem xr_word_PutSlot : toR cx_word_PutSlot Try.f22.results.toList = some [.t 2] := by kernel_rfl
theorem xo_word_PutSlot : xc_word_PutSlot.ok xl_word_PutSlot := ⟨⟨rAny_ok (trivial), rMove_ok, trivial⟩, ⟨⟨rFld_ok _, rLr1_ok _, rCall_ok ve_word_fit, rFld_ok _, rLr1_ok _, rCall_ok ve_word_fit, rAny_ok (eqv_bin _ _), rAny_ok (eqv_bin _ _), rFld_ok _, rLr1_ok _, rCall_ok ve_word_fit, rAny_ok (eqv_bin _ _), rAny_ok (eqv_bin _ _), rFld_ok _, rLr1_ok _, rCall_ok ve_word_fit, rAny_ok (eqv_bin _ _), rAny_ok (eqv_bin _ _), rMove_ok, trivial⟩, trivial⟩⟩
theorem ve_word_PutSlot : EvOk s_word_PutSlot v_word_PutSlot := EvOk.of (evFn_sound (C := cx_word_PutSlot) xt_word_PutSlot xr_word_PutSlot xo_word_PutSlot) q_word_PutSlot
attribute [irreducible] w_word_PutSlot s_word_PutSlot
def w_mem_Mem_step_j1b (K : Value → Mem → Prop) (v0 v1 v19 : Value) (σ : Mem) : Prop :=
xIf v19
 (xF fMove [(.bool false)] fun v4 =>
K v4 σ)
 (xF fMove [v0] fun v20 =>
xF fNil [v20] fun v21 =>
xF (fFld 2) [v21] fun v22 =>
hLoad 1 false [v22] (fun v23 σ =>
xF (fBin .add .no) [v23, (.int .i64 1)] fun v24 =>
xF fNil [v20] fun v25 =>
xF (fFld 2) [v25] fun v26 =>
hStore 1 [v26, v24] (fun _v σ =>
xF fMove [v0] fun v27 =>
xF fMove [v1] fun v28 =>
xF fMove [v0] fun v29 =>
xF fNil [v29] fun v30 =>
xF (fFld 3) [v30] fun v31 =>
hLoad 1 false [v31] (fun v32 σ =>
xF (fBuild [(0, 1), (1, 1), (2, 1)] [(.int .i64 0), (.int .i64 0), (.bool false)] [0, 1]) [v28, v32] fun v33 =>
xF fNil [v27] fun v34 =>
xF (fFld 4) [v34] fun v35 =>
hStore 3 [v35, v33] (fun _v σ =>
xF fMove [(.bool true)] fun v4 =>
K v4 σ) σ) σ) σ) σ)
def w_mem_Mem_step_j1 (K : Value → Mem → Prop) (ts : List Value) (ls : List (List Value)) (σ : Mem) : Prop := w_mem_Mem_step_j1b K (ts.getD 0 poison) (ts.getD 1 poison) (ts.getD 2 poison) σ
def w_mem_Mem_step (a0 a1 : Value) (K : Value → Mem → Prop) (σ : Mem) : Prop :=
xF fMove [(.bool false)] fun v4 =>
xJoin (w_mem_Mem_step_j1 K) fun J1 =>
xF fMove [a0] fun v5 =>
xF (fBin .eql .ptr) [v5, (.pointer none)] fun v6 =>
xF fMove [v6] fun v7 =>
xIf v7
 (xF fPick [(.bool true), (.bool true), undef] fun v10 =>
xF fMove [v10] fun v11 =>
xIf v11
 (xF fPick [(.bool true), (.bool true), undef] fun v19 =>
J1 [a0, a1, v19] [] σ)
 (xF fMove [a1] fun v12 =>
xF fMove [a0] fun v13 =>
xF fNil [v13] fun v14 =>
xF (fFld 0) [v14] fun v15 =>
hLoad 1 false [v15] (fun v16 σ =>
xF fLen [v16] fun v17 =>
xF (fBin .geq .no) [v12, v17] fun v18 =>
xF fPick [(.bool false), (.bool true), v18] fun v19 =>
J1 [a0, a1, v19] [] σ) σ))
 (xF fMove [a1] fun v8 =>
xF (fBin .lss .no) [v8, (.int .i64 0)] fun v9 =>
xF fPick [(.bool false), (.bool true), v9] fun v10 =>
xF fMove [v10] fun v11 =>
xIf v11
 (xF fPick [(.bool true), (.bool true), undef] fun v19 =>
J1 [a0, a1, v19] [] σ)
 (xF fMove [a1] fun v12 =>
xF fMove [a0] fun v13 =>
xF fNil [v13] fun v14 =>
xF (fFld 0) [v14] fun v15 =>
hLoad 1 false [v15] (fun v16 σ =>
xF fLen [v16] fun v17 =>
xF (fBin .geq .no) [v12, v17] fun v18 =>
xF fPick [(.bool false), (.bool true), v18] fun v19 =>
J1 [a0, a1, v19] [] σ) σ))
def s_mem_Mem_step : Spec := fun args K σ => match args with
  | [a0, a1] => w_mem_Mem_step a0 a1 K σ
  | _ => False
noncomputable def cx_mem_Mem_step : Cx := { P := Try.prog, T := [], loc := [], eqt := [(25, .ptr)], n := 36, keep := [(1000003, [0, 1, 19], [])] }
theorem q_mem_Mem_step : FnS cx_mem_Mem_step Try.f46 (bodyOf Try.f46) 2 = s_mem_Mem_step := by
  funext args K σ
  rcases args with _ | ⟨a0, _ | ⟨a1, _ | ⟨b, r⟩⟩⟩ <;> kernel_rfl
theorem e_mem_Mem_step : Entry Try.prog 46 .write s_mem_Mem_step :=
  entry (C := cx_mem_Mem_step) TOk.nil mixedOk Try.func46 (by kernel_rfl) (by kernel_rfl) (by kernel_rfl) q_mem_Mem_step
def xl_mem_Mem_step : List (Nat × Nat) := []
noncomputable def xc_mem_Mem_step : XC XN :=
(.seq none
 (.reg [⟨none, some 4, [(.const (.bool false))], ⟨.f fMove, rMove⟩⟩])
 (.seq none
 (.seq (some ([0, 1, 19], []))
 (.reg [⟨none, some 5, [(.tmp 0)], ⟨.f fMove, rMove⟩⟩,
  ⟨none, some 6, [(.tmp 5), (.const (.pointer none))], ⟨.f (fBin .eql .ptr), rAny xl_mem_Mem_step (.f (fBin .eql .ptr))⟩⟩,
  ⟨none, some 7, [(.tmp 6)], ⟨.f fMove, rMove⟩⟩,
  ⟨(some (3, 2, false, some 7)), some 8, [(.tmp 1)], ⟨.f fMove, rMove⟩⟩,
  ⟨(some (4, 2, false, some 7)), some 9, [(.tmp 8), (.const (.int .i64 0))], ⟨.f (fBin .lss .no), rLss⟩⟩,
  ⟨none, some 10, [(.tmp 7), (.const (.bool true)), (.tmp 9)], ⟨.f fPick, rPick⟩⟩,
  ⟨none, some 11, [(.tmp 10)], ⟨.f fMove, rMove⟩⟩,
  ⟨(some (7, 6, false, some 11)), some 12, [(.tmp 1)], ⟨.f fMove, rMove⟩⟩,
  ⟨(some (8, 6, false, some 11)), some 13, [(.tmp 0)], ⟨.f fMove, rMove⟩⟩,
  ⟨(some (9, 6, false, some 11)), some 14, [(.tmp 13)], ⟨.f fNil, rNil⟩⟩,
  ⟨(some (10, 6, false, some 11)), some 15, [(.tmp 14)], ⟨.f (fFld 0), rFld 0⟩⟩,
  ⟨(some (11, 6, false, some 11)), some 16, [(.tmp 15)], ⟨.load 1 false, rLoad1⟩⟩,
  ⟨(some (12, 6, false, some 11)), some 17, [(.tmp 16)], ⟨.f fLen, rAny xl_mem_Mem_step (.f fLen)⟩⟩,
  ⟨(some (13, 6, false, some 11)), some 18, [(.tmp 12), (.tmp 17)], ⟨.f (fBin .geq .no), rGeq⟩⟩,
  ⟨none, some 19, [(.tmp 11), (.const (.bool true)), (.tmp 18)], ⟨.f fPick, rPick⟩⟩])
 (.cond (.tmp 19)
 (.seq none
 (.reg [⟨none, some 4, [(.const (.bool false))], ⟨.f fMove, rMove⟩⟩])
 .ret)
 .skip))
 (.seq none
 (.reg [⟨none, some 20, [(.tmp 0)], ⟨.f fMove, rMove⟩⟩,
  ⟨none, some 21, [(.tmp 20)], ⟨.f fNil, rNil⟩⟩,
  ⟨none, some 22, [(.tmp 21)], ⟨.f (fFld 2), rFld 2⟩⟩,
  ⟨none, some 23, [(.tmp 22)], ⟨.load 1 false, rLoad1⟩⟩,
  ⟨none, some 24, [(.tmp 23), (.const (.int .i64 1))], ⟨.f (fBin .add .no), rAdd⟩⟩,
  ⟨none, some 25, [(.tmp 20)], ⟨.f fNil, rNil⟩⟩,
  ⟨none, some 26, [(.tmp 25)], ⟨.f (fFld 2), rFld 2⟩⟩,
  ⟨none, none, [(.tmp 26), (.tmp 24)], ⟨.store 1, rStore1⟩⟩])
 (.seq none
 (.reg [⟨none, some 27, [(.tmp 0)], ⟨.f fMove, rMove⟩⟩,
  ⟨none, some 28, [(.tmp 1)], ⟨.f fMove, rMove⟩⟩,
  ⟨none, some 29, [(.tmp 0)], ⟨.f fMove, rMove⟩⟩,
  ⟨none, some 30, [(.tmp 29)], ⟨.f fNil, rNil⟩⟩,
  ⟨none, some 31, [(.tmp 30)], ⟨.f (fFld 3), rFld 3⟩⟩,
  ⟨none, some 32, [(.tmp 31)], ⟨.load 1 false, rLoad1⟩⟩,
  ⟨none, some 33, [(.tmp 28), (.tmp 32)], ⟨.f (fBuild [(0, 1), (1, 1), (2, 1)] [(.int .i64 0), (.int .i64 0), (.bool false)] [0, 1]), rAny xl_mem_Mem_step (.f (fBuild [(0, 1), (1, 1), (2, 1)] [(.int .i64 0), (.int .i64 0), (.bool false)] [0, 1]))⟩⟩,
  ⟨none, some 34, [(.tmp 27)], ⟨.f fNil, rNil⟩⟩,
  ⟨none, some 35, [(.tmp 34)], ⟨.f (fFld 4), rFld 4⟩⟩,
  ⟨none, none, [(.tmp 35), (.tmp 33)], ⟨.store 3, rAny xl_mem_Mem_step (.store 3)⟩⟩])
 (.seq none
 (.reg [⟨none, some 4, [(.const (.bool true))], ⟨.f fMove, rMove⟩⟩])
 .ret)))))
noncomputable def v_mem_Mem_step : EvF := evFn 2 xc_mem_Mem_step [.t 4]
theorem xt_mem_Mem_step : toC cx_mem_Mem_step (bodyOf Try.f46) = some (xc_mem_Mem_step.map XN.sm) := by kernel_rfl
theorem xr_mem_Mem_step : toR cx_mem_Mem_step Try.f46.results.toList = some [.t 4] := by kernel_rfl
theorem xo_mem_Mem_step : xc_mem_Mem_step.ok xl_mem_Mem_step := ⟨⟨rMove_ok, trivial⟩, ⟨⟨⟨rMove_ok, rAny_ok (eqv_bin _ _), rMove_ok, rMove_ok, rLss_ok, rPick_ok, rMove_ok, rMove_ok, rMove_ok, rNil_ok, rFld_ok _, rLoad1_ok, rAny_ok (eqv_len), rGeq_ok, rPick_ok, trivial⟩, ⟨⟨⟨rMove_ok, trivial⟩, trivial⟩, trivial⟩⟩, ⟨⟨rMove_ok, rNil_ok, rFld_ok _, rLoad1_ok, rAdd_ok, rNil_ok, rFld_ok _, rStore1_ok, trivial⟩, ⟨⟨rMove_ok, rMove_ok, rMove_ok, rNil_ok, rFld_ok _, rLoad1_ok, rAny_ok (eqv_build _ rfl _), rNil_ok, rFld_ok _, rAny_ok (trivial), trivial⟩, ⟨⟨rMove_ok, trivial⟩, trivial⟩⟩⟩⟩⟩
theorem ve_mem_Mem_step : EvOk s_mem_Mem_step v_mem_Mem_step := EvOk.of (evFn_sound (C := cx_mem_Mem_step) xt_mem_Mem_step xr_mem_Mem_step xo_mem_Mem_step) q_mem_Mem_step
attribute [irreducible] w_mem_Mem_step_j1b w_mem_Mem_step_j1 w_mem_Mem_step s_mem_Mem_step
def w_mem_Mem_set_j1b (K : Value → Mem → Prop) (v0 v1 v2 : Value) (σ : Mem) : Prop :=
xF fMove [v0] fun v34 =>
xF fNil [v34] fun v35 =>
xF (fFld 0) [v35] fun v36 =>
hLoad 1 false [v36] (fun v37 σ =>
xF fMove [v1] fun v38 =>
xF fMove [v2] fun v39 =>
xF (fIxS 1) [v37, v38] fun v40 =>
hStore 1 [v40, v39] (fun _v σ =>
K (.tuple #[]) σ) σ) σ
def w_mem_Mem_set_j1 (K : Value → Mem → Prop) (ts : List Value) (ls : List (List Value)) (σ : Mem) : Prop := w_mem_Mem_set_j1b K (ts.getD 0 poison) (ts.getD 1 poison) (ts.getD 2 poison) σ
def w_mem_Mem_set (a0 a1 a2 : Value) (K : Value → Mem → Prop) (σ : Mem) : Prop :=
xJoin (w_mem_Mem_set_j1 K) fun J1 =>
xF fMove [a0] fun v6 =>
xF fMove [a0] fun v7 =>
xF fNil [v7] fun v8 =>
xF (fFld 0) [v8] fun v9 =>
hLoad 1 false [v9] (fun v10 σ =>
xF fMove [a1] fun v11 =>
xF (fIxS 1) [v10, v11] fun v12 =>
hLoad 1 false [v12] (fun v13 σ =>
xF fMove [a2] fun v14 =>
xF (fBin .neq .no) [v13, v14] fun v15 =>
xF fNil [v6] fun v16 =>
xF (fFld 4) [v16] fun v17 =>
xF (fFld 2) [v17] fun v18 =>
hStore 1 [v18, v15] (fun _v σ =>
xF fMove [a0] fun v19 =>
xF fNil [v19] fun v20 =>
xF (fFld 4) [v20] fun v21 =>
xF (fFld 2) [v21] fun v22 =>
hLoad 1 false [v22] (fun v23 σ =>
xIf v23
 (xF fMove [a0] fun v24 =>
xF fNil [v24] fun v25 =>
xF (fFld 1) [v25] fun v26 =>
hLoad 1 false [v26] (fun v27 σ =>
xF fMove [a1] fun v28 =>
xF fMove [a0] fun v29 =>
xF fNil [v29] fun v30 =>
xF (fFld 2) [v30] fun v31 =>
hLoad 1 false [v31] (fun v32 σ =>
xF (fIxS 1) [v27, v28] fun v33 =>
hStore 1 [v33, v32] (fun _v σ =>
J1 [a0, a1, a2] [] σ) σ) σ) σ)
 (J1 [a0, a1, a2] [] σ)) σ) σ) σ) σ
def s_mem_Mem_set : Spec := fun args K σ => match args with
  | [a0, a1, a2] => w_mem_Mem_set a0 a1 a2 K σ
  | _ => False
noncomputable def cx_mem_Mem_set : Cx := { P := Try.prog, T := [], loc := [], eqt := [], n := 41, keep := [(1000004, [0, 1, 2], [])] }
theorem q_mem_Mem_set : FnS cx_mem_Mem_set Try.f47 (bodyOf Try.f47) 3 = s_mem_Mem_set := by
  funext args K σ
  rcases args with _ | ⟨a0, _ | ⟨a1, _ | ⟨a2, _ | ⟨b, r⟩⟩⟩⟩ <;> kernel_rfl
theorem e_mem_Mem_set : Entry Try.prog 47 .write s_mem_Mem_set :=
  entry (C := cx_mem_Mem_set) TOk.nil mixedOk Try.func47 (by kernel_rfl) (by kernel_rfl) (by kernel_rfl) q_mem_Mem_set
def xl_mem_Mem_set : List (Nat × Nat) := []
noncomputable def xc_mem_Mem_set : XC XN :=
(.seq (some ([0, 1, 2], []))
 (.seq none
 (.reg [⟨none, some 6, [(.tmp 0)], ⟨.f fMove, rMove⟩⟩,
  ⟨none, some 7, [(.tmp 0)], ⟨.f fMove, rMove⟩⟩,
  ⟨none, some 8, [(.tmp 7)], ⟨.f fNil, rNil⟩⟩,
  ⟨none, some 9, [(.tmp 8)], ⟨.f (fFld 0), rFld 0⟩⟩,
  ⟨none, some 10, [(.tmp 9)], ⟨.load 1 false, rLoad1⟩⟩,
  ⟨none, some 11, [(.tmp 1)], ⟨.f fMove, rMove⟩⟩,
  ⟨none, some 12, [(.tmp 10), (.tmp 11)], ⟨.f (fIxS 1), rIxS 1⟩⟩,
  ⟨none, some 13, [(.tmp 12)], ⟨.load 1 false, rLoad1⟩⟩,
  ⟨none, some 14, [(.tmp 2)], ⟨.f fMove, rMove⟩⟩,
  ⟨none, some 15, [(.tmp 13), (.tmp 14)], ⟨.f (fBin .neq .no), rNeq⟩⟩,
  ⟨none, some 16, [(.tmp 6)], ⟨.f fNil, rNil⟩⟩,
  ⟨none, some 17, [(.tmp 16)], ⟨.f (fFld 4), rFld 4⟩⟩,
  ⟨none, some 18, [(.tmp 17)], ⟨.f (fFld 2), rFld 2⟩⟩,
  ⟨none, none, [(.tmp 18), (.tmp 15)], ⟨.store 1, rStore1⟩⟩])
 (.seq none
 (.reg [⟨none, some 19, [(.tmp 0)], ⟨.f fMove, rMove⟩⟩,
  ⟨none, some 20, [(.tmp 19)], ⟨.f fNil, rNil⟩⟩,
  ⟨none, some 21, [(.tmp 20)], ⟨.f (fFld 4), rFld 4⟩⟩,
  ⟨none, some 22, [(.tmp 21)], ⟨.f (fFld 2), rFld 2⟩⟩,
  ⟨none, some 23, [(.tmp 22)], ⟨.load 1 false, rLoad1⟩⟩])
 (.cond (.tmp 23)
 (.reg [⟨none, some 24, [(.tmp 0)], ⟨.f fMove, rMove⟩⟩,
  ⟨none, some 25, [(.tmp 24)], ⟨.f fNil, rNil⟩⟩,
  ⟨none, some 26, [(.tmp 25)], ⟨.f (fFld 1), rFld 1⟩⟩,
  ⟨none, some 27, [(.tmp 26)], ⟨.load 1 false, rLoad1⟩⟩,
  ⟨none, some 28, [(.tmp 1)], ⟨.f fMove, rMove⟩⟩,
  ⟨none, some 29, [(.tmp 0)], ⟨.f fMove, rMove⟩⟩,
  ⟨none, some 30, [(.tmp 29)], ⟨.f fNil, rNil⟩⟩,
  ⟨none, some 31, [(.tmp 30)], ⟨.f (fFld 2), rFld 2⟩⟩,
  ⟨none, some 32, [(.tmp 31)], ⟨.load 1 false, rLoad1⟩⟩,
  ⟨none, some 33, [(.tmp 27), (.tmp 28)], ⟨.f (fIxS 1), rIxS 1⟩⟩,
  ⟨none, none, [(.tmp 33), (.tmp 32)], ⟨.store 1, rStore1⟩⟩])
 .skip)))
 (.reg [⟨none, some 34, [(.tmp 0)], ⟨.f fMove, rMove⟩⟩,
  ⟨none, some 35, [(.tmp 34)], ⟨.f fNil, rNil⟩⟩,
  ⟨none, some 36, [(.tmp 35)], ⟨.f (fFld 0), rFld 0⟩⟩,
  ⟨none, some 37, [(.tmp 36)], ⟨.load 1 false, rLoad1⟩⟩,
  ⟨none, some 38, [(.tmp 1)], ⟨.f fMove, rMove⟩⟩,
  ⟨none, some 39, [(.tmp 2)], ⟨.f fMove, rMove⟩⟩,
  ⟨none, some 40, [(.tmp 37), (.tmp 38)], ⟨.f (fIxS 1), rIxS 1⟩⟩,
  ⟨none, none, [(.tmp 40), (.tmp 39)], ⟨.store 1, rStore1⟩⟩]))
noncomputable def v_mem_Mem_set : EvF := evFn 3 xc_mem_Mem_set []
theorem xt_mem_Mem_set : toC cx_mem_Mem_set (bodyOf Try.f47) = some (xc_mem_Mem_set.map XN.sm) := by kernel_rfl
theorem xr_mem_Mem_set : toR cx_mem_Mem_set Try.f47.results.toList = some [] := by kernel_rfl
theorem xo_mem_Mem_set : xc_mem_Mem_set.ok xl_mem_Mem_set := ⟨⟨⟨rMove_ok, rMove_ok, rNil_ok, rFld_ok _, rLoad1_ok, rMove_ok, rIxS_ok _, rLoad1_ok, rMove_ok, rNeq_ok, rNil_ok, rFld_ok _, rFld_ok _, rStore1_ok, trivial⟩, ⟨⟨rMove_ok, rNil_ok, rFld_ok _, rFld_ok _, rLoad1_ok, trivial⟩, ⟨⟨rMove_ok, rNil_ok, rFld_ok _, rLoad1_ok, rMove_ok, rMove_ok, rNil_ok, rFld_ok _, rLoad1_ok, rIxS_ok _, rStore1_ok, trivial⟩, trivial⟩⟩⟩, ⟨rMove_ok, rNil_ok, rFld_ok _, rLoad1_ok, rMove_ok, rMove_ok, rIxS_ok _, rStore1_ok, trivial⟩⟩
theorem ve_mem_Mem_set : EvOk s_mem_Mem_set v_mem_Mem_set := EvOk.of (evFn_sound (C := cx_mem_Mem_set) xt_mem_Mem_set xr_mem_Mem_set xo_mem_Mem_set) q_mem_Mem_set
attribute [irreducible] w_mem_Mem_set_j1b w_mem_Mem_set_j1 w_mem_Mem_set s_mem_Mem_set
def w_mem_Mem_Store (a0 a1 a2 : Value) (K : Value → Mem → Prop) (σ : Mem) : Prop :=
xF fMove [(.int .i64 0)] fun v6 =>
xF fMove [a0] fun v7 =>
xF fMove [a1] fun v8 =>
s_mem_Mem_step [v7, v8] (fun v9 σ =>
xF (fUn .not) [v9] fun v10 =>
xIf v10
 (xF fMove [(.int .i64 2)] fun v6 =>
K v6 σ)
 (xF fMove [a0] fun v11 =>
xF fMove [a1] fun v12 =>
xF fMove [a2] fun v13 =>
s_mem_Mem_set [v11, v12, v13] (fun v14 σ =>
xF fMove [(.int .i64 0)] fun v6 =>
K v6 σ) σ)) σ
def s_mem_Mem_Store : Spec := fun args K σ => match args with
  | [a0, a1, a2] => w_mem_Mem_Store a0 a1 a2 K σ
  | _ => False
noncomputable def cx_mem_Mem_Store : Cx := { P := Try.prog, T := [(46, .write, s_mem_Mem_step), (47, .write, s_mem_Mem_set)], loc := [], eqt := [], n := 15, keep := [] }
theorem q_mem_Mem_Store : FnS cx_mem_Mem_Store Try.f21 (bodyOf Try.f21) 3 = s_mem_Mem_Store := by
  funext args K σ
  rcases args with _ | ⟨a0, _ | ⟨a1, _ | ⟨a2, _ | ⟨b, r⟩⟩⟩⟩ <;> kernel_rfl
theorem e_mem_Mem_Store : Entry Try.prog 21 .write s_mem_Mem_Store :=
  entry (C := cx_mem_Mem_Store) (TOk.cons e_mem_Mem_step (TOk.cons e_mem_Mem_set TOk.nil)) mixedOk Try.func21 (by kernel_rfl) (by kernel_rfl) (by kernel_rfl) q_mem_Mem_Store
def xl_mem_Mem_Store : List (Nat × Nat) := []
noncomputable def xc_mem_Mem_Store : XC XN :=
(.seq none
 (.reg [⟨none, some 6, [(.const (.int .i64 0))], ⟨.f fMove, rMove⟩⟩])
 (.seq none
 (.seq none
 (.reg [⟨none, some 7, [(.tmp 0)], ⟨.f fMove, rMove⟩⟩,
  ⟨none, some 8, [(.tmp 1)], ⟨.f fMove, rMove⟩⟩,
  ⟨none, some 9, [(.tmp 7), (.tmp 8)], ⟨.call .write s_mem_Mem_step v_mem_Mem_step, rCall v_mem_Mem_step⟩⟩,
  ⟨none, some 10, [(.tmp 9)], ⟨.f (fUn .not), rNot⟩⟩])
 (.cond (.tmp 10)
 (.seq none
 (.reg [⟨none, some 6, [(.const (.int .i64 2))], ⟨.f fMove, rMove⟩⟩])
 .ret)
 .skip))
 (.seq none
 (.reg [⟨none, some 11, [(.tmp 0)], ⟨.f fMove, rMove⟩⟩,
  ⟨none, some 12, [(.tmp 1)], ⟨.f fMove, rMove⟩⟩,
  ⟨none, some 13, [(.tmp 2)], ⟨.f fMove, rMove⟩⟩,
  ⟨none, some 14, [(.tmp 11), (.tmp 12), (.tmp 13)], ⟨.call .write s_mem_Mem_set v_mem_Mem_set, rCall v_mem_Mem_set⟩⟩])
 (.seq none
 (.reg [⟨none, some 6, [(.const (.int .i64 0))], ⟨.f fMove, rMove⟩⟩])
 .ret))))
noncomputable def v_mem_Mem_Store : EvF := evFn 3 xc_mem_Mem_Store [.t 6]
theorem xt_mem_Mem_Store : toC cx_mem_Mem_Store (bodyOf Try.f21) = some (xc_mem_Mem_Store.map XN.sm) := by kernel_rfl
theorem xr_mem_Mem_Store : toR cx_mem_Mem_Store Try.f21.results.toList = some [.t 6] := by kernel_rfl
theorem xo_mem_Mem_Store : xc_mem_Mem_Store.ok xl_mem_Mem_Store := ⟨⟨rMove_ok, trivial⟩, ⟨⟨⟨rMove_ok, rMove_ok, rCall_ok ve_mem_Mem_step, rNot_ok, trivial⟩, ⟨⟨⟨rMove_ok, trivial⟩, trivial⟩, trivial⟩⟩, ⟨⟨rMove_ok, rMove_ok, rMove_ok, rCall_ok ve_mem_Mem_set, trivial⟩, ⟨⟨rMove_ok, trivial⟩, trivial⟩⟩⟩⟩
theorem ve_mem_Mem_Store : EvOk s_mem_Mem_Store v_mem_Mem_Store := EvOk.of (evFn_sound (C := cx_mem_Mem_Store) xt_mem_Mem_Store xr_mem_Mem_Store xo_mem_Mem_Store) q_mem_Mem_Store
attribute [irreducible] w_mem_Mem_Store s_mem_Mem_Store
def w_word_PutTop (a0 a1 : Value) (K : Value → Mem → Prop) (σ : Mem) : Prop :=
xF fMove [(.int .u64 0)] fun v4 =>
xF fMove [a0] fun v5 =>
xF fMin [v5, (.int .i64 65535)] fun v6 =>
xF (fBin .add .no) [v6, (.int .i64 1)] fun v7 =>
s_word_fit [v7, (.int .i64 65536)] (fun v8 σ =>
xF fMove [a1] fun v9 =>
s_word_fit [v9, (.int .i64 68719476735)] (fun v10 σ =>
xF (fBin .shl .no) [v10, (.int .u64 17)] fun v11 =>
xF (fBin .or .no) [v8, v11] fun v12 =>
xF fMove [v12] fun v4 =>
K v4 σ) σ) σ
def s_word_PutTop : Spec := fun args K σ => match args with
  | [a0, a1] => w_word_PutTop a0 a1 K σ
  | _ => False
noncomputable def cx_word_PutTop : Cx := { P := Try.prog, T := [(48, .none, s_word_fit)], loc := [], eqt := [], n := 13, keep := [] }
theorem q_word_PutTop : FnS cx_word_PutTop Try.f56 (bodyOf Try.f56) 2 = s_word_PutTop := by
  funext args K σ
  rcases args with _ | ⟨a0, _ | ⟨a1, _ | ⟨b, r⟩⟩⟩ <;> kernel_rfl
theorem e_word_PutTop : Entry Try.prog 56 .none s_word_PutTop :=
  entry (C := cx_word_PutTop) (TOk.cons e_word_fit TOk.nil) mixedOk Try.func56 (by kernel_rfl) (by kernel_rfl) (by kernel_rfl) q_word_PutTop
def xl_word_PutTop : List (Nat × Nat) := []
noncomputable def xc_word_PutTop : XC XN :=
(.seq none
 (.reg [⟨none, some 4, [(.const (.int .u64 0))], ⟨.f fMove, rMove⟩⟩])
 (.seq none
 (.reg [⟨none, some 5, [(.tmp 0)], ⟨.f fMove, rMove⟩⟩,
  ⟨none, some 6, [(.tmp 5), (.const (.int .i64 65535))], ⟨.f fMin, rAny xl_word_PutTop (.f fMin)⟩⟩,
  ⟨none, some 7, [(.tmp 6), (.const (.int .i64 1))], ⟨.f (fBin .add .no), rAdd⟩⟩,
  ⟨none, some 8, [(.tmp 7), (.const (.int .i64 65536))], ⟨.call .none s_word_fit v_word_fit, rCall v_word_fit⟩⟩,
  ⟨none, some 9, [(.tmp 1)], ⟨.f fMove, rMove⟩⟩,
  ⟨none, some 10, [(.tmp 9), (.const (.int .i64 68719476735))], ⟨.call .none s_word_fit v_word_fit, rCall v_word_fit⟩⟩,
  ⟨none, some 11, [(.tmp 10), (.const (.int .u64 17))], ⟨.f (fBin .shl .no), rAny xl_word_PutTop (.f (fBin .shl .no))⟩⟩,
  ⟨none, some 12, [(.tmp 8), (.tmp 11)], ⟨.f (fBin .or .no), rAny xl_word_PutTop (.f (fBin .or .no))⟩⟩,
  ⟨none, some 4, [(.tmp 12)], ⟨.f fMove, rMove⟩⟩])
 .ret))
noncomputable def v_word_PutTop : EvF := evFn 2 xc_word_PutTop [.t 4]
theorem xt_word_PutTop : toC cx_word_PutTop (bodyOf Try.f56) = some (xc_word_PutTop.map XN.sm) := by kernel_rfl
theorem xr_word_PutTop : toR cx_word_PutTop Try.f56.results.toList = some [.t 4] := by kernel_rfl
theorem xo_word_PutTop : xc_word_PutTop.ok xl_word_PutTop := ⟨⟨rMove_ok, trivial⟩, ⟨⟨rMove_ok, rAny_ok (eqv_min), rAdd_ok, rCall_ok ve_word_fit, rMove_ok, rCall_ok ve_word_fit, rAny_ok (eqv_bin _ _), rAny_ok (eqv_bin _ _), rMove_ok, trivial⟩, trivial⟩⟩
theorem ve_word_PutTop : EvOk s_word_PutTop v_word_PutTop := EvOk.of (evFn_sound (C := cx_word_PutTop) xt_word_PutTop xr_word_PutTop xo_word_PutTop) q_word_PutTop
attribute [irreducible] w_word_PutTop s_word_PutTop
def w_layout_Top (K : Value → Mem → Prop) (σ : Mem) : Prop :=
xF fMove [(.int .i64 0)] fun v0 =>
xF fMove [(.int .i64 1)] fun v0 =>
K v0 σ
def s_layout_Top : Spec := fun args K σ => match args with
  | [] => w_layout_Top  K σ
  | _ => False
noncomputable def cx_layout_Top : Cx := { P := Try.prog, T := [], loc := [], eqt := [], n := 1, keep := [] }
theorem q_layout_Top : FnS cx_layout_Top Try.f57 (bodyOf Try.f57) 0 = s_layout_Top := by
  funext args K σ
  rcases args with _ | ⟨b, r⟩ <;> kernel_rfl
theorem e_layout_Top : Entry Try.prog 57 .none s_layout_Top :=
  entry (C := cx_layout_Top) TOk.nil mixedOk Try.func57 (by kernel_rfl) (by kernel_rfl) (by kernel_rfl) q_layout_Top
def xl_layout_Top : List (Nat × Nat) := []
noncomputable def xc_layout_Top : XC XN :=
(.seq none
 (.reg [⟨none, some 0, [(.const (.int .i64 0))], ⟨.f fMove, rMove⟩⟩])
 (.seq none
 (.reg [⟨none, some 0, [(.const (.int .i64 1))], ⟨.f fMove, rMove⟩⟩])
 .ret))
noncomputable def v_layout_Top : EvF := evFn 0 xc_layout_Top [.t 0]
theorem xt_layout_Top : toC cx_layout_Top (bodyOf Try.f57) = some (xc_layout_Top.map XN.sm) := by kernel_rfl
theorem xr_layout_Top : toR cx_layout_Top Try.f57.results.toList = some [.t 0] := by kernel_rfl
theorem xo_layout_Top : xc_layout_Top.ok xl_layout_Top := ⟨⟨rMove_ok, trivial⟩, ⟨⟨rMove_ok, trivial⟩, trivial⟩⟩
theorem ve_layout_Top : EvOk s_layout_Top v_layout_Top := EvOk.of (evFn_sound (C := cx_layout_Top) xt_layout_Top xr_layout_Top xo_layout_Top) q_layout_Top
attribute [irreducible] w_layout_Top s_layout_Top
def w_layout_Fresh_j1b (K : Value → Mem → Prop) (v4 : Value) (c1 : List Value) (σ : Mem) : Prop :=
xF fMove [v4] fun v41 =>
xO (gLoad 7 true [(locP 1)] c1) fun v42 =>
xF (fFld 1) [(locP 1)] fun v43 =>
xO (gLoad 1 false [v43] c1) fun v44 =>
xF (fBin .sub .no) [v44, (.int .i64 1)] fun v45 =>
s_layout_Slot [v42, v45] (fun v46 σ =>
xF (fBin .add .no) [v46, (.int .i64 1)] fun v47 =>
s_word_PutTop [(.int .i64 (-1)), (.int .i64 0)] (fun v48 σ =>
s_mem_Mem_Store [v41, v47, v48] (fun v49 σ =>
xF fMove [v4] fun v50 =>
s_layout_Top [] (fun v51 σ =>
s_word_PutTop [(.int .i64 0), (.int .i64 0)] (fun v52 σ =>
s_mem_Mem_Store [v50, v51, v52] (fun v53 σ =>
xF fMove [v4] fun v54 =>
xF fMove [v54] fun v2 =>
xF fMove [(.int .i64 0)] fun v3 =>
K (.tuple #[v2, v3]) σ) σ) σ) σ) σ) σ) σ
def w_layout_Fresh_j1 (K : Value → Mem → Prop) (ts : List Value) (ls : List (List Value)) (σ : Mem) : Prop := w_layout_Fresh_j1b K (ts.getD 0 poison) (ls.getD 0 []) σ
def w_layout_Fresh_l8b (K : Value → Mem → Prop) (J1 : List Value → List (List Value) → Mem → Prop) (R1 : List Value → List (List Value) → Mem → Prop) (v4 v20 v21 : Value) (c1 : List Value) (σ : Mem) : Prop :=
xF (fBin .lss .no) [v21, v20] fun v22 =>
xIf v22
 (xF fMove [v21] fun v23 =>
xF fMove [v23] fun v6 =>
xF fMove [v4] fun v24 =>
xO (gLoad 7 true [(locP 1)] c1) fun v25 =>
xF fMove [v6] fun v26 =>
s_layout_Slot [v25, v26] (fun v27 σ =>
xF (fBuild [(0, 1), (1, 1), (2, 1), (3, 1)] [(.int .i64 0), (.int .i64 0), (.int .i64 0), (.int .i64 0)] [2]) [(.int .i64 1)] fun v28 =>
s_word_PutSlot [v28] (fun v29 σ =>
s_mem_Mem_Store [v24, v27, v29] (fun v30 σ =>
xF fMove [v4] fun v31 =>
xO (gLoad 7 true [(locP 1)] c1) fun v32 =>
xF fMove [v6] fun v33 =>
s_layout_Slot [v32, v33] (fun v34 σ =>
xF (fBin .add .no) [v34, (.int .i64 1)] fun v35 =>
xF fMove [v6] fun v36 =>
xF (fBin .add .no) [v36, (.int .i64 1)] fun v37 =>
s_word_PutTop [v37, (.int .i64 0)] (fun v38 σ =>
s_mem_Mem_Store [v31, v35, v38] (fun v39 σ =>
xF (fBin .add .no) [v21, (.int .i64 1)] fun v40 =>
xF fMove [v40] fun v21 =>
R1 [v4, v20, v21] [c1] σ) σ) σ) σ) σ) σ) σ)
 (J1 [v4] [c1] σ)
def w_layout_Fresh_l8 (K : Value → Mem → Prop) (J1 : List Value → List (List Value) → Mem → Prop) (R1 : List Value → List (List Value) → Mem → Prop) (ts : List Value) (ls : List (List Value)) (σ : Mem) : Prop := w_layout_Fresh_l8b K J1 R1 (ts.getD 0 poison) (ts.getD 1 poison) (ts.getD 2 poison) (ls.getD 0 []) σ
def w_layout_Fresh (a0 : Value) (K : Value → Mem → Prop) (σ : Mem) : Prop :=
xC (gBox 7 [a0] []) fun c1 =>
xF fMove [(.pointer none)] fun v2 =>
xF fMove [(.int .i64 0)] fun v3 =>
xO (gLoad 7 true [(locP 1)] c1) fun v7 =>
s_layout_Check [v7] (fun v8 σ =>
xF (fUn .not) [v8] fun v9 =>
xIf v9
 (xF fMove [(.pointer none)] fun v2 =>
xF fMove [(.int .i64 1)] fun v3 =>
K (.tuple #[v2, v3]) σ)
 (xO (gLoad 7 true [(locP 1)] c1) fun v11 =>
s_layout_Len [v11] (fun v12 σ =>
s_mem_New [v12] (fun v13 σ =>
xF fMove [v13] fun v10 =>
xF (fExt 0) [v10] fun v14 =>
xF (fExt 1) [v10] fun v15 =>
xF fMove [v14] fun v4 =>
xF fMove [v15] fun v5 =>
xF fMove [v5] fun v16 =>
xF (fBin .neq .no) [v16, (.int .i64 0)] fun v17 =>
xIf v17
 (xF fMove [v5] fun v18 =>
xF fMove [(.pointer none)] fun v2 =>
xF fMove [v18] fun v3 =>
K (.tuple #[v2, v3]) σ)
 (xJoin (w_layout_Fresh_j1 K) fun J1 =>
xF (fFld 1) [(locP 1)] fun v19 =>
xO (gLoad 1 false [v19] c1) fun v20 =>
xF fMove [(.int .i64 0)] fun v21 =>
xLoop (w_layout_Fresh_l8 K J1) [v4, v20, v21] [c1] σ)) σ) σ)) σ
def s_layout_Fresh : Spec := fun args K σ => match args with
  | [a0] => w_layout_Fresh a0 K σ
  | _ => False
noncomputable def cx_layout_Fresh : Cx := { P := Try.prog, T := [(53, .none, s_layout_Check), (55, .none, s_layout_Len), (54, .write, s_mem_New), (18, .none, s_layout_Slot), (22, .none, s_word_PutSlot), (21, .write, s_mem_Mem_Store), (56, .none, s_word_PutTop), (57, .none, s_layout_Top)], loc := [(1, 1), (19, 1), (43, 1)], eqt := [], n := 55, keep := [(8, [4, 20, 21], [1]), (1000013, [4], [1])] }
theorem q_layout_Fresh : FnS cx_layout_Fresh Try.f31 (bodyOf Try.f31) 1 = s_layout_Fresh := by
  funext args K σ
  rcases args with _ | ⟨a0, _ | ⟨b, r⟩⟩ <;> kernel_rfl
theorem e_layout_Fresh : Entry Try.prog 31 .write s_layout_Fresh :=
  entry (C := cx_layout_Fresh) (TOk.cons e_layout_Check (TOk.cons e_layout_Len (TOk.cons e_mem_New (TOk.cons e_layout_Slot (TOk.cons e_word_PutSlot (TOk.cons e_mem_Mem_Store (TOk.cons e_word_PutTop (TOk.cons e_layout_Top TOk.nil)))))))) mixedOk Try.func31 (by kernel_rfl) (by kernel_rfl) (by kernel_rfl) q_layout_Fresh
def xl_layout_Fresh : List (Nat × Nat) := [(1, 1), (19, 1), (43, 1)]
noncomputable def xc_layout_Fresh : XC XN :=
(.seq none
 (.reg [⟨none, some 1, [(.tmp 0)], ⟨.lb 1 7, rAny xl_layout_Fresh (.lb 1 7)⟩⟩,
  ⟨none, some 2, [(.const (.pointer none))], ⟨.f fMove, rMove⟩⟩,
  ⟨none, some 3, [(.const (.int .i64 0))], ⟨.f fMove, rMove⟩⟩])
 (.seq none
 (.seq none
 (.reg [⟨none, some 7, [(.tmp 1)], ⟨.lr 1 7 true, rAny xl_layout_Fresh (.lr 1 7 true)⟩⟩,
  ⟨none, some 8, [(.tmp 7)], ⟨.call .none s_layout_Check v_layout_Check, rCall v_layout_Check⟩⟩,
  ⟨none, some 9, [(.tmp 8)], ⟨.f (fUn .not), rNot⟩⟩])
 (.cond (.tmp 9)
 (.seq none
 (.reg [⟨none, some 2, [(.const (.pointer none))], ⟨.f fMove, rMove⟩⟩,
  ⟨none, some 3, [(.const (.int .i64 1))], ⟨.f fMove, rMove⟩⟩])
 .ret)
 .skip))
 (.seq none
 (.reg [⟨none, some 11, [(.tmp 1)], ⟨.lr 1 7 true, rAny xl_layout_Fresh (.lr 1 7 true)⟩⟩,
  ⟨none, some 12, [(.tmp 11)], ⟨.call .none s_layout_Len v_layout_Len, rCall v_layout_Len⟩⟩,
  ⟨none, some 13, [(.tmp 12)], ⟨.call .write s_mem_New v_mem_New, rCall v_mem_New⟩⟩,
  ⟨none, some 10, [(.tmp 13)], ⟨.f fMove, rMove⟩⟩,
  ⟨none, some 14, [(.tmp 10)], ⟨.f (fExt 0), rAny xl_layout_Fresh (.f (fExt 0))⟩⟩,
  ⟨none, some 15, [(.tmp 10)], ⟨.f (fExt 1), rAny xl_layout_Fresh (.f (fExt 1))⟩⟩,
  ⟨none, some 4, [(.tmp 14)], ⟨.f fMove, rMove⟩⟩,
  ⟨none, some 5, [(.tmp 15)], ⟨.f fMove, rMove⟩⟩])
 (.seq none
 (.seq none
 (.reg [⟨none, some 16, [(.tmp 5)], ⟨.f fMove, rMove⟩⟩,
  ⟨none, some 17, [(.tmp 16), (.const (.int .i64 0))], ⟨.f (fBin .neq .no), rNeq⟩⟩])
 (.cond (.tmp 17)
 (.seq none
 (.reg [⟨none, some 18, [(.tmp 5)], ⟨.f fMove, rMove⟩⟩,
  ⟨none, some 2, [(.const (.pointer none))], ⟨.f fMove, rMove⟩⟩,
  ⟨none, some 3, [(.tmp 18)], ⟨.f fMove, rMove⟩⟩])
 .ret)
 .skip))
 (.seq (some ([4], [1]))
 (.seq none
 (.reg [⟨none, some 19, [(.tmp 1)], ⟨.f (fFld 1), rFld 1⟩⟩,
  ⟨none, some 20, [(.tmp 19)], ⟨.lr 1 1 false, rLr1 1⟩⟩,
  ⟨none, some 21, [(.const (.int .i64 0))], ⟨.f fMove, rMove⟩⟩])
 (.block 0
 (.loop ([4, 20, 21], [1])
 (.seq none
 (.reg [⟨none, some 22, [(.tmp 21), (.tmp 20)], ⟨.f (fBin .lss .no), rLss⟩⟩])
 (.seq none
 (.cond (.tmp 22)
 .skip
 (.exit 0))
 (.seq none
 (.block 1
 (.seq none
 (.reg [⟨none, some 23, [(.tmp 21)], ⟨.f fMove, rMove⟩⟩,
  ⟨none, some 6, [(.tmp 23)], ⟨.f fMove, rMove⟩⟩])
 (.seq none
 (.reg [⟨none, some 24, [(.tmp 4)], ⟨.f fMove, rMove⟩⟩,
  ⟨none, some 25, [(.tmp 1)], ⟨.lr 1 7 true, rAny xl_layout_Fresh (.lr 1 7 true)⟩⟩,
  ⟨none, some 26, [(.tmp 6)], ⟨.f fMove, rMove⟩⟩,
  ⟨none, some 27, [(.tmp 25), (.tmp 26)], ⟨.call .none s_layout_Slot v_layout_Slot, rCall v_layout_Slot⟩⟩,
  ⟨none, some 28, [(.const (.int .i64 1))], ⟨.f (fBuild [(0, 1), (1, 1), (2, 1), (3, 1)] [(.int .i64 0), (.int .i64 0), (.int .i64 0), (.int .i64 0)] [2]), rAny xl_layout_Fresh (.f (fBuild [(0, 1), (1, 1), (2, 1), (3, 1)] [(.int .i64 0), (.int .i64 0), (.int .i64 0), (.int .i64 0)] [2]))⟩⟩,
  ⟨none, some 29, [(.tmp 28)], ⟨.call .none s_word_PutSlot v_word_PutSlot, rCall v_word_PutSlot⟩⟩,
  ⟨none, some 30, [(.tmp 24), (.tmp 27), (.tmp 29)], ⟨.call .write s_mem_Mem_Store v_mem_Mem_Store, rCall v_mem_Mem_Store⟩⟩])
 (.reg [⟨none, some 31, [(.tmp 4)], ⟨.f fMove, rMove⟩⟩,
  ⟨none, some 32, [(.tmp 1)], ⟨.lr 1 7 true, rAny xl_layout_Fresh (.lr 1 7 true)⟩⟩,
  ⟨none, some 33, [(.tmp 6)], ⟨.f fMove, rMove⟩⟩,
  ⟨none, some 34, [(.tmp 32), (.tmp 33)], ⟨.call .none s_layout_Slot v_layout_Slot, rCall v_layout_Slot⟩⟩,
  ⟨none, some 35, [(.tmp 34), (.const (.int .i64 1))], ⟨.f (fBin .add .no), rAdd⟩⟩,
  ⟨none, some 36, [(.tmp 6)], ⟨.f fMove, rMove⟩⟩,
  ⟨none, some 37, [(.tmp 36), (.const (.int .i64 1))], ⟨.f (fBin .add .no), rAdd⟩⟩,
  ⟨none, some 38, [(.tmp 37), (.const (.int .i64 0))], ⟨.call .none s_word_PutTop v_word_PutTop, rCall v_word_PutTop⟩⟩,
  ⟨none, some 39, [(.tmp 31), (.tmp 35), (.tmp 38)], ⟨.call .write s_mem_Mem_Store v_mem_Mem_Store, rCall v_mem_Mem_Store⟩⟩]))))
 (.reg [⟨none, some 40, [(.tmp 21), (.const (.int .i64 1))], ⟨.f (fBin .add .no), rAdd⟩⟩,
  ⟨none, some 21, [(.tmp 40)], ⟨.f fMove, rMove⟩⟩])))))))
 (.seq none
 (.reg [⟨none, some 41, [(.tmp 4)], ⟨.f fMove, rMove⟩⟩,
  ⟨none, some 42, [(.tmp 1)], ⟨.lr 1 7 true, rAny xl_layout_Fresh (.lr 1 7 true)⟩⟩,
  ⟨none, some 43, [(.tmp 1)], ⟨.f (fFld 1), rFld 1⟩⟩,
  ⟨none, some 44, [(.tmp 43)], ⟨.lr 1 1 false, rLr1 1⟩⟩,
  ⟨none, some 45, [(.tmp 44), (.const (.int .i64 1))], ⟨.f (fBin .sub .no), rSub⟩⟩,
  ⟨none, some 46, [(.tmp 42), (.tmp 45)], ⟨.call .none s_layout_Slot v_layout_Slot, rCall v_layout_Slot⟩⟩,
  ⟨none, some 47, [(.tmp 46), (.const (.int .i64 1))], ⟨.f (fBin .add .no), rAdd⟩⟩,
  ⟨none, some 48, [(.const (.int .i64 (-1))), (.const (.int .i64 0))], ⟨.call .none s_word_PutTop v_word_PutTop, rCall v_word_PutTop⟩⟩,
  ⟨none, some 49, [(.tmp 41), (.tmp 47), (.tmp 48)], ⟨.call .write s_mem_Mem_Store v_mem_Mem_Store, rCall v_mem_Mem_Store⟩⟩])
 (.seq none
 (.reg [⟨none, some 50, [(.tmp 4)], ⟨.f fMove, rMove⟩⟩,
  ⟨none, some 51, [], ⟨.call .none s_layout_Top v_layout_Top, rCall v_layout_Top⟩⟩,
  ⟨none, some 52, [(.const (.int .i64 0)), (.const (.int .i64 0))], ⟨.call .none s_word_PutTop v_word_PutTop, rCall v_word_PutTop⟩⟩,
  ⟨none, some 53, [(.tmp 50), (.tmp 51), (.tmp 52)], ⟨.call .write s_mem_Mem_Store v_mem_Mem_Store, rCall v_mem_Mem_Store⟩⟩])
 (.seq none
 (.reg [⟨none, some 54, [(.tmp 4)], ⟨.f fMove, rMove⟩⟩,
  ⟨none, some 2, [(.tmp 54)], ⟨.f fMove, rMove⟩⟩,
  ⟨none, some 3, [(.const (.int .i64 0))], ⟨.f fMove, rMove⟩⟩])
 .ret))))))))
noncomputable def v_layout_Fresh : EvF := evFn 1 xc_layout_Fresh [.t 2, .t 3]
theorem xt_layout_Fresh : toC cx_layout_Fresh (bodyOf Try.f31) = some (xc_layout_Fresh.map XN.sm) := by kernel_rfl
theorem xr_layout_Fresh : toR cx_layout_Fresh Try.f31.results.toList = some [.t 2, .t 3] := by kernel_rfl
theorem xo_layout_Fresh : xc_layout_Fresh.ok xl_layout_Fresh := ⟨⟨rAny_ok (trivial), rMove_ok, rMove_ok, trivial⟩, ⟨⟨⟨rAny_ok (trivial), rCall_ok ve_layout_Check, rNot_ok, trivial⟩, ⟨⟨⟨rMove_ok, rMove_ok, trivial⟩, trivial⟩, trivial⟩⟩, ⟨⟨rAny_ok (trivial), rCall_ok ve_layout_Len, rCall_ok ve_mem_New, rMove_ok, rAny_ok (eqv_ext _), rAny_ok (eqv_ext _), rMove_ok, rMove_ok, trivial⟩, ⟨⟨⟨rMove_ok, rNeq_ok, trivial⟩, ⟨⟨⟨rMove_ok, rMove_ok, rMove_ok, trivial⟩, trivial⟩, trivial⟩⟩, ⟨⟨⟨rFld_ok _, rLr1_ok _, rMove_ok, trivial⟩, ⟨⟨rLss_ok, trivial⟩, ⟨⟨trivial, trivial⟩, ⟨⟨⟨rMove_ok, rMove_ok, trivial⟩, ⟨⟨rMove_ok, rAny_ok (trivial), rMove_ok, rCall_ok ve_layout_Slot, rAny_ok (eqv_build _ rfl _), rCall_ok ve_word_PutSlot, rCall_ok ve_mem_Mem_Store, trivial⟩, ⟨rMove_ok, rAny_ok (trivial), rMove_ok, rCall_ok ve_layout_Slot, rAdd_ok, rMove_ok, rAdd_ok, rCall_ok ve_word_PutTop, rCall_ok ve_mem_Mem_Store, trivial⟩⟩⟩, ⟨rAdd_ok, rMove_ok, trivial⟩⟩⟩⟩⟩, ⟨⟨rMove_ok, rAny_ok (trivial), rFld_ok _, rLr1_ok _, rSub_ok, rCall_ok ve_layout_Slot, rAdd_ok, rCall_ok ve_word_PutTop, rCall_ok ve_mem_Mem_Store, trivial⟩, ⟨⟨rMove_ok, rCall_ok ve_layout_Top, rCall_ok ve_word_PutTop, rCall_ok ve_mem_Mem_Store, trivial⟩, ⟨⟨rMove_ok, rMove_ok, rMove_ok, trivial⟩, trivial⟩⟩⟩⟩⟩⟩⟩⟩
theorem ve_layout_Fresh : EvOk s_layout_Fresh v_layout_Fresh := EvOk.of (evFn_sound (C := cx_layout_Fresh) xt_layout_Fresh xr_layout_Fresh xo_layout_Fresh) q_layout_Fresh
attribute [irreducible] w_layout_Fresh_j1b w_layout_Fresh_j1 w_layout_Fresh_l8b w_layout_Fresh_l8 w_layout_Fresh s_layout_Fresh
def w_law04_Arena (a0 a1 a2 a3 : Value) (K : Value → Mem → Prop) (σ : Mem) : Prop :=
xF fMove [(.bool false)] fun v9 =>
xF fMove [a0] fun v13 =>
xF fMove [a1] fun v14 =>
xF fMove [a2] fun v15 =>
xF fMove [a3] fun v16 =>
xF (fBuild [(0, 1), (1, 1), (2, 1), (3, 1), (4, 1), (5, 1), (6, 1)] [(.int .i64 0), (.int .i64 0), (.int .i64 0), (.int .i64 0), (.int .i64 0), (.int .i64 0), (.int .i64 0)] [0, 1, 2, 3, 4, 5, 6]) [v13, v14, v15, v16, (.int .i64 100), (.int .i64 600), (.int .i64 3)] fun v17 =>
xC (gStore 7 [(locP 10), v17] [(.int .i64 0), (.int .i64 0), (.int .i64 0), (.int .i64 0), (.int .i64 0), (.int .i64 0), (.int .i64 0)]) fun c10 =>
xO (gLoad 7 true [(locP 10)] c10) fun v19 =>
s_layout_Fresh [v19] (fun v20 σ =>
xF fMove [v20] fun v18 =>
xF (fExt 0) [v18] fun v21 =>
xF (fExt 1) [v18] fun v22 =>
xF fMove [v21] fun v11 =>
xF fMove [v22] fun v12 =>
xO (gLoad 7 true [(locP 10)] c10) fun v23 =>
xF fMove [v11] fun v24 =>
xF (fBuild [(0, 7), (7, 1), (8, 1)] [(.int .i64 0), (.int .i64 0), (.int .i64 0), (.int .i64 0), (.int .i64 0), (.int .i64 0), (.int .i64 0), (.pointer none), (.int .i64 0)] [0, 1]) [v23, v24] fun v25 =>
xF fMove [v12] fun v26 =>
xF (fBin .eql .no) [v26, (.int .i64 0)] fun v27 =>
xC (gStore 9 [(locP 8), v25] [(.int .i64 0), (.int .i64 0), (.int .i64 0), (.int .i64 0), (.int .i64 0), (.int .i64 0), (.int .i64 0), (.pointer none), (.int .i64 0)]) fun c8 =>
xF fMove [v27] fun v9 =>
xO (gLoad 9 true [(locP 8)] c8) fun r8 =>
K (.tuple #[r8, v9]) σ) σ
def s_law04_Arena : Spec := fun args K σ => match args with
  | [a0, a1, a2, a3] => w_law04_Arena a0 a1 a2 a3 K σ
  | _ => False
noncomputable def cx_law04_Arena : Cx := { P := Try.prog, T := [(31, .write, s_layout_Fresh)], loc := [(8, 8), (10, 10)], eqt := [], n := 28, keep := [] }
theorem q_law04_Arena : FnS cx_law04_Arena Try.f11 (bodyOf Try.f11) 4 = s_law04_Arena := by
  funext args K σ
  rcases args with _ | ⟨a0, _ | ⟨a1, _ | ⟨a2, _ | ⟨a3, _ | ⟨b, r⟩⟩⟩⟩⟩ <;> kernel_rfl
theorem e_law04_Arena : Entry Try.prog 11 .write s_law04_Arena :=
  entry (C := cx_law04_Arena) (TOk.cons e_layout_Fresh TOk.nil) mixedOk Try.func11 (by kernel_rfl) (by kernel_rfl) (by kernel_rfl) q_law04_Arena
def xl_law04_Arena : List (Nat × Nat) := [(8, 8), (10, 10)]
noncomputable def xc_law04_Arena : XC XN :=
(.seq none
 (.reg [⟨none, some 8, [], ⟨.la 8 [(.int .i64 0), (.int .i64 0), (.int .i64 0), (.int .i64 0), (.int .i64 0), (.int .i64 0), (.int .i64 0), (.pointer none), (.int .i64 0)], rAny xl_law04_Arena (.la 8 [(.int .i64 0), (.int .i64 0), (.int .i64 0), (.int .i64 0), (.int .i64 0), (.int .i64 0), (.int .i64 0), (.pointer none), (.int .i64 0)])⟩⟩,
  ⟨none, some 9, [(.const (.bool false))], ⟨.f fMove, rMove⟩⟩])
 (.seq none
 (.reg [⟨none, some 13, [(.tmp 0)], ⟨.f fMove, rMove⟩⟩,
  ⟨none, some 14, [(.tmp 1)], ⟨.f fMove, rMove⟩⟩,
  ⟨none, some 15, [(.tmp 2)], ⟨.f fMove, rMove⟩⟩,
  ⟨none, some 16, [(.tmp 3)], ⟨.f fMove, rMove⟩⟩,
  ⟨none, some 17, [(.tmp 13), (.tmp 14), (.tmp 15), (.tmp 16), (.const (.int .i64 100)), (.const (.int .i64 600)), (.const (.int .i64 3))], ⟨.f (fBuild [(0, 1), (1, 1), (2, 1), (3, 1), (4, 1), (5, 1), (6, 1)] [(.int .i64 0), (.int .i64 0), (.int .i64 0), (.int .i64 0), (.int .i64 0), (.int .i64 0), (.int .i64 0)] [0, 1, 2, 3, 4, 5, 6]), rAny xl_law04_Arena (.f (fBuild [(0, 1), (1, 1), (2, 1), (3, 1), (4, 1), (5, 1), (6, 1)] [(.int .i64 0), (.int .i64 0), (.int .i64 0), (.int .i64 0), (.int .i64 0), (.int .i64 0), (.int .i64 0)] [0, 1, 2, 3, 4, 5, 6]))⟩⟩,
  ⟨none, some 10, [], ⟨.la 10 [(.int .i64 0), (.int .i64 0), (.int .i64 0), (.int .i64 0), (.int .i64 0), (.int .i64 0), (.int .i64 0)], rAny xl_law04_Arena (.la 10 [(.int .i64 0), (.int .i64 0), (.int .i64 0), (.int .i64 0), (.int .i64 0), (.int .i64 0), (.int .i64 0)])⟩⟩,
  ⟨none, none, [(.tmp 10), (.tmp 17)], ⟨.ls 10 7, rAny xl_law04_Arena (.ls 10 7)⟩⟩])
 (.seq none
 (.reg [⟨none, some 19, [(.tmp 10)], ⟨.lr 10 7 true, rAny xl_law04_Arena (.lr 10 7 true)⟩⟩,
  ⟨none, some 20, [(.tmp 19)], ⟨.call .write s_layout_Fresh v_layout_Fresh, rCall v_layout_Fresh⟩⟩,
  ⟨none, some 18, [(.tmp 20)], ⟨.f fMove, rMove⟩⟩,
  ⟨none, some 21, [(.tmp 18)], ⟨.f (fExt 0), rAny xl_law04_Arena (.f (fExt 0))⟩⟩,
  ⟨none, some 22, [(.tmp 18)], ⟨.f (fExt 1), rAny xl_law04_Arena (.f (fExt 1))⟩⟩,
  ⟨none, some 11, [(.tmp 21)], ⟨.f fMove, rMove⟩⟩,
  ⟨none, some 12, [(.tmp 22)], ⟨.f fMove, rMove⟩⟩])
 (.seq none
 (.reg [⟨none, some 23, [(.tmp 10)], ⟨.lr 10 7 true, rAny xl_law04_Arena (.lr 10 7 true)⟩⟩,
  ⟨none, some 24, [(.tmp 11)], ⟨.f fMove, rMove⟩⟩,
  ⟨none, some 25, [(.tmp 23), (.tmp 24)], ⟨.f (fBuild [(0, 7), (7, 1), (8, 1)] [(.int .i64 0), (.int .i64 0), (.int .i64 0), (.int .i64 0), (.int .i64 0), (.int .i64 0), (.int .i64 0), (.pointer none), (.int .i64 0)] [0, 1]), rAny xl_law04_Arena (.f (fBuild [(0, 7), (7, 1), (8, 1)] [(.int .i64 0), (.int .i64 0), (.int .i64 0), (.int .i64 0), (.int .i64 0), (.int .i64 0), (.int .i64 0), (.pointer none), (.int .i64 0)] [0, 1]))⟩⟩,
  ⟨none, some 26, [(.tmp 12)], ⟨.f fMove, rMove⟩⟩,
  ⟨none, some 27, [(.tmp 26), (.const (.int .i64 0))], ⟨.f (fBin .eql .no), rEql⟩⟩,
  ⟨none, none, [(.tmp 8), (.tmp 25)], ⟨.ls 8 9, rAny xl_law04_Arena (.ls 8 9)⟩⟩,
  ⟨none, some 9, [(.tmp 27)], ⟨.f fMove, rMove⟩⟩])
 .ret))))
noncomputable def v_law04_Arena : EvF := evFn 4 xc_law04_Arena [.c 8 8 9 true, .t 9]
theorem xt_law04_Arena : toC cx_law04_Arena (bodyOf Try.f11) = some (xc_law04_Arena.map XN.sm) := by kernel_rfl
theorem xr_law04_Arena : toR cx_law04_Arena Try.f11.results.toList = some [.c 8 8 9 true, .t 9] := by kernel_rfl
theorem xo_law04_Arena : xc_law04_Arena.ok xl_law04_Arena := ⟨⟨rAny_ok (trivial), rMove_ok, trivial⟩, ⟨⟨rMove_ok, rMove_ok, rMove_ok, rMove_ok, rAny_ok (eqv_build _ rfl _), rAny_ok (trivial), rAny_ok (trivial), trivial⟩, ⟨⟨rAny_ok (trivial), rCall_ok ve_layout_Fresh, rMove_ok, rAny_ok (eqv_ext _), rAny_ok (eqv_ext _), rMove_ok, rMove_ok, trivial⟩, ⟨⟨rAny_ok (trivial), rMove_ok, rAny_ok (eqv_build _ rfl _), rMove_ok, rEql_ok, rAny_ok (trivial), rMove_ok, trivial⟩, trivial⟩⟩⟩⟩
theorem ve_law04_Arena : EvOk s_law04_Arena v_law04_Arena := EvOk.of (evFn_sound (C := cx_law04_Arena) xt_law04_Arena xr_law04_Arena xo_law04_Arena) q_law04_Arena
attribute [irreducible] w_law04_Arena s_law04_Arena
def w_alloc_New (a0 a1 : Value) (K : Value → Mem → Prop) (σ : Mem) : Prop :=
xF fMove [(.pointer none)] fun v4 =>
xF fMove [a0] fun v5 =>
xF fMove [a1] fun v6 =>
xF (fBuild [(0, 1), (1, 1), (2, 1), (3, 5), (8, 1), (9, 1), (10, 1), (11, 2), (13, 1), (14, 4)] [(.int .i64 0), (.bool false), (.int .i64 0), (.int .i64 0), (.int .u64 0), (.int .i64 0), (.int .i64 0), (.bool false), (.int .i64 0), (.int .i64 0), (.pointer none), (.int .i64 0), (.int .i64 0), (.pointer none), (.int .i64 0), (.int .u64 0), (.int .i64 0), (.int .i64 0)] [0, 1]) [v5, v6] fun v7 =>
hBox 18 [v7] (fun v8 σ =>
xF fMove [v8] fun v4 =>
K v4 σ) σ
def s_alloc_New : Spec := fun args K σ => match args with
  | [a0, a1] => w_alloc_New a0 a1 K σ
  | _ => False
noncomputable def cx_alloc_New : Cx := { P := Try.prog, T := [], loc := [], eqt := [], n := 9, keep := [] }
theorem q_alloc_New : FnS cx_alloc_New Try.f32 (bodyOf Try.f32) 2 = s_alloc_New := by
  funext args K σ
  rcases args with _ | ⟨a0, _ | ⟨a1, _ | ⟨b, r⟩⟩⟩ <;> kernel_rfl
theorem e_alloc_New : Entry Try.prog 32 .write s_alloc_New :=
  entry (C := cx_alloc_New) TOk.nil mixedOk Try.func32 (by kernel_rfl) (by kernel_rfl) (by kernel_rfl) q_alloc_New
def xl_alloc_New : List (Nat × Nat) := []
noncomputable def xc_alloc_New : XC XN :=
(.seq none
 (.reg [⟨none, some 4, [(.const (.pointer none))], ⟨.f fMove, rMove⟩⟩])
 (.seq none
 (.reg [⟨none, some 5, [(.tmp 0)], ⟨.f fMove, rMove⟩⟩,
  ⟨none, some 6, [(.tmp 1)], ⟨.f fMove, rMove⟩⟩,
  ⟨none, some 7, [(.tmp 5), (.tmp 6)], ⟨.f (fBuild [(0, 1), (1, 1), (2, 1), (3, 5), (8, 1), (9, 1), (10, 1), (11, 2), (13, 1), (14, 4)] [(.int .i64 0), (.bool false), (.int .i64 0), (.int .i64 0), (.int .u64 0), (.int .i64 0), (.int .i64 0), (.bool false), (.int .i64 0), (.int .i64 0), (.pointer none), (.int .i64 0), (.int .i64 0), (.pointer none), (.int .i64 0), (.int .u64 0), (.int .i64 0), (.int .i64 0)] [0, 1]), rAny xl_alloc_New (.f (fBuild [(0, 1), (1, 1), (2, 1), (3, 5), (8, 1), (9, 1), (10, 1), (11, 2), (13, 1), (14, 4)] [(.int .i64 0), (.bool false), (.int .i64 0), (.int .i64 0), (.int .u64 0), (.int .i64 0), (.int .i64 0), (.bool false), (.int .i64 0), (.int .i64 0), (.pointer none), (.int .i64 0), (.int .i64 0), (.pointer none), (.int .i64 0), (.int .u64 0), (.int .i64 0), (.int .i64 0)] [0, 1]))⟩⟩,
  ⟨none, some 8, [(.tmp 7)], ⟨.box 18, rAny xl_alloc_New (.box 18)⟩⟩,
  ⟨none, some 4, [(.tmp 8)], ⟨.f fMove, rMove⟩⟩])
 .ret))
noncomputable def v_alloc_New : EvF := evFn 2 xc_alloc_New [.t 4]
theorem xt_alloc_New : toC cx_alloc_New (bodyOf Try.f32) = some (xc_alloc_New.map XN.sm) := by kernel_rfl
theorem xr_alloc_New : toR cx_alloc_New Try.f32.results.toList = some [.t 4] := by kernel_rfl
theorem xo_alloc_New : xc_alloc_New.ok xl_alloc_New := ⟨⟨rMove_ok, trivial⟩, ⟨⟨rMove_ok, rMove_ok, rAny_ok (eqv_build _ rfl _), rAny_ok (trivial), rMove_ok, trivial⟩, trivial⟩⟩
theorem ve_alloc_New : EvOk s_alloc_New v_alloc_New := EvOk.of (evFn_sound (C := cx_alloc_New) xt_alloc_New xr_alloc_New xo_alloc_New) q_alloc_New
attribute [irreducible] w_alloc_New s_alloc_New
def w_layout_Class_j1b (K : Value → Mem → Prop) (σ : Mem) : Prop :=
xF fMove [(.int .i64 (-1))] fun v2 =>
K v2 σ
def w_layout_Class_j1 (K : Value → Mem → Prop) (ts : List Value) (ls : List (List Value)) (σ : Mem) : Prop := w_layout_Class_j1b K σ
def w_layout_Class_j2b (K : Value → Mem → Prop) (J1 : List Value → List (List Value) → Mem → Prop) (R1 : List Value → List (List Value) → Mem → Prop) (v0 v3 v4 v14 : Value) (σ : Mem) : Prop :=
xIf v14
 (xF fMove [v3] fun v15 =>
xF fMove [v15] fun v2 =>
K v2 σ)
 (xF (fBin .add .no) [v4, (.int .i64 1)] fun v16 =>
xF fMove [v16] fun v4 =>
R1 [v0, v4] [] σ)
def w_layout_Class_j2 (K : Value → Mem → Prop) (J1 : List Value → List (List Value) → Mem → Prop) (R1 : List Value → List (List Value) → Mem → Prop) (ts : List Value) (ls : List (List Value)) (σ : Mem) : Prop := w_layout_Class_j2b K J1 R1 (ts.getD 0 poison) (ts.getD 1 poison) (ts.getD 2 poison) (ts.getD 3 poison) σ
def w_layout_Class_l3b (K : Value → Mem → Prop) (J1 : List Value → List (List Value) → Mem → Prop) (R1 : List Value → List (List Value) → Mem → Prop) (v0 v4 : Value) (σ : Mem) : Prop :=
xF (fBin .lss .no) [v4, (.int .i64 4)] fun v5 =>
xIf v5
 (xF fMove [v4] fun v6 =>
xF fMove [v6] fun v3 =>
xJoin (w_layout_Class_j2 K J1 R1) fun J2 =>
xF fMove [v0] fun v7 =>
xF (fBin .geq .no) [v7, (.int .i64 1)] fun v8 =>
xF fMove [v8] fun v9 =>
xIf v9
 (xF fMove [v0] fun v10 =>
xF fMove [v3] fun v11 =>
xF (fBin .shl .no) [(.int .i64 2), v11] fun v12 =>
xF (fBin .leq .no) [v10, v12] fun v13 =>
xF fPick [(.bool true), v13, (.bool false)] fun v14 =>
J2 [v0, v3, v4, v14] [] σ)
 (xF fPick [(.bool false), undef, (.bool false)] fun v14 =>
J2 [v0, v3, v4, v14] [] σ))
 (J1 [] [] σ)
def w_layout_Class_l3 (K : Value → Mem → Prop) (J1 : List Value → List (List Value) → Mem → Prop) (R1 : List Value → List (List Value) → Mem → Prop) (ts : List Value) (ls : List (List Value)) (σ : Mem) : Prop := w_layout_Class_l3b K J1 R1 (ts.getD 0 poison) (ts.getD 1 poison) σ
def w_layout_Class (a0 : Value) (K : Value → Mem → Prop) (σ : Mem) : Prop :=
xF fMove [(.int .i64 0)] fun v2 =>
xJoin (w_layout_Class_j1 K) fun J1 =>
xF fMove [(.int .i64 0)] fun v4 =>
xLoop (w_layout_Class_l3 K J1) [a0, v4] [] σ
def s_layout_Class : Spec := fun args K σ => match args with
  | [a0] => w_layout_Class a0 K σ
  | _ => False
noncomputable def cx_layout_Class : Cx := { P := Try.prog, T := [], loc := [], eqt := [], n := 17, keep := [(3, [0, 4], []), (1000006, [0, 3, 4, 14], []), (1000008, [], [])] }
theorem q_layout_Class : FnS cx_layout_Class Try.f58 (bodyOf Try.f58) 1 = s_layout_Class := by
  funext args K σ
  rcases args with _ | ⟨a0, _ | ⟨b, r⟩⟩ <;> kernel_rfl
theorem e_layout_Class : Entry Try.prog 58 .write s_layout_Class :=
  entry (C := cx_layout_Class) TOk.nil mixedOk Try.func58 (by kernel_rfl) (by kernel_rfl) (by kernel_rfl) q_layout_Class
def xl_layout_Class : List (Nat × Nat) := []
noncomputable def xc_layout_Class : XC XN :=
(.seq none
 (.reg [⟨none, some 2, [(.const (.int .i64 0))], ⟨.f fMove, rMove⟩⟩])
 (.seq (some ([], []))
 (.seq none
 (.reg [⟨none, some 4, [(.const (.int .i64 0))], ⟨.f fMove, rMove⟩⟩])
 (.block 0
 (.loop ([0, 4], [])
 (.seq none
 (.reg [⟨none, some 5, [(.tmp 4), (.const (.int .i64 4))], ⟨.f (fBin .lss .no), rLss⟩⟩])
 (.seq none
 (.cond (.tmp 5)
 .skip
 (.exit 0))
 (.seq none
 (.block 1
 (.seq none
 (.reg [⟨none, some 6, [(.tmp 4)], ⟨.f fMove, rMove⟩⟩,
  ⟨none, some 3, [(.tmp 6)], ⟨.f fMove, rMove⟩⟩])
 (.seq (some ([0, 3, 4, 14], []))
 (.reg [⟨none, some 7, [(.tmp 0)], ⟨.f fMove, rMove⟩⟩,
  ⟨none, some 8, [(.tmp 7), (.const (.int .i64 1))], ⟨.f (fBin .geq .no), rGeq⟩⟩,
  ⟨none, some 9, [(.tmp 8)], ⟨.f fMove, rMove⟩⟩,
  ⟨(some (3, 2, true, some 9)), some 10, [(.tmp 0)], ⟨.f fMove, rMove⟩⟩,
  ⟨(some (4, 2, true, some 9)), some 11, [(.tmp 3)], ⟨.f fMove, rMove⟩⟩,
  ⟨(some (5, 2, true, some 9)), some 12, [(.const (.int .i64 2)), (.tmp 11)], ⟨.f (fBin .shl .no), rAny xl_layout_Class (.f (fBin .shl .no))⟩⟩,
  ⟨(some (6, 2, true, some 9)), some 13, [(.tmp 10), (.tmp 12)], ⟨.f (fBin .leq .no), rLeq⟩⟩,
  ⟨none, some 14, [(.tmp 9), (.tmp 13), (.const (.bool false))], ⟨.f fPick, rPick⟩⟩])
 (.cond (.tmp 14)
 (.seq none
 (.reg [⟨none, some 15, [(.tmp 3)], ⟨.f fMove, rMove⟩⟩,
  ⟨none, some 2, [(.tmp 15)], ⟨.f fMove, rMove⟩⟩])
 .ret)
 .skip))))
 (.reg [⟨none, some 16, [(.tmp 4), (.const (.int .i64 1))], ⟨.f (fBin .add .no), rAdd⟩⟩,
  ⟨none, some 4, [(.tmp 16)], ⟨.f fMove, rMove⟩⟩])))))))
 (.seq none
 (.reg [⟨none, some 2, [(.const (.int .i64 (-1)))], ⟨.f fMove, rMove⟩⟩])
 .ret)))
noncomputable def v_layout_Class : EvF := evFn 1 xc_layout_Class [.t 2]
theorem xt_layout_Class : toC cx_layout_Class (bodyOf Try.f58) = some (xc_layout_Class.map XN.sm) := by kernel_rfl
theorem xr_layout_Class : toR cx_layout_Class Try.f58.results.toList = some [.t 2] := by kernel_rfl
theorem xo_layout_Class : xc_layout_Class.ok xl_layout_Class := ⟨⟨rMove_ok, trivial⟩, ⟨⟨⟨rMove_ok, trivial⟩, ⟨⟨rLss_ok, trivial⟩, ⟨⟨trivial, trivial⟩, ⟨⟨⟨rMove_ok, rMove_ok, trivial⟩, ⟨⟨rMove_ok, rGeq_ok, rMove_ok, rMove_ok, rMove_ok, rAny_ok (eqv_bin _ _), rLeq_ok, rPick_ok, trivial⟩, ⟨⟨⟨rMove_ok, rMove_ok, trivial⟩, trivial⟩, trivial⟩⟩⟩, ⟨rAdd_ok, rMove_ok, trivial⟩⟩⟩⟩⟩, ⟨⟨rMove_ok, trivial⟩, trivial⟩⟩⟩
theorem ve_layout_Class : EvOk s_layout_Class v_layout_Class := EvOk.of (evFn_sound (C := cx_layout_Class) xt_layout_Class xr_layout_Class xo_layout_Class) q_layout_Class
attribute [irreducible] w_layout_Class_j1b w_layout_Class_j1 w_layout_Class_j2b w_layout_Class_j2 w_layout_Class_l3b w_layout_Class_l3 w_layout_Class s_layout_Class
def w_mem_Mem_Steps (a0 : Value) (K : Value → Mem → Prop) (σ : Mem) : Prop :=
xF fMove [(.int .i64 0)] fun v2 =>
xF fMove [a0] fun v3 =>
xF (fBin .eql .ptr) [v3, (.pointer none)] fun v4 =>
xIf v4
 (xF fMove [(.int .i64 0)] fun v2 =>
K v2 σ)
 (xF fMove [a0] fun v5 =>
xF fNil [v5] fun v6 =>
xF (fFld 2) [v6] fun v7 =>
hLoad 1 false [v7] (fun v8 σ =>
xF fMove [v8] fun v2 =>
K v2 σ) σ)
def s_mem_Mem_Steps : Spec := fun args K σ => match args with
  | [a0] => w_mem_Mem_Steps a0 K σ
  | _ => False
noncomputable def cx_mem_Mem_Steps : Cx := { P := Try.prog, T := [], loc := [], eqt := [(25, .ptr)], n := 9, keep := [] }
theorem q_mem_Mem_Steps : FnS cx_mem_Mem_Steps Try.f49 (bodyOf Try.f49) 1 = s_mem_Mem_Steps := by
  funext args K σ
  rcases args with _ | ⟨a0, _ | ⟨b, r⟩⟩ <;> kernel_rfl
theorem e_mem_Mem_Steps : Entry Try.prog 49 .read s_mem_Mem_Steps :=
  entry (C := cx_mem_Mem_Steps) TOk.nil mixedOk Try.func49 (by kernel_rfl) (by kernel_rfl) (by kernel_rfl) q_mem_Mem_Steps
def xl_mem_Mem_Steps : List (Nat × Nat) := []
noncomputable def xc_mem_Mem_Steps : XC XN :=
(.seq none
 (.reg [⟨none, some 2, [(.const (.int .i64 0))], ⟨.f fMove, rMove⟩⟩])
 (.seq none
 (.seq none
 (.reg [⟨none, some 3, [(.tmp 0)], ⟨.f fMove, rMove⟩⟩,
  ⟨none, some 4, [(.tmp 3), (.const (.pointer none))], ⟨.f (fBin .eql .ptr), rAny xl_mem_Mem_Steps (.f (fBin .eql .ptr))⟩⟩])
 (.cond (.tmp 4)
 (.seq none
 (.reg [⟨none, some 2, [(.const (.int .i64 0))], ⟨.f fMove, rMove⟩⟩])
 .ret)
 .skip))
 (.seq none
 (.reg [⟨none, some 5, [(.tmp 0)], ⟨.f fMove, rMove⟩⟩,
  ⟨none, some 6, [(.tmp 5)], ⟨.f fNil, rNil⟩⟩,
  ⟨none, some 7, [(.tmp 6)], ⟨.f (fFld 2), rFld 2⟩⟩,
  ⟨none, some 8, [(.tmp 7)], ⟨.load 1 false, rLoad1⟩⟩,
  ⟨none, some 2, [(.tmp 8)], ⟨.f fMove, rMove⟩⟩])
 .ret)))
noncomputable def v_mem_Mem_Steps : EvF := evFn 1 xc_mem_Mem_Steps [.t 2]
theorem xt_mem_Mem_Steps : toC cx_mem_Mem_Steps (bodyOf Try.f49) = some (xc_mem_Mem_Steps.map XN.sm) := by kernel_rfl
theorem xr_mem_Mem_Steps : toR cx_mem_Mem_Steps Try.f49.results.toList = some [.t 2] := by kernel_rfl
theorem xo_mem_Mem_Steps : xc_mem_Mem_Steps.ok xl_mem_Mem_Steps := ⟨⟨rMove_ok, trivial⟩, ⟨⟨⟨rMove_ok, rAny_ok (eqv_bin _ _), trivial⟩, ⟨⟨⟨rMove_ok, trivial⟩, trivial⟩, trivial⟩⟩, ⟨⟨rMove_ok, rNil_ok, rFld_ok _, rLoad1_ok, rMove_ok, trivial⟩, trivial⟩⟩⟩
theorem ve_mem_Mem_Steps : EvOk s_mem_Mem_Steps v_mem_Mem_Steps := EvOk.of (evFn_sound (C := cx_mem_Mem_Steps) xt_mem_Mem_Steps xr_mem_Mem_Steps xo_mem_Mem_Steps) q_mem_Mem_Steps
attribute [irreducible] w_mem_Mem_Steps s_mem_Mem_Steps
def w_layout_Env_Now (a0 : Value) (K : Value → Mem → Prop) (σ : Mem) : Prop :=
xC (gBox 9 [a0] []) fun c1 =>
xF fMove [(.int .i64 0)] fun v2 =>
xF (fFld 7) [(locP 1)] fun v3 =>
xO (gLoad 1 false [v3] c1) fun v4 =>
s_mem_Mem_Steps [v4] (fun v5 σ =>
xF fMove [v5] fun v2 =>
K v2 σ) σ
def s_layout_Env_Now : Spec := fun args K σ => match args with
  | [a0] => w_layout_Env_Now a0 K σ
  | _ => False
noncomputable def cx_layout_Env_Now : Cx := { P := Try.prog, T := [(49, .read, s_mem_Mem_Steps)], loc := [(1, 1), (3, 1)], eqt := [], n := 6, keep := [] }
theorem q_layout_Env_Now : FnS cx_layout_Env_Now Try.f26 (bodyOf Try.f26) 1 = s_layout_Env_Now := by
  funext args K σ
  rcases args with _ | ⟨a0, _ | ⟨b, r⟩⟩ <;> kernel_rfl
theorem e_layout_Env_Now : Entry Try.prog 26 .read s_layout_Env_Now :=
  entry (C := cx_layout_Env_Now) (TOk.cons e_mem_Mem_Steps TOk.nil) mixedOk Try.func26 (by kernel_rfl) (by kernel_rfl) (by kernel_rfl) q_layout_Env_Now
def xl_layout_Env_Now : List (Nat × Nat) := [(1, 1), (3, 1)]
noncomputable def xc_layout_Env_Now : XC XN :=
(.seq none
 (.reg [⟨none, some 1, [(.tmp 0)], ⟨.lb 1 9, rAny xl_layout_Env_Now (.lb 1 9)⟩⟩,
  ⟨none, some 2, [(.const (.int .i64 0))], ⟨.f fMove, rMove⟩⟩])
 (.seq none
 (.reg [⟨none, some 3, [(.tmp 1)], ⟨.f (fFld 7), rFld 7⟩⟩,
  ⟨none, some 4, [(.tmp 3)], ⟨.lr 1 1 false, rLr1 1⟩⟩,
  ⟨none, some 5, [(.tmp 4)], ⟨.call .read s_mem_Mem_Steps v_mem_Mem_Steps, rCall v_mem_Mem_Steps⟩⟩,
  ⟨none, some 2, [(.tmp 5)], ⟨.f fMove, rMove⟩⟩])
 .ret))
noncomputable def v_layout_Env_Now : EvF := evFn 1 xc_layout_Env_Now [.t 2]
theorem xt_layout_Env_Now : toC cx_layout_Env_Now (bodyOf Try.f26) = some (xc_layout_Env_Now.map XN.sm) := by kernel_rfl
theorem xr_layout_Env_Now : toR cx_layout_Env_Now Try.f26.results.toList = some [.t 2] := by kernel_rfl
theorem xo_layout_Env_Now : xc_layout_Env_Now.ok xl_layout_Env_Now := ⟨⟨rAny_ok (trivial), rMove_ok, trivial⟩, ⟨⟨rFld_ok _, rLr1_ok _, rCall_ok ve_mem_Mem_Steps, rMove_ok, trivial⟩, trivial⟩⟩
theorem ve_layout_Env_Now : EvOk s_layout_Env_Now v_layout_Env_Now := EvOk.of (evFn_sound (C := cx_layout_Env_Now) xt_layout_Env_Now xr_layout_Env_Now xo_layout_Env_Now) q_layout_Env_Now
attribute [irreducible] w_layout_Env_Now s_layout_Env_Now
def w_alloc_Alloc_end (a0 a1 a2 : Value) (K : Value → Mem → Prop) (σ : Mem) : Prop :=
xC (gBox 9 [a1] []) fun c4 =>
xF fMove [a0] fun v6 =>
xF fMove [a2] fun v7 =>
xO (gLoad 9 true [(locP 4)] c4) fun v8 =>
s_layout_Env_Now [v8] (fun v9 σ =>
xF (fBuild [(0, 1), (1, 1), (2, 1), (3, 1)] [(.int .i64 0), (.int .u64 0), (.int .i64 0), (.int .i64 0)] [0, 3]) [v7, v9] fun v10 =>
xF fNil [v6] fun v11 =>
xF (fFld 14) [v11] fun v12 =>
hStore 4 [v12, v10] (fun _v σ =>
K (.tuple #[]) σ) σ) σ
def s_alloc_Alloc_end : Spec := fun args K σ => match args with
  | [a0, a1, a2] => w_alloc_Alloc_end a0 a1 a2 K σ
  | _ => False
noncomputable def cx_alloc_Alloc_end : Cx := { P := Try.prog, T := [(26, .read, s_layout_Env_Now)], loc := [(4, 4)], eqt := [], n := 13, keep := [] }
theorem q_alloc_Alloc_end : FnS cx_alloc_Alloc_end Try.f59 (bodyOf Try.f59) 3 = s_alloc_Alloc_end := by
  funext args K σ
  rcases args with _ | ⟨a0, _ | ⟨a1, _ | ⟨a2, _ | ⟨b, r⟩⟩⟩⟩ <;> kernel_rfl
theorem e_alloc_Alloc_end : Entry Try.prog 59 .write s_alloc_Alloc_end :=
  entry (C := cx_alloc_Alloc_end) (TOk.cons e_layout_Env_Now TOk.nil) mixedOk Try.func59 (by kernel_rfl) (by kernel_rfl) (by kernel_rfl) q_alloc_Alloc_end
def xl_alloc_Alloc_end : List (Nat × Nat) := [(4, 4)]
noncomputable def xc_alloc_Alloc_end : XC XN :=
(.seq none
 (.reg [⟨none, some 4, [(.tmp 1)], ⟨.lb 4 9, rAny xl_alloc_Alloc_end (.lb 4 9)⟩⟩])
 (.reg [⟨none, some 6, [(.tmp 0)], ⟨.f fMove, rMove⟩⟩,
  ⟨none, some 7, [(.tmp 2)], ⟨.f fMove, rMove⟩⟩,
  ⟨none, some 8, [(.tmp 4)], ⟨.lr 4 9 true, rAny xl_alloc_Alloc_end (.lr 4 9 true)⟩⟩,
  ⟨none, some 9, [(.tmp 8)], ⟨.call .read s_layout_Env_Now v_layout_Env_Now, rCall v_layout_Env_Now⟩⟩,
  ⟨none, some 10, [(.tmp 7), (.tmp 9)], ⟨.f (fBuild [(0, 1), (1, 1), (2, 1), (3, 1)] [(.int .i64 0), (.int .u64 0), (.int .i64 0), (.int .i64 0)] [0, 3]), rAny xl_alloc_Alloc_end (.f (fBuild [(0, 1), (1, 1), (2, 1), (3, 1)] [(.int .i64 0), (.int .u64 0), (.int .i64 0), (.int .i64 0)] [0, 3]))⟩⟩,
  ⟨none, some 11, [(.tmp 6)], ⟨.f fNil, rNil⟩⟩,
  ⟨none, some 12, [(.tmp 11)], ⟨.f (fFld 14), rFld 14⟩⟩,
  ⟨none, none, [(.tmp 12), (.tmp 10)], ⟨.store 4, rAny xl_alloc_Alloc_end (.store 4)⟩⟩]))
noncomputable def v_alloc_Alloc_end : EvF := evFn 3 xc_alloc_Alloc_end []
theorem xt_alloc_Alloc_end : toC cx_alloc_Alloc_end (bodyOf Try.f59) = some (xc_alloc_Alloc_end.map XN.sm) := by kernel_rfl
theorem xr_alloc_Alloc_end : toR cx_alloc_Alloc_end Try.f59.results.toList = some [] := by kernel_rfl
theorem xo_alloc_Alloc_end : xc_alloc_Alloc_end.ok xl_alloc_Alloc_end := ⟨⟨rAny_ok (trivial), trivial⟩, ⟨rMove_ok, rMove_ok, rAny_ok (trivial), rCall_ok ve_layout_Env_Now, rAny_ok (eqv_build _ rfl _), rNil_ok, rFld_ok _, rAny_ok (trivial), trivial⟩⟩
theorem ve_alloc_Alloc_end : EvOk s_alloc_Alloc_end v_alloc_Alloc_end := EvOk.of (evFn_sound (C := cx_alloc_Alloc_end) xt_alloc_Alloc_end xr_alloc_Alloc_end xo_alloc_Alloc_end) q_alloc_Alloc_end
attribute [irreducible] w_alloc_Alloc_end s_alloc_Alloc_end
def w_mem_Mem_By (a0 a1 : Value) (K : Value → Mem → Prop) (σ : Mem) : Prop :=
xF fMove [a0] fun v4 =>
xF (fBin .neq .ptr) [v4, (.pointer none)] fun v5 =>
xIf v5
 (xF fMove [a0] fun v6 =>
xF fMove [a1] fun v7 =>
xF fNil [v6] fun v8 =>
xF (fFld 3) [v8] fun v9 =>
hStore 1 [v9, v7] (fun _v σ =>
K (.tuple #[]) σ) σ)
 (K (.tuple #[]) σ)
def s_mem_Mem_By : Spec := fun args K σ => match args with
  | [a0, a1] => w_mem_Mem_By a0 a1 K σ
  | _ => False
noncomputable def cx_mem_Mem_By : Cx := { P := Try.prog, T := [], loc := [], eqt := [(25, .ptr)], n := 10, keep := [] }
theorem q_mem_Mem_By : FnS cx_mem_Mem_By Try.f73 (bodyOf Try.f73) 2 = s_mem_Mem_By := by
  funext args K σ
  rcases args with _ | ⟨a0, _ | ⟨a1, _ | ⟨b, r⟩⟩⟩ <;> kernel_rfl
theorem e_mem_Mem_By : Entry Try.prog 73 .write s_mem_Mem_By :=
  entry (C := cx_mem_Mem_By) TOk.nil mixedOk Try.func73 (by kernel_rfl) (by kernel_rfl) (by kernel_rfl) q_mem_Mem_By
def xl_mem_Mem_By : List (Nat × Nat) := []
noncomputable def xc_mem_Mem_By : XC XN :=
(.seq none
 (.reg [⟨none, some 4, [(.tmp 0)], ⟨.f fMove, rMove⟩⟩,
  ⟨none, some 5, [(.tmp 4), (.const (.pointer none))], ⟨.f (fBin .neq .ptr), rAny xl_mem_Mem_By (.f (fBin .neq .ptr))⟩⟩])
 (.cond (.tmp 5)
 (.reg [⟨none, some 6, [(.tmp 0)], ⟨.f fMove, rMove⟩⟩,
  ⟨none, some 7, [(.tmp 1)], ⟨.f fMove, rMove⟩⟩,
  ⟨none, some 8, [(.tmp 6)], ⟨.f fNil, rNil⟩⟩,
  ⟨none, some 9, [(.tmp 8)], ⟨.f (fFld 3), rFld 3⟩⟩,
  ⟨none, none, [(.tmp 9), (.tmp 7)], ⟨.store 1, rStore1⟩⟩])
 .skip))
noncomputable def v_mem_Mem_By : EvF := evFn 2 xc_mem_Mem_By []
theorem xt_mem_Mem_By : toC cx_mem_Mem_By (bodyOf Try.f73) = some (xc_mem_Mem_By.map XN.sm) := by kernel_rfl
theorem xr_mem_Mem_By : toR cx_mem_Mem_By Try.f73.results.toList = some [] := by kernel_rfl
theorem xo_mem_Mem_By : xc_mem_Mem_By.ok xl_mem_Mem_By := ⟨⟨rMove_ok, rAny_ok (eqv_bin _ _), trivial⟩, ⟨⟨rMove_ok, rMove_ok, rNil_ok, rFld_ok _, rStore1_ok, trivial⟩, trivial⟩⟩
theorem ve_mem_Mem_By : EvOk s_mem_Mem_By v_mem_Mem_By := EvOk.of (evFn_sound (C := cx_mem_Mem_By) xt_mem_Mem_By xr_mem_Mem_By xo_mem_Mem_By) q_mem_Mem_By
attribute [irreducible] w_mem_Mem_By s_mem_Mem_By
def w_mem_Mem_Load (a0 a1 : Value) (K : Value → Mem → Prop) (σ : Mem) : Prop :=
xF fMove [(.int .u64 0)] fun v4 =>
xF fMove [(.int .i64 0)] fun v5 =>
xF fMove [a0] fun v6 =>
xF fMove [a1] fun v7 =>
s_mem_Mem_step [v6, v7] (fun v8 σ =>
xF (fUn .not) [v8] fun v9 =>
xIf v9
 (xF fMove [(.int .u64 0)] fun v4 =>
xF fMove [(.int .i64 2)] fun v5 =>
K (.tuple #[v4, v5]) σ)
 (xF fMove [a0] fun v10 =>
xF fNil [v10] fun v11 =>
xF (fFld 0) [v11] fun v12 =>
hLoad 1 false [v12] (fun v13 σ =>
xF fMove [a1] fun v14 =>
xF (fIxS 1) [v13, v14] fun v15 =>
hLoad 1 false [v15] (fun v16 σ =>
xF fMove [v16] fun v4 =>
xF fMove [(.int .i64 0)] fun v5 =>
K (.tuple #[v4, v5]) σ) σ) σ)) σ
def s_mem_Mem_Load : Spec := fun args K σ => match args with
  | [a0, a1] => w_mem_Mem_Load a0 a1 K σ
  | _ => False
noncomputable def cx_mem_Mem_Load : Cx := { P := Try.prog, T := [(46, .write, s_mem_Mem_step)], loc := [], eqt := [], n := 17, keep := [] }
theorem q_mem_Mem_Load : FnS cx_mem_Mem_Load Try.f74 (bodyOf Try.f74) 2 = s_mem_Mem_Load := by
  funext args K σ
  rcases args with _ | ⟨a0, _ | ⟨a1, _ | ⟨b, r⟩⟩⟩ <;> kernel_rfl
theorem e_mem_Mem_Load : Entry Try.prog 74 .write s_mem_Mem_Load :=
  entry (C := cx_mem_Mem_Load) (TOk.cons e_mem_Mem_step TOk.nil) mixedOk Try.func74 (by kernel_rfl) (by kernel_rfl) (by kernel_rfl) q_mem_Mem_Load
def xl_mem_Mem_Load : List (Nat × Nat) := []
noncomputable def xc_mem_Mem_Load : XC XN :=
(.seq none
 (.reg [⟨none, some 4, [(.const (.int .u64 0))], ⟨.f fMove, rMove⟩⟩,
  ⟨none, some 5, [(.const (.int .i64 0))], ⟨.f fMove, rMove⟩⟩])
 (.seq none
 (.seq none
 (.reg [⟨none, some 6, [(.tmp 0)], ⟨.f fMove, rMove⟩⟩,
  ⟨none, some 7, [(.tmp 1)], ⟨.f fMove, rMove⟩⟩,
  ⟨none, some 8, [(.tmp 6), (.tmp 7)], ⟨.call .write s_mem_Mem_step v_mem_Mem_step, rCall v_mem_Mem_step⟩⟩,
  ⟨none, some 9, [(.tmp 8)], ⟨.f (fUn .not), rNot⟩⟩])
 (.cond (.tmp 9)
 (.seq none
 (.reg [⟨none, some 4, [(.const (.int .u64 0))], ⟨.f fMove, rMove⟩⟩,
  ⟨none, some 5, [(.const (.int .i64 2))], ⟨.f fMove, rMove⟩⟩])
 .ret)
 .skip))
 (.seq none
 (.reg [⟨none, some 10, [(.tmp 0)], ⟨.f fMove, rMove⟩⟩,
  ⟨none, some 11, [(.tmp 10)], ⟨.f fNil, rNil⟩⟩,
  ⟨none, some 12, [(.tmp 11)], ⟨.f (fFld 0), rFld 0⟩⟩,
  ⟨none, some 13, [(.tmp 12)], ⟨.load 1 false, rLoad1⟩⟩,
  ⟨none, some 14, [(.tmp 1)], ⟨.f fMove, rMove⟩⟩,
  ⟨none, some 15, [(.tmp 13), (.tmp 14)], ⟨.f (fIxS 1), rIxS 1⟩⟩,
  ⟨none, some 16, [(.tmp 15)], ⟨.load 1 false, rLoad1⟩⟩,
  ⟨none, some 4, [(.tmp 16)], ⟨.f fMove, rMove⟩⟩,
  ⟨none, some 5, [(.const (.int .i64 0))], ⟨.f fMove, rMove⟩⟩])
 .ret)))
noncomputable def v_mem_Mem_Load : EvF := evFn 2 xc_mem_Mem_Load [.t 4, .t 5]
theorem xt_mem_Mem_Load : toC cx_mem_Mem_Load (bodyOf Try.f74) = some (xc_mem_Mem_Load.map XN.sm) := by kernel_rfl
theorem xr_mem_Mem_Load : toR cx_mem_Mem_Load Try.f74.results.toList = some [.t 4, .t 5] := by kernel_rfl
theorem xo_mem_Mem_Load : xc_mem_Mem_Load.ok xl_mem_Mem_Load := ⟨⟨rMove_ok, rMove_ok, trivial⟩, ⟨⟨⟨rMove_ok, rMove_ok, rCall_ok ve_mem_Mem_step, rNot_ok, trivial⟩, ⟨⟨⟨rMove_ok, rMove_ok, trivial⟩, trivial⟩, trivial⟩⟩, ⟨⟨rMove_ok, rNil_ok, rFld_ok _, rLoad1_ok, rMove_ok, rIxS_ok _, rLoad1_ok, rMove_ok, rMove_ok, trivial⟩, trivial⟩⟩⟩
theorem ve_mem_Mem_Load : EvOk s_mem_Mem_Load v_mem_Mem_Load := EvOk.of (evFn_sound (C := cx_mem_Mem_Load) xt_mem_Mem_Load xr_mem_Mem_Load xo_mem_Mem_Load) q_mem_Mem_Load
attribute [irreducible] w_mem_Mem_Load s_mem_Mem_Load
def w_layout_Env_Load (a0 a1 : Value) (K : Value → Mem → Prop) (σ : Mem) : Prop :=
xC (gBox 9 [a0] []) fun c2 =>
xF fMove [(.int .u64 0)] fun v4 =>
xF (fFld 7) [(locP 2)] fun v7 =>
xO (gLoad 1 false [v7] c2) fun v8 =>
xF (fFld 8) [(locP 2)] fun v9 =>
xO (gLoad 1 false [v9] c2) fun v10 =>
s_mem_Mem_By [v8, v10] (fun v11 σ =>
xF (fFld 7) [(locP 2)] fun v13 =>
xO (gLoad 1 false [v13] c2) fun v14 =>
xF fMove [a1] fun v15 =>
s_mem_Mem_Load [v14, v15] (fun v16 σ =>
xF fMove [v16] fun v12 =>
xF (fExt 0) [v12] fun v17 =>
xF (fExt 1) [v12] fun v18 =>
xF fMove [v17] fun v5 =>
xF fMove [v18] fun v6 =>
xF fMove [v5] fun v19 =>
xF fMove [v19] fun v4 =>
K v4 σ) σ) σ
def s_layout_Env_Load : Spec := fun args K σ => match args with
  | [a0, a1] => w_layout_Env_Load a0 a1 K σ
  | _ => False
noncomputable def cx_layout_Env_Load : Cx := { P := Try.prog, T := [(73, .write, s_mem_Mem_By), (74, .write, s_mem_Mem_Load)], loc := [(2, 2), (7, 2), (9, 2), (13, 2)], eqt := [], n := 20, keep := [] }
theorem q_layout_Env_Load : FnS cx_layout_Env_Load Try.f37 (bodyOf Try.f37) 2 = s_layout_Env_Load := by
  funext args K σ
  rcases args with _ | ⟨a0, _ | ⟨a1, _ | ⟨b, r⟩⟩⟩ <;> kernel_rfl
theorem e_layout_Env_Load : Entry Try.prog 37 .write s_layout_Env_Load :=
  entry (C := cx_layout_Env_Load) (TOk.cons e_mem_Mem_By (TOk.cons e_mem_Mem_Load TOk.nil)) mixedOk Try.func37 (by kernel_rfl) (by kernel_rfl) (by kernel_rfl) q_layout_Env_Load
def xl_layout_Env_Load : List (Nat × Nat) := [(2, 2), (7, 2), (9, 2), (13, 2)]
noncomputable def xc_layout_Env_Load : XC XN :=
(.seq none
 (.reg [⟨none, some 2, [(.tmp 0)], ⟨.lb 2 9, rAny xl_layout_Env_Load (.lb 2 9)⟩⟩,
  ⟨none, some 4, [(.const (.int .u64 0))], ⟨.f fMove, rMove⟩⟩])
 (.seq none
 (.reg [⟨none, some 7, [(.tmp 2)], ⟨.f (fFld 7), rFld 7⟩⟩,
  ⟨none, some 8, [(.tmp 7)], ⟨.lr 2 1 false, rLr1 2⟩⟩,
  ⟨none, some 9, [(.tmp 2)], ⟨.f (fFld 8), rFld 8⟩⟩,
  ⟨none, some 10, [(.tmp 9)], ⟨.lr 2 1 false, rLr1 2⟩⟩,
  ⟨none, some 11, [(.tmp 8), (.tmp 10)], ⟨.call .write s_mem_Mem_By v_mem_Mem_By, rCall v_mem_Mem_By⟩⟩])
 (.seq none
 (.reg [⟨none, some 13, [(.tmp 2)], ⟨.f (fFld 7), rFld 7⟩⟩,
  ⟨none, some 14, [(.tmp 13)], ⟨.lr 2 1 false, rLr1 2⟩⟩,
  ⟨none, some 15, [(.tmp 1)], ⟨.f fMove, rMove⟩⟩,
  ⟨none, some 16, [(.tmp 14), (.tmp 15)], ⟨.call .write s_mem_Mem_Load v_mem_Mem_Load, rCall v_mem_Mem_Load⟩⟩,
  ⟨none, some 12, [(.tmp 16)], ⟨.f fMove, rMove⟩⟩,
  ⟨none, some 17, [(.tmp 12)], ⟨.f (fExt 0), rAny xl_layout_Env_Load (.f (fExt 0))⟩⟩,
  ⟨none, some 18, [(.tmp 12)], ⟨.f (fExt 1), rAny xl_layout_Env_Load (.f (fExt 1))⟩⟩,
  ⟨none, some 5, [(.tmp 17)], ⟨.f fMove, rMove⟩⟩,
  ⟨none, some 6, [(.tmp 18)], ⟨.f fMove, rMove⟩⟩])
 (.seq none
 (.reg [⟨none, some 19, [(.tmp 5)], ⟨.f fMove, rMove⟩⟩,
  ⟨none, some 4, [(.tmp 19)], ⟨.f fMove, rMove⟩⟩])
 .ret))))
noncomputable def v_layout_Env_Load : EvF := evFn 2 xc_layout_Env_Load [.t 4]
theorem xt_layout_Env_Load : toC cx_layout_Env_Load (bodyOf Try.f37) = some (xc_layout_Env_Load.map XN.sm) := by kernel_rfl
theorem xr_layout_Env_Load : toR cx_layout_Env_Load Try.f37.results.toList = some [.t 4] := by kernel_rfl
theorem xo_layout_Env_Load : xc_layout_Env_Load.ok xl_layout_Env_Load := ⟨⟨rAny_ok (trivial), rMove_ok, trivial⟩, ⟨⟨rFld_ok _, rLr1_ok _, rFld_ok _, rLr1_ok _, rCall_ok ve_mem_Mem_By, trivial⟩, ⟨⟨rFld_ok _, rLr1_ok _, rMove_ok, rCall_ok ve_mem_Mem_Load, rMove_ok, rAny_ok (eqv_ext _), rAny_ok (eqv_ext _), rMove_ok, rMove_ok, trivial⟩, ⟨⟨rMove_ok, rMove_ok, trivial⟩, trivial⟩⟩⟩⟩
theorem ve_layout_Env_Load : EvOk s_layout_Env_Load v_layout_Env_Load := EvOk.of (evFn_sound (C := cx_layout_Env_Load) xt_layout_Env_Load xr_layout_Env_Load xo_layout_Env_Load) q_layout_Env_Load
attribute [irreducible] w_layout_Env_Load s_layout_Env_Load
def w_word_Top (a0 : Value) (K : Value → Mem → Prop) (σ : Mem) : Prop :=
xF fMove [(.int .i64 0)] fun v2 =>
xF fMove [(.int .i64 0)] fun v3 =>
xF fMove [a0] fun v4 =>
xF (fBin .and .no) [v4, (.int .u64 131071)] fun v5 =>
xF (fConv .i64) [v5] fun v6 =>
xF (fBin .sub .no) [v6, (.int .i64 1)] fun v7 =>
xF fMove [a0] fun v8 =>
xF (fBin .shr .no) [v8, (.int .u64 17)] fun v9 =>
xF (fBin .and .no) [v9, (.int .u64 68719476735)] fun v10 =>
xF (fConv .i64) [v10] fun v11 =>
xF fMove [v7] fun v2 =>
xF fMove [v11] fun v3 =>
K (.tuple #[v2, v3]) σ
def s_word_Top : Spec := fun args K σ => match args with
  | [a0] => w_word_Top a0 K σ
  | _ => False
noncomputable def cx_word_Top : Cx := { P := Try.prog, T := [], loc := [], eqt := [], n := 12, keep := [] }
theorem q_word_Top : FnS cx_word_Top Try.f82 (bodyOf Try.f82) 1 = s_word_Top := by
  funext args K σ
  rcases args with _ | ⟨a0, _ | ⟨b, r⟩⟩ <;> kernel_rfl
theorem e_word_Top : Entry Try.prog 82 .none s_word_Top :=
  entry (C := cx_word_Top) TOk.nil mixedOk Try.func82 (by kernel_rfl) (by kernel_rfl) (by kernel_rfl) q_word_Top
def xl_word_Top : List (Nat × Nat) := []
noncomputable def xc_word_Top : XC XN :=
(.seq none
 (.reg [⟨none, some 2, [(.const (.int .i64 0))], ⟨.f fMove, rMove⟩⟩,
  ⟨none, some 3, [(.const (.int .i64 0))], ⟨.f fMove, rMove⟩⟩])
 (.seq none
 (.reg [⟨none, some 4, [(.tmp 0)], ⟨.f fMove, rMove⟩⟩,
  ⟨none, some 5, [(.tmp 4), (.const (.int .u64 131071))], ⟨.band .no, rAny xl_word_Top (.band .no)⟩⟩,
  ⟨none, some 6, [(.tmp 5)], ⟨.f (fConv .i64), rConv .i64⟩⟩,
  ⟨none, some 7, [(.tmp 6), (.const (.int .i64 1))], ⟨.f (fBin .sub .no), rSub⟩⟩,
  ⟨none, some 8, [(.tmp 0)], ⟨.f fMove, rMove⟩⟩,
  ⟨none, some 9, [(.tmp 8), (.const (.int .u64 17))], ⟨.f (fBin .shr .no), rAny xl_word_Top (.f (fBin .shr .no))⟩⟩,
  ⟨none, some 10, [(.tmp 9), (.const (.int .u64 68719476735))], ⟨.band .no, rAny xl_word_Top (.band .no)⟩⟩,
  ⟨none, some 11, [(.tmp 10)], ⟨.f (fConv .i64), rConv .i64⟩⟩,
  ⟨none, some 2, [(.tmp 7)], ⟨.f fMove, rMove⟩⟩,
  ⟨none, some 3, [(.tmp 11)], ⟨.f fMove, rMove⟩⟩])
 .ret))
noncomputable def v_word_Top : EvF := evFn 1 xc_word_Top [.t 2, .t 3]
theorem xt_word_Top : toC cx_word_Top (bodyOf Try.f82) = some (xc_word_Top.map XN.sm) := by kernel_rfl
theorem xr_word_Top : toR cx_word_Top Try.f82.results.toList = some [.t 2, .t 3] := by kernel_rfl
theorem xo_word_Top : xc_word_Top.ok xl_word_Top := ⟨⟨rMove_ok, rMove_ok, trivial⟩, ⟨⟨rMove_ok, rAny_ok (trivial), rConv_ok _, rSub_ok, rMove_ok, rAny_ok (eqv_bin _ _), rAny_ok (trivial), rConv_ok _, rMove_ok, rMove_ok, trivial⟩, trivial⟩⟩
theorem ve_word_Top : EvOk s_word_Top v_word_Top := EvOk.of (evFn_sound (C := cx_word_Top) xt_word_Top xr_word_Top xo_word_Top) q_word_Top
attribute [irreducible] w_word_Top s_word_Top
def w_mem_Mem_Cas (a0 a1 a2 a3 : Value) (K : Value → Mem → Prop) (σ : Mem) : Prop :=
xF fMove [(.bool false)] fun v8 =>
xF fMove [(.int .i64 0)] fun v9 =>
xF fMove [a0] fun v10 =>
xF fMove [a1] fun v11 =>
s_mem_Mem_step [v10, v11] (fun v12 σ =>
xF (fUn .not) [v12] fun v13 =>
xIf v13
 (xF fMove [(.bool false)] fun v8 =>
xF fMove [(.int .i64 2)] fun v9 =>
K (.tuple #[v8, v9]) σ)
 (xF fMove [a0] fun v14 =>
xF fNil [v14] fun v15 =>
xF (fFld 0) [v15] fun v16 =>
hLoad 1 false [v16] (fun v17 σ =>
xF fMove [a1] fun v18 =>
xF (fIxS 1) [v17, v18] fun v19 =>
hLoad 1 false [v19] (fun v20 σ =>
xF fMove [a2] fun v21 =>
xF (fBin .neq .no) [v20, v21] fun v22 =>
xIf v22
 (xF fMove [(.bool false)] fun v8 =>
xF fMove [(.int .i64 0)] fun v9 =>
K (.tuple #[v8, v9]) σ)
 (xF fMove [a0] fun v23 =>
xF fMove [a1] fun v24 =>
xF fMove [a3] fun v25 =>
s_mem_Mem_set [v23, v24, v25] (fun v26 σ =>
xF fMove [(.bool true)] fun v8 =>
xF fMove [(.int .i64 0)] fun v9 =>
K (.tuple #[v8, v9]) σ) σ)) σ) σ)) σ
def s_mem_Mem_Cas : Spec := fun args K σ => match args with
  | [a0, a1, a2, a3] => w_mem_Mem_Cas a0 a1 a2 a3 K σ
  | _ => False
noncomputable def cx_mem_Mem_Cas : Cx := { P := Try.prog, T := [(46, .write, s_mem_Mem_step), (47, .write, s_mem_Mem_set)], loc := [], eqt := [], n := 27, keep := [] }
theorem q_mem_Mem_Cas : FnS cx_mem_Mem_Cas Try.f75 (bodyOf Try.f75) 4 = s_mem_Mem_Cas := by
  funext args K σ
  rcases args with _ | ⟨a0, _ | ⟨a1, _ | ⟨a2, _ | ⟨a3, _ | ⟨b, r⟩⟩⟩⟩⟩ <;> kernel_rfl
theorem e_mem_Mem_Cas : Entry Try.prog 75 .write s_mem_Mem_Cas :=
  entry (C := cx_mem_Mem_Cas) (TOk.cons e_mem_Mem_step (TOk.cons e_mem_Mem_set TOk.nil)) mixedOk Try.func75 (by kernel_rfl) (by kernel_rfl) (by kernel_rfl) q_mem_Mem_Cas
def xl_mem_Mem_Cas : List (Nat × Nat) := []
noncomputable def xc_mem_Mem_Cas : XC XN :=
(.seq none
 (.reg [⟨none, some 8, [(.const (.bool false))], ⟨.f fMove, rMove⟩⟩,
  ⟨none, some 9, [(.const (.int .i64 0))], ⟨.f fMove, rMove⟩⟩])
 (.seq none
 (.seq none
 (.reg [⟨none, some 10, [(.tmp 0)], ⟨.f fMove, rMove⟩⟩,
  ⟨none, some 11, [(.tmp 1)], ⟨.f fMove, rMove⟩⟩,
  ⟨none, some 12, [(.tmp 10), (.tmp 11)], ⟨.call .write s_mem_Mem_step v_mem_Mem_step, rCall v_mem_Mem_step⟩⟩,
  ⟨none, some 13, [(.tmp 12)], ⟨.f (fUn .not), rNot⟩⟩])
 (.cond (.tmp 13)
 (.seq none
 (.reg [⟨none, some 8, [(.const (.bool false))], ⟨.f fMove, rMove⟩⟩,
  ⟨none, some 9, [(.const (.int .i64 2))], ⟨.f fMove, rMove⟩⟩])
 .ret)
 .skip))
 (.seq none
 (.seq none
 (.reg [⟨none, some 14, [(.tmp 0)], ⟨.f fMove, rMove⟩⟩,
  ⟨none, some 15, [(.tmp 14)], ⟨.f fNil, rNil⟩⟩,
  ⟨none, some 16, [(.tmp 15)], ⟨.f (fFld 0), rFld 0⟩⟩,
  ⟨none, some 17, [(.tmp 16)], ⟨.load 1 false, rLoad1⟩⟩,
  ⟨none, some 18, [(.tmp 1)], ⟨.f fMove, rMove⟩⟩,
  ⟨none, some 19, [(.tmp 17), (.tmp 18)], ⟨.f (fIxS 1), rIxS 1⟩⟩,
  ⟨none, some 20, [(.tmp 19)], ⟨.load 1 false, rLoad1⟩⟩,
  ⟨none, some 21, [(.tmp 2)], ⟨.f fMove, rMove⟩⟩,
  ⟨none, some 22, [(.tmp 20), (.tmp 21)], ⟨.f (fBin .neq .no), rNeq⟩⟩])
 (.cond (.tmp 22)
 (.seq none
 (.reg [⟨none, some 8, [(.const (.bool false))], ⟨.f fMove, rMove⟩⟩,
  ⟨none, some 9, [(.const (.int .i64 0))], ⟨.f fMove, rMove⟩⟩])
 .ret)
 .skip))
 (.seq none
 (.reg [⟨none, some 23, [(.tmp 0)], ⟨.f fMove, rMove⟩⟩,
  ⟨none, some 24, [(.tmp 1)], ⟨.f fMove, rMove⟩⟩,
  ⟨none, some 25, [(.tmp 3)], ⟨.f fMove, rMove⟩⟩,
  ⟨none, some 26, [(.tmp 23), (.tmp 24), (.tmp 25)], ⟨.call .write s_mem_Mem_set v_mem_Mem_set, rCall v_mem_Mem_set⟩⟩])
 (.seq none
 (.reg [⟨none, some 8, [(.const (.bool true))], ⟨.f fMove, rMove⟩⟩,
  ⟨none, some 9, [(.const (.int .i64 0))], ⟨.f fMove, rMove⟩⟩])
 .ret)))))
noncomputable def v_mem_Mem_Cas : EvF := evFn 4 xc_mem_Mem_Cas [.t 8, .t 9]
theorem xt_mem_Mem_Cas : toC cx_mem_Mem_Cas (bodyOf Try.f75) = some (xc_mem_Mem_Cas.map XN.sm) := by kernel_rfl
theorem xr_mem_Mem_Cas : toR cx_mem_Mem_Cas Try.f75.results.toList = some [.t 8, .t 9] := by kernel_rfl
theorem xo_mem_Mem_Cas : xc_mem_Mem_Cas.ok xl_mem_Mem_Cas := ⟨⟨rMove_ok, rMove_ok, trivial⟩, ⟨⟨⟨rMove_ok, rMove_ok, rCall_ok ve_mem_Mem_step, rNot_ok, trivial⟩, ⟨⟨⟨rMove_ok, rMove_ok, trivial⟩, trivial⟩, trivial⟩⟩, ⟨⟨⟨rMove_ok, rNil_ok, rFld_ok _, rLoad1_ok, rMove_ok, rIxS_ok _, rLoad1_ok, rMove_ok, rNeq_ok, trivial⟩, ⟨⟨⟨rMove_ok, rMove_ok, trivial⟩, trivial⟩, trivial⟩⟩, ⟨⟨rMove_ok, rMove_ok, rMove_ok, rCall_ok ve_mem_Mem_set, trivial⟩, ⟨⟨rMove_ok, rMove_ok, trivial⟩, trivial⟩⟩⟩⟩⟩
theorem ve_mem_Mem_Cas : EvOk s_mem_Mem_Cas v_mem_Mem_Cas := EvOk.of (evFn_sound (C := cx_mem_Mem_Cas) xt_mem_Mem_Cas xr_mem_Mem_Cas xo_mem_Mem_Cas) q_mem_Mem_Cas
attribute [irreducible] w_mem_Mem_Cas s_mem_Mem_Cas
def w_layout_Env_Cas (a0 a1 a2 a3 : Value) (K : Value → Mem → Prop) (σ : Mem) : Prop :=
xC (gBox 9 [a0] []) fun c4 =>
xF fMove [(.bool false)] fun v8 =>
xF (fFld 7) [(locP 4)] fun v11 =>
xO (gLoad 1 false [v11] c4) fun v12 =>
xF (fFld 8) [(locP 4)] fun v13 =>
xO (gLoad 1 false [v13] c4) fun v14 =>
s_mem_Mem_By [v12, v14] (fun v15 σ =>
xF (fFld 7) [(locP 4)] fun v17 =>
xO (gLoad 1 false [v17] c4) fun v18 =>
xF fMove [a1] fun v19 =>
xF fMove [a2] fun v20 =>
xF fMove [a3] fun v21 =>
s_mem_Mem_Cas [v18, v19, v20, v21] (fun v22 σ =>
xF fMove [v22] fun v16 =>
xF (fExt 0) [v16] fun v23 =>
xF (fExt 1) [v16] fun v24 =>
xF fMove [v23] fun v9 =>
xF fMove [v24] fun v10 =>
xF fMove [v9] fun v25 =>
xF fMove [v25] fun v8 =>
K v8 σ) σ) σ
def s_layout_Env_Cas : Spec := fun args K σ => match args with
  | [a0, a1, a2, a3] => w_layout_Env_Cas a0 a1 a2 a3 K σ
  | _ => False
noncomputable def cx_layout_Env_Cas : Cx := { P := Try.prog, T := [(73, .write, s_mem_Mem_By), (75, .write, s_mem_Mem_Cas)], loc := [(4, 4), (11, 4), (13, 4), (17, 4)], eqt := [], n := 26, keep := [] }
theorem q_layout_Env_Cas : FnS cx_layout_Env_Cas Try.f43 (bodyOf Try.f43) 4 = s_layout_Env_Cas := by
  funext args K σ
  rcases args with _ | ⟨a0, _ | ⟨a1, _ | ⟨a2, _ | ⟨a3, _ | ⟨b, r⟩⟩⟩⟩⟩ <;> kernel_rfl
theorem e_layout_Env_Cas : Entry Try.prog 43 .write s_layout_Env_Cas :=
  entry (C := cx_layout_Env_Cas) (TOk.cons e_mem_Mem_By (TOk.cons e_mem_Mem_Cas TOk.nil)) mixedOk Try.func43 (by kernel_rfl) (by kernel_rfl) (by kernel_rfl) q_layout_Env_Cas
def xl_layout_Env_Cas : List (Nat × Nat) := [(4, 4), (11, 4), (13, 4), (17, 4)]
noncomputable def xc_layout_Env_Cas : XC XN :=
(.seq none
 (.reg [⟨none, some 4, [(.tmp 0)], ⟨.lb 4 9, rAny xl_layout_Env_Cas (.lb 4 9)⟩⟩,
  ⟨none, some 8, [(.const (.bool false))], ⟨.f fMove, rMove⟩⟩])
 (.seq none
 (.reg [⟨none, some 11, [(.tmp 4)], ⟨.f (fFld 7), rFld 7⟩⟩,
  ⟨none, some 12, [(.tmp 11)], ⟨.lr 4 1 false, rLr1 4⟩⟩,
  ⟨none, some 13, [(.tmp 4)], ⟨.f (fFld 8), rFld 8⟩⟩,
  ⟨none, some 14, [(.tmp 13)], ⟨.lr 4 1 false, rLr1 4⟩⟩,
  ⟨none, some 15, [(.tmp 12), (.tmp 14)], ⟨.call .write s_mem_Mem_By v_mem_Mem_By, rCall v_mem_Mem_By⟩⟩])
 (.seq none
 (.reg [⟨none, some 17, [(.tmp 4)], ⟨.f (fFld 7), rFld 7⟩⟩,
  ⟨none, some 18, [(.tmp 17)], ⟨.lr 4 1 false, rLr1 4⟩⟩,
  ⟨none, some 19, [(.tmp 1)], ⟨.f fMove, rMove⟩⟩,
  ⟨none, some 20, [(.tmp 2)], ⟨.f fMove, rMove⟩⟩,
  ⟨none, some 21, [(.tmp 3)], ⟨.f fMove, rMove⟩⟩,
  ⟨none, some 22, [(.tmp 18), (.tmp 19), (.tmp 20), (.tmp 21)], ⟨.call .write s_mem_Mem_Cas v_mem_Mem_Cas, rCall v_mem_Mem_Cas⟩⟩,
  ⟨none, some 16, [(.tmp 22)], ⟨.f fMove, rMove⟩⟩,
  ⟨none, some 23, [(.tmp 16)], ⟨.f (fExt 0), rAny xl_layout_Env_Cas (.f (fExt 0))⟩⟩,
  ⟨none, some 24, [(.tmp 16)], ⟨.f (fExt 1), rAny xl_layout_Env_Cas (.f (fExt 1))⟩⟩,
  ⟨none, some 9, [(.tmp 23)], ⟨.f fMove, rMove⟩⟩,
  ⟨none, some 10, [(.tmp 24)], ⟨.f fMove, rMove⟩⟩])
 (.seq none
 (.reg [⟨none, some 25, [(.tmp 9)], ⟨.f fMove, rMove⟩⟩,
  ⟨none, some 8, [(.tmp 25)], ⟨.f fMove, rMove⟩⟩])
 .ret))))
noncomputable def v_layout_Env_Cas : EvF := evFn 4 xc_layout_Env_Cas [.t 8]
theorem xt_layout_Env_Cas : toC cx_layout_Env_Cas (bodyOf Try.f43) = some (xc_layout_Env_Cas.map XN.sm) := by kernel_rfl
theorem xr_layout_Env_Cas : toR cx_layout_Env_Cas Try.f43.results.toList = some [.t 8] := by kernel_rfl
theorem xo_layout_Env_Cas : xc_layout_Env_Cas.ok xl_layout_Env_Cas := ⟨⟨rAny_ok (trivial), rMove_ok, trivial⟩, ⟨⟨rFld_ok _, rLr1_ok _, rFld_ok _, rLr1_ok _, rCall_ok ve_mem_Mem_By, trivial⟩, ⟨⟨rFld_ok _, rLr1_ok _, rMove_ok, rMove_ok, rMove_ok, rCall_ok ve_mem_Mem_Cas, rMove_ok, rAny_ok (eqv_ext _), rAny_ok (eqv_ext _), rMove_ok, rMove_ok, trivial⟩, ⟨⟨rMove_ok, rMove_ok, trivial⟩, trivial⟩⟩⟩⟩
theorem ve_layout_Env_Cas : EvOk s_layout_Env_Cas v_layout_Env_Cas := EvOk.of (evFn_sound (C := cx_layout_Env_Cas) xt_layout_Env_Cas xr_layout_Env_Cas xo_layout_Env_Cas) q_layout_Env_Cas
attribute [irreducible] w_layout_Env_Cas s_layout_Env_Cas
def w_slot_Take_Step_j1b (K : Value → Mem → Prop) (v0 : Value) (σ : Mem) : Prop :=
xF fMove [v0] fun v88 =>
xF fNil [v88] fun v89 =>
xF (fFld 4) [v89] fun v90 =>
hLoad 1 false [v90] (fun v91 σ =>
xF fMove [v91] fun v4 =>
K v4 σ) σ
def w_slot_Take_Step_j1 (K : Value → Mem → Prop) (ts : List Value) (ls : List (List Value)) (σ : Mem) : Prop := w_slot_Take_Step_j1b K (ts.getD 0 poison) σ
def w_slot_Take_Step (a0 a1 : Value) (K : Value → Mem → Prop) (σ : Mem) : Prop :=
xC (gBox 9 [a1] []) fun c3 =>
xF fMove [(.bool false)] fun v4 =>
xJoin (w_slot_Take_Step_j1 K) fun J1 =>
xF fMove [a0] fun v7 =>
xF fNil [v7] fun v8 =>
xF (fFld 0) [v8] fun v9 =>
hLoad 1 false [v9] (fun v10 σ =>
xF (fBin .eql .no) [v10, (.int .i64 0)] fun v40 =>
xF fMove [v40] fun v39 =>
xIf v39
 (xF fMove [a0] fun v41 =>
xO (gLoad 9 true [(locP 3)] c3) fun v42 =>
s_layout_Top [] (fun v43 σ =>
s_layout_Env_Load [v42, v43] (fun v44 σ =>
xF fNil [v41] fun v45 =>
xF (fFld 1) [v45] fun v46 =>
hStore 1 [v46, v44] (fun _v σ =>
xF fMove [a0] fun v48 =>
xF fMove [a0] fun v49 =>
xF fNil [v49] fun v50 =>
xF (fFld 1) [v50] fun v51 =>
hLoad 1 false [v51] (fun v52 σ =>
s_word_Top [v52] (fun v53 σ =>
xF fMove [v53] fun v47 =>
xF (fExt 0) [v47] fun v54 =>
xF (fExt 1) [v47] fun v55 =>
xF fNil [v48] fun v56 =>
xF (fFld 3) [v56] fun v57 =>
hStore 1 [v57, v54] (fun _v σ =>
xF fMove [a0] fun v58 =>
xF fNil [v58] fun v59 =>
xF (fFld 0) [v59] fun v60 =>
hStore 1 [v60, (.int .i64 1)] (fun _v σ =>
xF fMove [a0] fun v61 =>
xF fNil [v61] fun v62 =>
xF (fFld 3) [v62] fun v63 =>
hLoad 1 false [v63] (fun v64 σ =>
xF (fBin .lss .no) [v64, (.int .i64 0)] fun v65 =>
xF fMove [v65] fun v4 =>
K v4 σ) σ) σ) σ) σ) σ) σ) σ) σ)
 (xF (fBin .eql .no) [v10, (.int .i64 1)] fun v67 =>
xF fMove [v67] fun v66 =>
xIf v66
 (xF fMove [a0] fun v69 =>
xO (gLoad 9 true [(locP 3)] c3) fun v70 =>
xF (fFld 0) [(locP 3)] fun v71 =>
xO (gLoad 7 true [v71] c3) fun v72 =>
xF fMove [a0] fun v73 =>
xF fNil [v73] fun v74 =>
xF (fFld 3) [v74] fun v75 =>
hLoad 1 false [v75] (fun v76 σ =>
s_layout_Slot [v72, v76] (fun v77 σ =>
xF (fBin .add .no) [v77, (.int .i64 1)] fun v78 =>
s_layout_Env_Load [v70, v78] (fun v79 σ =>
s_word_Top [v79] (fun v80 σ =>
xF fMove [v80] fun v68 =>
xF (fExt 0) [v68] fun v81 =>
xF (fExt 1) [v68] fun v82 =>
xF fNil [v69] fun v83 =>
xF (fFld 2) [v83] fun v84 =>
hStore 1 [v84, v81] (fun _v σ =>
xF fMove [a0] fun v85 =>
xF fNil [v85] fun v86 =>
xF (fFld 0) [v86] fun v87 =>
hStore 1 [v87, (.int .i64 2)] (fun _v σ =>
J1 [a0] [] σ) σ) σ) σ) σ) σ) σ)
 (xF fMove [a0] fun v12 =>
xF fNil [v12] fun v13 =>
xF (fFld 1) [v13] fun v14 =>
hLoad 1 false [v14] (fun v15 σ =>
s_word_Top [v15] (fun v16 σ =>
xF fMove [v16] fun v11 =>
xF (fExt 0) [v11] fun v17 =>
xF (fExt 1) [v11] fun v18 =>
xF fMove [v17] fun v5 =>
xF fMove [v18] fun v6 =>
xF fMove [a0] fun v19 =>
xF fNil [v19] fun v20 =>
xF (fFld 0) [v20] fun v21 =>
hStore 1 [v21, (.int .i64 0)] (fun _v σ =>
xF fMove [a0] fun v22 =>
xO (gLoad 9 true [(locP 3)] c3) fun v23 =>
s_layout_Top [] (fun v24 σ =>
xF fMove [a0] fun v25 =>
xF fNil [v25] fun v26 =>
xF (fFld 1) [v26] fun v27 =>
hLoad 1 false [v27] (fun v28 σ =>
xF fMove [a0] fun v29 =>
xF fNil [v29] fun v30 =>
xF (fFld 2) [v30] fun v31 =>
hLoad 1 false [v31] (fun v32 σ =>
xF fMove [v6] fun v33 =>
xF (fBin .add .no) [v33, (.int .i64 1)] fun v34 =>
s_word_PutTop [v32, v34] (fun v35 σ =>
s_layout_Env_Cas [v23, v24, v28, v35] (fun v36 σ =>
xF fNil [v22] fun v37 =>
xF (fFld 4) [v37] fun v38 =>
hStore 1 [v38, v36] (fun _v σ =>
J1 [a0] [] σ) σ) σ) σ) σ) σ) σ) σ) σ) σ))) σ
def s_slot_Take_Step : Spec := fun args K σ => match args with
  | [a0, a1] => w_slot_Take_Step a0 a1 K σ
  | _ => False
noncomputable def cx_slot_Take_Step : Cx := { P := Try.prog, T := [(57, .none, s_layout_Top), (37, .write, s_layout_Env_Load), (82, .none, s_word_Top), (18, .none, s_layout_Slot), (56, .none, s_word_PutTop), (43, .write, s_layout_Env_Cas)], loc := [(3, 3), (71, 3)], eqt := [], n := 92, keep := [(1000014, [0], [])] }
theorem q_slot_Take_Step : FnS cx_slot_Take_Step Try.f60 (bodyOf Try.f60) 2 = s_slot_Take_Step := by
  funext args K σ
  rcases args with _ | ⟨a0, _ | ⟨a1, _ | ⟨b, r⟩⟩⟩ <;> kernel_rfl
theorem e_slot_Take_Step : Entry Try.prog 60 .write s_slot_Take_Step :=
  entry (C := cx_slot_Take_Step) (TOk.cons e_layout_Top (TOk.cons e_layout_Env_Load (TOk.cons e_word_Top (TOk.cons e_layout_Slot (TOk.cons e_word_PutTop (TOk.cons e_layout_Env_Cas TOk.nil)))))) mixedOk Try.func60 (by kernel_rfl) (by kernel_rfl) (by kernel_rfl) q_slot_Take_Step
def xl_slot_Take_Step : List (Nat × Nat) := [(3, 3), (71, 3)]
noncomputable def xc_slot_Take_Step : XC XN :=
(.seq none
 (.reg [⟨none, some 3, [(.tmp 1)], ⟨.lb 3 9, rAny xl_slot_Take_Step (.lb 3 9)⟩⟩,
  ⟨none, some 4, [(.const (.bool false))], ⟨.f fMove, rMove⟩⟩])
 (.seq (some ([0], []))
 (.seq none
 (.reg [⟨none, some 7, [(.tmp 0)], ⟨.f fMove, rMove⟩⟩,
  ⟨none, some 8, [(.tmp 7)], ⟨.f fNil, rNil⟩⟩,
  ⟨none, some 9, [(.tmp 8)], ⟨.f (fFld 0), rFld 0⟩⟩,
  ⟨none, some 10, [(.tmp 9)], ⟨.load 1 false, rLoad1⟩⟩])
 (.block 0
 (.seq none
 (.reg [⟨none, some 40, [(.tmp 10), (.const (.int .i64 0))], ⟨.f (fBin .eql .no), rEql⟩⟩,
  ⟨none, some 39, [(.tmp 40)], ⟨.f fMove, rMove⟩⟩])
 (.cond (.tmp 39)
 (.seq none
 (.reg [⟨none, some 41, [(.tmp 0)], ⟨.f fMove, rMove⟩⟩,
  ⟨none, some 42, [(.tmp 3)], ⟨.lr 3 9 true, rAny xl_slot_Take_Step (.lr 3 9 true)⟩⟩,
  ⟨none, some 43, [], ⟨.call .none s_layout_Top v_layout_Top, rCall v_layout_Top⟩⟩,
  ⟨none, some 44, [(.tmp 42), (.tmp 43)], ⟨.call .write s_layout_Env_Load v_layout_Env_Load, rCall v_layout_Env_Load⟩⟩,
  ⟨none, some 45, [(.tmp 41)], ⟨.f fNil, rNil⟩⟩,
  ⟨none, some 46, [(.tmp 45)], ⟨.f (fFld 1), rFld 1⟩⟩,
  ⟨none, none, [(.tmp 46), (.tmp 44)], ⟨.store 1, rStore1⟩⟩])
 (.seq none
 (.reg [⟨none, some 48, [(.tmp 0)], ⟨.f fMove, rMove⟩⟩,
  ⟨none, some 49, [(.tmp 0)], ⟨.f fMove, rMove⟩⟩,
  ⟨none, some 50, [(.tmp 49)], ⟨.f fNil, rNil⟩⟩,
  ⟨none, some 51, [(.tmp 50)], ⟨.f (fFld 1), rFld 1⟩⟩,
  ⟨none, some 52, [(.tmp 51)], ⟨.load 1 false, rLoad1⟩⟩,
  ⟨none, some 53, [(.tmp 52)], ⟨.call .none s_word_Top v_word_Top, rCall v_word_Top⟩⟩,
  ⟨none, some 47, [(.tmp 53)], ⟨.f fMove, rMove⟩⟩,
  ⟨none, some 54, [(.tmp 47)], ⟨.f (fExt 0), rAny xl_slot_Take_Step (.f (fExt 0))⟩⟩,
  ⟨none, some 55, [(.tmp 47)], ⟨.f (fExt 1), rAny xl_slot_Take_Step (.f (fExt 1))⟩⟩,
  ⟨none, some 56, [(.tmp 48)], ⟨.f fNil, rNil⟩⟩,
  ⟨none, some 57, [(.tmp 56)], ⟨.f (fFld 3), rFld 3⟩⟩,
  ⟨none, none, [(.tmp 57), (.tmp 54)], ⟨.store 1, rStore1⟩⟩])
 (.seq none
 (.reg [⟨none, some 58, [(.tmp 0)], ⟨.f fMove, rMove⟩⟩,
  ⟨none, some 59, [(.tmp 58)], ⟨.f fNil, rNil⟩⟩,
  ⟨none, some 60, [(.tmp 59)], ⟨.f (fFld 0), rFld 0⟩⟩,
  ⟨none, none, [(.tmp 60), (.const (.int .i64 1))], ⟨.store 1, rStore1⟩⟩])
 (.seq none
 (.reg [⟨none, some 61, [(.tmp 0)], ⟨.f fMove, rMove⟩⟩,
  ⟨none, some 62, [(.tmp 61)], ⟨.f fNil, rNil⟩⟩,
  ⟨none, some 63, [(.tmp 62)], ⟨.f (fFld 3), rFld 3⟩⟩,
  ⟨none, some 64, [(.tmp 63)], ⟨.load 1 false, rLoad1⟩⟩,
  ⟨none, some 65, [(.tmp 64), (.const (.int .i64 0))], ⟨.f (fBin .lss .no), rLss⟩⟩,
  ⟨none, some 4, [(.tmp 65)], ⟨.f fMove, rMove⟩⟩])
 .ret))))
 (.seq none
 (.reg [⟨none, some 67, [(.tmp 10), (.const (.int .i64 1))], ⟨.f (fBin .eql .no), rEql⟩⟩,
  ⟨none, some 66, [(.tmp 67)], ⟨.f fMove, rMove⟩⟩])
 (.cond (.tmp 66)
 (.seq none
 (.reg [⟨none, some 69, [(.tmp 0)], ⟨.f fMove, rMove⟩⟩,
  ⟨none, some 70, [(.tmp 3)], ⟨.lr 3 9 true, rAny xl_slot_Take_Step (.lr 3 9 true)⟩⟩,
  ⟨none, some 71, [(.tmp 3)], ⟨.f (fFld 0), rFld 0⟩⟩,
  ⟨none, some 72, [(.tmp 71)], ⟨.lr 3 7 true, rAny xl_slot_Take_Step (.lr 3 7 true)⟩⟩,
  ⟨none, some 73, [(.tmp 0)], ⟨.f fMove, rMove⟩⟩,
  ⟨none, some 74, [(.tmp 73)], ⟨.f fNil, rNil⟩⟩,
  ⟨none, some 75, [(.tmp 74)], ⟨.f (fFld 3), rFld 3⟩⟩,
  ⟨none, some 76, [(.tmp 75)], ⟨.load 1 false, rLoad1⟩⟩,
  ⟨none, some 77, [(.tmp 72), (.tmp 76)], ⟨.call .none s_layout_Slot v_layout_Slot, rCall v_layout_Slot⟩⟩,
  ⟨none, some 78, [(.tmp 77), (.const (.int .i64 1))], ⟨.f (fBin .add .no), rAdd⟩⟩,
  ⟨none, some 79, [(.tmp 70), (.tmp 78)], ⟨.call .write s_layout_Env_Load v_layout_Env_Load, rCall v_layout_Env_Load⟩⟩,
  ⟨none, some 80, [(.tmp 79)], ⟨.call .none s_word_Top v_word_Top, rCall v_word_Top⟩⟩,
  ⟨none, some 68, [(.tmp 80)], ⟨.f fMove, rMove⟩⟩,
  ⟨none, some 81, [(.tmp 68)], ⟨.f (fExt 0), rAny xl_slot_Take_Step (.f (fExt 0))⟩⟩,
  ⟨none, some 82, [(.tmp 68)], ⟨.f (fExt 1), rAny xl_slot_Take_Step (.f (fExt 1))⟩⟩,
  ⟨none, some 83, [(.tmp 69)], ⟨.f fNil, rNil⟩⟩,
  ⟨none, some 84, [(.tmp 83)], ⟨.f (fFld 2), rFld 2⟩⟩,
  ⟨none, none, [(.tmp 84), (.tmp 81)], ⟨.store 1, rStore1⟩⟩])
 (.reg [⟨none, some 85, [(.tmp 0)], ⟨.f fMove, rMove⟩⟩,
  ⟨none, some 86, [(.tmp 85)], ⟨.f fNil, rNil⟩⟩,
  ⟨none, some 87, [(.tmp 86)], ⟨.f (fFld 0), rFld 0⟩⟩,
  ⟨none, none, [(.tmp 87), (.const (.int .i64 2))], ⟨.store 1, rStore1⟩⟩]))
 (.seq none
 (.reg [⟨none, some 12, [(.tmp 0)], ⟨.f fMove, rMove⟩⟩,
  ⟨none, some 13, [(.tmp 12)], ⟨.f fNil, rNil⟩⟩,
  ⟨none, some 14, [(.tmp 13)], ⟨.f (fFld 1), rFld 1⟩⟩,
  ⟨none, some 15, [(.tmp 14)], ⟨.load 1 false, rLoad1⟩⟩,
  ⟨none, some 16, [(.tmp 15)], ⟨.call .none s_word_Top v_word_Top, rCall v_word_Top⟩⟩,
  ⟨none, some 11, [(.tmp 16)], ⟨.f fMove, rMove⟩⟩,
  ⟨none, some 17, [(.tmp 11)], ⟨.f (fExt 0), rAny xl_slot_Take_Step (.f (fExt 0))⟩⟩,
  ⟨none, some 18, [(.tmp 11)], ⟨.f (fExt 1), rAny xl_slot_Take_Step (.f (fExt 1))⟩⟩,
  ⟨none, some 5, [(.tmp 17)], ⟨.f fMove, rMove⟩⟩,
  ⟨none, some 6, [(.tmp 18)], ⟨.f fMove, rMove⟩⟩])
 (.seq none
 (.reg [⟨none, some 19, [(.tmp 0)], ⟨.f fMove, rMove⟩⟩,
  ⟨none, some 20, [(.tmp 19)], ⟨.f fNil, rNil⟩⟩,
  ⟨none, some 21, [(.tmp 20)], ⟨.f (fFld 0), rFld 0⟩⟩,
  ⟨none, none, [(.tmp 21), (.const (.int .i64 0))], ⟨.store 1, rStore1⟩⟩])
 (.reg [⟨none, some 22, [(.tmp 0)], ⟨.f fMove, rMove⟩⟩,
  ⟨none, some 23, [(.tmp 3)], ⟨.lr 3 9 true, rAny xl_slot_Take_Step (.lr 3 9 true)⟩⟩,
  ⟨none, some 24, [], ⟨.call .none s_layout_Top v_layout_Top, rCall v_layout_Top⟩⟩,
  ⟨none, some 25, [(.tmp 0)], ⟨.f fMove, rMove⟩⟩,
  ⟨none, some 26, [(.tmp 25)], ⟨.f fNil, rNil⟩⟩,
  ⟨none, some 27, [(.tmp 26)], ⟨.f (fFld 1), rFld 1⟩⟩,
  ⟨none, some 28, [(.tmp 27)], ⟨.load 1 false, rLoad1⟩⟩,
  ⟨none, some 29, [(.tmp 0)], ⟨.f fMove, rMove⟩⟩,
  ⟨none, some 30, [(.tmp 29)], ⟨.f fNil, rNil⟩⟩,
  ⟨none, some 31, [(.tmp 30)], ⟨.f (fFld 2), rFld 2⟩⟩,
  ⟨none, some 32, [(.tmp 31)], ⟨.load 1 false, rLoad1⟩⟩,
  ⟨none, some 33, [(.tmp 6)], ⟨.f fMove, rMove⟩⟩,
  ⟨none, some 34, [(.tmp 33), (.const (.int .i64 1))], ⟨.f (fBin .add .no), rAdd⟩⟩,
  ⟨none, some 35, [(.tmp 32), (.tmp 34)], ⟨.call .none s_word_PutTop v_word_PutTop, rCall v_word_PutTop⟩⟩,
  ⟨none, some 36, [(.tmp 23), (.tmp 24), (.tmp 28), (.tmp 35)], ⟨.call .write s_layout_Env_Cas v_layout_Env_Cas, rCall v_layout_Env_Cas⟩⟩,
  ⟨none, some 37, [(.tmp 22)], ⟨.f fNil, rNil⟩⟩,
  ⟨none, some 38, [(.tmp 37)], ⟨.f (fFld 4), rFld 4⟩⟩,
  ⟨none, none, [(.tmp 38), (.tmp 36)], ⟨.store 1, rStore1⟩⟩])))))))))
 (.seq none
 (.reg [⟨none, some 88, [(.tmp 0)], ⟨.f fMove, rMove⟩⟩,
  ⟨none, some 89, [(.tmp 88)], ⟨.f fNil, rNil⟩⟩,
  ⟨none, some 90, [(.tmp 89)], ⟨.f (fFld 4), rFld 4⟩⟩,
  ⟨none, some 91, [(.tmp 90)], ⟨.load 1 false, rLoad1⟩⟩,
  ⟨none, some 4, [(.tmp 91)], ⟨.f fMove, rMove⟩⟩])
 .ret)))
noncomputable def v_slot_Take_Step : EvF := evFn 2 xc_slot_Take_Step [.t 4]
theorem xt_slot_Take_Step : toC cx_slot_Take_Step (bodyOf Try.f60) = some (xc_slot_Take_Step.map XN.sm) := by kernel_rfl
theorem xr_slot_Take_Step : toR cx_slot_Take_Step Try.f60.results.toList = some [.t 4] := by kernel_rfl
theorem xo_slot_Take_Step : xc_slot_Take_Step.ok xl_slot_Take_Step := ⟨⟨rAny_ok (trivial), rMove_ok, trivial⟩, ⟨⟨⟨rMove_ok, rNil_ok, rFld_ok _, rLoad1_ok, trivial⟩, ⟨⟨rEql_ok, rMove_ok, trivial⟩, ⟨⟨⟨rMove_ok, rAny_ok (trivial), rCall_ok ve_layout_Top, rCall_ok ve_layout_Env_Load, rNil_ok, rFld_ok _, rStore1_ok, trivial⟩, ⟨⟨rMove_ok, rMove_ok, rNil_ok, rFld_ok _, rLoad1_ok, rCall_ok ve_word_Top, rMove_ok, rAny_ok (eqv_ext _), rAny_ok (eqv_ext _), rNil_ok, rFld_ok _, rStore1_ok, trivial⟩, ⟨⟨rMove_ok, rNil_ok, rFld_ok _, rStore1_ok, trivial⟩, ⟨⟨rMove_ok, rNil_ok, rFld_ok _, rLoad1_ok, rLss_ok, rMove_ok, trivial⟩, trivial⟩⟩⟩⟩, ⟨⟨rEql_ok, rMove_ok, trivial⟩, ⟨⟨⟨rMove_ok, rAny_ok (trivial), rFld_ok _, rAny_ok (trivial), rMove_ok, rNil_ok, rFld_ok _, rLoad1_ok, rCall_ok ve_layout_Slot, rAdd_ok, rCall_ok ve_layout_Env_Load, rCall_ok ve_word_Top, rMove_ok, rAny_ok (eqv_ext _), rAny_ok (eqv_ext _), rNil_ok, rFld_ok _, rStore1_ok, trivial⟩, ⟨rMove_ok, rNil_ok, rFld_ok _, rStore1_ok, trivial⟩⟩, ⟨⟨rMove_ok, rNil_ok, rFld_ok _, rLoad1_ok, rCall_ok ve_word_Top, rMove_ok, rAny_ok (eqv_ext _), rAny_ok (eqv_ext _), rMove_ok, rMove_ok, trivial⟩, ⟨⟨rMove_ok, rNil_ok, rFld_ok _, rStore1_ok, trivial⟩, ⟨rMove_ok, rAny_ok (trivial), rCall_ok ve_layout_Top, rMove_ok, rNil_ok, rFld_ok _, rLoad1_ok, rMove_ok, rNil_ok, rFld_ok _, rLoad1_ok, rMove_ok, rAdd_ok, rCall_ok ve_word_PutTop, rCall_ok ve_layout_Env_Cas, rNil_ok, rFld_ok _, rStore1_ok, trivial⟩⟩⟩⟩⟩⟩⟩⟩, ⟨⟨rMove_ok, rNil_ok, rFld_ok _, rLoad1_ok, rMove_ok, trivial⟩, trivial⟩⟩⟩
theorem ve_slot_Take_Step : EvOk s_slot_Take_Step v_slot_Take_Step := EvOk.of (evFn_sound (C := cx_slot_Take_Step) xt_slot_Take_Step xr_slot_Take_Step xo_slot_Take_Step) q_slot_Take_Step
attribute [irreducible] w_slot_Take_Step_j1b w_slot_Take_Step_j1 w_slot_Take_Step s_slot_Take_Step
def w_slot_Take_Slot_j1b (K : Value → Mem → Prop) (v0 v12 : Value) (σ : Mem) : Prop :=
xIf v12
 (xF fMove [(.int .i64 0)] fun v2 =>
xF fMove [(.bool false)] fun v3 =>
K (.tuple #[v2, v3]) σ)
 (xF fMove [v0] fun v13 =>
xF fNil [v13] fun v14 =>
xF (fFld 3) [v14] fun v15 =>
hLoad 1 false [v15] (fun v16 σ =>
xF fMove [v16] fun v2 =>
xF fMove [(.bool true)] fun v3 =>
K (.tuple #[v2, v3]) σ) σ)
def w_slot_Take_Slot_j1 (K : Value → Mem → Prop) (ts : List Value) (ls : List (List Value)) (σ : Mem) : Prop := w_slot_Take_Slot_j1b K (ts.getD 0 poison) (ts.getD 1 poison) σ
def w_slot_Take_Slot (a0 : Value) (K : Value → Mem → Prop) (σ : Mem) : Prop :=
xF fMove [(.int .i64 0)] fun v2 =>
xF fMove [(.bool false)] fun v3 =>
xJoin (w_slot_Take_Slot_j1 K) fun J1 =>
xF fMove [a0] fun v4 =>
xF (fBin .eql .ptr) [v4, (.pointer none)] fun v5 =>
xF fMove [v5] fun v6 =>
xIf v6
 (xF fPick [(.bool true), (.bool true), undef] fun v12 =>
J1 [a0, v12] [] σ)
 (xF fMove [a0] fun v7 =>
xF fNil [v7] fun v8 =>
xF (fFld 4) [v8] fun v9 =>
hLoad 1 false [v9] (fun v10 σ =>
xF (fUn .not) [v10] fun v11 =>
xF fPick [(.bool false), (.bool true), v11] fun v12 =>
J1 [a0, v12] [] σ) σ)
def s_slot_Take_Slot : Spec := fun args K σ => match args with
  | [a0] => w_slot_Take_Slot a0 K σ
  | _ => False
noncomputable def cx_slot_Take_Slot : Cx := { P := Try.prog, T := [], loc := [], eqt := [(130, .ptr)], n := 17, keep := [(1000003, [0, 12], [])] }
theorem q_slot_Take_Slot : FnS cx_slot_Take_Slot Try.f61 (bodyOf Try.f61) 1 = s_slot_Take_Slot := by
  funext args K σ
  rcases args with _ | ⟨a0, _ | ⟨b, r⟩⟩ <;> kernel_rfl
theorem e_slot_Take_Slot : Entry Try.prog 61 .read s_slot_Take_Slot :=
  entry (C := cx_slot_Take_Slot) TOk.nil mixedOk Try.func61 (by kernel_rfl) (by kernel_rfl) (by kernel_rfl) q_slot_Take_Slot
def xl_slot_Take_Slot : List (Nat × Nat) := []
noncomputable def xc_slot_Take_Slot : XC XN :=
(.seq none
 (.reg [⟨none, some 2, [(.const (.int .i64 0))], ⟨.f fMove, rMove⟩⟩,
  ⟨none, some 3, [(.const (.bool false))], ⟨.f fMove, rMove⟩⟩])
 (.seq none
 (.seq (some ([0, 12], []))
 (.reg [⟨none, some 4, [(.tmp 0)], ⟨.f fMove, rMove⟩⟩,
  ⟨none, some 5, [(.tmp 4), (.const (.pointer none))], ⟨.f (fBin .eql .ptr), rAny xl_slot_Take_Slot (.f (fBin .eql .ptr))⟩⟩,
  ⟨none, some 6, [(.tmp 5)], ⟨.f fMove, rMove⟩⟩,
  ⟨(some (3, 2, false, some 6)), some 7, [(.tmp 0)], ⟨.f fMove, rMove⟩⟩,
  ⟨(some (4, 2, false, some 6)), some 8, [(.tmp 7)], ⟨.f fNil, rNil⟩⟩,
  ⟨(some (5, 2, false, some 6)), some 9, [(.tmp 8)], ⟨.f (fFld 4), rFld 4⟩⟩,
  ⟨(some (6, 2, false, some 6)), some 10, [(.tmp 9)], ⟨.load 1 false, rLoad1⟩⟩,
  ⟨(some (7, 2, false, some 6)), some 11, [(.tmp 10)], ⟨.f (fUn .not), rNot⟩⟩,
  ⟨none, some 12, [(.tmp 6), (.const (.bool true)), (.tmp 11)], ⟨.f fPick, rPick⟩⟩])
 (.cond (.tmp 12)
 (.seq none
 (.reg [⟨none, some 2, [(.const (.int .i64 0))], ⟨.f fMove, rMove⟩⟩,
  ⟨none, some 3, [(.const (.bool false))], ⟨.f fMove, rMove⟩⟩])
 .ret)
 .skip))
 (.seq none
 (.reg [⟨none, some 13, [(.tmp 0)], ⟨.f fMove, rMove⟩⟩,
  ⟨none, some 14, [(.tmp 13)], ⟨.f fNil, rNil⟩⟩,
  ⟨none, some 15, [(.tmp 14)], ⟨.f (fFld 3), rFld 3⟩⟩,
  ⟨none, some 16, [(.tmp 15)], ⟨.load 1 false, rLoad1⟩⟩,
  ⟨none, some 2, [(.tmp 16)], ⟨.f fMove, rMove⟩⟩,
  ⟨none, some 3, [(.const (.bool true))], ⟨.f fMove, rMove⟩⟩])
 .ret)))
noncomputable def v_slot_Take_Slot : EvF := evFn 1 xc_slot_Take_Slot [.t 2, .t 3]
theorem xt_slot_Take_Slot : toC cx_slot_Take_Slot (bodyOf Try.f61) = some (xc_slot_Take_Slot.map XN.sm) := by kernel_rfl
theorem xr_slot_Take_Slot : toR cx_slot_Take_Slot Try.f61.results.toList = some [.t 2, .t 3] := by kernel_rfl
theorem xo_slot_Take_Slot : xc_slot_Take_Slot.ok xl_slot_Take_Slot := ⟨⟨rMove_ok, rMove_ok, trivial⟩, ⟨⟨⟨rMove_ok, rAny_ok (eqv_bin _ _), rMove_ok, rMove_ok, rNil_ok, rFld_ok _, rLoad1_ok, rNot_ok, rPick_ok, trivial⟩, ⟨⟨⟨rMove_ok, rMove_ok, trivial⟩, trivial⟩, trivial⟩⟩, ⟨⟨rMove_ok, rNil_ok, rFld_ok _, rLoad1_ok, rMove_ok, rMove_ok, trivial⟩, trivial⟩⟩⟩
theorem ve_slot_Take_Slot : EvOk s_slot_Take_Slot v_slot_Take_Slot := EvOk.of (evFn_sound (C := cx_slot_Take_Slot) xt_slot_Take_Slot xr_slot_Take_Slot xo_slot_Take_Slot) q_slot_Take_Slot
attribute [irreducible] w_slot_Take_Slot_j1b w_slot_Take_Slot_j1 w_slot_Take_Slot s_slot_Take_Slot
def w_word_Slot (a0 : Value) (K : Value → Mem → Prop) (σ : Mem) : Prop :=
if true = true then (xC (gAlloc [(.int .i64 0), (.int .i64 0), (.int .i64 0), (.int .i64 0)] [] []) fun c2 =>
xF fMove [a0] fun v3 =>
xF (fBin .and .no) [v3, (.int .u64 7)] fun v4 =>
xF (fConv .i64) [v4] fun v5 =>
xF fMove [a0] fun v6 =>
xF (fBin .shr .no) [v6, (.int .u64 3)] fun v7 =>
xF (fBin .and .no) [v7, (.int .u64 1048575)] fun v8 =>
xF (fConv .i64) [v8] fun v9 =>
xF fMove [a0] fun v10 =>
xF (fBin .shr .no) [v10, (.int .u64 23)] fun v11 =>
xF (fBin .and .no) [v11, (.int .u64 65535)] fun v12 =>
xF (fConv .i64) [v12] fun v13 =>
xF fMove [a0] fun v14 =>
xF (fBin .shr .no) [v14, (.int .u64 39)] fun v15 =>
xF (fBin .and .no) [v15, (.int .u64 4194303)] fun v16 =>
xF (fConv .i64) [v16] fun v17 =>
xF (fBuild [(0, 1), (1, 1), (2, 1), (3, 1)] [(.int .i64 0), (.int .i64 0), (.int .i64 0), (.int .i64 0)] [0, 1, 2, 3]) [v5, v9, v13, v17] fun v18 =>
xC (gStore 4 [(locP 2), v18] c2) fun c2 =>
xO (gLoad 4 true [(locP 2)] c2) fun r2 =>
K r2 σ) else False
def s_word_Slot : Spec := fun args K σ => match args with
  | [a0] => w_word_Slot a0 K σ
  | _ => False
noncomputable def cx_word_Slot : Cx := { P := Try.prog, T := [], loc := [(2, 2)], eqt := [], n := 19, keep := [] }
theorem q_word_Slot : FnS cx_word_Slot Try.f19 (bodyOf Try.f19) 1 = s_word_Slot := by
  funext args K σ
  rcases args with _ | ⟨a0, _ | ⟨b, r⟩⟩ <;> kernel_rfl
theorem e_word_Slot : Entry Try.prog 19 .none s_word_Slot :=
  entry (C := cx_word_Slot) TOk.nil mixedOk Try.func19 (by kernel_rfl) (by kernel_rfl) (by kernel_rfl) q_word_Slot
def xl_word_Slot : List (Nat × Nat) := [(2, 2)]
noncomputable def xc_word_Slot : XC XN :=
(.seq none
 (.reg [⟨none, some 2, [], ⟨.la 2 [(.int .i64 0), (.int .i64 0), (.int .i64 0), (.int .i64 0)], rAny xl_word_Slot (.la 2 [(.int .i64 0), (.int .i64 0), (.int .i64 0), (.int .i64 0)])⟩⟩])
 (.seq none
 (.reg [⟨none, some 3, [(.tmp 0)], ⟨.f fMove, rMove⟩⟩,
  ⟨none, some 4, [(.tmp 3), (.const (.int .u64 7))], ⟨.band .no, rAny xl_word_Slot (.band .no)⟩⟩,
  ⟨none, some 5, [(.tmp 4)], ⟨.f (fConv .i64), rConv .i64⟩⟩,
  ⟨none, some 6, [(.tmp 0)], ⟨.f fMove, rMove⟩⟩,
  ⟨none, some 7, [(.tmp 6), (.const (.int .u64 3))], ⟨.f (fBin .shr .no), rAny xl_word_Slot (.f (fBin .shr .no))⟩⟩,
  ⟨none, some 8, [(.tmp 7), (.const (.int .u64 1048575))], ⟨.band .no, rAny xl_word_Slot (.band .no)⟩⟩,
  ⟨none, some 9, [(.tmp 8)], ⟨.f (fConv .i64), rConv .i64⟩⟩,
  ⟨none, some 10, [(.tmp 0)], ⟨.f fMove, rMove⟩⟩,
  ⟨none, some 11, [(.tmp 10), (.const (.int .u64 23))], ⟨.f (fBin .shr .no), rAny xl_word_Slot (.f (fBin .shr .no))⟩⟩,
  ⟨none, some 12, [(.tmp 11), (.const (.int .u64 65535))], ⟨.band .no, rAny xl_word_Slot (.band .no)⟩⟩,
  ⟨none, some 13, [(.tmp 12)], ⟨.f (fConv .i64), rConv .i64⟩⟩,
  ⟨none, some 14, [(.tmp 0)], ⟨.f fMove, rMove⟩⟩,
  ⟨none, some 15, [(.tmp 14), (.const (.int .u64 39))], ⟨.f (fBin .shr .no), rAny xl_word_Slot (.f (fBin .shr .no))⟩⟩,
  ⟨none, some 16, [(.tmp 15), (.const (.int .u64 4194303))], ⟨.band .no, rAny xl_word_Slot (.band .no)⟩⟩,
  ⟨none, some 17, [(.tmp 16)], ⟨.f (fConv .i64), rConv .i64⟩⟩,
  ⟨none, some 18, [(.tmp 5), (.tmp 9), (.tmp 13), (.tmp 17)], ⟨.f (fBuild [(0, 1), (1, 1), (2, 1), (3, 1)] [(.int .i64 0), (.int .i64 0), (.int .i64 0), (.int .i64 0)] [0, 1, 2, 3]), rAny xl_word_Slot (.f (fBuild [(0, 1), (1, 1), (2, 1), (3, 1)] [(.int .i64 0), (.int .i64 0), (.int .i64 0), (.int .i64 0)] [0, 1, 2, 3]))⟩⟩,
  ⟨none, none, [(.tmp 2), (.tmp 18)], ⟨.ls 2 4, rAny xl_word_Slot (.ls 2 4)⟩⟩])
 .ret))
noncomputable def v_word_Slot : EvF := evFn 1 xc_word_Slot [.c 2 2 4 true]
theorem xt_word_Slot : toC cx_word_Slot (bodyOf Try.f19) = some (xc_word_Slot.map XN.sm) := by kernel_rfl
theorem xr_word_Slot : toR cx_word_Slot Try.f19.results.toList = some [.c 2 2 4 true] := by kernel_rfl
theorem xo_word_Slot : xc_word_Slot.ok xl_word_Slot := ⟨⟨rAny_ok (trivial), trivial⟩, ⟨⟨rMove_ok, rAny_ok (trivial), rConv_ok _, rMove_ok, rAny_ok (eqv_bin _ _), rAny_ok (trivial), rConv_ok _, rMove_ok, rAny_ok (eqv_bin _ _), rAny_ok (trivial), rConv_ok _, rMove_ok, rAny_ok (eqv_bin _ _), rAny_ok (trivial), rConv_ok _, rAny_ok (eqv_build _ rfl _), rAny_ok (trivial), trivial⟩, trivial⟩⟩
theorem ve_word_Slot : EvOk s_word_Slot v_word_Slot := EvOk.of (evFn_sound (C := cx_word_Slot) xt_word_Slot xr_word_Slot xo_word_Slot) q_word_Slot
attribute [irreducible] w_word_Slot s_word_Slot
def w_place_New (a0 : Value) (K : Value → Mem → Prop) (σ : Mem) : Prop :=
xF fMove [(.pointer none)] fun v2 =>
xF fMove [a0] fun v3 =>
xF (fBuild [(0, 1), (1, 1), (2, 1), (3, 1), (4, 1), (5, 2), (7, 1)] [(.int .i64 0), (.int .i64 0), (.int .u64 0), (.int .i64 0), (.int .u64 0), (.int .i64 0), (.int .i64 0), (.bool false)] [0]) [v3] fun v4 =>
hBox 8 [v4] (fun v5 σ =>
xF fMove [v5] fun v2 =>
K v2 σ) σ
def s_place_New : Spec := fun args K σ => match args with
  | [a0] => w_place_New a0 K σ
  | _ => False
noncomputable def cx_place_New : Cx := { P := Try.prog, T := [], loc := [], eqt := [], n := 6, keep := [] }
theorem q_place_New : FnS cx_place_New Try.f62 (bodyOf Try.f62) 1 = s_place_New := by
  funext args K σ
  rcases args with _ | ⟨a0, _ | ⟨b, r⟩⟩ <;> kernel_rfl
theorem e_place_New : Entry Try.prog 62 .write s_place_New :=
  entry (C := cx_place_New) TOk.nil mixedOk Try.func62 (by kernel_rfl) (by kernel_rfl) (by kernel_rfl) q_place_New
def xl_place_New : List (Nat × Nat) := []
noncomputable def xc_place_New : XC XN :=
(.seq none
 (.reg [⟨none, some 2, [(.const (.pointer none))], ⟨.f fMove, rMove⟩⟩])
 (.seq none
 (.reg [⟨none, some 3, [(.tmp 0)], ⟨.f fMove, rMove⟩⟩,
  ⟨none, some 4, [(.tmp 3)], ⟨.f (fBuild [(0, 1), (1, 1), (2, 1), (3, 1), (4, 1), (5, 2), (7, 1)] [(.int .i64 0), (.int .i64 0), (.int .u64 0), (.int .i64 0), (.int .u64 0), (.int .i64 0), (.int .i64 0), (.bool false)] [0]), rAny xl_place_New (.f (fBuild [(0, 1), (1, 1), (2, 1), (3, 1), (4, 1), (5, 2), (7, 1)] [(.int .i64 0), (.int .i64 0), (.int .u64 0), (.int .i64 0), (.int .u64 0), (.int .i64 0), (.int .i64 0), (.bool false)] [0]))⟩⟩,
  ⟨none, some 5, [(.tmp 4)], ⟨.box 8, rAny xl_place_New (.box 8)⟩⟩,
  ⟨none, some 2, [(.tmp 5)], ⟨.f fMove, rMove⟩⟩])
 .ret))
noncomputable def v_place_New : EvF := evFn 1 xc_place_New [.t 2]
theorem xt_place_New : toC cx_place_New (bodyOf Try.f62) = some (xc_place_New.map XN.sm) := by kernel_rfl
theorem xr_place_New : toR cx_place_New Try.f62.results.toList = some [.t 2] := by kernel_rfl
theorem xo_place_New : xc_place_New.ok xl_place_New := ⟨⟨rMove_ok, trivial⟩, ⟨⟨rMove_ok, rAny_ok (eqv_build _ rfl _), rAny_ok (trivial), rMove_ok, trivial⟩, trivial⟩⟩
theorem ve_place_New : EvOk s_place_New v_place_New := EvOk.of (evFn_sound (C := cx_place_New) xt_place_New xr_place_New xo_place_New) q_place_New
attribute [irreducible] w_place_New s_place_New
def w_layout_Open (a0 : Value) (K : Value → Mem → Prop) (σ : Mem) : Prop :=
xF fMove [(.int .i64 0)] fun v2 =>
xF fMove [a0] fun v3 =>
xF (fBin .add .no) [(.int .i64 2), v3] fun v4 =>
xF fMove [v4] fun v2 =>
K v2 σ
def s_layout_Open : Spec := fun args K σ => match args with
  | [a0] => w_layout_Open a0 K σ
  | _ => False
noncomputable def cx_layout_Open : Cx := { P := Try.prog, T := [], loc := [], eqt := [], n := 5, keep := [] }
theorem q_layout_Open : FnS cx_layout_Open Try.f83 (bodyOf Try.f83) 1 = s_layout_Open := by
  funext args K σ
  rcases args with _ | ⟨a0, _ | ⟨b, r⟩⟩ <;> kernel_rfl
theorem e_layout_Open : Entry Try.prog 83 .none s_layout_Open :=
  entry (C := cx_layout_Open) TOk.nil mixedOk Try.func83 (by kernel_rfl) (by kernel_rfl) (by kernel_rfl) q_layout_Open
def xl_layout_Open : List (Nat × Nat) := []
noncomputable def xc_layout_Open : XC XN :=
(.seq none
 (.reg [⟨none, some 2, [(.const (.int .i64 0))], ⟨.f fMove, rMove⟩⟩])
 (.seq none
 (.reg [⟨none, some 3, [(.tmp 0)], ⟨.f fMove, rMove⟩⟩,
  ⟨none, some 4, [(.const (.int .i64 2)), (.tmp 3)], ⟨.f (fBin .add .no), rAdd⟩⟩,
  ⟨none, some 2, [(.tmp 4)], ⟨.f fMove, rMove⟩⟩])
 .ret))
noncomputable def v_layout_Open : EvF := evFn 1 xc_layout_Open [.t 2]
theorem xt_layout_Open : toC cx_layout_Open (bodyOf Try.f83) = some (xc_layout_Open.map XN.sm) := by kernel_rfl
theorem xr_layout_Open : toR cx_layout_Open Try.f83.results.toList = some [.t 2] := by kernel_rfl
theorem xo_layout_Open : xc_layout_Open.ok xl_layout_Open := ⟨⟨rMove_ok, trivial⟩, ⟨⟨rMove_ok, rAdd_ok, rMove_ok, trivial⟩, trivial⟩⟩
theorem ve_layout_Open : EvOk s_layout_Open v_layout_Open := EvOk.of (evFn_sound (C := cx_layout_Open) xt_layout_Open xr_layout_Open xo_layout_Open) q_layout_Open
attribute [irreducible] w_layout_Open s_layout_Open
def w_layout_Chunk (a0 a1 : Value) (K : Value → Mem → Prop) (σ : Mem) : Prop :=
xC (gBox 7 [a0] []) fun c2 =>
xF fMove [(.int .i64 0)] fun v4 =>
xF (fFld 0) [(locP 2)] fun v5 =>
xO (gLoad 1 false [v5] c2) fun v6 =>
xF (fBin .add .no) [(.int .i64 6), v6] fun v7 =>
xF (fFld 1) [(locP 2)] fun v8 =>
xO (gLoad 1 false [v8] c2) fun v9 =>
xF (fBin .mul .no) [(.int .i64 2), v9] fun v10 =>
xF (fBin .add .no) [v7, v10] fun v11 =>
xF fMove [a1] fun v12 =>
xF (fBin .mul .no) [(.int .i64 3), v12] fun v13 =>
xF (fBin .add .no) [v11, v13] fun v14 =>
xF fMove [v14] fun v4 =>
K v4 σ
def s_layout_Chunk : Spec := fun args K σ => match args with
  | [a0, a1] => w_layout_Chunk a0 a1 K σ
  | _ => False
noncomputable def cx_layout_Chunk : Cx := { P := Try.prog, T := [], loc := [(2, 2), (5, 2), (8, 2)], eqt := [], n := 15, keep := [] }
theorem q_layout_Chunk : FnS cx_layout_Chunk Try.f67 (bodyOf Try.f67) 2 = s_layout_Chunk := by
  funext args K σ
  rcases args with _ | ⟨a0, _ | ⟨a1, _ | ⟨b, r⟩⟩⟩ <;> kernel_rfl
theorem e_layout_Chunk : Entry Try.prog 67 .none s_layout_Chunk :=
  entry (C := cx_layout_Chunk) TOk.nil mixedOk Try.func67 (by kernel_rfl) (by kernel_rfl) (by kernel_rfl) q_layout_Chunk
def xl_layout_Chunk : List (Nat × Nat) := [(2, 2), (5, 2), (8, 2)]
noncomputable def xc_layout_Chunk : XC XN :=
(.seq none
 (.reg [⟨none, some 2, [(.tmp 0)], ⟨.lb 2 7, rAny xl_layout_Chunk (.lb 2 7)⟩⟩,
  ⟨none, some 4, [(.const (.int .i64 0))], ⟨.f fMove, rMove⟩⟩])
 (.seq none
 (.reg [⟨none, some 5, [(.tmp 2)], ⟨.f (fFld 0), rFld 0⟩⟩,
  ⟨none, some 6, [(.tmp 5)], ⟨.lr 2 1 false, rLr1 2⟩⟩,
  ⟨none, some 7, [(.const (.int .i64 6)), (.tmp 6)], ⟨.f (fBin .add .no), rAdd⟩⟩,
  ⟨none, some 8, [(.tmp 2)], ⟨.f (fFld 1), rFld 1⟩⟩,
  ⟨none, some 9, [(.tmp 8)], ⟨.lr 2 1 false, rLr1 2⟩⟩,
  ⟨none, some 10, [(.const (.int .i64 2)), (.tmp 9)], ⟨.f (fBin .mul .no), rMul⟩⟩,
  ⟨none, some 11, [(.tmp 7), (.tmp 10)], ⟨.f (fBin .add .no), rAdd⟩⟩,
  ⟨none, some 12, [(.tmp 1)], ⟨.f fMove, rMove⟩⟩,
  ⟨none, some 13, [(.const (.int .i64 3)), (.tmp 12)], ⟨.f (fBin .mul .no), rMul⟩⟩,
  ⟨none, some 14, [(.tmp 11), (.tmp 13)], ⟨.f (fBin .add .no), rAdd⟩⟩,
  ⟨none, some 4, [(.tmp 14)], ⟨.f fMove, rMove⟩⟩])
 .ret))
noncomputable def v_layout_Chunk : EvF := evFn 2 xc_layout_Chunk [.t 4]
theorem xt_layout_Chunk : toC cx_layout_Chunk (bodyOf Try.f67) = some (xc_layout_Chunk.map XN.sm) := by kernel_rfl
theorem xr_layout_Chunk : toR cx_layout_Chunk Try.f67.results.toList = some [.t 4] := by kernel_rfl
theorem xo_layout_Chunk : xc_layout_Chunk.ok xl_layout_Chunk := ⟨⟨rAny_ok (trivial), rMove_ok, trivial⟩, ⟨⟨rFld_ok _, rLr1_ok _, rAdd_ok, rFld_ok _, rLr1_ok _, rMul_ok, rAdd_ok, rMove_ok, rMul_ok, rAdd_ok, rMove_ok, trivial⟩, trivial⟩⟩
theorem ve_layout_Chunk : EvOk s_layout_Chunk v_layout_Chunk := EvOk.of (evFn_sound (C := cx_layout_Chunk) xt_layout_Chunk xr_layout_Chunk xo_layout_Chunk) q_layout_Chunk
attribute [irreducible] w_layout_Chunk s_layout_Chunk
def w_word_Chunk (a0 : Value) (K : Value → Mem → Prop) (σ : Mem) : Prop :=
if true = true then (xC (gAlloc [(.int .i64 0), (.int .i64 0), (.int .i64 0), (.int .i64 0)] [] []) fun c2 =>
xF fMove [a0] fun v3 =>
xF (fBin .and .no) [v3, (.int .u64 3)] fun v4 =>
xF (fConv .i64) [v4] fun v5 =>
xF fMove [a0] fun v6 =>
xF (fBin .shr .no) [v6, (.int .u64 2)] fun v7 =>
xF (fBin .and .no) [v7, (.int .u64 63)] fun v8 =>
xF (fConv .i64) [v8] fun v9 =>
xF fMove [a0] fun v10 =>
xF (fBin .shr .no) [v10, (.int .u64 8)] fun v11 =>
xF (fBin .and .no) [v11, (.int .u64 1048575)] fun v12 =>
xF (fConv .i64) [v12] fun v13 =>
xF fMove [a0] fun v14 =>
xF (fBin .shr .no) [v14, (.int .u64 28)] fun v15 =>
xF (fBin .and .no) [v15, (.int .u64 68719476735)] fun v16 =>
xF (fConv .i64) [v16] fun v17 =>
xF (fBuild [(0, 1), (1, 1), (2, 1), (3, 1)] [(.int .i64 0), (.int .i64 0), (.int .i64 0), (.int .i64 0)] [0, 1, 2, 3]) [v5, v9, v13, v17] fun v18 =>
xC (gStore 4 [(locP 2), v18] c2) fun c2 =>
xO (gLoad 4 true [(locP 2)] c2) fun r2 =>
K r2 σ) else False
def s_word_Chunk : Spec := fun args K σ => match args with
  | [a0] => w_word_Chunk a0 K σ
  | _ => False
noncomputable def cx_word_Chunk : Cx := { P := Try.prog, T := [], loc := [(2, 2)], eqt := [], n := 19, keep := [] }
theorem q_word_Chunk : FnS cx_word_Chunk Try.f84 (bodyOf Try.f84) 1 = s_word_Chunk := by
  funext args K σ
  rcases args with _ | ⟨a0, _ | ⟨b, r⟩⟩ <;> kernel_rfl
theorem e_word_Chunk : Entry Try.prog 84 .none s_word_Chunk :=
  entry (C := cx_word_Chunk) TOk.nil mixedOk Try.func84 (by kernel_rfl) (by kernel_rfl) (by kernel_rfl) q_word_Chunk
def xl_word_Chunk : List (Nat × Nat) := [(2, 2)]
noncomputable def xc_word_Chunk : XC XN :=
(.seq none
 (.reg [⟨none, some 2, [], ⟨.la 2 [(.int .i64 0), (.int .i64 0), (.int .i64 0), (.int .i64 0)], rAny xl_word_Chunk (.la 2 [(.int .i64 0), (.int .i64 0), (.int .i64 0), (.int .i64 0)])⟩⟩])
 (.seq none
 (.reg [⟨none, some 3, [(.tmp 0)], ⟨.f fMove, rMove⟩⟩,
  ⟨none, some 4, [(.tmp 3), (.const (.int .u64 3))], ⟨.band .no, rAny xl_word_Chunk (.band .no)⟩⟩,
  ⟨none, some 5, [(.tmp 4)], ⟨.f (fConv .i64), rConv .i64⟩⟩,
  ⟨none, some 6, [(.tmp 0)], ⟨.f fMove, rMove⟩⟩,
  ⟨none, some 7, [(.tmp 6), (.const (.int .u64 2))], ⟨.f (fBin .shr .no), rAny xl_word_Chunk (.f (fBin .shr .no))⟩⟩,
  ⟨none, some 8, [(.tmp 7), (.const (.int .u64 63))], ⟨.band .no, rAny xl_word_Chunk (.band .no)⟩⟩,
  ⟨none, some 9, [(.tmp 8)], ⟨.f (fConv .i64), rConv .i64⟩⟩,
  ⟨none, some 10, [(.tmp 0)], ⟨.f fMove, rMove⟩⟩,
  ⟨none, some 11, [(.tmp 10), (.const (.int .u64 8))], ⟨.f (fBin .shr .no), rAny xl_word_Chunk (.f (fBin .shr .no))⟩⟩,
  ⟨none, some 12, [(.tmp 11), (.const (.int .u64 1048575))], ⟨.band .no, rAny xl_word_Chunk (.band .no)⟩⟩,
  ⟨none, some 13, [(.tmp 12)], ⟨.f (fConv .i64), rConv .i64⟩⟩,
  ⟨none, some 14, [(.tmp 0)], ⟨.f fMove, rMove⟩⟩,
  ⟨none, some 15, [(.tmp 14), (.const (.int .u64 28))], ⟨.f (fBin .shr .no), rAny xl_word_Chunk (.f (fBin .shr .no))⟩⟩,
  ⟨none, some 16, [(.tmp 15), (.const (.int .u64 68719476735))], ⟨.band .no, rAny xl_word_Chunk (.band .no)⟩⟩,
  ⟨none, some 17, [(.tmp 16)], ⟨.f (fConv .i64), rConv .i64⟩⟩,
  ⟨none, some 18, [(.tmp 5), (.tmp 9), (.tmp 13), (.tmp 17)], ⟨.f (fBuild [(0, 1), (1, 1), (2, 1), (3, 1)] [(.int .i64 0), (.int .i64 0), (.int .i64 0), (.int .i64 0)] [0, 1, 2, 3]), rAny xl_word_Chunk (.f (fBuild [(0, 1), (1, 1), (2, 1), (3, 1)] [(.int .i64 0), (.int .i64 0), (.int .i64 0), (.int .i64 0)] [0, 1, 2, 3]))⟩⟩,
  ⟨none, none, [(.tmp 2), (.tmp 18)], ⟨.ls 2 4, rAny xl_word_Chunk (.ls 2 4)⟩⟩])
 .ret))
noncomputable def v_word_Chunk : EvF := evFn 1 xc_word_Chunk [.c 2 2 4 true]
theorem xt_word_Chunk : toC cx_word_Chunk (bodyOf Try.f84) = some (xc_word_Chunk.map XN.sm) := by kernel_rfl
theorem xr_word_Chunk : toR cx_word_Chunk Try.f84.results.toList = some [.c 2 2 4 true] := by kernel_rfl
theorem xo_word_Chunk : xc_word_Chunk.ok xl_word_Chunk := ⟨⟨rAny_ok (trivial), trivial⟩, ⟨⟨rMove_ok, rAny_ok (trivial), rConv_ok _, rMove_ok, rAny_ok (eqv_bin _ _), rAny_ok (trivial), rConv_ok _, rMove_ok, rAny_ok (eqv_bin _ _), rAny_ok (trivial), rConv_ok _, rMove_ok, rAny_ok (eqv_bin _ _), rAny_ok (trivial), rConv_ok _, rAny_ok (eqv_build _ rfl _), rAny_ok (trivial), trivial⟩, trivial⟩⟩
theorem ve_word_Chunk : EvOk s_word_Chunk v_word_Chunk := EvOk.of (evFn_sound (C := cx_word_Chunk) xt_word_Chunk xr_word_Chunk xo_word_Chunk) q_word_Chunk
attribute [irreducible] w_word_Chunk s_word_Chunk
def w_layout_Room (a0 : Value) (K : Value → Mem → Prop) (σ : Mem) : Prop :=
xF fMove [(.int .i64 0)] fun v2 =>
xF fMove [a0] fun v3 =>
xF (fBin .shl .no) [(.int .i64 2), v3] fun v4 =>
xF (fBin .add .no) [(.int .i64 1), v4] fun v5 =>
xF fMove [v5] fun v2 =>
K v2 σ
def s_layout_Room : Spec := fun args K σ => match args with
  | [a0] => w_layout_Room a0 K σ
  | _ => False
noncomputable def cx_layout_Room : Cx := { P := Try.prog, T := [], loc := [], eqt := [], n := 6, keep := [] }
theorem q_layout_Room : FnS cx_layout_Room Try.f68 (bodyOf Try.f68) 1 = s_layout_Room := by
  funext args K σ
  rcases args with _ | ⟨a0, _ | ⟨b, r⟩⟩ <;> kernel_rfl
theorem e_layout_Room : Entry Try.prog 68 .none s_layout_Room :=
  entry (C := cx_layout_Room) TOk.nil mixedOk Try.func68 (by kernel_rfl) (by kernel_rfl) (by kernel_rfl) q_layout_Room
def xl_layout_Room : List (Nat × Nat) := []
noncomputable def xc_layout_Room : XC XN :=
(.seq none
 (.reg [⟨none, some 2, [(.const (.int .i64 0))], ⟨.f fMove, rMove⟩⟩])
 (.seq none
 (.reg [⟨none, some 3, [(.tmp 0)], ⟨.f fMove, rMove⟩⟩,
  ⟨none, some 4, [(.const (.int .i64 2)), (.tmp 3)], ⟨.f (fBin .shl .no), rAny xl_layout_Room (.f (fBin .shl .no))⟩⟩,
  ⟨none, some 5, [(.const (.int .i64 1)), (.tmp 4)], ⟨.f (fBin .add .no), rAdd⟩⟩,
  ⟨none, some 2, [(.tmp 5)], ⟨.f fMove, rMove⟩⟩])
 .ret))
noncomputable def v_layout_Room : EvF := evFn 1 xc_layout_Room [.t 2]
theorem xt_layout_Room : toC cx_layout_Room (bodyOf Try.f68) = some (xc_layout_Room.map XN.sm) := by kernel_rfl
theorem xr_layout_Room : toR cx_layout_Room Try.f68.results.toList = some [.t 2] := by kernel_rfl
theorem xo_layout_Room : xc_layout_Room.ok xl_layout_Room := ⟨⟨rMove_ok, trivial⟩, ⟨⟨rMove_ok, rAny_ok (eqv_bin _ _), rAdd_ok, rMove_ok, trivial⟩, trivial⟩⟩
theorem ve_layout_Room : EvOk s_layout_Room v_layout_Room := EvOk.of (evFn_sound (C := cx_layout_Room) xt_layout_Room xr_layout_Room xo_layout_Room) q_layout_Room
attribute [irreducible] w_layout_Room s_layout_Room
def w_word_PutChunk (a0 : Value) (K : Value → Mem → Prop) (σ : Mem) : Prop :=
xC (gBox 4 [a0] []) fun c1 =>
xF fMove [(.int .u64 0)] fun v2 =>
xF (fFld 0) [(locP 1)] fun v3 =>
xO (gLoad 1 false [v3] c1) fun v4 =>
s_word_fit [v4, (.int .i64 3)] (fun v5 σ =>
xF (fFld 1) [(locP 1)] fun v6 =>
xO (gLoad 1 false [v6] c1) fun v7 =>
s_word_fit [v7, (.int .i64 63)] (fun v8 σ =>
xF (fBin .shl .no) [v8, (.int .u64 2)] fun v9 =>
xF (fBin .or .no) [v5, v9] fun v10 =>
xF (fFld 2) [(locP 1)] fun v11 =>
xO (gLoad 1 false [v11] c1) fun v12 =>
s_word_fit [v12, (.int .i64 1048575)] (fun v13 σ =>
xF (fBin .shl .no) [v13, (.int .u64 8)] fun v14 =>
xF (fBin .or .no) [v10, v14] fun v15 =>
xF (fFld 3) [(locP 1)] fun v16 =>
xO (gLoad 1 false [v16] c1) fun v17 =>
s_word_fit [v17, (.int .i64 68719476735)] (fun v18 σ =>
xF (fBin .shl .no) [v18, (.int .u64 28)] fun v19 =>
xF (fBin .or .no) [v15, v19] fun v20 =>
xF fMove [v20] fun v2 =>
K v2 σ) σ) σ) σ) σ
def s_word_PutChunk : Spec := fun args K σ => match args with
  | [a0] => w_word_PutChunk a0 K σ
  | _ => False
noncomputable def cx_word_PutChunk : Cx := { P := Try.prog, T := [(48, .none, s_word_fit)], loc := [(1, 1), (3, 1), (6, 1), (11, 1), (16, 1)], eqt := [], n := 21, keep := [] }
theorem q_word_PutChunk : FnS cx_word_PutChunk Try.f88 (bodyOf Try.f88) 1 = s_word_PutChunk := by
  funext args K σ
  rcases args with _ | ⟨a0, _ | ⟨b, r⟩⟩ <;> kernel_rfl
theorem e_word_PutChunk : Entry Try.prog 88 .none s_word_PutChunk :=
  entry (C := cx_word_PutChunk) (TOk.cons e_word_fit TOk.nil) mixedOk Try.func88 (by kernel_rfl) (by kernel_rfl) (by kernel_rfl) q_word_PutChunk
def xl_word_PutChunk : List (Nat × Nat) := [(1, 1), (3, 1), (6, 1), (11, 1), (16, 1)]
noncomputable def xc_word_PutChunk : XC XN :=
(.seq none
 (.reg [⟨none, some 1, [(.tmp 0)], ⟨.lb 1 4, rAny xl_word_PutChunk (.lb 1 4)⟩⟩,
  ⟨none, some 2, [(.const (.int .u64 0))], ⟨.f fMove, rMove⟩⟩])
 (.seq none
 (.reg [⟨none, some 3, [(.tmp 1)], ⟨.f (fFld 0), rFld 0⟩⟩,
  ⟨none, some 4, [(.tmp 3)], ⟨.lr 1 1 false, rLr1 1⟩⟩,
  ⟨none, some 5, [(.tmp 4), (.const (.int .i64 3))], ⟨.call .none s_word_fit v_word_fit, rCall v_word_fit⟩⟩,
  ⟨none, some 6, [(.tmp 1)], ⟨.f (fFld 1), rFld 1⟩⟩,
  ⟨none, some 7, [(.tmp 6)], ⟨.lr 1 1 false, rLr1 1⟩⟩,
  ⟨none, some 8, [(.tmp 7), (.const (.int .i64 63))], ⟨.call .none s_word_fit v_word_fit, rCall v_word_fit⟩⟩,
  ⟨none, some 9, [(.tmp 8), (.const (.int .u64 2))], ⟨.f (fBin .shl .no), rAny xl_word_PutChunk (.f (fBin .shl .no))⟩⟩,
  ⟨none, some 10, [(.tmp 5), (.tmp 9)], ⟨.f (fBin .or .no), rAny xl_word_PutChunk (.f (fBin .or .no))⟩⟩,
  ⟨none, some 11, [(.tmp 1)], ⟨.f (fFld 2), rFld 2⟩⟩,
  ⟨none, some 12, [(.tmp 11)], ⟨.lr 1 1 false, rLr1 1⟩⟩,
  ⟨none, some 13, [(.tmp 12), (.const (.int .i64 1048575))], ⟨.call .none s_word_fit v_word_fit, rCall v_word_fit⟩⟩,
  ⟨none, some 14, [(.tmp 13), (.const (.int .u64 8))], ⟨.f (fBin .shl .no), rAny xl_word_PutChunk (.f (fBin .shl .no))⟩⟩,
  ⟨none, some 15, [(.tmp 10), (.tmp 14)], ⟨.f (fBin .or .no), rAny xl_word_PutChunk (.f (fBin .or .no))⟩⟩,
  ⟨none, some 16, [(.tmp 1)], ⟨.f (fFld 3), rFld 3⟩⟩,
  ⟨none, some 17, [(.tmp 16)], ⟨.lr 1 1 false, rLr1 1⟩⟩,
  ⟨none, some 18, [(.tmp 17), (.const (.int .i64 68719476735))], ⟨.call .none s_word_fit v_word_fit, rCall v_word_fit⟩⟩,
  ⟨none, some 19, [(.tmp 18), (.const (.int .u64 28))], ⟨.f (fBin .shl .no), rAny xl_word_PutChunk (.f (fBin .shl .no))⟩⟩,
  ⟨none, some 20, [(.tmp 15), (.tmp 19)], ⟨.f (fBin .or .no), rAny xl_word_PutChunk (.f (fBin .or .no))⟩⟩,
  ⟨none, some 2, [(.tmp 20)], ⟨.f fMove, rMove⟩⟩])
 .ret))
noncomputable def v_word_PutChunk : EvF := evFn 1 xc_word_PutChunk [.t 2]
theorem xt_word_PutChunk : toC cx_word_PutChunk (bodyOf Try.f88) = some (xc_word_PutChunk.map XN.sm) := by kernel_rfl
theorem xr_word_PutChunk : toR cx_word_PutChunk Try.f88.results.toList = some [.t 2] := by kernel_rfl
theorem xo_word_PutChunk : xc_word_PutChunk.ok xl_word_PutChunk := ⟨⟨rAny_ok (trivial), rMove_ok, trivial⟩, ⟨⟨rFld_ok _, rLr1_ok _, rCall_ok ve_word_fit, rFld_ok _, rLr1_ok _, rCall_ok ve_word_fit, rAny_ok (eqv_bin _ _), rAny_ok (eqv_bin _ _), rFld_ok _, rLr1_ok _, rCall_ok ve_word_fit, rAny_ok (eqv_bin _ _), rAny_ok (eqv_bin _ _), rFld_ok _, rLr1_ok _, rCall_ok ve_word_fit, rAny_ok (eqv_bin _ _), rAny_ok (eqv_bin _ _), rMove_ok, trivial⟩, trivial⟩⟩
theorem ve_word_PutChunk : EvOk s_word_PutChunk v_word_PutChunk := EvOk.of (evFn_sound (C := cx_word_PutChunk) xt_word_PutChunk xr_word_PutChunk xo_word_PutChunk) q_word_PutChunk
attribute [irreducible] w_word_PutChunk s_word_PutChunk
def w_place_Place_get (a0 a1 : Value) (K : Value → Mem → Prop) (σ : Mem) : Prop :=
xC (gBox 9 [a1] []) fun c3 =>
xF fMove [(.bool false)] fun v4 =>
xF fMove [a0] fun v7 =>
xF fNil [v7] fun v8 =>
xF (fFld 4) [v8] fun v9 =>
hLoad 1 false [v9] (fun v10 σ =>
s_word_Chunk [v10] (fun v11 σ =>
xC (gStore 4 [(locP 5), v11] [(.int .i64 0), (.int .i64 0), (.int .i64 0), (.int .i64 0)]) fun c5 =>
xF (fFld 2) [(locP 5)] fun v12 =>
xO (gLoad 1 false [v12] c5) fun v13 =>
xF fMove [v13] fun v6 =>
xF (fFld 2) [(locP 5)] fun v14 =>
xO (gLoad 1 false [v14] c5) fun v15 =>
xF fMove [a0] fun v16 =>
xF fNil [v16] fun v17 =>
xF (fFld 0) [v17] fun v18 =>
hLoad 1 false [v18] (fun v19 σ =>
s_layout_Room [v19] (fun v20 σ =>
xF (fBin .add .no) [v15, v20] fun v21 =>
xF (fFld 2) [(locP 5)] fun v22 =>
xC (gStore 1 [v22, v21] c5) fun c5 =>
xF fMove [a0] fun v23 =>
xF fNil [v23] fun v24 =>
xF (fFld 1) [v24] fun v25 =>
hStore 1 [v25, (.int .i64 0)] (fun _v σ =>
xO (gLoad 9 true [(locP 3)] c3) fun v26 =>
xF (fFld 0) [(locP 3)] fun v27 =>
xO (gLoad 7 true [v27] c3) fun v28 =>
xF fMove [a0] fun v29 =>
xF fNil [v29] fun v30 =>
xF (fFld 3) [v30] fun v31 =>
hLoad 1 false [v31] (fun v32 σ =>
s_layout_Chunk [v28, v32] (fun v33 σ =>
xF fMove [a0] fun v34 =>
xF fNil [v34] fun v35 =>
xF (fFld 4) [v35] fun v36 =>
hLoad 1 false [v36] (fun v37 σ =>
xO (gLoad 4 true [(locP 5)] c5) fun v38 =>
s_word_PutChunk [v38] (fun v39 σ =>
s_layout_Env_Cas [v26, v33, v37, v39] (fun v40 σ =>
xF (fUn .not) [v40] fun v41 =>
xIf v41
 (xF fMove [(.bool false)] fun v4 =>
K v4 σ)
 (xF fMove [a0] fun v42 =>
xF fMove [a0] fun v43 =>
xF (fFld 0) [(locP 3)] fun v44 =>
xO (gLoad 7 true [v44] c3) fun v45 =>
xF fMove [a0] fun v46 =>
xF fNil [v46] fun v47 =>
xF (fFld 3) [v47] fun v48 =>
hLoad 1 false [v48] (fun v49 σ =>
s_layout_Base [v45, v49] (fun v50 σ =>
xF fMove [v6] fun v51 =>
xF (fBin .add .no) [v50, v51] fun v52 =>
xF fMove [a0] fun v53 =>
xF fNil [v53] fun v54 =>
xF (fFld 3) [v54] fun v55 =>
hLoad 1 false [v55] (fun v56 σ =>
xF (fBuild [(0, 1), (1, 1)] [(.int .i64 0), (.int .i64 0)] [0, 1]) [v52, v56] fun v57 =>
xF fNil [v42] fun v58 =>
xF (fFld 5) [v58] fun v59 =>
hStore 2 [v59, v57] (fun _v σ =>
xF fNil [v43] fun v60 =>
xF (fFld 7) [v60] fun v61 =>
hStore 1 [v61, (.bool true)] (fun _v σ =>
xF fMove [(.bool true)] fun v4 =>
K v4 σ) σ) σ) σ) σ) σ)) σ) σ) σ) σ) σ) σ) σ) σ) σ) σ
def s_place_Place_get : Spec := fun args K σ => match args with
  | [a0, a1] => w_place_Place_get a0 a1 K σ
  | _ => False
noncomputable def cx_place_Place_get : Cx := { P := Try.prog, T := [(84, .none, s_word_Chunk), (68, .none, s_layout_Room), (67, .none, s_layout_Chunk), (88, .none, s_word_PutChunk), (43, .write, s_layout_Env_Cas), (81, .none, s_layout_Base)], loc := [(3, 3), (5, 5), (12, 5), (14, 5), (22, 5), (27, 3), (44, 3)], eqt := [], n := 62, keep := [] }
theorem q_place_Place_get : FnS cx_place_Place_get Try.f85 (bodyOf Try.f85) 2 = s_place_Place_get := by
  funext args K σ
  rcases args with _ | ⟨a0, _ | ⟨a1, _ | ⟨b, r⟩⟩⟩ <;> kernel_rfl
theorem e_place_Place_get : Entry Try.prog 85 .write s_place_Place_get :=
  entry (C := cx_place_Place_get) (TOk.cons e_word_Chunk (TOk.cons e_layout_Room (TOk.cons e_layout_Chunk (TOk.cons e_word_PutChunk (TOk.cons e_layout_Env_Cas (TOk.cons e_layout_Base TOk.nil)))))) mixedOk Try.func85 (by kernel_rfl) (by kernel_rfl) (by kernel_rfl) q_place_Place_get
def xl_place_Place_get : List (Nat × Nat) := [(3, 3), (5, 5), (12, 5), (14, 5), (22, 5), (27, 3), (44, 3)]
noncomputable def xc_place_Place_get : XC XN :=
(.seq none
 (.reg [⟨none, some 3, [(.tmp 1)], ⟨.lb 3 9, rAny xl_place_Place_get (.lb 3 9)⟩⟩,
  ⟨none, some 4, [(.const (.bool false))], ⟨.f fMove, rMove⟩⟩])
 (.seq none
 (.reg [⟨none, some 7, [(.tmp 0)], ⟨.f fMove, rMove⟩⟩,
  ⟨none, some 8, [(.tmp 7)], ⟨.f fNil, rNil⟩⟩,
  ⟨none, some 9, [(.tmp 8)], ⟨.f (fFld 4), rFld 4⟩⟩,
  ⟨none, some 10, [(.tmp 9)], ⟨.load 1 false, rLoad1⟩⟩,
  ⟨none, some 11, [(.tmp 10)], ⟨.call .none s_word_Chunk v_word_Chunk, rCall v_word_Chunk⟩⟩,
  ⟨none, some 5, [], ⟨.la 5 [(.int .i64 0), (.int .i64 0), (.int .i64 0), (.int .i64 0)], rAny xl_place_Place_get (.la 5 [(.int .i64 0), (.int .i64 0), (.int .i64 0), (.int .i64 0)])⟩⟩,
  ⟨none, none, [(.tmp 5), (.tmp 11)], ⟨.ls 5 4, rAny xl_place_Place_get (.ls 5 4)⟩⟩])
 (.seq none
 (.reg [⟨none, some 12, [(.tmp 5)], ⟨.f (fFld 2), rFld 2⟩⟩,
  ⟨none, some 13, [(.tmp 12)], ⟨.lr 5 1 false, rLr1 5⟩⟩,
  ⟨none, some 6, [(.tmp 13)], ⟨.f fMove, rMove⟩⟩])
 (.seq none
 (.reg [⟨none, some 14, [(.tmp 5)], ⟨.f (fFld 2), rFld 2⟩⟩,
  ⟨none, some 15, [(.tmp 14)], ⟨.lr 5 1 false, rLr1 5⟩⟩,
  ⟨none, some 16, [(.tmp 0)], ⟨.f fMove, rMove⟩⟩,
  ⟨none, some 17, [(.tmp 16)], ⟨.f fNil, rNil⟩⟩,
  ⟨none, some 18, [(.tmp 17)], ⟨.f (fFld 0), rFld 0⟩⟩,
  ⟨none, some 19, [(.tmp 18)], ⟨.load 1 false, rLoad1⟩⟩,
  ⟨none, some 20, [(.tmp 19)], ⟨.call .none s_layout_Room v_layout_Room, rCall v_layout_Room⟩⟩,
  ⟨none, some 21, [(.tmp 15), (.tmp 20)], ⟨.f (fBin .add .no), rAdd⟩⟩,
  ⟨none, some 22, [(.tmp 5)], ⟨.f (fFld 2), rFld 2⟩⟩,
  ⟨none, none, [(.tmp 22), (.tmp 21)], ⟨.ls 5 1, rLs1 5⟩⟩])
 (.seq none
 (.reg [⟨none, some 23, [(.tmp 0)], ⟨.f fMove, rMove⟩⟩,
  ⟨none, some 24, [(.tmp 23)], ⟨.f fNil, rNil⟩⟩,
  ⟨none, some 25, [(.tmp 24)], ⟨.f (fFld 1), rFld 1⟩⟩,
  ⟨none, none, [(.tmp 25), (.const (.int .i64 0))], ⟨.store 1, rStore1⟩⟩])
 (.seq none
 (.seq none
 (.reg [⟨none, some 26, [(.tmp 3)], ⟨.lr 3 9 true, rAny xl_place_Place_get (.lr 3 9 true)⟩⟩,
  ⟨none, some 27, [(.tmp 3)], ⟨.f (fFld 0), rFld 0⟩⟩,
  ⟨none, some 28, [(.tmp 27)], ⟨.lr 3 7 true, rAny xl_place_Place_get (.lr 3 7 true)⟩⟩,
  ⟨none, some 29, [(.tmp 0)], ⟨.f fMove, rMove⟩⟩,
  ⟨none, some 30, [(.tmp 29)], ⟨.f fNil, rNil⟩⟩,
  ⟨none, some 31, [(.tmp 30)], ⟨.f (fFld 3), rFld 3⟩⟩,
  ⟨none, some 32, [(.tmp 31)], ⟨.load 1 false, rLoad1⟩⟩,
  ⟨none, some 33, [(.tmp 28), (.tmp 32)], ⟨.call .none s_layout_Chunk v_layout_Chunk, rCall v_layout_Chunk⟩⟩,
  ⟨none, some 34, [(.tmp 0)], ⟨.f fMove, rMove⟩⟩,
  ⟨none, some 35, [(.tmp 34)], ⟨.f fNil, rNil⟩⟩,
  ⟨none, some 36, [(.tmp 35)], ⟨.f (fFld 4), rFld 4⟩⟩,
  ⟨none, some 37, [(.tmp 36)], ⟨.load 1 false, rLoad1⟩⟩,
  ⟨none, some 38, [(.tmp 5)], ⟨.lr 5 4 true, rAny xl_place_Place_get (.lr 5 4 true)⟩⟩,
  ⟨none, some 39, [(.tmp 38)], ⟨.call .none s_word_PutChunk v_word_PutChunk, rCall v_word_PutChunk⟩⟩,
  ⟨none, some 40, [(.tmp 26), (.tmp 33), (.tmp 37), (.tmp 39)], ⟨.call .write s_layout_Env_Cas v_layout_Env_Cas, rCall v_layout_Env_Cas⟩⟩,
  ⟨none, some 41, [(.tmp 40)], ⟨.f (fUn .not), rNot⟩⟩])
 (.cond (.tmp 41)
 (.seq none
 (.reg [⟨none, some 4, [(.const (.bool false))], ⟨.f fMove, rMove⟩⟩])
 .ret)
 .skip))
 (.seq none
 (.reg [⟨none, some 42, [(.tmp 0)], ⟨.f fMove, rMove⟩⟩,
  ⟨none, some 43, [(.tmp 0)], ⟨.f fMove, rMove⟩⟩,
  ⟨none, some 44, [(.tmp 3)], ⟨.f (fFld 0), rFld 0⟩⟩,
  ⟨none, some 45, [(.tmp 44)], ⟨.lr 3 7 true, rAny xl_place_Place_get (.lr 3 7 true)⟩⟩,
  ⟨none, some 46, [(.tmp 0)], ⟨.f fMove, rMove⟩⟩,
  ⟨none, some 47, [(.tmp 46)], ⟨.f fNil, rNil⟩⟩,
  ⟨none, some 48, [(.tmp 47)], ⟨.f (fFld 3), rFld 3⟩⟩,
  ⟨none, some 49, [(.tmp 48)], ⟨.load 1 false, rLoad1⟩⟩,
  ⟨none, some 50, [(.tmp 45), (.tmp 49)], ⟨.call .none s_layout_Base v_layout_Base, rCall v_layout_Base⟩⟩,
  ⟨none, some 51, [(.tmp 6)], ⟨.f fMove, rMove⟩⟩,
  ⟨none, some 52, [(.tmp 50), (.tmp 51)], ⟨.f (fBin .add .no), rAdd⟩⟩,
  ⟨none, some 53, [(.tmp 0)], ⟨.f fMove, rMove⟩⟩,
  ⟨none, some 54, [(.tmp 53)], ⟨.f fNil, rNil⟩⟩,
  ⟨none, some 55, [(.tmp 54)], ⟨.f (fFld 3), rFld 3⟩⟩,
  ⟨none, some 56, [(.tmp 55)], ⟨.load 1 false, rLoad1⟩⟩,
  ⟨none, some 57, [(.tmp 52), (.tmp 56)], ⟨.f (fBuild [(0, 1), (1, 1)] [(.int .i64 0), (.int .i64 0)] [0, 1]), rAny xl_place_Place_get (.f (fBuild [(0, 1), (1, 1)] [(.int .i64 0), (.int .i64 0)] [0, 1]))⟩⟩,
  ⟨none, some 58, [(.tmp 42)], ⟨.f fNil, rNil⟩⟩,
  ⟨none, some 59, [(.tmp 58)], ⟨.f (fFld 5), rFld 5⟩⟩,
  ⟨none, none, [(.tmp 59), (.tmp 57)], ⟨.store 2, rAny xl_place_Place_get (.store 2)⟩⟩,
  ⟨none, some 60, [(.tmp 43)], ⟨.f fNil, rNil⟩⟩,
  ⟨none, some 61, [(.tmp 60)], ⟨.f (fFld 7), rFld 7⟩⟩,
  ⟨none, none, [(.tmp 61), (.const (.bool true))], ⟨.store 1, rStore1⟩⟩])
 (.seq none
 (.reg [⟨none, some 4, [(.const (.bool true))], ⟨.f fMove, rMove⟩⟩])
 .ret))))))))
noncomputable def v_place_Place_get : EvF := evFn 2 xc_place_Place_get [.t 4]
theorem xt_place_Place_get : toC cx_place_Place_get (bodyOf Try.f85) = some (xc_place_Place_get.map XN.sm) := by kernel_rfl
theorem xr_place_Place_get : toR cx_place_Place_get Try.f85.results.toList = some [.t 4] := by kernel_rfl
theorem xo_place_Place_get : xc_place_Place_get.ok xl_place_Place_get := ⟨⟨rAny_ok (trivial), rMove_ok, trivial⟩, ⟨⟨rMove_ok, rNil_ok, rFld_ok _, rLoad1_ok, rCall_ok ve_word_Chunk, rAny_ok (trivial), rAny_ok (trivial), trivial⟩, ⟨⟨rFld_ok _, rLr1_ok _, rMove_ok, trivial⟩, ⟨⟨rFld_ok _, rLr1_ok _, rMove_ok, rNil_ok, rFld_ok _, rLoad1_ok, rCall_ok ve_layout_Room, rAdd_ok, rFld_ok _, rLs1_ok _, trivial⟩, ⟨⟨rMove_ok, rNil_ok, rFld_ok _, rStore1_ok, trivial⟩, ⟨⟨⟨rAny_ok (trivial), rFld_ok _, rAny_ok (trivial), rMove_ok, rNil_ok, rFld_ok _, rLoad1_ok, rCall_ok ve_layout_Chunk, rMove_ok, rNil_ok, rFld_ok _, rLoad1_ok, rAny_ok (trivial), rCall_ok ve_word_PutChunk, rCall_ok ve_layout_Env_Cas, rNot_ok, trivial⟩, ⟨⟨⟨rMove_ok, trivial⟩, trivial⟩, trivial⟩⟩, ⟨⟨rMove_ok, rMove_ok, rFld_ok _, rAny_ok (trivial), rMove_ok, rNil_ok, rFld_ok _, rLoad1_ok, rCall_ok ve_layout_Base, rMove_ok, rAdd_ok, rMove_ok, rNil_ok, rFld_ok _, rLoad1_ok, rAny_ok (eqv_build _ rfl _), rNil_ok, rFld_ok _, rAny_ok (trivial), rNil_ok, rFld_ok _, rStore1_ok, trivial⟩, ⟨⟨rMove_ok, trivial⟩, trivial⟩⟩⟩⟩⟩⟩⟩⟩
theorem ve_place_Place_get : EvOk s_place_Place_get v_place_Place_get := EvOk.of (evFn_sound (C := cx_place_Place_get) xt_place_Place_get xr_place_Place_get xo_place_Place_get) q_place_Place_get
attribute [irreducible] w_place_Place_get s_place_Place_get
end Go.Fl
