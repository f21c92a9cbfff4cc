/- What each Go function that the law reaches does, read off its text by a program; that this is the function; the same for the closed evaluator. No condition. -/
import Derived.Test.YtggcbkdiicdckaaFlT
import Derived.Test.YtggcbkdiicdckaaProg
import Derived.KernelRfl
namespace Go.Fl
open Go Go.Proofs
set_option linter.unusedVariables false
set_option maxRecDepth 10000000

theorem mixedOk : Try.prog.follows .mixedOrders = true := by kernel_rfl

def bodyOf (fn : Func) : Code :=
  match fn.body with
  | some c => c
  | none => .skip

/-! ### /layout.Check -/
def w_layout_Check_j3b (K : Value → Mem → Prop) (v3 v4 v5 : Value) (σ : Mem) : Prop :=
xF fMove [v3] fun v70 =>
xF fMove [v70] fun v71 =>
xIf v71
 (xF fMove [v4] fun v72 =>
xF fPick [(.bool true), v72, (.bool false)] fun v73 =>
xF fMove [v73] fun v74 =>
xIf v74
 (xF fMove [v5] fun v75 =>
xF fPick [(.bool true), v75, (.bool false)] fun v76 =>
xF fMove [v76] fun v2 =>
K v2 σ)
 (xF fPick [(.bool false), undef, (.bool false)] fun v76 =>
xF fMove [v76] fun v2 =>
K v2 σ))
 (xF fPick [(.bool false), undef, (.bool false)] fun v73 =>
xF fMove [v73] fun v74 =>
xIf v74
 (xF fMove [v5] fun v75 =>
xF fPick [(.bool true), v75, (.bool false)] fun v76 =>
xF fMove [v76] fun v2 =>
K v2 σ)
 (xF fPick [(.bool false), undef, (.bool false)] fun v76 =>
xF fMove [v76] fun v2 =>
K v2 σ))

def w_layout_Check_j3 (K : Value → Mem → Prop) (ts : List Value) (ls : List (List Value)) (σ : Mem) : Prop := w_layout_Check_j3b K (ts.getD 0 poison) (ts.getD 1 poison) (ts.getD 2 poison) σ

def w_layout_Check_j2b (K : Value → Mem → Prop) (v3 v4 : Value) (c1 : List Value) (σ : Mem) : Prop :=
xJoin (w_layout_Check_j3 K) fun J3 =>
xF (fFld 4) [(locP 1)] fun v42 =>
xO (gLoad 1 false [v42] c1) fun v43 =>
xF (fBin .geq .no) [v43, (.int .i64 1)] fun v44 =>
xF fMove [v44] fun v45 =>
xIf v45
 (xF (fFld 4) [(locP 1)] fun v46 =>
xO (gLoad 1 false [v46] c1) fun v47 =>
xF (fBin .leq .no) [v47, (.int .i64 65535)] fun v48 =>
xF fPick [(.bool true), v48, (.bool false)] fun v49 =>
xF fMove [v49] fun v50 =>
xIf v50
 (xF (fFld 5) [(locP 1)] fun v51 =>
xO (gLoad 1 false [v51] c1) fun v52 =>
xF (fBin .geq .no) [v52, (.int .i64 0)] fun v53 =>
xF fPick [(.bool true), v53, (.bool false)] fun v54 =>
xF fMove [v54] fun v55 =>
xIf v55
 (xF (fFld 5) [(locP 1)] fun v56 =>
xO (gLoad 1 false [v56] c1) fun v57 =>
xF (fBin .leq .no) [v57, (.int .i64 1000)] fun v58 =>
xF fPick [(.bool true), v58, (.bool false)] fun v59 =>
xF fMove [v59] fun v60 =>
xIf v60
 (xF (fFld 6) [(locP 1)] fun v61 =>
xO (gLoad 1 false [v61] c1) fun v62 =>
xF (fBin .geq .no) [v62, (.int .i64 1)] fun v63 =>
xF fPick [(.bool true), v63, (.bool false)] fun v64 =>
xF fMove [v64] fun v65 =>
xIf v65
 (xF (fFld 6) [(locP 1)] fun v66 =>
xO (gLoad 1 false [v66] c1) fun v67 =>
xF (fBin .leq .no) [v67, (.int .i64 16)] fun v68 =>
xF fPick [(.bool true), v68, (.bool false)] fun v69 =>
xF fMove [v69] fun v5 =>
J3 [v3, v4, v5] [] σ)
 (xF fPick [(.bool false), undef, (.bool false)] fun v69 =>
xF fMove [v69] fun v5 =>
J3 [v3, v4, v5] [] σ))
 (xF fPick [(.bool false), undef, (.bool false)] fun v64 =>
xF fMove [v64] fun v65 =>
xIf v65
 (xF (fFld 6) [(locP 1)] fun v66 =>
xO (gLoad 1 false [v66] c1) fun v67 =>
xF (fBin .leq .no) [v67, (.int .i64 16)] fun v68 =>
xF fPick [(.bool true), v68, (.bool false)] fun v69 =>
xF fMove [v69] fun v5 =>
J3 [v3, v4, v5] [] σ)
 (xF fPick [(.bool false), undef, (.bool false)] fun v69 =>
xF fMove [v69] fun v5 =>
J3 [v3, v4, v5] [] σ)))
 (xF fPick [(.bool false), undef, (.bool false)] fun v59 =>
xF fMove [v59] fun v60 =>
xIf v60
 (xF (fFld 6) [(locP 1)] fun v61 =>
xO (gLoad 1 false [v61] c1) fun v62 =>
xF (fBin .geq .no) [v62, (.int .i64 1)] fun v63 =>
xF fPick [(.bool true), v63, (.bool false)] fun v64 =>
xF fMove [v64] fun v65 =>
xIf v65
 (xF (fFld 6) [(locP 1)] fun v66 =>
xO (gLoad 1 false [v66] c1) fun v67 =>
xF (fBin .leq .no) [v67, (.int .i64 16)] fun v68 =>
xF fPick [(.bool true), v68, (.bool false)] fun v69 =>
xF fMove [v69] fun v5 =>
J3 [v3, v4, v5] [] σ)
 (xF fPick [(.bool false), undef, (.bool false)] fun v69 =>
xF fMove [v69] fun v5 =>
J3 [v3, v4, v5] [] σ))
 (xF fPick [(.bool false), undef, (.bool false)] fun v64 =>
xF fMove [v64] fun v65 =>
xIf v65
 (xF (fFld 6) [(locP 1)] fun v66 =>
xO (gLoad 1 false [v66] c1) fun v67 =>
xF (fBin .leq .no) [v67, (.int .i64 16)] fun v68 =>
xF fPick [(.bool true), v68, (.bool false)] fun v69 =>
xF fMove [v69] fun v5 =>
J3 [v3, v4, v5] [] σ)
 (xF fPick [(.bool false), undef, (.bool false)] fun v69 =>
xF fMove [v69] fun v5 =>
J3 [v3, v4, v5] [] σ))))
 (xF fPick [(.bool false), undef, (.bool false)] fun v54 =>
xF fMove [v54] fun v55 =>
xIf v55
 (xF (fFld 5) [(locP 1)] fun v56 =>
xO (gLoad 1 false [v56] c1) fun v57 =>
xF (fBin .leq .no) [v57, (.int .i64 1000)] fun v58 =>
xF fPick [(.bool true), v58, (.bool false)] fun v59 =>
xF fMove [v59] fun v60 =>
xIf v60
 (xF (fFld 6) [(locP 1)] fun v61 =>
xO (gLoad 1 false [v61] c1) fun v62 =>
xF (fBin .geq .no) [v62, (.int .i64 1)] fun v63 =>
xF fPick [(.bool true), v63, (.bool false)] fun v64 =>
xF fMove [v64] fun v65 =>
xIf v65
 (xF (fFld 6) [(locP 1)] fun v66 =>
xO (gLoad 1 false [v66] c1) fun v67 =>
xF (fBin .leq .no) [v67, (.int .i64 16)] fun v68 =>
xF fPick [(.bool true), v68, (.bool false)] fun v69 =>
xF fMove [v69] fun v5 =>
J3 [v3, v4, v5] [] σ)
 (xF fPick [(.bool false), undef, (.bool false)] fun v69 =>
xF fMove [v69] fun v5 =>
J3 [v3, v4, v5] [] σ))
 (xF fPick [(.bool false), undef, (.bool false)] fun v64 =>
xF fMove [v64] fun v65 =>
xIf v65
 (xF (fFld 6) [(locP 1)] fun v66 =>
xO (gLoad 1 false [v66] c1) fun v67 =>
xF (fBin .leq .no) [v67, (.int .i64 16)] fun v68 =>
xF fPick [(.bool true), v68, (.bool false)] fun v69 =>
xF fMove [v69] fun v5 =>
J3 [v3, v4, v5] [] σ)
 (xF fPick [(.bool false), undef, (.bool false)] fun v69 =>
xF fMove [v69] fun v5 =>
J3 [v3, v4, v5] [] σ)))
 (xF fPick [(.bool false), undef, (.bool false)] fun v59 =>
xF fMove [v59] fun v60 =>
xIf v60
 (xF (fFld 6) [(locP 1)] fun v61 =>
xO (gLoad 1 false [v61] c1) fun v62 =>
xF (fBin .geq .no) [v62, (.int .i64 1)] fun v63 =>
xF fPick [(.bool true), v63, (.bool false)] fun v64 =>
xF fMove [v64] fun v65 =>
xIf v65
 (xF (fFld 6) [(locP 1)] fun v66 =>
xO (gLoad 1 false [v66] c1) fun v67 =>
xF (fBin .leq .no) [v67, (.int .i64 16)] fun v68 =>
xF fPick [(.bool true), v68, (.bool false)] fun v69 =>
xF fMove [v69] fun v5 =>
J3 [v3, v4, v5] [] σ)
 (xF fPick [(.bool false), undef, (.bool false)] fun v69 =>
xF fMove [v69] fun v5 =>
J3 [v3, v4, v5] [] σ))
 (xF fPick [(.bool false), undef, (.bool false)] fun v64 =>
xF fMove [v64] fun v65 =>
xIf v65
 (xF (fFld 6) [(locP 1)] fun v66 =>
xO (gLoad 1 false [v66] c1) fun v67 =>
xF (fBin .leq .no) [v67, (.int .i64 16)] fun v68 =>
xF fPick [(.bool true), v68, (.bool false)] fun v69 =>
xF fMove [v69] fun v5 =>
J3 [v3, v4, v5] [] σ)
 (xF fPick [(.bool false), undef, (.bool false)] fun v69 =>
xF fMove [v69] fun v5 =>
J3 [v3, v4, v5] [] σ)))))
 (xF fPick [(.bool false), undef, (.bool false)] fun v49 =>
xF fMove [v49] fun v50 =>
xIf v50
 (xF (fFld 5) [(locP 1)] fun v51 =>
xO (gLoad 1 false [v51] c1) fun v52 =>
xF (fBin .geq .no) [v52, (.int .i64 0)] fun v53 =>
xF fPick [(.bool true), v53, (.bool false)] fun v54 =>
xF fMove [v54] fun v55 =>
xIf v55
 (xF (fFld 5) [(locP 1)] fun v56 =>
xO (gLoad 1 false [v56] c1) fun v57 =>
xF (fBin .leq .no) [v57, (.int .i64 1000)] fun v58 =>
xF fPick [(.bool true), v58, (.bool false)] fun v59 =>
xF fMove [v59] fun v60 =>
xIf v60
 (xF (fFld 6) [(locP 1)] fun v61 =>
xO (gLoad 1 false [v61] c1) fun v62 =>
xF (fBin .geq .no) [v62, (.int .i64 1)] fun v63 =>
xF fPick [(.bool true), v63, (.bool false)] fun v64 =>
xF fMove [v64] fun v65 =>
xIf v65
 (xF (fFld 6) [(locP 1)] fun v66 =>
xO (gLoad 1 false [v66] c1) fun v67 =>
xF (fBin .leq .no) [v67, (.int .i64 16)] fun v68 =>
xF fPick [(.bool true), v68, (.bool false)] fun v69 =>
xF fMove [v69] fun v5 =>
J3 [v3, v4, v5] [] σ)
 (xF fPick [(.bool false), undef, (.bool false)] fun v69 =>
xF fMove [v69] fun v5 =>
J3 [v3, v4, v5] [] σ))
 (xF fPick [(.bool false), undef, (.bool false)] fun v64 =>
xF fMove [v64] fun v65 =>
xIf v65
 (xF (fFld 6) [(locP 1)] fun v66 =>
xO (gLoad 1 false [v66] c1) fun v67 =>
xF (fBin .leq .no) [v67, (.int .i64 16)] fun v68 =>
xF fPick [(.bool true), v68, (.bool false)] fun v69 =>
xF fMove [v69] fun v5 =>
J3 [v3, v4, v5] [] σ)
 (xF fPick [(.bool false), undef, (.bool false)] fun v69 =>
xF fMove [v69] fun v5 =>
J3 [v3, v4, v5] [] σ)))
 (xF fPick [(.bool false), undef, (.bool false)] fun v59 =>
xF fMove [v59] fun v60 =>
xIf v60
 (xF (fFld 6) [(locP 1)] fun v61 =>
xO (gLoad 1 false [v61] c1) fun v62 =>
xF (fBin .geq .no) [v62, (.int .i64 1)] fun v63 =>
xF fPick [(.bool true), v63, (.bool false)] fun v64 =>
xF fMove [v64] fun v65 =>
xIf v65
 (xF (fFld 6) [(locP 1)] fun v66 =>
xO (gLoad 1 false [v66] c1) fun v67 =>
xF (fBin .leq .no) [v67, (.int .i64 16)] fun v68 =>
xF fPick [(.bool true), v68, (.bool false)] fun v69 =>
xF fMove [v69] fun v5 =>
J3 [v3, v4, v5] [] σ)
 (xF fPick [(.bool false), undef, (.bool false)] fun v69 =>
xF fMove [v69] fun v5 =>
J3 [v3, v4, v5] [] σ))
 (xF fPick [(.bool false), undef, (.bool false)] fun v64 =>
xF fMove [v64] fun v65 =>
xIf v65
 (xF (fFld 6) [(locP 1)] fun v66 =>
xO (gLoad 1 false [v66] c1) fun v67 =>
xF (fBin .leq .no) [v67, (.int .i64 16)] fun v68 =>
xF fPick [(.bool true), v68, (.bool false)] fun v69 =>
xF fMove [v69] fun v5 =>
J3 [v3, v4, v5] [] σ)
 (xF fPick [(.bool false), undef, (.bool false)] fun v69 =>
xF fMove [v69] fun v5 =>
J3 [v3, v4, v5] [] σ))))
 (xF fPick [(.bool false), undef, (.bool false)] fun v54 =>
xF fMove [v54] fun v55 =>
xIf v55
 (xF (fFld 5) [(locP 1)] fun v56 =>
xO (gLoad 1 false [v56] c1) fun v57 =>
xF (fBin .leq .no) [v57, (.int .i64 1000)] fun v58 =>
xF fPick [(.bool true), v58, (.bool false)] fun v59 =>
xF fMove [v59] fun v60 =>
xIf v60
 (xF (fFld 6) [(locP 1)] fun v61 =>
xO (gLoad 1 false [v61] c1) fun v62 =>
xF (fBin .geq .no) [v62, (.int .i64 1)] fun v63 =>
xF fPick [(.bool true), v63, (.bool false)] fun v64 =>
xF fMove [v64] fun v65 =>
xIf v65
 (xF (fFld 6) [(locP 1)] fun v66 =>
xO (gLoad 1 false [v66] c1) fun v67 =>
xF (fBin .leq .no) [v67, (.int .i64 16)] fun v68 =>
xF fPick [(.bool true), v68, (.bool false)] fun v69 =>
xF fMove [v69] fun v5 =>
J3 [v3, v4, v5] [] σ)
 (xF fPick [(.bool false), undef, (.bool false)] fun v69 =>
xF fMove [v69] fun v5 =>
J3 [v3, v4, v5] [] σ))
 (xF fPick [(.bool false), undef, (.bool false)] fun v64 =>
xF fMove [v64] fun v65 =>
xIf v65
 (xF (fFld 6) [(locP 1)] fun v66 =>
xO (gLoad 1 false [v66] c1) fun v67 =>
xF (fBin .leq .no) [v67, (.int .i64 16)] fun v68 =>
xF fPick [(.bool true), v68, (.bool false)] fun v69 =>
xF fMove [v69] fun v5 =>
J3 [v3, v4, v5] [] σ)
 (xF fPick [(.bool false), undef, (.bool false)] fun v69 =>
xF fMove [v69] fun v5 =>
J3 [v3, v4, v5] [] σ)))
 (xF fPick [(.bool false), undef, (.bool false)] fun v59 =>
xF fMove [v59] fun v60 =>
xIf v60
 (xF (fFld 6) [(locP 1)] fun v61 =>
xO (gLoad 1 false [v61] c1) fun v62 =>
xF (fBin .geq .no) [v62, (.int .i64 1)] fun v63 =>
xF fPick [(.bool true), v63, (.bool false)] fun v64 =>
xF fMove [v64] fun v65 =>
xIf v65
 (xF (fFld 6) [(locP 1)] fun v66 =>
xO (gLoad 1 false [v66] c1) fun v67 =>
xF (fBin .leq .no) [v67, (.int .i64 16)] fun v68 =>
xF fPick [(.bool true), v68, (.bool false)] fun v69 =>
xF fMove [v69] fun v5 =>
J3 [v3, v4, v5] [] σ)
 (xF fPick [(.bool false), undef, (.bool false)] fun v69 =>
xF fMove [v69] fun v5 =>
J3 [v3, v4, v5] [] σ))
 (xF fPick [(.bool false), undef, (.bool false)] fun v64 =>
xF fMove [v64] fun v65 =>
xIf v65
 (xF (fFld 6) [(locP 1)] fun v66 =>
xO (gLoad 1 false [v66] c1) fun v67 =>
xF (fBin .leq .no) [v67, (.int .i64 16)] fun v68 =>
xF fPick [(.bool true), v68, (.bool false)] fun v69 =>
xF fMove [v69] fun v5 =>
J3 [v3, v4, v5] [] σ)
 (xF fPick [(.bool false), undef, (.bool false)] fun v69 =>
xF fMove [v69] fun v5 =>
J3 [v3, v4, v5] [] σ)))))

def w_layout_Check_j2 (K : Value → Mem → Prop) (ts : List Value) (ls : List (List Value)) (σ : Mem) : Prop := w_layout_Check_j2b K (ts.getD 0 poison) (ts.getD 1 poison) (ls.getD 0 []) σ

def w_layout_Check_j1b (K : Value → Mem → Prop) (v3 : Value) (c1 : List Value) (σ : Mem) : Prop :=
xJoin (w_layout_Check_j2 K) fun J2 =>
xF (fFld 2) [(locP 1)] fun v24 =>
xO (gLoad 1 false [v24] c1) fun v25 =>
xF (fBin .geq .no) [v25, (.int .i64 1)] fun v26 =>
xF fMove [v26] fun v27 =>
xIf v27
 (xF (fFld 2) [(locP 1)] fun v28 =>
xO (gLoad 1 false [v28] c1) fun v29 =>
xF (fBin .leq .no) [v29, (.int .i64 64)] fun v30 =>
xF fPick [(.bool true), v30, (.bool false)] fun v31 =>
xF fMove [v31] fun v32 =>
xIf v32
 (xF (fFld 3) [(locP 1)] fun v33 =>
xO (gLoad 1 false [v33] c1) fun v34 =>
xF (fBin .geq .no) [v34, (.int .i64 17)] fun v35 =>
xF fPick [(.bool true), v35, (.bool false)] fun v36 =>
xF fMove [v36] fun v37 =>
xIf v37
 (xF (fFld 3) [(locP 1)] fun v38 =>
xO (gLoad 1 false [v38] c1) fun v39 =>
xF (fBin .leq .no) [v39, (.int .i64 256)] fun v40 =>
xF fPick [(.bool true), v40, (.bool false)] fun v41 =>
xF fMove [v41] fun v4 =>
J2 [v3, v4] [c1] σ)
 (xF fPick [(.bool false), undef, (.bool false)] fun v41 =>
xF fMove [v41] fun v4 =>
J2 [v3, v4] [c1] σ))
 (xF fPick [(.bool false), undef, (.bool false)] fun v36 =>
xF fMove [v36] fun v37 =>
xIf v37
 (xF (fFld 3) [(locP 1)] fun v38 =>
xO (gLoad 1 false [v38] c1) fun v39 =>
xF (fBin .leq .no) [v39, (.int .i64 256)] fun v40 =>
xF fPick [(.bool true), v40, (.bool false)] fun v41 =>
xF fMove [v41] fun v4 =>
J2 [v3, v4] [c1] σ)
 (xF fPick [(.bool false), undef, (.bool false)] fun v41 =>
xF fMove [v41] fun v4 =>
J2 [v3, v4] [c1] σ)))
 (xF fPick [(.bool false), undef, (.bool false)] fun v31 =>
xF fMove [v31] fun v32 =>
xIf v32
 (xF (fFld 3) [(locP 1)] fun v33 =>
xO (gLoad 1 false [v33] c1) fun v34 =>
xF (fBin .geq .no) [v34, (.int .i64 17)] fun v35 =>
xF fPick [(.bool true), v35, (.bool false)] fun v36 =>
xF fMove [v36] fun v37 =>
xIf v37
 (xF (fFld 3) [(locP 1)] fun v38 =>
xO (gLoad 1 false [v38] c1) fun v39 =>
xF (fBin .leq .no) [v39, (.int .i64 256)] fun v40 =>
xF fPick [(.bool true), v40, (.bool false)] fun v41 =>
xF fMove [v41] fun v4 =>
J2 [v3, v4] [c1] σ)
 (xF fPick [(.bool false), undef, (.bool false)] fun v41 =>
xF fMove [v41] fun v4 =>
J2 [v3, v4] [c1] σ))
 (xF fPick [(.bool false), undef, (.bool false)] fun v36 =>
xF fMove [v36] fun v37 =>
xIf v37
 (xF (fFld 3) [(locP 1)] fun v38 =>
xO (gLoad 1 false [v38] c1) fun v39 =>
xF (fBin .leq .no) [v39, (.int .i64 256)] fun v40 =>
xF fPick [(.bool true), v40, (.bool false)] fun v41 =>
xF fMove [v41] fun v4 =>
J2 [v3, v4] [c1] σ)
 (xF fPick [(.bool false), undef, (.bool false)] fun v41 =>
xF fMove [v41] fun v4 =>
J2 [v3, v4] [c1] σ)))

def w_layout_Check_j1 (K : Value → Mem → Prop) (ts : List Value) (ls : List (List Value)) (σ : Mem) : Prop := w_layout_Check_j1b K (ts.getD 0 poison) (ls.getD 0 []) σ

def w_layout_Check (a0 : Value) (K : Value → Mem → Prop) (σ : Mem) : Prop :=
xC (gBox 7 [a0] []) fun c1 =>
xF fMove [(.bool false)] fun v2 =>
xJoin (w_layout_Check_j1 K) fun J1 =>
xF (fFld 0) [(locP 1)] fun v6 =>
xO (gLoad 1 false [v6] c1) fun v7 =>
xF (fBin .geq .no) [v7, (.int .i64 1)] fun v8 =>
xF fMove [v8] fun v9 =>
xIf v9
 (xF (fFld 0) [(locP 1)] fun v10 =>
xO (gLoad 1 false [v10] c1) fun v11 =>
xF (fBin .leq .no) [v11, (.int .i64 8)] fun v12 =>
xF fPick [(.bool true), v12, (.bool false)] fun v13 =>
xF fMove [v13] fun v14 =>
xIf v14
 (xF (fFld 1) [(locP 1)] fun v15 =>
xO (gLoad 1 false [v15] c1) fun v16 =>
xF (fBin .geq .no) [v16, (.int .i64 1)] fun v17 =>
xF fPick [(.bool true), v17, (.bool false)] fun v18 =>
xF fMove [v18] fun v19 =>
xIf v19
 (xF (fFld 1) [(locP 1)] fun v20 =>
xO (gLoad 1 false [v20] c1) fun v21 =>
xF (fBin .leq .no) [v21, (.int .i64 65536)] fun v22 =>
xF fPick [(.bool true), v22, (.bool false)] fun v23 =>
xF fMove [v23] fun v3 =>
J1 [v3] [c1] σ)
 (xF fPick [(.bool false), undef, (.bool false)] fun v23 =>
xF fMove [v23] fun v3 =>
J1 [v3] [c1] σ))
 (xF fPick [(.bool false), undef, (.bool false)] fun v18 =>
xF fMove [v18] fun v19 =>
xIf v19
 (xF (fFld 1) [(locP 1)] fun v20 =>
xO (gLoad 1 false [v20] c1) fun v21 =>
xF (fBin .leq .no) [v21, (.int .i64 65536)] fun v22 =>
xF fPick [(.bool true), v22, (.bool false)] fun v23 =>
xF fMove [v23] fun v3 =>
J1 [v3] [c1] σ)
 (xF fPick [(.bool false), undef, (.bool false)] fun v23 =>
xF fMove [v23] fun v3 =>
J1 [v3] [c1] σ)))
 (xF fPick [(.bool false), undef, (.bool false)] fun v13 =>
xF fMove [v13] fun v14 =>
xIf v14
 (xF (fFld 1) [(locP 1)] fun v15 =>
xO (gLoad 1 false [v15] c1) fun v16 =>
xF (fBin .geq .no) [v16, (.int .i64 1)] fun v17 =>
xF fPick [(.bool true), v17, (.bool false)] fun v18 =>
xF fMove [v18] fun v19 =>
xIf v19
 (xF (fFld 1) [(locP 1)] fun v20 =>
xO (gLoad 1 false [v20] c1) fun v21 =>
xF (fBin .leq .no) [v21, (.int .i64 65536)] fun v22 =>
xF fPick [(.bool true), v22, (.bool false)] fun v23 =>
xF fMove [v23] fun v3 =>
J1 [v3] [c1] σ)
 (xF fPick [(.bool false), undef, (.bool false)] fun v23 =>
xF fMove [v23] fun v3 =>
J1 [v3] [c1] σ))
 (xF fPick [(.bool false), undef, (.bool false)] fun v18 =>
xF fMove [v18] fun v19 =>
xIf v19
 (xF (fFld 1) [(locP 1)] fun v20 =>
xO (gLoad 1 false [v20] c1) fun v21 =>
xF (fBin .leq .no) [v21, (.int .i64 65536)] fun v22 =>
xF fPick [(.bool true), v22, (.bool false)] fun v23 =>
xF fMove [v23] fun v3 =>
J1 [v3] [c1] σ)
 (xF fPick [(.bool false), undef, (.bool false)] fun v23 =>
xF fMove [v23] fun v3 =>
J1 [v3] [c1] σ)))

def s_layout_Check : Spec := fun args K σ => match args with
  | [a0] => w_layout_Check a0 K σ
  | _ => False

noncomputable def cx_layout_Check : Cx := { P := Try.prog, T := [], loc := [(1, 1), (6, 1), (10, 1), (15, 1), (20, 1), (24, 1), (28, 1), (33, 1), (38, 1), (42, 1), (46, 1), (51, 1), (56, 1), (61, 1), (66, 1)], eqt := [], n := 77, keep := [(1000003, [3], [1]), (1000004, [3, 4], [1]), (1000005, [3, 4, 5], [])] }
theorem q_layout_Check : FnS cx_layout_Check Try.f15 (bodyOf Try.f15) 1 = s_layout_Check := by
  funext args K σ
  rcases args with _ | ⟨a0, _ | ⟨b, r⟩⟩ <;> kernel_rfl
theorem e_layout_Check : Entry Try.prog 15 .none s_layout_Check :=
  entry (C := cx_layout_Check) TOk.nil mixedOk Try.func15 (by kernel_rfl) (by kernel_rfl) (by kernel_rfl) q_layout_Check

def xl_layout_Check : List (Nat × Nat) := [(1, 1), (6, 1), (10, 1), (15, 1), (20, 1), (24, 1), (28, 1), (33, 1), (38, 1), (42, 1), (46, 1), (51, 1), (56, 1), (61, 1), (66, 1)]
noncomputable def xc_layout_Check : XC XN :=
(.seq none
 (.reg [⟨none, some 1, [(.tmp 0)], ⟨.lb 1 7, rAny xl_layout_Check (.lb 1 7)⟩⟩,
  ⟨none, some 2, [(.const (.bool false))], ⟨.f fMove, rMove⟩⟩])
 (.seq (some ([3], [1]))
 (.reg [⟨none, some 6, [(.tmp 1)], ⟨.f (fFld 0), rFld 0⟩⟩,
  ⟨none, some 7, [(.tmp 6)], ⟨.lr 1 1 false, rLr1 1⟩⟩,
  ⟨none, some 8, [(.tmp 7), (.const (.int .i64 1))], ⟨.f (fBin .geq .no), rGeq⟩⟩,
  ⟨none, some 9, [(.tmp 8)], ⟨.f fMove, rMove⟩⟩,
  ⟨(some (4, 3, true, some 9)), some 10, [(.tmp 1)], ⟨.f (fFld 0), rFld 0⟩⟩,
  ⟨(some (5, 3, true, some 9)), some 11, [(.tmp 10)], ⟨.lr 1 1 false, rLr1 1⟩⟩,
  ⟨(some (6, 3, true, some 9)), some 12, [(.tmp 11), (.const (.int .i64 8))], ⟨.f (fBin .leq .no), rLeq⟩⟩,
  ⟨none, some 13, [(.tmp 9), (.tmp 12), (.const (.bool false))], ⟨.f fPick, rPick⟩⟩,
  ⟨none, some 14, [(.tmp 13)], ⟨.f fMove, rMove⟩⟩,
  ⟨(some (9, 8, true, some 14)), some 15, [(.tmp 1)], ⟨.f (fFld 1), rFld 1⟩⟩,
  ⟨(some (10, 8, true, some 14)), some 16, [(.tmp 15)], ⟨.lr 1 1 false, rLr1 1⟩⟩,
  ⟨(some (11, 8, true, some 14)), some 17, [(.tmp 16), (.const (.int .i64 1))], ⟨.f (fBin .geq .no), rGeq⟩⟩,
  ⟨none, some 18, [(.tmp 14), (.tmp 17), (.const (.bool false))], ⟨.f fPick, rPick⟩⟩,
  ⟨none, some 19, [(.tmp 18)], ⟨.f fMove, rMove⟩⟩,
  ⟨(some (14, 13, true, some 19)), some 20, [(.tmp 1)], ⟨.f (fFld 1), rFld 1⟩⟩,
  ⟨(some (15, 13, true, some 19)), some 21, [(.tmp 20)], ⟨.lr 1 1 false, rLr1 1⟩⟩,
  ⟨(some (16, 13, true, some 19)), some 22, [(.tmp 21), (.const (.int .i64 65536))], ⟨.f (fBin .leq .no), rLeq⟩⟩,
  ⟨none, some 23, [(.tmp 19), (.tmp 22), (.const (.bool false))], ⟨.f fPick, rPick⟩⟩,
  ⟨none, some 3, [(.tmp 23)], ⟨.f fMove, rMove⟩⟩])
 (.seq (some ([3, 4], [1]))
 (.reg [⟨none, some 24, [(.tmp 1)], ⟨.f (fFld 2), rFld 2⟩⟩,
  ⟨none, some 25, [(.tmp 24)], ⟨.lr 1 1 false, rLr1 1⟩⟩,
  ⟨none, some 26, [(.tmp 25), (.const (.int .i64 1))], ⟨.f (fBin .geq .no), rGeq⟩⟩,
  ⟨none, some 27, [(.tmp 26)], ⟨.f fMove, rMove⟩⟩,
  ⟨(some (4, 3, true, some 27)), some 28, [(.tmp 1)], ⟨.f (fFld 2), rFld 2⟩⟩,
  ⟨(some (5, 3, true, some 27)), some 29, [(.tmp 28)], ⟨.lr 1 1 false, rLr1 1⟩⟩,
  ⟨(some (6, 3, true, some 27)), some 30, [(.tmp 29), (.const (.int .i64 64))], ⟨.f (fBin .leq .no), rLeq⟩⟩,
  ⟨none, some 31, [(.tmp 27), (.tmp 30), (.const (.bool false))], ⟨.f fPick, rPick⟩⟩,
  ⟨none, some 32, [(.tmp 31)], ⟨.f fMove, rMove⟩⟩,
  ⟨(some (9, 8, true, some 32)), some 33, [(.tmp 1)], ⟨.f (fFld 3), rFld 3⟩⟩,
  ⟨(some (10, 8, true, some 32)), some 34, [(.tmp 33)], ⟨.lr 1 1 false, rLr1 1⟩⟩,
  ⟨(some (11, 8, true, some 32)), some 35, [(.tmp 34), (.const (.int .i64 17))], ⟨.f (fBin .geq .no), rGeq⟩⟩,
  ⟨none, some 36, [(.tmp 32), (.tmp 35), (.const (.bool false))], ⟨.f fPick, rPick⟩⟩,
  ⟨none, some 37, [(.tmp 36)], ⟨.f fMove, rMove⟩⟩,
  ⟨(some (14, 13, true, some 37)), some 38, [(.tmp 1)], ⟨.f (fFld 3), rFld 3⟩⟩,
  ⟨(some (15, 13, true, some 37)), some 39, [(.tmp 38)], ⟨.lr 1 1 false, rLr1 1⟩⟩,
  ⟨(some (16, 13, true, some 37)), some 40, [(.tmp 39), (.const (.int .i64 256))], ⟨.f (fBin .leq .no), rLeq⟩⟩,
  ⟨none, some 41, [(.tmp 37), (.tmp 40), (.const (.bool false))], ⟨.f fPick, rPick⟩⟩,
  ⟨none, some 4, [(.tmp 41)], ⟨.f fMove, rMove⟩⟩])
 (.seq (some ([3, 4, 5], []))
 (.reg [⟨none, some 42, [(.tmp 1)], ⟨.f (fFld 4), rFld 4⟩⟩,
  ⟨none, some 43, [(.tmp 42)], ⟨.lr 1 1 false, rLr1 1⟩⟩,
  ⟨none, some 44, [(.tmp 43), (.const (.int .i64 1))], ⟨.f (fBin .geq .no), rGeq⟩⟩,
  ⟨none, some 45, [(.tmp 44)], ⟨.f fMove, rMove⟩⟩,
  ⟨(some (4, 3, true, some 45)), some 46, [(.tmp 1)], ⟨.f (fFld 4), rFld 4⟩⟩,
  ⟨(some (5, 3, true, some 45)), some 47, [(.tmp 46)], ⟨.lr 1 1 false, rLr1 1⟩⟩,
  ⟨(some (6, 3, true, some 45)), some 48, [(.tmp 47), (.const (.int .i64 65535))], ⟨.f (fBin .leq .no), rLeq⟩⟩,
  ⟨none, some 49, [(.tmp 45), (.tmp 48), (.const (.bool false))], ⟨.f fPick, rPick⟩⟩,
  ⟨none, some 50, [(.tmp 49)], ⟨.f fMove, rMove⟩⟩,
  ⟨(some (9, 8, true, some 50)), some 51, [(.tmp 1)], ⟨.f (fFld 5), rFld 5⟩⟩,
  ⟨(some (10, 8, true, some 50)), some 52, [(.tmp 51)], ⟨.lr 1 1 false, rLr1 1⟩⟩,
  ⟨(some (11, 8, true, some 50)), some 53, [(.tmp 52), (.const (.int .i64 0))], ⟨.f (fBin .geq .no), rGeq⟩⟩,
  ⟨none, some 54, [(.tmp 50), (.tmp 53), (.const (.bool false))], ⟨.f fPick, rPick⟩⟩,
  ⟨none, some 55, [(.tmp 54)], ⟨.f fMove, rMove⟩⟩,
  ⟨(some (14, 13, true, some 55)), some 56, [(.tmp 1)], ⟨.f (fFld 5), rFld 5⟩⟩,
  ⟨(some (15, 13, true, some 55)), some 57, [(.tmp 56)], ⟨.lr 1 1 false, rLr1 1⟩⟩,
  ⟨(some (16, 13, true, some 55)), some 58, [(.tmp 57), (.const (.int .i64 1000))], ⟨.f (fBin .leq .no), rLeq⟩⟩,
  ⟨none, some 59, [(.tmp 55), (.tmp 58), (.const (.bool false))], ⟨.f fPick, rPick⟩⟩,
  ⟨none, some 60, [(.tmp 59)], ⟨.f fMove, rMove⟩⟩,
  ⟨(some (19, 18, true, some 60)), some 61, [(.tmp 1)], ⟨.f (fFld 6), rFld 6⟩⟩,
  ⟨(some (20, 18, true, some 60)), some 62, [(.tmp 61)], ⟨.lr 1 1 false, rLr1 1⟩⟩,
  ⟨(some (21, 18, true, some 60)), some 63, [(.tmp 62), (.const (.int .i64 1))], ⟨.f (fBin .geq .no), rGeq⟩⟩,
  ⟨none, some 64, [(.tmp 60), (.tmp 63), (.const (.bool false))], ⟨.f fPick, rPick⟩⟩,
  ⟨none, some 65, [(.tmp 64)], ⟨.f fMove, rMove⟩⟩,
  ⟨(some (24, 23, true, some 65)), some 66, [(.tmp 1)], ⟨.f (fFld 6), rFld 6⟩⟩,
  ⟨(some (25, 23, true, some 65)), some 67, [(.tmp 66)], ⟨.lr 1 1 false, rLr1 1⟩⟩,
  ⟨(some (26, 23, true, some 65)), some 68, [(.tmp 67), (.const (.int .i64 16))], ⟨.f (fBin .leq .no), rLeq⟩⟩,
  ⟨none, some 69, [(.tmp 65), (.tmp 68), (.const (.bool false))], ⟨.f fPick, rPick⟩⟩,
  ⟨none, some 5, [(.tmp 69)], ⟨.f fMove, rMove⟩⟩])
 (.seq none
 (.reg [⟨none, some 70, [(.tmp 3)], ⟨.f fMove, rMove⟩⟩,
  ⟨none, some 71, [(.tmp 70)], ⟨.f fMove, rMove⟩⟩,
  ⟨(some (2, 1, true, some 71)), some 72, [(.tmp 4)], ⟨.f fMove, rMove⟩⟩,
  ⟨none, some 73, [(.tmp 71), (.tmp 72), (.const (.bool false))], ⟨.f fPick, rPick⟩⟩,
  ⟨none, some 74, [(.tmp 73)], ⟨.f fMove, rMove⟩⟩,
  ⟨(some (5, 4, true, some 74)), some 75, [(.tmp 5)], ⟨.f fMove, rMove⟩⟩,
  ⟨none, some 76, [(.tmp 74), (.tmp 75), (.const (.bool false))], ⟨.f fPick, rPick⟩⟩,
  ⟨none, some 2, [(.tmp 76)], ⟨.f fMove, rMove⟩⟩])
 .ret)))))
noncomputable def v_layout_Check : EvF := evFn 1 xc_layout_Check [.t 2]
theorem xt_layout_Check : toC cx_layout_Check (bodyOf Try.f15) = some (xc_layout_Check.map XN.sm) := by kernel_rfl
theorem xr_layout_Check : toR cx_layout_Check Try.f15.results.toList = some [.t 2] := by kernel_rfl
theorem xo_layout_Check : xc_layout_Check.ok xl_layout_Check := ⟨⟨rAny_ok (trivial), rMove_ok, trivial⟩, ⟨⟨rFld_ok _, rLr1_ok _, rGeq_ok, rMove_ok, rFld_ok _, rLr1_ok _, rLeq_ok, rPick_ok, rMove_ok, rFld_ok _, rLr1_ok _, rGeq_ok, rPick_ok, rMove_ok, rFld_ok _, rLr1_ok _, rLeq_ok, rPick_ok, rMove_ok, trivial⟩, ⟨⟨rFld_ok _, rLr1_ok _, rGeq_ok, rMove_ok, rFld_ok _, rLr1_ok _, rLeq_ok, rPick_ok, rMove_ok, rFld_ok _, rLr1_ok _, rGeq_ok, rPick_ok, rMove_ok, rFld_ok _, rLr1_ok _, rLeq_ok, rPick_ok, rMove_ok, trivial⟩, ⟨⟨rFld_ok _, rLr1_ok _, rGeq_ok, rMove_ok, rFld_ok _, rLr1_ok _, rLeq_ok, rPick_ok, rMove_ok, rFld_ok _, rLr1_ok _, rGeq_ok, rPick_ok, rMove_ok, rFld_ok _, rLr1_ok _, rLeq_ok, rPick_ok, rMove_ok, rFld_ok _, rLr1_ok _, rGeq_ok, rPick_ok, rMove_ok, rFld_ok _, rLr1_ok _, rLeq_ok, rPick_ok, rMove_ok, trivial⟩, ⟨⟨rMove_ok, rMove_ok, rMove_ok, rPick_ok, rMove_ok, rMove_ok, rPick_ok, rMove_ok, trivial⟩, trivial⟩⟩⟩⟩⟩
theorem ve_layout_Check : EvOk s_layout_Check v_layout_Check := EvOk.of (evFn_sound (C := cx_layout_Check) xt_layout_Check xr_layout_Check xo_layout_Check) q_layout_Check

attribute [irreducible] w_layout_Check_j3b w_layout_Check_j3 w_layout_Check_j2b w_layout_Check_j2 w_layout_Check_j1b w_layout_Check_j1 w_layout_Check s_layout_Check

/-! ### /layout.Base -/
def w_layout_Base (a0 a1 : Value) (K : Value → Mem → Prop) (σ : Mem) : Prop :=
xC (gBox 7 [a0] []) fun c2 =>
xF fMove [(.int .i64 0)] fun v4 =>
xF (fFld 0) [(locP 2)] fun v5 =>
xO (gLoad 1 false [v5] c2) fun v6 =>
xF (fBin .add .no) [(.int .i64 6), v6] fun v7 =>
xF (fFld 1) [(locP 2)] fun v8 =>
xO (gLoad 1 false [v8] c2) fun v9 =>
xF (fBin .mul .no) [(.int .i64 2), v9] fun v10 =>
xF (fBin .add .no) [v7, v10] fun v11 =>
xF (fFld 2) [(locP 2)] fun v12 =>
xO (gLoad 1 false [v12] c2) fun v13 =>
xF (fBin .mul .no) [(.int .i64 3), v13] fun v14 =>
xF (fBin .add .no) [v11, v14] fun v15 =>
xF (fFld 3) [(locP 2)] fun v16 =>
xO (gLoad 1 false [v16] c2) fun v17 =>
xF fMove [a1] fun v18 =>
xF (fBin .mul .no) [v17, v18] fun v19 =>
xF (fBin .add .no) [v15, v19] fun v20 =>
xF fMove [v20] fun v4 =>
K v4 σ

def s_layout_Base : Spec := fun args K σ => match args with
  | [a0, a1] => w_layout_Base a0 a1 K σ
  | _ => False

noncomputable def cx_layout_Base : Cx := { P := Try.prog, T := [], loc := [(2, 2), (5, 2), (8, 2), (12, 2), (16, 2)], eqt := [], n := 21, keep := [] }
theorem q_layout_Base : FnS cx_layout_Base Try.f34 (bodyOf Try.f34) 2 = s_layout_Base := by
  funext args K σ
  rcases args with _ | ⟨a0, _ | ⟨a1, _ | ⟨b, r⟩⟩⟩ <;> kernel_rfl
theorem e_layout_Base : Entry Try.prog 34 .none s_layout_Base :=
  entry (C := cx_layout_Base) TOk.nil mixedOk Try.func34 (by kernel_rfl) (by kernel_rfl) (by kernel_rfl) q_layout_Base

def xl_layout_Base : List (Nat × Nat) := [(2, 2), (5, 2), (8, 2), (12, 2), (16, 2)]
noncomputable def xc_layout_Base : XC XN :=
(.seq none
 (.reg [⟨none, some 2, [(.tmp 0)], ⟨.lb 2 7, rAny xl_layout_Base (.lb 2 7)⟩⟩,
  ⟨none, some 4, [(.const (.int .i64 0))], ⟨.f fMove, rMove⟩⟩])
 (.seq none
 (.reg [⟨none, some 5, [(.tmp 2)], ⟨.f (fFld 0), rFld 0⟩⟩,
  ⟨none, some 6, [(.tmp 5)], ⟨.lr 2 1 false, rLr1 2⟩⟩,
  ⟨none, some 7, [(.const (.int .i64 6)), (.tmp 6)], ⟨.f (fBin .add .no), rAdd⟩⟩,
  ⟨none, some 8, [(.tmp 2)], ⟨.f (fFld 1), rFld 1⟩⟩,
  ⟨none, some 9, [(.tmp 8)], ⟨.lr 2 1 false, rLr1 2⟩⟩,
  ⟨none, some 10, [(.const (.int .i64 2)), (.tmp 9)], ⟨.f (fBin .mul .no), rMul⟩⟩,
  ⟨none, some 11, [(.tmp 7), (.tmp 10)], ⟨.f (fBin .add .no), rAdd⟩⟩,
  ⟨none, some 12, [(.tmp 2)], ⟨.f (fFld 2), rFld 2⟩⟩,
  ⟨none, some 13, [(.tmp 12)], ⟨.lr 2 1 false, rLr1 2⟩⟩,
  ⟨none, some 14, [(.const (.int .i64 3)), (.tmp 13)], ⟨.f (fBin .mul .no), rMul⟩⟩,
  ⟨none, some 15, [(.tmp 11), (.tmp 14)], ⟨.f (fBin .add .no), rAdd⟩⟩,
  ⟨none, some 16, [(.tmp 2)], ⟨.f (fFld 3), rFld 3⟩⟩,
  ⟨none, some 17, [(.tmp 16)], ⟨.lr 2 1 false, rLr1 2⟩⟩,
  ⟨none, some 18, [(.tmp 1)], ⟨.f fMove, rMove⟩⟩,
  ⟨none, some 19, [(.tmp 17), (.tmp 18)], ⟨.f (fBin .mul .no), rMul⟩⟩,
  ⟨none, some 20, [(.tmp 15), (.tmp 19)], ⟨.f (fBin .add .no), rAdd⟩⟩,
  ⟨none, some 4, [(.tmp 20)], ⟨.f fMove, rMove⟩⟩])
 .ret))
noncomputable def v_layout_Base : EvF := evFn 2 xc_layout_Base [.t 4]
theorem xt_layout_Base : toC cx_layout_Base (bodyOf Try.f34) = some (xc_layout_Base.map XN.sm) := by kernel_rfl
theorem xr_layout_Base : toR cx_layout_Base Try.f34.results.toList = some [.t 4] := by kernel_rfl
theorem xo_layout_Base : xc_layout_Base.ok xl_layout_Base := ⟨⟨rAny_ok (trivial), rMove_ok, trivial⟩, ⟨⟨rFld_ok _, rLr1_ok _, rAdd_ok, rFld_ok _, rLr1_ok _, rMul_ok, rAdd_ok, rFld_ok _, rLr1_ok _, rMul_ok, rAdd_ok, rFld_ok _, rLr1_ok _, rMove_ok, rMul_ok, rAdd_ok, rMove_ok, trivial⟩, trivial⟩⟩
theorem ve_layout_Base : EvOk s_layout_Base v_layout_Base := EvOk.of (evFn_sound (C := cx_layout_Base) xt_layout_Base xr_layout_Base xo_layout_Base) q_layout_Base

attribute [irreducible] w_layout_Base s_layout_Base

/-! ### /layout.Len -/
def w_layout_Len (a0 : Value) (K : Value → Mem → Prop) (σ : Mem) : Prop :=
xC (gBox 7 [a0] []) fun c1 =>
xF fMove [(.int .i64 0)] fun v2 =>
xO (gLoad 7 true [(locP 1)] c1) fun v3 =>
xF (fFld 2) [(locP 1)] fun v4 =>
xO (gLoad 1 false [v4] c1) fun v5 =>
s_layout_Base [v3, v5] (fun v6 σ =>
xF fMove [v6] fun v2 =>
K v2 σ) σ

def s_layout_Len : Spec := fun args K σ => match args with
  | [a0] => w_layout_Len a0 K σ
  | _ => False

noncomputable def cx_layout_Len : Cx := { P := Try.prog, T := [(34, .none, s_layout_Base)], loc := [(1, 1), (4, 1)], eqt := [], n := 7, keep := [] }
theorem q_layout_Len : FnS cx_layout_Len Try.f24 (bodyOf Try.f24) 1 = s_layout_Len := by
  funext args K σ
  rcases args with _ | ⟨a0, _ | ⟨b, r⟩⟩ <;> kernel_rfl
theorem e_layout_Len : Entry Try.prog 24 .none s_layout_Len :=
  entry (C := cx_layout_Len) (TOk.cons e_layout_Base TOk.nil) mixedOk Try.func24 (by kernel_rfl) (by kernel_rfl) (by kernel_rfl) q_layout_Len

def xl_layout_Len : List (Nat × Nat) := [(1, 1), (4, 1)]
noncomputable def xc_layout_Len : XC XN :=
(.seq none
 (.reg [⟨none, some 1, [(.tmp 0)], ⟨.lb 1 7, rAny xl_layout_Len (.lb 1 7)⟩⟩,
  ⟨none, some 2, [(.const (.int .i64 0))], ⟨.f fMove, rMove⟩⟩])
 (.seq none
 (.reg [⟨none, some 3, [(.tmp 1)], ⟨.lr 1 7 true, rAny xl_layout_Len (.lr 1 7 true)⟩⟩,
  ⟨none, some 4, [(.tmp 1)], ⟨.f (fFld 2), rFld 2⟩⟩,
  ⟨none, some 5, [(.tmp 4)], ⟨.lr 1 1 false, rLr1 1⟩⟩,
  ⟨none, some 6, [(.tmp 3), (.tmp 5)], ⟨.call .none s_layout_Base v_layout_Base, rCall v_layout_Base⟩⟩,
  ⟨none, some 2, [(.tmp 6)], ⟨.f fMove, rMove⟩⟩])
 .ret))
noncomputable def v_layout_Len : EvF := evFn 1 xc_layout_Len [.t 2]
theorem xt_layout_Len : toC cx_layout_Len (bodyOf Try.f24) = some (xc_layout_Len.map XN.sm) := by kernel_rfl
theorem xr_layout_Len : toR cx_layout_Len Try.f24.results.toList = some [.t 2] := by kernel_rfl
theorem xo_layout_Len : xc_layout_Len.ok xl_layout_Len := ⟨⟨rAny_ok (trivial), rMove_ok, trivial⟩, ⟨⟨rAny_ok (trivial), rFld_ok _, rLr1_ok _, rCall_ok ve_layout_Base, rMove_ok, trivial⟩, trivial⟩⟩
theorem ve_layout_Len : EvOk s_layout_Len v_layout_Len := EvOk.of (evFn_sound (C := cx_layout_Len) xt_layout_Len xr_layout_Len xo_layout_Len) q_layout_Len

attribute [irreducible] w_layout_Len s_layout_Len

/-! ### /mem.New -/
def w_mem_New_j1b (K : Value → Mem → Prop) (v0 v9 : Value) (σ : Mem) : Prop :=
xIf v9
 (xF fMove [(.pointer none)] fun v2 =>
xF fMove [(.int .i64 1)] fun v3 =>
K (.tuple #[v2, v3]) σ)
 (xF fMove [v0] fun v10 =>
hMakeS 1 8 [(.int .u64 0)] [v10, v10] (fun v11 σ =>
xF fMove [v0] fun v12 =>
hMakeS 1 8 [(.int .i64 0)] [v12, v12] (fun v13 σ =>
xF (fBuild [(0, 1), (1, 1), (2, 1), (3, 1), (4, 3)] [(.slice none 0 0), (.slice none 0 0), (.int .i64 0), (.int .i64 0), (.int .i64 0), (.int .i64 0), (.bool false)] [0, 1]) [v11, v13] fun v14 =>
hBox 7 [v14] (fun v15 σ =>
xF fMove [v15] fun v2 =>
xF fMove [(.int .i64 0)] fun v3 =>
K (.tuple #[v2, v3]) σ) σ) σ) σ)

def w_mem_New_j1 (K : Value → Mem → Prop) (ts : List Value) (ls : List (List Value)) (σ : Mem) : Prop := w_mem_New_j1b K (ts.getD 0 poison) (ts.getD 1 poison) σ

def w_mem_New (a0 : Value) (K : Value → Mem → Prop) (σ : Mem) : Prop :=
xF fMove [(.pointer none)] fun v2 =>
xF fMove [(.int .i64 0)] fun v3 =>
xJoin (w_mem_New_j1 K) fun J1 =>
xF fMove [a0] fun v4 =>
xF (fBin .lss .no) [v4, (.int .i64 1)] fun v5 =>
xF fMove [v5] fun v6 =>
xIf v6
 (xF fPick [(.bool true), (.bool true), undef] fun v9 =>
J1 [a0, v9] [] σ)
 (xF fMove [a0] fun v7 =>
xF (fBin .gtr .no) [v7, (.int .i64 1048576)] fun v8 =>
xF fPick [(.bool false), (.bool true), v8] fun v9 =>
J1 [a0, v9] [] σ)

def s_mem_New : Spec := fun args K σ => match args with
  | [a0] => w_mem_New a0 K σ
  | _ => False

noncomputable def cx_mem_New : Cx := { P := Try.prog, T := [], loc := [], eqt := [], n := 16, keep := [(1000003, [0, 9], [])] }
theorem q_mem_New : FnS cx_mem_New Try.f58 (bodyOf Try.f58) 1 = s_mem_New := by
  funext args K σ
  rcases args with _ | ⟨a0, _ | ⟨b, r⟩⟩ <;> kernel_rfl
theorem e_mem_New : Entry Try.prog 58 .write s_mem_New :=
  entry (C := cx_mem_New) TOk.nil mixedOk Try.func58 (by kernel_rfl) (by kernel_rfl) (by kernel_rfl) q_mem_New

def xl_mem_New : List (Nat × Nat) := []
noncomputable def xc_mem_New : XC XN :=
(.seq none
 (.reg [⟨none, some 2, [(.const (.pointer none))], ⟨.f fMove, rMove⟩⟩,
  ⟨none, some 3, [(.const (.int .i64 0))], ⟨.f fMove, rMove⟩⟩])
 (.seq none
 (.seq (some ([0, 9], []))
 (.reg [⟨none, some 4, [(.tmp 0)], ⟨.f fMove, rMove⟩⟩,
  ⟨none, some 5, [(.tmp 4), (.const (.int .i64 1))], ⟨.f (fBin .lss .no), rLss⟩⟩,
  ⟨none, some 6, [(.tmp 5)], ⟨.f fMove, rMove⟩⟩,
  ⟨(some (3, 2, false, some 6)), some 7, [(.tmp 0)], ⟨.f fMove, rMove⟩⟩,
  ⟨(some (4, 2, false, some 6)), some 8, [(.tmp 7), (.const (.int .i64 1048576))], ⟨.f (fBin .gtr .no), rGtr⟩⟩,
  ⟨none, some 9, [(.tmp 6), (.const (.bool true)), (.tmp 8)], ⟨.f fPick, rPick⟩⟩])
 (.cond (.tmp 9)
 (.seq none
 (.reg [⟨none, some 2, [(.const (.pointer none))], ⟨.f fMove, rMove⟩⟩,
  ⟨none, some 3, [(.const (.int .i64 1))], ⟨.f fMove, rMove⟩⟩])
 .ret)
 .skip))
 (.seq none
 (.reg [⟨none, some 10, [(.tmp 0)], ⟨.f fMove, rMove⟩⟩,
  ⟨none, some 11, [(.tmp 10), (.tmp 10)], ⟨.ms 1 8 [(.int .u64 0)], rAny xl_mem_New (.ms 1 8 [(.int .u64 0)])⟩⟩,
  ⟨none, some 12, [(.tmp 0)], ⟨.f fMove, rMove⟩⟩,
  ⟨none, some 13, [(.tmp 12), (.tmp 12)], ⟨.ms 1 8 [(.int .i64 0)], rAny xl_mem_New (.ms 1 8 [(.int .i64 0)])⟩⟩,
  ⟨none, some 14, [(.tmp 11), (.tmp 13)], ⟨.f (fBuild [(0, 1), (1, 1), (2, 1), (3, 1), (4, 3)] [(.slice none 0 0), (.slice none 0 0), (.int .i64 0), (.int .i64 0), (.int .i64 0), (.int .i64 0), (.bool false)] [0, 1]), rAny xl_mem_New (.f (fBuild [(0, 1), (1, 1), (2, 1), (3, 1), (4, 3)] [(.slice none 0 0), (.slice none 0 0), (.int .i64 0), (.int .i64 0), (.int .i64 0), (.int .i64 0), (.bool false)] [0, 1]))⟩⟩,
  ⟨none, some 15, [(.tmp 14)], ⟨.box 7, rAny xl_mem_New (.box 7)⟩⟩,
  ⟨none, some 2, [(.tmp 15)], ⟨.f fMove, rMove⟩⟩,
  ⟨none, some 3, [(.const (.int .i64 0))], ⟨.f fMove, rMove⟩⟩])
 .ret)))
noncomputable def v_mem_New : EvF := evFn 1 xc_mem_New [.t 2, .t 3]
theorem xt_mem_New : toC cx_mem_New (bodyOf Try.f58) = some (xc_mem_New.map XN.sm) := by kernel_rfl
theorem xr_mem_New : toR cx_mem_New Try.f58.results.toList = some [.t 2, .t 3] := by kernel_rfl
theorem xo_mem_New : xc_mem_New.ok xl_mem_New := ⟨⟨rMove_ok, rMove_ok, trivial⟩, ⟨⟨⟨rMove_ok, rLss_ok, rMove_ok, rMove_ok, rGtr_ok, rPick_ok, trivial⟩, ⟨⟨⟨rMove_ok, rMove_ok, trivial⟩, trivial⟩, trivial⟩⟩, ⟨⟨rMove_ok, rAny_ok (trivial), rMove_ok, rAny_ok (trivial), rAny_ok (eqv_build _ rfl _), rAny_ok (trivial), rMove_ok, rMove_ok, trivial⟩, trivial⟩⟩⟩
theorem ve_mem_New : EvOk s_mem_New v_mem_New := EvOk.of (evFn_sound (C := cx_mem_New) xt_mem_New xr_mem_New xo_mem_New) q_mem_New

attribute [irreducible] w_mem_New_j1b w_mem_New_j1 w_mem_New s_mem_New

/-! ### /layout.Slot -/
def w_layout_Slot (a0 a1 : Value) (K : Value → Mem → Prop) (σ : Mem) : Prop :=
xC (gBox 7 [a0] []) fun c2 =>
xF fMove [(.int .i64 0)] fun v4 =>
xF (fFld 0) [(locP 2)] fun v5 =>
xO (gLoad 1 false [v5] c2) fun v6 =>
xF (fBin .add .no) [(.int .i64 6), v6] fun v7 =>
xF fMove [a1] fun v8 =>
xF (fBin .mul .no) [(.int .i64 2), v8] fun v9 =>
xF (fBin .add .no) [v7, v9] fun v10 =>
xF fMove [v10] fun v4 =>
K v4 σ

def s_layout_Slot : Spec := fun args K σ => match args with
  | [a0, a1] => w_layout_Slot a0 a1 K σ
  | _ => False

noncomputable def cx_layout_Slot : Cx := { P := Try.prog, T := [], loc := [(2, 2), (5, 2)], eqt := [], n := 11, keep := [] }
theorem q_layout_Slot : FnS cx_layout_Slot Try.f32 (bodyOf Try.f32) 2 = s_layout_Slot := by
  funext args K σ
  rcases args with _ | ⟨a0, _ | ⟨a1, _ | ⟨b, r⟩⟩⟩ <;> kernel_rfl
theorem e_layout_Slot : Entry Try.prog 32 .none s_layout_Slot :=
  entry (C := cx_layout_Slot) TOk.nil mixedOk Try.func32 (by kernel_rfl) (by kernel_rfl) (by kernel_rfl) q_layout_Slot

def xl_layout_Slot : List (Nat × Nat) := [(2, 2), (5, 2)]
noncomputable def xc_layout_Slot : XC XN :=
(.seq none
 (.reg [⟨none, some 2, [(.tmp 0)], ⟨.lb 2 7, rAny xl_layout_Slot (.lb 2 7)⟩⟩,
  ⟨none, some 4, [(.const (.int .i64 0))], ⟨.f fMove, rMove⟩⟩])
 (.seq none
 (.reg [⟨none, some 5, [(.tmp 2)], ⟨.f (fFld 0), rFld 0⟩⟩,
  ⟨none, some 6, [(.tmp 5)], ⟨.lr 2 1 false, rLr1 2⟩⟩,
  ⟨none, some 7, [(.const (.int .i64 6)), (.tmp 6)], ⟨.f (fBin .add .no), rAdd⟩⟩,
  ⟨none, some 8, [(.tmp 1)], ⟨.f fMove, rMove⟩⟩,
  ⟨none, some 9, [(.const (.int .i64 2)), (.tmp 8)], ⟨.f (fBin .mul .no), rMul⟩⟩,
  ⟨none, some 10, [(.tmp 7), (.tmp 9)], ⟨.f (fBin .add .no), rAdd⟩⟩,
  ⟨none, some 4, [(.tmp 10)], ⟨.f fMove, rMove⟩⟩])
 .ret))
noncomputable def v_layout_Slot : EvF := evFn 2 xc_layout_Slot [.t 4]
theorem xt_layout_Slot : toC cx_layout_Slot (bodyOf Try.f32) = some (xc_layout_Slot.map XN.sm) := by kernel_rfl
theorem xr_layout_Slot : toR cx_layout_Slot Try.f32.results.toList = some [.t 4] := by kernel_rfl
theorem xo_layout_Slot : xc_layout_Slot.ok xl_layout_Slot := ⟨⟨rAny_ok (trivial), rMove_ok, trivial⟩, ⟨⟨rFld_ok _, rLr1_ok _, rAdd_ok, rMove_ok, rMul_ok, rAdd_ok, rMove_ok, trivial⟩, trivial⟩⟩
theorem ve_layout_Slot : EvOk s_layout_Slot v_layout_Slot := EvOk.of (evFn_sound (C := cx_layout_Slot) xt_layout_Slot xr_layout_Slot xo_layout_Slot) q_layout_Slot

attribute [irreducible] w_layout_Slot s_layout_Slot

/-! ### /word.fit -/
def w_word_fit (a0 a1 : Value) (K : Value → Mem → Prop) (σ : Mem) : Prop :=
xF fMove [(.int .u64 0)] fun v4 =>
xF fMove [a0] fun v5 =>
xF fMax [v5, (.int .i64 0)] fun v6 =>
xF fMove [a1] fun v7 =>
xF fMin [v6, v7] fun v8 =>
xF (fConv .u64) [v8] fun v9 =>
xF fMove [v9] fun v4 =>
K v4 σ

def s_word_fit : Spec := fun args K σ => match args with
  | [a0, a1] => w_word_fit a0 a1 K σ
  | _ => False

noncomputable def cx_word_fit : Cx := { P := Try.prog, T := [], loc := [], eqt := [], n := 10, keep := [] }
theorem q_word_fit : FnS cx_word_fit Try.f64 (bodyOf Try.f64) 2 = s_word_fit := by
  funext args K σ
  rcases args with _ | ⟨a0, _ | ⟨a1, _ | ⟨b, r⟩⟩⟩ <;> kernel_rfl
theorem e_word_fit : Entry Try.prog 64 .none s_word_fit :=
  entry (C := cx_word_fit) TOk.nil mixedOk Try.func64 (by kernel_rfl) (by kernel_rfl) (by kernel_rfl) q_word_fit

def xl_word_fit : List (Nat × Nat) := []
noncomputable def xc_word_fit : XC XN :=
(.seq none
 (.reg [⟨none, some 4, [(.const (.int .u64 0))], ⟨.f fMove, rMove⟩⟩])
 (.seq none
 (.reg [⟨none, some 5, [(.tmp 0)], ⟨.f fMove, rMove⟩⟩,
  ⟨none, some 6, [(.tmp 5), (.const (.int .i64 0))], ⟨.f fMax, rAny xl_word_fit (.f fMax)⟩⟩,
  ⟨none, some 7, [(.tmp 1)], ⟨.f fMove, rMove⟩⟩,
  ⟨none, some 8, [(.tmp 6), (.tmp 7)], ⟨.f fMin, rAny xl_word_fit (.f fMin)⟩⟩,
  ⟨none, some 9, [(.tmp 8)], ⟨.f (fConv .u64), rConv .u64⟩⟩,
  ⟨none, some 4, [(.tmp 9)], ⟨.f fMove, rMove⟩⟩])
 .ret))
noncomputable def v_word_fit : EvF := evFn 2 xc_word_fit [.t 4]
theorem xt_word_fit : toC cx_word_fit (bodyOf Try.f64) = some (xc_word_fit.map XN.sm) := by kernel_rfl
theorem xr_word_fit : toR cx_word_fit Try.f64.results.toList = some [.t 4] := by kernel_rfl
theorem xo_word_fit : xc_word_fit.ok xl_word_fit := ⟨⟨rMove_ok, trivial⟩, ⟨⟨rMove_ok, rAny_ok (eqv_max), rMove_ok, rAny_ok (eqv_min), rConv_ok _, rMove_ok, trivial⟩, trivial⟩⟩
theorem ve_word_fit : EvOk s_word_fit v_word_fit := EvOk.of (evFn_sound (C := cx_word_fit) xt_word_fit xr_word_fit xo_word_fit) q_word_fit

attribute [irreducible] w_word_fit s_word_fit

/-! ### /word.PutSlot -/
def w_word_PutSlot (a0 : Value) (K : Value → Mem → Prop) (σ : Mem) : Prop :=
xC (gBox 4 [a0] []) fun c1 =>
xF fMove [(.int .u64 0)] fun v2 =>
xF (fFld 0) [(locP 1)] fun v3 =>
xO (gLoad 1 false [v3] c1) fun v4 =>
s_word_fit [v4, (.int .i64 7)] (fun v5 σ =>
xF (fFld 1) [(locP 1)] fun v6 =>
xO (gLoad 1 false [v6] c1) fun v7 =>
s_word_fit [v7, (.int .i64 1048575)] (fun v8 σ =>
xF (fBin .shl .no) [v8, (.int .u64 3)] fun v9 =>
xF (fBin .or .no) [v5, v9] fun v10 =>
xF (fFld 2) [(locP 1)] fun v11 =>
xO (gLoad 1 false [v11] c1) fun v12 =>
s_word_fit [v12, (.int .i64 65535)] (fun v13 σ =>
xF (fBin .shl .no) [v13, (.int .u64 23)] fun v14 =>
xF (fBin .or .no) [v10, v14] fun v15 =>
xF (fFld 3) [(locP 1)] fun v16 =>
xO (gLoad 1 false [v16] c1) fun v17 =>
s_word_fit [v17, (.int .i64 4194303)] (fun v18 σ =>
xF (fBin .shl .no) [v18, (.int .u64 39)] fun v19 =>
xF (fBin .or .no) [v15, v19] fun v20 =>
xF fMove [v20] fun v2 =>
K v2 σ) σ) σ) σ) σ

def s_word_PutSlot : Spec := fun args K σ => match args with
  | [a0] => w_word_PutSlot a0 K σ
  | _ => False

noncomputable def cx_word_PutSlot : Cx := { P := Try.prog, T := [(64, .none, s_word_fit)], loc := [(1, 1), (3, 1), (6, 1), (11, 1), (16, 1)], eqt := [], n := 21, keep := [] }
theorem q_word_PutSlot : FnS cx_word_PutSlot Try.f59 (bodyOf Try.f59) 1 = s_word_PutSlot := by
  funext args K σ
  rcases args with _ | ⟨a0, _ | ⟨b, r⟩⟩ <;> kernel_rfl
theorem e_word_PutSlot : Entry Try.prog 59 .none s_word_PutSlot :=
  entry (C := cx_word_PutSlot) (TOk.cons e_word_fit TOk.nil) mixedOk Try.func59 (by kernel_rfl) (by kernel_rfl) (by kernel_rfl) q_word_PutSlot

def xl_word_PutSlot : List (Nat × Nat) := [(1, 1), (3, 1), (6, 1), (11, 1), (16, 1)]
noncomputable def xc_word_PutSlot : XC XN :=
(.seq none
 (.reg [⟨none, some 1, [(.tmp 0)], ⟨.lb 1 4, rAny xl_word_PutSlot (.lb 1 4)⟩⟩,
  ⟨none, some 2, [(.const (.int .u64 0))], ⟨.f fMove, rMove⟩⟩])
 (.seq none
 (.reg [⟨none, some 3, [(.tmp 1)], ⟨.f (fFld 0), rFld 0⟩⟩,
  ⟨none, some 4, [(.tmp 3)], ⟨.lr 1 1 false, rLr1 1⟩⟩,
  ⟨none, some 5, [(.tmp 4), (.const (.int .i64 7))], ⟨.call .none s_word_fit v_word_fit, rCall v_word_fit⟩⟩,
  ⟨none, some 6, [(.tmp 1)], ⟨.f (fFld 1), rFld 1⟩⟩,
  ⟨none, some 7, [(.tmp 6)], ⟨.lr 1 1 false, rLr1 1⟩⟩,
  ⟨none, some 8, [(.tmp 7), (.const (.int .i64 1048575))], ⟨.call .none s_word_fit v_word_fit, rCall v_word_fit⟩⟩,
  ⟨none, some 9, [(.tmp 8), (.const (.int .u64 3))], ⟨.f (fBin .shl .no), rAny xl_word_PutSlot (.f (fBin .shl .no))⟩⟩,
  ⟨none, some 10, [(.tmp 5), (.tmp 9)], ⟨.f (fBin .or .no), rAny xl_word_PutSlot (.f (fBin .or .no))⟩⟩,
  ⟨none, some 11, [(.tmp 1)], ⟨.f (fFld 2), rFld 2⟩⟩,
  ⟨none, some 12, [(.tmp 11)], ⟨.lr 1 1 false, rLr1 1⟩⟩,
  ⟨none, some 13, [(.tmp 12), (.const (.int .i64 65535))], ⟨.call .none s_word_fit v_word_fit, rCall v_word_fit⟩⟩,
  ⟨none, some 14, [(.tmp 13), (.const (.int .u64 23))], ⟨.f (fBin .shl .no), rAny xl_word_PutSlot (.f (fBin .shl .no))⟩⟩,
  ⟨none, some 15, [(.tmp 10), (.tmp 14)], ⟨.f (fBin .or .no), rAny xl_word_PutSlot (.f (fBin .or .no))⟩⟩,
  ⟨none, some 16, [(.tmp 1)], ⟨.f (fFld 3), rFld 3⟩⟩,
  ⟨none, some 17, [(.tmp 16)], ⟨.lr 1 1 false, rLr1 1⟩⟩,
  ⟨none, some 18, [(.tmp 17), (.const (.int .i64 4194303))], ⟨.call .none s_word_fit v_word_fit, rCall v_word_fit⟩⟩,
  ⟨none, some 19, [(.tmp 18), (.const (.int .u64 39))], ⟨.f (fBin .shl .no), rAny xl_word_PutSlot (.f (fBin .shl .no))⟩⟩,
  ⟨none, some 20, [(.tmp 15), (.tmp 19)], ⟨.f (fBin .or .no), rAny xl_word_PutSlot (.f (fBin .or .no))⟩⟩,
  ⟨none, some 2, [(.tmp 20)], ⟨.f fMove, rMove⟩⟩])
 .ret))
noncomputable def v_word_PutSlot : EvF := evFn 1 xc_word_PutSlot [.t 2]
theorem xt_word_PutSlot : toC cx_word_PutSlot (bodyOf Try.f59) = some (xc_word_PutSlot.map XN.sm) := by kernel_rfl
theorem xr_word_PutSlot : toR cx_word_PutSlot Try.f59.results.toList = some [.t 2] := by kernel_rfl
theorem xo_word_PutSlot : xc_word_PutSlot.ok xl_word_PutSlot := ⟨⟨rAny_ok (trivial), rMove_ok, trivial⟩, ⟨⟨rFld_ok _, rLr1_ok _, rCall_ok ve_word_fit, rFld_ok _, rLr1_ok _, rCall_ok ve_word_fit, rAny_ok (eqv_bin _ _), rAny_ok (eqv_bin _ _), rFld_ok _, rLr1_ok _, rCall_ok ve_word_fit, rAny_ok (eqv_bin _ _), rAny_ok (eqv_bin _ _), rFld_ok _, rLr1_ok _, rCall_ok ve_word_fit, rAny_ok (eqv_bin _ _), rAny_ok (eqv_bin _ _), rMove_ok, trivial⟩, trivial⟩⟩
theorem ve_word_PutSlot : EvOk s_word_PutSlot v_word_PutSlot := EvOk.of (evFn_sound (C := cx_word_PutSlot) xt_word_PutSlot xr_word_PutSlot xo_word_PutSlot) q_word_PutSlot

attribute [irreducible] w_word_PutSlot s_word_PutSlot

/-! ### (*/mem.Mem).step -/
def w_mem_Mem_step_j1b (K : Value → Mem → Prop) (v0 v1 v19 : Value) (σ : Mem) : Prop :=
xIf v19
 (xF fMove [(.bool false)] fun v4 =>
K v4 σ)
 (xF fMove [v0] fun v20 =>
xF fNil [v20] fun v21 =>
xF (fFld 2) [v21] fun v22 =>
hLoad 1 false [v22] (fun v23 σ =>
xF (fBin .add .no) [v23, (.int .i64 1)] fun v24 =>
xF fNil [v20] fun v25 =>
xF (fFld 2) [v25] fun v26 =>
hStore 1 [v26, v24] (fun _v σ =>
xF fMove [v0] fun v27 =>
xF fMove [v1] fun v28 =>
xF fMove [v0] fun v29 =>
xF fNil [v29] fun v30 =>
xF (fFld 3) [v30] fun v31 =>
hLoad 1 false [v31] (fun v32 σ =>
xF (fBuild [(0, 1), (1, 1), (2, 1)] [(.int .i64 0), (.int .i64 0), (.bool false)] [0, 1]) [v28, v32] fun v33 =>
xF fNil [v27] fun v34 =>
xF (fFld 4) [v34] fun v35 =>
hStore 3 [v35, v33] (fun _v σ =>
xF fMove [(.bool true)] fun v4 =>
K v4 σ) σ) σ) σ) σ)

def w_mem_Mem_step_j1 (K : Value → Mem → Prop) (ts : List Value) (ls : List (List Value)) (σ : Mem) : Prop := w_mem_Mem_step_j1b K (ts.getD 0 poison) (ts.getD 1 poison) (ts.getD 2 poison) σ

def w_mem_Mem_step (a0 a1 : Value) (K : Value → Mem → Prop) (σ : Mem) : Prop :=
xF fMove [(.bool false)] fun v4 =>
xJoin (w_mem_Mem_step_j1 K) fun J1 =>
xF fMove [a0] fun v5 =>
xF (fBin .eql .ptr) [v5, (.pointer none)] fun v6 =>
xF fMove [v6] fun v7 =>
xIf v7
 (xF fPick [(.bool true), (.bool true), undef] fun v10 =>
xF fMove [v10] fun v11 =>
xIf v11
 (xF fPick [(.bool true), (.bool true), undef] fun v19 =>
J1 [a0, a1, v19] [] σ)
 (xF fMove [a1] fun v12 =>
xF fMove [a0] fun v13 =>
xF fNil [v13] fun v14 =>
xF (fFld 0) [v14] fun v15 =>
hLoad 1 false [v15] (fun v16 σ =>
xF fLen [v16] fun v17 =>
xF (fBin .geq .no) [v12, v17] fun v18 =>
xF fPick [(.bool false), (.bool true), v18] fun v19 =>
J1 [a0, a1, v19] [] σ) σ))
 (xF fMove [a1] fun v8 =>
xF (fBin .lss .no) [v8, (.int .i64 0)] fun v9 =>
xF fPick [(.bool false), (.bool true), v9] fun v10 =>
xF fMove [v10] fun v11 =>
xIf v11
 (xF fPick [(.bool true), (.bool true), undef] fun v19 =>
J1 [a0, a1, v19] [] σ)
 (xF fMove [a1] fun v12 =>
xF fMove [a0] fun v13 =>
xF fNil [v13] fun v14 =>
xF (fFld 0) [v14] fun v15 =>
hLoad 1 false [v15] (fun v16 σ =>
xF fLen [v16] fun v17 =>
xF (fBin .geq .no) [v12, v17] fun v18 =>
xF fPick [(.bool false), (.bool true), v18] fun v19 =>
J1 [a0, a1, v19] [] σ) σ))

def s_mem_Mem_step : Spec := fun args K σ => match args with
  | [a0, a1] => w_mem_Mem_step a0 a1 K σ
  | _ => False

noncomputable def cx_mem_Mem_step : Cx := { P := Try.prog, T := [], loc := [], eqt := [(29, .ptr)], n := 36, keep := [(1000003, [0, 1, 19], [])] }
theorem q_mem_Mem_step : FnS cx_mem_Mem_step Try.f62 (bodyOf Try.f62) 2 = s_mem_Mem_step := by
  funext args K σ
  rcases args with _ | ⟨a0, _ | ⟨a1, _ | ⟨b, r⟩⟩⟩ <;> kernel_rfl
theorem e_mem_Mem_step : Entry Try.prog 62 .write s_mem_Mem_step :=
  entry (C := cx_mem_Mem_step) TOk.nil mixedOk Try.func62 (by kernel_rfl) (by kernel_rfl) (by kernel_rfl) q_mem_Mem_step

def xl_mem_Mem_step : List (Nat × Nat) := []
noncomputable def xc_mem_Mem_step : XC XN :=
(.seq none
 (.reg [⟨none, some 4, [(.const (.bool false))], ⟨.f fMove, rMove⟩⟩])
 (.seq none
 (.seq (some ([0, 1, 19], []))
 (.reg [⟨none, some 5, [(.tmp 0)], ⟨.f fMove, rMove⟩⟩,
  ⟨none, some 6, [(.tmp 5), (.const (.pointer none))], ⟨.f (fBin .eql .ptr), rAny xl_mem_Mem_step (.f (fBin .eql .ptr))⟩⟩,
  ⟨none, some 7, [(.tmp 6)], ⟨.f fMove, rMove⟩⟩,
  ⟨(some (3, 2, false, some 7)), some 8, [(.tmp 1)], ⟨.f fMove, rMove⟩⟩,
  ⟨(some (4, 2, false, some 7)), some 9, [(.tmp 8), (.const (.int .i64 0))], ⟨.f (fBin .lss .no), rLss⟩⟩,
  ⟨none, some 10, [(.tmp 7), (.const (.bool true)), (.tmp 9)], ⟨.f fPick, rPick⟩⟩,
  ⟨none, some 11, [(.tmp 10)], ⟨.f fMove, rMove⟩⟩,
  ⟨(some (7, 6, false, some 11)), some 12, [(.tmp 1)], ⟨.f fMove, rMove⟩⟩,
  ⟨(some (8, 6, false, some 11)), some 13, [(.tmp 0)], ⟨.f fMove, rMove⟩⟩,
  ⟨(some (9, 6, false, some 11)), some 14, [(.tmp 13)], ⟨.f fNil, rNil⟩⟩,
  ⟨(some (10, 6, false, some 11)), some 15, [(.tmp 14)], ⟨.f (fFld 0), rFld 0⟩⟩,
  ⟨(some (11, 6, false, some 11)), some 16, [(.tmp 15)], ⟨.load 1 false, rLoad1⟩⟩,
  ⟨(some (12, 6, false, some 11)), some 17, [(.tmp 16)], ⟨.f fLen, rAny xl_mem_Mem_step (.f fLen)⟩⟩,
  ⟨(some (13, 6, false, some 11)), some 18, [(.tmp 12), (.tmp 17)], ⟨.f (fBin .geq .no), rGeq⟩⟩,
  ⟨none, some 19, [(.tmp 11), (.const (.bool true)), (.tmp 18)], ⟨.f fPick, rPick⟩⟩])
 (.cond (.tmp 19)
 (.seq none
 (.reg [⟨none, some 4, [(.const (.bool false))], ⟨.f fMove, rMove⟩⟩])
 .ret)
 .skip))
 (.seq none
 (.reg [⟨none, some 20, [(.tmp 0)], ⟨.f fMove, rMove⟩⟩,
  ⟨none, some 21, [(.tmp 20)], ⟨.f fNil, rNil⟩⟩,
  ⟨none, some 22, [(.tmp 21)], ⟨.f (fFld 2), rFld 2⟩⟩,
  ⟨none, some 23, [(.tmp 22)], ⟨.load 1 false, rLoad1⟩⟩,
  ⟨none, some 24, [(.tmp 23), (.const (.int .i64 1))], ⟨.f (fBin .add .no), rAdd⟩⟩,
  ⟨none, some 25, [(.tmp 20)], ⟨.f fNil, rNil⟩⟩,
  ⟨none, some 26, [(.tmp 25)], ⟨.f (fFld 2), rFld 2⟩⟩,
  ⟨none, none, [(.tmp 26), (.tmp 24)], ⟨.store 1, rStore1⟩⟩])
 (.seq none
 (.reg [⟨none, some 27, [(.tmp 0)], ⟨.f fMove, rMove⟩⟩,
  ⟨none, some 28, [(.tmp 1)], ⟨.f fMove, rMove⟩⟩,
  ⟨none, some 29, [(.tmp 0)], ⟨.f fMove, rMove⟩⟩,
  ⟨none, some 30, [(.tmp 29)], ⟨.f fNil, rNil⟩⟩,
  ⟨none, some 31, [(.tmp 30)], ⟨.f (fFld 3), rFld 3⟩⟩,
  ⟨none, some 32, [(.tmp 31)], ⟨.load 1 false, rLoad1⟩⟩,
  ⟨none, some 33, [(.tmp 28), (.tmp 32)], ⟨.f (fBuild [(0, 1), (1, 1), (2, 1)] [(.int .i64 0), (.int .i64 0), (.bool false)] [0, 1]), rAny xl_mem_Mem_step (.f (fBuild [(0, 1), (1, 1), (2, 1)] [(.int .i64 0), (.int .i64 0), (.bool false)] [0, 1]))⟩⟩,
  ⟨none, some 34, [(.tmp 27)], ⟨.f fNil, rNil⟩⟩,
  ⟨none, some 35, [(.tmp 34)], ⟨.f (fFld 4), rFld 4⟩⟩,
  ⟨none, none, [(.tmp 35), (.tmp 33)], ⟨.store 3, rAny xl_mem_Mem_step (.store 3)⟩⟩])
 (.seq none
 (.reg [⟨none, some 4, [(.const (.bool true))], ⟨.f fMove, rMove⟩⟩])
 .ret)))))
noncomputable def v_mem_Mem_step : EvF := evFn 2 xc_mem_Mem_step [.t 4]
theorem xt_mem_Mem_step : toC cx_mem_Mem_step (bodyOf Try.f62) = some (xc_mem_Mem_step.map XN.sm) := by kernel_rfl
theorem xr_mem_Mem_step : toR cx_mem_Mem_step Try.f62.results.toList = some [.t 4] := by kernel_rfl
theorem xo_mem_Mem_step : xc_mem_Mem_step.ok xl_mem_Mem_step := ⟨⟨rMove_ok, trivial⟩, ⟨⟨⟨rMove_ok, rAny_ok (eqv_bin _ _), rMove_ok, rMove_ok, rLss_ok, rPick_ok, rMove_ok, rMove_ok, rMove_ok, rNil_ok, rFld_ok _, rLoad1_ok, rAny_ok (eqv_len), rGeq_ok, rPick_ok, trivial⟩, ⟨⟨⟨rMove_ok, trivial⟩, trivial⟩, trivial⟩⟩, ⟨⟨rMove_ok, rNil_ok, rFld_ok _, rLoad1_ok, rAdd_ok, rNil_ok, rFld_ok _, rStore1_ok, trivial⟩, ⟨⟨rMove_ok, rMove_ok, rMove_ok, rNil_ok, rFld_ok _, rLoad1_ok, rAny_ok (eqv_build _ rfl _), rNil_ok, rFld_ok _, rAny_ok (trivial), trivial⟩, ⟨⟨rMove_ok, trivial⟩, trivial⟩⟩⟩⟩⟩
theorem ve_mem_Mem_step : EvOk s_mem_Mem_step v_mem_Mem_step := EvOk.of (evFn_sound (C := cx_mem_Mem_step) xt_mem_Mem_step xr_mem_Mem_step xo_mem_Mem_step) q_mem_Mem_step

attribute [irreducible] w_mem_Mem_step_j1b w_mem_Mem_step_j1 w_mem_Mem_step s_mem_Mem_step

/-! ### (*/mem.Mem).set -/
def w_mem_Mem_set_j1b (K : Value → Mem → Prop) (v0 v1 v2 : Value) (σ : Mem) : Prop :=
xF fMove [v0] fun v34 =>
xF fNil [v34] fun v35 =>
xF (fFld 0) [v35] fun v36 =>
hLoad 1 false [v36] (fun v37 σ =>
xF fMove [v1] fun v38 =>
xF fMove [v2] fun v39 =>
xF (fIxS 1) [v37, v38] fun v40 =>
hStore 1 [v40, v39] (fun _v σ =>
K (.tuple #[]) σ) σ) σ

def w_mem_Mem_set_j1 (K : Value → Mem → Prop) (ts : List Value) (ls : List (List Value)) (σ : Mem) : Prop := w_mem_Mem_set_j1b K (ts.getD 0 poison) (ts.getD 1 poison) (ts.getD 2 poison) σ

def w_mem_Mem_set (a0 a1 a2 : Value) (K : Value → Mem → Prop) (σ : Mem) : Prop :=
xJoin (w_mem_Mem_set_j1 K) fun J1 =>
xF fMove [a0] fun v6 =>
xF fMove [a0] fun v7 =>
xF fNil [v7] fun v8 =>
xF (fFld 0) [v8] fun v9 =>
hLoad 1 false [v9] (fun v10 σ =>
xF fMove [a1] fun v11 =>
xF (fIxS 1) [v10, v11] fun v12 =>
hLoad 1 false [v12] (fun v13 σ =>
xF fMove [a2] fun v14 =>
xF (fBin .neq .no) [v13, v14] fun v15 =>
xF fNil [v6] fun v16 =>
xF (fFld 4) [v16] fun v17 =>
xF (fFld 2) [v17] fun v18 =>
hStore 1 [v18, v15] (fun _v σ =>
xF fMove [a0] fun v19 =>
xF fNil [v19] fun v20 =>
xF (fFld 4) [v20] fun v21 =>
xF (fFld 2) [v21] fun v22 =>
hLoad 1 false [v22] (fun v23 σ =>
xIf v23
 (xF fMove [a0] fun v24 =>
xF fNil [v24] fun v25 =>
xF (fFld 1) [v25] fun v26 =>
hLoad 1 false [v26] (fun v27 σ =>
xF fMove [a1] fun v28 =>
xF fMove [a0] fun v29 =>
xF fNil [v29] fun v30 =>
xF (fFld 2) [v30] fun v31 =>
hLoad 1 false [v31] (fun v32 σ =>
xF (fIxS 1) [v27, v28] fun v33 =>
hStore 1 [v33, v32] (fun _v σ =>
J1 [a0, a1, a2] [] σ) σ) σ) σ)
 (J1 [a0, a1, a2] [] σ)) σ) σ) σ) σ

def s_mem_Mem_set : Spec := fun args K σ => match args with
  | [a0, a1, a2] => w_mem_Mem_set a0 a1 a2 K σ
  | _ => False

noncomputable def cx_mem_Mem_set : Cx := { P := Try.prog, T := [], loc := [], eqt := [], n := 41, keep := [(1000004, [0, 1, 2], [])] }
theorem q_mem_Mem_set : FnS cx_mem_Mem_set Try.f63 (bodyOf Try.f63) 3 = s_mem_Mem_set := by
  funext args K σ
  rcases args with _ | ⟨a0, _ | ⟨a1, _ | ⟨a2, _ | ⟨b, r⟩⟩⟩⟩ <;> kernel_rfl
theorem e_mem_Mem_set : Entry Try.prog 63 .write s_mem_Mem_set :=
  entry (C := cx_mem_Mem_set) TOk.nil mixedOk Try.func63 (by kernel_rfl) (by kernel_rfl) (by kernel_rfl) q_mem_Mem_set

def xl_mem_Mem_set : List (Nat × Nat) := []
noncomputable def xc_mem_Mem_set : XC XN :=
(.seq (some ([0, 1, 2], []))
 (.seq none
 (.reg [⟨none, some 6, [(.tmp 0)], ⟨.f fMove, rMove⟩⟩,
  ⟨none, some 7, [(.tmp 0)], ⟨.f fMove, rMove⟩⟩,
  ⟨none, some 8, [(.tmp 7)], ⟨.f fNil, rNil⟩⟩,
  ⟨none, some 9, [(.tmp 8)], ⟨.f (fFld 0), rFld 0⟩⟩,
  ⟨none, some 10, [(.tmp 9)], ⟨.load 1 false, rLoad1⟩⟩,
  ⟨none, some 11, [(.tmp 1)], ⟨.f fMove, rMove⟩⟩,
  ⟨none, some 12, [(.tmp 10), (.tmp 11)], ⟨.f (fIxS 1), rIxS 1⟩⟩,
  ⟨none, some 13, [(.tmp 12)], ⟨.load 1 false, rLoad1⟩⟩,
  ⟨none, some 14, [(.tmp 2)], ⟨.f fMove, rMove⟩⟩,
  ⟨none, some 15, [(.tmp 13), (.tmp 14)], ⟨.f (fBin .neq .no), rNeq⟩⟩,
  ⟨none, some 16, [(.tmp 6)], ⟨.f fNil, rNil⟩⟩,
  ⟨none, some 17, [(.tmp 16)], ⟨.f (fFld 4), rFld 4⟩⟩,
  ⟨none, some 18, [(.tmp 17)], ⟨.f (fFld 2), rFld 2⟩⟩,
  ⟨none, none, [(.tmp 18), (.tmp 15)], ⟨.store 1, rStore1⟩⟩])
 (.seq none
 (.reg [⟨none, some 19, [(.tmp 0)], ⟨.f fMove, rMove⟩⟩,
  ⟨none, some 20, [(.tmp 19)], ⟨.f fNil, rNil⟩⟩,
  ⟨none, some 21, [(.tmp 20)], ⟨.f (fFld 4), rFld 4⟩⟩,
  ⟨none, some 22, [(.tmp 21)], ⟨.f (fFld 2), rFld 2⟩⟩,
  ⟨none, some 23, [(.tmp 22)], ⟨.load 1 false, rLoad1⟩⟩])
 (.cond (.tmp 23)
 (.reg [⟨none, some 24, [(.tmp 0)], ⟨.f fMove, rMove⟩⟩,
  ⟨none, some 25, [(.tmp 24)], ⟨.f fNil, rNil⟩⟩,
  ⟨none, some 26, [(.tmp 25)], ⟨.f (fFld 1), rFld 1⟩⟩,
  ⟨none, some 27, [(.tmp 26)], ⟨.load 1 false, rLoad1⟩⟩,
  ⟨none, some 28, [(.tmp 1)], ⟨.f fMove, rMove⟩⟩,
  ⟨none, some 29, [(.tmp 0)], ⟨.f fMove, rMove⟩⟩,
  ⟨none, some 30, [(.tmp 29)], ⟨.f fNil, rNil⟩⟩,
  ⟨none, some 31, [(.tmp 30)], ⟨.f (fFld 2), rFld 2⟩⟩,
  ⟨none, some 32, [(.tmp 31)], ⟨.load 1 false, rLoad1⟩⟩,
  ⟨none, some 33, [(.tmp 27), (.tmp 28)], ⟨.f (fIxS 1), rIxS 1⟩⟩,
  ⟨none, none, [(.tmp 33), (.tmp 32)], ⟨.store 1, rStore1⟩⟩])
 .skip)))
 (.reg [⟨none, some 34, [(.tmp 0)], ⟨.f fMove, rMove⟩⟩,
  ⟨none, some 35, [(.tmp 34)], ⟨.f fNil, rNil⟩⟩,
  ⟨none, some 36, [(.tmp 35)], ⟨.f (fFld 0), rFld 0⟩⟩,
  ⟨none, some 37, [(.tmp 36)], ⟨.load 1 false, rLoad1⟩⟩,
  ⟨none, some 38, [(.tmp 1)], ⟨.f fMove, rMove⟩⟩,
  ⟨none, some 39, [(.tmp 2)], ⟨.f fMove, rMove⟩⟩,
  ⟨none, some 40, [(.tmp 37), (.tmp 38)], ⟨.f (fIxS 1), rIxS 1⟩⟩,
  ⟨none, none, [(.tmp 40), (.tmp 39)], ⟨.store 1, rStore1⟩⟩]))
noncomputable def v_mem_Mem_set : EvF := evFn 3 xc_mem_Mem_set []
theorem xt_mem_Mem_set : toC cx_mem_Mem_set (bodyOf Try.f63) = some (xc_mem_Mem_set.map XN.sm) := by kernel_rfl
theorem xr_mem_Mem_set : toR cx_mem_Mem_set Try.f63.results.toList = some [] := by kernel_rfl
theorem xo_mem_Mem_set : xc_mem_Mem_set.ok xl_mem_Mem_set := ⟨⟨⟨rMove_ok, rMove_ok, rNil_ok, rFld_ok _, rLoad1_ok, rMove_ok, rIxS_ok _, rLoad1_ok, rMove_ok, rNeq_ok, rNil_ok, rFld_ok _, rFld_ok _, rStore1_ok, trivial⟩, ⟨⟨rMove_ok, rNil_ok, rFld_ok _, rFld_ok _, rLoad1_ok, trivial⟩, ⟨⟨rMove_ok, rNil_ok, rFld_ok _, rLoad1_ok, rMove_ok, rMove_ok, rNil_ok, rFld_ok _, rLoad1_ok, rIxS_ok _, rStore1_ok, trivial⟩, trivial⟩⟩⟩, ⟨rMove_ok, rNil_ok, rFld_ok _, rLoad1_ok, rMove_ok, rMove_ok, rIxS_ok _, rStore1_ok, trivial⟩⟩
theorem ve_mem_Mem_set : EvOk s_mem_Mem_set v_mem_Mem_set := EvOk.of (evFn_sound (C := cx_mem_Mem_set) xt_mem_Mem_set xr_mem_Mem_set xo_mem_Mem_set) q_mem_Mem_set

attribute [irreducible] w_mem_Mem_set_j1b w_mem_Mem_set_j1 w_mem_Mem_set s_mem_Mem_set

/-! ### (*/mem.Mem).Store -/
def w_mem_Mem_Store (a0 a1 a2 : Value) (K : Value → Mem → Prop) (σ : Mem) : Prop :=
xF fMove [(.int .i64 0)] fun v6 =>
xF fMove [a0] fun v7 =>
xF fMove [a1] fun v8 =>
s_mem_Mem_step [v7, v8] (fun v9 σ =>
xF (fUn .not) [v9] fun v10 =>
xIf v10
 (xF fMove [(.int .i64 2)] fun v6 =>
K v6 σ)
 (xF fMove [a0] fun v11 =>
xF fMove [a1] fun v12 =>
xF fMove [a2] fun v13 =>
s_mem_Mem_set [v11, v12, v13] (fun v14 σ =>
xF fMove [(.int .i64 0)] fun v6 =>
K v6 σ) σ)) σ

def s_mem_Mem_Store : Spec := fun args K σ => match args with
  | [a0, a1, a2] => w_mem_Mem_Store a0 a1 a2 K σ
  | _ => False

noncomputable def cx_mem_Mem_Store : Cx := { P := Try.prog, T := [(62, .write, s_mem_Mem_step), (63, .write, s_mem_Mem_set)], loc := [], eqt := [], n := 15, keep := [] }
theorem q_mem_Mem_Store : FnS cx_mem_Mem_Store Try.f45 (bodyOf Try.f45) 3 = s_mem_Mem_Store := by
  funext args K σ
  rcases args with _ | ⟨a0, _ | ⟨a1, _ | ⟨a2, _ | ⟨b, r⟩⟩⟩⟩ <;> kernel_rfl
theorem e_mem_Mem_Store : Entry Try.prog 45 .write s_mem_Mem_Store :=
  entry (C := cx_mem_Mem_Store) (TOk.cons e_mem_Mem_step (TOk.cons e_mem_Mem_set TOk.nil)) mixedOk Try.func45 (by kernel_rfl) (by kernel_rfl) (by kernel_rfl) q_mem_Mem_Store

def xl_mem_Mem_Store : List (Nat × Nat) := []
noncomputable def xc_mem_Mem_Store : XC XN :=
(.seq none
 (.reg [⟨none, some 6, [(.const (.int .i64 0))], ⟨.f fMove, rMove⟩⟩])
 (.seq none
 (.seq none
 (.reg [⟨none, some 7, [(.tmp 0)], ⟨.f fMove, rMove⟩⟩,
  ⟨none, some 8, [(.tmp 1)], ⟨.f fMove, rMove⟩⟩,
  ⟨none, some 9, [(.tmp 7), (.tmp 8)], ⟨.call .write s_mem_Mem_step v_mem_Mem_step, rCall v_mem_Mem_step⟩⟩,
  ⟨none, some 10, [(.tmp 9)], ⟨.f (fUn .not), rNot⟩⟩])
 (.cond (.tmp 10)
 (.seq none
 (.reg [⟨none, some 6, [(.const (.int .i64 2))], ⟨.f fMove, rMove⟩⟩])
 .ret)
 .skip))
 (.seq none
 (.reg [⟨none, some 11, [(.tmp 0)], ⟨.f fMove, rMove⟩⟩,
  ⟨none, some 12, [(.tmp 1)], ⟨.f fMove, rMove⟩⟩,
  ⟨none, some 13, [(.tmp 2)], ⟨.f fMove, rMove⟩⟩,
  ⟨none, some 14, [(.tmp 11), (.tmp 12), (.tmp 13)], ⟨.call .write s_mem_Mem_set v_mem_Mem_set, rCall v_mem_Mem_set⟩⟩])
 (.seq none
 (.reg [⟨none, some 6, [(.const (.int .i64 0))], ⟨.f fMove, rMove⟩⟩])
 .ret))))
noncomputable def v_mem_Mem_Store : EvF := evFn 3 xc_mem_Mem_Store [.t 6]
theorem xt_mem_Mem_Store : toC cx_mem_Mem_Store (bodyOf Try.f45) = some (xc_mem_Mem_Store.map XN.sm) := by kernel_rfl
theorem xr_mem_Mem_Store : toR cx_mem_Mem_Store Try.f45.results.toList = some [.t 6] := by kernel_rfl
theorem xo_mem_Mem_Store : xc_mem_Mem_Store.ok xl_mem_Mem_Store := ⟨⟨rMove_ok, trivial⟩, ⟨⟨⟨rMove_ok, rMove_ok, rCall_ok ve_mem_Mem_step, rNot_ok, trivial⟩, ⟨⟨⟨rMove_ok, trivial⟩, trivial⟩, trivial⟩⟩, ⟨⟨rMove_ok, rMove_ok, rMove_ok, rCall_ok ve_mem_Mem_set, trivial⟩, ⟨⟨rMove_ok, trivial⟩, trivial⟩⟩⟩⟩
theorem ve_mem_Mem_Store : EvOk s_mem_Mem_Store v_mem_Mem_Store := EvOk.of (evFn_sound (C := cx_mem_Mem_Store) xt_mem_Mem_Store xr_mem_Mem_Store xo_mem_Mem_Store) q_mem_Mem_Store

attribute [irreducible] w_mem_Mem_Store s_mem_Mem_Store

/-! ### /word.PutTop -/
def w_word_PutTop (a0 a1 : Value) (K : Value → Mem → Prop) (σ : Mem) : Prop :=
xF fMove [(.int .u64 0)] fun v4 =>
xF fMove [a0] fun v5 =>
xF fMin [v5, (.int .i64 65535)] fun v6 =>
xF (fBin .add .no) [v6, (.int .i64 1)] fun v7 =>
s_word_fit [v7, (.int .i64 65536)] (fun v8 σ =>
xF fMove [a1] fun v9 =>
s_word_fit [v9, (.int .i64 68719476735)] (fun v10 σ =>
xF (fBin .shl .no) [v10, (.int .u64 17)] fun v11 =>
xF (fBin .or .no) [v8, v11] fun v12 =>
xF fMove [v12] fun v4 =>
K v4 σ) σ) σ

def s_word_PutTop : Spec := fun args K σ => match args with
  | [a0, a1] => w_word_PutTop a0 a1 K σ
  | _ => False

noncomputable def cx_word_PutTop : Cx := { P := Try.prog, T := [(64, .none, s_word_fit)], loc := [], eqt := [], n := 13, keep := [] }
theorem q_word_PutTop : FnS cx_word_PutTop Try.f60 (bodyOf Try.f60) 2 = s_word_PutTop := by
  funext args K σ
  rcases args with _ | ⟨a0, _ | ⟨a1, _ | ⟨b, r⟩⟩⟩ <;> kernel_rfl
theorem e_word_PutTop : Entry Try.prog 60 .none s_word_PutTop :=
  entry (C := cx_word_PutTop) (TOk.cons e_word_fit TOk.nil) mixedOk Try.func60 (by kernel_rfl) (by kernel_rfl) (by kernel_rfl) q_word_PutTop

def xl_word_PutTop : List (Nat × Nat) := []
noncomputable def xc_word_PutTop : XC XN :=
(.seq none
 (.reg [⟨none, some 4, [(.const (.int .u64 0))], ⟨.f fMove, rMove⟩⟩])
 (.seq none
 (.reg [⟨none, some 5, [(.tmp 0)], ⟨.f fMove, rMove⟩⟩,
  ⟨none, some 6, [(.tmp 5), (.const (.int .i64 65535))], ⟨.f fMin, rAny xl_word_PutTop (.f fMin)⟩⟩,
  ⟨none, some 7, [(.tmp 6), (.const (.int .i64 1))], ⟨.f (fBin .add .no), rAdd⟩⟩,
  ⟨none, some 8, [(.tmp 7), (.const (.int .i64 65536))], ⟨.call .none s_word_fit v_word_fit, rCall v_word_fit⟩⟩,
  ⟨none, some 9, [(.tmp 1)], ⟨.f fMove, rMove⟩⟩,
  ⟨none, some 10, [(.tmp 9), (.const (.int .i64 68719476735))], ⟨.call .none s_word_fit v_word_fit, rCall v_word_fit⟩⟩,
  ⟨none, some 11, [(.tmp 10), (.const (.int .u64 17))], ⟨.f (fBin .shl .no), rAny xl_word_PutTop (.f (fBin .shl .no))⟩⟩,
  ⟨none, some 12, [(.tmp 8), (.tmp 11)], ⟨.f (fBin .or .no), rAny xl_word_PutTop (.f (fBin .or .no))⟩⟩,
  ⟨none, some 4, [(.tmp 12)], ⟨.f fMove, rMove⟩⟩])
 .ret))
noncomputable def v_word_PutTop : EvF := evFn 2 xc_word_PutTop [.t 4]
theorem xt_word_PutTop : toC cx_word_PutTop (bodyOf Try.f60) = some (xc_word_PutTop.map XN.sm) := by kernel_rfl
theorem xr_word_PutTop : toR cx_word_PutTop Try.f60.results.toList = some [.t 4] := by kernel_rfl
theorem xo_word_PutTop : xc_word_PutTop.ok xl_word_PutTop := ⟨⟨rMove_ok, trivial⟩, ⟨⟨rMove_ok, rAny_ok (eqv_min), rAdd_ok, rCall_ok ve_word_fit, rMove_ok, rCall_ok ve_word_fit, rAny_ok (eqv_bin _ _), rAny_ok (eqv_bin _ _), rMove_ok, trivial⟩, trivial⟩⟩
theorem ve_word_PutTop : EvOk s_word_PutTop v_word_PutTop := EvOk.of (evFn_sound (C := cx_word_PutTop) xt_word_PutTop xr_word_PutTop xo_word_PutTop) q_word_PutTop

attribute [irreducible] w_word_PutTop s_word_PutTop

/-! ### /layout.Top -/
def w_layout_Top (K : Value → Mem → Prop) (σ : Mem) : Prop :=
xF fMove [(.int .i64 0)] fun v0 =>
xF fMove [(.int .i64 1)] fun v0 =>
K v0 σ

def s_layout_Top : Spec := fun args K σ => match args with
  | [] => w_layout_Top  K σ
  | _ => False

noncomputable def cx_layout_Top : Cx := { P := Try.prog, T := [], loc := [], eqt := [], n := 1, keep := [] }
theorem q_layout_Top : FnS cx_layout_Top Try.f29 (bodyOf Try.f29) 0 = s_layout_Top := by
  funext args K σ
  rcases args with _ | ⟨b, r⟩ <;> kernel_rfl
theorem e_layout_Top : Entry Try.prog 29 .none s_layout_Top :=
  entry (C := cx_layout_Top) TOk.nil mixedOk Try.func29 (by kernel_rfl) (by kernel_rfl) (by kernel_rfl) q_layout_Top

def xl_layout_Top : List (Nat × Nat) := []
noncomputable def xc_layout_Top : XC XN :=
(.seq none
 (.reg [⟨none, some 0, [(.const (.int .i64 0))], ⟨.f fMove, rMove⟩⟩])
 (.seq none
 (.reg [⟨none, some 0, [(.const (.int .i64 1))], ⟨.f fMove, rMove⟩⟩])
 .ret))
noncomputable def v_layout_Top : EvF := evFn 0 xc_layout_Top [.t 0]
theorem xt_layout_Top : toC cx_layout_Top (bodyOf Try.f29) = some (xc_layout_Top.map XN.sm) := by kernel_rfl
theorem xr_layout_Top : toR cx_layout_Top Try.f29.results.toList = some [.t 0] := by kernel_rfl
theorem xo_layout_Top : xc_layout_Top.ok xl_layout_Top := ⟨⟨rMove_ok, trivial⟩, ⟨⟨rMove_ok, trivial⟩, trivial⟩⟩
theorem ve_layout_Top : EvOk s_layout_Top v_layout_Top := EvOk.of (evFn_sound (C := cx_layout_Top) xt_layout_Top xr_layout_Top xo_layout_Top) q_layout_Top

attribute [irreducible] w_layout_Top s_layout_Top

/-! ### /layout.Fresh -/
def w_layout_Fresh_j1b (K : Value → Mem → Prop) (v4 : Value) (c1 : List Value) (σ : Mem) : Prop :=
xF fMove [v4] fun v41 =>
xO (gLoad 7 true [(locP 1)] c1) fun v42 =>
xF (fFld 1) [(locP 1)] fun v43 =>
xO (gLoad 1 false [v43] c1) fun v44 =>
xF (fBin .sub .no) [v44, (.int .i64 1)] fun v45 =>
s_layout_Slot [v42, v45] (fun v46 σ =>
xF (fBin .add .no) [v46, (.int .i64 1)] fun v47 =>
s_word_PutTop [(.int .i64 (-1)), (.int .i64 0)] (fun v48 σ =>
s_mem_Mem_Store [v41, v47, v48] (fun v49 σ =>
xF fMove [v4] fun v50 =>
s_layout_Top [] (fun v51 σ =>
s_word_PutTop [(.int .i64 0), (.int .i64 0)] (fun v52 σ =>
s_mem_Mem_Store [v50, v51, v52] (fun v53 σ =>
xF fMove [v4] fun v54 =>
xF fMove [v54] fun v2 =>
xF fMove [(.int .i64 0)] fun v3 =>
K (.tuple #[v2, v3]) σ) σ) σ) σ) σ) σ) σ

def w_layout_Fresh_j1 (K : Value → Mem → Prop) (ts : List Value) (ls : List (List Value)) (σ : Mem) : Prop := w_layout_Fresh_j1b K (ts.getD 0 poison) (ls.getD 0 []) σ

def w_layout_Fresh_l8b (K : Value → Mem → Prop) (J1 : List Value → List (List Value) → Mem → Prop) (R1 : List Value → List (List Value) → Mem → Prop) (v4 v20 v21 : Value) (c1 : List Value) (σ : Mem) : Prop :=
xF (fBin .lss .no) [v21, v20] fun v22 =>
xIf v22
 (xF fMove [v21] fun v23 =>
xF fMove [v23] fun v6 =>
xF fMove [v4] fun v24 =>
xO (gLoad 7 true [(locP 1)] c1) fun v25 =>
xF fMove [v6] fun v26 =>
s_layout_Slot [v25, v26] (fun v27 σ =>
xF (fBuild [(0, 1), (1, 1), (2, 1), (3, 1)] [(.int .i64 0), (.int .i64 0), (.int .i64 0), (.int .i64 0)] [2]) [(.int .i64 1)] fun v28 =>
s_word_PutSlot [v28] (fun v29 σ =>
s_mem_Mem_Store [v24, v27, v29] (fun v30 σ =>
xF fMove [v4] fun v31 =>
xO (gLoad 7 true [(locP 1)] c1) fun v32 =>
xF fMove [v6] fun v33 =>
s_layout_Slot [v32, v33] (fun v34 σ =>
xF (fBin .add .no) [v34, (.int .i64 1)] fun v35 =>
xF fMove [v6] fun v36 =>
xF (fBin .add .no) [v36, (.int .i64 1)] fun v37 =>
s_word_PutTop [v37, (.int .i64 0)] (fun v38 σ =>
s_mem_Mem_Store [v31, v35, v38] (fun v39 σ =>
xF (fBin .add .no) [v21, (.int .i64 1)] fun v40 =>
xF fMove [v40] fun v21 =>
R1 [v4, v20, v21] [c1] σ) σ) σ) σ) σ) σ) σ)
 (J1 [v4] [c1] σ)

def w_layout_Fresh_l8 (K : Value → Mem → Prop) (J1 : List Value → List (List Value) → Mem → Prop) (R1 : List Value → List (List Value) → Mem → Prop) (ts : List Value) (ls : List (List Value)) (σ : Mem) : Prop := w_layout_Fresh_l8b K J1 R1 (ts.getD 0 poison) (ts.getD 1 poison) (ts.getD 2 poison) (ls.getD 0 []) σ

def w_layout_Fresh (a0 : Value) (K : Value → Mem → Prop) (σ : Mem) : Prop :=
xC (gBox 7 [a0] []) fun c1 =>
xF fMove [(.pointer none)] fun v2 =>
xF fMove [(.int .i64 0)] fun v3 =>
xO (gLoad 7 true [(locP 1)] c1) fun v7 =>
s_layout_Check [v7] (fun v8 σ =>
xF (fUn .not) [v8] fun v9 =>
xIf v9
 (xF fMove [(.pointer none)] fun v2 =>
xF fMove [(.int .i64 1)] fun v3 =>
K (.tuple #[v2, v3]) σ)
 (xO (gLoad 7 true [(locP 1)] c1) fun v11 =>
s_layout_Len [v11] (fun v12 σ =>
s_mem_New [v12] (fun v13 σ =>
xF fMove [v13] fun v10 =>
xF (fExt 0) [v10] fun v14 =>
xF (fExt 1) [v10] fun v15 =>
xF fMove [v14] fun v4 =>
xF fMove [v15] fun v5 =>
xF fMove [v5] fun v16 =>
xF (fBin .neq .no) [v16, (.int .i64 0)] fun v17 =>
xIf v17
 (xF fMove [v5] fun v18 =>
xF fMove [(.pointer none)] fun v2 =>
xF fMove [v18] fun v3 =>
K (.tuple #[v2, v3]) σ)
 (xJoin (w_layout_Fresh_j1 K) fun J1 =>
xF (fFld 1) [(locP 1)] fun v19 =>
xO (gLoad 1 false [v19] c1) fun v20 =>
xF fMove [(.int .i64 0)] fun v21 =>
xLoop (w_layout_Fresh_l8 K J1) [v4, v20, v21] [c1] σ)) σ) σ)) σ

def s_layout_Fresh : Spec := fun args K σ => match args with
  | [a0] => w_layout_Fresh a0 K σ
  | _ => False

noncomputable def cx_layout_Fresh : Cx := { P := Try.prog, T := [(15, .none, s_layout_Check), (24, .none, s_layout_Len), (58, .write, s_mem_New), (32, .none, s_layout_Slot), (59, .none, s_word_PutSlot), (45, .write, s_mem_Mem_Store), (60, .none, s_word_PutTop), (29, .none, s_layout_Top)], loc := [(1, 1), (19, 1), (43, 1)], eqt := [], n := 55, keep := [(8, [4, 20, 21], [1]), (1000013, [4], [1])] }
theorem q_layout_Fresh : FnS cx_layout_Fresh Try.f22 (bodyOf Try.f22) 1 = s_layout_Fresh := by
  funext args K σ
  rcases args with _ | ⟨a0, _ | ⟨b, r⟩⟩ <;> kernel_rfl
theorem e_layout_Fresh : Entry Try.prog 22 .write s_layout_Fresh :=
  entry (C := cx_layout_Fresh) (TOk.cons e_layout_Check (TOk.cons e_layout_Len (TOk.cons e_mem_New (TOk.cons e_layout_Slot (TOk.cons e_word_PutSlot (TOk.cons e_mem_Mem_Store (TOk.cons e_word_PutTop (TOk.cons e_layout_Top TOk.nil)))))))) mixedOk Try.func22 (by kernel_rfl) (by kernel_rfl) (by kernel_rfl) q_layout_Fresh

def xl_layout_Fresh : List (Nat × Nat) := [(1, 1), (19, 1), (43, 1)]
noncomputable def xc_layout_Fresh : XC XN :=
(.seq none
 (.reg [⟨none, some 1, [(.tmp 0)], ⟨.lb 1 7, rAny xl_layout_Fresh (.lb 1 7)⟩⟩,
  ⟨none, some 2, [(.const (.pointer none))], ⟨.f fMove, rMove⟩⟩,
  ⟨none, some 3, [(.const (.int .i64 0))], ⟨.f fMove, rMove⟩⟩])
 (.seq none
 (.seq none
 (.reg [⟨none, some 7, [(.tmp 1)], ⟨.lr 1 7 true, rAny xl_layout_Fresh (.lr 1 7 true)⟩⟩,
  ⟨none, some 8, [(.tmp 7)], ⟨.call .none s_layout_Check v_layout_Check, rCall v_layout_Check⟩⟩,
  ⟨none, some 9, [(.tmp 8)], ⟨.f (fUn .not), rNot⟩⟩])
 (.cond (.tmp 9)
 (.seq none
 (.reg [⟨none, some 2, [(.const (.pointer none))], ⟨.f fMove, rMove⟩⟩,
  ⟨none, some 3, [(.const (.int .i64 1))], ⟨.f fMove, rMove⟩⟩])
 .ret)
 .skip))
 (.seq none
 (.reg [⟨none, some 11, [(.tmp 1)], ⟨.lr 1 7 true, rAny xl_layout_Fresh (.lr 1 7 true)⟩⟩,
  ⟨none, some 12, [(.tmp 11)], ⟨.call .none s_layout_Len v_layout_Len, rCall v_layout_Len⟩⟩,
  ⟨none, some 13, [(.tmp 12)], ⟨.call .write s_mem_New v_mem_New, rCall v_mem_New⟩⟩,
  ⟨none, some 10, [(.tmp 13)], ⟨.f fMove, rMove⟩⟩,
  ⟨none, some 14, [(.tmp 10)], ⟨.f (fExt 0), rAny xl_layout_Fresh (.f (fExt 0))⟩⟩,
  ⟨none, some 15, [(.tmp 10)], ⟨.f (fExt 1), rAny xl_layout_Fresh (.f (fExt 1))⟩⟩,
  ⟨none, some 4, [(.tmp 14)], ⟨.f fMove, rMove⟩⟩,
  ⟨none, some 5, [(.tmp 15)], ⟨.f fMove, rMove⟩⟩])
 (.seq none
 (.seq none
 (.reg [⟨none, some 16, [(.tmp 5)], ⟨.f fMove, rMove⟩⟩,
  ⟨none, some 17, [(.tmp 16), (.const (.int .i64 0))], ⟨.f (fBin .neq .no), rNeq⟩⟩])
 (.cond (.tmp 17)
 (.seq none
 (.reg [⟨none, some 18, [(.tmp 5)], ⟨.f fMove, rMove⟩⟩,
  ⟨none, some 2, [(.const (.pointer none))], ⟨.f fMove, rMove⟩⟩,
  ⟨none, some 3, [(.tmp 18)], ⟨.f fMove, rMove⟩⟩])
 .ret)
 .skip))
 (.seq (some ([4], [1]))
 (.seq none
 (.reg [⟨none, some 19, [(.tmp 1)], ⟨.f (fFld 1), rFld 1⟩⟩,
  ⟨none, some 20, [(.tmp 19)], ⟨.lr 1 1 false, rLr1 1⟩⟩,
  ⟨none, some 21, [(.const (.int .i64 0))], ⟨.f fMove, rMove⟩⟩])
 (.block 0
 (.loop ([4, 20, 21], [1])
 (.seq none
 (.reg [⟨none, some 22, [(.tmp 21), (.tmp 20)], ⟨.f (fBin .lss .no), rLss⟩⟩])
 (.seq none
 (.cond (.tmp 22)
 .skip
 (.exit 0))
 (.seq none
 (.block 1
 (.seq none
 (.reg [⟨none, some 23, [(.tmp 21)], ⟨.f fMove, rMove⟩⟩,
  ⟨none, some 6, [(.tmp 23)], ⟨.f fMove, rMove⟩⟩])
 (.seq none
 (.reg [⟨none, some 24, [(.tmp 4)], ⟨.f fMove, rMove⟩⟩,
  ⟨none, some 25, [(.tmp 1)], ⟨.lr 1 7 true, rAny xl_layout_Fresh (.lr 1 7 true)⟩⟩,
  ⟨none, some 26, [(.tmp 6)], ⟨.f fMove, rMove⟩⟩,
  ⟨none, some 27, [(.tmp 25), (.tmp 26)], ⟨.call .none s_layout_Slot v_layout_Slot, rCall v_layout_Slot⟩⟩,
  ⟨none, some 28, [(.const (.int .i64 1))], ⟨.f (fBuild [(0, 1), (1, 1), (2, 1), (3, 1)] [(.int .i64 0), (.int .i64 0), (.int .i64 0), (.int .i64 0)] [2]), rAny xl_layout_Fresh (.f (fBuild [(0, 1), (1, 1), (2, 1), (3, 1)] [(.int .i64 0), (.int .i64 0), (.int .i64 0), (.int .i64 0)] [2]))⟩⟩,
  ⟨none, some 29, [(.tmp 28)], ⟨.call .none s_word_PutSlot v_word_PutSlot, rCall v_word_PutSlot⟩⟩,
  ⟨none, some 30, [(.tmp 24), (.tmp 27), (.tmp 29)], ⟨.call .write s_mem_Mem_Store v_mem_Mem_Store, rCall v_mem_Mem_Store⟩⟩])
 (.reg [⟨none, some 31, [(.tmp 4)], ⟨.f fMove, rMove⟩⟩,
  ⟨none, some 32, [(.tmp 1)], ⟨.lr 1 7 true, rAny xl_layout_Fresh (.lr 1 7 true)⟩⟩,
  ⟨none, some 33, [(.tmp 6)], ⟨.f fMove, rMove⟩⟩,
  ⟨none, some 34, [(.tmp 32), (.tmp 33)], ⟨.call .none s_layout_Slot v_layout_Slot, rCall v_layout_Slot⟩⟩,
  ⟨none, some 35, [(.tmp 34), (.const (.int .i64 1))], ⟨.f (fBin .add .no), rAdd⟩⟩,
  ⟨none, some 36, [(.tmp 6)], ⟨.f fMove, rMove⟩⟩,
  ⟨none, some 37, [(.tmp 36), (.const (.int .i64 1))], ⟨.f (fBin .add .no), rAdd⟩⟩,
  ⟨none, some 38, [(.tmp 37), (.const (.int .i64 0))], ⟨.call .none s_word_PutTop v_word_PutTop, rCall v_word_PutTop⟩⟩,
  ⟨none, some 39, [(.tmp 31), (.tmp 35), (.tmp 38)], ⟨.call .write s_mem_Mem_Store v_mem_Mem_Store, rCall v_mem_Mem_Store⟩⟩]))))
 (.reg [⟨none, some 40, [(.tmp 21), (.const (.int .i64 1))], ⟨.f (fBin .add .no), rAdd⟩⟩,
  ⟨none, some 21, [(.tmp 40)], ⟨.f fMove, rMove⟩⟩])))))))
 (.seq none
 (.reg [⟨none, some 41, [(.tmp 4)], ⟨.f fMove, rMove⟩⟩,
  ⟨none, some 42, [(.tmp 1)], ⟨.lr 1 7 true, rAny xl_layout_Fresh (.lr 1 7 true)⟩⟩,
  ⟨none, some 43, [(.tmp 1)], ⟨.f (fFld 1), rFld 1⟩⟩,
  ⟨none, some 44, [(.tmp 43)], ⟨.lr 1 1 false, rLr1 1⟩⟩,
  ⟨none, some 45, [(.tmp 44), (.const (.int .i64 1))], ⟨.f (fBin .sub .no), rSub⟩⟩,
  ⟨none, some 46, [(.tmp 42), (.tmp 45)], ⟨.call .none s_layout_Slot v_layout_Slot, rCall v_layout_Slot⟩⟩,
  ⟨none, some 47, [(.tmp 46), (.const (.int .i64 1))], ⟨.f (fBin .add .no), rAdd⟩⟩,
  ⟨none, some 48, [(.const (.int .i64 (-1))), (.const (.int .i64 0))], ⟨.call .none s_word_PutTop v_word_PutTop, rCall v_word_PutTop⟩⟩,
  ⟨none, some 49, [(.tmp 41), (.tmp 47), (.tmp 48)], ⟨.call .write s_mem_Mem_Store v_mem_Mem_Store, rCall v_mem_Mem_Store⟩⟩])
 (.seq none
 (.reg [⟨none, some 50, [(.tmp 4)], ⟨.f fMove, rMove⟩⟩,
  ⟨none, some 51, [], ⟨.call .none s_layout_Top v_layout_Top, rCall v_layout_Top⟩⟩,
  ⟨none, some 52, [(.const (.int .i64 0)), (.const (.int .i64 0))], ⟨.call .none s_word_PutTop v_word_PutTop, rCall v_word_PutTop⟩⟩,
  ⟨none, some 53, [(.tmp 50), (.tmp 51), (.tmp 52)], ⟨.call .write s_mem_Mem_Store v_mem_Mem_Store, rCall v_mem_Mem_Store⟩⟩])
 (.seq none
 (.reg [⟨none, some 54, [(.tmp 4)], ⟨.f fMove, rMove⟩⟩,
  ⟨none, some 2, [(.tmp 54)], ⟨.f fMove, rMove⟩⟩,
  ⟨none, some 3, [(.const (.int .i64 0))], ⟨.f fMove, rMove⟩⟩])
 .ret))))))))
noncomputable def v_layout_Fresh : EvF := evFn 1 xc_layout_Fresh [.t 2, .t 3]
theorem xt_layout_Fresh : toC cx_layout_Fresh (bodyOf Try.f22) = some (xc_layout_Fresh.map XN.sm) := by kernel_rfl
theorem xr_layout_Fresh : toR cx_layout_Fresh Try.f22.results.toList = some [.t 2, .t 3] := by kernel_rfl
theorem xo_layout_Fresh : xc_layout_Fresh.ok xl_layout_Fresh := ⟨⟨rAny_ok (trivial), rMove_ok, rMove_ok, trivial⟩, ⟨⟨⟨rAny_ok (trivial), rCall_ok ve_layout_Check, rNot_ok, trivial⟩, ⟨⟨⟨rMove_ok, rMove_ok, trivial⟩, trivial⟩, trivial⟩⟩, ⟨⟨rAny_ok (trivial), rCall_ok ve_layout_Len, rCall_ok ve_mem_New, rMove_ok, rAny_ok (eqv_ext _), rAny_ok (eqv_ext _), rMove_ok, rMove_ok, trivial⟩, ⟨⟨⟨rMove_ok, rNeq_ok, trivial⟩, ⟨⟨⟨rMove_ok, rMove_ok, rMove_ok, trivial⟩, trivial⟩, trivial⟩⟩, ⟨⟨⟨rFld_ok _, rLr1_ok _, rMove_ok, trivial⟩, ⟨⟨rLss_ok, trivial⟩, ⟨⟨trivial, trivial⟩, ⟨⟨⟨rMove_ok, rMove_ok, trivial⟩, ⟨⟨rMove_ok, rAny_ok (trivial), rMove_ok, rCall_ok ve_layout_Slot, rAny_ok (eqv_build _ rfl _), rCall_ok ve_word_PutSlot, rCall_ok ve_mem_Mem_Store, trivial⟩, ⟨rMove_ok, rAny_ok (trivial), rMove_ok, rCall_ok ve_layout_Slot, rAdd_ok, rMove_ok, rAdd_ok, rCall_ok ve_word_PutTop, rCall_ok ve_mem_Mem_Store, trivial⟩⟩⟩, ⟨rAdd_ok, rMove_ok, trivial⟩⟩⟩⟩⟩, ⟨⟨rMove_ok, rAny_ok (trivial), rFld_ok _, rLr1_ok _, rSub_ok, rCall_ok ve_layout_Slot, rAdd_ok, rCall_ok ve_word_PutTop, rCall_ok ve_mem_Mem_Store, trivial⟩, ⟨⟨rMove_ok, rCall_ok ve_layout_Top, rCall_ok ve_word_PutTop, rCall_ok ve_mem_Mem_Store, trivial⟩, ⟨⟨rMove_ok, rMove_ok, rMove_ok, trivial⟩, trivial⟩⟩⟩⟩⟩⟩⟩⟩
theorem ve_layout_Fresh : EvOk s_layout_Fresh v_layout_Fresh := EvOk.of (evFn_sound (C := cx_layout_Fresh) xt_layout_Fresh xr_layout_Fresh xo_layout_Fresh) q_layout_Fresh

attribute [irreducible] w_layout_Fresh_j1b w_layout_Fresh_j1 w_layout_Fresh_l8b w_layout_Fresh_l8 w_layout_Fresh s_layout_Fresh

/-! ### (*/mem.Mem).Len -/
def w_mem_Mem_Len (a0 : Value) (K : Value → Mem → Prop) (σ : Mem) : Prop :=
xF fMove [(.int .i64 0)] fun v2 =>
xF fMove [a0] fun v3 =>
xF (fBin .eql .ptr) [v3, (.pointer none)] fun v4 =>
xIf v4
 (xF fMove [(.int .i64 0)] fun v2 =>
K v2 σ)
 (xF fMove [a0] fun v5 =>
xF fNil [v5] fun v6 =>
xF (fFld 0) [v6] fun v7 =>
hLoad 1 false [v7] (fun v8 σ =>
xF fLen [v8] fun v9 =>
xF fMove [v9] fun v2 =>
K v2 σ) σ)

def s_mem_Mem_Len : Spec := fun args K σ => match args with
  | [a0] => w_mem_Mem_Len a0 K σ
  | _ => False

noncomputable def cx_mem_Mem_Len : Cx := { P := Try.prog, T := [], loc := [], eqt := [(29, .ptr)], n := 10, keep := [] }
theorem q_mem_Mem_Len : FnS cx_mem_Mem_Len Try.f23 (bodyOf Try.f23) 1 = s_mem_Mem_Len := by
  funext args K σ
  rcases args with _ | ⟨a0, _ | ⟨b, r⟩⟩ <;> kernel_rfl
theorem e_mem_Mem_Len : Entry Try.prog 23 .read s_mem_Mem_Len :=
  entry (C := cx_mem_Mem_Len) TOk.nil mixedOk Try.func23 (by kernel_rfl) (by kernel_rfl) (by kernel_rfl) q_mem_Mem_Len

def xl_mem_Mem_Len : List (Nat × Nat) := []
noncomputable def xc_mem_Mem_Len : XC XN :=
(.seq none
 (.reg [⟨none, some 2, [(.const (.int .i64 0))], ⟨.f fMove, rMove⟩⟩])
 (.seq none
 (.seq none
 (.reg [⟨none, some 3, [(.tmp 0)], ⟨.f fMove, rMove⟩⟩,
  ⟨none, some 4, [(.tmp 3), (.const (.pointer none))], ⟨.f (fBin .eql .ptr), rAny xl_mem_Mem_Len (.f (fBin .eql .ptr))⟩⟩])
 (.cond (.tmp 4)
 (.seq none
 (.reg [⟨none, some 2, [(.const (.int .i64 0))], ⟨.f fMove, rMove⟩⟩])
 .ret)
 .skip))
 (.seq none
 (.reg [⟨none, some 5, [(.tmp 0)], ⟨.f fMove, rMove⟩⟩,
  ⟨none, some 6, [(.tmp 5)], ⟨.f fNil, rNil⟩⟩,
  ⟨none, some 7, [(.tmp 6)], ⟨.f (fFld 0), rFld 0⟩⟩,
  ⟨none, some 8, [(.tmp 7)], ⟨.load 1 false, rLoad1⟩⟩,
  ⟨none, some 9, [(.tmp 8)], ⟨.f fLen, rAny xl_mem_Mem_Len (.f fLen)⟩⟩,
  ⟨none, some 2, [(.tmp 9)], ⟨.f fMove, rMove⟩⟩])
 .ret)))
noncomputable def v_mem_Mem_Len : EvF := evFn 1 xc_mem_Mem_Len [.t 2]
theorem xt_mem_Mem_Len : toC cx_mem_Mem_Len (bodyOf Try.f23) = some (xc_mem_Mem_Len.map XN.sm) := by kernel_rfl
theorem xr_mem_Mem_Len : toR cx_mem_Mem_Len Try.f23.results.toList = some [.t 2] := by kernel_rfl
theorem xo_mem_Mem_Len : xc_mem_Mem_Len.ok xl_mem_Mem_Len := ⟨⟨rMove_ok, trivial⟩, ⟨⟨⟨rMove_ok, rAny_ok (eqv_bin _ _), trivial⟩, ⟨⟨⟨rMove_ok, trivial⟩, trivial⟩, trivial⟩⟩, ⟨⟨rMove_ok, rNil_ok, rFld_ok _, rLoad1_ok, rAny_ok (eqv_len), rMove_ok, trivial⟩, trivial⟩⟩⟩
theorem ve_mem_Mem_Len : EvOk s_mem_Mem_Len v_mem_Mem_Len := EvOk.of (evFn_sound (C := cx_mem_Mem_Len) xt_mem_Mem_Len xr_mem_Mem_Len xo_mem_Mem_Len) q_mem_Mem_Len

attribute [irreducible] w_mem_Mem_Len s_mem_Mem_Len

/-! ### (*/mem.Mem).Peek -/
def w_mem_Mem_Peek_j1b (K : Value → Mem → Prop) (v0 v1 v19 : Value) (σ : Mem) : Prop :=
xIf v19
 (xF fMove [(.int .u64 0)] fun v4 =>
K v4 σ)
 (xF fMove [v0] fun v20 =>
xF fNil [v20] fun v21 =>
xF (fFld 0) [v21] fun v22 =>
hLoad 1 false [v22] (fun v23 σ =>
xF fMove [v1] fun v24 =>
xF (fIxS 1) [v23, v24] fun v25 =>
hLoad 1 false [v25] (fun v26 σ =>
xF fMove [v26] fun v4 =>
K v4 σ) σ) σ)

def w_mem_Mem_Peek_j1 (K : Value → Mem → Prop) (ts : List Value) (ls : List (List Value)) (σ : Mem) : Prop := w_mem_Mem_Peek_j1b K (ts.getD 0 poison) (ts.getD 1 poison) (ts.getD 2 poison) σ

def w_mem_Mem_Peek (a0 a1 : Value) (K : Value → Mem → Prop) (σ : Mem) : Prop :=
xF fMove [(.int .u64 0)] fun v4 =>
xJoin (w_mem_Mem_Peek_j1 K) fun J1 =>
xF fMove [a0] fun v5 =>
xF (fBin .eql .ptr) [v5, (.pointer none)] fun v6 =>
xF fMove [v6] fun v7 =>
xIf v7
 (xF fPick [(.bool true), (.bool true), undef] fun v10 =>
xF fMove [v10] fun v11 =>
xIf v11
 (xF fPick [(.bool true), (.bool true), undef] fun v19 =>
J1 [a0, a1, v19] [] σ)
 (xF fMove [a1] fun v12 =>
xF fMove [a0] fun v13 =>
xF fNil [v13] fun v14 =>
xF (fFld 0) [v14] fun v15 =>
hLoad 1 false [v15] (fun v16 σ =>
xF fLen [v16] fun v17 =>
xF (fBin .geq .no) [v12, v17] fun v18 =>
xF fPick [(.bool false), (.bool true), v18] fun v19 =>
J1 [a0, a1, v19] [] σ) σ))
 (xF fMove [a1] fun v8 =>
xF (fBin .lss .no) [v8, (.int .i64 0)] fun v9 =>
xF fPick [(.bool false), (.bool true), v9] fun v10 =>
xF fMove [v10] fun v11 =>
xIf v11
 (xF fPick [(.bool true), (.bool true), undef] fun v19 =>
J1 [a0, a1, v19] [] σ)
 (xF fMove [a1] fun v12 =>
xF fMove [a0] fun v13 =>
xF fNil [v13] fun v14 =>
xF (fFld 0) [v14] fun v15 =>
hLoad 1 false [v15] (fun v16 σ =>
xF fLen [v16] fun v17 =>
xF (fBin .geq .no) [v12, v17] fun v18 =>
xF fPick [(.bool false), (.bool true), v18] fun v19 =>
J1 [a0, a1, v19] [] σ) σ))

def s_mem_Mem_Peek : Spec := fun args K σ => match args with
  | [a0, a1] => w_mem_Mem_Peek a0 a1 K σ
  | _ => False

noncomputable def cx_mem_Mem_Peek : Cx := { P := Try.prog, T := [], loc := [], eqt := [(29, .ptr)], n := 27, keep := [(1000003, [0, 1, 19], [])] }
theorem q_mem_Mem_Peek : FnS cx_mem_Mem_Peek Try.f27 (bodyOf Try.f27) 2 = s_mem_Mem_Peek := by
  funext args K σ
  rcases args with _ | ⟨a0, _ | ⟨a1, _ | ⟨b, r⟩⟩⟩ <;> kernel_rfl
theorem e_mem_Mem_Peek : Entry Try.prog 27 .read s_mem_Mem_Peek :=
  entry (C := cx_mem_Mem_Peek) TOk.nil mixedOk Try.func27 (by kernel_rfl) (by kernel_rfl) (by kernel_rfl) q_mem_Mem_Peek

def xl_mem_Mem_Peek : List (Nat × Nat) := []
noncomputable def xc_mem_Mem_Peek : XC XN :=
(.seq none
 (.reg [⟨none, some 4, [(.const (.int .u64 0))], ⟨.f fMove, rMove⟩⟩])
 (.seq none
 (.seq (some ([0, 1, 19], []))
 (.reg [⟨none, some 5, [(.tmp 0)], ⟨.f fMove, rMove⟩⟩,
  ⟨none, some 6, [(.tmp 5), (.const (.pointer none))], ⟨.f (fBin .eql .ptr), rAny xl_mem_Mem_Peek (.f (fBin .eql .ptr))⟩⟩,
  ⟨none, some 7, [(.tmp 6)], ⟨.f fMove, rMove⟩⟩,
  ⟨(some (3, 2, false, some 7)), some 8, [(.tmp 1)], ⟨.f fMove, rMove⟩⟩,
  ⟨(some (4, 2, false, some 7)), some 9, [(.tmp 8), (.const (.int .i64 0))], ⟨.f (fBin .lss .no), rLss⟩⟩,
  ⟨none, some 10, [(.tmp 7), (.const (.bool true)), (.tmp 9)], ⟨.f fPick, rPick⟩⟩,
  ⟨none, some 11, [(.tmp 10)], ⟨.f fMove, rMove⟩⟩,
  ⟨(some (7, 6, false, some 11)), some 12, [(.tmp 1)], ⟨.f fMove, rMove⟩⟩,
  ⟨(some (8, 6, false, some 11)), some 13, [(.tmp 0)], ⟨.f fMove, rMove⟩⟩,
  ⟨(some (9, 6, false, some 11)), some 14, [(.tmp 13)], ⟨.f fNil, rNil⟩⟩,
  ⟨(some (10, 6, false, some 11)), some 15, [(.tmp 14)], ⟨.f (fFld 0), rFld 0⟩⟩,
  ⟨(some (11, 6, false, some 11)), some 16, [(.tmp 15)], ⟨.load 1 false, rLoad1⟩⟩,
  ⟨(some (12, 6, false, some 11)), some 17, [(.tmp 16)], ⟨.f fLen, rAny xl_mem_Mem_Peek (.f fLen)⟩⟩,
  ⟨(some (13, 6, false, some 11)), some 18, [(.tmp 12), (.tmp 17)], ⟨.f (fBin .geq .no), rGeq⟩⟩,
  ⟨none, some 19, [(.tmp 11), (.const (.bool true)), (.tmp 18)], ⟨.f fPick, rPick⟩⟩])
 (.cond (.tmp 19)
 (.seq none
 (.reg [⟨none, some 4, [(.const (.int .u64 0))], ⟨.f fMove, rMove⟩⟩])
 .ret)
 .skip))
 (.seq none
 (.reg [⟨none, some 20, [(.tmp 0)], ⟨.f fMove, rMove⟩⟩,
  ⟨none, some 21, [(.tmp 20)], ⟨.f fNil, rNil⟩⟩,
  ⟨none, some 22, [(.tmp 21)], ⟨.f (fFld 0), rFld 0⟩⟩,
  ⟨none, some 23, [(.tmp 22)], ⟨.load 1 false, rLoad1⟩⟩,
  ⟨none, some 24, [(.tmp 1)], ⟨.f fMove, rMove⟩⟩,
  ⟨none, some 25, [(.tmp 23), (.tmp 24)], ⟨.f (fIxS 1), rIxS 1⟩⟩,
  ⟨none, some 26, [(.tmp 25)], ⟨.load 1 false, rLoad1⟩⟩,
  ⟨none, some 4, [(.tmp 26)], ⟨.f fMove, rMove⟩⟩])
 .ret)))
noncomputable def v_mem_Mem_Peek : EvF := evFn 2 xc_mem_Mem_Peek [.t 4]
theorem xt_mem_Mem_Peek : toC cx_mem_Mem_Peek (bodyOf Try.f27) = some (xc_mem_Mem_Peek.map XN.sm) := by kernel_rfl
theorem xr_mem_Mem_Peek : toR cx_mem_Mem_Peek Try.f27.results.toList = some [.t 4] := by kernel_rfl
theorem xo_mem_Mem_Peek : xc_mem_Mem_Peek.ok xl_mem_Mem_Peek := ⟨⟨rMove_ok, trivial⟩, ⟨⟨⟨rMove_ok, rAny_ok (eqv_bin _ _), rMove_ok, rMove_ok, rLss_ok, rPick_ok, rMove_ok, rMove_ok, rMove_ok, rNil_ok, rFld_ok _, rLoad1_ok, rAny_ok (eqv_len), rGeq_ok, rPick_ok, trivial⟩, ⟨⟨⟨rMove_ok, trivial⟩, trivial⟩, trivial⟩⟩, ⟨⟨rMove_ok, rNil_ok, rFld_ok _, rLoad1_ok, rMove_ok, rIxS_ok _, rLoad1_ok, rMove_ok, trivial⟩, trivial⟩⟩⟩
theorem ve_mem_Mem_Peek : EvOk s_mem_Mem_Peek v_mem_Mem_Peek := EvOk.of (evFn_sound (C := cx_mem_Mem_Peek) xt_mem_Mem_Peek xr_mem_Mem_Peek xo_mem_Mem_Peek) q_mem_Mem_Peek

attribute [irreducible] w_mem_Mem_Peek_j1b w_mem_Mem_Peek_j1 w_mem_Mem_Peek s_mem_Mem_Peek

/-! ### /layout.Class -/
def w_layout_Class_j1b (K : Value → Mem → Prop) (σ : Mem) : Prop :=
xF fMove [(.int .i64 (-1))] fun v2 =>
K v2 σ

def w_layout_Class_j1 (K : Value → Mem → Prop) (ts : List Value) (ls : List (List Value)) (σ : Mem) : Prop := w_layout_Class_j1b K σ

def w_layout_Class_j2b (K : Value → Mem → Prop) (J1 : List Value → List (List Value) → Mem → Prop) (R1 : List Value → List (List Value) → Mem → Prop) (v0 v3 v4 v14 : Value) (σ : Mem) : Prop :=
xIf v14
 (xF fMove [v3] fun v15 =>
xF fMove [v15] fun v2 =>
K v2 σ)
 (xF (fBin .add .no) [v4, (.int .i64 1)] fun v16 =>
xF fMove [v16] fun v4 =>
R1 [v0, v4] [] σ)

def w_layout_Class_j2 (K : Value → Mem → Prop) (J1 : List Value → List (List Value) → Mem → Prop) (R1 : List Value → List (List Value) → Mem → Prop) (ts : List Value) (ls : List (List Value)) (σ : Mem) : Prop := w_layout_Class_j2b K J1 R1 (ts.getD 0 poison) (ts.getD 1 poison) (ts.getD 2 poison) (ts.getD 3 poison) σ

def w_layout_Class_l3b (K : Value → Mem → Prop) (J1 : List Value → List (List Value) → Mem → Prop) (R1 : List Value → List (List Value) → Mem → Prop) (v0 v4 : Value) (σ : Mem) : Prop :=
xF (fBin .lss .no) [v4, (.int .i64 4)] fun v5 =>
xIf v5
 (xF fMove [v4] fun v6 =>
xF fMove [v6] fun v3 =>
xJoin (w_layout_Class_j2 K J1 R1) fun J2 =>
xF fMove [v0] fun v7 =>
xF (fBin .geq .no) [v7, (.int .i64 1)] fun v8 =>
xF fMove [v8] fun v9 =>
xIf v9
 (xF fMove [v0] fun v10 =>
xF fMove [v3] fun v11 =>
xF (fBin .shl .no) [(.int .i64 2), v11] fun v12 =>
xF (fBin .leq .no) [v10, v12] fun v13 =>
xF fPick [(.bool true), v13, (.bool false)] fun v14 =>
J2 [v0, v3, v4, v14] [] σ)
 (xF fPick [(.bool false), undef, (.bool false)] fun v14 =>
J2 [v0, v3, v4, v14] [] σ))
 (J1 [] [] σ)

def w_layout_Class_l3 (K : Value → Mem → Prop) (J1 : List Value → List (List Value) → Mem → Prop) (R1 : List Value → List (List Value) → Mem → Prop) (ts : List Value) (ls : List (List Value)) (σ : Mem) : Prop := w_layout_Class_l3b K J1 R1 (ts.getD 0 poison) (ts.getD 1 poison) σ

def w_layout_Class (a0 : Value) (K : Value → Mem → Prop) (σ : Mem) : Prop :=
xF fMove [(.int .i64 0)] fun v2 =>
xJoin (w_layout_Class_j1 K) fun J1 =>
xF fMove [(.int .i64 0)] fun v4 =>
xLoop (w_layout_Class_l3 K J1) [a0, v4] [] σ

def s_layout_Class : Spec := fun args K σ => match args with
  | [a0] => w_layout_Class a0 K σ
  | _ => False

noncomputable def cx_layout_Class : Cx := { P := Try.prog, T := [], loc := [], eqt := [], n := 17, keep := [(3, [0, 4], []), (1000006, [0, 3, 4, 14], []), (1000008, [], [])] }
theorem q_layout_Class : FnS cx_layout_Class Try.f17 (bodyOf Try.f17) 1 = s_layout_Class := by
  funext args K σ
  rcases args with _ | ⟨a0, _ | ⟨b, r⟩⟩ <;> kernel_rfl
theorem e_layout_Class : Entry Try.prog 17 .write s_layout_Class :=
  entry (C := cx_layout_Class) TOk.nil mixedOk Try.func17 (by kernel_rfl) (by kernel_rfl) (by kernel_rfl) q_layout_Class

def xl_layout_Class : List (Nat × Nat) := []
noncomputable def xc_layout_Class : XC XN :=
(.seq none
 (.reg [⟨none, some 2, [(.const (.int .i64 0))], ⟨.f fMove, rMove⟩⟩])
 (.seq (some ([], []))
 (.seq none
 (.reg [⟨none, some 4, [(.const (.int .i64 0))], ⟨.f fMove, rMove⟩⟩])
 (.block 0
 (.loop ([0, 4], [])
 (.seq none
 (.reg [⟨none, some 5, [(.tmp 4), (.const (.int .i64 4))], ⟨.f (fBin .lss .no), rLss⟩⟩])
 (.seq none
 (.cond (.tmp 5)
 .skip
 (.exit 0))
 (.seq none
 (.block 1
 (.seq none
 (.reg [⟨none, some 6, [(.tmp 4)], ⟨.f fMove, rMove⟩⟩,
  ⟨none, some 3, [(.tmp 6)], ⟨.f fMove, rMove⟩⟩])
 (.seq (some ([0, 3, 4, 14], []))
 (.reg [⟨none, some 7, [(.tmp 0)], ⟨.f fMove, rMove⟩⟩,
  ⟨none, some 8, [(.tmp 7), (.const (.int .i64 1))], ⟨.f (fBin .geq .no), rGeq⟩⟩,
  ⟨none, some 9, [(.tmp 8)], ⟨.f fMove, rMove⟩⟩,
  ⟨(some (3, 2, true, some 9)), some 10, [(.tmp 0)], ⟨.f fMove, rMove⟩⟩,
  ⟨(some (4, 2, true, some 9)), some 11, [(.tmp 3)], ⟨.f fMove, rMove⟩⟩,
  ⟨(some (5, 2, true, some 9)), some 12, [(.const (.int .i64 2)), (.tmp 11)], ⟨.f (fBin .shl .no), rAny xl_layout_Class (.f (fBin .shl .no))⟩⟩,
  ⟨(some (6, 2, true, some 9)), some 13, [(.tmp 10), (.tmp 12)], ⟨.f (fBin .leq .no), rLeq⟩⟩,
  ⟨none, some 14, [(.tmp 9), (.tmp 13), (.const (.bool false))], ⟨.f fPick, rPick⟩⟩])
 (.cond (.tmp 14)
 (.seq none
 (.reg [⟨none, some 15, [(.tmp 3)], ⟨.f fMove, rMove⟩⟩,
  ⟨none, some 2, [(.tmp 15)], ⟨.f fMove, rMove⟩⟩])
 .ret)
 .skip))))
 (.reg [⟨none, some 16, [(.tmp 4), (.const (.int .i64 1))], ⟨.f (fBin .add .no), rAdd⟩⟩,
  ⟨none, some 4, [(.tmp 16)], ⟨.f fMove, rMove⟩⟩])))))))
 (.seq none
 (.reg [⟨none, some 2, [(.const (.int .i64 (-1)))], ⟨.f fMove, rMove⟩⟩])
 .ret)))
noncomputable def v_layout_Class : EvF := evFn 1 xc_layout_Class [.t 2]
theorem xt_layout_Class : toC cx_layout_Class (bodyOf Try.f17) = some (xc_layout_Class.map XN.sm) := by kernel_rfl
theorem xr_layout_Class : toR cx_layout_Class Try.f17.results.toList = some [.t 2] := by kernel_rfl
theorem xo_layout_Class : xc_layout_Class.ok xl_layout_Class := ⟨⟨rMove_ok, trivial⟩, ⟨⟨⟨rMove_ok, trivial⟩, ⟨⟨rLss_ok, trivial⟩, ⟨⟨trivial, trivial⟩, ⟨⟨⟨rMove_ok, rMove_ok, trivial⟩, ⟨⟨rMove_ok, rGeq_ok, rMove_ok, rMove_ok, rMove_ok, rAny_ok (eqv_bin _ _), rLeq_ok, rPick_ok, trivial⟩, ⟨⟨⟨rMove_ok, rMove_ok, trivial⟩, trivial⟩, trivial⟩⟩⟩, ⟨rAdd_ok, rMove_ok, trivial⟩⟩⟩⟩⟩, ⟨⟨rMove_ok, trivial⟩, trivial⟩⟩⟩
theorem ve_layout_Class : EvOk s_layout_Class v_layout_Class := EvOk.of (evFn_sound (C := cx_layout_Class) xt_layout_Class xr_layout_Class xo_layout_Class) q_layout_Class

attribute [irreducible] w_layout_Class_j1b w_layout_Class_j1 w_layout_Class_j2b w_layout_Class_j2 w_layout_Class_l3b w_layout_Class_l3 w_layout_Class s_layout_Class

/-! ### /layout.Room -/
def w_layout_Room (a0 : Value) (K : Value → Mem → Prop) (σ : Mem) : Prop :=
xF fMove [(.int .i64 0)] fun v2 =>
xF fMove [a0] fun v3 =>
xF (fBin .shl .no) [(.int .i64 2), v3] fun v4 =>
xF (fBin .add .no) [(.int .i64 1), v4] fun v5 =>
xF fMove [v5] fun v2 =>
K v2 σ

def s_layout_Room : Spec := fun args K σ => match args with
  | [a0] => w_layout_Room a0 K σ
  | _ => False

noncomputable def cx_layout_Room : Cx := { P := Try.prog, T := [], loc := [], eqt := [], n := 6, keep := [] }
theorem q_layout_Room : FnS cx_layout_Room Try.f19 (bodyOf Try.f19) 1 = s_layout_Room := by
  funext args K σ
  rcases args with _ | ⟨a0, _ | ⟨b, r⟩⟩ <;> kernel_rfl
theorem e_layout_Room : Entry Try.prog 19 .none s_layout_Room :=
  entry (C := cx_layout_Room) TOk.nil mixedOk Try.func19 (by kernel_rfl) (by kernel_rfl) (by kernel_rfl) q_layout_Room

def xl_layout_Room : List (Nat × Nat) := []
noncomputable def xc_layout_Room : XC XN :=
(.seq none
 (.reg [⟨none, some 2, [(.const (.int .i64 0))], ⟨.f fMove, rMove⟩⟩])
 (.seq none
 (.reg [⟨none, some 3, [(.tmp 0)], ⟨.f fMove, rMove⟩⟩,
  ⟨none, some 4, [(.const (.int .i64 2)), (.tmp 3)], ⟨.f (fBin .shl .no), rAny xl_layout_Room (.f (fBin .shl .no))⟩⟩,
  ⟨none, some 5, [(.const (.int .i64 1)), (.tmp 4)], ⟨.f (fBin .add .no), rAdd⟩⟩,
  ⟨none, some 2, [(.tmp 5)], ⟨.f fMove, rMove⟩⟩])
 .ret))
noncomputable def v_layout_Room : EvF := evFn 1 xc_layout_Room [.t 2]
theorem xt_layout_Room : toC cx_layout_Room (bodyOf Try.f19) = some (xc_layout_Room.map XN.sm) := by kernel_rfl
theorem xr_layout_Room : toR cx_layout_Room Try.f19.results.toList = some [.t 2] := by kernel_rfl
theorem xo_layout_Room : xc_layout_Room.ok xl_layout_Room := ⟨⟨rMove_ok, trivial⟩, ⟨⟨rMove_ok, rAny_ok (eqv_bin _ _), rAdd_ok, rMove_ok, trivial⟩, trivial⟩⟩
theorem ve_layout_Room : EvOk s_layout_Room v_layout_Room := EvOk.of (evFn_sound (C := cx_layout_Room) xt_layout_Room xr_layout_Room xo_layout_Room) q_layout_Room

attribute [irreducible] w_layout_Room s_layout_Room

/-! ### /law04.awake -/
def w_law04_awake_r (K : Value → Mem → Prop) (σ : Mem) : Prop :=
xF fMove [(.bool false)] fun v0 =>
xF (fBuild [(0, 1), (1, 1), (2, 1), (3, 1), (4, 1), (5, 1), (6, 1)] [(.int .i64 0), (.int .i64 0), (.int .i64 0), (.int .i64 0), (.int .i64 0), (.int .i64 0), (.int .i64 0)] [0, 1, 2, 3, 4, 6]) [(.int .i64 2), (.int .i64 3), (.int .i64 2), (.int .i64 20), (.int .i64 9), (.int .i64 1)] fun v4 =>
xC (gStore 7 [(locP 1), v4] [(.int .i64 0), (.int .i64 0), (.int .i64 0), (.int .i64 0), (.int .i64 0), (.int .i64 0), (.int .i64 0)]) fun c1 =>
xO (gLoad 7 true [(locP 1)] c1) fun v6 =>
s_layout_Fresh [v6] (fun v7 σ =>
xF fMove [v7] fun v5 =>
xF (fExt 0) [v5] fun v8 =>
xF (fExt 1) [v5] fun v9 =>
xF fMove [v8] fun v2 =>
xF fMove [v9] fun v3 =>
xF fMove [v3] fun v10 =>
xF (fBin .eql .no) [v10, (.int .i64 0)] fun v11 =>
xF fMove [v11] fun v12 =>
xIf v12
 (xF fMove [v2] fun v13 =>
s_mem_Mem_Len [v13] (fun v14 σ =>
xO (gLoad 7 true [(locP 1)] c1) fun v15 =>
s_layout_Len [v15] (fun v16 σ =>
xF (fBin .eql .no) [v14, v16] fun v17 =>
xF fPick [(.bool true), v17, (.bool false)] fun v18 =>
xF fMove [v18] fun v19 =>
xIf v19
 (xF fMove [v2] fun v20 =>
s_layout_Top [] (fun v21 σ =>
s_mem_Mem_Peek [v20, v21] (fun v22 σ =>
xF (fBin .eql .no) [v22, (.int .u64 1)] fun v23 =>
xF fPick [(.bool true), v23, (.bool false)] fun v24 =>
xF fMove [v24] fun v25 =>
xIf v25
 (s_layout_Class [(.int .i64 3)] (fun v26 σ =>
xF (fBin .eql .no) [v26, (.int .i64 1)] fun v27 =>
xF fPick [(.bool true), v27, (.bool false)] fun v28 =>
xF fMove [v28] fun v29 =>
xIf v29
 (s_layout_Room [(.int .i64 1)] (fun v30 σ =>
xF (fBin .eql .no) [v30, (.int .i64 5)] fun v31 =>
xF fPick [(.bool true), v31, (.bool false)] fun v32 =>
xF fMove [v32] fun v0 =>
K v0 σ) σ)
 (xF fPick [(.bool false), undef, (.bool false)] fun v32 =>
xF fMove [v32] fun v0 =>
K v0 σ)) σ)
 (xF fPick [(.bool false), undef, (.bool false)] fun v28 =>
xF fMove [v28] fun v29 =>
xIf v29
 (s_layout_Room [(.int .i64 1)] (fun v30 σ =>
xF (fBin .eql .no) [v30, (.int .i64 5)] fun v31 =>
xF fPick [(.bool true), v31, (.bool false)] fun v32 =>
xF fMove [v32] fun v0 =>
K v0 σ) σ)
 (xF fPick [(.bool false), undef, (.bool false)] fun v32 =>
xF fMove [v32] fun v0 =>
K v0 σ))) σ) σ)
 (xF fPick [(.bool false), undef, (.bool false)] fun v24 =>
xF fMove [v24] fun v25 =>
xIf v25
 (s_layout_Class [(.int .i64 3)] (fun v26 σ =>
xF (fBin .eql .no) [v26, (.int .i64 1)] fun v27 =>
xF fPick [(.bool true), v27, (.bool false)] fun v28 =>
xF fMove [v28] fun v29 =>
xIf v29
 (s_layout_Room [(.int .i64 1)] (fun v30 σ =>
xF (fBin .eql .no) [v30, (.int .i64 5)] fun v31 =>
xF fPick [(.bool true), v31, (.bool false)] fun v32 =>
xF fMove [v32] fun v0 =>
K v0 σ) σ)
 (xF fPick [(.bool false), undef, (.bool false)] fun v32 =>
xF fMove [v32] fun v0 =>
K v0 σ)) σ)
 (xF fPick [(.bool false), undef, (.bool false)] fun v28 =>
xF fMove [v28] fun v29 =>
xIf v29
 (s_layout_Room [(.int .i64 1)] (fun v30 σ =>
xF (fBin .eql .no) [v30, (.int .i64 5)] fun v31 =>
xF fPick [(.bool true), v31, (.bool false)] fun v32 =>
xF fMove [v32] fun v0 =>
K v0 σ) σ)
 (xF fPick [(.bool false), undef, (.bool false)] fun v32 =>
xF fMove [v32] fun v0 =>
K v0 σ)))) σ) σ)
 (xF fPick [(.bool false), undef, (.bool false)] fun v18 =>
xF fMove [v18] fun v19 =>
xIf v19
 (xF fMove [v2] fun v20 =>
s_layout_Top [] (fun v21 σ =>
s_mem_Mem_Peek [v20, v21] (fun v22 σ =>
xF (fBin .eql .no) [v22, (.int .u64 1)] fun v23 =>
xF fPick [(.bool true), v23, (.bool false)] fun v24 =>
xF fMove [v24] fun v25 =>
xIf v25
 (s_layout_Class [(.int .i64 3)] (fun v26 σ =>
xF (fBin .eql .no) [v26, (.int .i64 1)] fun v27 =>
xF fPick [(.bool true), v27, (.bool false)] fun v28 =>
xF fMove [v28] fun v29 =>
xIf v29
 (s_layout_Room [(.int .i64 1)] (fun v30 σ =>
xF (fBin .eql .no) [v30, (.int .i64 5)] fun v31 =>
xF fPick [(.bool true), v31, (.bool false)] fun v32 =>
xF fMove [v32] fun v0 =>
K v0 σ) σ)
 (xF fPick [(.bool false), undef, (.bool false)] fun v32 =>
xF fMove [v32] fun v0 =>
K v0 σ)) σ)
 (xF fPick [(.bool false), undef, (.bool false)] fun v28 =>
xF fMove [v28] fun v29 =>
xIf v29
 (s_layout_Room [(.int .i64 1)] (fun v30 σ =>
xF (fBin .eql .no) [v30, (.int .i64 5)] fun v31 =>
xF fPick [(.bool true), v31, (.bool false)] fun v32 =>
xF fMove [v32] fun v0 =>
K v0 σ) σ)
 (xF fPick [(.bool false), undef, (.bool false)] fun v32 =>
xF fMove [v32] fun v0 =>
K v0 σ))) σ) σ)
 (xF fPick [(.bool false), undef, (.bool false)] fun v24 =>
xF fMove [v24] fun v25 =>
xIf v25
 (s_layout_Class [(.int .i64 3)] (fun v26 σ =>
xF (fBin .eql .no) [v26, (.int .i64 1)] fun v27 =>
xF fPick [(.bool true), v27, (.bool false)] fun v28 =>
xF fMove [v28] fun v29 =>
xIf v29
 (s_layout_Room [(.int .i64 1)] (fun v30 σ =>
xF (fBin .eql .no) [v30, (.int .i64 5)] fun v31 =>
xF fPick [(.bool true), v31, (.bool false)] fun v32 =>
xF fMove [v32] fun v0 =>
K v0 σ) σ)
 (xF fPick [(.bool false), undef, (.bool false)] fun v32 =>
xF fMove [v32] fun v0 =>
K v0 σ)) σ)
 (xF fPick [(.bool false), undef, (.bool false)] fun v28 =>
xF fMove [v28] fun v29 =>
xIf v29
 (s_layout_Room [(.int .i64 1)] (fun v30 σ =>
xF (fBin .eql .no) [v30, (.int .i64 5)] fun v31 =>
xF fPick [(.bool true), v31, (.bool false)] fun v32 =>
xF fMove [v32] fun v0 =>
K v0 σ) σ)
 (xF fPick [(.bool false), undef, (.bool false)] fun v32 =>
xF fMove [v32] fun v0 =>
K v0 σ))))) σ

def s_law04_awake_r : Spec := fun args K σ => match args with
  | [] => w_law04_awake_r  K σ
  | _ => False

noncomputable def cx_law04_awake_r : Cx := { P := Try.prog, T := [(22, .write, s_layout_Fresh), (23, .read, s_mem_Mem_Len), (24, .none, s_layout_Len), (29, .none, s_layout_Top), (27, .read, s_mem_Mem_Peek), (17, .write, s_layout_Class), (19, .none, s_layout_Room)], loc := [(1, 1)], eqt := [], n := 33, keep := [] }
theorem q_law04_awake_r : FnS cx_law04_awake_r Try.f14 (bodyOf Try.f14) 0 = s_law04_awake_r := by
  funext args K σ
  rcases args with _ | ⟨b, r⟩ <;> kernel_rfl
theorem e_law04_awake_r : Entry Try.prog 14 .write s_law04_awake_r :=
  entry (C := cx_law04_awake_r) (TOk.cons e_layout_Fresh (TOk.cons e_mem_Mem_Len (TOk.cons e_layout_Len (TOk.cons e_layout_Top (TOk.cons e_mem_Mem_Peek (TOk.cons e_layout_Class (TOk.cons e_layout_Room TOk.nil))))))) mixedOk Try.func14 (by kernel_rfl) (by kernel_rfl) (by kernel_rfl) q_law04_awake_r

def xl_law04_awake_r : List (Nat × Nat) := [(1, 1)]
noncomputable def xc_law04_awake_r : XC XN :=
(.seq none
 (.reg [⟨none, some 0, [(.const (.bool false))], ⟨.f fMove, rMove⟩⟩])
 (.seq none
 (.reg [⟨none, some 4, [(.const (.int .i64 2)), (.const (.int .i64 3)), (.const (.int .i64 2)), (.const (.int .i64 20)), (.const (.int .i64 9)), (.const (.int .i64 1))], ⟨.f (fBuild [(0, 1), (1, 1), (2, 1), (3, 1), (4, 1), (5, 1), (6, 1)] [(.int .i64 0), (.int .i64 0), (.int .i64 0), (.int .i64 0), (.int .i64 0), (.int .i64 0), (.int .i64 0)] [0, 1, 2, 3, 4, 6]), rAny xl_law04_awake_r (.f (fBuild [(0, 1), (1, 1), (2, 1), (3, 1), (4, 1), (5, 1), (6, 1)] [(.int .i64 0), (.int .i64 0), (.int .i64 0), (.int .i64 0), (.int .i64 0), (.int .i64 0), (.int .i64 0)] [0, 1, 2, 3, 4, 6]))⟩⟩,
  ⟨none, some 1, [], ⟨.la 1 [(.int .i64 0), (.int .i64 0), (.int .i64 0), (.int .i64 0), (.int .i64 0), (.int .i64 0), (.int .i64 0)], rAny xl_law04_awake_r (.la 1 [(.int .i64 0), (.int .i64 0), (.int .i64 0), (.int .i64 0), (.int .i64 0), (.int .i64 0), (.int .i64 0)])⟩⟩,
  ⟨none, none, [(.tmp 1), (.tmp 4)], ⟨.ls 1 7, rAny xl_law04_awake_r (.ls 1 7)⟩⟩])
 (.seq none
 (.reg [⟨none, some 6, [(.tmp 1)], ⟨.lr 1 7 true, rAny xl_law04_awake_r (.lr 1 7 true)⟩⟩,
  ⟨none, some 7, [(.tmp 6)], ⟨.call .write s_layout_Fresh v_layout_Fresh, rCall v_layout_Fresh⟩⟩,
  ⟨none, some 5, [(.tmp 7)], ⟨.f fMove, rMove⟩⟩,
  ⟨none, some 8, [(.tmp 5)], ⟨.f (fExt 0), rAny xl_law04_awake_r (.f (fExt 0))⟩⟩,
  ⟨none, some 9, [(.tmp 5)], ⟨.f (fExt 1), rAny xl_law04_awake_r (.f (fExt 1))⟩⟩,
  ⟨none, some 2, [(.tmp 8)], ⟨.f fMove, rMove⟩⟩,
  ⟨none, some 3, [(.tmp 9)], ⟨.f fMove, rMove⟩⟩])
 (.seq none
 (.reg [⟨none, some 10, [(.tmp 3)], ⟨.f fMove, rMove⟩⟩,
  ⟨none, some 11, [(.tmp 10), (.const (.int .i64 0))], ⟨.f (fBin .eql .no), rEql⟩⟩,
  ⟨none, some 12, [(.tmp 11)], ⟨.f fMove, rMove⟩⟩,
  ⟨(some (3, 2, true, some 12)), some 13, [(.tmp 2)], ⟨.f fMove, rMove⟩⟩,
  ⟨(some (4, 2, true, some 12)), some 14, [(.tmp 13)], ⟨.call .read s_mem_Mem_Len v_mem_Mem_Len, rCall v_mem_Mem_Len⟩⟩,
  ⟨(some (5, 2, true, some 12)), some 15, [(.tmp 1)], ⟨.lr 1 7 true, rAny xl_law04_awake_r (.lr 1 7 true)⟩⟩,
  ⟨(some (6, 2, true, some 12)), some 16, [(.tmp 15)], ⟨.call .none s_layout_Len v_layout_Len, rCall v_layout_Len⟩⟩,
  ⟨(some (7, 2, true, some 12)), some 17, [(.tmp 14), (.tmp 16)], ⟨.f (fBin .eql .no), rEql⟩⟩,
  ⟨none, some 18, [(.tmp 12), (.tmp 17), (.const (.bool false))], ⟨.f fPick, rPick⟩⟩,
  ⟨none, some 19, [(.tmp 18)], ⟨.f fMove, rMove⟩⟩,
  ⟨(some (10, 9, true, some 19)), some 20, [(.tmp 2)], ⟨.f fMove, rMove⟩⟩,
  ⟨(some (11, 9, true, some 19)), some 21, [], ⟨.call .none s_layout_Top v_layout_Top, rCall v_layout_Top⟩⟩,
  ⟨(some (12, 9, true, some 19)), some 22, [(.tmp 20), (.tmp 21)], ⟨.call .read s_mem_Mem_Peek v_mem_Mem_Peek, rCall v_mem_Mem_Peek⟩⟩,
  ⟨(some (13, 9, true, some 19)), some 23, [(.tmp 22), (.const (.int .u64 1))], ⟨.f (fBin .eql .no), rEql⟩⟩,
  ⟨none, some 24, [(.tmp 19), (.tmp 23), (.const (.bool false))], ⟨.f fPick, rPick⟩⟩,
  ⟨none, some 25, [(.tmp 24)], ⟨.f fMove, rMove⟩⟩,
  ⟨(some (16, 15, true, some 25)), some 26, [(.const (.int .i64 3))], ⟨.call .write s_layout_Class v_layout_Class, rCall v_layout_Class⟩⟩,
  ⟨(some (17, 15, true, some 25)), some 27, [(.tmp 26), (.const (.int .i64 1))], ⟨.f (fBin .eql .no), rEql⟩⟩,
  ⟨none, some 28, [(.tmp 25), (.tmp 27), (.const (.bool false))], ⟨.f fPick, rPick⟩⟩,
  ⟨none, some 29, [(.tmp 28)], ⟨.f fMove, rMove⟩⟩,
  ⟨(some (20, 19, true, some 29)), some 30, [(.const (.int .i64 1))], ⟨.call .none s_layout_Room v_layout_Room, rCall v_layout_Room⟩⟩,
  ⟨(some (21, 19, true, some 29)), some 31, [(.tmp 30), (.const (.int .i64 5))], ⟨.f (fBin .eql .no), rEql⟩⟩,
  ⟨none, some 32, [(.tmp 29), (.tmp 31), (.const (.bool false))], ⟨.f fPick, rPick⟩⟩,
  ⟨none, some 0, [(.tmp 32)], ⟨.f fMove, rMove⟩⟩])
 .ret))))
noncomputable def v_law04_awake_r : EvF := evFn 0 xc_law04_awake_r [.t 0]
theorem xt_law04_awake_r : toC cx_law04_awake_r (bodyOf Try.f14) = some (xc_law04_awake_r.map XN.sm) := by kernel_rfl
theorem xr_law04_awake_r : toR cx_law04_awake_r Try.f14.results.toList = some [.t 0] := by kernel_rfl
theorem xo_law04_awake_r : xc_law04_awake_r.ok xl_law04_awake_r := ⟨⟨rMove_ok, trivial⟩, ⟨⟨rAny_ok (eqv_build _ rfl _), rAny_ok (trivial), rAny_ok (trivial), trivial⟩, ⟨⟨rAny_ok (trivial), rCall_ok ve_layout_Fresh, rMove_ok, rAny_ok (eqv_ext _), rAny_ok (eqv_ext _), rMove_ok, rMove_ok, trivial⟩, ⟨⟨rMove_ok, rEql_ok, rMove_ok, rMove_ok, rCall_ok ve_mem_Mem_Len, rAny_ok (trivial), rCall_ok ve_layout_Len, rEql_ok, rPick_ok, rMove_ok, rMove_ok, rCall_ok ve_layout_Top, rCall_ok ve_mem_Mem_Peek, rEql_ok, rPick_ok, rMove_ok, rCall_ok ve_layout_Class, rEql_ok, rPick_ok, rMove_ok, rCall_ok ve_layout_Room, rEql_ok, rPick_ok, rMove_ok, trivial⟩, trivial⟩⟩⟩⟩
theorem ve_law04_awake_r : EvOk s_law04_awake_r v_law04_awake_r := EvOk.of (evFn_sound (C := cx_law04_awake_r) xt_law04_awake_r xr_law04_awake_r xo_law04_awake_r) q_law04_awake_r

theorem a_law04_awake : v_law04_awake_r [] ⟨.e, 0⟩ (fun v _ => isT v) = true := by kernel_rfl
def s_law04_awake : Spec := sTrue
theorem e_law04_awake : Entry Try.prog 14 .none s_law04_awake := e_law04_awake_r.awake ve_law04_awake_r a_law04_awake
noncomputable def v_law04_awake : EvF := vTrue
theorem ve_law04_awake : EvOk s_law04_awake v_law04_awake := vTrue_ok

attribute [irreducible] w_law04_awake_r s_law04_awake_r s_law04_awake

/-! ### /ref04.Check -/
def w_ref04_Check_j1b (K : Value → Mem → Prop) (σ : Mem) : Prop :=
xF fMove [(.bool true)] fun v2 =>
K v2 σ

def w_ref04_Check_j1 (K : Value → Mem → Prop) (ts : List Value) (ls : List (List Value)) (σ : Mem) : Prop := w_ref04_Check_j1b K σ

def w_ref04_Check_j2b (K : Value → Mem → Prop) (J1 : List Value → List (List Value) → Mem → Prop) (R1 : List Value → List (List Value) → Mem → Prop) (v3 v4 v5 v6 v49 : Value) (σ : Mem) : Prop :=
xIf v49
 (xF fMove [(.bool false)] fun v2 =>
K v2 σ)
 (xF fMove [v6] fun v28 =>
xF (fBin .add .no) [v28, (.int .i64 1)] fun v29 =>
xF fMove [v29] fun v6 =>
R1 [v3, v4, v5, v6] [] σ)

def w_ref04_Check_j2 (K : Value → Mem → Prop) (J1 : List Value → List (List Value) → Mem → Prop) (R1 : List Value → List (List Value) → Mem → Prop) (ts : List Value) (ls : List (List Value)) (σ : Mem) : Prop := w_ref04_Check_j2b K J1 R1 (ts.getD 0 poison) (ts.getD 1 poison) (ts.getD 2 poison) (ts.getD 3 poison) (ts.getD 4 poison) σ

def w_ref04_Check_l6b (K : Value → Mem → Prop) (J1 : List Value → List (List Value) → Mem → Prop) (R1 : List Value → List (List Value) → Mem → Prop) (v3 v4 v5 v6 : Value) (σ : Mem) : Prop :=
xF fMove [v6] fun v24 =>
xF fMove [v5] fun v25 =>
xF fLen [v25] fun v26 =>
xF (fBin .lss .no) [v24, v26] fun v27 =>
xIf v27
 (xJoin (w_ref04_Check_j2 K J1 R1) fun J2 =>
xF fMove [v5] fun v30 =>
xF fMove [v6] fun v31 =>
xF (fIxS 1) [v30, v31] fun v32 =>
hLoad 1 false [v32] (fun v33 σ =>
xF fMove [v3] fun v34 =>
xF fMove [v6] fun v35 =>
xF (fIxS 1) [v34, v35] fun v36 =>
hLoad 1 false [v36] (fun v37 σ =>
xF (fBin .lss .no) [v33, v37] fun v38 =>
xF fMove [v38] fun v39 =>
xIf v39
 (xF fPick [(.bool true), (.bool true), undef] fun v49 =>
J2 [v3, v4, v5, v6, v49] [] σ)
 (xF fMove [v5] fun v40 =>
xF fMove [v6] fun v41 =>
xF (fIxS 1) [v40, v41] fun v42 =>
hLoad 1 false [v42] (fun v43 σ =>
xF fMove [v4] fun v44 =>
xF fMove [v6] fun v45 =>
xF (fIxS 1) [v44, v45] fun v46 =>
hLoad 1 false [v46] (fun v47 σ =>
xF (fBin .gtr .no) [v43, v47] fun v48 =>
xF fPick [(.bool false), (.bool true), v48] fun v49 =>
J2 [v3, v4, v5, v6, v49] [] σ) σ) σ)) σ) σ)
 (J1 [] [] σ)

def w_ref04_Check_l6 (K : Value → Mem → Prop) (J1 : List Value → List (List Value) → Mem → Prop) (R1 : List Value → List (List Value) → Mem → Prop) (ts : List Value) (ls : List (List Value)) (σ : Mem) : Prop := w_ref04_Check_l6b K J1 R1 (ts.getD 0 poison) (ts.getD 1 poison) (ts.getD 2 poison) (ts.getD 3 poison) σ

def w_ref04_Check (a0 : Value) (K : Value → Mem → Prop) (σ : Mem) : Prop :=
xC (gBox 7 [a0] []) fun c1 =>
xF fMove [(.bool false)] fun v2 =>
hBuildS 1 7 [(.int .i64 0)] [0, 1, 2, 3, 4, 5, 6] [(.int .i64 1), (.int .i64 1), (.int .i64 1), (.int .i64 17), (.int .i64 1), (.int .i64 0), (.int .i64 1)] (fun v7 σ =>
xF fMove [v7] fun v3 =>
hBuildS 1 7 [(.int .i64 0)] [0, 1, 2, 3, 4, 5, 6] [(.int .i64 8), (.int .i64 65536), (.int .i64 64), (.int .i64 256), (.int .i64 65535), (.int .i64 1000), (.int .i64 16)] (fun v8 σ =>
xF fMove [v8] fun v4 =>
xF (fFld 0) [(locP 1)] fun v9 =>
xO (gLoad 1 false [v9] c1) fun v10 =>
xF (fFld 1) [(locP 1)] fun v11 =>
xO (gLoad 1 false [v11] c1) fun v12 =>
xF (fFld 2) [(locP 1)] fun v13 =>
xO (gLoad 1 false [v13] c1) fun v14 =>
xF (fFld 3) [(locP 1)] fun v15 =>
xO (gLoad 1 false [v15] c1) fun v16 =>
xF (fFld 4) [(locP 1)] fun v17 =>
xO (gLoad 1 false [v17] c1) fun v18 =>
xF (fFld 5) [(locP 1)] fun v19 =>
xO (gLoad 1 false [v19] c1) fun v20 =>
xF (fFld 6) [(locP 1)] fun v21 =>
xO (gLoad 1 false [v21] c1) fun v22 =>
hBuildS 1 7 [(.int .i64 0)] [0, 1, 2, 3, 4, 5, 6] [v10, v12, v14, v16, v18, v20, v22] (fun v23 σ =>
xF fMove [v23] fun v5 =>
xJoin (w_ref04_Check_j1 K) fun J1 =>
xF fMove [(.int .i64 0)] fun v6 =>
xLoop (w_ref04_Check_l6 K J1) [v3, v4, v5, v6] [] σ) σ) σ) σ

def s_ref04_Check : Spec := fun args K σ => match args with
  | [a0] => w_ref04_Check a0 K σ
  | _ => False

noncomputable def cx_ref04_Check : Cx := { P := Try.prog, T := [], loc := [(1, 1), (9, 1), (11, 1), (13, 1), (15, 1), (17, 1), (19, 1), (21, 1)], eqt := [], n := 50, keep := [(6, [3, 4, 5, 6], []), (1000009, [3, 4, 5, 6, 49], []), (1000010, [], [])] }
theorem q_ref04_Check : FnS cx_ref04_Check Try.f16 (bodyOf Try.f16) 1 = s_ref04_Check := by
  funext args K σ
  rcases args with _ | ⟨a0, _ | ⟨b, r⟩⟩ <;> kernel_rfl
theorem e_ref04_Check : Entry Try.prog 16 .write s_ref04_Check :=
  entry (C := cx_ref04_Check) TOk.nil mixedOk Try.func16 (by kernel_rfl) (by kernel_rfl) (by kernel_rfl) q_ref04_Check


attribute [irreducible] w_ref04_Check_j1b w_ref04_Check_j1 w_ref04_Check_j2b w_ref04_Check_j2 w_ref04_Check_l6b w_ref04_Check_l6 w_ref04_Check s_ref04_Check

/-! ### /law04.LayoutChecks -/
def w_law04_LayoutChecks (a0 : Value) (K : Value → Mem → Prop) (σ : Mem) : Prop :=
xC (gBox 7 [a0] []) fun c1 =>
xF fMove [(.bool false)] fun v2 =>
s_law04_awake [] (fun v3 σ =>
xF fMove [v3] fun v4 =>
xIf v4
 (xO (gLoad 7 true [(locP 1)] c1) fun v5 =>
s_layout_Check [v5] (fun v6 σ =>
xO (gLoad 7 true [(locP 1)] c1) fun v7 =>
s_ref04_Check [v7] (fun v8 σ =>
xF (fBin .eql .bool) [v6, v8] fun v9 =>
xF fPick [(.bool true), v9, (.bool false)] fun v10 =>
xF fMove [v10] fun v2 =>
K v2 σ) σ) σ)
 (xF fPick [(.bool false), undef, (.bool false)] fun v10 =>
xF fMove [v10] fun v2 =>
K v2 σ)) σ

def s_law04_LayoutChecks : Spec := fun args K σ => match args with
  | [a0] => w_law04_LayoutChecks a0 K σ
  | _ => False

noncomputable def cx_law04_LayoutChecks : Cx := { P := Try.prog, T := [(14, .none, s_law04_awake), (15, .none, s_layout_Check), (16, .write, s_ref04_Check)], loc := [(1, 1)], eqt := [(4, .bool)], n := 11, keep := [] }
theorem q_law04_LayoutChecks : FnS cx_law04_LayoutChecks Try.f3 (bodyOf Try.f3) 1 = s_law04_LayoutChecks := by
  funext args K σ
  rcases args with _ | ⟨a0, _ | ⟨b, r⟩⟩ <;> kernel_rfl
theorem e_law04_LayoutChecks : Entry Try.prog 3 .write s_law04_LayoutChecks :=
  entry (C := cx_law04_LayoutChecks) (TOk.cons e_law04_awake (TOk.cons e_layout_Check (TOk.cons e_ref04_Check TOk.nil))) mixedOk Try.func3 (by kernel_rfl) (by kernel_rfl) (by kernel_rfl) q_law04_LayoutChecks


attribute [irreducible] w_law04_LayoutChecks s_law04_LayoutChecks

/-! ### /ref04.Class -/
def w_ref04_Class_j1b (K : Value → Mem → Prop) (σ : Mem) : Prop :=
xF fMove [(.int .i64 (-1))] fun v2 =>
K v2 σ

def w_ref04_Class_j1 (K : Value → Mem → Prop) (ts : List Value) (ls : List (List Value)) (σ : Mem) : Prop := w_ref04_Class_j1b K σ

def w_ref04_Class_l6b (K : Value → Mem → Prop) (J1 : List Value → List (List Value) → Mem → Prop) (R1 : List Value → List (List Value) → Mem → Prop) (v0 v3 v4 : Value) (σ : Mem) : Prop :=
xF fMove [v4] fun v8 =>
xF (fBin .lss .no) [v8, (.int .i64 4)] fun v9 =>
xIf v9
 (xF fMove [v0] fun v12 =>
xF fMove [v3] fun v13 =>
xF fMove [v4] fun v14 =>
xF (fIxS 1) [v13, v14] fun v15 =>
hLoad 1 false [v15] (fun v16 σ =>
xF (fBin .leq .no) [v12, v16] fun v17 =>
xIf v17
 (xF fMove [v4] fun v18 =>
xF fMove [v18] fun v2 =>
K v2 σ)
 (xF fMove [v4] fun v10 =>
xF (fBin .add .no) [v10, (.int .i64 1)] fun v11 =>
xF fMove [v11] fun v4 =>
R1 [v0, v3, v4] [] σ)) σ)
 (J1 [] [] σ)

def w_ref04_Class_l6 (K : Value → Mem → Prop) (J1 : List Value → List (List Value) → Mem → Prop) (R1 : List Value → List (List Value) → Mem → Prop) (ts : List Value) (ls : List (List Value)) (σ : Mem) : Prop := w_ref04_Class_l6b K J1 R1 (ts.getD 0 poison) (ts.getD 1 poison) (ts.getD 2 poison) σ

def w_ref04_Class (a0 : Value) (K : Value → Mem → Prop) (σ : Mem) : Prop :=
xF fMove [(.int .i64 0)] fun v2 =>
hBuildS 1 4 [(.int .i64 0)] [0, 1, 2, 3] [(.int .i64 2), (.int .i64 4), (.int .i64 8), (.int .i64 16)] (fun v5 σ =>
xF fMove [v5] fun v3 =>
xF fMove [a0] fun v6 =>
xF (fBin .lss .no) [v6, (.int .i64 1)] fun v7 =>
xIf v7
 (xF fMove [(.int .i64 (-1))] fun v2 =>
K v2 σ)
 (xJoin (w_ref04_Class_j1 K) fun J1 =>
xF fMove [(.int .i64 0)] fun v4 =>
xLoop (w_ref04_Class_l6 K J1) [a0, v3, v4] [] σ)) σ

def s_ref04_Class : Spec := fun args K σ => match args with
  | [a0] => w_ref04_Class a0 K σ
  | _ => False

noncomputable def cx_ref04_Class : Cx := { P := Try.prog, T := [], loc := [], eqt := [], n := 19, keep := [(6, [0, 3, 4], []), (1000010, [], [])] }
theorem q_ref04_Class : FnS cx_ref04_Class Try.f18 (bodyOf Try.f18) 1 = s_ref04_Class := by
  funext args K σ
  rcases args with _ | ⟨a0, _ | ⟨b, r⟩⟩ <;> kernel_rfl
theorem e_ref04_Class : Entry Try.prog 18 .write s_ref04_Class :=
  entry (C := cx_ref04_Class) TOk.nil mixedOk Try.func18 (by kernel_rfl) (by kernel_rfl) (by kernel_rfl) q_ref04_Class


attribute [irreducible] w_ref04_Class_j1b w_ref04_Class_j1 w_ref04_Class_l6b w_ref04_Class_l6 w_ref04_Class s_ref04_Class

/-! ### /ref04.Room -/
def w_ref04_Room (a0 : Value) (K : Value → Mem → Prop) (σ : Mem) : Prop :=
xF fMove [(.int .i64 0)] fun v2 =>
hBuildS 1 4 [(.int .i64 0)] [0, 1, 2, 3] [(.int .i64 3), (.int .i64 5), (.int .i64 9), (.int .i64 17)] (fun v3 σ =>
xF fMove [a0] fun v4 =>
xF (fIxS 1) [v3, v4] fun v5 =>
hLoad 1 false [v5] (fun v6 σ =>
xF fMove [v6] fun v2 =>
K v2 σ) σ) σ

def s_ref04_Room : Spec := fun args K σ => match args with
  | [a0] => w_ref04_Room a0 K σ
  | _ => False

noncomputable def cx_ref04_Room : Cx := { P := Try.prog, T := [], loc := [], eqt := [], n := 7, keep := [] }
theorem q_ref04_Room : FnS cx_ref04_Room Try.f20 (bodyOf Try.f20) 1 = s_ref04_Room := by
  funext args K σ
  rcases args with _ | ⟨a0, _ | ⟨b, r⟩⟩ <;> kernel_rfl
theorem e_ref04_Room : Entry Try.prog 20 .write s_ref04_Room :=
  entry (C := cx_ref04_Room) TOk.nil mixedOk Try.func20 (by kernel_rfl) (by kernel_rfl) (by kernel_rfl) q_ref04_Room


attribute [irreducible] w_ref04_Room s_ref04_Room

/-! ### /law04.LayoutClasses -/
def w_law04_LayoutClasses_j1b (K : Value → Mem → Prop) (v0 v3 v13 : Value) (σ : Mem) : Prop :=
xIf v13
 (xF fMove [(.bool false)] fun v2 =>
K v2 σ)
 (xF fMove [v3] fun v14 =>
xF (fBin .lss .no) [v14, (.int .i64 0)] fun v15 =>
xF fMove [v15] fun v16 =>
xIf v16
 (xF fPick [(.bool true), (.bool true), undef] fun v39 =>
xF fMove [v39] fun v2 =>
K v2 σ)
 (xF fMove [v3] fun v17 =>
s_layout_Room [v17] (fun v18 σ =>
xF fMove [v3] fun v19 =>
s_ref04_Room [v19] (fun v20 σ =>
xF (fBin .eql .no) [v18, v20] fun v21 =>
xF fMove [v21] fun v22 =>
xIf v22
 (xF fMove [v3] fun v23 =>
s_layout_Room [v23] (fun v24 σ =>
xF fMove [v0] fun v25 =>
xF (fBin .gtr .no) [v24, v25] fun v26 =>
xF fPick [(.bool true), v26, (.bool false)] fun v27 =>
xF fMove [v27] fun v28 =>
xIf v28
 (xF fMove [v3] fun v29 =>
xF (fBin .eql .no) [v29, (.int .i64 0)] fun v30 =>
xF fMove [v30] fun v31 =>
xIf v31
 (xF fPick [(.bool true), (.bool true), undef] fun v37 =>
xF fPick [(.bool true), v37, (.bool false)] fun v38 =>
xF fPick [(.bool false), (.bool true), v38] fun v39 =>
xF fMove [v39] fun v2 =>
K v2 σ)
 (xF fMove [v3] fun v32 =>
xF (fBin .sub .no) [v32, (.int .i64 1)] fun v33 =>
s_layout_Room [v33] (fun v34 σ =>
xF fMove [v0] fun v35 =>
xF (fBin .leq .no) [v34, v35] fun v36 =>
xF fPick [(.bool false), (.bool true), v36] fun v37 =>
xF fPick [(.bool true), v37, (.bool false)] fun v38 =>
xF fPick [(.bool false), (.bool true), v38] fun v39 =>
xF fMove [v39] fun v2 =>
K v2 σ) σ))
 (xF fPick [(.bool false), undef, (.bool false)] fun v38 =>
xF fPick [(.bool false), (.bool true), v38] fun v39 =>
xF fMove [v39] fun v2 =>
K v2 σ)) σ)
 (xF fPick [(.bool false), undef, (.bool false)] fun v27 =>
xF fMove [v27] fun v28 =>
xIf v28
 (xF fMove [v3] fun v29 =>
xF (fBin .eql .no) [v29, (.int .i64 0)] fun v30 =>
xF fMove [v30] fun v31 =>
xIf v31
 (xF fPick [(.bool true), (.bool true), undef] fun v37 =>
xF fPick [(.bool true), v37, (.bool false)] fun v38 =>
xF fPick [(.bool false), (.bool true), v38] fun v39 =>
xF fMove [v39] fun v2 =>
K v2 σ)
 (xF fMove [v3] fun v32 =>
xF (fBin .sub .no) [v32, (.int .i64 1)] fun v33 =>
s_layout_Room [v33] (fun v34 σ =>
xF fMove [v0] fun v35 =>
xF (fBin .leq .no) [v34, v35] fun v36 =>
xF fPick [(.bool false), (.bool true), v36] fun v37 =>
xF fPick [(.bool true), v37, (.bool false)] fun v38 =>
xF fPick [(.bool false), (.bool true), v38] fun v39 =>
xF fMove [v39] fun v2 =>
K v2 σ) σ))
 (xF fPick [(.bool false), undef, (.bool false)] fun v38 =>
xF fPick [(.bool false), (.bool true), v38] fun v39 =>
xF fMove [v39] fun v2 =>
K v2 σ))) σ) σ))

def w_law04_LayoutClasses_j1 (K : Value → Mem → Prop) (ts : List Value) (ls : List (List Value)) (σ : Mem) : Prop := w_law04_LayoutClasses_j1b K (ts.getD 0 poison) (ts.getD 1 poison) (ts.getD 2 poison) σ

def w_law04_LayoutClasses (a0 : Value) (K : Value → Mem → Prop) (σ : Mem) : Prop :=
xF fMove [(.bool false)] fun v2 =>
xF fMove [a0] fun v4 =>
s_layout_Class [v4] (fun v5 σ =>
xF fMove [v5] fun v3 =>
xJoin (w_law04_LayoutClasses_j1 K) fun J1 =>
s_law04_awake [] (fun v6 σ =>
xF (fUn .not) [v6] fun v7 =>
xF fMove [v7] fun v8 =>
xIf v8
 (xF fPick [(.bool true), (.bool true), undef] fun v13 =>
J1 [a0, v3, v13] [] σ)
 (xF fMove [v3] fun v9 =>
xF fMove [a0] fun v10 =>
s_ref04_Class [v10] (fun v11 σ =>
xF (fBin .neq .no) [v9, v11] fun v12 =>
xF fPick [(.bool false), (.bool true), v12] fun v13 =>
J1 [a0, v3, v13] [] σ) σ)) σ) σ

def s_law04_LayoutClasses : Spec := fun args K σ => match args with
  | [a0] => w_law04_LayoutClasses a0 K σ
  | _ => False

noncomputable def cx_law04_LayoutClasses : Cx := { P := Try.prog, T := [(17, .write, s_layout_Class), (14, .none, s_law04_awake), (18, .write, s_ref04_Class), (19, .none, s_layout_Room), (20, .write, s_ref04_Room)], loc := [], eqt := [], n := 40, keep := [(1000004, [0, 3, 13], [])] }
theorem q_law04_LayoutClasses : FnS cx_law04_LayoutClasses Try.f4 (bodyOf Try.f4) 1 = s_law04_LayoutClasses := by
  funext args K σ
  rcases args with _ | ⟨a0, _ | ⟨b, r⟩⟩ <;> kernel_rfl
theorem e_law04_LayoutClasses : Entry Try.prog 4 .write s_law04_LayoutClasses :=
  entry (C := cx_law04_LayoutClasses) (TOk.cons e_layout_Class (TOk.cons e_law04_awake (TOk.cons e_ref04_Class (TOk.cons e_layout_Room (TOk.cons e_ref04_Room TOk.nil))))) mixedOk Try.func4 (by kernel_rfl) (by kernel_rfl) (by kernel_rfl) q_law04_LayoutClasses


attribute [irreducible] w_law04_LayoutClasses_j1b w_law04_LayoutClasses_j1 w_law04_LayoutClasses s_law04_LayoutClasses

/-! ### /law04.Config -/
def w_law04_Config (a0 : Value) (K : Value → Mem → Prop) (σ : Mem) : Prop :=
xC (gBox 7 [a0] []) fun c1 =>
xF (fFld 0) [(locP 1)] fun v3 =>
xO (gLoad 1 false [v3] c1) fun v4 =>
xF (fBin .and .no) [v4, (.int .i64 3)] fun v5 =>
xF (fBin .add .no) [(.int .i64 1), v5] fun v6 =>
xF (fFld 1) [(locP 1)] fun v7 =>
xO (gLoad 1 false [v7] c1) fun v8 =>
xF (fBin .and .no) [v8, (.int .i64 15)] fun v9 =>
xF (fBin .add .no) [(.int .i64 1), v9] fun v10 =>
xF (fFld 2) [(locP 1)] fun v11 =>
xO (gLoad 1 false [v11] c1) fun v12 =>
xF (fBin .and .no) [v12, (.int .i64 7)] fun v13 =>
xF (fBin .add .no) [(.int .i64 1), v13] fun v14 =>
xF (fFld 3) [(locP 1)] fun v15 =>
xO (gLoad 1 false [v15] c1) fun v16 =>
xF (fBin .and .no) [v16, (.int .i64 31)] fun v17 =>
xF (fBin .add .no) [(.int .i64 17), v17] fun v18 =>
xF (fFld 4) [(locP 1)] fun v19 =>
xO (gLoad 1 false [v19] c1) fun v20 =>
xF (fBin .and .no) [v20, (.int .i64 1023)] fun v21 =>
xF (fBin .add .no) [(.int .i64 1), v21] fun v22 =>
xF (fFld 5) [(locP 1)] fun v23 =>
xO (gLoad 1 false [v23] c1) fun v24 =>
xF (fBin .rem .no) [v24, (.int .i64 1001)] fun v25 =>
xF (fBin .add .no) [v25, (.int .i64 1001)] fun v26 =>
xF (fBin .rem .no) [v26, (.int .i64 1001)] fun v27 =>
xF (fFld 6) [(locP 1)] fun v28 =>
xO (gLoad 1 false [v28] c1) fun v29 =>
xF (fBin .and .no) [v29, (.int .i64 3)] fun v30 =>
xF (fBin .add .no) [(.int .i64 1), v30] fun v31 =>
xF (fBuild [(0, 1), (1, 1), (2, 1), (3, 1), (4, 1), (5, 1), (6, 1)] [(.int .i64 0), (.int .i64 0), (.int .i64 0), (.int .i64 0), (.int .i64 0), (.int .i64 0), (.int .i64 0)] [0, 1, 2, 3, 4, 5, 6]) [v6, v10, v14, v18, v22, v27, v31] fun v32 =>
xC (gStore 7 [(locP 2), v32] [(.int .i64 0), (.int .i64 0), (.int .i64 0), (.int .i64 0), (.int .i64 0), (.int .i64 0), (.int .i64 0)]) fun c2 =>
xO (gLoad 7 true [(locP 2)] c2) fun r2 =>
K r2 σ

def s_law04_Config : Spec := fun args K σ => match args with
  | [a0] => w_law04_Config a0 K σ
  | _ => False

noncomputable def cx_law04_Config : Cx := { P := Try.prog, T := [], loc := [(1, 1), (2, 2), (3, 1), (7, 1), (11, 1), (15, 1), (19, 1), (23, 1), (28, 1)], eqt := [], n := 33, keep := [] }
theorem q_law04_Config : FnS cx_law04_Config Try.f21 (bodyOf Try.f21) 1 = s_law04_Config := by
  funext args K σ
  rcases args with _ | ⟨a0, _ | ⟨b, r⟩⟩ <;> kernel_rfl
theorem e_law04_Config : Entry Try.prog 21 .none s_law04_Config :=
  entry (C := cx_law04_Config) TOk.nil mixedOk Try.func21 (by kernel_rfl) (by kernel_rfl) (by kernel_rfl) q_law04_Config


attribute [irreducible] w_law04_Config s_law04_Config

/-! ### /ref04.Kind -/
def w_ref04_Kind_j1b (K : Value → Mem → Prop) (σ : Mem) : Prop :=
xF fMove [(.int .i64 (-1))] fun v4 =>
xF fMove [(.int .i64 0)] fun v5 =>
xF fMove [(.int .i64 0)] fun v6 =>
K (.tuple #[v4, v5, v6]) σ

def w_ref04_Kind_j1 (K : Value → Mem → Prop) (ts : List Value) (ls : List (List Value)) (σ : Mem) : Prop := w_ref04_Kind_j1b K σ

def w_ref04_Kind_l6b (K : Value → Mem → Prop) (J1 : List Value → List (List Value) → Mem → Prop) (R1 : List Value → List (List Value) → Mem → Prop) (v1 v7 v8 : Value) (c2 : List Value) (σ : Mem) : Prop :=
xF fMove [v8] fun v25 =>
xF fMove [v7] fun v26 =>
xF fLen [v26] fun v27 =>
xF (fBin .lss .no) [v25, v27] fun v28 =>
xIf v28
 (xF fMove [v1] fun v31 =>
xF fMove [v7] fun v32 =>
xF fMove [v8] fun v33 =>
xF (fIxS 1) [v32, v33] fun v34 =>
hLoad 1 false [v34] (fun v35 σ =>
xF (fBin .geq .no) [v31, v35] fun v36 =>
xIf v36
 (xF fMove [v1] fun v37 =>
xF fMove [v7] fun v38 =>
xF fMove [v8] fun v39 =>
xF (fIxS 1) [v38, v39] fun v40 =>
hLoad 1 false [v40] (fun v41 σ =>
xF (fBin .sub .no) [v37, v41] fun v42 =>
xF fMove [v42] fun v1 =>
xF fMove [v8] fun v29 =>
xF (fBin .add .no) [v29, (.int .i64 1)] fun v30 =>
xF fMove [v30] fun v8 =>
R1 [v1, v7, v8] [c2] σ) σ)
 (xF fMove [v8] fun v43 =>
xF (fBin .eql .no) [v43, (.int .i64 4)] fun v45 =>
xF fMove [v45] fun v44 =>
xIf v44
 (xF fMove [v1] fun v46 =>
xF (fBin .rem .no) [v46, (.int .i64 2)] fun v47 =>
xF (fBin .add .no) [(.int .i64 4), v47] fun v48 =>
xF fMove [v1] fun v49 =>
xF (fBin .quo .no) [v49, (.int .i64 2)] fun v50 =>
xF fMove [v48] fun v4 =>
xF fMove [v50] fun v5 =>
xF fMove [(.int .i64 0)] fun v6 =>
K (.tuple #[v4, v5, v6]) σ)
 (xF (fBin .eql .no) [v43, (.int .i64 5)] fun v52 =>
xF fMove [v52] fun v51 =>
xIf v51
 (xF fMove [v1] fun v53 =>
xF (fBin .rem .no) [v53, (.int .i64 3)] fun v54 =>
xF (fBin .add .no) [(.int .i64 6), v54] fun v55 =>
xF fMove [v1] fun v56 =>
xF (fBin .quo .no) [v56, (.int .i64 3)] fun v57 =>
xF fMove [v55] fun v4 =>
xF fMove [v57] fun v5 =>
xF fMove [(.int .i64 0)] fun v6 =>
K (.tuple #[v4, v5, v6]) σ)
 (xF (fBin .eql .no) [v43, (.int .i64 6)] fun v59 =>
xF fMove [v59] fun v58 =>
xIf v58
 (xF fMove [v1] fun v60 =>
xF (fFld 3) [(locP 2)] fun v61 =>
xO (gLoad 1 false [v61] c2) fun v62 =>
xF (fBin .quo .no) [v60, v62] fun v63 =>
xF fMove [v1] fun v64 =>
xF (fFld 3) [(locP 2)] fun v65 =>
xO (gLoad 1 false [v65] c2) fun v66 =>
xF (fBin .rem .no) [v64, v66] fun v67 =>
xF fMove [(.int .i64 9)] fun v4 =>
xF fMove [v63] fun v5 =>
xF fMove [v67] fun v6 =>
K (.tuple #[v4, v5, v6]) σ)
 (xF fMove [v8] fun v68 =>
xF fMove [v1] fun v69 =>
xF fMove [v68] fun v4 =>
xF fMove [v69] fun v5 =>
xF fMove [(.int .i64 0)] fun v6 =>
K (.tuple #[v4, v5, v6]) σ))))) σ)
 (J1 [] [] σ)

def w_ref04_Kind_l6 (K : Value → Mem → Prop) (J1 : List Value → List (List Value) → Mem → Prop) (R1 : List Value → List (List Value) → Mem → Prop) (ts : List Value) (ls : List (List Value)) (σ : Mem) : Prop := w_ref04_Kind_l6b K J1 R1 (ts.getD 0 poison) (ts.getD 1 poison) (ts.getD 2 poison) (ls.getD 0 []) σ

def w_ref04_Kind (a0 a1 : Value) (K : Value → Mem → Prop) (σ : Mem) : Prop :=
xC (gBox 7 [a0] []) fun c2 =>
xF fMove [(.int .i64 0)] fun v4 =>
xF fMove [(.int .i64 0)] fun v5 =>
xF fMove [(.int .i64 0)] fun v6 =>
xF fMove [a1] fun v9 =>
xF (fBin .lss .no) [v9, (.int .i64 0)] fun v10 =>
xIf v10
 (xF fMove [(.int .i64 (-1))] fun v4 =>
xF fMove [(.int .i64 0)] fun v5 =>
xF fMove [(.int .i64 0)] fun v6 =>
K (.tuple #[v4, v5, v6]) σ)
 (xF (fFld 0) [(locP 2)] fun v11 =>
xO (gLoad 1 false [v11] c2) fun v12 =>
xF (fFld 1) [(locP 2)] fun v13 =>
xO (gLoad 1 false [v13] c2) fun v14 =>
xF (fBin .mul .no) [(.int .i64 2), v14] fun v15 =>
xF (fFld 2) [(locP 2)] fun v16 =>
xO (gLoad 1 false [v16] c2) fun v17 =>
xF (fBin .mul .no) [(.int .i64 3), v17] fun v18 =>
xF (fFld 2) [(locP 2)] fun v19 =>
xO (gLoad 1 false [v19] c2) fun v20 =>
xF (fFld 3) [(locP 2)] fun v21 =>
xO (gLoad 1 false [v21] c2) fun v22 =>
xF (fBin .mul .no) [v20, v22] fun v23 =>
hBuildS 1 7 [(.int .i64 0)] [0, 1, 2, 3, 4, 5, 6] [(.int .i64 1), (.int .i64 1), (.int .i64 4), v12, v15, v18, v23] (fun v24 σ =>
xF fMove [v24] fun v7 =>
xJoin (w_ref04_Kind_j1 K) fun J1 =>
xF fMove [(.int .i64 0)] fun v8 =>
xLoop (w_ref04_Kind_l6 K J1) [a1, v7, v8] [c2] σ) σ)

def s_ref04_Kind : Spec := fun args K σ => match args with
  | [a0, a1] => w_ref04_Kind a0 a1 K σ
  | _ => False

noncomputable def cx_ref04_Kind : Cx := { P := Try.prog, T := [], loc := [(2, 2), (11, 2), (13, 2), (16, 2), (19, 2), (21, 2), (61, 2), (65, 2)], eqt := [], n := 70, keep := [(6, [1, 7, 8], [2]), (1000018, [], [])] }
theorem q_ref04_Kind : FnS cx_ref04_Kind Try.f25 (bodyOf Try.f25) 2 = s_ref04_Kind := by
  funext args K σ
  rcases args with _ | ⟨a0, _ | ⟨a1, _ | ⟨b, r⟩⟩⟩ <;> kernel_rfl
theorem e_ref04_Kind : Entry Try.prog 25 .write s_ref04_Kind :=
  entry (C := cx_ref04_Kind) TOk.nil mixedOk Try.func25 (by kernel_rfl) (by kernel_rfl) (by kernel_rfl) q_ref04_Kind


attribute [irreducible] w_ref04_Kind_j1b w_ref04_Kind_j1 w_ref04_Kind_l6b w_ref04_Kind_l6 w_ref04_Kind s_ref04_Kind

/-! ### /ref01.Power -/
def w_ref01_Power_j1b (K : Value → Mem → Prop) (v3 : Value) (σ : Mem) : Prop :=
xF fMove [v3] fun v12 =>
xF fMove [v12] fun v2 =>
K v2 σ

def w_ref01_Power_j1 (K : Value → Mem → Prop) (ts : List Value) (ls : List (List Value)) (σ : Mem) : Prop := w_ref01_Power_j1b K (ts.getD 0 poison) σ

def w_ref01_Power_l4b (K : Value → Mem → Prop) (J1 : List Value → List (List Value) → Mem → Prop) (R1 : List Value → List (List Value) → Mem → Prop) (v0 v3 v4 : Value) (σ : Mem) : Prop :=
xF fMove [v4] fun v5 =>
xF fMove [v0] fun v6 =>
xF (fBin .lss .no) [v5, v6] fun v7 =>
xIf v7
 (xF fMove [v3] fun v10 =>
xF (fBin .mul .no) [v10, (.int .u64 2)] fun v11 =>
xF fMove [v11] fun v3 =>
xF fMove [v4] fun v8 =>
xF (fBin .add .no) [v8, (.int .i64 1)] fun v9 =>
xF fMove [v9] fun v4 =>
R1 [v0, v3, v4] [] σ)
 (J1 [v3] [] σ)

def w_ref01_Power_l4 (K : Value → Mem → Prop) (J1 : List Value → List (List Value) → Mem → Prop) (R1 : List Value → List (List Value) → Mem → Prop) (ts : List Value) (ls : List (List Value)) (σ : Mem) : Prop := w_ref01_Power_l4b K J1 R1 (ts.getD 0 poison) (ts.getD 1 poison) (ts.getD 2 poison) σ

def w_ref01_Power (a0 : Value) (K : Value → Mem → Prop) (σ : Mem) : Prop :=
xF fMove [(.int .u64 0)] fun v2 =>
xF fMove [(.int .u64 1)] fun v3 =>
xJoin (w_ref01_Power_j1 K) fun J1 =>
xF fMove [(.int .i64 0)] fun v4 =>
xLoop (w_ref01_Power_l4 K J1) [a0, v3, v4] [] σ

def s_ref01_Power : Spec := fun args K σ => match args with
  | [a0] => w_ref01_Power a0 K σ
  | _ => False

noncomputable def cx_ref01_Power : Cx := { P := Try.prog, T := [], loc := [], eqt := [], n := 13, keep := [(4, [0, 3, 4], []), (1000007, [3], [])] }
theorem q_ref01_Power : FnS cx_ref01_Power Try.f65 (bodyOf Try.f65) 1 = s_ref01_Power := by
  funext args K σ
  rcases args with _ | ⟨a0, _ | ⟨b, r⟩⟩ <;> kernel_rfl
theorem e_ref01_Power : Entry Try.prog 65 .write s_ref01_Power :=
  entry (C := cx_ref01_Power) TOk.nil mixedOk Try.func65 (by kernel_rfl) (by kernel_rfl) (by kernel_rfl) q_ref01_Power

def xl_ref01_Power : List (Nat × Nat) := []
noncomputable def xc_ref01_Power : XC XN :=
(.seq none
 (.reg [⟨none, some 2, [(.const (.int .u64 0))], ⟨.f fMove, rMove⟩⟩])
 (.seq none
 (.reg [⟨none, some 3, [(.const (.int .u64 1))], ⟨.f fMove, rMove⟩⟩])
 (.seq (some ([3], []))
 (.seq none
 (.reg [⟨none, some 4, [(.const (.int .i64 0))], ⟨.f fMove, rMove⟩⟩])
 (.block 0
 (.loop ([0, 3, 4], [])
 (.seq none
 (.seq none
 (.reg [⟨none, some 5, [(.tmp 4)], ⟨.f fMove, rMove⟩⟩,
  ⟨none, some 6, [(.tmp 0)], ⟨.f fMove, rMove⟩⟩,
  ⟨none, some 7, [(.tmp 5), (.tmp 6)], ⟨.f (fBin .lss .no), rLss⟩⟩])
 (.cond (.tmp 7)
 .skip
 (.exit 0)))
 (.seq none
 (.block 1
 (.reg [⟨none, some 10, [(.tmp 3)], ⟨.f fMove, rMove⟩⟩,
  ⟨none, some 11, [(.tmp 10), (.const (.int .u64 2))], ⟨.f (fBin .mul .no), rMul⟩⟩,
  ⟨none, some 3, [(.tmp 11)], ⟨.f fMove, rMove⟩⟩]))
 (.reg [⟨none, some 8, [(.tmp 4)], ⟨.f fMove, rMove⟩⟩,
  ⟨none, some 9, [(.tmp 8), (.const (.int .i64 1))], ⟨.f (fBin .add .no), rAdd⟩⟩,
  ⟨none, some 4, [(.tmp 9)], ⟨.f fMove, rMove⟩⟩]))))))
 (.seq none
 (.reg [⟨none, some 12, [(.tmp 3)], ⟨.f fMove, rMove⟩⟩,
  ⟨none, some 2, [(.tmp 12)], ⟨.f fMove, rMove⟩⟩])
 .ret))))
noncomputable def v_ref01_Power : EvF := evFn 1 xc_ref01_Power [.t 2]
theorem xt_ref01_Power : toC cx_ref01_Power (bodyOf Try.f65) = some (xc_ref01_Power.map XN.sm) := by kernel_rfl
theorem xr_ref01_Power : toR cx_ref01_Power Try.f65.results.toList = some [.t 2] := by kernel_rfl
theorem xo_ref01_Power : xc_ref01_Power.ok xl_ref01_Power := ⟨⟨rMove_ok, trivial⟩, ⟨⟨rMove_ok, trivial⟩, ⟨⟨⟨rMove_ok, trivial⟩, ⟨⟨⟨rMove_ok, rMove_ok, rLss_ok, trivial⟩, ⟨trivial, trivial⟩⟩, ⟨⟨rMove_ok, rMul_ok, rMove_ok, trivial⟩, ⟨rMove_ok, rAdd_ok, rMove_ok, trivial⟩⟩⟩⟩, ⟨⟨rMove_ok, rMove_ok, trivial⟩, trivial⟩⟩⟩⟩
theorem ve_ref01_Power : EvOk s_ref01_Power v_ref01_Power := EvOk.of (evFn_sound (C := cx_ref01_Power) xt_ref01_Power xr_ref01_Power xo_ref01_Power) q_ref01_Power

attribute [irreducible] w_ref01_Power_j1b w_ref01_Power_j1 w_ref01_Power_l4b w_ref01_Power_l4 w_ref01_Power s_ref01_Power

/-! ### /ref01.Put -/
def w_ref01_Put_j1b (K : Value → Mem → Prop) (v5 : Value) (σ : Mem) : Prop :=
xF fMove [v5] fun v48 =>
xF fMove [v48] fun v4 =>
K v4 σ

def w_ref01_Put_j1 (K : Value → Mem → Prop) (ts : List Value) (ls : List (List Value)) (σ : Mem) : Prop := w_ref01_Put_j1b K (ts.getD 0 poison) σ

def w_ref01_Put_j3b (K : Value → Mem → Prop) (J1 : List Value → List (List Value) → Mem → Prop) (R1 : List Value → List (List Value) → Mem → Prop) (v0 v1 v5 v6 v7 v8 : Value) (σ : Mem) : Prop :=
xF fMove [v5] fun v36 =>
xF fMove [v8] fun v37 =>
xF fMove [v6] fun v38 =>
xF (fBin .mul .no) [v37, v38] fun v39 =>
xF (fBin .add .no) [v36, v39] fun v40 =>
xF fMove [v40] fun v5 =>
xF fMove [v6] fun v41 =>
xF fMove [v1] fun v42 =>
xF fMove [v7] fun v43 =>
xF (fIxS 1) [v42, v43] fun v44 =>
hLoad 1 false [v44] (fun v45 σ =>
s_ref01_Power [v45] (fun v46 σ =>
xF (fBin .mul .no) [v41, v46] fun v47 =>
xF fMove [v47] fun v6 =>
xF fMove [v7] fun v14 =>
xF (fBin .add .no) [v14, (.int .i64 1)] fun v15 =>
xF fMove [v15] fun v7 =>
R1 [v0, v1, v5, v6, v7] [] σ) σ) σ

def w_ref01_Put_j3 (K : Value → Mem → Prop) (J1 : List Value → List (List Value) → Mem → Prop) (R1 : List Value → List (List Value) → Mem → Prop) (ts : List Value) (ls : List (List Value)) (σ : Mem) : Prop := w_ref01_Put_j3b K J1 R1 (ts.getD 0 poison) (ts.getD 1 poison) (ts.getD 2 poison) (ts.getD 3 poison) (ts.getD 4 poison) (ts.getD 5 poison) σ

def w_ref01_Put_j2b (K : Value → Mem → Prop) (J1 : List Value → List (List Value) → Mem → Prop) (R1 : List Value → List (List Value) → Mem → Prop) (v0 v1 v5 v6 v7 v8 : Value) (σ : Mem) : Prop :=
xJoin (w_ref01_Put_j3 K J1 R1) fun J3 =>
xF fMove [v1] fun v26 =>
xF fMove [v7] fun v27 =>
xF (fIxS 1) [v26, v27] fun v28 =>
hLoad 1 false [v28] (fun v29 σ =>
s_ref01_Power [v29] (fun v30 σ =>
xF (fBin .sub .no) [v30, (.int .u64 1)] fun v31 =>
xF fMove [v31] fun v9 =>
xF fMove [v8] fun v32 =>
xF fMove [v9] fun v33 =>
xF (fBin .gtr .no) [v32, v33] fun v34 =>
xIf v34
 (xF fMove [v9] fun v35 =>
xF fMove [v35] fun v8 =>
J3 [v0, v1, v5, v6, v7, v8] [] σ)
 (J3 [v0, v1, v5, v6, v7, v8] [] σ)) σ) σ

def w_ref01_Put_j2 (K : Value → Mem → Prop) (J1 : List Value → List (List Value) → Mem → Prop) (R1 : List Value → List (List Value) → Mem → Prop) (ts : List Value) (ls : List (List Value)) (σ : Mem) : Prop := w_ref01_Put_j2b K J1 R1 (ts.getD 0 poison) (ts.getD 1 poison) (ts.getD 2 poison) (ts.getD 3 poison) (ts.getD 4 poison) (ts.getD 5 poison) σ

def w_ref01_Put_l4b (K : Value → Mem → Prop) (J1 : List Value → List (List Value) → Mem → Prop) (R1 : List Value → List (List Value) → Mem → Prop) (v0 v1 v5 v6 v7 : Value) (σ : Mem) : Prop :=
xF fMove [v7] fun v10 =>
xF fMove [v0] fun v11 =>
xF fLen [v11] fun v12 =>
xF (fBin .lss .no) [v10, v12] fun v13 =>
xIf v13
 (xF fMove [(.int .u64 0)] fun v8 =>
xJoin (w_ref01_Put_j2 K J1 R1) fun J2 =>
xF fMove [v0] fun v16 =>
xF fMove [v7] fun v17 =>
xF (fIxS 1) [v16, v17] fun v18 =>
hLoad 1 false [v18] (fun v19 σ =>
xF (fBin .gtr .no) [v19, (.int .i64 0)] fun v20 =>
xIf v20
 (xF fMove [v0] fun v21 =>
xF fMove [v7] fun v22 =>
xF (fIxS 1) [v21, v22] fun v23 =>
hLoad 1 false [v23] (fun v24 σ =>
xF (fConv .u64) [v24] fun v25 =>
xF fMove [v25] fun v8 =>
J2 [v0, v1, v5, v6, v7, v8] [] σ) σ)
 (J2 [v0, v1, v5, v6, v7, v8] [] σ)) σ)
 (J1 [v5] [] σ)

def w_ref01_Put_l4 (K : Value → Mem → Prop) (J1 : List Value → List (List Value) → Mem → Prop) (R1 : List Value → List (List Value) → Mem → Prop) (ts : List Value) (ls : List (List Value)) (σ : Mem) : Prop := w_ref01_Put_l4b K J1 R1 (ts.getD 0 poison) (ts.getD 1 poison) (ts.getD 2 poison) (ts.getD 3 poison) (ts.getD 4 poison) σ

def w_ref01_Put (a0 a1 : Value) (K : Value → Mem → Prop) (σ : Mem) : Prop :=
xF fMove [(.int .u64 0)] fun v4 =>
xF fMove [(.int .u64 0)] fun v5 =>
xF fMove [(.int .u64 1)] fun v6 =>
xJoin (w_ref01_Put_j1 K) fun J1 =>
xF fMove [(.int .i64 0)] fun v7 =>
xLoop (w_ref01_Put_l4 K J1) [a0, a1, v5, v6, v7] [] σ

def s_ref01_Put : Spec := fun args K σ => match args with
  | [a0, a1] => w_ref01_Put a0 a1 K σ
  | _ => False

noncomputable def cx_ref01_Put : Cx := { P := Try.prog, T := [(65, .write, s_ref01_Power)], loc := [], eqt := [], n := 49, keep := [(4, [0, 1, 5, 6, 7], []), (1000009, [0, 1, 5, 6, 7, 8], []), (1000012, [0, 1, 5, 6, 7, 8], []), (1000014, [5], [])] }
theorem q_ref01_Put : FnS cx_ref01_Put Try.f61 (bodyOf Try.f61) 2 = s_ref01_Put := by
  funext args K σ
  rcases args with _ | ⟨a0, _ | ⟨a1, _ | ⟨b, r⟩⟩⟩ <;> kernel_rfl
theorem e_ref01_Put : Entry Try.prog 61 .write s_ref01_Put :=
  entry (C := cx_ref01_Put) (TOk.cons e_ref01_Power TOk.nil) mixedOk Try.func61 (by kernel_rfl) (by kernel_rfl) (by kernel_rfl) q_ref01_Put

def xl_ref01_Put : List (Nat × Nat) := []
noncomputable def xc_ref01_Put : XC XN :=
(.seq none
 (.reg [⟨none, some 4, [(.const (.int .u64 0))], ⟨.f fMove, rMove⟩⟩])
 (.seq none
 (.reg [⟨none, some 5, [(.const (.int .u64 0))], ⟨.f fMove, rMove⟩⟩,
  ⟨none, some 6, [(.const (.int .u64 1))], ⟨.f fMove, rMove⟩⟩])
 (.seq (some ([5], []))
 (.seq none
 (.reg [⟨none, some 7, [(.const (.int .i64 0))], ⟨.f fMove, rMove⟩⟩])
 (.block 0
 (.loop ([0, 1, 5, 6, 7], [])
 (.seq none
 (.seq none
 (.reg [⟨none, some 10, [(.tmp 7)], ⟨.f fMove, rMove⟩⟩,
  ⟨none, some 11, [(.tmp 0)], ⟨.f fMove, rMove⟩⟩,
  ⟨none, some 12, [(.tmp 11)], ⟨.f fLen, rAny xl_ref01_Put (.f fLen)⟩⟩,
  ⟨none, some 13, [(.tmp 10), (.tmp 12)], ⟨.f (fBin .lss .no), rLss⟩⟩])
 (.cond (.tmp 13)
 .skip
 (.exit 0)))
 (.seq none
 (.block 1
 (.seq none
 (.reg [⟨none, some 8, [(.const (.int .u64 0))], ⟨.f fMove, rMove⟩⟩])
 (.seq (some ([0, 1, 5, 6, 7, 8], []))
 (.seq none
 (.reg [⟨none, some 16, [(.tmp 0)], ⟨.f fMove, rMove⟩⟩,
  ⟨none, some 17, [(.tmp 7)], ⟨.f fMove, rMove⟩⟩,
  ⟨none, some 18, [(.tmp 16), (.tmp 17)], ⟨.f (fIxS 1), rIxS 1⟩⟩,
  ⟨none, some 19, [(.tmp 18)], ⟨.load 1 false, rLoad1⟩⟩,
  ⟨none, some 20, [(.tmp 19), (.const (.int .i64 0))], ⟨.f (fBin .gtr .no), rGtr⟩⟩])
 (.cond (.tmp 20)
 (.reg [⟨none, some 21, [(.tmp 0)], ⟨.f fMove, rMove⟩⟩,
  ⟨none, some 22, [(.tmp 7)], ⟨.f fMove, rMove⟩⟩,
  ⟨none, some 23, [(.tmp 21), (.tmp 22)], ⟨.f (fIxS 1), rIxS 1⟩⟩,
  ⟨none, some 24, [(.tmp 23)], ⟨.load 1 false, rLoad1⟩⟩,
  ⟨none, some 25, [(.tmp 24)], ⟨.f (fConv .u64), rConv .u64⟩⟩,
  ⟨none, some 8, [(.tmp 25)], ⟨.f fMove, rMove⟩⟩])
 .skip))
 (.seq (some ([0, 1, 5, 6, 7, 8], []))
 (.seq none
 (.reg [⟨none, some 26, [(.tmp 1)], ⟨.f fMove, rMove⟩⟩,
  ⟨none, some 27, [(.tmp 7)], ⟨.f fMove, rMove⟩⟩,
  ⟨none, some 28, [(.tmp 26), (.tmp 27)], ⟨.f (fIxS 1), rIxS 1⟩⟩,
  ⟨none, some 29, [(.tmp 28)], ⟨.load 1 false, rLoad1⟩⟩,
  ⟨none, some 30, [(.tmp 29)], ⟨.call .write s_ref01_Power v_ref01_Power, rCall v_ref01_Power⟩⟩,
  ⟨none, some 31, [(.tmp 30), (.const (.int .u64 1))], ⟨.f (fBin .sub .no), rSub⟩⟩,
  ⟨none, some 9, [(.tmp 31)], ⟨.f fMove, rMove⟩⟩])
 (.seq none
 (.reg [⟨none, some 32, [(.tmp 8)], ⟨.f fMove, rMove⟩⟩,
  ⟨none, some 33, [(.tmp 9)], ⟨.f fMove, rMove⟩⟩,
  ⟨none, some 34, [(.tmp 32), (.tmp 33)], ⟨.f (fBin .gtr .no), rGtr⟩⟩])
 (.cond (.tmp 34)
 (.reg [⟨none, some 35, [(.tmp 9)], ⟨.f fMove, rMove⟩⟩,
  ⟨none, some 8, [(.tmp 35)], ⟨.f fMove, rMove⟩⟩])
 .skip)))
 (.seq none
 (.reg [⟨none, some 36, [(.tmp 5)], ⟨.f fMove, rMove⟩⟩,
  ⟨none, some 37, [(.tmp 8)], ⟨.f fMove, rMove⟩⟩,
  ⟨none, some 38, [(.tmp 6)], ⟨.f fMove, rMove⟩⟩,
  ⟨none, some 39, [(.tmp 37), (.tmp 38)], ⟨.f (fBin .mul .no), rMul⟩⟩,
  ⟨none, some 40, [(.tmp 36), (.tmp 39)], ⟨.f (fBin .add .no), rAdd⟩⟩,
  ⟨none, some 5, [(.tmp 40)], ⟨.f fMove, rMove⟩⟩])
 (.reg [⟨none, some 41, [(.tmp 6)], ⟨.f fMove, rMove⟩⟩,
  ⟨none, some 42, [(.tmp 1)], ⟨.f fMove, rMove⟩⟩,
  ⟨none, some 43, [(.tmp 7)], ⟨.f fMove, rMove⟩⟩,
  ⟨none, some 44, [(.tmp 42), (.tmp 43)], ⟨.f (fIxS 1), rIxS 1⟩⟩,
  ⟨none, some 45, [(.tmp 44)], ⟨.load 1 false, rLoad1⟩⟩,
  ⟨none, some 46, [(.tmp 45)], ⟨.call .write s_ref01_Power v_ref01_Power, rCall v_ref01_Power⟩⟩,
  ⟨none, some 47, [(.tmp 41), (.tmp 46)], ⟨.f (fBin .mul .no), rMul⟩⟩,
  ⟨none, some 6, [(.tmp 47)], ⟨.f fMove, rMove⟩⟩]))))))
 (.reg [⟨none, some 14, [(.tmp 7)], ⟨.f fMove, rMove⟩⟩,
  ⟨none, some 15, [(.tmp 14), (.const (.int .i64 1))], ⟨.f (fBin .add .no), rAdd⟩⟩,
  ⟨none, some 7, [(.tmp 15)], ⟨.f fMove, rMove⟩⟩]))))))
 (.seq none
 (.reg [⟨none, some 48, [(.tmp 5)], ⟨.f fMove, rMove⟩⟩,
  ⟨none, some 4, [(.tmp 48)], ⟨.f fMove, rMove⟩⟩])
 .ret))))
noncomputable def v_ref01_Put : EvF := evFn 2 xc_ref01_Put [.t 4]
theorem xt_ref01_Put : toC cx_ref01_Put (bodyOf Try.f61) = some (xc_ref01_Put.map XN.sm) := by kernel_rfl
theorem xr_ref01_Put : toR cx_ref01_Put Try.f61.results.toList = some [.t 4] := by kernel_rfl
theorem xo_ref01_Put : xc_ref01_Put.ok xl_ref01_Put := ⟨⟨rMove_ok, trivial⟩, ⟨⟨rMove_ok, rMove_ok, trivial⟩, ⟨⟨⟨rMove_ok, trivial⟩, ⟨⟨⟨rMove_ok, rMove_ok, rAny_ok (eqv_len), rLss_ok, trivial⟩, ⟨trivial, trivial⟩⟩, ⟨⟨⟨rMove_ok, trivial⟩, ⟨⟨⟨rMove_ok, rMove_ok, rIxS_ok _, rLoad1_ok, rGtr_ok, trivial⟩, ⟨⟨rMove_ok, rMove_ok, rIxS_ok _, rLoad1_ok, rConv_ok _, rMove_ok, trivial⟩, trivial⟩⟩, ⟨⟨⟨rMove_ok, rMove_ok, rIxS_ok _, rLoad1_ok, rCall_ok ve_ref01_Power, rSub_ok, rMove_ok, trivial⟩, ⟨⟨rMove_ok, rMove_ok, rGtr_ok, trivial⟩, ⟨⟨rMove_ok, rMove_ok, trivial⟩, trivial⟩⟩⟩, ⟨⟨rMove_ok, rMove_ok, rMove_ok, rMul_ok, rAdd_ok, rMove_ok, trivial⟩, ⟨rMove_ok, rMove_ok, rMove_ok, rIxS_ok _, rLoad1_ok, rCall_ok ve_ref01_Power, rMul_ok, rMove_ok, trivial⟩⟩⟩⟩⟩, ⟨rMove_ok, rAdd_ok, rMove_ok, trivial⟩⟩⟩⟩, ⟨⟨rMove_ok, rMove_ok, trivial⟩, trivial⟩⟩⟩⟩
theorem ve_ref01_Put : EvOk s_ref01_Put v_ref01_Put := EvOk.of (evFn_sound (C := cx_ref01_Put) xt_ref01_Put xr_ref01_Put xo_ref01_Put) q_ref01_Put

attribute [irreducible] w_ref01_Put_j1b w_ref01_Put_j1 w_ref01_Put_j3b w_ref01_Put_j3 w_ref01_Put_j2b w_ref01_Put_j2 w_ref01_Put_l4b w_ref01_Put_l4 w_ref01_Put s_ref01_Put

/-! ### /ref01.Slot -/
def w_ref01_Slot (a0 : Value) (K : Value → Mem → Prop) (σ : Mem) : Prop :=
xC (gBox 4 [a0] []) fun c1 =>
xF fMove [(.int .u64 0)] fun v2 =>
xF (fFld 0) [(locP 1)] fun v3 =>
xO (gLoad 1 false [v3] c1) fun v4 =>
xF (fFld 1) [(locP 1)] fun v5 =>
xO (gLoad 1 false [v5] c1) fun v6 =>
xF (fFld 2) [(locP 1)] fun v7 =>
xO (gLoad 1 false [v7] c1) fun v8 =>
xF (fFld 3) [(locP 1)] fun v9 =>
xO (gLoad 1 false [v9] c1) fun v10 =>
hBuildS 1 4 [(.int .i64 0)] [0, 1, 2, 3] [v4, v6, v8, v10] (fun v11 σ =>
hBuildS 1 4 [(.int .i64 0)] [0, 1, 2, 3] [(.int .i64 3), (.int .i64 20), (.int .i64 16), (.int .i64 22)] (fun v12 σ =>
s_ref01_Put [v11, v12] (fun v13 σ =>
xF fMove [v13] fun v2 =>
K v2 σ) σ) σ) σ

def s_ref01_Slot : Spec := fun args K σ => match args with
  | [a0] => w_ref01_Slot a0 K σ
  | _ => False

noncomputable def cx_ref01_Slot : Cx := { P := Try.prog, T := [(61, .write, s_ref01_Put)], loc := [(1, 1), (3, 1), (5, 1), (7, 1), (9, 1)], eqt := [], n := 14, keep := [] }
theorem q_ref01_Slot : FnS cx_ref01_Slot Try.f26 (bodyOf Try.f26) 1 = s_ref01_Slot := by
  funext args K σ
  rcases args with _ | ⟨a0, _ | ⟨b, r⟩⟩ <;> kernel_rfl
theorem e_ref01_Slot : Entry Try.prog 26 .write s_ref01_Slot :=
  entry (C := cx_ref01_Slot) (TOk.cons e_ref01_Put TOk.nil) mixedOk Try.func26 (by kernel_rfl) (by kernel_rfl) (by kernel_rfl) q_ref01_Slot

def xl_ref01_Slot : List (Nat × Nat) := [(1, 1), (3, 1), (5, 1), (7, 1), (9, 1)]
noncomputable def xc_ref01_Slot : XC XN :=
(.seq none
 (.reg [⟨none, some 1, [(.tmp 0)], ⟨.lb 1 4, rAny xl_ref01_Slot (.lb 1 4)⟩⟩,
  ⟨none, some 2, [(.const (.int .u64 0))], ⟨.f fMove, rMove⟩⟩])
 (.seq none
 (.reg [⟨none, some 3, [(.tmp 1)], ⟨.f (fFld 0), rFld 0⟩⟩,
  ⟨none, some 4, [(.tmp 3)], ⟨.lr 1 1 false, rLr1 1⟩⟩,
  ⟨none, some 5, [(.tmp 1)], ⟨.f (fFld 1), rFld 1⟩⟩,
  ⟨none, some 6, [(.tmp 5)], ⟨.lr 1 1 false, rLr1 1⟩⟩,
  ⟨none, some 7, [(.tmp 1)], ⟨.f (fFld 2), rFld 2⟩⟩,
  ⟨none, some 8, [(.tmp 7)], ⟨.lr 1 1 false, rLr1 1⟩⟩,
  ⟨none, some 9, [(.tmp 1)], ⟨.f (fFld 3), rFld 3⟩⟩,
  ⟨none, some 10, [(.tmp 9)], ⟨.lr 1 1 false, rLr1 1⟩⟩,
  ⟨none, some 11, [(.tmp 4), (.tmp 6), (.tmp 8), (.tmp 10)], ⟨.bs 1 4 [(.int .i64 0)] [0, 1, 2, 3], rAny xl_ref01_Slot (.bs 1 4 [(.int .i64 0)] [0, 1, 2, 3])⟩⟩,
  ⟨none, some 12, [(.const (.int .i64 3)), (.const (.int .i64 20)), (.const (.int .i64 16)), (.const (.int .i64 22))], ⟨.bs 1 4 [(.int .i64 0)] [0, 1, 2, 3], rAny xl_ref01_Slot (.bs 1 4 [(.int .i64 0)] [0, 1, 2, 3])⟩⟩,
  ⟨none, some 13, [(.tmp 11), (.tmp 12)], ⟨.call .write s_ref01_Put v_ref01_Put, rCall v_ref01_Put⟩⟩,
  ⟨none, some 2, [(.tmp 13)], ⟨.f fMove, rMove⟩⟩])
 .ret))
noncomputable def v_ref01_Slot : EvF := evFn 1 xc_ref01_Slot [.t 2]
theorem xt_ref01_Slot : toC cx_ref01_Slot (bodyOf Try.f26) = some (xc_ref01_Slot.map XN.sm) := by kernel_rfl
theorem xr_ref01_Slot : toR cx_ref01_Slot Try.f26.results.toList = some [.t 2] := by kernel_rfl
theorem xo_ref01_Slot : xc_ref01_Slot.ok xl_ref01_Slot := ⟨⟨rAny_ok (trivial), rMove_ok, trivial⟩, ⟨⟨rFld_ok _, rLr1_ok _, rFld_ok _, rLr1_ok _, rFld_ok _, rLr1_ok _, rFld_ok _, rLr1_ok _, rAny_ok (trivial), rAny_ok (trivial), rCall_ok ve_ref01_Put, rMove_ok, trivial⟩, trivial⟩⟩
theorem ve_ref01_Slot : EvOk s_ref01_Slot v_ref01_Slot := EvOk.of (evFn_sound (C := cx_ref01_Slot) xt_ref01_Slot xr_ref01_Slot xo_ref01_Slot) q_ref01_Slot

attribute [irreducible] w_ref01_Slot s_ref01_Slot

/-! ### /law04.LayoutFresh -/
def w_law04_LayoutFresh_j2b (K : Value → Mem → Prop) (c3 : List Value) (σ : Mem) : Prop :=
xO (gLoad 7 true [(locP 3)] c3) fun v70 =>
s_ref04_Check [v70] (fun v71 σ =>
xIf v71
 (xF fMove [(.bool true)] fun v4 =>
K v4 σ)
 (xO (gLoad 7 true [(locP 3)] c3) fun v73 =>
s_layout_Fresh [v73] (fun v74 σ =>
xF fMove [v74] fun v72 =>
xF (fExt 0) [v72] fun v75 =>
xF (fExt 1) [v72] fun v76 =>
xF fMove [v75] fun v13 =>
xF fMove [v76] fun v14 =>
xF fMove [v13] fun v77 =>
xF (fBin .eql .ptr) [v77, (.pointer none)] fun v78 =>
xF fMove [v78] fun v79 =>
xIf v79
 (xF fMove [v14] fun v80 =>
xF (fBin .eql .no) [v80, (.int .i64 1)] fun v81 =>
xF fPick [(.bool true), v81, (.bool false)] fun v82 =>
xF fMove [v82] fun v4 =>
K v4 σ)
 (xF fPick [(.bool false), undef, (.bool false)] fun v82 =>
xF fMove [v82] fun v4 =>
K v4 σ)) σ)) σ

def w_law04_LayoutFresh_j2 (K : Value → Mem → Prop) (ts : List Value) (ls : List (List Value)) (σ : Mem) : Prop := w_law04_LayoutFresh_j2b K (ls.getD 0 []) σ

def w_law04_LayoutFresh_j3b (K : Value → Mem → Prop) (J2 : List Value → List (List Value) → Mem → Prop) (R1 : List Value → List (List Value) → Mem → Prop) (v6 v8 v12 : Value) (c3 c5 : List Value) (σ : Mem) : Prop :=
xF fMove [v6] fun v65 =>
xF fMove [v8] fun v66 =>
s_mem_Mem_Peek [v65, v66] (fun v67 σ =>
xF fMove [v12] fun v68 =>
xF (fBin .neq .no) [v67, v68] fun v69 =>
xIf v69
 (xF fMove [(.bool false)] fun v4 =>
K v4 σ)
 (xF fMove [v8] fun v39 =>
xF (fBin .add .no) [v39, (.int .i64 1)] fun v40 =>
xF fMove [v40] fun v8 =>
R1 [v6, v8] [c3, c5] σ)) σ

def w_law04_LayoutFresh_j3 (K : Value → Mem → Prop) (J2 : List Value → List (List Value) → Mem → Prop) (R1 : List Value → List (List Value) → Mem → Prop) (ts : List Value) (ls : List (List Value)) (σ : Mem) : Prop := w_law04_LayoutFresh_j3b K J2 R1 (ts.getD 0 poison) (ts.getD 1 poison) (ts.getD 2 poison) (ls.getD 0 []) (ls.getD 1 []) σ

def w_law04_LayoutFresh_l7b (K : Value → Mem → Prop) (J2 : List Value → List (List Value) → Mem → Prop) (R1 : List Value → List (List Value) → Mem → Prop) (v6 v8 : Value) (c3 c5 : List Value) (σ : Mem) : Prop :=
xF fMove [v8] fun v35 =>
xF fMove [v6] fun v36 =>
s_mem_Mem_Len [v36] (fun v37 σ =>
xF (fBin .lss .no) [v35, v37] fun v38 =>
xIf v38
 (xO (gLoad 7 true [(locP 5)] c5) fun v42 =>
xF fMove [v8] fun v43 =>
s_ref04_Kind [v42, v43] (fun v44 σ =>
xF fMove [v44] fun v41 =>
xF (fExt 0) [v41] fun v45 =>
xF (fExt 1) [v41] fun v46 =>
xF (fExt 2) [v41] fun v47 =>
xF fMove [v45] fun v9 =>
xF fMove [v46] fun v10 =>
xF fMove [v47] fun v11 =>
xF fMove [(.int .u64 0)] fun v12 =>
xJoin (w_law04_LayoutFresh_j3 K J2 R1) fun J3 =>
xF fMove [v9] fun v48 =>
xF (fBin .eql .no) [v48, (.int .i64 1)] fun v50 =>
xF fMove [v50] fun v49 =>
xIf v49
 (xF fMove [(.int .u64 1)] fun v12 =>
J3 [v6, v8, v12] [c3, c5] σ)
 (xF (fBin .eql .no) [v48, (.int .i64 4)] fun v52 =>
xF fMove [v52] fun v51 =>
xIf v51
 (xF (fBuild [(0, 1), (1, 1), (2, 1), (3, 1)] [(.int .i64 0), (.int .i64 0), (.int .i64 0), (.int .i64 0)] [2]) [(.int .i64 1)] fun v53 =>
s_ref01_Slot [v53] (fun v54 σ =>
xF fMove [v54] fun v12 =>
J3 [v6, v8, v12] [c3, c5] σ) σ)
 (xF (fBin .eql .no) [v48, (.int .i64 5)] fun v56 =>
xF fMove [v56] fun v55 =>
xIf v55
 (xF fMove [v10] fun v57 =>
xF (fBin .add .no) [v57, (.int .i64 2)] fun v58 =>
xF (fConv .u64) [v58] fun v59 =>
xF fMove [v59] fun v12 =>
xF fMove [v10] fun v60 =>
xF (fFld 1) [(locP 5)] fun v61 =>
xO (gLoad 1 false [v61] c5) fun v62 =>
xF (fBin .sub .no) [v62, (.int .i64 1)] fun v63 =>
xF (fBin .eql .no) [v60, v63] fun v64 =>
xIf v64
 (xF fMove [(.int .u64 0)] fun v12 =>
J3 [v6, v8, v12] [c3, c5] σ)
 (J3 [v6, v8, v12] [c3, c5] σ))
 (J3 [v6, v8, v12] [c3, c5] σ)))) σ)
 (J2 [] [c3] σ)) σ

def w_law04_LayoutFresh_l7 (K : Value → Mem → Prop) (J2 : List Value → List (List Value) → Mem → Prop) (R1 : List Value → List (List Value) → Mem → Prop) (ts : List Value) (ls : List (List Value)) (σ : Mem) : Prop := w_law04_LayoutFresh_l7b K J2 R1 (ts.getD 0 poison) (ts.getD 1 poison) (ls.getD 0 []) (ls.getD 1 []) σ

def w_law04_LayoutFresh_j1b (K : Value → Mem → Prop) (v6 v34 : Value) (c3 c5 : List Value) (σ : Mem) : Prop :=
xIf v34
 (xF fMove [(.bool false)] fun v4 =>
K v4 σ)
 (xJoin (w_law04_LayoutFresh_j2 K) fun J2 =>
xF fMove [(.int .i64 0)] fun v8 =>
xLoop (w_law04_LayoutFresh_l7 K J2) [v6, v8] [c3, c5] σ)

def w_law04_LayoutFresh_j1 (K : Value → Mem → Prop) (ts : List Value) (ls : List (List Value)) (σ : Mem) : Prop := w_law04_LayoutFresh_j1b K (ts.getD 0 poison) (ts.getD 1 poison) (ls.getD 0 []) (ls.getD 1 []) σ

def w_law04_LayoutFresh (a0 a1 : Value) (K : Value → Mem → Prop) (σ : Mem) : Prop :=
xC (gBox 7 [a0] []) fun c2 =>
xC (gBox 7 [a1] []) fun c3 =>
xF fMove [(.bool false)] fun v4 =>
xO (gLoad 7 true [(locP 2)] c2) fun v15 =>
s_law04_Config [v15] (fun v16 σ =>
xC (gStore 7 [(locP 5), v16] [(.int .i64 0), (.int .i64 0), (.int .i64 0), (.int .i64 0), (.int .i64 0), (.int .i64 0), (.int .i64 0)]) fun c5 =>
xO (gLoad 7 true [(locP 5)] c5) fun v18 =>
s_layout_Fresh [v18] (fun v19 σ =>
xF fMove [v19] fun v17 =>
xF (fExt 0) [v17] fun v20 =>
xF (fExt 1) [v17] fun v21 =>
xF fMove [v20] fun v6 =>
xF fMove [v21] fun v7 =>
xJoin (w_law04_LayoutFresh_j1 K) fun J1 =>
s_law04_awake [] (fun v22 σ =>
xF (fUn .not) [v22] fun v23 =>
xF fMove [v23] fun v24 =>
xIf v24
 (xF fPick [(.bool true), (.bool true), undef] fun v27 =>
xF fMove [v27] fun v28 =>
xIf v28
 (xF fPick [(.bool true), (.bool true), undef] fun v34 =>
J1 [v6, v34] [c3, c5] σ)
 (xF fMove [v6] fun v29 =>
s_mem_Mem_Len [v29] (fun v30 σ =>
xO (gLoad 7 true [(locP 5)] c5) fun v31 =>
s_layout_Len [v31] (fun v32 σ =>
xF (fBin .neq .no) [v30, v32] fun v33 =>
xF fPick [(.bool false), (.bool true), v33] fun v34 =>
J1 [v6, v34] [c3, c5] σ) σ) σ))
 (xF fMove [v7] fun v25 =>
xF (fBin .neq .no) [v25, (.int .i64 0)] fun v26 =>
xF fPick [(.bool false), (.bool true), v26] fun v27 =>
xF fMove [v27] fun v28 =>
xIf v28
 (xF fPick [(.bool true), (.bool true), undef] fun v34 =>
J1 [v6, v34] [c3, c5] σ)
 (xF fMove [v6] fun v29 =>
s_mem_Mem_Len [v29] (fun v30 σ =>
xO (gLoad 7 true [(locP 5)] c5) fun v31 =>
s_layout_Len [v31] (fun v32 σ =>
xF (fBin .neq .no) [v30, v32] fun v33 =>
xF fPick [(.bool false), (.bool true), v33] fun v34 =>
J1 [v6, v34] [c3, c5] σ) σ) σ))) σ) σ) σ

def s_law04_LayoutFresh : Spec := fun args K σ => match args with
  | [a0, a1] => w_law04_LayoutFresh a0 a1 K σ
  | _ => False

noncomputable def cx_law04_LayoutFresh : Cx := { P := Try.prog, T := [(21, .none, s_law04_Config), (22, .write, s_layout_Fresh), (14, .none, s_law04_awake), (23, .read, s_mem_Mem_Len), (24, .none, s_layout_Len), (25, .write, s_ref04_Kind), (26, .write, s_ref01_Slot), (27, .read, s_mem_Mem_Peek), (16, .write, s_ref04_Check)], loc := [(2, 2), (3, 3), (5, 5), (61, 5)], eqt := [(29, .ptr)], n := 83, keep := [(7, [6, 8], [3, 5]), (1000005, [6, 34], [3, 5]), (1000020, [6, 8, 12], [3, 5]), (1000022, [], [3])] }
theorem q_law04_LayoutFresh : FnS cx_law04_LayoutFresh Try.f5 (bodyOf Try.f5) 2 = s_law04_LayoutFresh := by
  funext args K σ
  rcases args with _ | ⟨a0, _ | ⟨a1, _ | ⟨b, r⟩⟩⟩ <;> kernel_rfl
theorem e_law04_LayoutFresh : Entry Try.prog 5 .write s_law04_LayoutFresh :=
  entry (C := cx_law04_LayoutFresh) (TOk.cons e_law04_Config (TOk.cons e_layout_Fresh (TOk.cons e_law04_awake (TOk.cons e_mem_Mem_Len (TOk.cons e_layout_Len (TOk.cons e_ref04_Kind (TOk.cons e_ref01_Slot (TOk.cons e_mem_Mem_Peek (TOk.cons e_ref04_Check TOk.nil))))))))) mixedOk Try.func5 (by kernel_rfl) (by kernel_rfl) (by kernel_rfl) q_law04_LayoutFresh


attribute [irreducible] w_law04_LayoutFresh_j2b w_law04_LayoutFresh_j2 w_law04_LayoutFresh_j3b w_law04_LayoutFresh_j3 w_law04_LayoutFresh_l7b w_law04_LayoutFresh_l7 w_law04_LayoutFresh_j1b w_law04_LayoutFresh_j1 w_law04_LayoutFresh s_law04_LayoutFresh

/-! ### /layout.Epoch -/
def w_layout_Epoch (K : Value → Mem → Prop) (σ : Mem) : Prop :=
xF fMove [(.int .i64 0)] fun v0 =>
xF fMove [(.int .i64 0)] fun v0 =>
K v0 σ

def s_layout_Epoch : Spec := fun args K σ => match args with
  | [] => w_layout_Epoch  K σ
  | _ => False

noncomputable def cx_layout_Epoch : Cx := { P := Try.prog, T := [], loc := [], eqt := [], n := 1, keep := [] }
theorem q_layout_Epoch : FnS cx_layout_Epoch Try.f28 (bodyOf Try.f28) 0 = s_layout_Epoch := by
  funext args K σ
  rcases args with _ | ⟨b, r⟩ <;> kernel_rfl
theorem e_layout_Epoch : Entry Try.prog 28 .none s_layout_Epoch :=
  entry (C := cx_layout_Epoch) TOk.nil mixedOk Try.func28 (by kernel_rfl) (by kernel_rfl) (by kernel_rfl) q_layout_Epoch


attribute [irreducible] w_layout_Epoch s_layout_Epoch

/-! ### /layout.Open -/
def w_layout_Open (a0 : Value) (K : Value → Mem → Prop) (σ : Mem) : Prop :=
xF fMove [(.int .i64 0)] fun v2 =>
xF fMove [a0] fun v3 =>
xF (fBin .add .no) [(.int .i64 2), v3] fun v4 =>
xF fMove [v4] fun v2 =>
K v2 σ

def s_layout_Open : Spec := fun args K σ => match args with
  | [a0] => w_layout_Open a0 K σ
  | _ => False

noncomputable def cx_layout_Open : Cx := { P := Try.prog, T := [], loc := [], eqt := [], n := 5, keep := [] }
theorem q_layout_Open : FnS cx_layout_Open Try.f30 (bodyOf Try.f30) 1 = s_layout_Open := by
  funext args K σ
  rcases args with _ | ⟨a0, _ | ⟨b, r⟩⟩ <;> kernel_rfl
theorem e_layout_Open : Entry Try.prog 30 .none s_layout_Open :=
  entry (C := cx_layout_Open) TOk.nil mixedOk Try.func30 (by kernel_rfl) (by kernel_rfl) (by kernel_rfl) q_layout_Open


attribute [irreducible] w_layout_Open s_layout_Open

/-! ### /layout.Pin -/
def w_layout_Pin (a0 : Value) (K : Value → Mem → Prop) (σ : Mem) : Prop :=
xF fMove [(.int .i64 0)] fun v2 =>
xF fMove [a0] fun v3 =>
xF (fBin .add .no) [(.int .i64 6), v3] fun v4 =>
xF fMove [v4] fun v2 =>
K v2 σ

def s_layout_Pin : Spec := fun args K σ => match args with
  | [a0] => w_layout_Pin a0 K σ
  | _ => False

noncomputable def cx_layout_Pin : Cx := { P := Try.prog, T := [], loc := [], eqt := [], n := 5, keep := [] }
theorem q_layout_Pin : FnS cx_layout_Pin Try.f31 (bodyOf Try.f31) 1 = s_layout_Pin := by
  funext args K σ
  rcases args with _ | ⟨a0, _ | ⟨b, r⟩⟩ <;> kernel_rfl
theorem e_layout_Pin : Entry Try.prog 31 .none s_layout_Pin :=
  entry (C := cx_layout_Pin) TOk.nil mixedOk Try.func31 (by kernel_rfl) (by kernel_rfl) (by kernel_rfl) q_layout_Pin


attribute [irreducible] w_layout_Pin s_layout_Pin

/-! ### /layout.Chunk -/
def w_layout_Chunk (a0 a1 : Value) (K : Value → Mem → Prop) (σ : Mem) : Prop :=
xC (gBox 7 [a0] []) fun c2 =>
xF fMove [(.int .i64 0)] fun v4 =>
xF (fFld 0) [(locP 2)] fun v5 =>
xO (gLoad 1 false [v5] c2) fun v6 =>
xF (fBin .add .no) [(.int .i64 6), v6] fun v7 =>
xF (fFld 1) [(locP 2)] fun v8 =>
xO (gLoad 1 false [v8] c2) fun v9 =>
xF (fBin .mul .no) [(.int .i64 2), v9] fun v10 =>
xF (fBin .add .no) [v7, v10] fun v11 =>
xF fMove [a1] fun v12 =>
xF (fBin .mul .no) [(.int .i64 3), v12] fun v13 =>
xF (fBin .add .no) [v11, v13] fun v14 =>
xF fMove [v14] fun v4 =>
K v4 σ

def s_layout_Chunk : Spec := fun args K σ => match args with
  | [a0, a1] => w_layout_Chunk a0 a1 K σ
  | _ => False

noncomputable def cx_layout_Chunk : Cx := { P := Try.prog, T := [], loc := [(2, 2), (5, 2), (8, 2)], eqt := [], n := 15, keep := [] }
theorem q_layout_Chunk : FnS cx_layout_Chunk Try.f33 (bodyOf Try.f33) 2 = s_layout_Chunk := by
  funext args K σ
  rcases args with _ | ⟨a0, _ | ⟨a1, _ | ⟨b, r⟩⟩⟩ <;> kernel_rfl
theorem e_layout_Chunk : Entry Try.prog 33 .none s_layout_Chunk :=
  entry (C := cx_layout_Chunk) TOk.nil mixedOk Try.func33 (by kernel_rfl) (by kernel_rfl) (by kernel_rfl) q_layout_Chunk


attribute [irreducible] w_layout_Chunk s_layout_Chunk

/-! ### /law04.LayoutPlaces -/
def w_law04_LayoutPlaces_j2b (K : Value → Mem → Prop) (v4 : Value) (c3 : List Value) (σ : Mem) : Prop :=
xO (gLoad 7 true [(locP 3)] c3) fun v93 =>
xF fMove [v4] fun v94 =>
s_ref04_Kind [v93, v94] (fun v95 σ =>
xF fMove [v95] fun v92 =>
xF (fExt 0) [v92] fun v96 =>
xF (fExt 1) [v92] fun v97 =>
xF (fExt 2) [v92] fun v98 =>
xF fMove [v96] fun v10 =>
xF fMove [v97] fun v11 =>
xF fMove [v98] fun v12 =>
xF fMove [v10] fun v99 =>
xF (fBin .eql .no) [v99, (.int .i64 (-1))] fun v100 =>
xF fMove [v100] fun v2 =>
K v2 σ) σ

def w_law04_LayoutPlaces_j2 (K : Value → Mem → Prop) (ts : List Value) (ls : List (List Value)) (σ : Mem) : Prop := w_law04_LayoutPlaces_j2b K (ts.getD 0 poison) (ls.getD 0 []) σ

def w_law04_LayoutPlaces_j3b (K : Value → Mem → Prop) (J2 : List Value → List (List Value) → Mem → Prop) (R1 : List Value → List (List Value) → Mem → Prop) (v4 v5 v9 : Value) (c3 : List Value) (σ : Mem) : Prop :=
xF fMove [v9] fun v89 =>
xF fMove [v5] fun v90 =>
xF (fBin .neq .no) [v89, v90] fun v91 =>
xIf v91
 (xF fMove [(.bool false)] fun v2 =>
K v2 σ)
 (xF fMove [v5] fun v30 =>
xF (fBin .add .no) [v30, (.int .i64 1)] fun v31 =>
xF fMove [v31] fun v5 =>
R1 [v4, v5] [c3] σ)

def w_law04_LayoutPlaces_j3 (K : Value → Mem → Prop) (J2 : List Value → List (List Value) → Mem → Prop) (R1 : List Value → List (List Value) → Mem → Prop) (ts : List Value) (ls : List (List Value)) (σ : Mem) : Prop := w_law04_LayoutPlaces_j3b K J2 R1 (ts.getD 0 poison) (ts.getD 1 poison) (ts.getD 2 poison) (ls.getD 0 []) σ

def w_law04_LayoutPlaces_l7b (K : Value → Mem → Prop) (J2 : List Value → List (List Value) → Mem → Prop) (R1 : List Value → List (List Value) → Mem → Prop) (v4 v5 : Value) (c3 : List Value) (σ : Mem) : Prop :=
xF fMove [v5] fun v27 =>
xF fMove [v4] fun v28 =>
xF (fBin .lss .no) [v27, v28] fun v29 =>
xIf v29
 (xO (gLoad 7 true [(locP 3)] c3) fun v33 =>
xF fMove [v5] fun v34 =>
s_ref04_Kind [v33, v34] (fun v35 σ =>
xF fMove [v35] fun v32 =>
xF (fExt 0) [v32] fun v36 =>
xF (fExt 1) [v32] fun v37 =>
xF (fExt 2) [v32] fun v38 =>
xF fMove [v36] fun v6 =>
xF fMove [v37] fun v7 =>
xF fMove [v38] fun v8 =>
xF fMove [(.int .i64 (-1))] fun v9 =>
xJoin (w_law04_LayoutPlaces_j3 K J2 R1) fun J3 =>
xF fMove [v6] fun v39 =>
xF (fBin .eql .no) [v39, (.int .i64 0)] fun v41 =>
xF fMove [v41] fun v40 =>
xIf v40
 (s_layout_Epoch [] (fun v42 σ =>
xF fMove [v42] fun v9 =>
J3 [v4, v5, v9] [c3] σ) σ)
 (xF (fBin .eql .no) [v39, (.int .i64 1)] fun v44 =>
xF fMove [v44] fun v43 =>
xIf v43
 (s_layout_Top [] (fun v45 σ =>
xF fMove [v45] fun v9 =>
J3 [v4, v5, v9] [c3] σ) σ)
 (xF (fBin .eql .no) [v39, (.int .i64 2)] fun v47 =>
xF fMove [v47] fun v46 =>
xIf v46
 (xF fMove [v7] fun v48 =>
s_layout_Open [v48] (fun v49 σ =>
xF fMove [v49] fun v9 =>
J3 [v4, v5, v9] [c3] σ) σ)
 (xF (fBin .eql .no) [v39, (.int .i64 3)] fun v51 =>
xF fMove [v51] fun v50 =>
xIf v50
 (xF fMove [v7] fun v52 =>
s_layout_Pin [v52] (fun v53 σ =>
xF fMove [v53] fun v9 =>
J3 [v4, v5, v9] [c3] σ) σ)
 (xF (fBin .eql .no) [v39, (.int .i64 4)] fun v55 =>
xF fMove [v55] fun v54 =>
xIf v54
 (xO (gLoad 7 true [(locP 3)] c3) fun v56 =>
xF fMove [v7] fun v57 =>
s_layout_Slot [v56, v57] (fun v58 σ =>
xF fMove [v58] fun v9 =>
J3 [v4, v5, v9] [c3] σ) σ)
 (xF (fBin .eql .no) [v39, (.int .i64 5)] fun v60 =>
xF fMove [v60] fun v59 =>
xIf v59
 (xO (gLoad 7 true [(locP 3)] c3) fun v61 =>
xF fMove [v7] fun v62 =>
s_layout_Slot [v61, v62] (fun v63 σ =>
xF (fBin .add .no) [v63, (.int .i64 1)] fun v64 =>
xF fMove [v64] fun v9 =>
J3 [v4, v5, v9] [c3] σ) σ)
 (xF (fBin .eql .no) [v39, (.int .i64 6)] fun v66 =>
xF fMove [v66] fun v65 =>
xIf v65
 (xO (gLoad 7 true [(locP 3)] c3) fun v67 =>
xF fMove [v7] fun v68 =>
s_layout_Chunk [v67, v68] (fun v69 σ =>
xF fMove [v69] fun v9 =>
J3 [v4, v5, v9] [c3] σ) σ)
 (xF (fBin .eql .no) [v39, (.int .i64 7)] fun v71 =>
xF fMove [v71] fun v70 =>
xIf v70
 (xO (gLoad 7 true [(locP 3)] c3) fun v72 =>
xF fMove [v7] fun v73 =>
s_layout_Chunk [v72, v73] (fun v74 σ =>
xF (fBin .add .no) [v74, (.int .i64 1)] fun v75 =>
xF fMove [v75] fun v9 =>
J3 [v4, v5, v9] [c3] σ) σ)
 (xF (fBin .eql .no) [v39, (.int .i64 8)] fun v77 =>
xF fMove [v77] fun v76 =>
xIf v76
 (xO (gLoad 7 true [(locP 3)] c3) fun v78 =>
xF fMove [v7] fun v79 =>
s_layout_Chunk [v78, v79] (fun v80 σ =>
xF (fBin .add .no) [v80, (.int .i64 2)] fun v81 =>
xF fMove [v81] fun v9 =>
J3 [v4, v5, v9] [c3] σ) σ)
 (xF (fBin .eql .no) [v39, (.int .i64 9)] fun v83 =>
xF fMove [v83] fun v82 =>
xIf v82
 (xO (gLoad 7 true [(locP 3)] c3) fun v84 =>
xF fMove [v7] fun v85 =>
s_layout_Base [v84, v85] (fun v86 σ =>
xF fMove [v8] fun v87 =>
xF (fBin .add .no) [v86, v87] fun v88 =>
xF fMove [v88] fun v9 =>
J3 [v4, v5, v9] [c3] σ) σ)
 (J3 [v4, v5, v9] [c3] σ))))))))))) σ)
 (J2 [v4] [c3] σ)

def w_law04_LayoutPlaces_l7 (K : Value → Mem → Prop) (J2 : List Value → List (List Value) → Mem → Prop) (R1 : List Value → List (List Value) → Mem → Prop) (ts : List Value) (ls : List (List Value)) (σ : Mem) : Prop := w_law04_LayoutPlaces_l7b K J2 R1 (ts.getD 0 poison) (ts.getD 1 poison) (ls.getD 0 []) σ

def w_law04_LayoutPlaces_j1b (K : Value → Mem → Prop) (v4 v26 : Value) (c3 : List Value) (σ : Mem) : Prop :=
xIf v26
 (xF fMove [(.bool false)] fun v2 =>
K v2 σ)
 (xJoin (w_law04_LayoutPlaces_j2 K) fun J2 =>
xF fMove [(.int .i64 0)] fun v5 =>
xLoop (w_law04_LayoutPlaces_l7 K J2) [v4, v5] [c3] σ)

def w_law04_LayoutPlaces_j1 (K : Value → Mem → Prop) (ts : List Value) (ls : List (List Value)) (σ : Mem) : Prop := w_law04_LayoutPlaces_j1b K (ts.getD 0 poison) (ts.getD 1 poison) (ls.getD 0 []) σ

def w_law04_LayoutPlaces (a0 : Value) (K : Value → Mem → Prop) (σ : Mem) : Prop :=
xC (gBox 7 [a0] []) fun c1 =>
xF fMove [(.bool false)] fun v2 =>
xO (gLoad 7 true [(locP 1)] c1) fun v13 =>
s_law04_Config [v13] (fun v14 σ =>
xC (gStore 7 [(locP 3), v14] [(.int .i64 0), (.int .i64 0), (.int .i64 0), (.int .i64 0), (.int .i64 0), (.int .i64 0), (.int .i64 0)]) fun c3 =>
xO (gLoad 7 true [(locP 3)] c3) fun v15 =>
s_layout_Len [v15] (fun v16 σ =>
xF fMove [v16] fun v4 =>
xJoin (w_law04_LayoutPlaces_j1 K) fun J1 =>
s_law04_awake [] (fun v17 σ =>
xF (fUn .not) [v17] fun v18 =>
xF fMove [v18] fun v19 =>
xIf v19
 (xF fPick [(.bool true), (.bool true), undef] fun v22 =>
xF fMove [v22] fun v23 =>
xIf v23
 (xF fPick [(.bool true), (.bool true), undef] fun v26 =>
J1 [v4, v26] [c3] σ)
 (xF fMove [v4] fun v24 =>
xF (fBin .gtr .no) [v24, (.int .i64 4000)] fun v25 =>
xF fPick [(.bool false), (.bool true), v25] fun v26 =>
J1 [v4, v26] [c3] σ))
 (xF fMove [v4] fun v20 =>
xF (fBin .lss .no) [v20, (.int .i64 1)] fun v21 =>
xF fPick [(.bool false), (.bool true), v21] fun v22 =>
xF fMove [v22] fun v23 =>
xIf v23
 (xF fPick [(.bool true), (.bool true), undef] fun v26 =>
J1 [v4, v26] [c3] σ)
 (xF fMove [v4] fun v24 =>
xF (fBin .gtr .no) [v24, (.int .i64 4000)] fun v25 =>
xF fPick [(.bool false), (.bool true), v25] fun v26 =>
J1 [v4, v26] [c3] σ))) σ) σ) σ

def s_law04_LayoutPlaces : Spec := fun args K σ => match args with
  | [a0] => w_law04_LayoutPlaces a0 K σ
  | _ => False

noncomputable def cx_law04_LayoutPlaces : Cx := { P := Try.prog, T := [(21, .none, s_law04_Config), (24, .none, s_layout_Len), (14, .none, s_law04_awake), (25, .write, s_ref04_Kind), (28, .none, s_layout_Epoch), (29, .none, s_layout_Top), (30, .none, s_layout_Open), (31, .none, s_layout_Pin), (32, .none, s_layout_Slot), (33, .none, s_layout_Chunk), (34, .none, s_layout_Base)], loc := [(1, 1), (3, 3)], eqt := [], n := 101, keep := [(7, [4, 5], [3]), (1000005, [4, 26], [3]), (1000032, [4, 5, 9], [3]), (1000034, [4], [3])] }
theorem q_law04_LayoutPlaces : FnS cx_law04_LayoutPlaces Try.f6 (bodyOf Try.f6) 1 = s_law04_LayoutPlaces := by
  funext args K σ
  rcases args with _ | ⟨a0, _ | ⟨b, r⟩⟩ <;> kernel_rfl
theorem e_law04_LayoutPlaces : Entry Try.prog 6 .write s_law04_LayoutPlaces :=
  entry (C := cx_law04_LayoutPlaces) (TOk.cons e_law04_Config (TOk.cons e_layout_Len (TOk.cons e_law04_awake (TOk.cons e_ref04_Kind (TOk.cons e_layout_Epoch (TOk.cons e_layout_Top (TOk.cons e_layout_Open (TOk.cons e_layout_Pin (TOk.cons e_layout_Slot (TOk.cons e_layout_Chunk (TOk.cons e_layout_Base TOk.nil))))))))))) mixedOk Try.func6 (by kernel_rfl) (by kernel_rfl) (by kernel_rfl) q_law04_LayoutPlaces


attribute [irreducible] w_law04_LayoutPlaces_j2b w_law04_LayoutPlaces_j2 w_law04_LayoutPlaces_j3b w_law04_LayoutPlaces_j3 w_law04_LayoutPlaces_l7b w_law04_LayoutPlaces_l7 w_law04_LayoutPlaces_j1b w_law04_LayoutPlaces_j1 w_law04_LayoutPlaces s_law04_LayoutPlaces

/-! ### /layout.Of -/
def w_layout_Of_j1b (K : Value → Mem → Prop) (v1 v5 v16 : Value) (c2 : List Value) (σ : Mem) : Prop :=
xIf v16
 (xF fMove [(.int .i64 (-1))] fun v4 =>
K v4 σ)
 (xF fMove [v1] fun v17 =>
xF fMove [v5] fun v18 =>
xF (fBin .sub .no) [v17, v18] fun v19 =>
xF (fFld 3) [(locP 2)] fun v20 =>
xO (gLoad 1 false [v20] c2) fun v21 =>
xF (fBin .quo .no) [v19, v21] fun v22 =>
xF fMove [v22] fun v4 =>
K v4 σ)

def w_layout_Of_j1 (K : Value → Mem → Prop) (ts : List Value) (ls : List (List Value)) (σ : Mem) : Prop := w_layout_Of_j1b K (ts.getD 0 poison) (ts.getD 1 poison) (ts.getD 2 poison) (ls.getD 0 []) σ

def w_layout_Of (a0 a1 : Value) (K : Value → Mem → Prop) (σ : Mem) : Prop :=
xC (gBox 7 [a0] []) fun c2 =>
xF fMove [(.int .i64 0)] fun v4 =>
xO (gLoad 7 true [(locP 2)] c2) fun v6 =>
s_layout_Base [v6, (.int .i64 0)] (fun v7 σ =>
xF fMove [v7] fun v5 =>
xJoin (w_layout_Of_j1 K) fun J1 =>
xF fMove [a1] fun v8 =>
xF fMove [v5] fun v9 =>
xF (fBin .lss .no) [v8, v9] fun v10 =>
xF fMove [v10] fun v11 =>
xIf v11
 (xF fPick [(.bool true), (.bool true), undef] fun v16 =>
J1 [a1, v5, v16] [c2] σ)
 (xF fMove [a1] fun v12 =>
xO (gLoad 7 true [(locP 2)] c2) fun v13 =>
s_layout_Len [v13] (fun v14 σ =>
xF (fBin .geq .no) [v12, v14] fun v15 =>
xF fPick [(.bool false), (.bool true), v15] fun v16 =>
J1 [a1, v5, v16] [c2] σ) σ)) σ

def s_layout_Of : Spec := fun args K σ => match args with
  | [a0, a1] => w_layout_Of a0 a1 K σ
  | _ => False

noncomputable def cx_layout_Of : Cx := { P := Try.prog, T := [(34, .none, s_layout_Base), (24, .none, s_layout_Len)], loc := [(2, 2), (20, 2)], eqt := [], n := 23, keep := [(1000004, [1, 5, 16], [2])] }
theorem q_layout_Of : FnS cx_layout_Of Try.f35 (bodyOf Try.f35) 2 = s_layout_Of := by
  funext args K σ
  rcases args with _ | ⟨a0, _ | ⟨a1, _ | ⟨b, r⟩⟩⟩ <;> kernel_rfl
theorem e_layout_Of : Entry Try.prog 35 .none s_layout_Of :=
  entry (C := cx_layout_Of) (TOk.cons e_layout_Base (TOk.cons e_layout_Len TOk.nil)) mixedOk Try.func35 (by kernel_rfl) (by kernel_rfl) (by kernel_rfl) q_layout_Of


attribute [irreducible] w_layout_Of_j1b w_layout_Of_j1 w_layout_Of s_layout_Of

/-! ### /law04.LayoutOf -/
def w_law04_LayoutOf_j1b (K : Value → Mem → Prop) (v1 v6 : Value) (c5 : List Value) (σ : Mem) : Prop :=
s_law04_awake [] (fun v22 σ =>
xF fMove [v22] fun v23 =>
xIf v23
 (xO (gLoad 7 true [(locP 5)] c5) fun v24 =>
xF fMove [v1] fun v25 =>
s_layout_Of [v24, v25] (fun v26 σ =>
xF fMove [v6] fun v27 =>
xF (fBin .eql .no) [v26, v27] fun v28 =>
xF fPick [(.bool true), v28, (.bool false)] fun v29 =>
xF fMove [v29] fun v4 =>
K v4 σ) σ)
 (xF fPick [(.bool false), undef, (.bool false)] fun v29 =>
xF fMove [v29] fun v4 =>
K v4 σ)) σ

def w_law04_LayoutOf_j1 (K : Value → Mem → Prop) (ts : List Value) (ls : List (List Value)) (σ : Mem) : Prop := w_law04_LayoutOf_j1b K (ts.getD 0 poison) (ts.getD 1 poison) (ls.getD 0 []) σ

def w_law04_LayoutOf (a0 a1 : Value) (K : Value → Mem → Prop) (σ : Mem) : Prop :=
xC (gBox 7 [a0] []) fun c2 =>
xF fMove [(.bool false)] fun v4 =>
xO (gLoad 7 true [(locP 2)] c2) fun v10 =>
s_law04_Config [v10] (fun v11 σ =>
xC (gStore 7 [(locP 5), v11] [(.int .i64 0), (.int .i64 0), (.int .i64 0), (.int .i64 0), (.int .i64 0), (.int .i64 0), (.int .i64 0)]) fun c5 =>
xF fMove [(.int .i64 (-1))] fun v6 =>
xJoin (w_law04_LayoutOf_j1 K) fun J1 =>
xO (gLoad 7 true [(locP 5)] c5) fun v13 =>
xF fMove [a1] fun v14 =>
s_ref04_Kind [v13, v14] (fun v15 σ =>
xF fMove [v15] fun v12 =>
xF (fExt 0) [v12] fun v16 =>
xF (fExt 1) [v12] fun v17 =>
xF (fExt 2) [v12] fun v18 =>
xF fMove [v16] fun v7 =>
xF fMove [v17] fun v8 =>
xF fMove [v18] fun v9 =>
xF fMove [v7] fun v19 =>
xF (fBin .eql .no) [v19, (.int .i64 9)] fun v20 =>
xIf v20
 (xF fMove [v8] fun v21 =>
xF fMove [v21] fun v6 =>
J1 [a1, v6] [c5] σ)
 (J1 [a1, v6] [c5] σ)) σ) σ

def s_law04_LayoutOf : Spec := fun args K σ => match args with
  | [a0, a1] => w_law04_LayoutOf a0 a1 K σ
  | _ => False

noncomputable def cx_law04_LayoutOf : Cx := { P := Try.prog, T := [(21, .none, s_law04_Config), (25, .write, s_ref04_Kind), (14, .none, s_law04_awake), (35, .none, s_layout_Of)], loc := [(2, 2), (5, 5)], eqt := [], n := 30, keep := [(1000007, [1, 6], [5])] }
theorem q_law04_LayoutOf : FnS cx_law04_LayoutOf Try.f7 (bodyOf Try.f7) 2 = s_law04_LayoutOf := by
  funext args K σ
  rcases args with _ | ⟨a0, _ | ⟨a1, _ | ⟨b, r⟩⟩⟩ <;> kernel_rfl
theorem e_law04_LayoutOf : Entry Try.prog 7 .write s_law04_LayoutOf :=
  entry (C := cx_law04_LayoutOf) (TOk.cons e_law04_Config (TOk.cons e_ref04_Kind (TOk.cons e_law04_awake (TOk.cons e_layout_Of TOk.nil)))) mixedOk Try.func7 (by kernel_rfl) (by kernel_rfl) (by kernel_rfl) q_law04_LayoutOf


attribute [irreducible] w_law04_LayoutOf_j1b w_law04_LayoutOf_j1 w_law04_LayoutOf s_law04_LayoutOf

/-! ### (*/mem.Mem).By -/
def w_mem_Mem_By (a0 a1 : Value) (K : Value → Mem → Prop) (σ : Mem) : Prop :=
xF fMove [a0] fun v4 =>
xF (fBin .neq .ptr) [v4, (.pointer none)] fun v5 =>
xIf v5
 (xF fMove [a0] fun v6 =>
xF fMove [a1] fun v7 =>
xF fNil [v6] fun v8 =>
xF (fFld 3) [v8] fun v9 =>
hStore 1 [v9, v7] (fun _v σ =>
K (.tuple #[]) σ) σ)
 (K (.tuple #[]) σ)

def s_mem_Mem_By : Spec := fun args K σ => match args with
  | [a0, a1] => w_mem_Mem_By a0 a1 K σ
  | _ => False

noncomputable def cx_mem_Mem_By : Cx := { P := Try.prog, T := [], loc := [], eqt := [(29, .ptr)], n := 10, keep := [] }
theorem q_mem_Mem_By : FnS cx_mem_Mem_By Try.f41 (bodyOf Try.f41) 2 = s_mem_Mem_By := by
  funext args K σ
  rcases args with _ | ⟨a0, _ | ⟨a1, _ | ⟨b, r⟩⟩⟩ <;> kernel_rfl
theorem e_mem_Mem_By : Entry Try.prog 41 .write s_mem_Mem_By :=
  entry (C := cx_mem_Mem_By) TOk.nil mixedOk Try.func41 (by kernel_rfl) (by kernel_rfl) (by kernel_rfl) q_mem_Mem_By

def xl_mem_Mem_By : List (Nat × Nat) := []
noncomputable def xc_mem_Mem_By : XC XN :=
(.seq none
 (.reg [⟨none, some 4, [(.tmp 0)], ⟨.f fMove, rMove⟩⟩,
  ⟨none, some 5, [(.tmp 4), (.const (.pointer none))], ⟨.f (fBin .neq .ptr), rAny xl_mem_Mem_By (.f (fBin .neq .ptr))⟩⟩])
 (.cond (.tmp 5)
 (.reg [⟨none, some 6, [(.tmp 0)], ⟨.f fMove, rMove⟩⟩,
  ⟨none, some 7, [(.tmp 1)], ⟨.f fMove, rMove⟩⟩,
  ⟨none, some 8, [(.tmp 6)], ⟨.f fNil, rNil⟩⟩,
  ⟨none, some 9, [(.tmp 8)], ⟨.f (fFld 3), rFld 3⟩⟩,
  ⟨none, none, [(.tmp 9), (.tmp 7)], ⟨.store 1, rStore1⟩⟩])
 .skip))
noncomputable def v_mem_Mem_By : EvF := evFn 2 xc_mem_Mem_By []
theorem xt_mem_Mem_By : toC cx_mem_Mem_By (bodyOf Try.f41) = some (xc_mem_Mem_By.map XN.sm) := by kernel_rfl
theorem xr_mem_Mem_By : toR cx_mem_Mem_By Try.f41.results.toList = some [] := by kernel_rfl
theorem xo_mem_Mem_By : xc_mem_Mem_By.ok xl_mem_Mem_By := ⟨⟨rMove_ok, rAny_ok (eqv_bin _ _), trivial⟩, ⟨⟨rMove_ok, rMove_ok, rNil_ok, rFld_ok _, rStore1_ok, trivial⟩, trivial⟩⟩
theorem ve_mem_Mem_By : EvOk s_mem_Mem_By v_mem_Mem_By := EvOk.of (evFn_sound (C := cx_mem_Mem_By) xt_mem_Mem_By xr_mem_Mem_By xo_mem_Mem_By) q_mem_Mem_By

attribute [irreducible] w_mem_Mem_By s_mem_Mem_By

end Go.Fl
