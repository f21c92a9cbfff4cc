/- What the claim leans on, part 2: own readings of the program's functions, what they come to, laws of them. No condition. -/
import Derived.Test.YtedpfdkhebmocaaZCompactFrees1
namespace Go.Fl
open Go
open Go Go.Proofs
set_option linter.unusedVariables false
set_option maxRecDepth 10000000
theorem mixedOk : Try.prog.follows .mixedOrders = true := by kernel_rfl
def bodyOf (fn : Func) : Code :=
  match fn.body with
  | some c => c
  | none => .skip
def w_a9_j3b (K : Value → Mem → Prop) (v3 v4 v5 : Value) (σ : Mem) : Prop :=xF fMove [v3] fun v70 =>xF fMove [v70] fun v71 =>xIf v71
 (xF fMove [v4] fun v72 =>xF fPick [.bool true, v72, .bool false] fun v73 =>xF fMove [v73] fun v74 =>xIf v74
 (xF fMove [v5] fun v75 =>xF fPick [.bool true, v75, .bool false] fun v76 =>xF fMove [v76] fun v2 =>K v2 σ)
 (xF fPick [.bool false, undef, .bool false] fun v76 =>xF fMove [v76] fun v2 =>K v2 σ))
 (xF fPick [.bool false, undef, .bool false] fun v73 =>xF fMove [v73] fun v74 =>xIf v74
 (xF fMove [v5] fun v75 =>xF fPick [.bool true, v75, .bool false] fun v76 =>xF fMove [v76] fun v2 =>K v2 σ)
 (xF fPick [.bool false, undef, .bool false] fun v76 =>xF fMove [v76] fun v2 =>K v2 σ))
def w_a9_j3 (K : Value → Mem → Prop) (ts : List Value) (ls : List (List Value)) (σ : Mem) : Prop := w_a9_j3b K (ts.getD 0 poison) (ts.getD 1 poison) (ts.getD 2 poison) σ
def w_a9_j2b (K : Value → Mem → Prop) (v3 v4 : Value) (c1 : List Value) (σ : Mem) : Prop :=xJoin (w_a9_j3 K) fun J3 =>xF (fFld 4) [(locP 1)] fun v42 =>xO (gLoad 1 false [v42] c1) fun v43 =>xF (fBin .geq .no) [v43, .int .i64 1] fun v44 =>xF fMove [v44] fun v45 =>xIf v45
 (xF (fFld 4) [(locP 1)] fun v46 =>xO (gLoad 1 false [v46] c1) fun v47 =>xF (fBin .leq .no) [v47, .int .i64 65535] fun v48 =>xF fPick [.bool true, v48, .bool false] fun v49 =>xF fMove [v49] fun v50 =>xIf v50
 (xF (fFld 5) [(locP 1)] fun v51 =>xO (gLoad 1 false [v51] c1) fun v52 =>xF (fBin .geq .no) [v52, .int .i64 0] fun v53 =>xF fPick [.bool true, v53, .bool false] fun v54 =>xF fMove [v54] fun v55 =>xIf v55
 (xF (fFld 5) [(locP 1)] fun v56 =>xO (gLoad 1 false [v56] c1) fun v57 =>xF (fBin .leq .no) [v57, .int .i64 1000] fun v58 =>xF fPick [.bool true, v58, .bool false] fun v59 =>xF fMove [v59] fun v60 =>xIf v60
 (xF (fFld 6) [(locP 1)] fun v61 =>xO (gLoad 1 false [v61] c1) fun v62 =>xF (fBin .geq .no) [v62, .int .i64 1] fun v63 =>xF fPick [.bool true, v63, .bool false] fun v64 =>xF fMove [v64] fun v65 =>xIf v65
 (xF (fFld 6) [(locP 1)] fun v66 =>xO (gLoad 1 false [v66] c1) fun v67 =>xF (fBin .leq .no) [v67, .int .i64 16] fun v68 =>xF fPick [.bool true, v68, .bool false] fun v69 =>xF fMove [v69] fun v5 =>J3 [v3, v4, v5] [] σ)
 (xF fPick [.bool false, undef, .bool false] fun v69 =>xF fMove [v69] fun v5 =>J3 [v3, v4, v5] [] σ))
 (xF fPick [.bool false, undef, .bool false] fun v64 =>xF fMove [v64] fun v65 =>xIf v65
 (xF (fFld 6) [(locP 1)] fun v66 =>xO (gLoad 1 false [v66] c1) fun v67 =>xF (fBin .leq .no) [v67, .int .i64 16] fun v68 =>xF fPick [.bool true, v68, .bool false] fun v69 =>xF fMove [v69] fun v5 =>J3 [v3, v4, v5] [] σ)
 (xF fPick [.bool false, undef, .bool false] fun v69 =>xF fMove [v69] fun v5 =>J3 [v3, v4, v5] [] σ)))
 (xF fPick [.bool false, undef, .bool false] fun v59 =>xF fMove [v59] fun v60 =>xIf v60
 (xF (fFld 6) [(locP 1)] fun v61 =>xO (gLoad 1 false [v61] c1) fun v62 =>xF (fBin .geq .no) [v62, .int .i64 1] fun v63 =>xF fPick [.bool true, v63, .bool false] fun v64 =>xF fMove [v64] fun v65 =>xIf v65
 (xF (fFld 6) [(locP 1)] fun v66 =>xO (gLoad 1 false [v66] c1) fun v67 =>xF (fBin .leq .no) [v67, .int .i64 16] fun v68 =>xF fPick [.bool true, v68, .bool false] fun v69 =>xF fMove [v69] fun v5 =>J3 [v3, v4, v5] [] σ)
 (xF fPick [.bool false, undef, .bool false] fun v69 =>xF fMove [v69] fun v5 =>J3 [v3, v4, v5] [] σ))
 (xF fPick [.bool false, undef, .bool false] fun v64 =>xF fMove [v64] fun v65 =>xIf v65
 (xF (fFld 6) [(locP 1)] fun v66 =>xO (gLoad 1 false [v66] c1) fun v67 =>xF (fBin .leq .no) [v67, .int .i64 16] fun v68 =>xF fPick [.bool true, v68, .bool false] fun v69 =>xF fMove [v69] fun v5 =>J3 [v3, v4, v5] [] σ)
 (xF fPick [.bool false, undef, .bool false] fun v69 =>xF fMove [v69] fun v5 =>J3 [v3, v4, v5] [] σ))))
 (xF fPick [.bool false, undef, .bool false] fun v54 =>xF fMove [v54] fun v55 =>xIf v55
 (xF (fFld 5) [(locP 1)] fun v56 =>xO (gLoad 1 false [v56] c1) fun v57 =>xF (fBin .leq .no) [v57, .int .i64 1000] fun v58 =>xF fPick [.bool true, v58, .bool false] fun v59 =>xF fMove [v59] fun v60 =>xIf v60
 (xF (fFld 6) [(locP 1)] fun v61 =>xO (gLoad 1 false [v61] c1) fun v62 =>xF (fBin .geq .no) [v62, .int .i64 1] fun v63 =>xF fPick [.bool true, v63, .bool false] fun v64 =>xF fMove [v64] fun v65 =>xIf v65
 (xF (fFld 6) [(locP 1)] fun v66 =>xO (gLoad 1 false [v66] c1) fun v67 =>xF (fBin .leq .no) [v67, .int .i64 16] fun v68 =>xF fPick [.bool true, v68, .bool false] fun v69 =>xF fMove [v69] fun v5 =>J3 [v3, v4, v5] [] σ)
 (xF fPick [.bool false, undef, .bool false] fun v69 =>xF fMove [v69] fun v5 =>J3 [v3, v4, v5] [] σ))
 (xF fPick [.bool false, undef, .bool false] fun v64 =>xF fMove [v64] fun v65 =>xIf v65
 (xF (fFld 6) [(locP 1)] fun v66 =>xO (gLoad 1 false [v66] c1) fun v67 =>xF (fBin .leq .no) [v67, .int .i64 16] fun v68 =>xF fPick [.bool true, v68, .bool false] fun v69 =>xF fMove [v69] fun v5 =>J3 [v3, v4, v5] [] σ)
 (xF fPick [.bool false, undef, .bool false] fun v69 =>xF fMove [v69] fun v5 =>J3 [v3, v4, v5] [] σ)))
 (xF fPick [.bool false, undef, .bool false] fun v59 =>xF fMove [v59] fun v60 =>xIf v60
 (xF (fFld 6) [(locP 1)] fun v61 =>xO (gLoad 1 false [v61] c1) fun v62 =>xF (fBin .geq .no) [v62, .int .i64 1] fun v63 =>xF fPick [.bool true, v63, .bool false] fun v64 =>xF fMove [v64] fun v65 =>xIf v65
 (xF (fFld 6) [(locP 1)] fun v66 =>xO (gLoad 1 false [v66] c1) fun v67 =>xF (fBin .leq .no) [v67, .int .i64 16] fun v68 =>xF fPick [.bool true, v68, .bool false] fun v69 =>xF fMove [v69] fun v5 =>J3 [v3, v4, v5] [] σ)
 (xF fPick [.bool false, undef, .bool false] fun v69 =>xF fMove [v69] fun v5 =>J3 [v3, v4, v5] [] σ))
 (xF fPick [.bool false, undef, .bool false] fun v64 =>xF fMove [v64] fun v65 =>xIf v65
 (xF (fFld 6) [(locP 1)] fun v66 =>xO (gLoad 1 false [v66] c1) fun v67 =>xF (fBin .leq .no) [v67, .int .i64 16] fun v68 =>xF fPick [.bool true, v68, .bool false] fun v69 =>xF fMove [v69] fun v5 =>J3 [v3, v4, v5] [] σ)
 (xF fPick [.bool false, undef, .bool false] fun v69 =>xF fMove [v69] fun v5 =>J3 [v3, v4, v5] [] σ)))))
 (xF fPick [.bool false, undef, .bool false] fun v49 =>xF fMove [v49] fun v50 =>xIf v50
 (xF (fFld 5) [(locP 1)] fun v51 =>xO (gLoad 1 false [v51] c1) fun v52 =>xF (fBin .geq .no) [v52, .int .i64 0] fun v53 =>xF fPick [.bool true, v53, .bool false] fun v54 =>xF fMove [v54] fun v55 =>xIf v55
 (xF (fFld 5) [(locP 1)] fun v56 =>xO (gLoad 1 false [v56] c1) fun v57 =>xF (fBin .leq .no) [v57, .int .i64 1000] fun v58 =>xF fPick [.bool true, v58, .bool false] fun v59 =>xF fMove [v59] fun v60 =>xIf v60
 (xF (fFld 6) [(locP 1)] fun v61 =>xO (gLoad 1 false [v61] c1) fun v62 =>xF (fBin .geq .no) [v62, .int .i64 1] fun v63 =>xF fPick [.bool true, v63, .bool false] fun v64 =>xF fMove [v64] fun v65 =>xIf v65
 (xF (fFld 6) [(locP 1)] fun v66 =>xO (gLoad 1 false [v66] c1) fun v67 =>xF (fBin .leq .no) [v67, .int .i64 16] fun v68 =>xF fPick [.bool true, v68, .bool false] fun v69 =>xF fMove [v69] fun v5 =>J3 [v3, v4, v5] [] σ)
 (xF fPick [.bool false, undef, .bool false] fun v69 =>xF fMove [v69] fun v5 =>J3 [v3, v4, v5] [] σ))
 (xF fPick [.bool false, undef, .bool false] fun v64 =>xF fMove [v64] fun v65 =>xIf v65
 (xF (fFld 6) [(locP 1)] fun v66 =>xO (gLoad 1 false [v66] c1) fun v67 =>xF (fBin .leq .no) [v67, .int .i64 16] fun v68 =>xF fPick [.bool true, v68, .bool false] fun v69 =>xF fMove [v69] fun v5 =>J3 [v3, v4, v5] [] σ)
 (xF fPick [.bool false, undef, .bool false] fun v69 =>xF fMove [v69] fun v5 =>J3 [v3, v4, v5] [] σ)))
 (xF fPick [.bool false, undef, .bool false] fun v59 =>xF fMove [v59] fun v60 =>xIf v60
 (xF (fFld 6) [(locP 1)] fun v61 =>xO (gLoad 1 false [v61] c1) fun v62 =>xF (fBin .geq .no) [v62, .int .i64 1] fun v63 =>xF fPick [.bool true, v63, .bool false] fun v64 =>xF fMove [v64] fun v65 =>xIf v65
 (xF (fFld 6) [(locP 1)] fun v66 =>xO (gLoad 1 false [v66] c1) fun v67 =>xF (fBin .leq .no) [v67, .int .i64 16] fun v68 =>xF fPick [.bool true, v68, .bool false] fun v69 =>xF fMove [v69] fun v5 =>J3 [v3, v4, v5] [] σ)
 (xF fPick [.bool false, undef, .bool false] fun v69 =>xF fMove [v69] fun v5 =>J3 [v3, v4, v5] [] σ))
 (xF fPick [.bool false, undef, .bool false] fun v64 =>xF fMove [v64] fun v65 =>xIf v65
 (xF (fFld 6) [(locP 1)] fun v66 =>xO (gLoad 1 false [v66] c1) fun v67 =>xF (fBin .leq .no) [v67, .int .i64 16] fun v68 =>xF fPick [.bool true, v68, .bool false] fun v69 =>xF fMove [v69] fun v5 =>J3 [v3, v4, v5] [] σ)
 (xF fPick [.bool false, undef, .bool false] fun v69 =>xF fMove [v69] fun v5 =>J3 [v3, v4, v5] [] σ))))
 (xF fPick [.bool false, undef, .bool false] fun v54 =>xF fMove [v54] fun v55 =>xIf v55
 (xF (fFld 5) [(locP 1)] fun v56 =>xO (gLoad 1 false [v56] c1) fun v57 =>xF (fBin .leq .no) [v57, .int .i64 1000] fun v58 =>xF fPick [.bool true, v58, .bool false] fun v59 =>xF fMove [v59] fun v60 =>xIf v60
 (xF (fFld 6) [(locP 1)] fun v61 =>xO (gLoad 1 false [v61] c1) fun v62 =>xF (fBin .geq .no) [v62, .int .i64 1] fun v63 =>xF fPick [.bool true, v63, .bool false] fun v64 =>xF fMove [v64] fun v65 =>xIf v65
 (xF (fFld 6) [(locP 1)] fun v66 =>xO (gLoad 1 false [v66] c1) fun v67 =>xF (fBin .leq .no) [v67, .int .i64 16] fun v68 =>xF fPick [.bool true, v68, .bool false] fun v69 =>xF fMove [v69] fun v5 =>J3 [v3, v4, v5] [] σ)
 (xF fPick [.bool false, undef, .bool false] fun v69 =>xF fMove [v69] fun v5 =>J3 [v3, v4, v5] [] σ))
 (xF fPick [.bool false, undef, .bool false] fun v64 =>xF fMove [v64] fun v65 =>xIf v65
 (xF (fFld 6) [(locP 1)] fun v66 =>xO (gLoad 1 false [v66] c1) fun v67 =>xF (fBin .leq .no) [v67, .int .i64 16] fun v68 =>xF fPick [.bool true, v68, .bool false] fun v69 =>xF fMove [v69] fun v5 =>J3 [v3, v4, v5] [] σ)
 (xF fPick [.bool false, undef, .bool false] fun v69 =>xF fMove [v69] fun v5 =>J3 [v3, v4, v5] [] σ)))
 (xF fPick [.bool false, undef, .bool false] fun v59 =>xF fMove [v59] fun v60 =>xIf v60
 (xF (fFld 6) [(locP 1)] fun v61 =>xO (gLoad 1 false [v61] c1) fun v62 =>xF (fBin .geq .no) [v62, .int .i64 1] fun v63 =>xF fPick [.bool true, v63, .bool false] fun v64 =>xF fMove [v64] fun v65 =>xIf v65
 (xF (fFld 6) [(locP 1)] fun v66 =>xO (gLoad 1 false [v66] c1) fun v67 =>xF (fBin .leq .no) [v67, .int .i64 16] fun v68 =>xF fPick [.bool true, v68, .bool false] fun v69 =>xF fMove [v69] fun v5 =>J3 [v3, v4, v5] [] σ)
 (xF fPick [.bool false, undef, .bool false] fun v69 =>xF fMove [v69] fun v5 =>J3 [v3, v4, v5] [] σ))
 (xF fPick [.bool false, undef, .bool false] fun v64 =>xF fMove [v64] fun v65 =>xIf v65
 (xF (fFld 6) [(locP 1)] fun v66 =>xO (gLoad 1 false [v66] c1) fun v67 =>xF (fBin .leq .no) [v67, .int .i64 16] fun v68 =>xF fPick [.bool true, v68, .bool false] fun v69 =>xF fMove [v69] fun v5 =>J3 [v3, v4, v5] [] σ)
 (xF fPick [.bool false, undef, .bool false] fun v69 =>xF fMove [v69] fun v5 =>J3 [v3, v4, v5] [] σ)))))
def w_a9_j2 (K : Value → Mem → Prop) (ts : List Value) (ls : List (List Value)) (σ : Mem) : Prop := w_a9_j2b K (ts.getD 0 poison) (ts.getD 1 poison) (ls.getD 0 []) σ
def w_a9_j1b (K : Value → Mem → Prop) (v3 : Value) (c1 : List Value) (σ : Mem) : Prop :=xJoin (w_a9_j2 K) fun J2 =>xF (fFld 2) [(locP 1)] fun v24 =>xO (gLoad 1 false [v24] c1) fun v25 =>xF (fBin .geq .no) [v25, .int .i64 1] fun v26 =>xF fMove [v26] fun v27 =>xIf v27
 (xF (fFld 2) [(locP 1)] fun v28 =>xO (gLoad 1 false [v28] c1) fun v29 =>xF (fBin .leq .no) [v29, .int .i64 64] fun v30 =>xF fPick [.bool true, v30, .bool false] fun v31 =>xF fMove [v31] fun v32 =>xIf v32
 (xF (fFld 3) [(locP 1)] fun v33 =>xO (gLoad 1 false [v33] c1) fun v34 =>xF (fBin .geq .no) [v34, .int .i64 17] fun v35 =>xF fPick [.bool true, v35, .bool false] fun v36 =>xF fMove [v36] fun v37 =>xIf v37
 (xF (fFld 3) [(locP 1)] fun v38 =>xO (gLoad 1 false [v38] c1) fun v39 =>xF (fBin .leq .no) [v39, .int .i64 256] fun v40 =>xF fPick [.bool true, v40, .bool false] fun v41 =>xF fMove [v41] fun v4 =>J2 [v3, v4] [c1] σ)
 (xF fPick [.bool false, undef, .bool false] fun v41 =>xF fMove [v41] fun v4 =>J2 [v3, v4] [c1] σ))
 (xF fPick [.bool false, undef, .bool false] fun v36 =>xF fMove [v36] fun v37 =>xIf v37
 (xF (fFld 3) [(locP 1)] fun v38 =>xO (gLoad 1 false [v38] c1) fun v39 =>xF (fBin .leq .no) [v39, .int .i64 256] fun v40 =>xF fPick [.bool true, v40, .bool false] fun v41 =>xF fMove [v41] fun v4 =>J2 [v3, v4] [c1] σ)
 (xF fPick [.bool false, undef, .bool false] fun v41 =>xF fMove [v41] fun v4 =>J2 [v3, v4] [c1] σ)))
 (xF fPick [.bool false, undef, .bool false] fun v31 =>xF fMove [v31] fun v32 =>xIf v32
 (xF (fFld 3) [(locP 1)] fun v33 =>xO (gLoad 1 false [v33] c1) fun v34 =>xF (fBin .geq .no) [v34, .int .i64 17] fun v35 =>xF fPick [.bool true, v35, .bool false] fun v36 =>xF fMove [v36] fun v37 =>xIf v37
 (xF (fFld 3) [(locP 1)] fun v38 =>xO (gLoad 1 false [v38] c1) fun v39 =>xF (fBin .leq .no) [v39, .int .i64 256] fun v40 =>xF fPick [.bool true, v40, .bool false] fun v41 =>xF fMove [v41] fun v4 =>J2 [v3, v4] [c1] σ)
 (xF fPick [.bool false, undef, .bool false] fun v41 =>xF fMove [v41] fun v4 =>J2 [v3, v4] [c1] σ))
 (xF fPick [.bool false, undef, .bool false] fun v36 =>xF fMove [v36] fun v37 =>xIf v37
 (xF (fFld 3) [(locP 1)] fun v38 =>xO (gLoad 1 false [v38] c1) fun v39 =>xF (fBin .leq .no) [v39, .int .i64 256] fun v40 =>xF fPick [.bool true, v40, .bool false] fun v41 =>xF fMove [v41] fun v4 =>J2 [v3, v4] [c1] σ)
 (xF fPick [.bool false, undef, .bool false] fun v41 =>xF fMove [v41] fun v4 =>J2 [v3, v4] [c1] σ)))
def w_a9_j1 (K : Value → Mem → Prop) (ts : List Value) (ls : List (List Value)) (σ : Mem) : Prop := w_a9_j1b K (ts.getD 0 poison) (ls.getD 0 []) σ
def w_a9 (a0 : Value) (K : Value → Mem → Prop) (σ : Mem) : Prop :=xC (gBox 7 [a0] []) fun c1 =>xF fMove [.bool false] fun v2 =>xJoin (w_a9_j1 K) fun J1 =>xF (fFld 0) [(locP 1)] fun v6 =>xO (gLoad 1 false [v6] c1) fun v7 =>xF (fBin .geq .no) [v7, .int .i64 1] fun v8 =>xF fMove [v8] fun v9 =>xIf v9
 (xF (fFld 0) [(locP 1)] fun v10 =>xO (gLoad 1 false [v10] c1) fun v11 =>xF (fBin .leq .no) [v11, .int .i64 8] fun v12 =>xF fPick [.bool true, v12, .bool false] fun v13 =>xF fMove [v13] fun v14 =>xIf v14
 (xF (fFld 1) [(locP 1)] fun v15 =>xO (gLoad 1 false [v15] c1) fun v16 =>xF (fBin .geq .no) [v16, .int .i64 1] fun v17 =>xF fPick [.bool true, v17, .bool false] fun v18 =>xF fMove [v18] fun v19 =>xIf v19
 (xF (fFld 1) [(locP 1)] fun v20 =>xO (gLoad 1 false [v20] c1) fun v21 =>xF (fBin .leq .no) [v21, .int .i64 65536] fun v22 =>xF fPick [.bool true, v22, .bool false] fun v23 =>xF fMove [v23] fun v3 =>J1 [v3] [c1] σ)
 (xF fPick [.bool false, undef, .bool false] fun v23 =>xF fMove [v23] fun v3 =>J1 [v3] [c1] σ))
 (xF fPick [.bool false, undef, .bool false] fun v18 =>xF fMove [v18] fun v19 =>xIf v19
 (xF (fFld 1) [(locP 1)] fun v20 =>xO (gLoad 1 false [v20] c1) fun v21 =>xF (fBin .leq .no) [v21, .int .i64 65536] fun v22 =>xF fPick [.bool true, v22, .bool false] fun v23 =>xF fMove [v23] fun v3 =>J1 [v3] [c1] σ)
 (xF fPick [.bool false, undef, .bool false] fun v23 =>xF fMove [v23] fun v3 =>J1 [v3] [c1] σ)))
 (xF fPick [.bool false, undef, .bool false] fun v13 =>xF fMove [v13] fun v14 =>xIf v14
 (xF (fFld 1) [(locP 1)] fun v15 =>xO (gLoad 1 false [v15] c1) fun v16 =>xF (fBin .geq .no) [v16, .int .i64 1] fun v17 =>xF fPick [.bool true, v17, .bool false] fun v18 =>xF fMove [v18] fun v19 =>xIf v19
 (xF (fFld 1) [(locP 1)] fun v20 =>xO (gLoad 1 false [v20] c1) fun v21 =>xF (fBin .leq .no) [v21, .int .i64 65536] fun v22 =>xF fPick [.bool true, v22, .bool false] fun v23 =>xF fMove [v23] fun v3 =>J1 [v3] [c1] σ)
 (xF fPick [.bool false, undef, .bool false] fun v23 =>xF fMove [v23] fun v3 =>J1 [v3] [c1] σ))
 (xF fPick [.bool false, undef, .bool false] fun v18 =>xF fMove [v18] fun v19 =>xIf v19
 (xF (fFld 1) [(locP 1)] fun v20 =>xO (gLoad 1 false [v20] c1) fun v21 =>xF (fBin .leq .no) [v21, .int .i64 65536] fun v22 =>xF fPick [.bool true, v22, .bool false] fun v23 =>xF fMove [v23] fun v3 =>J1 [v3] [c1] σ)
 (xF fPick [.bool false, undef, .bool false] fun v23 =>xF fMove [v23] fun v3 =>J1 [v3] [c1] σ)))
def s_a9 : Spec := fun args K σ => match args with
  | [a0] => w_a9 a0 K σ
  | _ => False
noncomputable def cx_a9 : Cx := { P := Try.prog, T := [], loc := [(1, 1), (6, 1), (10, 1), (15, 1), (20, 1), (24, 1), (28, 1), (33, 1), (38, 1), (42, 1), (46, 1), (51, 1), (56, 1), (61, 1), (66, 1)], eqt := [], n := 77, keep := [(1000003, [3], [1]), (1000004, [3, 4], [1]), (1000005, [3, 4, 5], [])] }
theorem q_a9 : FnS cx_a9 Try.f25 (bodyOf Try.f25) 1 = s_a9 := by
  funext args K σ
  rcases args with _ | ⟨a0, _ | ⟨b, r⟩⟩ <;> kernel_rfl
theorem e_a9 : Entry Try.prog 25 .none s_a9 :=
  entry (C := cx_a9) TOk.nil mixedOk Try.func25 (by kernel_rfl) (by kernel_rfl) (by kernel_rfl) q_a9
attribute [irreducible] w_a9_j3b w_a9_j3 w_a9_j2b w_a9_j2 w_a9_j1b w_a9_j1 w_a9 s_a9
def w_a8 (a0 a1 : Value) (K : Value → Mem → Prop) (σ : Mem) : Prop :=xC (gBox 7 [a0] []) fun c2 =>xF fMove [.int .i64 0] fun v4 =>xF (fFld 0) [(locP 2)] fun v5 =>xO (gLoad 1 false [v5] c2) fun v6 =>xF (fBin .add .no) [.int .i64 6, v6] fun v7 =>xF (fFld 1) [(locP 2)] fun v8 =>xO (gLoad 1 false [v8] c2) fun v9 =>xF (fBin .mul .no) [.int .i64 2, v9] fun v10 =>xF (fBin .add .no) [v7, v10] fun v11 =>xF (fFld 2) [(locP 2)] fun v12 =>xO (gLoad 1 false [v12] c2) fun v13 =>xF (fBin .mul .no) [.int .i64 3, v13] fun v14 =>xF (fBin .add .no) [v11, v14] fun v15 =>xF (fFld 3) [(locP 2)] fun v16 =>xO (gLoad 1 false [v16] c2) fun v17 =>xF fMove [a1] fun v18 =>xF (fBin .mul .no) [v17, v18] fun v19 =>xF (fBin .add .no) [v15, v19] fun v20 =>xF fMove [v20] fun v4 =>K v4 σ
def s_a8 : Spec := fun args K σ => match args with
  | [a0, a1] => w_a8 a0 a1 K σ
  | _ => False
noncomputable def cx_a8 : Cx := { P := Try.prog, T := [], loc := [(2, 2), (5, 2), (8, 2), (12, 2), (16, 2)], eqt := [], n := 21, keep := [] }
theorem q_a8 : FnS cx_a8 Try.f15 (bodyOf Try.f15) 2 = s_a8 := by
  funext args K σ
  rcases args with _ | ⟨a0, _ | ⟨a1, _ | ⟨b, r⟩⟩⟩ <;> kernel_rfl
theorem e_a8 : Entry Try.prog 15 .none s_a8 :=
  entry (C := cx_a8) TOk.nil mixedOk Try.func15 (by kernel_rfl) (by kernel_rfl) (by kernel_rfl) q_a8
attribute [irreducible] w_a8 s_a8
def w_bj (a0 : Value) (K : Value → Mem → Prop) (σ : Mem) : Prop :=xC (gBox 7 [a0] []) fun c1 =>xF fMove [.int .i64 0] fun v2 =>xO (gLoad 7 true [(locP 1)] c1) fun v3 =>xF (fFld 2) [(locP 1)] fun v4 =>xO (gLoad 1 false [v4] c1) fun v5 =>s_a8 [v3, v5] (fun v6 σ =>xF fMove [v6] fun v2 =>K v2 σ) σ
def s_bj : Spec := fun args K σ => match args with
  | [a0] => w_bj a0 K σ
  | _ => False
noncomputable def cx_bj : Cx := { P := Try.prog, T := [(15, .none, s_a8)], loc := [(1, 1), (4, 1)], eqt := [], n := 7, keep := [] }
theorem q_bj : FnS cx_bj Try.f27 (bodyOf Try.f27) 1 = s_bj := by
  funext args K σ
  rcases args with _ | ⟨a0, _ | ⟨b, r⟩⟩ <;> kernel_rfl
theorem e_bj : Entry Try.prog 27 .none s_bj :=
  entry (C := cx_bj) (TOk.cons e_a8 TOk.nil) mixedOk Try.func27 (by kernel_rfl) (by kernel_rfl) (by kernel_rfl) q_bj
attribute [irreducible] w_bj s_bj
def w_b0_j1b (K : Value → Mem → Prop) (v0 v9 : Value) (σ : Mem) : Prop :=xIf v9
 (xF fMove [.pointer none] fun v2 =>xF fMove [.int .i64 1] fun v3 =>K (.tuple #[v2, v3]) σ)
 (xF fMove [v0] fun v10 =>hMakeS 1 8 [.int .u64 0] [v10, v10] (fun v11 σ =>xF fMove [v0] fun v12 =>hMakeS 1 8 [.int .i64 0] [v12, v12] (fun v13 σ =>xF (fBuild [(0, 1), (1, 1), (2, 1), (3, 1), (4, 3)] [(.slice none 0 0), (.slice none 0 0), .int .i64 0, .int .i64 0, .int .i64 0, .int .i64 0, .bool false] [0, 1]) [v11, v13] fun v14 =>hBox 7 [v14] (fun v15 σ =>xF fMove [v15] fun v2 =>xF fMove [.int .i64 0] fun v3 =>K (.tuple #[v2, v3]) σ) σ) σ) σ)
def w_b0_j1 (K : Value → Mem → Prop) (ts : List Value) (ls : List (List Value)) (σ : Mem) : Prop := w_b0_j1b K (ts.getD 0 poison) (ts.getD 1 poison) σ
def w_b0 (a0 : Value) (K : Value → Mem → Prop) (σ : Mem) : Prop :=xF fMove [.pointer none] fun v2 =>xF fMove [.int .i64 0] fun v3 =>xJoin (w_b0_j1 K) fun J1 =>xF fMove [a0] fun v4 =>xF (fBin .lss .no) [v4, .int .i64 1] fun v5 =>xF fMove [v5] fun v6 =>xIf v6
 (xF fPick [.bool true, .bool true, undef] fun v9 =>J1 [a0, v9] [] σ)
 (xF fMove [a0] fun v7 =>xF (fBin .gtr .no) [v7, .int .i64 1048576] fun v8 =>xF fPick [.bool false, .bool true, v8] fun v9 =>J1 [a0, v9] [] σ)
def s_b0 : Spec := fun args K σ => match args with
  | [a0] => w_b0 a0 K σ
  | _ => False
noncomputable def cx_b0 : Cx := { P := Try.prog, T := [], loc := [], eqt := [], n := 16, keep := [(1000003, [0, 9], [])] }
theorem q_b0 : FnS cx_b0 Try.f26 (bodyOf Try.f26) 1 = s_b0 := by
  funext args K σ
  rcases args with _ | ⟨a0, _ | ⟨b, r⟩⟩ <;> kernel_rfl
theorem e_b0 : Entry Try.prog 26 .write s_b0 :=
  entry (C := cx_b0) TOk.nil mixedOk Try.func26 (by kernel_rfl) (by kernel_rfl) (by kernel_rfl) q_b0
attribute [irreducible] w_b0_j1b w_b0_j1 w_b0 s_b0
def w_bo (a0 a1 : Value) (K : Value → Mem → Prop) (σ : Mem) : Prop :=xC (gBox 7 [a0] []) fun c2 =>xF fMove [.int .i64 0] fun v4 =>xF (fFld 0) [(locP 2)] fun v5 =>xO (gLoad 1 false [v5] c2) fun v6 =>xF (fBin .add .no) [.int .i64 6, v6] fun v7 =>xF fMove [a1] fun v8 =>xF (fBin .mul .no) [.int .i64 2, v8] fun v9 =>xF (fBin .add .no) [v7, v9] fun v10 =>xF fMove [v10] fun v4 =>K v4 σ
def s_bo : Spec := fun args K σ => match args with
  | [a0, a1] => w_bo a0 a1 K σ
  | _ => False
noncomputable def cx_bo : Cx := { P := Try.prog, T := [], loc := [(2, 2), (5, 2)], eqt := [], n := 11, keep := [] }
theorem q_bo : FnS cx_bo Try.f29 (bodyOf Try.f29) 2 = s_bo := by
  funext args K σ
  rcases args with _ | ⟨a0, _ | ⟨a1, _ | ⟨b, r⟩⟩⟩ <;> kernel_rfl
theorem e_bo : Entry Try.prog 29 .none s_bo :=
  entry (C := cx_bo) TOk.nil mixedOk Try.func29 (by kernel_rfl) (by kernel_rfl) (by kernel_rfl) q_bo
attribute [irreducible] w_bo s_bo
def w_c0 (a0 a1 : Value) (K : Value → Mem → Prop) (σ : Mem) : Prop :=xF fMove [.int .u64 0] fun v4 =>xF fMove [a0] fun v5 =>xF fMax [v5, .int .i64 0] fun v6 =>xF fMove [a1] fun v7 =>xF fMin [v6, v7] fun v8 =>xF (fConv .u64) [v8] fun v9 =>xF fMove [v9] fun v4 =>K v4 σ
def s_c0 : Spec := fun args K σ => match args with
  | [a0, a1] => w_c0 a0 a1 K σ
  | _ => False
noncomputable def cx_c0 : Cx := { P := Try.prog, T := [], loc := [], eqt := [], n := 10, keep := [] }
theorem q_c0 : FnS cx_c0 Try.f68 (bodyOf Try.f68) 2 = s_c0 := by
  funext args K σ
  rcases args with _ | ⟨a0, _ | ⟨a1, _ | ⟨b, r⟩⟩⟩ <;> kernel_rfl
theorem e_c0 : Entry Try.prog 68 .none s_c0 :=
  entry (C := cx_c0) TOk.nil mixedOk Try.func68 (by kernel_rfl) (by kernel_rfl) (by kernel_rfl) q_c0
attribute [irreducible] w_c0 s_c0
def w_cw (a0 : Value) (K : Value → Mem → Prop) (σ : Mem) : Prop :=xC (gBox 4 [a0] []) fun c1 =>xF fMove [.int .u64 0] fun v2 =>xF (fFld 0) [(locP 1)] fun v3 =>xO (gLoad 1 false [v3] c1) fun v4 =>s_c0 [v4, .int .i64 7] (fun v5 σ =>xF (fFld 1) [(locP 1)] fun v6 =>xO (gLoad 1 false [v6] c1) fun v7 =>s_c0 [v7, .int .i64 1048575] (fun v8 σ =>xF (fBin .shl .no) [v8, .int .u64 3] fun v9 =>xF (fBin .or .no) [v5, v9] fun v10 =>xF (fFld 2) [(locP 1)] fun v11 =>xO (gLoad 1 false [v11] c1) fun v12 =>s_c0 [v12, .int .i64 65535] (fun v13 σ =>xF (fBin .shl .no) [v13, .int .u64 23] fun v14 =>xF (fBin .or .no) [v10, v14] fun v15 =>xF (fFld 3) [(locP 1)] fun v16 =>xO (gLoad 1 false [v16] c1) fun v17 =>s_c0 [v17, .int .i64 4194303] (fun v18 σ =>xF (fBin .shl .no) [v18, .int .u64 39] fun v19 =>xF (fBin .or .no) [v15, v19] fun v20 =>xF fMove [v20] fun v2 =>K v2 σ) σ) σ) σ) σ
def s_cw : Spec := fun args K σ => match args with
  | [a0] => w_cw a0 K σ
  | _ => False
noncomputable def cx_cw : Cx := { P := Try.prog, T := [(68, .none, s_c0)], loc := [(1, 1), (3, 1), (6, 1), (11, 1), (16, 1)], eqt := [], n := 21, keep := [] }
theorem q_cw : FnS cx_cw Try.f30 (bodyOf Try.f30) 1 = s_cw := by
  funext args K σ
  rcases args with _ | ⟨a0, _ | ⟨b, r⟩⟩ <;> kernel_rfl
theorem e_cw : Entry Try.prog 30 .none s_cw :=
  entry (C := cx_cw) (TOk.cons e_c0 TOk.nil) mixedOk Try.func30 (by kernel_rfl) (by kernel_rfl) (by kernel_rfl) q_cw
attribute [irreducible] w_cw s_cw
def w_bz_j1b (K : Value → Mem → Prop) (v0 v1 v19 : Value) (σ : Mem) : Prop :=xIf v19
 (xF fMove [.bool false] fun v4 =>K v4 σ)
 (xF fMove [v0] fun v20 =>xF fNil [v20] fun v21 =>xF (fFld 2) [v21] fun v22 =>hLoad 1 false [v22] (fun v23 σ =>xF (fBin .add .no) [v23, .int .i64 1] fun v24 =>xF fNil [v20] fun v25 =>xF (fFld 2) [v25] fun v26 =>hStore 1 [v26, v24] (fun _v σ =>xF fMove [v0] fun v27 =>xF fMove [v1] fun v28 =>xF fMove [v0] fun v29 =>xF fNil [v29] fun v30 =>xF (fFld 3) [v30] fun v31 =>hLoad 1 false [v31] (fun v32 σ =>xF (fBuild [(0, 1), (1, 1), (2, 1)] [.int .i64 0, .int .i64 0, .bool false] [0, 1]) [v28, v32] fun v33 =>xF fNil [v27] fun v34 =>xF (fFld 4) [v34] fun v35 =>hStore 3 [v35, v33] (fun _v σ =>xF fMove [.bool true] fun v4 =>K v4 σ) σ) σ) σ) σ)
def w_bz_j1 (K : Value → Mem → Prop) (ts : List Value) (ls : List (List Value)) (σ : Mem) : Prop := w_bz_j1b K (ts.getD 0 poison) (ts.getD 1 poison) (ts.getD 2 poison) σ
def w_bz (a0 a1 : Value) (K : Value → Mem → Prop) (σ : Mem) : Prop :=xF fMove [.bool false] fun v4 =>xJoin (w_bz_j1 K) fun J1 =>xF fMove [a0] fun v5 =>xF (fBin .eql .ptr) [v5, .pointer none] fun v6 =>xF fMove [v6] fun v7 =>xIf v7
 (xF fPick [.bool true, .bool true, undef] fun v10 =>xF fMove [v10] fun v11 =>xIf v11
 (xF fPick [.bool true, .bool true, undef] fun v19 =>J1 [a0, a1, v19] [] σ)
 (xF fMove [a1] fun v12 =>xF fMove [a0] fun v13 =>xF fNil [v13] fun v14 =>xF (fFld 0) [v14] fun v15 =>hLoad 1 false [v15] (fun v16 σ =>xF fLen [v16] fun v17 =>xF (fBin .geq .no) [v12, v17] fun v18 =>xF fPick [.bool false, .bool true, v18] fun v19 =>J1 [a0, a1, v19] [] σ) σ))
 (xF fMove [a1] fun v8 =>xF (fBin .lss .no) [v8, .int .i64 0] fun v9 =>xF fPick [.bool false, .bool true, v9] fun v10 =>xF fMove [v10] fun v11 =>xIf v11
 (xF fPick [.bool true, .bool true, undef] fun v19 =>J1 [a0, a1, v19] [] σ)
 (xF fMove [a1] fun v12 =>xF fMove [a0] fun v13 =>xF fNil [v13] fun v14 =>xF (fFld 0) [v14] fun v15 =>hLoad 1 false [v15] (fun v16 σ =>xF fLen [v16] fun v17 =>xF (fBin .geq .no) [v12, v17] fun v18 =>xF fPick [.bool false, .bool true, v18] fun v19 =>J1 [a0, a1, v19] [] σ) σ))
def s_bz : Spec := fun args K σ => match args with
  | [a0, a1] => w_bz a0 a1 K σ
  | _ => False
noncomputable def cx_bz : Cx := { P := Try.prog, T := [], loc := [], eqt := [(25, .ptr)], n := 36, keep := [(1000003, [0, 1, 19], [])] }
theorem q_bz : FnS cx_bz Try.f66 (bodyOf Try.f66) 2 = s_bz := by
  funext args K σ
  rcases args with _ | ⟨a0, _ | ⟨a1, _ | ⟨b, r⟩⟩⟩ <;> kernel_rfl
theorem e_bz : Entry Try.prog 66 .write s_bz :=
  entry (C := cx_bz) TOk.nil mixedOk Try.func66 (by kernel_rfl) (by kernel_rfl) (by kernel_rfl) q_bz
attribute [irreducible] w_bz_j1b w_bz_j1 w_bz s_bz
def w_by_j1b (K : Value → Mem → Prop) (v0 v1 v2 : Value) (σ : Mem) : Prop :=xF fMove [v0] fun v34 =>xF fNil [v34] fun v35 =>xF (fFld 0) [v35] fun v36 =>hLoad 1 false [v36] (fun v37 σ =>xF fMove [v1] fun v38 =>xF fMove [v2] fun v39 =>xF (fIxS 1) [v37, v38] fun v40 =>hStore 1 [v40, v39] (fun _v σ =>K (.tuple #[]) σ) σ) σ
def w_by_j1 (K : Value → Mem → Prop) (ts : List Value) (ls : List (List Value)) (σ : Mem) : Prop := w_by_j1b K (ts.getD 0 poison) (ts.getD 1 poison) (ts.getD 2 poison) σ
def w_by (a0 a1 a2 : Value) (K : Value → Mem → Prop) (σ : Mem) : Prop :=xJoin (w_by_j1 K) fun J1 =>xF fMove [a0] fun v6 =>xF fMove [a0] fun v7 =>xF fNil [v7] fun v8 =>xF (fFld 0) [v8] fun v9 =>hLoad 1 false [v9] (fun v10 σ =>xF fMove [a1] fun v11 =>xF (fIxS 1) [v10, v11] fun v12 =>hLoad 1 false [v12] (fun v13 σ =>xF fMove [a2] fun v14 =>xF (fBin .neq .no) [v13, v14] fun v15 =>xF fNil [v6] fun v16 =>xF (fFld 4) [v16] fun v17 =>xF (fFld 2) [v17] fun v18 =>hStore 1 [v18, v15] (fun _v σ =>xF fMove [a0] fun v19 =>xF fNil [v19] fun v20 =>xF (fFld 4) [v20] fun v21 =>xF (fFld 2) [v21] fun v22 =>hLoad 1 false [v22] (fun v23 σ =>xIf v23
 (xF fMove [a0] fun v24 =>xF fNil [v24] fun v25 =>xF (fFld 1) [v25] fun v26 =>hLoad 1 false [v26] (fun v27 σ =>xF fMove [a1] fun v28 =>xF fMove [a0] fun v29 =>xF fNil [v29] fun v30 =>xF (fFld 2) [v30] fun v31 =>hLoad 1 false [v31] (fun v32 σ =>xF (fIxS 1) [v27, v28] fun v33 =>hStore 1 [v33, v32] (fun _v σ =>J1 [a0, a1, a2] [] σ) σ) σ) σ)
 (J1 [a0, a1, a2] [] σ)) σ) σ) σ) σ
def s_by : Spec := fun args K σ => match args with
  | [a0, a1, a2] => w_by a0 a1 a2 K σ
  | _ => False
noncomputable def cx_by : Cx := { P := Try.prog, T := [], loc := [], eqt := [], n := 41, keep := [(1000004, [0, 1, 2], [])] }
theorem q_by : FnS cx_by Try.f67 (bodyOf Try.f67) 3 = s_by := by
  funext args K σ
  rcases args with _ | ⟨a0, _ | ⟨a1, _ | ⟨a2, _ | ⟨b, r⟩⟩⟩⟩ <;> kernel_rfl
theorem e_by : Entry Try.prog 67 .write s_by :=
  entry (C := cx_by) TOk.nil mixedOk Try.func67 (by kernel_rfl) (by kernel_rfl) (by kernel_rfl) q_by
attribute [irreducible] w_by_j1b w_by_j1 w_by s_by
def w_bw (a0 a1 a2 : Value) (K : Value → Mem → Prop) (σ : Mem) : Prop :=xF fMove [.int .i64 0] fun v6 =>xF fMove [a0] fun v7 =>xF fMove [a1] fun v8 =>s_bz [v7, v8] (fun v9 σ =>xF (fUn .not) [v9] fun v10 =>xIf v10
 (xF fMove [.int .i64 2] fun v6 =>K v6 σ)
 (xF fMove [a0] fun v11 =>xF fMove [a1] fun v12 =>xF fMove [a2] fun v13 =>s_by [v11, v12, v13] (fun v14 σ =>xF fMove [.int .i64 0] fun v6 =>K v6 σ) σ)) σ
def s_bw : Spec := fun args K σ => match args with
  | [a0, a1, a2] => w_bw a0 a1 a2 K σ
  | _ => False
noncomputable def cx_bw : Cx := { P := Try.prog, T := [(66, .write, s_bz), (67, .write, s_by)], loc := [], eqt := [], n := 15, keep := [] }
theorem q_bw : FnS cx_bw Try.f28 (bodyOf Try.f28) 3 = s_bw := by
  funext args K σ
  rcases args with _ | ⟨a0, _ | ⟨a1, _ | ⟨a2, _ | ⟨b, r⟩⟩⟩⟩ <;> kernel_rfl
theorem e_bw : Entry Try.prog 28 .write s_bw :=
  entry (C := cx_bw) (TOk.cons e_bz (TOk.cons e_by TOk.nil)) mixedOk Try.func28 (by kernel_rfl) (by kernel_rfl) (by kernel_rfl) q_bw
attribute [irreducible] w_bw s_bw
def w_cx (a0 a1 : Value) (K : Value → Mem → Prop) (σ : Mem) : Prop :=xF fMove [.int .u64 0] fun v4 =>xF fMove [a0] fun v5 =>xF fMin [v5, .int .i64 65535] fun v6 =>xF (fBin .add .no) [v6, .int .i64 1] fun v7 =>s_c0 [v7, .int .i64 65536] (fun v8 σ =>xF fMove [a1] fun v9 =>s_c0 [v9, .int .i64 68719476735] (fun v10 σ =>xF (fBin .shl .no) [v10, .int .u64 17] fun v11 =>xF (fBin .or .no) [v8, v11] fun v12 =>xF fMove [v12] fun v4 =>K v4 σ) σ) σ
def s_cx : Spec := fun args K σ => match args with
  | [a0, a1] => w_cx a0 a1 K σ
  | _ => False
noncomputable def cx_cx : Cx := { P := Try.prog, T := [(68, .none, s_c0)], loc := [], eqt := [], n := 13, keep := [] }
theorem q_cx : FnS cx_cx Try.f31 (bodyOf Try.f31) 2 = s_cx := by
  funext args K σ
  rcases args with _ | ⟨a0, _ | ⟨a1, _ | ⟨b, r⟩⟩⟩ <;> kernel_rfl
theorem e_cx : Entry Try.prog 31 .none s_cx :=
  entry (C := cx_cx) (TOk.cons e_c0 TOk.nil) mixedOk Try.func31 (by kernel_rfl) (by kernel_rfl) (by kernel_rfl) q_cx
attribute [irreducible] w_cx s_cx
def w_bp (K : Value → Mem → Prop) (σ : Mem) : Prop :=xF fMove [.int .i64 0] fun v0 =>xF fMove [.int .i64 1] fun v0 =>K v0 σ
def s_bp : Spec := fun args K σ => match args with
  | [] => w_bp  K σ
  | _ => False
noncomputable def cx_bp : Cx := { P := Try.prog, T := [], loc := [], eqt := [], n := 1, keep := [] }
theorem q_bp : FnS cx_bp Try.f32 (bodyOf Try.f32) 0 = s_bp := by
  funext args K σ
  rcases args with _ | ⟨b, r⟩ <;> kernel_rfl
theorem e_bp : Entry Try.prog 32 .none s_bp :=
  entry (C := cx_bp) TOk.nil mixedOk Try.func32 (by kernel_rfl) (by kernel_rfl) (by kernel_rfl) q_bp
attribute [irreducible] w_bp s_bp
def w_bi_j1b (K : Value → Mem → Prop) (v4 : Value) (c1 : List Value) (σ : Mem) : Prop :=xF fMove [v4] fun v41 =>xO (gLoad 7 true [(locP 1)] c1) fun v42 =>xF (fFld 1) [(locP 1)] fun v43 =>xO (gLoad 1 false [v43] c1) fun v44 =>xF (fBin .sub .no) [v44, .int .i64 1] fun v45 =>s_bo [v42, v45] (fun v46 σ =>xF (fBin .add .no) [v46, .int .i64 1] fun v47 =>s_cx [(.int .i64 (-1)), .int .i64 0] (fun v48 σ =>s_bw [v41, v47, v48] (fun v49 σ =>xF fMove [v4] fun v50 =>s_bp [] (fun v51 σ =>s_cx [.int .i64 0, .int .i64 0] (fun v52 σ =>s_bw [v50, v51, v52] (fun v53 σ =>xF fMove [v4] fun v54 =>xF fMove [v54] fun v2 =>xF fMove [.int .i64 0] fun v3 =>K (.tuple #[v2, v3]) σ) σ) σ) σ) σ) σ) σ
def w_bi_j1 (K : Value → Mem → Prop) (ts : List Value) (ls : List (List Value)) (σ : Mem) : Prop := w_bi_j1b K (ts.getD 0 poison) (ls.getD 0 []) σ
def w_layout_Fresh_l8b (K : Value → Mem → Prop) (J1 : List Value → List (List Value) → Mem → Prop) (R1 : List Value → List (List Value) → Mem → Prop) (v4 v20 v21 : Value) (c1 : List Value) (σ : Mem) : Prop :=xF (fBin .lss .no) [v21, v20] fun v22 =>xIf v22
 (xF fMove [v21] fun v23 =>xF fMove [v23] fun v6 =>xF fMove [v4] fun v24 =>xO (gLoad 7 true [(locP 1)] c1) fun v25 =>xF fMove [v6] fun v26 =>s_bo [v25, v26] (fun v27 σ =>xF (fBuild [(0, 1), (1, 1), (2, 1), (3, 1)] [.int .i64 0, .int .i64 0, .int .i64 0, .int .i64 0] [2]) [.int .i64 1] fun v28 =>s_cw [v28] (fun v29 σ =>s_bw [v24, v27, v29] (fun v30 σ =>xF fMove [v4] fun v31 =>xO (gLoad 7 true [(locP 1)] c1) fun v32 =>xF fMove [v6] fun v33 =>s_bo [v32, v33] (fun v34 σ =>xF (fBin .add .no) [v34, .int .i64 1] fun v35 =>xF fMove [v6] fun v36 =>xF (fBin .add .no) [v36, .int .i64 1] fun v37 =>s_cx [v37, .int .i64 0] (fun v38 σ =>s_bw [v31, v35, v38] (fun v39 σ =>xF (fBin .add .no) [v21, .int .i64 1] fun v40 =>xF fMove [v40] fun v21 =>R1 [v4, v20, v21] [c1] σ) σ) σ) σ) σ) σ) σ)
 (J1 [v4] [c1] σ)
def w_layout_Fresh_l8 (K : Value → Mem → Prop) (J1 : List Value → List (List Value) → Mem → Prop) (R1 : List Value → List (List Value) → Mem → Prop) (ts : List Value) (ls : List (List Value)) (σ : Mem) : Prop := w_layout_Fresh_l8b K J1 R1 (ts.getD 0 poison) (ts.getD 1 poison) (ts.getD 2 poison) (ls.getD 0 []) σ
def w_bi (a0 : Value) (K : Value → Mem → Prop) (σ : Mem) : Prop :=xC (gBox 7 [a0] []) fun c1 =>xF fMove [.pointer none] fun v2 =>xF fMove [.int .i64 0] fun v3 =>xO (gLoad 7 true [(locP 1)] c1) fun v7 =>s_a9 [v7] (fun v8 σ =>xF (fUn .not) [v8] fun v9 =>xIf v9
 (xF fMove [.pointer none] fun v2 =>xF fMove [.int .i64 1] fun v3 =>K (.tuple #[v2, v3]) σ)
 (xO (gLoad 7 true [(locP 1)] c1) fun v11 =>s_bj [v11] (fun v12 σ =>s_b0 [v12] (fun v13 σ =>xF fMove [v13] fun v10 =>xF (fExt 0) [v10] fun v14 =>xF (fExt 1) [v10] fun v15 =>xF fMove [v14] fun v4 =>xF fMove [v15] fun v5 =>xF fMove [v5] fun v16 =>xF (fBin .neq .no) [v16, .int .i64 0] fun v17 =>xIf v17
 (xF fMove [v5] fun v18 =>xF fMove [.pointer none] fun v2 =>xF fMove [v18] fun v3 =>K (.tuple #[v2, v3]) σ)
 (xJoin (w_bi_j1 K) fun J1 =>xF (fFld 1) [(locP 1)] fun v19 =>xO (gLoad 1 false [v19] c1) fun v20 =>xF fMove [.int .i64 0] fun v21 =>xLoop (w_layout_Fresh_l8 K J1) [v4, v20, v21] [c1] σ)) σ) σ)) σ
def s_bi : Spec := fun args K σ => match args with
  | [a0] => w_bi a0 K σ
  | _ => False
noncomputable def cx_bi : Cx := { P := Try.prog, T := [(25, .none, s_a9), (27, .none, s_bj), (26, .write, s_b0), (29, .none, s_bo), (30, .none, s_cw), (28, .write, s_bw), (31, .none, s_cx), (32, .none, s_bp)], loc := [(1, 1), (19, 1), (43, 1)], eqt := [], n := 55, keep := [(8, [4, 20, 21], [1]), (1000013, [4], [1])] }
theorem q_bi : FnS cx_bi Try.f16 (bodyOf Try.f16) 1 = s_bi := by
  funext args K σ
  rcases args with _ | ⟨a0, _ | ⟨b, r⟩⟩ <;> kernel_rfl
theorem e_bi : Entry Try.prog 16 .write s_bi :=
  entry (C := cx_bi) (TOk.cons e_a9 (TOk.cons e_bj (TOk.cons e_b0 (TOk.cons e_bo (TOk.cons e_cw (TOk.cons e_bw (TOk.cons e_cx (TOk.cons e_bp TOk.nil)))))))) mixedOk Try.func16 (by kernel_rfl) (by kernel_rfl) (by kernel_rfl) q_bi
attribute [irreducible] w_bi_j1b w_bi_j1 w_layout_Fresh_l8b w_layout_Fresh_l8 w_bi s_bi
def w_a1 (a0 a1 a2 a3 : Value) (K : Value → Mem → Prop) (σ : Mem) : Prop :=xF fMove [.bool false] fun v9 =>xF fMove [a0] fun v13 =>xF fMove [a1] fun v14 =>xF fMove [a2] fun v15 =>xF fMove [a3] fun v16 =>xF (fBuild [(0, 1), (1, 1), (2, 1), (3, 1), (4, 1), (5, 1), (6, 1)] [.int .i64 0, .int .i64 0, .int .i64 0, .int .i64 0, .int .i64 0, .int .i64 0, .int .i64 0] [0, 1, 2, 3, 4, 5, 6]) [v13, v14, v15, v16, .int .i64 100, .int .i64 600, .int .i64 3] fun v17 =>xC (gStore 7 [(locP 10), v17] [.int .i64 0, .int .i64 0, .int .i64 0, .int .i64 0, .int .i64 0, .int .i64 0, .int .i64 0]) fun c10 =>xO (gLoad 7 true [(locP 10)] c10) fun v19 =>s_bi [v19] (fun v20 σ =>xF fMove [v20] fun v18 =>xF (fExt 0) [v18] fun v21 =>xF (fExt 1) [v18] fun v22 =>xF fMove [v21] fun v11 =>xF fMove [v22] fun v12 =>xO (gLoad 7 true [(locP 10)] c10) fun v23 =>xF fMove [v11] fun v24 =>xF (fBuild [(0, 7), (7, 1), (8, 1)] [.int .i64 0, .int .i64 0, .int .i64 0, .int .i64 0, .int .i64 0, .int .i64 0, .int .i64 0, .pointer none, .int .i64 0] [0, 1]) [v23, v24] fun v25 =>xF fMove [v12] fun v26 =>xF (fBin .eql .no) [v26, .int .i64 0] fun v27 =>xC (gStore 9 [(locP 8), v25] [.int .i64 0, .int .i64 0, .int .i64 0, .int .i64 0, .int .i64 0, .int .i64 0, .int .i64 0, .pointer none, .int .i64 0]) fun c8 =>xF fMove [v27] fun v9 =>xO (gLoad 9 true [(locP 8)] c8) fun r8 =>K (.tuple #[r8, v9]) σ) σ
def s_a1 : Spec := fun args K σ => match args with
  | [a0, a1, a2, a3] => w_a1 a0 a1 a2 a3 K σ
  | _ => False
noncomputable def cx_a1 : Cx := { P := Try.prog, T := [(16, .write, s_bi)], loc := [(8, 8), (10, 10)], eqt := [], n := 28, keep := [] }
theorem q_a1 : FnS cx_a1 Try.f4 (bodyOf Try.f4) 4 = s_a1 := by
  funext args K σ
  rcases args with _ | ⟨a0, _ | ⟨a1, _ | ⟨a2, _ | ⟨a3, _ | ⟨b, r⟩⟩⟩⟩⟩ <;> kernel_rfl
theorem e_a1 : Entry Try.prog 4 .write s_a1 :=
  entry (C := cx_a1) (TOk.cons e_bi TOk.nil) mixedOk Try.func4 (by kernel_rfl) (by kernel_rfl) (by kernel_rfl) q_a1
attribute [irreducible] w_a1 s_a1
def w_ae (a0 a1 : Value) (K : Value → Mem → Prop) (σ : Mem) : Prop :=xF fMove [.pointer none] fun v4 =>xF fMove [a0] fun v5 =>xF fMove [a1] fun v6 =>xF (fBuild [(0, 1), (1, 1), (2, 1), (3, 5), (8, 1), (9, 1), (10, 1), (11, 2), (13, 1), (14, 4)] [.int .i64 0, .bool false, .int .i64 0, .int .i64 0, .int .u64 0, .int .i64 0, .int .i64 0, .bool false, .int .i64 0, .int .i64 0, .pointer none, .int .i64 0, .int .i64 0, .pointer none, .int .i64 0, .int .u64 0, .int .i64 0, .int .i64 0] [0, 1]) [v5, v6] fun v7 =>hBox 18 [v7] (fun v8 σ =>xF fMove [v8] fun v4 =>K v4 σ) σ
def s_ae : Spec := fun args K σ => match args with
  | [a0, a1] => w_ae a0 a1 K σ
  | _ => False
noncomputable def cx_ae : Cx := { P := Try.prog, T := [], loc := [], eqt := [], n := 9, keep := [] }
theorem q_ae : FnS cx_ae Try.f18 (bodyOf Try.f18) 2 = s_ae := by
  funext args K σ
  rcases args with _ | ⟨a0, _ | ⟨a1, _ | ⟨b, r⟩⟩⟩ <;> kernel_rfl
theorem e_ae : Entry Try.prog 18 .write s_ae :=
  entry (C := cx_ae) TOk.nil mixedOk Try.func18 (by kernel_rfl) (by kernel_rfl) (by kernel_rfl) q_ae
attribute [irreducible] w_ae s_ae
def w_bb_j1b (K : Value → Mem → Prop) (σ : Mem) : Prop :=xF fMove [(.int .i64 (-1))] fun v2 =>K v2 σ
def w_bb_j1 (K : Value → Mem → Prop) (ts : List Value) (ls : List (List Value)) (σ : Mem) : Prop := w_bb_j1b K σ
def w_bb_j2b (K : Value → Mem → Prop) (J1 : List Value → List (List Value) → Mem → Prop) (R1 : List Value → List (List Value) → Mem → Prop) (v0 v3 v4 v14 : Value) (σ : Mem) : Prop :=xIf v14
 (xF fMove [v3] fun v15 =>xF fMove [v15] fun v2 =>K v2 σ)
 (xF (fBin .add .no) [v4, .int .i64 1] fun v16 =>xF fMove [v16] fun v4 =>R1 [v0, v4] [] σ)
def w_bb_j2 (K : Value → Mem → Prop) (J1 : List Value → List (List Value) → Mem → Prop) (R1 : List Value → List (List Value) → Mem → Prop) (ts : List Value) (ls : List (List Value)) (σ : Mem) : Prop := w_bb_j2b K J1 R1 (ts.getD 0 poison) (ts.getD 1 poison) (ts.getD 2 poison) (ts.getD 3 poison) σ
def w_layout_Class_l3b (K : Value → Mem → Prop) (J1 : List Value → List (List Value) → Mem → Prop) (R1 : List Value → List (List Value) → Mem → Prop) (v0 v4 : Value) (σ : Mem) : Prop :=xF (fBin .lss .no) [v4, .int .i64 4] fun v5 =>xIf v5
 (xF fMove [v4] fun v6 =>xF fMove [v6] fun v3 =>xJoin (w_bb_j2 K J1 R1) fun J2 =>xF fMove [v0] fun v7 =>xF (fBin .geq .no) [v7, .int .i64 1] fun v8 =>xF fMove [v8] fun v9 =>xIf v9
 (xF fMove [v0] fun v10 =>xF fMove [v3] fun v11 =>xF (fBin .shl .no) [.int .i64 2, v11] fun v12 =>xF (fBin .leq .no) [v10, v12] fun v13 =>xF fPick [.bool true, v13, .bool false] fun v14 =>J2 [v0, v3, v4, v14] [] σ)
 (xF fPick [.bool false, undef, .bool false] fun v14 =>J2 [v0, v3, v4, v14] [] σ))
 (J1 [] [] σ)
def w_layout_Class_l3 (K : Value → Mem → Prop) (J1 : List Value → List (List Value) → Mem → Prop) (R1 : List Value → List (List Value) → Mem → Prop) (ts : List Value) (ls : List (List Value)) (σ : Mem) : Prop := w_layout_Class_l3b K J1 R1 (ts.getD 0 poison) (ts.getD 1 poison) σ
def w_bb (a0 : Value) (K : Value → Mem → Prop) (σ : Mem) : Prop :=xF fMove [.int .i64 0] fun v2 =>xJoin (w_bb_j1 K) fun J1 =>xF fMove [.int .i64 0] fun v4 =>xLoop (w_layout_Class_l3 K J1) [a0, v4] [] σ
def s_bb : Spec := fun args K σ => match args with
  | [a0] => w_bb a0 K σ
  | _ => False
noncomputable def cx_bb : Cx := { P := Try.prog, T := [], loc := [], eqt := [], n := 17, keep := [(3, [0, 4], []), (1000006, [0, 3, 4, 14], []), (1000008, [], [])] }
theorem q_bb : FnS cx_bb Try.f33 (bodyOf Try.f33) 1 = s_bb := by
  funext args K σ
  rcases args with _ | ⟨a0, _ | ⟨b, r⟩⟩ <;> kernel_rfl
theorem e_bb : Entry Try.prog 33 .write s_bb :=
  entry (C := cx_bb) TOk.nil mixedOk Try.func33 (by kernel_rfl) (by kernel_rfl) (by kernel_rfl) q_bb
attribute [irreducible] w_bb_j1b w_bb_j1 w_bb_j2b w_bb_j2 w_layout_Class_l3b w_layout_Class_l3 w_bb s_bb
def w_bv (a0 : Value) (K : Value → Mem → Prop) (σ : Mem) : Prop :=xF fMove [.int .i64 0] fun v2 =>xF fMove [a0] fun v3 =>xF (fBin .eql .ptr) [v3, .pointer none] fun v4 =>xIf v4
 (xF fMove [.int .i64 0] fun v2 =>K v2 σ)
 (xF fMove [a0] fun v5 =>xF fNil [v5] fun v6 =>xF (fFld 2) [v6] fun v7 =>hLoad 1 false [v7] (fun v8 σ =>xF fMove [v8] fun v2 =>K v2 σ) σ)
def s_bv : Spec := fun args K σ => match args with
  | [a0] => w_bv a0 K σ
  | _ => False
noncomputable def cx_bv : Cx := { P := Try.prog, T := [], loc := [], eqt := [(25, .ptr)], n := 9, keep := [] }
theorem q_bv : FnS cx_bv Try.f78 (bodyOf Try.f78) 1 = s_bv := by
  funext args K σ
  rcases args with _ | ⟨a0, _ | ⟨b, r⟩⟩ <;> kernel_rfl
theorem e_bv : Entry Try.prog 78 .read s_bv :=
  entry (C := cx_bv) TOk.nil mixedOk Try.func78 (by kernel_rfl) (by kernel_rfl) (by kernel_rfl) q_bv
attribute [irreducible] w_bv s_bv
def w_bf (a0 : Value) (K : Value → Mem → Prop) (σ : Mem) : Prop :=xC (gBox 9 [a0] []) fun c1 =>xF fMove [.int .i64 0] fun v2 =>xF (fFld 7) [(locP 1)] fun v3 =>xO (gLoad 1 false [v3] c1) fun v4 =>s_bv [v4] (fun v5 σ =>xF fMove [v5] fun v2 =>K v2 σ) σ
def s_bf : Spec := fun args K σ => match args with
  | [a0] => w_bf a0 K σ
  | _ => False
noncomputable def cx_bf : Cx := { P := Try.prog, T := [(78, .read, s_bv)], loc := [(1, 1), (3, 1)], eqt := [], n := 6, keep := [] }
theorem q_bf : FnS cx_bf Try.f48 (bodyOf Try.f48) 1 = s_bf := by
  funext args K σ
  rcases args with _ | ⟨a0, _ | ⟨b, r⟩⟩ <;> kernel_rfl
theorem e_bf : Entry Try.prog 48 .read s_bf :=
  entry (C := cx_bf) (TOk.cons e_bv TOk.nil) mixedOk Try.func48 (by kernel_rfl) (by kernel_rfl) (by kernel_rfl) q_bf
attribute [irreducible] w_bf s_bf
def w_ac (a0 a1 a2 : Value) (K : Value → Mem → Prop) (σ : Mem) : Prop :=xC (gBox 9 [a1] []) fun c4 =>xF fMove [a0] fun v6 =>xF fMove [a2] fun v7 =>xO (gLoad 9 true [(locP 4)] c4) fun v8 =>s_bf [v8] (fun v9 σ =>xF (fBuild [(0, 1), (1, 1), (2, 1), (3, 1)] [.int .i64 0, .int .u64 0, .int .i64 0, .int .i64 0] [0, 3]) [v7, v9] fun v10 =>xF fNil [v6] fun v11 =>xF (fFld 14) [v11] fun v12 =>hStore 4 [v12, v10] (fun _v σ =>K (.tuple #[]) σ) σ) σ
def s_ac : Spec := fun args K σ => match args with
  | [a0, a1, a2] => w_ac a0 a1 a2 K σ
  | _ => False
noncomputable def cx_ac : Cx := { P := Try.prog, T := [(48, .read, s_bf)], loc := [(4, 4)], eqt := [], n := 13, keep := [] }
theorem q_ac : FnS cx_ac Try.f34 (bodyOf Try.f34) 3 = s_ac := by
  funext args K σ
  rcases args with _ | ⟨a0, _ | ⟨a1, _ | ⟨a2, _ | ⟨b, r⟩⟩⟩⟩ <;> kernel_rfl
theorem e_ac : Entry Try.prog 34 .write s_ac :=
  entry (C := cx_ac) (TOk.cons e_bf TOk.nil) mixedOk Try.func34 (by kernel_rfl) (by kernel_rfl) (by kernel_rfl) q_ac
attribute [irreducible] w_ac s_ac
def w_br (a0 a1 : Value) (K : Value → Mem → Prop) (σ : Mem) : Prop :=xF fMove [a0] fun v4 =>xF (fBin .neq .ptr) [v4, .pointer none] fun v5 =>xIf v5
 (xF fMove [a0] fun v6 =>xF fMove [a1] fun v7 =>xF fNil [v6] fun v8 =>xF (fFld 3) [v8] fun v9 =>hStore 1 [v9, v7] (fun _v σ =>K (.tuple #[]) σ) σ)
 (K (.tuple #[]) σ)
def s_br : Spec := fun args K σ => match args with
  | [a0, a1] => w_br a0 a1 K σ
  | _ => False
noncomputable def cx_br : Cx := { P := Try.prog, T := [], loc := [], eqt := [(25, .ptr)], n := 10, keep := [] }
theorem q_br : FnS cx_br Try.f70 (bodyOf Try.f70) 2 = s_br := by
  funext args K σ
  rcases args with _ | ⟨a0, _ | ⟨a1, _ | ⟨b, r⟩⟩⟩ <;> kernel_rfl
theorem e_br : Entry Try.prog 70 .write s_br :=
  entry (C := cx_br) TOk.nil mixedOk Try.func70 (by kernel_rfl) (by kernel_rfl) (by kernel_rfl) q_br
attribute [irreducible] w_br s_br
def w_bt (a0 a1 : Value) (K : Value → Mem → Prop) (σ : Mem) : Prop :=xF fMove [.int .u64 0] fun v4 =>xF fMove [.int .i64 0] fun v5 =>xF fMove [a0] fun v6 =>xF fMove [a1] fun v7 =>s_bz [v6, v7] (fun v8 σ =>xF (fUn .not) [v8] fun v9 =>xIf v9
 (xF fMove [.int .u64 0] fun v4 =>xF fMove [.int .i64 2] fun v5 =>K (.tuple #[v4, v5]) σ)
 (xF fMove [a0] fun v10 =>xF fNil [v10] fun v11 =>xF (fFld 0) [v11] fun v12 =>hLoad 1 false [v12] (fun v13 σ =>xF fMove [a1] fun v14 =>xF (fIxS 1) [v13, v14] fun v15 =>hLoad 1 false [v15] (fun v16 σ =>xF fMove [v16] fun v4 =>xF fMove [.int .i64 0] fun v5 =>K (.tuple #[v4, v5]) σ) σ) σ)) σ
def s_bt : Spec := fun args K σ => match args with
  | [a0, a1] => w_bt a0 a1 K σ
  | _ => False
noncomputable def cx_bt : Cx := { P := Try.prog, T := [(66, .write, s_bz)], loc := [], eqt := [], n := 17, keep := [] }
theorem q_bt : FnS cx_bt Try.f71 (bodyOf Try.f71) 2 = s_bt := by
  funext args K σ
  rcases args with _ | ⟨a0, _ | ⟨a1, _ | ⟨b, r⟩⟩⟩ <;> kernel_rfl
theorem e_bt : Entry Try.prog 71 .write s_bt :=
  entry (C := cx_bt) (TOk.cons e_bz TOk.nil) mixedOk Try.func71 (by kernel_rfl) (by kernel_rfl) (by kernel_rfl) q_bt
attribute [irreducible] w_bt s_bt
def w_be (a0 a1 : Value) (K : Value → Mem → Prop) (σ : Mem) : Prop :=xC (gBox 9 [a0] []) fun c2 =>xF fMove [.int .u64 0] fun v4 =>xF (fFld 7) [(locP 2)] fun v7 =>xO (gLoad 1 false [v7] c2) fun v8 =>xF (fFld 8) [(locP 2)] fun v9 =>xO (gLoad 1 false [v9] c2) fun v10 =>s_br [v8, v10] (fun v11 σ =>xF (fFld 7) [(locP 2)] fun v13 =>xO (gLoad 1 false [v13] c2) fun v14 =>xF fMove [a1] fun v15 =>s_bt [v14, v15] (fun v16 σ =>xF fMove [v16] fun v12 =>xF (fExt 0) [v12] fun v17 =>xF (fExt 1) [v12] fun v18 =>xF fMove [v17] fun v5 =>xF fMove [v18] fun v6 =>xF fMove [v5] fun v19 =>xF fMove [v19] fun v4 =>K v4 σ) σ) σ
def s_be : Spec := fun args K σ => match args with
  | [a0, a1] => w_be a0 a1 K σ
  | _ => False
noncomputable def cx_be : Cx := { P := Try.prog, T := [(70, .write, s_br), (71, .write, s_bt)], loc := [(2, 2), (7, 2), (9, 2), (13, 2)], eqt := [], n := 20, keep := [] }
theorem q_be : FnS cx_be Try.f38 (bodyOf Try.f38) 2 = s_be := by
  funext args K σ
  rcases args with _ | ⟨a0, _ | ⟨a1, _ | ⟨b, r⟩⟩⟩ <;> kernel_rfl
theorem e_be : Entry Try.prog 38 .write s_be :=
  entry (C := cx_be) (TOk.cons e_br (TOk.cons e_bt TOk.nil)) mixedOk Try.func38 (by kernel_rfl) (by kernel_rfl) (by kernel_rfl) q_be
attribute [irreducible] w_be s_be
def w_cz (a0 : Value) (K : Value → Mem → Prop) (σ : Mem) : Prop :=xF fMove [.int .i64 0] fun v2 =>xF fMove [.int .i64 0] fun v3 =>xF fMove [a0] fun v4 =>xF (fBin .and .no) [v4, .int .u64 131071] fun v5 =>xF (fConv .i64) [v5] fun v6 =>xF (fBin .sub .no) [v6, .int .i64 1] fun v7 =>xF fMove [a0] fun v8 =>xF (fBin .shr .no) [v8, .int .u64 17] fun v9 =>xF (fBin .and .no) [v9, .int .u64 68719476735] fun v10 =>xF (fConv .i64) [v10] fun v11 =>xF fMove [v7] fun v2 =>xF fMove [v11] fun v3 =>K (.tuple #[v2, v3]) σ
def s_cz : Spec := fun args K σ => match args with
  | [a0] => w_cz a0 K σ
  | _ => False
noncomputable def cx_cz : Cx := { P := Try.prog, T := [], loc := [], eqt := [], n := 12, keep := [] }
theorem q_cz : FnS cx_cz Try.f69 (bodyOf Try.f69) 1 = s_cz := by
  funext args K σ
  rcases args with _ | ⟨a0, _ | ⟨b, r⟩⟩ <;> kernel_rfl
theorem e_cz : Entry Try.prog 69 .none s_cz :=
  entry (C := cx_cz) TOk.nil mixedOk Try.func69 (by kernel_rfl) (by kernel_rfl) (by kernel_rfl) q_cz
attribute [irreducible] w_cz s_cz
def w_bs (a0 a1 a2 a3 : Value) (K : Value → Mem → Prop) (σ : Mem) : Prop :=xF fMove [.bool false] fun v8 =>xF fMove [.int .i64 0] fun v9 =>xF fMove [a0] fun v10 =>xF fMove [a1] fun v11 =>s_bz [v10, v11] (fun v12 σ =>xF (fUn .not) [v12] fun v13 =>xIf v13
 (xF fMove [.bool false] fun v8 =>xF fMove [.int .i64 2] fun v9 =>K (.tuple #[v8, v9]) σ)
 (xF fMove [a0] fun v14 =>xF fNil [v14] fun v15 =>xF (fFld 0) [v15] fun v16 =>hLoad 1 false [v16] (fun v17 σ =>xF fMove [a1] fun v18 =>xF (fIxS 1) [v17, v18] fun v19 =>hLoad 1 false [v19] (fun v20 σ =>xF fMove [a2] fun v21 =>xF (fBin .neq .no) [v20, v21] fun v22 =>xIf v22
 (xF fMove [.bool false] fun v8 =>xF fMove [.int .i64 0] fun v9 =>K (.tuple #[v8, v9]) σ)
 (xF fMove [a0] fun v23 =>xF fMove [a1] fun v24 =>xF fMove [a3] fun v25 =>s_by [v23, v24, v25] (fun v26 σ =>xF fMove [.bool true] fun v8 =>xF fMove [.int .i64 0] fun v9 =>K (.tuple #[v8, v9]) σ) σ)) σ) σ)) σ
def s_bs : Spec := fun args K σ => match args with
  | [a0, a1, a2, a3] => w_bs a0 a1 a2 a3 K σ
  | _ => False
noncomputable def cx_bs : Cx := { P := Try.prog, T := [(66, .write, s_bz), (67, .write, s_by)], loc := [], eqt := [], n := 27, keep := [] }
theorem q_bs : FnS cx_bs Try.f84 (bodyOf Try.f84) 4 = s_bs := by
  funext args K σ
  rcases args with _ | ⟨a0, _ | ⟨a1, _ | ⟨a2, _ | ⟨a3, _ | ⟨b, r⟩⟩⟩⟩⟩ <;> kernel_rfl
theorem e_bs : Entry Try.prog 84 .write s_bs :=
  entry (C := cx_bs) (TOk.cons e_bz (TOk.cons e_by TOk.nil)) mixedOk Try.func84 (by kernel_rfl) (by kernel_rfl) (by kernel_rfl) q_bs
attribute [irreducible] w_bs s_bs
def w_bd (a0 a1 a2 a3 : Value) (K : Value → Mem → Prop) (σ : Mem) : Prop :=xC (gBox 9 [a0] []) fun c4 =>xF fMove [.bool false] fun v8 =>xF (fFld 7) [(locP 4)] fun v11 =>xO (gLoad 1 false [v11] c4) fun v12 =>xF (fFld 8) [(locP 4)] fun v13 =>xO (gLoad 1 false [v13] c4) fun v14 =>s_br [v12, v14] (fun v15 σ =>xF (fFld 7) [(locP 4)] fun v17 =>xO (gLoad 1 false [v17] c4) fun v18 =>xF fMove [a1] fun v19 =>xF fMove [a2] fun v20 =>xF fMove [a3] fun v21 =>s_bs [v18, v19, v20, v21] (fun v22 σ =>xF fMove [v22] fun v16 =>xF (fExt 0) [v16] fun v23 =>xF (fExt 1) [v16] fun v24 =>xF fMove [v23] fun v9 =>xF fMove [v24] fun v10 =>xF fMove [v9] fun v25 =>xF fMove [v25] fun v8 =>K v8 σ) σ) σ
def s_bd : Spec := fun args K σ => match args with
  | [a0, a1, a2, a3] => w_bd a0 a1 a2 a3 K σ
  | _ => False
noncomputable def cx_bd : Cx := { P := Try.prog, T := [(70, .write, s_br), (84, .write, s_bs)], loc := [(4, 4), (11, 4), (13, 4), (17, 4)], eqt := [], n := 26, keep := [] }
theorem q_bd : FnS cx_bd Try.f59 (bodyOf Try.f59) 4 = s_bd := by
  funext args K σ
  rcases args with _ | ⟨a0, _ | ⟨a1, _ | ⟨a2, _ | ⟨a3, _ | ⟨b, r⟩⟩⟩⟩⟩ <;> kernel_rfl
theorem e_bd : Entry Try.prog 59 .write s_bd :=
  entry (C := cx_bd) (TOk.cons e_br (TOk.cons e_bs TOk.nil)) mixedOk Try.func59 (by kernel_rfl) (by kernel_rfl) (by kernel_rfl) q_bd
attribute [irreducible] w_bd s_bd
def w_cn_j1b (K : Value → Mem → Prop) (v0 : Value) (σ : Mem) : Prop :=xF fMove [v0] fun v88 =>xF fNil [v88] fun v89 =>xF (fFld 4) [v89] fun v90 =>hLoad 1 false [v90] (fun v91 σ =>xF fMove [v91] fun v4 =>K v4 σ) σ
def w_cn_j1 (K : Value → Mem → Prop) (ts : List Value) (ls : List (List Value)) (σ : Mem) : Prop := w_cn_j1b K (ts.getD 0 poison) σ
def w_cn (a0 a1 : Value) (K : Value → Mem → Prop) (σ : Mem) : Prop :=xC (gBox 9 [a1] []) fun c3 =>xF fMove [.bool false] fun v4 =>xJoin (w_cn_j1 K) fun J1 =>xF fMove [a0] fun v7 =>xF fNil [v7] fun v8 =>xF (fFld 0) [v8] fun v9 =>hLoad 1 false [v9] (fun v10 σ =>xF (fBin .eql .no) [v10, .int .i64 0] fun v40 =>xF fMove [v40] fun v39 =>xIf v39
 (xF fMove [a0] fun v41 =>xO (gLoad 9 true [(locP 3)] c3) fun v42 =>s_bp [] (fun v43 σ =>s_be [v42, v43] (fun v44 σ =>xF fNil [v41] fun v45 =>xF (fFld 1) [v45] fun v46 =>hStore 1 [v46, v44] (fun _v σ =>xF fMove [a0] fun v48 =>xF fMove [a0] fun v49 =>xF fNil [v49] fun v50 =>xF (fFld 1) [v50] fun v51 =>hLoad 1 false [v51] (fun v52 σ =>s_cz [v52] (fun v53 σ =>xF fMove [v53] fun v47 =>xF (fExt 0) [v47] fun v54 =>xF (fExt 1) [v47] fun v55 =>xF fNil [v48] fun v56 =>xF (fFld 3) [v56] fun v57 =>hStore 1 [v57, v54] (fun _v σ =>xF fMove [a0] fun v58 =>xF fNil [v58] fun v59 =>xF (fFld 0) [v59] fun v60 =>hStore 1 [v60, .int .i64 1] (fun _v σ =>xF fMove [a0] fun v61 =>xF fNil [v61] fun v62 =>xF (fFld 3) [v62] fun v63 =>hLoad 1 false [v63] (fun v64 σ =>xF (fBin .lss .no) [v64, .int .i64 0] fun v65 =>xF fMove [v65] fun v4 =>K v4 σ) σ) σ) σ) σ) σ) σ) σ) σ)
 (xF (fBin .eql .no) [v10, .int .i64 1] fun v67 =>xF fMove [v67] fun v66 =>xIf v66
 (xF fMove [a0] fun v69 =>xO (gLoad 9 true [(locP 3)] c3) fun v70 =>xF (fFld 0) [(locP 3)] fun v71 =>xO (gLoad 7 true [v71] c3) fun v72 =>xF fMove [a0] fun v73 =>xF fNil [v73] fun v74 =>xF (fFld 3) [v74] fun v75 =>hLoad 1 false [v75] (fun v76 σ =>s_bo [v72, v76] (fun v77 σ =>xF (fBin .add .no) [v77, .int .i64 1] fun v78 =>s_be [v70, v78] (fun v79 σ =>s_cz [v79] (fun v80 σ =>xF fMove [v80] fun v68 =>xF (fExt 0) [v68] fun v81 =>xF (fExt 1) [v68] fun v82 =>xF fNil [v69] fun v83 =>xF (fFld 2) [v83] fun v84 =>hStore 1 [v84, v81] (fun _v σ =>xF fMove [a0] fun v85 =>xF fNil [v85] fun v86 =>xF (fFld 0) [v86] fun v87 =>hStore 1 [v87, .int .i64 2] (fun _v σ =>J1 [a0] [] σ) σ) σ) σ) σ) σ) σ)
 (xF fMove [a0] fun v12 =>xF fNil [v12] fun v13 =>xF (fFld 1) [v13] fun v14 =>hLoad 1 false [v14] (fun v15 σ =>s_cz [v15] (fun v16 σ =>xF fMove [v16] fun v11 =>xF (fExt 0) [v11] fun v17 =>xF (fExt 1) [v11] fun v18 =>xF fMove [v17] fun v5 =>xF fMove [v18] fun v6 =>xF fMove [a0] fun v19 =>xF fNil [v19] fun v20 =>xF (fFld 0) [v20] fun v21 =>hStore 1 [v21, .int .i64 0] (fun _v σ =>xF fMove [a0] fun v22 =>xO (gLoad 9 true [(locP 3)] c3) fun v23 =>s_bp [] (fun v24 σ =>xF fMove [a0] fun v25 =>xF fNil [v25] fun v26 =>xF (fFld 1) [v26] fun v27 =>hLoad 1 false [v27] (fun v28 σ =>xF fMove [a0] fun v29 =>xF fNil [v29] fun v30 =>xF (fFld 2) [v30] fun v31 =>hLoad 1 false [v31] (fun v32 σ =>xF fMove [v6] fun v33 =>xF (fBin .add .no) [v33, .int .i64 1] fun v34 =>s_cx [v32, v34] (fun v35 σ =>s_bd [v23, v24, v28, v35] (fun v36 σ =>xF fNil [v22] fun v37 =>xF (fFld 4) [v37] fun v38 =>hStore 1 [v38, v36] (fun _v σ =>J1 [a0] [] σ) σ) σ) σ) σ) σ) σ) σ) σ) σ))) σ
def s_cn : Spec := fun args K σ => match args with
  | [a0, a1] => w_cn a0 a1 K σ
  | _ => False
noncomputable def cx_cn : Cx := { P := Try.prog, T := [(32, .none, s_bp), (38, .write, s_be), (69, .none, s_cz), (29, .none, s_bo), (31, .none, s_cx), (59, .write, s_bd)], loc := [(3, 3), (71, 3)], eqt := [], n := 92, keep := [(1000014, [0], [])] }
theorem q_cn : FnS cx_cn Try.f35 (bodyOf Try.f35) 2 = s_cn := by
  funext args K σ
  rcases args with _ | ⟨a0, _ | ⟨a1, _ | ⟨b, r⟩⟩⟩ <;> kernel_rfl
theorem e_cn : Entry Try.prog 35 .write s_cn :=
  entry (C := cx_cn) (TOk.cons e_bp (TOk.cons e_be (TOk.cons e_cz (TOk.cons e_bo (TOk.cons e_cx (TOk.cons e_bd TOk.nil)))))) mixedOk Try.func35 (by kernel_rfl) (by kernel_rfl) (by kernel_rfl) q_cn
attribute [irreducible] w_cn_j1b w_cn_j1 w_cn s_cn
def w_cm_j1b (K : Value → Mem → Prop) (v0 v12 : Value) (σ : Mem) : Prop :=xIf v12
 (xF fMove [.int .i64 0] fun v2 =>xF fMove [.bool false] fun v3 =>K (.tuple #[v2, v3]) σ)
 (xF fMove [v0] fun v13 =>xF fNil [v13] fun v14 =>xF (fFld 3) [v14] fun v15 =>hLoad 1 false [v15] (fun v16 σ =>xF fMove [v16] fun v2 =>xF fMove [.bool true] fun v3 =>K (.tuple #[v2, v3]) σ) σ)
def w_cm_j1 (K : Value → Mem → Prop) (ts : List Value) (ls : List (List Value)) (σ : Mem) : Prop := w_cm_j1b K (ts.getD 0 poison) (ts.getD 1 poison) σ
def w_cm (a0 : Value) (K : Value → Mem → Prop) (σ : Mem) : Prop :=xF fMove [.int .i64 0] fun v2 =>xF fMove [.bool false] fun v3 =>xJoin (w_cm_j1 K) fun J1 =>xF fMove [a0] fun v4 =>xF (fBin .eql .ptr) [v4, .pointer none] fun v5 =>xF fMove [v5] fun v6 =>xIf v6
 (xF fPick [.bool true, .bool true, undef] fun v12 =>J1 [a0, v12] [] σ)
 (xF fMove [a0] fun v7 =>xF fNil [v7] fun v8 =>xF (fFld 4) [v8] fun v9 =>hLoad 1 false [v9] (fun v10 σ =>xF (fUn .not) [v10] fun v11 =>xF fPick [.bool false, .bool true, v11] fun v12 =>J1 [a0, v12] [] σ) σ)
def s_cm : Spec := fun args K σ => match args with
  | [a0] => w_cm a0 K σ
  | _ => False
noncomputable def cx_cm : Cx := { P := Try.prog, T := [], loc := [], eqt := [(111, .ptr)], n := 17, keep := [(1000003, [0, 12], [])] }
theorem q_cm : FnS cx_cm Try.f36 (bodyOf Try.f36) 1 = s_cm := by
  funext args K σ
  rcases args with _ | ⟨a0, _ | ⟨b, r⟩⟩ <;> kernel_rfl
theorem e_cm : Entry Try.prog 36 .read s_cm :=
  entry (C := cx_cm) TOk.nil mixedOk Try.func36 (by kernel_rfl) (by kernel_rfl) (by kernel_rfl) q_cm
attribute [irreducible] w_cm_j1b w_cm_j1 w_cm s_cm
def w_cy (a0 : Value) (K : Value → Mem → Prop) (σ : Mem) : Prop :=if true = true then (xC (gAlloc [.int .i64 0, .int .i64 0, .int .i64 0, .int .i64 0] [] []) fun c2 =>xF fMove [a0] fun v3 =>xF (fBin .and .no) [v3, .int .u64 7] fun v4 =>xF (fConv .i64) [v4] fun v5 =>xF fMove [a0] fun v6 =>xF (fBin .shr .no) [v6, .int .u64 3] fun v7 =>xF (fBin .and .no) [v7, .int .u64 1048575] fun v8 =>xF (fConv .i64) [v8] fun v9 =>xF fMove [a0] fun v10 =>xF (fBin .shr .no) [v10, .int .u64 23] fun v11 =>xF (fBin .and .no) [v11, .int .u64 65535] fun v12 =>xF (fConv .i64) [v12] fun v13 =>xF fMove [a0] fun v14 =>xF (fBin .shr .no) [v14, .int .u64 39] fun v15 =>xF (fBin .and .no) [v15, .int .u64 4194303] fun v16 =>xF (fConv .i64) [v16] fun v17 =>xF (fBuild [(0, 1), (1, 1), (2, 1), (3, 1)] [.int .i64 0, .int .i64 0, .int .i64 0, .int .i64 0] [0, 1, 2, 3]) [v5, v9, v13, v17] fun v18 =>xC (gStore 4 [(locP 2), v18] c2) fun c2 =>xO (gLoad 4 true [(locP 2)] c2) fun r2 =>K r2 σ) else False
def s_cy : Spec := fun args K σ => match args with
  | [a0] => w_cy a0 K σ
  | _ => False
noncomputable def cx_cy : Cx := { P := Try.prog, T := [], loc := [(2, 2)], eqt := [], n := 19, keep := [] }
theorem q_cy : FnS cx_cy Try.f37 (bodyOf Try.f37) 1 = s_cy := by
  funext args K σ
  rcases args with _ | ⟨a0, _ | ⟨b, r⟩⟩ <;> kernel_rfl
theorem e_cy : Entry Try.prog 37 .none s_cy :=
  entry (C := cx_cy) TOk.nil mixedOk Try.func37 (by kernel_rfl) (by kernel_rfl) (by kernel_rfl) q_cy
attribute [irreducible] w_cy s_cy
def w_cb (a0 : Value) (K : Value → Mem → Prop) (σ : Mem) : Prop :=xF fMove [.pointer none] fun v2 =>xF fMove [a0] fun v3 =>xF (fBuild [(0, 1), (1, 1), (2, 1), (3, 1), (4, 1), (5, 2), (7, 1)] [.int .i64 0, .int .i64 0, .int .u64 0, .int .i64 0, .int .u64 0, .int .i64 0, .int .i64 0, .bool false] [0]) [v3] fun v4 =>hBox 8 [v4] (fun v5 σ =>xF fMove [v5] fun v2 =>K v2 σ) σ
def s_cb : Spec := fun args K σ => match args with
  | [a0] => w_cb a0 K σ
  | _ => False
noncomputable def cx_cb : Cx := { P := Try.prog, T := [], loc := [], eqt := [], n := 6, keep := [] }
theorem q_cb : FnS cx_cb Try.f39 (bodyOf Try.f39) 1 = s_cb := by
  funext args K σ
  rcases args with _ | ⟨a0, _ | ⟨b, r⟩⟩ <;> kernel_rfl
theorem e_cb : Entry Try.prog 39 .write s_cb :=
  entry (C := cx_cb) TOk.nil mixedOk Try.func39 (by kernel_rfl) (by kernel_rfl) (by kernel_rfl) q_cb
attribute [irreducible] w_cb s_cb
def w_bl (a0 : Value) (K : Value → Mem → Prop) (σ : Mem) : Prop :=xF fMove [.int .i64 0] fun v2 =>xF fMove [a0] fun v3 =>xF (fBin .add .no) [.int .i64 2, v3] fun v4 =>xF fMove [v4] fun v2 =>K v2 σ
def s_bl : Spec := fun args K σ => match args with
  | [a0] => w_bl a0 K σ
  | _ => False
noncomputable def cx_bl : Cx := { P := Try.prog, T := [], loc := [], eqt := [], n := 5, keep := [] }
theorem q_bl : FnS cx_bl Try.f9 (bodyOf Try.f9) 1 = s_bl := by
  funext args K σ
  rcases args with _ | ⟨a0, _ | ⟨b, r⟩⟩ <;> kernel_rfl
theorem e_bl : Entry Try.prog 9 .none s_bl :=
  entry (C := cx_bl) TOk.nil mixedOk Try.func9 (by kernel_rfl) (by kernel_rfl) (by kernel_rfl) q_bl
attribute [irreducible] w_bl s_bl
def w_ba (a0 a1 : Value) (K : Value → Mem → Prop) (σ : Mem) : Prop :=xC (gBox 7 [a0] []) fun c2 =>xF fMove [.int .i64 0] fun v4 =>xF (fFld 0) [(locP 2)] fun v5 =>xO (gLoad 1 false [v5] c2) fun v6 =>xF (fBin .add .no) [.int .i64 6, v6] fun v7 =>xF (fFld 1) [(locP 2)] fun v8 =>xO (gLoad 1 false [v8] c2) fun v9 =>xF (fBin .mul .no) [.int .i64 2, v9] fun v10 =>xF (fBin .add .no) [v7, v10] fun v11 =>xF fMove [a1] fun v12 =>xF (fBin .mul .no) [.int .i64 3, v12] fun v13 =>xF (fBin .add .no) [v11, v13] fun v14 =>xF fMove [v14] fun v4 =>K v4 σ
def s_ba : Spec := fun args K σ => match args with
  | [a0, a1] => w_ba a0 a1 K σ
  | _ => False
noncomputable def cx_ba : Cx := { P := Try.prog, T := [], loc := [(2, 2), (5, 2), (8, 2)], eqt := [], n := 15, keep := [] }
theorem q_ba : FnS cx_ba Try.f14 (bodyOf Try.f14) 2 = s_ba := by
  funext args K σ
  rcases args with _ | ⟨a0, _ | ⟨a1, _ | ⟨b, r⟩⟩⟩ <;> kernel_rfl
theorem e_ba : Entry Try.prog 14 .none s_ba :=
  entry (C := cx_ba) TOk.nil mixedOk Try.func14 (by kernel_rfl) (by kernel_rfl) (by kernel_rfl) q_ba
attribute [irreducible] w_ba s_ba
def w_cp (a0 : Value) (K : Value → Mem → Prop) (σ : Mem) : Prop :=if true = true then (xC (gAlloc [.int .i64 0, .int .i64 0, .int .i64 0, .int .i64 0] [] []) fun c2 =>xF fMove [a0] fun v3 =>xF (fBin .and .no) [v3, .int .u64 3] fun v4 =>xF (fConv .i64) [v4] fun v5 =>xF fMove [a0] fun v6 =>xF (fBin .shr .no) [v6, .int .u64 2] fun v7 =>xF (fBin .and .no) [v7, .int .u64 63] fun v8 =>xF (fConv .i64) [v8] fun v9 =>xF fMove [a0] fun v10 =>xF (fBin .shr .no) [v10, .int .u64 8] fun v11 =>xF (fBin .and .no) [v11, .int .u64 1048575] fun v12 =>xF (fConv .i64) [v12] fun v13 =>xF fMove [a0] fun v14 =>xF (fBin .shr .no) [v14, .int .u64 28] fun v15 =>xF (fBin .and .no) [v15, .int .u64 68719476735] fun v16 =>xF (fConv .i64) [v16] fun v17 =>xF (fBuild [(0, 1), (1, 1), (2, 1), (3, 1)] [.int .i64 0, .int .i64 0, .int .i64 0, .int .i64 0] [0, 1, 2, 3]) [v5, v9, v13, v17] fun v18 =>xC (gStore 4 [(locP 2), v18] c2) fun c2 =>xO (gLoad 4 true [(locP 2)] c2) fun r2 =>K r2 σ) else False
def s_cp : Spec := fun args K σ => match args with
  | [a0] => w_cp a0 K σ
  | _ => False
noncomputable def cx_cp : Cx := { P := Try.prog, T := [], loc := [(2, 2)], eqt := [], n := 19, keep := [] }
theorem q_cp : FnS cx_cp Try.f13 (bodyOf Try.f13) 1 = s_cp := by
  funext args K σ
  rcases args with _ | ⟨a0, _ | ⟨b, r⟩⟩ <;> kernel_rfl
theorem e_cp : Entry Try.prog 13 .none s_cp :=
  entry (C := cx_cp) TOk.nil mixedOk Try.func13 (by kernel_rfl) (by kernel_rfl) (by kernel_rfl) q_cp
attribute [irreducible] w_cp s_cp
def w_bn (a0 : Value) (K : Value → Mem → Prop) (σ : Mem) : Prop :=xF fMove [.int .i64 0] fun v2 =>xF fMove [a0] fun v3 =>xF (fBin .shl .no) [.int .i64 2, v3] fun v4 =>xF (fBin .add .no) [.int .i64 1, v4] fun v5 =>xF fMove [v5] fun v2 =>K v2 σ
def s_bn : Spec := fun args K σ => match args with
  | [a0] => w_bn a0 K σ
  | _ => False
noncomputable def cx_bn : Cx := { P := Try.prog, T := [], loc := [], eqt := [], n := 6, keep := [] }
theorem q_bn : FnS cx_bn Try.f44 (bodyOf Try.f44) 1 = s_bn := by
  funext args K σ
  rcases args with _ | ⟨a0, _ | ⟨b, r⟩⟩ <;> kernel_rfl
theorem e_bn : Entry Try.prog 44 .none s_bn :=
  entry (C := cx_bn) TOk.nil mixedOk Try.func44 (by kernel_rfl) (by kernel_rfl) (by kernel_rfl) q_bn
attribute [irreducible] w_bn s_bn
def w_ct (a0 : Value) (K : Value → Mem → Prop) (σ : Mem) : Prop :=xC (gBox 4 [a0] []) fun c1 =>xF fMove [.int .u64 0] fun v2 =>xF (fFld 0) [(locP 1)] fun v3 =>xO (gLoad 1 false [v3] c1) fun v4 =>s_c0 [v4, .int .i64 3] (fun v5 σ =>xF (fFld 1) [(locP 1)] fun v6 =>xO (gLoad 1 false [v6] c1) fun v7 =>s_c0 [v7, .int .i64 63] (fun v8 σ =>xF (fBin .shl .no) [v8, .int .u64 2] fun v9 =>xF (fBin .or .no) [v5, v9] fun v10 =>xF (fFld 2) [(locP 1)] fun v11 =>xO (gLoad 1 false [v11] c1) fun v12 =>s_c0 [v12, .int .i64 1048575] (fun v13 σ =>xF (fBin .shl .no) [v13, .int .u64 8] fun v14 =>xF (fBin .or .no) [v10, v14] fun v15 =>xF (fFld 3) [(locP 1)] fun v16 =>xO (gLoad 1 false [v16] c1) fun v17 =>s_c0 [v17, .int .i64 68719476735] (fun v18 σ =>xF (fBin .shl .no) [v18, .int .u64 28] fun v19 =>xF (fBin .or .no) [v15, v19] fun v20 =>xF fMove [v20] fun v2 =>K v2 σ) σ) σ) σ) σ
def s_ct : Spec := fun args K σ => match args with
  | [a0] => w_ct a0 K σ
  | _ => False
noncomputable def cx_ct : Cx := { P := Try.prog, T := [(68, .none, s_c0)], loc := [(1, 1), (3, 1), (6, 1), (11, 1), (16, 1)], eqt := [], n := 21, keep := [] }
theorem q_ct : FnS cx_ct Try.f75 (bodyOf Try.f75) 1 = s_ct := by
  funext args K σ
  rcases args with _ | ⟨a0, _ | ⟨b, r⟩⟩ <;> kernel_rfl
theorem e_ct : Entry Try.prog 75 .none s_ct :=
  entry (C := cx_ct) (TOk.cons e_c0 TOk.nil) mixedOk Try.func75 (by kernel_rfl) (by kernel_rfl) (by kernel_rfl) q_ct
attribute [irreducible] w_ct s_ct
def w_cf (a0 a1 : Value) (K : Value → Mem → Prop) (σ : Mem) : Prop :=xC (gBox 9 [a1] []) fun c3 =>xF fMove [.bool false] fun v4 =>xF fMove [a0] fun v7 =>xF fNil [v7] fun v8 =>xF (fFld 4) [v8] fun v9 =>hLoad 1 false [v9] (fun v10 σ =>s_cp [v10] (fun v11 σ =>xC (gStore 4 [(locP 5), v11] [.int .i64 0, .int .i64 0, .int .i64 0, .int .i64 0]) fun c5 =>xF (fFld 2) [(locP 5)] fun v12 =>xO (gLoad 1 false [v12] c5) fun v13 =>xF fMove [v13] fun v6 =>xF (fFld 2) [(locP 5)] fun v14 =>xO (gLoad 1 false [v14] c5) fun v15 =>xF fMove [a0] fun v16 =>xF fNil [v16] fun v17 =>xF (fFld 0) [v17] fun v18 =>hLoad 1 false [v18] (fun v19 σ =>s_bn [v19] (fun v20 σ =>xF (fBin .add .no) [v15, v20] fun v21 =>xF (fFld 2) [(locP 5)] fun v22 =>xC (gStore 1 [v22, v21] c5) fun c5 =>xF fMove [a0] fun v23 =>xF fNil [v23] fun v24 =>xF (fFld 1) [v24] fun v25 =>hStore 1 [v25, .int .i64 0] (fun _v σ =>xO (gLoad 9 true [(locP 3)] c3) fun v26 =>xF (fFld 0) [(locP 3)] fun v27 =>xO (gLoad 7 true [v27] c3) fun v28 =>xF fMove [a0] fun v29 =>xF fNil [v29] fun v30 =>xF (fFld 3) [v30] fun v31 =>hLoad 1 false [v31] (fun v32 σ =>s_ba [v28, v32] (fun v33 σ =>xF fMove [a0] fun v34 =>xF fNil [v34] fun v35 =>xF (fFld 4) [v35] fun v36 =>hLoad 1 false [v36] (fun v37 σ =>xO (gLoad 4 true [(locP 5)] c5) fun v38 =>s_ct [v38] (fun v39 σ =>s_bd [v26, v33, v37, v39] (fun v40 σ =>xF (fUn .not) [v40] fun v41 =>xIf v41
 (xF fMove [.bool false] fun v4 =>K v4 σ)
 (xF fMove [a0] fun v42 =>xF fMove [a0] fun v43 =>xF (fFld 0) [(locP 3)] fun v44 =>xO (gLoad 7 true [v44] c3) fun v45 =>xF fMove [a0] fun v46 =>xF fNil [v46] fun v47 =>xF (fFld 3) [v47] fun v48 =>hLoad 1 false [v48] (fun v49 σ =>s_a8 [v45, v49] (fun v50 σ =>xF fMove [v6] fun v51 =>xF (fBin .add .no) [v50, v51] fun v52 =>xF fMove [a0] fun v53 =>xF fNil [v53] fun v54 =>xF (fFld 3) [v54] fun v55 =>hLoad 1 false [v55] (fun v56 σ =>xF (fBuild [(0, 1), (1, 1)] [.int .i64 0, .int .i64 0] [0, 1]) [v52, v56] fun v57 =>xF fNil [v42] fun v58 =>xF (fFld 5) [v58] fun v59 =>hStore 2 [v59, v57] (fun _v σ =>xF fNil [v43] fun v60 =>xF (fFld 7) [v60] fun v61 =>hStore 1 [v61, .bool true] (fun _v σ =>xF fMove [.bool true] fun v4 =>K v4 σ) σ) σ) σ) σ) σ)) σ) σ) σ) σ) σ) σ) σ) σ) σ) σ
def s_cf : Spec := fun args K σ => match args with
  | [a0, a1] => w_cf a0 a1 K σ
  | _ => False
noncomputable def cx_cf : Cx := { P := Try.prog, T := [(13, .none, s_cp), (44, .none, s_bn), (14, .none, s_ba), (75, .none, s_ct), (59, .write, s_bd), (15, .none, s_a8)], loc := [(3, 3), (5, 5), (12, 5), (14, 5), (22, 5), (27, 3), (44, 3)], eqt := [], n := 62, keep := [] }
theorem q_cf : FnS cx_cf Try.f72 (bodyOf Try.f72) 2 = s_cf := by
  funext args K σ
  rcases args with _ | ⟨a0, _ | ⟨a1, _ | ⟨b, r⟩⟩⟩ <;> kernel_rfl
theorem e_cf : Entry Try.prog 72 .write s_cf :=
  entry (C := cx_cf) (TOk.cons e_cp (TOk.cons e_bn (TOk.cons e_ba (TOk.cons e_ct (TOk.cons e_bd (TOk.cons e_a8 TOk.nil)))))) mixedOk Try.func72 (by kernel_rfl) (by kernel_rfl) (by kernel_rfl) q_cf
attribute [irreducible] w_cf s_cf
def w_cg (a0 a1 : Value) (K : Value → Mem → Prop) (σ : Mem) : Prop :=xC (gBox 9 [a1] []) fun c3 =>xF fMove [.bool false] fun v4 =>xF fMove [a0] fun v5 =>xF fMove [a0] fun v6 =>xF fMove [a0] fun v7 =>xF fNil [v7] fun v8 =>xF (fFld 3) [v8] fun v9 =>hLoad 1 false [v9] (fun v10 σ =>xF (fBin .add .no) [v10, .int .i64 1] fun v11 =>xF fNil [v5] fun v12 =>xF (fFld 3) [v12] fun v13 =>hStore 1 [v13, v11] (fun _v σ =>xF fNil [v6] fun v14 =>xF (fFld 1) [v14] fun v15 =>hStore 1 [v15, .int .i64 3] (fun _v σ =>xF fMove [a0] fun v16 =>xF fNil [v16] fun v17 =>xF (fFld 3) [v17] fun v18 =>hLoad 1 false [v18] (fun v19 σ =>xF (fFld 0) [(locP 3)] fun v20 =>xF (fFld 2) [v20] fun v21 =>xO (gLoad 1 false [v21] c3) fun v22 =>xF (fBin .geq .no) [v19, v22] fun v23 =>xF fMove [v23] fun v4 =>K v4 σ) σ) σ) σ) σ
def s_cg : Spec := fun args K σ => match args with
  | [a0, a1] => w_cg a0 a1 K σ
  | _ => False
noncomputable def cx_cg : Cx := { P := Try.prog, T := [], loc := [(3, 3), (20, 3), (21, 3)], eqt := [], n := 24, keep := [] }
theorem q_cg : FnS cx_cg Try.f73 (bodyOf Try.f73) 2 = s_cg := by
  funext args K σ
  rcases args with _ | ⟨a0, _ | ⟨a1, _ | ⟨b, r⟩⟩⟩ <;> kernel_rfl
theorem e_cg : Entry Try.prog 73 .write s_cg :=
  entry (C := cx_cg) TOk.nil mixedOk Try.func73 (by kernel_rfl) (by kernel_rfl) (by kernel_rfl) q_cg
attribute [irreducible] w_cg s_cg
def w_ce (a0 : Value) (K : Value → Mem → Prop) (σ : Mem) : Prop :=xF fMove [.int .u64 0] fun v2 =>xF fMove [a0] fun v3 =>xF fNil [v3] fun v4 =>xF (fFld 0) [v4] fun v5 =>hLoad 1 false [v5] (fun v6 σ =>xF fMove [a0] fun v7 =>xF fNil [v7] fun v8 =>xF (fFld 4) [v8] fun v9 =>hLoad 1 false [v9] (fun v10 σ =>s_cp [v10] (fun v11 σ =>xF (fFldV 3 1 false) [v11] fun v12 =>xF (fBin .add .no) [v12, .int .i64 1] fun v13 =>xF (fBuild [(0, 1), (1, 1), (2, 1), (3, 1)] [.int .i64 0, .int .i64 0, .int .i64 0, .int .i64 0] [0, 1, 3]) [.int .i64 1, v6, v13] fun v14 =>s_ct [v14] (fun v15 σ =>xF fMove [v15] fun v2 =>K v2 σ) σ) σ) σ) σ
def s_ce : Spec := fun args K σ => match args with
  | [a0] => w_ce a0 K σ
  | _ => False
noncomputable def cx_ce : Cx := { P := Try.prog, T := [(13, .none, s_cp), (75, .none, s_ct)], loc := [], eqt := [], n := 16, keep := [] }
theorem q_ce : FnS cx_ce Try.f74 (bodyOf Try.f74) 1 = s_ce := by
  funext args K σ
  rcases args with _ | ⟨a0, _ | ⟨b, r⟩⟩ <;> kernel_rfl
theorem e_ce : Entry Try.prog 74 .read s_ce :=
  entry (C := cx_ce) (TOk.cons e_cp (TOk.cons e_ct TOk.nil)) mixedOk Try.func74 (by kernel_rfl) (by kernel_rfl) (by kernel_rfl) q_ce
attribute [irreducible] w_ce s_ce
def w_cd_j1b (K : Value → Mem → Prop) (σ : Mem) : Prop :=xF fMove [.bool false] fun v4 =>K v4 σ
def w_cd_j1 (K : Value → Mem → Prop) (ts : List Value) (ls : List (List Value)) (σ : Mem) : Prop := w_cd_j1b K σ
def w_cd_j2b (K : Value → Mem → Prop) (J1 : List Value → List (List Value) → Mem → Prop) (v0 v117 : Value) (σ : Mem) : Prop :=xIf v117
 (xF fMove [v0] fun v118 =>xF fMove [v0] fun v119 =>xF fNil [v118] fun v120 =>xF (fFld 3) [v120] fun v121 =>hStore 1 [v121, .int .i64 0] (fun _v σ =>xF fNil [v119] fun v122 =>xF (fFld 1) [v122] fun v123 =>hStore 1 [v123, .int .i64 3] (fun _v σ =>J1 [] [] σ) σ) σ)
 (J1 [] [] σ)
def w_cd_j2 (K : Value → Mem → Prop) (J1 : List Value → List (List Value) → Mem → Prop) (ts : List Value) (ls : List (List Value)) (σ : Mem) : Prop := w_cd_j2b K J1 (ts.getD 0 poison) (ts.getD 1 poison) σ
def w_cd (a0 a1 : Value) (K : Value → Mem → Prop) (σ : Mem) : Prop :=xC (gBox 9 [a1] []) fun c3 =>xF fMove [.bool false] fun v4 =>xJoin (w_cd_j1 K) fun J1 =>xF fMove [a0] fun v7 =>xF fNil [v7] fun v8 =>xF (fFld 1) [v8] fun v9 =>hLoad 1 false [v9] (fun v10 σ =>xF (fBin .eql .no) [v10, .int .i64 0] fun v36 =>xF fMove [v36] fun v35 =>xIf v35
 (xF fMove [a0] fun v37 =>xO (gLoad 9 true [(locP 3)] c3) fun v38 =>xF fMove [a0] fun v39 =>xF fNil [v39] fun v40 =>xF (fFld 0) [v40] fun v41 =>hLoad 1 false [v41] (fun v42 σ =>s_bl [v42] (fun v43 σ =>s_be [v38, v43] (fun v44 σ =>xF fNil [v37] fun v45 =>xF (fFld 2) [v45] fun v46 =>hStore 1 [v46, v44] (fun _v σ =>xF fMove [a0] fun v47 =>xF fMove [a0] fun v48 =>xF fMove [a0] fun v49 =>xF fNil [v49] fun v50 =>xF (fFld 2) [v50] fun v51 =>hLoad 1 false [v51] (fun v52 σ =>xF (fConv .i64) [v52] fun v53 =>xF (fBin .sub .no) [v53, .int .i64 1] fun v54 =>xF fNil [v47] fun v55 =>xF (fFld 3) [v55] fun v56 =>hStore 1 [v56, v54] (fun _v σ =>xF fNil [v48] fun v57 =>xF (fFld 1) [v57] fun v58 =>hStore 1 [v58, .int .i64 1] (fun _v σ =>xF fMove [a0] fun v59 =>xF fNil [v59] fun v60 =>xF (fFld 3) [v60] fun v61 =>hLoad 1 false [v61] (fun v62 σ =>xF (fBin .lss .no) [v62, .int .i64 0] fun v63 =>xIf v63
 (xF fMove [a0] fun v64 =>xF fMove [a0] fun v65 =>xF fNil [v64] fun v66 =>xF (fFld 3) [v66] fun v67 =>hStore 1 [v67, .int .i64 0] (fun _v σ =>xF fNil [v65] fun v68 =>xF (fFld 1) [v68] fun v69 =>hStore 1 [v69, .int .i64 3] (fun _v σ =>J1 [] [] σ) σ) σ)
 (J1 [] [] σ)) σ) σ) σ) σ) σ) σ) σ) σ)
 (xF (fBin .eql .no) [v10, .int .i64 1] fun v71 =>xF fMove [v71] fun v70 =>xIf v70
 (xF fMove [a0] fun v72 =>xO (gLoad 9 true [(locP 3)] c3) fun v73 =>xF (fFld 0) [(locP 3)] fun v74 =>xO (gLoad 7 true [v74] c3) fun v75 =>xF fMove [a0] fun v76 =>xF fNil [v76] fun v77 =>xF (fFld 3) [v77] fun v78 =>hLoad 1 false [v78] (fun v79 σ =>s_ba [v75, v79] (fun v80 σ =>s_be [v73, v80] (fun v81 σ =>xF fNil [v72] fun v82 =>xF (fFld 4) [v82] fun v83 =>hStore 1 [v83, v81] (fun _v σ =>xF fMove [a0] fun v84 =>xF fNil [v84] fun v85 =>xF (fFld 4) [v85] fun v86 =>hLoad 1 false [v86] (fun v87 σ =>s_cp [v87] (fun v88 σ =>xC (gStore 4 [(locP 5), v88] [.int .i64 0, .int .i64 0, .int .i64 0, .int .i64 0]) fun c5 =>xF fMove [a0] fun v89 =>xF fNil [v89] fun v90 =>xF (fFld 1) [v90] fun v91 =>hStore 1 [v91, .int .i64 2] (fun _v σ =>xJoin (w_cd_j2 K J1) fun J2 =>xF (fFld 0) [(locP 5)] fun v92 =>xO (gLoad 1 false [v92] c5) fun v93 =>xF (fBin .neq .no) [v93, .int .i64 1] fun v94 =>xF fMove [v94] fun v95 =>xIf v95
 (xF fPick [.bool true, .bool true, undef] fun v103 =>xF fMove [v103] fun v104 =>xIf v104
 (xF fPick [.bool true, .bool true, undef] fun v117 =>J2 [a0, v117] [] σ)
 (xF (fFld 2) [(locP 5)] fun v105 =>xO (gLoad 1 false [v105] c5) fun v106 =>xF fMove [a0] fun v107 =>xF fNil [v107] fun v108 =>xF (fFld 0) [v108] fun v109 =>hLoad 1 false [v109] (fun v110 σ =>s_bn [v110] (fun v111 σ =>xF (fBin .add .no) [v106, v111] fun v112 =>xF (fFld 0) [(locP 3)] fun v113 =>xF (fFld 3) [v113] fun v114 =>xO (gLoad 1 false [v114] c3) fun v115 =>xF (fBin .gtr .no) [v112, v115] fun v116 =>xF fPick [.bool false, .bool true, v116] fun v117 =>J2 [a0, v117] [] σ) σ) σ))
 (xF (fFld 1) [(locP 5)] fun v96 =>xO (gLoad 1 false [v96] c5) fun v97 =>xF fMove [a0] fun v98 =>xF fNil [v98] fun v99 =>xF (fFld 0) [v99] fun v100 =>hLoad 1 false [v100] (fun v101 σ =>xF (fBin .neq .no) [v97, v101] fun v102 =>xF fPick [.bool false, .bool true, v102] fun v103 =>xF fMove [v103] fun v104 =>xIf v104
 (xF fPick [.bool true, .bool true, undef] fun v117 =>J2 [a0, v117] [] σ)
 (xF (fFld 2) [(locP 5)] fun v105 =>xO (gLoad 1 false [v105] c5) fun v106 =>xF fMove [a0] fun v107 =>xF fNil [v107] fun v108 =>xF (fFld 0) [v108] fun v109 =>hLoad 1 false [v109] (fun v110 σ =>s_bn [v110] (fun v111 σ =>xF (fBin .add .no) [v106, v111] fun v112 =>xF (fFld 0) [(locP 3)] fun v113 =>xF (fFld 3) [v113] fun v114 =>xO (gLoad 1 false [v114] c3) fun v115 =>xF (fBin .gtr .no) [v112, v115] fun v116 =>xF fPick [.bool false, .bool true, v116] fun v117 =>J2 [a0, v117] [] σ) σ) σ)) σ)) σ) σ) σ) σ) σ) σ) σ)
 (xF (fBin .eql .no) [v10, .int .i64 2] fun v125 =>xF fMove [v125] fun v124 =>xIf v124
 (xF fMove [a0] fun v126 =>xO (gLoad 9 true [(locP 3)] c3) fun v127 =>s_cf [v126, v127] (fun v128 σ =>xF fMove [v128] fun v4 =>K v4 σ) σ)
 (xF (fBin .eql .no) [v10, .int .i64 3] fun v130 =>xF fMove [v130] fun v129 =>xIf v129
 (xF fMove [a0] fun v131 =>xO (gLoad 9 true [(locP 3)] c3) fun v132 =>xF (fFld 0) [(locP 3)] fun v133 =>xO (gLoad 7 true [v133] c3) fun v134 =>xF fMove [a0] fun v135 =>xF fNil [v135] fun v136 =>xF (fFld 3) [v136] fun v137 =>hLoad 1 false [v137] (fun v138 σ =>s_ba [v134, v138] (fun v139 σ =>s_be [v132, v139] (fun v140 σ =>xF fNil [v131] fun v141 =>xF (fFld 4) [v141] fun v142 =>hStore 1 [v142, v140] (fun _v σ =>xF fMove [a0] fun v143 =>xF fNil [v143] fun v144 =>xF (fFld 4) [v144] fun v145 =>hLoad 1 false [v145] (fun v146 σ =>s_cp [v146] (fun v147 σ =>xF (fFldV 0 1 false) [v147] fun v148 =>xF (fBin .neq .no) [v148, .int .i64 0] fun v149 =>xIf v149
 (xF fMove [a0] fun v150 =>xO (gLoad 9 true [(locP 3)] c3) fun v151 =>s_cg [v150, v151] (fun v152 σ =>xF fMove [v152] fun v4 =>K v4 σ) σ)
 (xF fMove [a0] fun v153 =>xF fNil [v153] fun v154 =>xF (fFld 1) [v154] fun v155 =>hStore 1 [v155, .int .i64 4] (fun _v σ =>J1 [] [] σ) σ)) σ) σ) σ) σ) σ) σ)
 (xF (fBin .eql .no) [v10, .int .i64 4] fun v157 =>xF fMove [v157] fun v156 =>xIf v156
 (xO (gLoad 9 true [(locP 3)] c3) fun v158 =>xF (fFld 0) [(locP 3)] fun v159 =>xO (gLoad 7 true [v159] c3) fun v160 =>xF fMove [a0] fun v161 =>xF fNil [v161] fun v162 =>xF (fFld 3) [v162] fun v163 =>hLoad 1 false [v163] (fun v164 σ =>s_ba [v160, v164] (fun v165 σ =>xF fMove [a0] fun v166 =>xF fNil [v166] fun v167 =>xF (fFld 4) [v167] fun v168 =>hLoad 1 false [v168] (fun v169 σ =>xF fMove [a0] fun v170 =>s_ce [v170] (fun v171 σ =>s_bd [v158, v165, v169, v171] (fun v172 σ =>xF (fUn .not) [v172] fun v173 =>xIf v173
 (xF fMove [a0] fun v174 =>xO (gLoad 9 true [(locP 3)] c3) fun v175 =>s_cg [v174, v175] (fun v176 σ =>xF fMove [v176] fun v4 =>K v4 σ) σ)
 (xF fMove [a0] fun v177 =>xF fNil [v177] fun v178 =>xF (fFld 1) [v178] fun v179 =>hStore 1 [v179, .int .i64 5] (fun _v σ =>J1 [] [] σ) σ)) σ) σ) σ) σ) σ)
 (xF (fBin .eql .no) [v10, .int .i64 5] fun v181 =>xF fMove [v181] fun v180 =>xIf v180
 (xF fMove [a0] fun v182 =>xF fNil [v182] fun v183 =>xF (fFld 1) [v183] fun v184 =>hStore 1 [v184, .int .i64 6] (fun _v σ =>xO (gLoad 9 true [(locP 3)] c3) fun v185 =>xF fMove [a0] fun v186 =>xF fNil [v186] fun v187 =>xF (fFld 0) [v187] fun v188 =>hLoad 1 false [v188] (fun v189 σ =>s_bl [v189] (fun v190 σ =>xF fMove [a0] fun v191 =>xF fNil [v191] fun v192 =>xF (fFld 2) [v192] fun v193 =>hLoad 1 false [v193] (fun v194 σ =>xF fMove [a0] fun v195 =>xF fNil [v195] fun v196 =>xF (fFld 3) [v196] fun v197 =>hLoad 1 false [v197] (fun v198 σ =>xF (fBin .add .no) [v198, .int .i64 1] fun v199 =>xF (fConv .u64) [v199] fun v200 =>s_bd [v185, v190, v194, v200] (fun v201 σ =>xIf v201
 (xF fMove [a0] fun v202 =>xF fNil [v202] fun v203 =>xF (fFld 1) [v203] fun v204 =>hStore 1 [v204, .int .i64 0] (fun _v σ =>J1 [] [] σ) σ)
 (J1 [] [] σ)) σ) σ) σ) σ) σ) σ)
 (xF fMove [a0] fun v11 =>xF fNil [v11] fun v12 =>xF (fFld 4) [v12] fun v13 =>hLoad 1 false [v13] (fun v14 σ =>s_cp [v14] (fun v15 σ =>xF (fFldV 3 1 false) [v15] fun v16 =>xF (fBin .add .no) [v16, .int .i64 2] fun v17 =>xF (fBuild [(0, 1), (1, 1), (2, 1), (3, 1)] [.int .i64 0, .int .i64 0, .int .i64 0, .int .i64 0] [3]) [v17] fun v18 =>s_ct [v18] (fun v19 σ =>xF fMove [v19] fun v6 =>xO (gLoad 9 true [(locP 3)] c3) fun v20 =>xF (fFld 0) [(locP 3)] fun v21 =>xO (gLoad 7 true [v21] c3) fun v22 =>xF fMove [a0] fun v23 =>xF fNil [v23] fun v24 =>xF (fFld 3) [v24] fun v25 =>hLoad 1 false [v25] (fun v26 σ =>s_ba [v22, v26] (fun v27 σ =>xF fMove [a0] fun v28 =>s_ce [v28] (fun v29 σ =>xF fMove [v6] fun v30 =>s_bd [v20, v27, v29, v30] (fun v31 σ =>xF fMove [a0] fun v32 =>xF fNil [v32] fun v33 =>xF (fFld 1) [v33] fun v34 =>hStore 1 [v34, .int .i64 0] (fun _v σ =>J1 [] [] σ) σ) σ) σ) σ) σ) σ) σ) σ))))))) σ
def s_cd : Spec := fun args K σ => match args with
  | [a0, a1] => w_cd a0 a1 K σ
  | _ => False
noncomputable def cx_cd : Cx := { P := Try.prog, T := [(9, .none, s_bl), (38, .write, s_be), (14, .none, s_ba), (13, .none, s_cp), (44, .none, s_bn), (72, .write, s_cf), (73, .write, s_cg), (74, .read, s_ce), (59, .write, s_bd), (75, .none, s_ct)], loc := [(3, 3), (5, 5), (21, 3), (74, 3), (92, 5), (96, 5), (105, 5), (113, 3), (114, 3), (133, 3), (159, 3)], eqt := [], n := 205, keep := [(1000016, [0, 117], []), (1000032, [], [])] }
theorem q_cd : FnS cx_cd Try.f40 (bodyOf Try.f40) 2 = s_cd := by
  funext args K σ
  rcases args with _ | ⟨a0, _ | ⟨a1, _ | ⟨b, r⟩⟩⟩ <;> kernel_rfl
theorem e_cd : Entry Try.prog 40 .write s_cd :=
  entry (C := cx_cd) (TOk.cons e_bl (TOk.cons e_be (TOk.cons e_ba (TOk.cons e_cp (TOk.cons e_bn (TOk.cons e_cf (TOk.cons e_cg (TOk.cons e_ce (TOk.cons e_bd (TOk.cons e_ct TOk.nil)))))))))) mixedOk Try.func40 (by kernel_rfl) (by kernel_rfl) (by kernel_rfl) q_cd
attribute [irreducible] w_cd_j1b w_cd_j1 w_cd_j2b w_cd_j2 w_cd s_cd
def w_cc_j1b (K : Value → Mem → Prop) (v0 v12 : Value) (c2 : List Value) (σ : Mem) : Prop :=xIf v12
 (xF (fBuild [(0, 1), (1, 1)] [.int .i64 0, .int .i64 0] []) [] fun v13 =>xC (gStore 2 [(locP 2), v13] c2) fun c2 =>xF fMove [.bool false] fun v3 =>xO (gLoad 2 true [(locP 2)] c2) fun r2 =>K (.tuple #[r2, v3]) σ)
 (xF fMove [v0] fun v14 =>xF fNil [v14] fun v15 =>xF (fFld 5) [v15] fun v16 =>hLoad 2 true [v16] (fun v17 σ =>xC (gStore 2 [(locP 2), v17] c2) fun c2 =>xF fMove [.bool true] fun v3 =>xO (gLoad 2 true [(locP 2)] c2) fun r2 =>K (.tuple #[r2, v3]) σ) σ)
def w_cc_j1 (K : Value → Mem → Prop) (ts : List Value) (ls : List (List Value)) (σ : Mem) : Prop := w_cc_j1b K (ts.getD 0 poison) (ts.getD 1 poison) (ls.getD 0 []) σ
def w_cc (a0 : Value) (K : Value → Mem → Prop) (σ : Mem) : Prop :=xF fMove [.bool false] fun v3 =>xJoin (w_cc_j1 K) fun J1 =>xF fMove [a0] fun v4 =>xF (fBin .eql .ptr) [v4, .pointer none] fun v5 =>xF fMove [v5] fun v6 =>xIf v6
 (xF fPick [.bool true, .bool true, undef] fun v12 =>J1 [a0, v12] [[.int .i64 0, .int .i64 0]] σ)
 (xF fMove [a0] fun v7 =>xF fNil [v7] fun v8 =>xF (fFld 7) [v8] fun v9 =>hLoad 1 false [v9] (fun v10 σ =>xF (fUn .not) [v10] fun v11 =>xF fPick [.bool false, .bool true, v11] fun v12 =>J1 [a0, v12] [[.int .i64 0, .int .i64 0]] σ) σ)
def s_cc : Spec := fun args K σ => match args with
  | [a0] => w_cc a0 K σ
  | _ => False
noncomputable def cx_cc : Cx := { P := Try.prog, T := [], loc := [(2, 2)], eqt := [(83, .ptr)], n := 18, keep := [(1000003, [0, 12], [2])] }
theorem q_cc : FnS cx_cc Try.f41 (bodyOf Try.f41) 1 = s_cc := by
  funext args K σ
  rcases args with _ | ⟨a0, _ | ⟨b, r⟩⟩ <;> kernel_rfl
theorem e_cc : Entry Try.prog 41 .read s_cc :=
  entry (C := cx_cc) TOk.nil mixedOk Try.func41 (by kernel_rfl) (by kernel_rfl) (by kernel_rfl) q_cc
attribute [irreducible] w_cc_j1b w_cc_j1 w_cc s_cc
def w_cl (a0 : Value) (K : Value → Mem → Prop) (σ : Mem) : Prop :=xF fMove [.pointer none] fun v2 =>xF fMove [a0] fun v3 =>xF (fBuild [(0, 1), (1, 1), (2, 1)] [.int .i64 0, .int .i64 0, .int .u64 0] [1]) [v3] fun v4 =>hBox 3 [v4] (fun v5 σ =>xF fMove [v5] fun v2 =>K v2 σ) σ
def s_cl : Spec := fun args K σ => match args with
  | [a0] => w_cl a0 K σ
  | _ => False
noncomputable def cx_cl : Cx := { P := Try.prog, T := [], loc := [], eqt := [], n := 6, keep := [] }
theorem q_cl : FnS cx_cl Try.f42 (bodyOf Try.f42) 1 = s_cl := by
  funext args K σ
  rcases args with _ | ⟨a0, _ | ⟨b, r⟩⟩ <;> kernel_rfl
theorem e_cl : Entry Try.prog 42 .write s_cl :=
  entry (C := cx_cl) TOk.nil mixedOk Try.func42 (by kernel_rfl) (by kernel_rfl) (by kernel_rfl) q_cl
attribute [irreducible] w_cl s_cl
def w_bq (a0 a1 a2 : Value) (K : Value → Mem → Prop) (σ : Mem) : Prop :=xF fMove [.int .u64 0] fun v6 =>xF fMove [.int .i64 0] fun v7 =>xF fMove [a0] fun v9 =>xF fMove [a1] fun v10 =>s_bz [v9, v10] (fun v11 σ =>xF (fUn .not) [v11] fun v12 =>xIf v12
 (xF fMove [.int .u64 0] fun v6 =>xF fMove [.int .i64 2] fun v7 =>K (.tuple #[v6, v7]) σ)
 (xF fMove [a0] fun v13 =>xF fNil [v13] fun v14 =>xF (fFld 0) [v14] fun v15 =>hLoad 1 false [v15] (fun v16 σ =>xF fMove [a1] fun v17 =>xF (fIxS 1) [v16, v17] fun v18 =>hLoad 1 false [v18] (fun v19 σ =>xF fMove [v19] fun v8 =>xF fMove [a0] fun v20 =>xF fMove [a1] fun v21 =>xF fMove [v8] fun v22 =>xF fMove [a2] fun v23 =>xF (fBin .add .no) [v22, v23] fun v24 =>s_by [v20, v21, v24] (fun v25 σ =>xF fMove [v8] fun v26 =>xF fMove [v26] fun v6 =>xF fMove [.int .i64 0] fun v7 =>K (.tuple #[v6, v7]) σ) σ) σ) σ)) σ
def s_bq : Spec := fun args K σ => match args with
  | [a0, a1, a2] => w_bq a0 a1 a2 K σ
  | _ => False
noncomputable def cx_bq : Cx := { P := Try.prog, T := [(66, .write, s_bz), (67, .write, s_by)], loc := [], eqt := [], n := 27, keep := [] }
theorem q_bq : FnS cx_bq Try.f76 (bodyOf Try.f76) 3 = s_bq := by
  funext args K σ
  rcases args with _ | ⟨a0, _ | ⟨a1, _ | ⟨a2, _ | ⟨b, r⟩⟩⟩⟩ <;> kernel_rfl
theorem e_bq : Entry Try.prog 76 .write s_bq :=
  entry (C := cx_bq) (TOk.cons e_bz (TOk.cons e_by TOk.nil)) mixedOk Try.func76 (by kernel_rfl) (by kernel_rfl) (by kernel_rfl) q_bq
attribute [irreducible] w_bq s_bq
def w_bc (a0 a1 a2 : Value) (K : Value → Mem → Prop) (σ : Mem) : Prop :=xC (gBox 9 [a0] []) fun c3 =>xF (fFld 7) [(locP 3)] fun v6 =>xO (gLoad 1 false [v6] c3) fun v7 =>xF (fFld 8) [(locP 3)] fun v8 =>xO (gLoad 1 false [v8] c3) fun v9 =>s_br [v7, v9] (fun v10 σ =>xF (fFld 7) [(locP 3)] fun v11 =>xO (gLoad 1 false [v11] c3) fun v12 =>xF fMove [a1] fun v13 =>xF fMove [a2] fun v14 =>xF (fConv .u64) [v14] fun v15 =>s_bq [v12, v13, v15] (fun v16 σ =>K (.tuple #[]) σ) σ) σ
def s_bc : Spec := fun args K σ => match args with
  | [a0, a1, a2] => w_bc a0 a1 a2 K σ
  | _ => False
noncomputable def cx_bc : Cx := { P := Try.prog, T := [(70, .write, s_br), (76, .write, s_bq)], loc := [(3, 3), (6, 3), (8, 3), (11, 3)], eqt := [], n := 17, keep := [] }
theorem q_bc : FnS cx_bc Try.f43 (bodyOf Try.f43) 3 = s_bc := by
  funext args K σ
  rcases args with _ | ⟨a0, _ | ⟨a1, _ | ⟨a2, _ | ⟨b, r⟩⟩⟩⟩ <;> kernel_rfl
theorem e_bc : Entry Try.prog 43 .write s_bc :=
  entry (C := cx_bc) (TOk.cons e_br (TOk.cons e_bq TOk.nil)) mixedOk Try.func43 (by kernel_rfl) (by kernel_rfl) (by kernel_rfl) q_bc
attribute [irreducible] w_bc s_bc
def w_cv_j1b (K : Value → Mem → Prop) (v3 : Value) (σ : Mem) : Prop :=xF fMove [v3] fun v26 =>xF fMove [v26] fun v2 =>K v2 σ
def w_cv_j1 (K : Value → Mem → Prop) (ts : List Value) (ls : List (List Value)) (σ : Mem) : Prop := w_cv_j1b K (ts.getD 0 poison) σ
def w_cv (a0 : Value) (K : Value → Mem → Prop) (σ : Mem) : Prop :=xC (gBox 5 [a0] []) fun c1 =>xF fMove [.int .u64 0] fun v2 =>xF (fFld 0) [(locP 1)] fun v4 =>xO (gLoad 1 false [v4] c1) fun v5 =>s_c0 [v5, .int .i64 3] (fun v6 σ =>xF (fFld 1) [(locP 1)] fun v7 =>xO (gLoad 1 false [v7] c1) fun v8 =>s_c0 [v8, .int .i64 65535] (fun v9 σ =>xF (fBin .shl .no) [v9, .int .u64 2] fun v10 =>xF (fBin .or .no) [v6, v10] fun v11 =>xF (fFld 2) [(locP 1)] fun v12 =>xO (gLoad 1 false [v12] c1) fun v13 =>s_c0 [v13, .int .i64 65535] (fun v14 σ =>xF (fBin .shl .no) [v14, .int .u64 18] fun v15 =>xF (fBin .or .no) [v11, v15] fun v16 =>xF (fFld 3) [(locP 1)] fun v17 =>xO (gLoad 1 false [v17] c1) fun v18 =>s_c0 [v18, .int .i64 65535] (fun v19 σ =>xF (fBin .shl .no) [v19, .int .u64 34] fun v20 =>xF (fBin .or .no) [v16, v20] fun v21 =>xF fMove [v21] fun v3 =>xJoin (w_cv_j1 K) fun J1 =>xF (fFld 4) [(locP 1)] fun v22 =>xO (gLoad 1 false [v22] c1) fun v23 =>xIf v23
 (xF fMove [v3] fun v24 =>xF (fBin .or .no) [v24, .int .u64 1125899906842624] fun v25 =>xF fMove [v25] fun v3 =>J1 [v3] [] σ)
 (J1 [v3] [] σ)) σ) σ) σ) σ
def s_cv : Spec := fun args K σ => match args with
  | [a0] => w_cv a0 K σ
  | _ => False
noncomputable def cx_cv : Cx := { P := Try.prog, T := [(68, .none, s_c0)], loc := [(1, 1), (4, 1), (7, 1), (12, 1), (17, 1), (22, 1)], eqt := [], n := 27, keep := [(1000005, [3], [])] }
theorem q_cv : FnS cx_cv Try.f77 (bodyOf Try.f77) 1 = s_cv := by
  funext args K σ
  rcases args with _ | ⟨a0, _ | ⟨b, r⟩⟩ <;> kernel_rfl
theorem e_cv : Entry Try.prog 77 .none s_cv :=
  entry (C := cx_cv) (TOk.cons e_c0 TOk.nil) mixedOk Try.func77 (by kernel_rfl) (by kernel_rfl) (by kernel_rfl) q_cv
attribute [irreducible] w_cv_j1b w_cv_j1 w_cv s_cv
def w_ad (a0 a1 : Value) (K : Value → Mem → Prop) (σ : Mem) : Prop :=xF fMove [.int .u64 0] fun v4 =>xF fMove [a1] fun v5 =>xF fMove [a0] fun v6 =>xF fNil [v6] fun v7 =>xF (fFld 0) [v7] fun v8 =>hLoad 1 false [v8] (fun v9 σ =>xF fMove [a0] fun v10 =>xF fNil [v10] fun v11 =>xF (fFld 8) [v11] fun v12 =>hLoad 1 false [v12] (fun v13 σ =>xF fMove [a0] fun v14 =>xF fNil [v14] fun v15 =>xF (fFld 9) [v15] fun v16 =>hLoad 1 false [v16] (fun v17 σ =>xF fMove [a0] fun v18 =>xF fNil [v18] fun v19 =>xF (fFld 1) [v19] fun v20 =>hLoad 1 false [v20] (fun v21 σ =>xF (fBuild [(0, 1), (1, 1), (2, 1), (3, 1), (4, 1)] [.int .i64 0, .int .i64 0, .int .i64 0, .int .i64 0, .bool false] [0, 1, 2, 3, 4]) [v5, v9, v13, v17, v21] fun v22 =>s_cv [v22] (fun v23 σ =>xF fMove [v23] fun v4 =>K v4 σ) σ) σ) σ) σ) σ
def s_ad : Spec := fun args K σ => match args with
  | [a0, a1] => w_ad a0 a1 K σ
  | _ => False
noncomputable def cx_ad : Cx := { P := Try.prog, T := [(77, .none, s_cv)], loc := [], eqt := [], n := 24, keep := [] }
theorem q_ad : FnS cx_ad Try.f46 (bodyOf Try.f46) 2 = s_ad := by
  funext args K σ
  rcases args with _ | ⟨a0, _ | ⟨a1, _ | ⟨b, r⟩⟩⟩ <;> kernel_rfl
theorem e_ad : Entry Try.prog 46 .read s_ad :=
  entry (C := cx_ad) (TOk.cons e_cv TOk.nil) mixedOk Try.func46 (by kernel_rfl) (by kernel_rfl) (by kernel_rfl) q_ad
attribute [irreducible] w_ad s_ad
def w_bg (a0 a1 a2 : Value) (K : Value → Mem → Prop) (σ : Mem) : Prop :=xC (gBox 9 [a0] []) fun c3 =>xF (fFld 7) [(locP 3)] fun v6 =>xO (gLoad 1 false [v6] c3) fun v7 =>xF (fFld 8) [(locP 3)] fun v8 =>xO (gLoad 1 false [v8] c3) fun v9 =>s_br [v7, v9] (fun v10 σ =>xF (fFld 7) [(locP 3)] fun v11 =>xO (gLoad 1 false [v11] c3) fun v12 =>xF fMove [a1] fun v13 =>xF fMove [a2] fun v14 =>s_bw [v12, v13, v14] (fun v15 σ =>K (.tuple #[]) σ) σ) σ
def s_bg : Spec := fun args K σ => match args with
  | [a0, a1, a2] => w_bg a0 a1 a2 K σ
  | _ => False
noncomputable def cx_bg : Cx := { P := Try.prog, T := [(70, .write, s_br), (28, .write, s_bw)], loc := [(3, 3), (6, 3), (8, 3), (11, 3)], eqt := [], n := 16, keep := [] }
theorem q_bg : FnS cx_bg Try.f45 (bodyOf Try.f45) 3 = s_bg := by
  funext args K σ
  rcases args with _ | ⟨a0, _ | ⟨a1, _ | ⟨a2, _ | ⟨b, r⟩⟩⟩⟩ <;> kernel_rfl
theorem e_bg : Entry Try.prog 45 .write s_bg :=
  entry (C := cx_bg) (TOk.cons e_br (TOk.cons e_bw TOk.nil)) mixedOk Try.func45 (by kernel_rfl) (by kernel_rfl) (by kernel_rfl) q_bg
attribute [irreducible] w_bg s_bg
def w_cu (a0 : Value) (K : Value → Mem → Prop) (σ : Mem) : Prop :=xC (gBox 2 [a0] []) fun c1 =>xF fMove [.int .u64 0] fun v2 =>xF (fFld 0) [(locP 1)] fun v3 =>xO (gLoad 1 false [v3] c1) fun v4 =>s_c0 [v4, .int .i64 65535] (fun v5 σ =>xF (fFld 1) [(locP 1)] fun v6 =>xO (gLoad 1 false [v6] c1) fun v7 =>s_c0 [v7, .int .i64 65535] (fun v8 σ =>xF (fBin .shl .no) [v8, .int .u64 16] fun v9 =>xF (fBin .or .no) [v5, v9] fun v10 =>xF fMove [v10] fun v2 =>K v2 σ) σ) σ
def s_cu : Spec := fun args K σ => match args with
  | [a0] => w_cu a0 K σ
  | _ => False
noncomputable def cx_cu : Cx := { P := Try.prog, T := [(68, .none, s_c0)], loc := [(1, 1), (3, 1), (6, 1)], eqt := [], n := 11, keep := [] }
theorem q_cu : FnS cx_cu Try.f47 (bodyOf Try.f47) 1 = s_cu := by
  funext args K σ
  rcases args with _ | ⟨a0, _ | ⟨b, r⟩⟩ <;> kernel_rfl
theorem e_cu : Entry Try.prog 47 .none s_cu :=
  entry (C := cx_cu) (TOk.cons e_c0 TOk.nil) mixedOk Try.func47 (by kernel_rfl) (by kernel_rfl) (by kernel_rfl) q_cu
attribute [irreducible] w_cu s_cu
def w_ck_j1b (K : Value → Mem → Prop) (σ : Mem) : Prop :=xF fMove [.bool false] fun v4 =>K v4 σ
def w_ck_j1 (K : Value → Mem → Prop) (ts : List Value) (ls : List (List Value)) (σ : Mem) : Prop := w_ck_j1b K σ
def w_ck (a0 a1 : Value) (K : Value → Mem → Prop) (σ : Mem) : Prop :=xC (gBox 9 [a1] []) fun c3 =>xF fMove [.bool false] fun v4 =>xF fMove [a0] fun v8 =>xF fNil [v8] fun v9 =>xF (fFld 2) [v9] fun v10 =>hLoad 1 false [v10] (fun v11 σ =>s_cz [v11] (fun v12 σ =>xF fMove [v12] fun v7 =>xF (fExt 0) [v7] fun v13 =>xF (fExt 1) [v7] fun v14 =>xF fMove [v13] fun v5 =>xF fMove [v14] fun v6 =>xJoin (w_ck_j1 K) fun J1 =>xF fMove [a0] fun v15 =>xF fNil [v15] fun v16 =>xF (fFld 0) [v16] fun v17 =>hLoad 1 false [v17] (fun v18 σ =>xF (fBin .eql .no) [v18, .int .i64 0] fun v37 =>xF fMove [v37] fun v36 =>xIf v36
 (xF fMove [a0] fun v38 =>xF fMove [a0] fun v39 =>xO (gLoad 9 true [(locP 3)] c3) fun v40 =>s_bp [] (fun v41 σ =>s_be [v40, v41] (fun v42 σ =>xF fNil [v38] fun v43 =>xF (fFld 2) [v43] fun v44 =>hStore 1 [v44, v42] (fun _v σ =>xF fNil [v39] fun v45 =>xF (fFld 0) [v45] fun v46 =>hStore 1 [v46, .int .i64 1] (fun _v σ =>J1 [] [] σ) σ) σ) σ) σ)
 (xF (fBin .eql .no) [v18, .int .i64 1] fun v48 =>xF fMove [v48] fun v47 =>xIf v47
 (xO (gLoad 9 true [(locP 3)] c3) fun v49 =>xF (fFld 0) [(locP 3)] fun v50 =>xO (gLoad 7 true [v50] c3) fun v51 =>xF fMove [a0] fun v52 =>xF fNil [v52] fun v53 =>xF (fFld 1) [v53] fun v54 =>hLoad 1 false [v54] (fun v55 σ =>s_bo [v51, v55] (fun v56 σ =>xF (fBin .add .no) [v56, .int .i64 1] fun v57 =>xF fMove [v5] fun v58 =>s_cx [v58, .int .i64 0] (fun v59 σ =>s_bg [v49, v57, v59] (fun v60 σ =>xF fMove [a0] fun v61 =>xF fNil [v61] fun v62 =>xF (fFld 0) [v62] fun v63 =>hStore 1 [v63, .int .i64 2] (fun _v σ =>J1 [] [] σ) σ) σ) σ) σ) σ)
 (xF fMove [a0] fun v19 =>xF fNil [v19] fun v20 =>xF (fFld 0) [v20] fun v21 =>hStore 1 [v21, .int .i64 0] (fun _v σ =>xO (gLoad 9 true [(locP 3)] c3) fun v22 =>s_bp [] (fun v23 σ =>xF fMove [a0] fun v24 =>xF fNil [v24] fun v25 =>xF (fFld 2) [v25] fun v26 =>hLoad 1 false [v26] (fun v27 σ =>xF fMove [a0] fun v28 =>xF fNil [v28] fun v29 =>xF (fFld 1) [v29] fun v30 =>hLoad 1 false [v30] (fun v31 σ =>xF fMove [v6] fun v32 =>xF (fBin .add .no) [v32, .int .i64 1] fun v33 =>s_cx [v31, v33] (fun v34 σ =>s_bd [v22, v23, v27, v34] (fun v35 σ =>xF fMove [v35] fun v4 =>K v4 σ) σ) σ) σ) σ) σ) σ))) σ) σ) σ
def s_ck : Spec := fun args K σ => match args with
  | [a0, a1] => w_ck a0 a1 K σ
  | _ => False
noncomputable def cx_ck : Cx := { P := Try.prog, T := [(69, .none, s_cz), (32, .none, s_bp), (38, .write, s_be), (29, .none, s_bo), (31, .none, s_cx), (45, .write, s_bg), (59, .write, s_bd)], loc := [(3, 3), (50, 3)], eqt := [], n := 64, keep := [(1000011, [], [])] }
theorem q_ck : FnS cx_ck Try.f49 (bodyOf Try.f49) 2 = s_ck := by
  funext args K σ
  rcases args with _ | ⟨a0, _ | ⟨a1, _ | ⟨b, r⟩⟩⟩ <;> kernel_rfl
theorem e_ck : Entry Try.prog 49 .write s_ck :=
  entry (C := cx_ck) (TOk.cons e_cz (TOk.cons e_bp (TOk.cons e_be (TOk.cons e_bo (TOk.cons e_cx (TOk.cons e_bg (TOk.cons e_bd TOk.nil))))))) mixedOk Try.func49 (by kernel_rfl) (by kernel_rfl) (by kernel_rfl) q_ck
attribute [irreducible] w_ck_j1b w_ck_j1 w_ck s_ck
def w_ab_j1b (K : Value → Mem → Prop) (σ : Mem) : Prop :=xF fMove [.bool false] fun v4 =>K v4 σ
def w_ab_j1 (K : Value → Mem → Prop) (ts : List Value) (ls : List (List Value)) (σ : Mem) : Prop := w_ab_j1b K σ
def w_ab (a0 a1 : Value) (K : Value → Mem → Prop) (σ : Mem) : Prop :=xC (gBox 9 [a1] []) fun c3 =>xF fMove [.bool false] fun v4 =>xJoin (w_ab_j1 K) fun J1 =>xF fMove [a0] fun v9 =>xF fNil [v9] fun v10 =>xF (fFld 2) [v10] fun v11 =>hLoad 1 false [v11] (fun v12 σ =>xF (fBin .eql .no) [v12, .int .i64 0] fun v20 =>xF fMove [v20] fun v19 =>xIf v19
 (xF fMove [a0] fun v21 =>xF fNil [v21] fun v22 =>xF (fFld 0) [v22] fun v23 =>hLoad 1 false [v23] (fun v24 σ =>s_bb [v24] (fun v25 σ =>xF (fBin .lss .no) [v25, .int .i64 0] fun v26 =>xIf v26
 (xF fMove [a0] fun v27 =>xO (gLoad 9 true [(locP 3)] c3) fun v28 =>s_ac [v27, v28, .int .i64 5] (fun v29 σ =>xF fMove [.bool true] fun v4 =>K v4 σ) σ)
 (xF fMove [a0] fun v30 =>xF fNil [v30] fun v31 =>xF (fFld 3) [v31] fun v32 =>xO (gLoad 9 true [(locP 3)] c3) fun v33 =>s_cn [v32, v33] (fun v34 σ =>xIf v34
 (xF fMove [a0] fun v36 =>xF fNil [v36] fun v37 =>xF (fFld 3) [v37] fun v38 =>s_cm [v38] (fun v39 σ =>xF fMove [v39] fun v35 =>xF (fExt 0) [v35] fun v40 =>xF (fExt 1) [v35] fun v41 =>xF fMove [v40] fun v5 =>xF fMove [v41] fun v6 =>xF fMove [a0] fun v42 =>xF fMove [a0] fun v43 =>xF fMove [v5] fun v44 =>xF fNil [v42] fun v45 =>xF (fFld 8) [v45] fun v46 =>hStore 1 [v46, v44] (fun _v σ =>xF fNil [v43] fun v47 =>xF (fFld 2) [v47] fun v48 =>hStore 1 [v48, .int .i64 1] (fun _v σ =>xF fMove [v6] fun v49 =>xF (fUn .not) [v49] fun v50 =>xIf v50
 (xF fMove [a0] fun v51 =>xO (gLoad 9 true [(locP 3)] c3) fun v52 =>s_ac [v51, v52, .int .i64 7] (fun v53 σ =>xF fMove [.bool true] fun v4 =>K v4 σ) σ)
 (J1 [] [] σ)) σ) σ) σ)
 (J1 [] [] σ)) σ)) σ) σ)
 (xF (fBin .eql .no) [v12, .int .i64 1] fun v55 =>xF fMove [v55] fun v54 =>xIf v54
 (xF fMove [a0] fun v56 =>xF fMove [a0] fun v57 =>xO (gLoad 9 true [(locP 3)] c3) fun v58 =>xF (fFld 0) [(locP 3)] fun v59 =>xO (gLoad 7 true [v59] c3) fun v60 =>xF fMove [a0] fun v61 =>xF fNil [v61] fun v62 =>xF (fFld 8) [v62] fun v63 =>hLoad 1 false [v63] (fun v64 σ =>s_bo [v60, v64] (fun v65 σ =>s_be [v58, v65] (fun v66 σ =>s_cy [v66] (fun v67 σ =>xF (fFldV 2 1 false) [v67] fun v68 =>xF fNil [v56] fun v69 =>xF (fFld 9) [v69] fun v70 =>hStore 1 [v70, v68] (fun _v σ =>xF fNil [v57] fun v71 =>xF (fFld 2) [v71] fun v72 =>hStore 1 [v72, .int .i64 2] (fun _v σ =>xF fMove [a0] fun v73 =>xF fMove [a0] fun v74 =>xF fNil [v74] fun v75 =>xF (fFld 0) [v75] fun v76 =>hLoad 1 false [v76] (fun v77 σ =>s_bb [v77] (fun v78 σ =>s_cb [v78] (fun v79 σ =>xF fNil [v73] fun v80 =>xF (fFld 10) [v80] fun v81 =>hStore 1 [v81, v79] (fun _v σ =>J1 [] [] σ) σ) σ) σ) σ) σ) σ) σ) σ) σ) σ)
 (xF (fBin .eql .no) [v12, .int .i64 2] fun v83 =>xF fMove [v83] fun v82 =>xIf v82
 (xF fMove [a0] fun v84 =>xF fNil [v84] fun v85 =>xF (fFld 10) [v85] fun v86 =>hLoad 1 false [v86] (fun v87 σ =>xO (gLoad 9 true [(locP 3)] c3) fun v88 =>s_cd [v87, v88] (fun v89 σ =>xIf v89
 (xF fMove [a0] fun v91 =>xF fNil [v91] fun v92 =>xF (fFld 10) [v92] fun v93 =>hLoad 1 false [v93] (fun v94 σ =>s_cc [v94] (fun v95 σ =>xF fMove [v95] fun v90 =>xF (fExt 0) [v90] fun v96 =>xF (fExt 1) [v90] fun v97 =>xC (gStore 2 [(locP 7), v96] [.int .i64 0, .int .i64 0]) fun c7 =>xF fMove [v97] fun v8 =>xF fMove [a0] fun v98 =>xF fMove [a0] fun v99 =>xO (gLoad 2 true [(locP 7)] c7) fun v100 =>xF fNil [v98] fun v101 =>xF (fFld 11) [v101] fun v102 =>hStore 2 [v102, v100] (fun _v σ =>xF fNil [v99] fun v103 =>xF (fFld 2) [v103] fun v104 =>hStore 1 [v104, .int .i64 3] (fun _v σ =>xF fMove [v8] fun v105 =>xF (fUn .not) [v105] fun v106 =>xIf v106
 (xF fMove [a0] fun v107 =>xO (gLoad 9 true [(locP 3)] c3) fun v108 =>s_ac [v107, v108, .int .i64 6] (fun v109 σ =>xF fMove [a0] fun v110 =>xF fMove [a0] fun v111 =>xF fMove [a0] fun v112 =>xF fNil [v112] fun v113 =>xF (fFld 8) [v113] fun v114 =>hLoad 1 false [v114] (fun v115 σ =>s_cl [v115] (fun v116 σ =>xF fNil [v110] fun v117 =>xF (fFld 13) [v117] fun v118 =>hStore 1 [v118, v116] (fun _v σ =>xF fNil [v111] fun v119 =>xF (fFld 2) [v119] fun v120 =>hStore 1 [v120, .int .i64 7] (fun _v σ =>J1 [] [] σ) σ) σ) σ) σ) σ)
 (J1 [] [] σ)) σ) σ) σ) σ)
 (J1 [] [] σ)) σ) σ)
 (xF (fBin .eql .no) [v12, .int .i64 3] fun v122 =>xF fMove [v122] fun v121 =>xIf v121
 (xO (gLoad 9 true [(locP 3)] c3) fun v123 =>xF (fFld 0) [(locP 3)] fun v124 =>xO (gLoad 7 true [v124] c3) fun v125 =>xF fMove [a0] fun v126 =>xF fNil [v126] fun v127 =>xF (fFld 11) [v127] fun v128 =>xF (fFld 1) [v128] fun v129 =>hLoad 1 false [v129] (fun v130 σ =>s_ba [v125, v130] (fun v131 σ =>xF (fBin .add .no) [v131, .int .i64 1] fun v132 =>xF fMove [a0] fun v133 =>xF fNil [v133] fun v134 =>xF (fFld 0) [v134] fun v135 =>hLoad 1 false [v135] (fun v136 σ =>s_bb [v136] (fun v137 σ =>s_bn [v137] (fun v138 σ =>s_bc [v123, v132, v138] (fun v139 σ =>xF fMove [a0] fun v140 =>xF fNil [v140] fun v141 =>xF (fFld 2) [v141] fun v142 =>hStore 1 [v142, .int .i64 4] (fun _v σ =>J1 [] [] σ) σ) σ) σ) σ) σ) σ) σ)
 (xF (fBin .eql .no) [v12, .int .i64 4] fun v144 =>xF fMove [v144] fun v143 =>xIf v143
 (xO (gLoad 9 true [(locP 3)] c3) fun v145 =>xF fMove [a0] fun v146 =>xF fNil [v146] fun v147 =>xF (fFld 11) [v147] fun v148 =>xF (fFld 0) [v148] fun v149 =>hLoad 1 false [v149] (fun v150 σ =>xF fMove [a0] fun v151 =>s_ad [v151, .int .i64 1] (fun v152 σ =>s_bg [v145, v150, v152] (fun v153 σ =>xF fMove [a0] fun v154 =>xF fNil [v154] fun v155 =>xF (fFld 2) [v155] fun v156 =>hStore 1 [v156, .int .i64 5] (fun _v σ =>J1 [] [] σ) σ) σ) σ) σ)
 (xF (fBin .eql .no) [v12, .int .i64 5] fun v158 =>xF fMove [v158] fun v157 =>xIf v157
 (xO (gLoad 9 true [(locP 3)] c3) fun v159 =>xF (fFld 0) [(locP 3)] fun v160 =>xO (gLoad 7 true [v160] c3) fun v161 =>xF fMove [a0] fun v162 =>xF fNil [v162] fun v163 =>xF (fFld 8) [v163] fun v164 =>hLoad 1 false [v164] (fun v165 σ =>s_bo [v161, v165] (fun v166 σ =>xF fMove [a0] fun v167 =>xF fNil [v167] fun v168 =>xF (fFld 11) [v168] fun v169 =>xF (fFld 0) [v169] fun v170 =>hLoad 1 false [v170] (fun v171 σ =>xF fMove [a0] fun v172 =>xF fNil [v172] fun v173 =>xF (fFld 9) [v173] fun v174 =>hLoad 1 false [v174] (fun v175 σ =>xF (fBuild [(0, 1), (1, 1), (2, 1), (3, 1)] [.int .i64 0, .int .i64 0, .int .i64 0, .int .i64 0] [0, 1, 2]) [.int .i64 1, v171, v175] fun v176 =>s_cw [v176] (fun v177 σ =>s_bg [v159, v166, v177] (fun v178 σ =>xF fMove [a0] fun v179 =>xF fMove [a0] fun v180 =>xF fNil [v180] fun v181 =>xF (fFld 8) [v181] fun v182 =>hLoad 1 false [v182] (fun v183 σ =>xF fMove [a0] fun v184 =>xF fNil [v184] fun v185 =>xF (fFld 9) [v185] fun v186 =>hLoad 1 false [v186] (fun v187 σ =>xF (fBuild [(0, 1), (1, 1)] [.int .i64 0, .int .i64 0] [0, 1]) [v183, v187] fun v188 =>s_cu [v188] (fun v189 σ =>xO (gLoad 9 true [(locP 3)] c3) fun v190 =>s_bf [v190] (fun v191 σ =>xF (fBuild [(0, 1), (1, 1), (2, 1), (3, 1)] [.int .i64 0, .int .u64 0, .int .i64 0, .int .i64 0] [1, 3]) [v189, v191] fun v192 =>xF fNil [v179] fun v193 =>xF (fFld 14) [v193] fun v194 =>hStore 4 [v194, v192] (fun _v σ =>xF fMove [a0] fun v195 =>xF fNil [v195] fun v196 =>xF (fFld 2) [v196] fun v197 =>hStore 1 [v197, .int .i64 6] (fun _v σ =>J1 [] [] σ) σ) σ) σ) σ) σ) σ) σ) σ) σ) σ) σ) σ)
 (xF (fBin .eql .no) [v12, .int .i64 6] fun v199 =>xF fMove [v199] fun v198 =>xIf v198
 (xO (gLoad 9 true [(locP 3)] c3) fun v200 =>xF fMove [a0] fun v201 =>xF fNil [v201] fun v202 =>xF (fFld 11) [v202] fun v203 =>xF (fFld 0) [v203] fun v204 =>hLoad 1 false [v204] (fun v205 σ =>xF fMove [a0] fun v206 =>s_ad [v206, .int .i64 2] (fun v207 σ =>s_bg [v200, v205, v207] (fun v208 σ =>xF fMove [.bool true] fun v4 =>K v4 σ) σ) σ) σ)
 (xF fMove [a0] fun v13 =>xF fNil [v13] fun v14 =>xF (fFld 13) [v14] fun v15 =>hLoad 1 false [v15] (fun v16 σ =>xO (gLoad 9 true [(locP 3)] c3) fun v17 =>s_ck [v16, v17] (fun v18 σ =>xF fMove [v18] fun v4 =>K v4 σ) σ) σ)))))))) σ
def s_ab : Spec := fun args K σ => match args with
  | [a0, a1] => w_ab a0 a1 K σ
  | _ => False
noncomputable def cx_ab : Cx := { P := Try.prog, T := [(33, .write, s_bb), (34, .write, s_ac), (35, .write, s_cn), (36, .read, s_cm), (29, .none, s_bo), (38, .write, s_be), (37, .none, s_cy), (39, .write, s_cb), (40, .write, s_cd), (41, .read, s_cc), (42, .write, s_cl), (14, .none, s_ba), (44, .none, s_bn), (43, .write, s_bc), (46, .read, s_ad), (45, .write, s_bg), (30, .none, s_cw), (47, .none, s_cu), (48, .read, s_bf), (49, .write, s_ck)], loc := [(3, 3), (7, 7), (59, 3), (124, 3), (160, 3)], eqt := [], n := 209, keep := [(1000037, [], [])] }
theorem q_ab : FnS cx_ab Try.f19 (bodyOf Try.f19) 2 = s_ab := by
  funext args K σ
  rcases args with _ | ⟨a0, _ | ⟨a1, _ | ⟨b, r⟩⟩⟩ <;> kernel_rfl
theorem e_ab : Entry Try.prog 19 .write s_ab :=
  entry (C := cx_ab) (TOk.cons e_bb (TOk.cons e_ac (TOk.cons e_cn (TOk.cons e_cm (TOk.cons e_bo (TOk.cons e_be (TOk.cons e_cy (TOk.cons e_cb (TOk.cons e_cd (TOk.cons e_cc (TOk.cons e_cl (TOk.cons e_ba (TOk.cons e_bn (TOk.cons e_bc (TOk.cons e_ad (TOk.cons e_bg (TOk.cons e_cw (TOk.cons e_cu (TOk.cons e_bf (TOk.cons e_ck TOk.nil)))))))))))))))))))) mixedOk Try.func19 (by kernel_rfl) (by kernel_rfl) (by kernel_rfl) q_ab
attribute [irreducible] w_ab_j1b w_ab_j1 w_ab s_ab
def w_aa (a0 : Value) (K : Value → Mem → Prop) (σ : Mem) : Prop :=xF fMove [a0] fun v3 =>xF (fBin .eql .ptr) [v3, .pointer none] fun v4 =>xIf v4
 (xF (fBuild [(0, 1), (1, 1), (2, 1), (3, 1)] [.int .i64 0, .int .u64 0, .int .i64 0, .int .i64 0] [0]) [.int .i64 1] fun v5 =>xC (gStore 4 [(locP 2), v5] [.int .i64 0, .int .u64 0, .int .i64 0, .int .i64 0]) fun c2 =>xO (gLoad 4 true [(locP 2)] c2) fun r2 =>K r2 σ)
 (xF fMove [a0] fun v6 =>xF fNil [v6] fun v7 =>xF (fFld 14) [v7] fun v8 =>hLoad 4 true [v8] (fun v9 σ =>xC (gStore 4 [(locP 2), v9] [.int .i64 0, .int .u64 0, .int .i64 0, .int .i64 0]) fun c2 =>xO (gLoad 4 true [(locP 2)] c2) fun r2 =>K r2 σ) σ)
def s_aa : Spec := fun args K σ => match args with
  | [a0] => w_aa a0 K σ
  | _ => False
noncomputable def cx_aa : Cx := { P := Try.prog, T := [], loc := [(2, 2)], eqt := [(54, .ptr)], n := 10, keep := [] }
theorem q_aa : FnS cx_aa Try.f20 (bodyOf Try.f20) 1 = s_aa := by
  funext args K σ
  rcases args with _ | ⟨a0, _ | ⟨b, r⟩⟩ <;> kernel_rfl
theorem e_aa : Entry Try.prog 20 .read s_aa :=
  entry (C := cx_aa) TOk.nil mixedOk Try.func20 (by kernel_rfl) (by kernel_rfl) (by kernel_rfl) q_aa
attribute [irreducible] w_aa s_aa
def w_a2_j1b (K : Value → Mem → Prop) (v7 : Value) (c6 : List Value) (σ : Mem) : Prop :=xF fMove [v7] fun v19 =>s_aa [v19] (fun v20 σ =>xC (gStore 4 [(locP 6), v20] c6) fun c6 =>xO (gLoad 4 true [(locP 6)] c6) fun r6 =>K r6 σ) σ
def w_a2_j1 (K : Value → Mem → Prop) (ts : List Value) (ls : List (List Value)) (σ : Mem) : Prop := w_a2_j1b K (ts.getD 0 poison) (ls.getD 0 []) σ
def w_law08_Make_l4b (K : Value → Mem → Prop) (J1 : List Value → List (List Value) → Mem → Prop) (R1 : List Value → List (List Value) → Mem → Prop) (v7 v8 : Value) (c3 c6 : List Value) (σ : Mem) : Prop :=xF fMove [v8] fun v12 =>xF (fBin .lss .no) [v12, .int .i64 400] fun v13 =>xIf v13
 (xF fMove [v7] fun v16 =>xO (gLoad 9 true [(locP 3)] c3) fun v17 =>s_ab [v16, v17] (fun v18 σ =>xIf v18
 (J1 [v7] [c6] σ)
 (xF fMove [v8] fun v14 =>xF (fBin .add .no) [v14, .int .i64 1] fun v15 =>xF fMove [v15] fun v8 =>R1 [v7, v8] [c3, c6] σ)) σ)
 (J1 [v7] [c6] σ)
def w_law08_Make_l4 (K : Value → Mem → Prop) (J1 : List Value → List (List Value) → Mem → Prop) (R1 : List Value → List (List Value) → Mem → Prop) (ts : List Value) (ls : List (List Value)) (σ : Mem) : Prop := w_law08_Make_l4b K J1 R1 (ts.getD 0 poison) (ts.getD 1 poison) (ls.getD 0 []) (ls.getD 1 []) σ
def w_a2 (a0 a1 a2 : Value) (K : Value → Mem → Prop) (σ : Mem) : Prop :=xC (gBox 9 [a0] []) fun c3 =>xF fMove [a1] fun v9 =>xF fMove [a2] fun v10 =>s_ae [v9, v10] (fun v11 σ =>xF fMove [v11] fun v7 =>xJoin (w_a2_j1 K) fun J1 =>xF fMove [.int .i64 0] fun v8 =>xLoop (w_law08_Make_l4 K J1) [v7, v8] [c3, [.int .i64 0, .int .u64 0, .int .i64 0, .int .i64 0]] σ) σ
def s_a2 : Spec := fun args K σ => match args with
  | [a0, a1, a2] => w_a2 a0 a1 a2 K σ
  | _ => False
noncomputable def cx_a2 : Cx := { P := Try.prog, T := [(18, .write, s_ae), (19, .write, s_ab), (20, .read, s_aa)], loc := [(3, 3), (6, 6)], eqt := [], n := 21, keep := [(4, [7, 8], [3, 6]), (1000007, [7], [6])] }
theorem q_a2 : FnS cx_a2 Try.f6 (bodyOf Try.f6) 3 = s_a2 := by
  funext args K σ
  rcases args with _ | ⟨a0, _ | ⟨a1, _ | ⟨a2, _ | ⟨b, r⟩⟩⟩⟩ <;> kernel_rfl
theorem e_a2 : Entry Try.prog 6 .write s_a2 :=
  entry (C := cx_a2) (TOk.cons e_ae (TOk.cons e_ab (TOk.cons e_aa TOk.nil))) mixedOk Try.func6 (by kernel_rfl) (by kernel_rfl) (by kernel_rfl) q_a2
attribute [irreducible] w_a2_j1b w_a2_j1 w_law08_Make_l4b w_law08_Make_l4 w_a2 s_a2
def w_av (a0 a1 : Value) (K : Value → Mem → Prop) (σ : Mem) : Prop :=xF fMove [.pointer none] fun v4 =>xF fMove [a0] fun v5 =>xF fMove [a1] fun v6 =>xF (fBuild [(0, 1), (1, 1), (2, 2), (4, 1), (5, 1), (6, 1), (7, 1), (8, 1), (9, 4)] [.int .u64 0, .bool false, .int .i64 0, .int .i64 0, .int .i64 0, .int .u64 0, .int .i64 0, .pointer none, .pointer none, .int .i64 0, .int .u64 0, .int .i64 0, .int .i64 0] [0, 1]) [v5, v6] fun v7 =>hBox 13 [v7] (fun v8 σ =>xF fMove [v8] fun v4 =>K v4 σ) σ
def s_av : Spec := fun args K σ => match args with
  | [a0, a1] => w_av a0 a1 K σ
  | _ => False
noncomputable def cx_av : Cx := { P := Try.prog, T := [], loc := [], eqt := [], n := 9, keep := [] }
theorem q_av : FnS cx_av Try.f21 (bodyOf Try.f21) 2 = s_av := by
  funext args K σ
  rcases args with _ | ⟨a0, _ | ⟨a1, _ | ⟨b, r⟩⟩⟩ <;> kernel_rfl
theorem e_av : Entry Try.prog 21 .write s_av :=
  entry (C := cx_av) TOk.nil mixedOk Try.func21 (by kernel_rfl) (by kernel_rfl) (by kernel_rfl) q_av
attribute [irreducible] w_av s_av
def w_cq_j1b (K : Value → Mem → Prop) (v0 v11 : Value) (c2 : List Value) (σ : Mem) : Prop :=xIf v11
 (xF (fBuild [(0, 1), (1, 1)] [.int .i64 0, .int .i64 0] []) [] fun v12 =>xC (gStore 2 [(locP 2), v12] c2) fun c2 =>xF fMove [.bool false] fun v3 =>xO (gLoad 2 true [(locP 2)] c2) fun r2 =>K (.tuple #[r2, v3]) σ)
 (xF fMove [v0] fun v13 =>xF (fBin .and .no) [v13, .int .u64 65535] fun v14 =>xF (fConv .i64) [v14] fun v15 =>xF fMove [v0] fun v16 =>xF (fBin .shr .no) [v16, .int .u64 16] fun v17 =>xF (fConv .i64) [v17] fun v18 =>xF (fBuild [(0, 1), (1, 1)] [.int .i64 0, .int .i64 0] [0, 1]) [v15, v18] fun v19 =>xC (gStore 2 [(locP 2), v19] c2) fun c2 =>xF fMove [.bool true] fun v3 =>xO (gLoad 2 true [(locP 2)] c2) fun r2 =>K (.tuple #[r2, v3]) σ)
def w_cq_j1 (K : Value → Mem → Prop) (ts : List Value) (ls : List (List Value)) (σ : Mem) : Prop := w_cq_j1b K (ts.getD 0 poison) (ts.getD 1 poison) (ls.getD 0 []) σ
def w_cq (a0 : Value) (K : Value → Mem → Prop) (σ : Mem) : Prop :=if true = true then (xC (gAlloc [.int .i64 0, .int .i64 0] [] []) fun c2 =>xF fMove [.bool false] fun v3 =>xJoin (w_cq_j1 K) fun J1 =>xF fMove [a0] fun v4 =>xF (fBin .shr .no) [v4, .int .u64 32] fun v5 =>xF (fBin .neq .no) [v5, .int .u64 0] fun v6 =>xF fMove [v6] fun v7 =>xIf v7
 (xF fPick [.bool true, .bool true, undef] fun v11 =>J1 [a0, v11] [c2] σ)
 (xF fMove [a0] fun v8 =>xF (fBin .shr .no) [v8, .int .u64 16] fun v9 =>xF (fBin .eql .no) [v9, .int .u64 0] fun v10 =>xF fPick [.bool false, .bool true, v10] fun v11 =>J1 [a0, v11] [c2] σ)) else False
def s_cq : Spec := fun args K σ => match args with
  | [a0] => w_cq a0 K σ
  | _ => False
noncomputable def cx_cq : Cx := { P := Try.prog, T := [], loc := [(2, 2)], eqt := [], n := 20, keep := [(1000003, [0, 11], [2])] }
theorem q_cq : FnS cx_cq Try.f79 (bodyOf Try.f79) 1 = s_cq := by
  funext args K σ
  rcases args with _ | ⟨a0, _ | ⟨b, r⟩⟩ <;> kernel_rfl
theorem e_cq : Entry Try.prog 79 .none s_cq :=
  entry (C := cx_cq) TOk.nil mixedOk Try.func79 (by kernel_rfl) (by kernel_rfl) (by kernel_rfl) q_cq
attribute [irreducible] w_cq_j1b w_cq_j1 w_cq s_cq
def w_ar (a0 a1 : Value) (K : Value → Mem → Prop) (σ : Mem) : Prop :=xC (gBox 9 [a1] []) fun c3 =>xF fMove [.bool false] fun v4 =>xF fMove [a0] fun v5 =>xO (gLoad 9 true [(locP 3)] c3) fun v6 =>s_bf [v6] (fun v7 σ =>xF (fBuild [(0, 1), (1, 1), (2, 1), (3, 1)] [.int .i64 0, .int .u64 0, .int .i64 0, .int .i64 0] [0, 3]) [.int .i64 3, v7] fun v8 =>xF fNil [v5] fun v9 =>xF (fFld 9) [v9] fun v10 =>hStore 4 [v10, v8] (fun _v σ =>xF fMove [.bool true] fun v4 =>K v4 σ) σ) σ
def s_ar : Spec := fun args K σ => match args with
  | [a0, a1] => w_ar a0 a1 K σ
  | _ => False
noncomputable def cx_ar : Cx := { P := Try.prog, T := [(48, .read, s_bf)], loc := [(3, 3)], eqt := [], n := 11, keep := [] }
theorem q_ar : FnS cx_ar Try.f52 (bodyOf Try.f52) 2 = s_ar := by
  funext args K σ
  rcases args with _ | ⟨a0, _ | ⟨a1, _ | ⟨b, r⟩⟩⟩ <;> kernel_rfl
theorem e_ar : Entry Try.prog 52 .write s_ar :=
  entry (C := cx_ar) (TOk.cons e_bf TOk.nil) mixedOk Try.func52 (by kernel_rfl) (by kernel_rfl) (by kernel_rfl) q_ar
attribute [irreducible] w_ar s_ar
def w_au (a0 a1 : Value) (K : Value → Mem → Prop) (σ : Mem) : Prop :=xC (gBox 4 [a0] []) fun c2 =>xC (gBox 2 [a1] []) fun c3 =>xF fMove [.bool false] fun v4 =>xF (fFld 0) [(locP 2)] fun v5 =>xO (gLoad 1 false [v5] c2) fun v6 =>xF (fBin .eql .no) [v6, .int .i64 1] fun v7 =>xF fMove [v7] fun v8 =>xIf v8
 (xF fPick [.bool true, .bool true, undef] fun v12 =>xF fMove [v12] fun v13 =>xIf v13
 (xF fPick [.bool true, .bool true, undef] fun v17 =>xF fMove [v17] fun v18 =>xIf v18
 (xF (fFld 2) [(locP 2)] fun v19 =>xO (gLoad 1 false [v19] c2) fun v20 =>xF (fFld 1) [(locP 3)] fun v21 =>xO (gLoad 1 false [v21] c3) fun v22 =>xF (fBin .eql .no) [v20, v22] fun v23 =>xF fPick [.bool true, v23, .bool false] fun v24 =>xF fMove [v24] fun v4 =>K v4 σ)
 (xF fPick [.bool false, undef, .bool false] fun v24 =>xF fMove [v24] fun v4 =>K v4 σ))
 (xF (fFld 0) [(locP 2)] fun v14 =>xO (gLoad 1 false [v14] c2) fun v15 =>xF (fBin .eql .no) [v15, .int .i64 4] fun v16 =>xF fPick [.bool false, .bool true, v16] fun v17 =>xF fMove [v17] fun v18 =>xIf v18
 (xF (fFld 2) [(locP 2)] fun v19 =>xO (gLoad 1 false [v19] c2) fun v20 =>xF (fFld 1) [(locP 3)] fun v21 =>xO (gLoad 1 false [v21] c3) fun v22 =>xF (fBin .eql .no) [v20, v22] fun v23 =>xF fPick [.bool true, v23, .bool false] fun v24 =>xF fMove [v24] fun v4 =>K v4 σ)
 (xF fPick [.bool false, undef, .bool false] fun v24 =>xF fMove [v24] fun v4 =>K v4 σ)))
 (xF (fFld 0) [(locP 2)] fun v9 =>xO (gLoad 1 false [v9] c2) fun v10 =>xF (fBin .eql .no) [v10, .int .i64 2] fun v11 =>xF fPick [.bool false, .bool true, v11] fun v12 =>xF fMove [v12] fun v13 =>xIf v13
 (xF fPick [.bool true, .bool true, undef] fun v17 =>xF fMove [v17] fun v18 =>xIf v18
 (xF (fFld 2) [(locP 2)] fun v19 =>xO (gLoad 1 false [v19] c2) fun v20 =>xF (fFld 1) [(locP 3)] fun v21 =>xO (gLoad 1 false [v21] c3) fun v22 =>xF (fBin .eql .no) [v20, v22] fun v23 =>xF fPick [.bool true, v23, .bool false] fun v24 =>xF fMove [v24] fun v4 =>K v4 σ)
 (xF fPick [.bool false, undef, .bool false] fun v24 =>xF fMove [v24] fun v4 =>K v4 σ))
 (xF (fFld 0) [(locP 2)] fun v14 =>xO (gLoad 1 false [v14] c2) fun v15 =>xF (fBin .eql .no) [v15, .int .i64 4] fun v16 =>xF fPick [.bool false, .bool true, v16] fun v17 =>xF fMove [v17] fun v18 =>xIf v18
 (xF (fFld 2) [(locP 2)] fun v19 =>xO (gLoad 1 false [v19] c2) fun v20 =>xF (fFld 1) [(locP 3)] fun v21 =>xO (gLoad 1 false [v21] c3) fun v22 =>xF (fBin .eql .no) [v20, v22] fun v23 =>xF fPick [.bool true, v23, .bool false] fun v24 =>xF fMove [v24] fun v4 =>K v4 σ)
 (xF fPick [.bool false, undef, .bool false] fun v24 =>xF fMove [v24] fun v4 =>K v4 σ)))
def s_au : Spec := fun args K σ => match args with
  | [a0, a1] => w_au a0 a1 K σ
  | _ => False
noncomputable def cx_au : Cx := { P := Try.prog, T := [], loc := [(2, 2), (3, 3), (5, 2), (9, 2), (14, 2), (19, 2), (21, 3)], eqt := [], n := 25, keep := [] }
theorem q_au : FnS cx_au Try.f80 (bodyOf Try.f80) 2 = s_au := by
  funext args K σ
  rcases args with _ | ⟨a0, _ | ⟨a1, _ | ⟨b, r⟩⟩⟩ <;> kernel_rfl
theorem e_au : Entry Try.prog 80 .none s_au :=
  entry (C := cx_au) TOk.nil mixedOk Try.func80 (by kernel_rfl) (by kernel_rfl) (by kernel_rfl) q_au
attribute [irreducible] w_au s_au
def w_as_j1b (K : Value → Mem → Prop) (v0 v28 : Value) (c3 c5 : List Value) (σ : Mem) : Prop :=xIf v28
 (xF fMove [v0] fun v29 =>xO (gLoad 9 true [(locP 3)] c3) fun v30 =>s_ar [v29, v30] (fun v31 σ =>xF fMove [v31] fun v4 =>K v4 σ) σ)
 (xF fMove [v0] fun v32 =>xO (gLoad 9 true [(locP 3)] c3) fun v33 =>xF (fFld 0) [(locP 3)] fun v34 =>xO (gLoad 7 true [v34] c3) fun v35 =>xF (fFld 0) [(locP 5)] fun v36 =>xO (gLoad 1 false [v36] c5) fun v37 =>s_bo [v35, v37] (fun v38 σ =>s_be [v33, v38] (fun v39 σ =>xF fNil [v32] fun v40 =>xF (fFld 5) [v40] fun v41 =>hStore 1 [v41, v39] (fun _v σ =>xF fMove [v0] fun v42 =>xF fNil [v42] fun v43 =>xF (fFld 5) [v43] fun v44 =>hLoad 1 false [v44] (fun v45 σ =>s_cy [v45] (fun v46 σ =>xO (gLoad 2 true [(locP 5)] c5) fun v47 =>s_au [v46, v47] (fun v48 σ =>xF (fUn .not) [v48] fun v49 =>xIf v49
 (xF fMove [v0] fun v50 =>xO (gLoad 9 true [(locP 3)] c3) fun v51 =>s_ar [v50, v51] (fun v52 σ =>xF fMove [v52] fun v4 =>K v4 σ) σ)
 (xF fMove [v0] fun v53 =>xF fNil [v53] fun v54 =>xF (fFld 4) [v54] fun v55 =>hStore 1 [v55, .int .i64 1] (fun _v σ =>xF fMove [.bool false] fun v4 =>K v4 σ) σ)) σ) σ) σ) σ) σ) σ)
def w_as_j1 (K : Value → Mem → Prop) (ts : List Value) (ls : List (List Value)) (σ : Mem) : Prop := w_as_j1b K (ts.getD 0 poison) (ts.getD 1 poison) (ls.getD 0 []) (ls.getD 1 []) σ
def w_as (a0 a1 : Value) (K : Value → Mem → Prop) (σ : Mem) : Prop :=xC (gBox 9 [a1] []) fun c3 =>xF fMove [.bool false] fun v4 =>xF fMove [a0] fun v8 =>xF fNil [v8] fun v9 =>xF (fFld 0) [v9] fun v10 =>hLoad 1 false [v10] (fun v11 σ =>s_cq [v11] (fun v12 σ =>xF fMove [v12] fun v7 =>xF (fExt 0) [v7] fun v13 =>xF (fExt 1) [v7] fun v14 =>xC (gStore 2 [(locP 5), v13] [.int .i64 0, .int .i64 0]) fun c5 =>xF fMove [v14] fun v6 =>xF fMove [a0] fun v15 =>xO (gLoad 2 true [(locP 5)] c5) fun v16 =>xF fNil [v15] fun v17 =>xF (fFld 2) [v17] fun v18 =>hStore 2 [v18, v16] (fun _v σ =>xJoin (w_as_j1 K) fun J1 =>xF fMove [v6] fun v19 =>xF (fUn .not) [v19] fun v20 =>xF fMove [v20] fun v21 =>xIf v21
 (xF fPick [.bool true, .bool true, undef] fun v28 =>J1 [a0, v28] [c3, c5] σ)
 (xF (fFld 0) [(locP 5)] fun v22 =>xO (gLoad 1 false [v22] c5) fun v23 =>xF (fFld 0) [(locP 3)] fun v24 =>xF (fFld 1) [v24] fun v25 =>xO (gLoad 1 false [v25] c3) fun v26 =>xF (fBin .geq .no) [v23, v26] fun v27 =>xF fPick [.bool false, .bool true, v27] fun v28 =>J1 [a0, v28] [c3, c5] σ)) σ) σ) σ
def s_as : Spec := fun args K σ => match args with
  | [a0, a1] => w_as a0 a1 K σ
  | _ => False
noncomputable def cx_as : Cx := { P := Try.prog, T := [(79, .none, s_cq), (52, .write, s_ar), (29, .none, s_bo), (38, .write, s_be), (37, .none, s_cy), (80, .none, s_au)], loc := [(3, 3), (5, 5), (22, 5), (24, 3), (25, 3), (34, 3), (36, 5)], eqt := [], n := 56, keep := [(1000005, [0, 28], [3, 5])] }
theorem q_as : FnS cx_as Try.f50 (bodyOf Try.f50) 2 = s_as := by
  funext args K σ
  rcases args with _ | ⟨a0, _ | ⟨a1, _ | ⟨b, r⟩⟩⟩ <;> kernel_rfl
theorem e_as : Entry Try.prog 50 .write s_as :=
  entry (C := cx_as) (TOk.cons e_cq (TOk.cons e_ar (TOk.cons e_bo (TOk.cons e_be (TOk.cons e_cy (TOk.cons e_au TOk.nil)))))) mixedOk Try.func50 (by kernel_rfl) (by kernel_rfl) (by kernel_rfl) q_as
attribute [irreducible] w_as_j1b w_as_j1 w_as s_as
def w_cr (a0 : Value) (K : Value → Mem → Prop) (σ : Mem) : Prop :=if true = true then (xC (gAlloc [.int .i64 0, .int .i64 0, .int .i64 0, .int .i64 0, .bool false] [] []) fun c2 =>xF fMove [a0] fun v3 =>xF (fBin .and .no) [v3, .int .u64 3] fun v4 =>xF (fConv .i64) [v4] fun v5 =>xF fMove [a0] fun v6 =>xF (fBin .shr .no) [v6, .int .u64 2] fun v7 =>xF (fBin .and .no) [v7, .int .u64 65535] fun v8 =>xF (fConv .i64) [v8] fun v9 =>xF fMove [a0] fun v10 =>xF (fBin .shr .no) [v10, .int .u64 18] fun v11 =>xF (fBin .and .no) [v11, .int .u64 65535] fun v12 =>xF (fConv .i64) [v12] fun v13 =>xF fMove [a0] fun v14 =>xF (fBin .shr .no) [v14, .int .u64 34] fun v15 =>xF (fBin .and .no) [v15, .int .u64 65535] fun v16 =>xF (fConv .i64) [v16] fun v17 =>xF fMove [a0] fun v18 =>xF (fBin .shr .no) [v18, .int .u64 50] fun v19 =>xF (fBin .and .no) [v19, .int .u64 1] fun v20 =>xF (fBin .eql .no) [v20, .int .u64 1] fun v21 =>xF (fBuild [(0, 1), (1, 1), (2, 1), (3, 1), (4, 1)] [.int .i64 0, .int .i64 0, .int .i64 0, .int .i64 0, .bool false] [0, 1, 2, 3, 4]) [v5, v9, v13, v17, v21] fun v22 =>xC (gStore 5 [(locP 2), v22] c2) fun c2 =>xO (gLoad 5 true [(locP 2)] c2) fun r2 =>K r2 σ) else False
def s_cr : Spec := fun args K σ => match args with
  | [a0] => w_cr a0 K σ
  | _ => False
noncomputable def cx_cr : Cx := { P := Try.prog, T := [], loc := [(2, 2)], eqt := [], n := 23, keep := [] }
theorem q_cr : FnS cx_cr Try.f51 (bodyOf Try.f51) 1 = s_cr := by
  funext args K σ
  rcases args with _ | ⟨a0, _ | ⟨b, r⟩⟩ <;> kernel_rfl
theorem e_cr : Entry Try.prog 51 .none s_cr :=
  entry (C := cx_cr) TOk.nil mixedOk Try.func51 (by kernel_rfl) (by kernel_rfl) (by kernel_rfl) q_cr
attribute [irreducible] w_cr s_cr
def w_aw (a0 a1 a2 : Value) (K : Value → Mem → Prop) (σ : Mem) : Prop :=xF fMove [.pointer none] fun v6 =>xF fMove [a0] fun v7 =>xF fMove [a1] fun v8 =>xF fMove [a2] fun v9 =>xF (fBuild [(0, 1), (1, 1), (2, 1), (3, 1), (4, 1), (5, 1), (6, 1)] [.int .i64 0, .int .u64 0, .int .i64 0, .int .i64 0, .int .u64 0, .bool false, .bool false] [0, 1, 2]) [v7, v8, v9] fun v10 =>hBox 7 [v10] (fun v11 σ =>xF fMove [v11] fun v6 =>K v6 σ) σ
def s_aw : Spec := fun args K σ => match args with
  | [a0, a1, a2] => w_aw a0 a1 a2 K σ
  | _ => False
noncomputable def cx_aw : Cx := { P := Try.prog, T := [], loc := [], eqt := [], n := 12, keep := [] }
theorem q_aw : FnS cx_aw Try.f53 (bodyOf Try.f53) 3 = s_aw := by
  funext args K σ
  rcases args with _ | ⟨a0, _ | ⟨a1, _ | ⟨a2, _ | ⟨b, r⟩⟩⟩⟩ <;> kernel_rfl
theorem e_aw : Entry Try.prog 53 .write s_aw :=
  entry (C := cx_aw) TOk.nil mixedOk Try.func53 (by kernel_rfl) (by kernel_rfl) (by kernel_rfl) q_aw
attribute [irreducible] w_aw s_aw
def w_aq (a0 a1 : Value) (K : Value → Mem → Prop) (σ : Mem) : Prop :=xC (gBox 9 [a1] []) fun c3 =>xF fMove [a0] fun v6 =>xF fNil [v6] fun v7 =>xF (fFld 5) [v7] fun v8 =>hLoad 1 false [v8] (fun v9 σ =>s_cy [v9] (fun v10 σ =>xC (gStore 4 [(locP 4), v10] [.int .i64 0, .int .i64 0, .int .i64 0, .int .i64 0]) fun c4 =>xF (fFld 3) [(locP 4)] fun v11 =>xO (gLoad 1 false [v11] c4) fun v12 =>xF (fBin .add .no) [v12, .int .i64 1] fun v13 =>xF (fFld 0) [(locP 4)] fun v14 =>xC (gStore 1 [v14, .int .i64 4] c4) fun c4 =>xF (fFld 3) [(locP 4)] fun v15 =>xC (gStore 1 [v15, v13] c4) fun c4 =>xF fMove [a0] fun v16 =>xF fNil [v16] fun v17 =>xF (fFld 4) [v17] fun v18 =>hStore 1 [v18, .int .i64 0] (fun _v σ =>xO (gLoad 4 true [(locP 4)] c4) fun v19 =>s_cw [v19] (fun v20 σ =>xF fMove [v20] fun v5 =>xO (gLoad 9 true [(locP 3)] c3) fun v21 =>xF (fFld 0) [(locP 3)] fun v22 =>xO (gLoad 7 true [v22] c3) fun v23 =>xF fMove [a0] fun v24 =>xF fNil [v24] fun v25 =>xF (fFld 2) [v25] fun v26 =>xF (fFld 0) [v26] fun v27 =>hLoad 1 false [v27] (fun v28 σ =>s_bo [v23, v28] (fun v29 σ =>xF fMove [a0] fun v30 =>xF fNil [v30] fun v31 =>xF (fFld 5) [v31] fun v32 =>hLoad 1 false [v32] (fun v33 σ =>xF fMove [v5] fun v34 =>s_bd [v21, v29, v33, v34] (fun v35 σ =>xIf v35
 (xF fMove [a0] fun v36 =>xF fMove [a0] fun v37 =>xF fMove [a0] fun v38 =>xF fNil [v38] fun v39 =>xF (fFld 2) [v39] fun v40 =>xF (fFld 0) [v40] fun v41 =>hLoad 1 false [v41] (fun v42 σ =>xF fMove [v5] fun v43 =>xF fMove [a0] fun v44 =>xF fNil [v44] fun v45 =>xF (fFld 6) [v45] fun v46 =>hLoad 1 false [v46] (fun v47 σ =>s_aw [v42, v43, v47] (fun v48 σ =>xF fNil [v36] fun v49 =>xF (fFld 7) [v49] fun v50 =>hStore 1 [v50, v48] (fun _v σ =>xF fNil [v37] fun v51 =>xF (fFld 4) [v51] fun v52 =>hStore 1 [v52, .int .i64 3] (fun _v σ =>K (.tuple #[]) σ) σ) σ) σ) σ) σ)
 (K (.tuple #[]) σ)) σ) σ) σ) σ) σ) σ) σ) σ
def s_aq : Spec := fun args K σ => match args with
  | [a0, a1] => w_aq a0 a1 K σ
  | _ => False
noncomputable def cx_aq : Cx := { P := Try.prog, T := [(37, .none, s_cy), (30, .none, s_cw), (29, .none, s_bo), (59, .write, s_bd), (53, .write, s_aw)], loc := [(3, 3), (4, 4), (11, 4), (14, 4), (15, 4), (22, 3)], eqt := [], n := 53, keep := [] }
theorem q_aq : FnS cx_aq Try.f54 (bodyOf Try.f54) 2 = s_aq := by
  funext args K σ
  rcases args with _ | ⟨a0, _ | ⟨a1, _ | ⟨b, r⟩⟩⟩ <;> kernel_rfl
theorem e_aq : Entry Try.prog 54 .write s_aq :=
  entry (C := cx_aq) (TOk.cons e_cy (TOk.cons e_cw (TOk.cons e_bo (TOk.cons e_bd (TOk.cons e_aw TOk.nil))))) mixedOk Try.func54 (by kernel_rfl) (by kernel_rfl) (by kernel_rfl) q_aq
attribute [irreducible] w_aq s_aq
def w_co_j1b (K : Value → Mem → Prop) (c2 c3 : List Value) (σ : Mem) : Prop :=xO (gLoad 3 true [(locP 3)] c3) fun v18 =>xC (gStore 3 [(locP 2), v18] c2) fun c2 =>xO (gLoad 3 true [(locP 2)] c2) fun r2 =>K r2 σ
def w_co_j1 (K : Value → Mem → Prop) (ts : List Value) (ls : List (List Value)) (σ : Mem) : Prop := w_co_j1b K (ls.getD 0 []) (ls.getD 1 []) σ
def w_co (a0 : Value) (K : Value → Mem → Prop) (σ : Mem) : Prop :=if true = true then (xC (gAlloc [.int .i64 0, .bool false, .int .i64 0] [] []) fun c2 =>xF fMove [a0] fun v4 =>xF (fBin .and .no) [v4, .int .u64 1099511627775] fun v5 =>xF (fConv .i64) [v5] fun v6 =>xF fMove [a0] fun v7 =>xF (fBin .shr .no) [v7, .int .u64 63] fun v8 =>xF (fBin .eql .no) [v8, .int .u64 1] fun v9 =>xF (fBuild [(0, 1), (1, 1), (2, 1)] [.int .i64 0, .bool false, .int .i64 0] [0, 1]) [v6, v9] fun v10 =>if true = true then (xC (gAlloc [.int .i64 0, .bool false, .int .i64 0] [] []) fun c3 =>xC (gStore 3 [(locP 3), v10] c3) fun c3 =>xJoin (w_co_j1 K) fun J1 =>xF (fFld 1) [(locP 3)] fun v11 =>xO (gLoad 1 false [v11] c3) fun v12 =>xIf v12
 (xF fMove [a0] fun v13 =>xF (fBin .shr .no) [v13, .int .u64 40] fun v14 =>xF (fBin .and .no) [v14, .int .u64 4194303] fun v15 =>xF (fConv .i64) [v15] fun v16 =>xF (fFld 2) [(locP 3)] fun v17 =>xC (gStore 1 [v17, v16] c3) fun c3 =>J1 [] [c2, c3] σ)
 (J1 [] [c2, c3] σ)) else False) else False
def s_co : Spec := fun args K σ => match args with
  | [a0] => w_co a0 K σ
  | _ => False
noncomputable def cx_co : Cx := { P := Try.prog, T := [], loc := [(2, 2), (3, 3), (11, 3), (17, 3)], eqt := [], n := 19, keep := [(1000005, [], [2, 3])] }
theorem q_co : FnS cx_co Try.f81 (bodyOf Try.f81) 1 = s_co := by
  funext args K σ
  rcases args with _ | ⟨a0, _ | ⟨b, r⟩⟩ <;> kernel_rfl
theorem e_co : Entry Try.prog 81 .none s_co :=
  entry (C := cx_co) TOk.nil mixedOk Try.func81 (by kernel_rfl) (by kernel_rfl) (by kernel_rfl) q_co
attribute [irreducible] w_co_j1b w_co_j1 w_co s_co
def w_cs_j1b (K : Value → Mem → Prop) (v3 : Value) (σ : Mem) : Prop :=xF fMove [v3] fun v16 =>xF fMove [v16] fun v2 =>K v2 σ
def w_cs_j1 (K : Value → Mem → Prop) (ts : List Value) (ls : List (List Value)) (σ : Mem) : Prop := w_cs_j1b K (ts.getD 0 poison) σ
def w_cs (a0 : Value) (K : Value → Mem → Prop) (σ : Mem) : Prop :=xC (gBox 3 [a0] []) fun c1 =>xF fMove [.int .u64 0] fun v2 =>xF (fFld 0) [(locP 1)] fun v4 =>xO (gLoad 1 false [v4] c1) fun v5 =>s_c0 [v5, .int .i64 1099511627775] (fun v6 σ =>xF fMove [v6] fun v3 =>xJoin (w_cs_j1 K) fun J1 =>xF (fFld 1) [(locP 1)] fun v7 =>xO (gLoad 1 false [v7] c1) fun v8 =>xIf v8
 (xF fMove [v3] fun v9 =>xF (fFld 2) [(locP 1)] fun v10 =>xO (gLoad 1 false [v10] c1) fun v11 =>s_c0 [v11, .int .i64 4194303] (fun v12 σ =>xF (fBin .shl .no) [v12, .int .u64 40] fun v13 =>xF (fBin .or .no) [.int .u64 9223372036854775808, v13] fun v14 =>xF (fBin .or .no) [v9, v14] fun v15 =>xF fMove [v15] fun v3 =>J1 [v3] [] σ) σ)
 (J1 [v3] [] σ)) σ
def s_cs : Spec := fun args K σ => match args with
  | [a0] => w_cs a0 K σ
  | _ => False
noncomputable def cx_cs : Cx := { P := Try.prog, T := [(68, .none, s_c0)], loc := [(1, 1), (4, 1), (7, 1), (10, 1)], eqt := [], n := 17, keep := [(1000005, [3], [])] }
theorem q_cs : FnS cx_cs Try.f82 (bodyOf Try.f82) 1 = s_cs := by
  funext args K σ
  rcases args with _ | ⟨a0, _ | ⟨b, r⟩⟩ <;> kernel_rfl
theorem e_cs : Entry Try.prog 82 .none s_cs :=
  entry (C := cx_cs) (TOk.cons e_c0 TOk.nil) mixedOk Try.func82 (by kernel_rfl) (by kernel_rfl) (by kernel_rfl) q_cs
attribute [irreducible] w_cs_j1b w_cs_j1 w_cs s_cs
def w_at_j1b (K : Value → Mem → Prop) (σ : Mem) : Prop :=xF fMove [.bool false] fun v4 =>K v4 σ
def w_at_j1 (K : Value → Mem → Prop) (ts : List Value) (ls : List (List Value)) (σ : Mem) : Prop := w_at_j1b K σ
def w_at_j2b (K : Value → Mem → Prop) (J1 : List Value → List (List Value) → Mem → Prop) (v0 : Value) (c3 c8 : List Value) (σ : Mem) : Prop :=xF fMove [v0] fun v73 =>xO (gLoad 9 true [(locP 3)] c3) fun v74 =>xF (fFld 0) [(locP 3)] fun v75 =>xO (gLoad 7 true [v75] c3) fun v76 =>xF fMove [v0] fun v77 =>xF fNil [v77] fun v78 =>xF (fFld 0) [v78] fun v79 =>hLoad 1 false [v79] (fun v80 σ =>s_bo [v76, v80] (fun v81 σ =>xF fMove [v0] fun v82 =>xF fNil [v82] fun v83 =>xF (fFld 1) [v83] fun v84 =>hLoad 1 false [v84] (fun v85 σ =>xO (gLoad 4 true [(locP 8)] c8) fun v86 =>s_cw [v86] (fun v87 σ =>s_bd [v74, v81, v85, v87] (fun v88 σ =>xF fNil [v73] fun v89 =>xF (fFld 6) [v89] fun v90 =>hStore 1 [v90, v88] (fun _v σ =>xF fMove [.bool true] fun v4 =>K v4 σ) σ) σ) σ) σ) σ) σ
def w_at_j2 (K : Value → Mem → Prop) (J1 : List Value → List (List Value) → Mem → Prop) (ts : List Value) (ls : List (List Value)) (σ : Mem) : Prop := w_at_j2b K J1 (ts.getD 0 poison) (ls.getD 0 []) (ls.getD 1 []) σ
def w_at_j3b (K : Value → Mem → Prop) (J1 : List Value → List (List Value) → Mem → Prop) (v0 : Value) (σ : Mem) : Prop :=xF fMove [v0] fun v121 =>xF fNil [v121] fun v122 =>xF (fFld 5) [v122] fun v123 =>hLoad 1 false [v123] (fun v124 σ =>xF (fUn .not) [v124] fun v125 =>xIf v125
 (xF fMove [v0] fun v126 =>xF fNil [v126] fun v127 =>xF (fFld 3) [v127] fun v128 =>hLoad 1 false [v128] (fun v129 σ =>xF (fBin .add .no) [v129, .int .i64 1] fun v130 =>xF fNil [v126] fun v131 =>xF (fFld 3) [v131] fun v132 =>hStore 1 [v132, v130] (fun _v σ =>J1 [] [] σ) σ) σ)
 (J1 [] [] σ)) σ
def w_at_j3 (K : Value → Mem → Prop) (J1 : List Value → List (List Value) → Mem → Prop) (ts : List Value) (ls : List (List Value)) (σ : Mem) : Prop := w_at_j3b K J1 (ts.getD 0 poison) σ
def w_at (a0 a1 : Value) (K : Value → Mem → Prop) (σ : Mem) : Prop :=xC (gBox 9 [a1] []) fun c3 =>xF fMove [.bool false] fun v4 =>xF fMove [a0] fun v9 =>xF fNil [v9] fun v10 =>xF (fFld 1) [v10] fun v11 =>hLoad 1 false [v11] (fun v12 σ =>s_cy [v12] (fun v13 σ =>xC (gStore 4 [(locP 5), v13] [.int .i64 0, .int .i64 0, .int .i64 0, .int .i64 0]) fun c5 =>xF (fFld 1) [(locP 5)] fun v14 =>xO (gLoad 1 false [v14] c5) fun v15 =>xF (fBin .add .no) [v15, .int .i64 1] fun v16 =>xF fMove [a0] fun v17 =>xF fNil [v17] fun v18 =>xF (fFld 3) [v18] fun v19 =>hLoad 1 false [v19] (fun v20 σ =>xF (fBin .add .no) [v16, v20] fun v21 =>xF fMove [v21] fun v6 =>xF fMove [a0] fun v22 =>xF fNil [v22] fun v23 =>xF (fFld 4) [v23] fun v24 =>hLoad 1 false [v24] (fun v25 σ =>s_co [v25] (fun v26 σ =>xC (gStore 3 [(locP 7), v26] [.int .i64 0, .bool false, .int .i64 0]) fun c7 =>xJoin (w_at_j1 K) fun J1 =>xF fMove [a0] fun v51 =>xF fNil [v51] fun v52 =>xF (fFld 3) [v52] fun v53 =>hLoad 1 false [v53] (fun v54 σ =>xF fMove [a0] fun v55 =>xF fNil [v55] fun v56 =>xF (fFld 2) [v56] fun v57 =>hLoad 1 false [v57] (fun v58 σ =>xF (fBin .geq .no) [v54, v58] fun v59 =>xF fMove [v59] fun v50 =>xIf v50
 (xF (fFld 2) [(locP 5)] fun v60 =>xO (gLoad 1 false [v60] c5) fun v61 =>xF (fBin .add .no) [v61, .int .i64 1] fun v62 =>xF (fBuild [(0, 1), (1, 1), (2, 1), (3, 1)] [.int .i64 0, .int .i64 0, .int .i64 0, .int .i64 0] [0, 2]) [.int .i64 0, v62] fun v63 =>xC (gStore 4 [(locP 8), v63] [.int .i64 0, .int .i64 0, .int .i64 0, .int .i64 0]) fun c8 =>xJoin (w_at_j2 K J1) fun J2 =>xF (fFld 2) [(locP 5)] fun v64 =>xO (gLoad 1 false [v64] c5) fun v65 =>xF (fFld 0) [(locP 3)] fun v66 =>xF (fFld 4) [v66] fun v67 =>xO (gLoad 1 false [v67] c3) fun v68 =>xF (fBin .geq .no) [v65, v68] fun v69 =>xIf v69
 (xF (fFld 2) [(locP 5)] fun v70 =>xO (gLoad 1 false [v70] c5) fun v71 =>xF (fBuild [(0, 1), (1, 1), (2, 1), (3, 1)] [.int .i64 0, .int .i64 0, .int .i64 0, .int .i64 0] [0, 2]) [.int .i64 3, v71] fun v72 =>xC (gStore 4 [(locP 8), v72] c8) fun c8 =>J2 [a0] [c3, c8] σ)
 (J2 [a0] [c3, c8] σ))
 (xF fMove [a0] fun v92 =>xF fNil [v92] fun v93 =>xF (fFld 5) [v93] fun v94 =>hLoad 1 false [v94] (fun v95 σ =>xF (fUn .not) [v95] fun v96 =>xF fMove [v96] fun v91 =>xIf v91
 (xF fMove [a0] fun v97 =>xO (gLoad 9 true [(locP 3)] c3) fun v98 =>xF fMove [v6] fun v99 =>s_be [v98, v99] (fun v100 σ =>xF fNil [v97] fun v101 =>xF (fFld 4) [v101] fun v102 =>hStore 1 [v102, v100] (fun _v σ =>xF fMove [a0] fun v103 =>xF fNil [v103] fun v104 =>xF (fFld 4) [v104] fun v105 =>hLoad 1 false [v105] (fun v106 σ =>s_co [v106] (fun v107 σ =>xC (gStore 3 [(locP 7), v107] c7) fun c7 =>xJoin (w_at_j3 K J1) fun J3 =>xF fMove [a0] fun v108 =>xF (fFld 1) [(locP 7)] fun v109 =>xO (gLoad 1 false [v109] c7) fun v110 =>xF (fUn .not) [v110] fun v111 =>xF fMove [v111] fun v112 =>xIf v112
 (xF fPick [.bool true, .bool true, undef] fun v118 =>xF fNil [v108] fun v119 =>xF (fFld 5) [v119] fun v120 =>hStore 1 [v120, v118] (fun _v σ =>J3 [a0] [] σ) σ)
 (xF (fFld 2) [(locP 7)] fun v113 =>xO (gLoad 1 false [v113] c7) fun v114 =>xF (fFld 3) [(locP 5)] fun v115 =>xO (gLoad 1 false [v115] c5) fun v116 =>xF (fBin .neq .no) [v114, v116] fun v117 =>xF fPick [.bool false, .bool true, v117] fun v118 =>xF fNil [v108] fun v119 =>xF (fFld 5) [v119] fun v120 =>hStore 1 [v120, v118] (fun _v σ =>J3 [a0] [] σ) σ)) σ) σ) σ) σ)
 (xF fMove [a0] fun v27 =>xF fNil [v27] fun v28 =>xF (fFld 5) [v28] fun v29 =>hStore 1 [v29, .bool false] (fun _v σ =>xO (gLoad 9 true [(locP 3)] c3) fun v30 =>xF fMove [v6] fun v31 =>xF fMove [a0] fun v32 =>xF fNil [v32] fun v33 =>xF (fFld 4) [v33] fun v34 =>hLoad 1 false [v34] (fun v35 σ =>xF (fFld 0) [(locP 7)] fun v36 =>xO (gLoad 1 false [v36] c7) fun v37 =>xF (fFld 3) [(locP 5)] fun v38 =>xO (gLoad 1 false [v38] c5) fun v39 =>xF (fBuild [(0, 1), (1, 1), (2, 1)] [.int .i64 0, .bool false, .int .i64 0] [0, 1, 2]) [v37, .bool true, v39] fun v40 =>s_cs [v40] (fun v41 σ =>s_bd [v30, v31, v35, v41] (fun v42 σ =>xIf v42
 (xF fMove [a0] fun v43 =>xF fNil [v43] fun v44 =>xF (fFld 3) [v44] fun v45 =>hLoad 1 false [v45] (fun v46 σ =>xF (fBin .add .no) [v46, .int .i64 1] fun v47 =>xF fNil [v43] fun v48 =>xF (fFld 3) [v48] fun v49 =>hStore 1 [v49, v47] (fun _v σ =>J1 [] [] σ) σ) σ)
 (J1 [] [] σ)) σ) σ) σ) σ)) σ)) σ) σ) σ) σ) σ) σ) σ
def s_at : Spec := fun args K σ => match args with
  | [a0, a1] => w_at a0 a1 K σ
  | _ => False
noncomputable def cx_at : Cx := { P := Try.prog, T := [(37, .none, s_cy), (81, .none, s_co), (29, .none, s_bo), (30, .none, s_cw), (59, .write, s_bd), (38, .write, s_be), (82, .none, s_cs)], loc := [(3, 3), (5, 5), (7, 7), (8, 8), (14, 5), (36, 7), (38, 5), (60, 5), (64, 5), (66, 3), (67, 3), (70, 5), (75, 3), (109, 7), (113, 7), (115, 5)], eqt := [], n := 133, keep := [(1000012, [0], [3, 8]), (1000018, [0], []), (1000020, [], [])] }
theorem q_at : FnS cx_at Try.f55 (bodyOf Try.f55) 2 = s_at := by
  funext args K σ
  rcases args with _ | ⟨a0, _ | ⟨a1, _ | ⟨b, r⟩⟩⟩ <;> kernel_rfl
theorem e_at : Entry Try.prog 55 .write s_at :=
  entry (C := cx_at) (TOk.cons e_cy (TOk.cons e_co (TOk.cons e_bo (TOk.cons e_cw (TOk.cons e_bd (TOk.cons e_be (TOk.cons e_cs TOk.nil))))))) mixedOk Try.func55 (by kernel_rfl) (by kernel_rfl) (by kernel_rfl) q_at
attribute [irreducible] w_at_j1b w_at_j1 w_at_j2b w_at_j2 w_at_j3b w_at_j3 w_at s_at
def w_bx_j1b (K : Value → Mem → Prop) (v0 v1 v19 : Value) (σ : Mem) : Prop :=xIf v19
 (xF fMove [.int .i64 0] fun v4 =>K v4 σ)
 (xF fMove [v0] fun v20 =>xF fNil [v20] fun v21 =>xF (fFld 1) [v21] fun v22 =>hLoad 1 false [v22] (fun v23 σ =>xF fMove [v1] fun v24 =>xF (fIxS 1) [v23, v24] fun v25 =>hLoad 1 false [v25] (fun v26 σ =>xF fMove [v26] fun v4 =>K v4 σ) σ) σ)
def w_bx_j1 (K : Value → Mem → Prop) (ts : List Value) (ls : List (List Value)) (σ : Mem) : Prop := w_bx_j1b K (ts.getD 0 poison) (ts.getD 1 poison) (ts.getD 2 poison) σ
def w_bx (a0 a1 : Value) (K : Value → Mem → Prop) (σ : Mem) : Prop :=xF fMove [.int .i64 0] fun v4 =>xJoin (w_bx_j1 K) fun J1 =>xF fMove [a0] fun v5 =>xF (fBin .eql .ptr) [v5, .pointer none] fun v6 =>xF fMove [v6] fun v7 =>xIf v7
 (xF fPick [.bool true, .bool true, undef] fun v10 =>xF fMove [v10] fun v11 =>xIf v11
 (xF fPick [.bool true, .bool true, undef] fun v19 =>J1 [a0, a1, v19] [] σ)
 (xF fMove [a1] fun v12 =>xF fMove [a0] fun v13 =>xF fNil [v13] fun v14 =>xF (fFld 0) [v14] fun v15 =>hLoad 1 false [v15] (fun v16 σ =>xF fLen [v16] fun v17 =>xF (fBin .geq .no) [v12, v17] fun v18 =>xF fPick [.bool false, .bool true, v18] fun v19 =>J1 [a0, a1, v19] [] σ) σ))
 (xF fMove [a1] fun v8 =>xF (fBin .lss .no) [v8, .int .i64 0] fun v9 =>xF fPick [.bool false, .bool true, v9] fun v10 =>xF fMove [v10] fun v11 =>xIf v11
 (xF fPick [.bool true, .bool true, undef] fun v19 =>J1 [a0, a1, v19] [] σ)
 (xF fMove [a1] fun v12 =>xF fMove [a0] fun v13 =>xF fNil [v13] fun v14 =>xF (fFld 0) [v14] fun v15 =>hLoad 1 false [v15] (fun v16 σ =>xF fLen [v16] fun v17 =>xF (fBin .geq .no) [v12, v17] fun v18 =>xF fPick [.bool false, .bool true, v18] fun v19 =>J1 [a0, a1, v19] [] σ) σ))
def s_bx : Spec := fun args K σ => match args with
  | [a0, a1] => w_bx a0 a1 K σ
  | _ => False
noncomputable def cx_bx : Cx := { P := Try.prog, T := [], loc := [], eqt := [(25, .ptr)], n := 27, keep := [(1000003, [0, 1, 19], [])] }
theorem q_bx : FnS cx_bx Try.f56 (bodyOf Try.f56) 2 = s_bx := by
  funext args K σ
  rcases args with _ | ⟨a0, _ | ⟨a1, _ | ⟨b, r⟩⟩⟩ <;> kernel_rfl
theorem e_bx : Entry Try.prog 56 .read s_bx :=
  entry (C := cx_bx) TOk.nil mixedOk Try.func56 (by kernel_rfl) (by kernel_rfl) (by kernel_rfl) q_bx
attribute [irreducible] w_bx_j1b w_bx_j1 w_bx s_bx
def w_bk_j1b (K : Value → Mem → Prop) (v1 v5 v16 : Value) (c2 : List Value) (σ : Mem) : Prop :=xIf v16
 (xF fMove [(.int .i64 (-1))] fun v4 =>K v4 σ)
 (xF fMove [v1] fun v17 =>xF fMove [v5] fun v18 =>xF (fBin .sub .no) [v17, v18] fun v19 =>xF (fFld 3) [(locP 2)] fun v20 =>xO (gLoad 1 false [v20] c2) fun v21 =>xF (fBin .quo .no) [v19, v21] fun v22 =>xF fMove [v22] fun v4 =>K v4 σ)
def w_bk_j1 (K : Value → Mem → Prop) (ts : List Value) (ls : List (List Value)) (σ : Mem) : Prop := w_bk_j1b K (ts.getD 0 poison) (ts.getD 1 poison) (ts.getD 2 poison) (ls.getD 0 []) σ
def w_bk (a0 a1 : Value) (K : Value → Mem → Prop) (σ : Mem) : Prop :=xC (gBox 7 [a0] []) fun c2 =>xF fMove [.int .i64 0] fun v4 =>xO (gLoad 7 true [(locP 2)] c2) fun v6 =>s_a8 [v6, .int .i64 0] (fun v7 σ =>xF fMove [v7] fun v5 =>xJoin (w_bk_j1 K) fun J1 =>xF fMove [a1] fun v8 =>xF fMove [v5] fun v9 =>xF (fBin .lss .no) [v8, v9] fun v10 =>xF fMove [v10] fun v11 =>xIf v11
 (xF fPick [.bool true, .bool true, undef] fun v16 =>J1 [a1, v5, v16] [c2] σ)
 (xF fMove [a1] fun v12 =>xO (gLoad 7 true [(locP 2)] c2) fun v13 =>s_bj [v13] (fun v14 σ =>xF (fBin .geq .no) [v12, v14] fun v15 =>xF fPick [.bool false, .bool true, v15] fun v16 =>J1 [a1, v5, v16] [c2] σ) σ)) σ
def s_bk : Spec := fun args K σ => match args with
  | [a0, a1] => w_bk a0 a1 K σ
  | _ => False
noncomputable def cx_bk : Cx := { P := Try.prog, T := [(15, .none, s_a8), (27, .none, s_bj)], loc := [(2, 2), (20, 2)], eqt := [], n := 23, keep := [(1000004, [1, 5, 16], [2])] }
theorem q_bk : FnS cx_bk Try.f57 (bodyOf Try.f57) 2 = s_bk := by
  funext args K σ
  rcases args with _ | ⟨a0, _ | ⟨a1, _ | ⟨b, r⟩⟩⟩ <;> kernel_rfl
theorem e_bk : Entry Try.prog 57 .none s_bk :=
  entry (C := cx_bk) (TOk.cons e_a8 (TOk.cons e_bj TOk.nil)) mixedOk Try.func57 (by kernel_rfl) (by kernel_rfl) (by kernel_rfl) q_bk
attribute [irreducible] w_bk_j1b w_bk_j1 w_bk s_bk
def w_ap_j1b (K : Value → Mem → Prop) (σ : Mem) : Prop :=xF fMove [.bool false] fun v4 =>K v4 σ
def w_ap_j1 (K : Value → Mem → Prop) (ts : List Value) (ls : List (List Value)) (σ : Mem) : Prop := w_ap_j1b K σ
def w_ap (a0 a1 : Value) (K : Value → Mem → Prop) (σ : Mem) : Prop :=xC (gBox 9 [a1] []) fun c3 =>xF fMove [.bool false] fun v4 =>xF (fFld 0) [(locP 3)] fun v8 =>xO (gLoad 7 true [v8] c3) fun v9 =>xF fMove [a0] fun v10 =>xF fNil [v10] fun v11 =>xF (fFld 2) [v11] fun v12 =>xF (fFld 0) [v12] fun v13 =>hLoad 1 false [v13] (fun v14 σ =>s_bo [v9, v14] (fun v15 σ =>xF fMove [v15] fun v5 =>xJoin (w_ap_j1 K) fun J1 =>xF fMove [a0] fun v16 =>xF fNil [v16] fun v17 =>xF (fFld 4) [v17] fun v18 =>hLoad 1 false [v18] (fun v19 σ =>xF (fBin .eql .no) [v19, .int .i64 0] fun v27 =>xF fMove [v27] fun v26 =>xIf v26
 (xF fMove [a0] fun v28 =>xO (gLoad 9 true [(locP 3)] c3) fun v29 =>s_as [v28, v29] (fun v30 σ =>xF fMove [v30] fun v4 =>K v4 σ) σ)
 (xF (fBin .eql .no) [v19, .int .i64 1] fun v32 =>xF fMove [v32] fun v31 =>xIf v31
 (xO (gLoad 9 true [(locP 3)] c3) fun v33 =>xF fMove [a0] fun v34 =>xF fNil [v34] fun v35 =>xF (fFld 5) [v35] fun v36 =>hLoad 1 false [v36] (fun v37 σ =>s_cy [v37] (fun v38 σ =>xF (fFldV 1 1 false) [v38] fun v39 =>s_be [v33, v39] (fun v40 σ =>s_cr [v40] (fun v41 σ =>xC (gStore 5 [(locP 6), v41] [.int .i64 0, .int .i64 0, .int .i64 0, .int .i64 0, .bool false]) fun c6 =>xF (fFld 4) [(locP 6)] fun v42 =>xO (gLoad 1 false [v42] c6) fun v43 =>xF fMove [a0] fun v44 =>xF fNil [v44] fun v45 =>xF (fFld 1) [v45] fun v46 =>hLoad 1 false [v46] (fun v47 σ =>xF (fBin .neq .bool) [v43, v47] fun v48 =>xIf v48
 (xF fMove [a0] fun v49 =>xO (gLoad 9 true [(locP 3)] c3) fun v50 =>s_ar [v49, v50] (fun v51 σ =>xF fMove [v51] fun v4 =>K v4 σ) σ)
 (xF fMove [a0] fun v52 =>xF fMove [a0] fun v53 =>xF (fFld 1) [(locP 6)] fun v54 =>xO (gLoad 1 false [v54] c6) fun v55 =>xF fNil [v52] fun v56 =>xF (fFld 6) [v56] fun v57 =>hStore 1 [v57, v55] (fun _v σ =>xF fNil [v53] fun v58 =>xF (fFld 4) [v58] fun v59 =>hStore 1 [v59, .int .i64 2] (fun _v σ =>xF fMove [a0] fun v60 =>xF fNil [v60] fun v61 =>xF (fFld 5) [v61] fun v62 =>hLoad 1 false [v62] (fun v63 σ =>s_cy [v63] (fun v64 σ =>xF (fFldV 0 1 false) [v64] fun v65 =>xF (fBin .eql .no) [v65, .int .i64 4] fun v66 =>xIf v66
 (xF fMove [a0] fun v67 =>xF fMove [a0] fun v68 =>xF fMove [a0] fun v69 =>xF fNil [v69] fun v70 =>xF (fFld 2) [v70] fun v71 =>xF (fFld 0) [v71] fun v72 =>hLoad 1 false [v72] (fun v73 σ =>xF fMove [a0] fun v74 =>xF fNil [v74] fun v75 =>xF (fFld 5) [v75] fun v76 =>hLoad 1 false [v76] (fun v77 σ =>xF fMove [a0] fun v78 =>xF fNil [v78] fun v79 =>xF (fFld 6) [v79] fun v80 =>hLoad 1 false [v80] (fun v81 σ =>s_aw [v73, v77, v81] (fun v82 σ =>xF fNil [v67] fun v83 =>xF (fFld 7) [v83] fun v84 =>hStore 1 [v84, v82] (fun _v σ =>xF fNil [v68] fun v85 =>xF (fFld 4) [v85] fun v86 =>hStore 1 [v86, .int .i64 4] (fun _v σ =>J1 [] [] σ) σ) σ) σ) σ) σ) σ)
 (J1 [] [] σ)) σ) σ) σ) σ)) σ) σ) σ) σ) σ)
 (xF (fBin .eql .no) [v19, .int .i64 2] fun v88 =>xF fMove [v88] fun v87 =>xIf v87
 (xF fMove [a0] fun v89 =>xO (gLoad 9 true [(locP 3)] c3) fun v90 =>s_aq [v89, v90] (fun v91 σ =>J1 [] [] σ) σ)
 (xF (fBin .eql .no) [v19, .int .i64 3] fun v93 =>xF fMove [v93] fun v92 =>xIf v92
 (xF fMove [a0] fun v94 =>xF fNil [v94] fun v95 =>xF (fFld 7) [v95] fun v96 =>hLoad 1 false [v96] (fun v97 σ =>xO (gLoad 9 true [(locP 3)] c3) fun v98 =>s_at [v97, v98] (fun v99 σ =>xIf v99
 (xF fMove [a0] fun v100 =>xF fMove [a0] fun v101 =>xF (fFld 7) [(locP 3)] fun v102 =>xO (gLoad 1 false [v102] c3) fun v103 =>xF fMove [v5] fun v104 =>s_bx [v103, v104] (fun v105 σ =>xF (fBuild [(0, 1), (1, 1), (2, 1), (3, 1)] [.int .i64 0, .int .u64 0, .int .i64 0, .int .i64 0] [3]) [v105] fun v106 =>xF fNil [v100] fun v107 =>xF (fFld 9) [v107] fun v108 =>hStore 4 [v108, v106] (fun _v σ =>xF fNil [v101] fun v109 =>xF (fFld 4) [v109] fun v110 =>hStore 1 [v110, .int .i64 5] (fun _v σ =>J1 [] [] σ) σ) σ) σ)
 (J1 [] [] σ)) σ) σ)
 (xF (fBin .eql .no) [v19, .int .i64 4] fun v112 =>xF fMove [v112] fun v111 =>xIf v111
 (xF fMove [a0] fun v113 =>xF fNil [v113] fun v114 =>xF (fFld 7) [v114] fun v115 =>hLoad 1 false [v115] (fun v116 σ =>xO (gLoad 9 true [(locP 3)] c3) fun v117 =>s_at [v116, v117] (fun v118 σ =>xIf v118
 (xF fMove [a0] fun v119 =>xF fNil [v119] fun v120 =>xF (fFld 4) [v120] fun v121 =>hStore 1 [v121, .int .i64 0] (fun _v σ =>J1 [] [] σ) σ)
 (J1 [] [] σ)) σ) σ)
 (xF (fBin .eql .no) [v19, .int .i64 5] fun v123 =>xF fMove [v123] fun v122 =>xIf v122
 (xF (fFld 0) [(locP 3)] fun v124 =>xO (gLoad 7 true [v124] c3) fun v125 =>xF fMove [a0] fun v126 =>xF fNil [v126] fun v127 =>xF (fFld 5) [v127] fun v128 =>hLoad 1 false [v128] (fun v129 σ =>s_cy [v129] (fun v130 σ =>xF (fFldV 1 1 false) [v130] fun v131 =>s_bk [v125, v131] (fun v132 σ =>xF fMove [v132] fun v7 =>xO (gLoad 9 true [(locP 3)] c3) fun v133 =>xF (fFld 0) [(locP 3)] fun v134 =>xO (gLoad 7 true [v134] c3) fun v135 =>xF fMove [v7] fun v136 =>s_ba [v135, v136] (fun v137 σ =>xF (fBin .add .no) [v137, .int .i64 1] fun v138 =>xF fMove [a0] fun v139 =>xF fNil [v139] fun v140 =>xF (fFld 6) [v140] fun v141 =>hLoad 1 false [v141] (fun v142 σ =>s_bb [v142] (fun v143 σ =>s_bn [v143] (fun v144 σ =>xF (fUn .neg) [v144] fun v145 =>s_bc [v133, v138, v145] (fun v146 σ =>xF fMove [a0] fun v147 =>xF fMove [a0] fun v148 =>xF fMove [a0] fun v149 =>xF fNil [v149] fun v150 =>xF (fFld 2) [v150] fun v151 =>xF (fFld 0) [v151] fun v152 =>hLoad 1 false [v152] (fun v153 σ =>s_cl [v153] (fun v154 σ =>xF fNil [v147] fun v155 =>xF (fFld 8) [v155] fun v156 =>hStore 1 [v156, v154] (fun _v σ =>xF fNil [v148] fun v157 =>xF (fFld 4) [v157] fun v158 =>hStore 1 [v158, .int .i64 6] (fun _v σ =>xF fMove [a0] fun v159 =>xF fNil [v159] fun v160 =>xF (fFld 2) [v160] fun v161 =>xF (fFld 1) [v161] fun v162 =>hLoad 1 false [v162] (fun v163 σ =>xF (fFld 0) [(locP 3)] fun v164 =>xF (fFld 4) [v164] fun v165 =>xO (gLoad 1 false [v165] c3) fun v166 =>xF (fBin .geq .no) [v163, v166] fun v167 =>xF fMove [v167] fun v4 =>K v4 σ) σ) σ) σ) σ) σ) σ) σ) σ) σ) σ) σ) σ) σ)
 (xF fMove [a0] fun v20 =>xF fNil [v20] fun v21 =>xF (fFld 8) [v21] fun v22 =>hLoad 1 false [v22] (fun v23 σ =>xO (gLoad 9 true [(locP 3)] c3) fun v24 =>s_ck [v23, v24] (fun v25 σ =>xF fMove [v25] fun v4 =>K v4 σ) σ) σ))))))) σ) σ) σ
def s_ap : Spec := fun args K σ => match args with
  | [a0, a1] => w_ap a0 a1 K σ
  | _ => False
noncomputable def cx_ap : Cx := { P := Try.prog, T := [(29, .none, s_bo), (50, .write, s_as), (37, .none, s_cy), (38, .write, s_be), (51, .none, s_cr), (52, .write, s_ar), (53, .write, s_aw), (54, .write, s_aq), (55, .write, s_at), (56, .read, s_bx), (57, .none, s_bk), (14, .none, s_ba), (33, .write, s_bb), (44, .none, s_bn), (43, .write, s_bc), (42, .write, s_cl), (49, .write, s_ck)], loc := [(3, 3), (6, 6), (8, 3), (42, 6), (54, 6), (102, 3), (124, 3), (134, 3), (164, 3), (165, 3)], eqt := [(4, .bool)], n := 168, keep := [(1000027, [], [])] }
theorem q_ap : FnS cx_ap Try.f22 (bodyOf Try.f22) 2 = s_ap := by
  funext args K σ
  rcases args with _ | ⟨a0, _ | ⟨a1, _ | ⟨b, r⟩⟩⟩ <;> kernel_rfl
theorem e_ap : Entry Try.prog 22 .write s_ap :=
  entry (C := cx_ap) (TOk.cons e_bo (TOk.cons e_as (TOk.cons e_cy (TOk.cons e_be (TOk.cons e_cr (TOk.cons e_ar (TOk.cons e_aw (TOk.cons e_aq (TOk.cons e_at (TOk.cons e_bx (TOk.cons e_bk (TOk.cons e_ba (TOk.cons e_bb (TOk.cons e_bn (TOk.cons e_bc (TOk.cons e_cl (TOk.cons e_ck TOk.nil))))))))))))))))) mixedOk Try.func22 (by kernel_rfl) (by kernel_rfl) (by kernel_rfl) q_ap
attribute [irreducible] w_ap_j1b w_ap_j1 w_ap s_ap
def w_ao (a0 : Value) (K : Value → Mem → Prop) (σ : Mem) : Prop :=xF fMove [a0] fun v3 =>xF (fBin .eql .ptr) [v3, .pointer none] fun v4 =>xIf v4
 (xF (fBuild [(0, 1), (1, 1), (2, 1), (3, 1)] [.int .i64 0, .int .u64 0, .int .i64 0, .int .i64 0] [0]) [.int .i64 1] fun v5 =>xC (gStore 4 [(locP 2), v5] [.int .i64 0, .int .u64 0, .int .i64 0, .int .i64 0]) fun c2 =>xO (gLoad 4 true [(locP 2)] c2) fun r2 =>K r2 σ)
 (xF fMove [a0] fun v6 =>xF fNil [v6] fun v7 =>xF (fFld 9) [v7] fun v8 =>hLoad 4 true [v8] (fun v9 σ =>xC (gStore 4 [(locP 2), v9] [.int .i64 0, .int .u64 0, .int .i64 0, .int .i64 0]) fun c2 =>xO (gLoad 4 true [(locP 2)] c2) fun r2 =>K r2 σ) σ)
def s_ao : Spec := fun args K σ => match args with
  | [a0] => w_ao a0 K σ
  | _ => False
noncomputable def cx_ao : Cx := { P := Try.prog, T := [], loc := [(2, 2)], eqt := [(58, .ptr)], n := 10, keep := [] }
theorem q_ao : FnS cx_ao Try.f23 (bodyOf Try.f23) 1 = s_ao := by
  funext args K σ
  rcases args with _ | ⟨a0, _ | ⟨b, r⟩⟩ <;> kernel_rfl
theorem e_ao : Entry Try.prog 23 .read s_ao :=
  entry (C := cx_ao) TOk.nil mixedOk Try.func23 (by kernel_rfl) (by kernel_rfl) (by kernel_rfl) q_ao
attribute [irreducible] w_ao s_ao
def w_a3_j1b (K : Value → Mem → Prop) (v7 : Value) (c6 : List Value) (σ : Mem) : Prop :=xF fMove [v7] fun v19 =>s_ao [v19] (fun v20 σ =>xC (gStore 4 [(locP 6), v20] c6) fun c6 =>xO (gLoad 4 true [(locP 6)] c6) fun r6 =>K r6 σ) σ
def w_a3_j1 (K : Value → Mem → Prop) (ts : List Value) (ls : List (List Value)) (σ : Mem) : Prop := w_a3_j1b K (ts.getD 0 poison) (ls.getD 0 []) σ
def w_law09_Drop_l4b (K : Value → Mem → Prop) (J1 : List Value → List (List Value) → Mem → Prop) (R1 : List Value → List (List Value) → Mem → Prop) (v7 v8 : Value) (c3 c6 : List Value) (σ : Mem) : Prop :=xF fMove [v8] fun v12 =>xF (fBin .lss .no) [v12, .int .i64 200] fun v13 =>xIf v13
 (xF fMove [v7] fun v16 =>xO (gLoad 9 true [(locP 3)] c3) fun v17 =>s_ap [v16, v17] (fun v18 σ =>xIf v18
 (J1 [v7] [c6] σ)
 (xF fMove [v8] fun v14 =>xF (fBin .add .no) [v14, .int .i64 1] fun v15 =>xF fMove [v15] fun v8 =>R1 [v7, v8] [c3, c6] σ)) σ)
 (J1 [v7] [c6] σ)
def w_law09_Drop_l4 (K : Value → Mem → Prop) (J1 : List Value → List (List Value) → Mem → Prop) (R1 : List Value → List (List Value) → Mem → Prop) (ts : List Value) (ls : List (List Value)) (σ : Mem) : Prop := w_law09_Drop_l4b K J1 R1 (ts.getD 0 poison) (ts.getD 1 poison) (ls.getD 0 []) (ls.getD 1 []) σ
def w_a3 (a0 a1 a2 : Value) (K : Value → Mem → Prop) (σ : Mem) : Prop :=xC (gBox 9 [a0] []) fun c3 =>xF fMove [a1] fun v9 =>xF fMove [a2] fun v10 =>s_av [v9, v10] (fun v11 σ =>xF fMove [v11] fun v7 =>xJoin (w_a3_j1 K) fun J1 =>xF fMove [.int .i64 0] fun v8 =>xLoop (w_law09_Drop_l4 K J1) [v7, v8] [c3, [.int .i64 0, .int .u64 0, .int .i64 0, .int .i64 0]] σ) σ
def s_a3 : Spec := fun args K σ => match args with
  | [a0, a1, a2] => w_a3 a0 a1 a2 K σ
  | _ => False
noncomputable def cx_a3 : Cx := { P := Try.prog, T := [(21, .write, s_av), (22, .write, s_ap), (23, .read, s_ao)], loc := [(3, 3), (6, 6)], eqt := [], n := 21, keep := [(4, [7, 8], [3, 6]), (1000007, [7], [6])] }
theorem q_a3 : FnS cx_a3 Try.f7 (bodyOf Try.f7) 3 = s_a3 := by
  funext args K σ
  rcases args with _ | ⟨a0, _ | ⟨a1, _ | ⟨a2, _ | ⟨b, r⟩⟩⟩⟩ <;> kernel_rfl
theorem e_a3 : Entry Try.prog 7 .write s_a3 :=
  entry (C := cx_a3) (TOk.cons e_av (TOk.cons e_ap (TOk.cons e_ao TOk.nil))) mixedOk Try.func7 (by kernel_rfl) (by kernel_rfl) (by kernel_rfl) q_a3
attribute [irreducible] w_a3_j1b w_a3_j1 w_law09_Drop_l4b w_law09_Drop_l4 w_a3 s_a3
def w_an (K : Value → Mem → Prop) (σ : Mem) : Prop :=xF fMove [.pointer none] fun v0 =>xF (fBuild [(0, 1), (1, 1), (2, 1), (3, 1), (4, 1), (5, 1), (6, 1), (7, 1), (8, 1), (9, 5), (14, 5), (19, 1)] [.int .i64 0, (.slice none 0 0), .int .i64 0, .int .i64 0, .int .u64 0, .int .u64 0, .pointer none, .pointer none, .pointer none, .int .i64 0, .int .i64 0, .int .i64 0, .int .i64 0, .int .i64 0, .int .i64 0, .int .i64 0, .int .i64 0, .int .i64 0, .int .i64 0, .int .i64 0] []) [] fun v1 =>hBox 20 [v1] (fun v2 σ =>xF fMove [v2] fun v0 =>K v0 σ) σ
def s_an : Spec := fun args K σ => match args with
  | [] => w_an  K σ
  | _ => False
noncomputable def cx_an : Cx := { P := Try.prog, T := [], loc := [], eqt := [], n := 3, keep := [] }
theorem q_an : FnS cx_an Try.f10 (bodyOf Try.f10) 0 = s_an := by
  funext args K σ
  rcases args with _ | ⟨b, r⟩ <;> kernel_rfl
theorem e_an : Entry Try.prog 10 .write s_an :=
  entry (C := cx_an) TOk.nil mixedOk Try.func10 (by kernel_rfl) (by kernel_rfl) (by kernel_rfl) q_an
attribute [irreducible] w_an s_an
def w_bu_j1b (K : Value → Mem → Prop) (v0 v1 v19 : Value) (σ : Mem) : Prop :=xIf v19
 (xF fMove [.int .u64 0] fun v4 =>K v4 σ)
 (xF fMove [v0] fun v20 =>xF fNil [v20] fun v21 =>xF (fFld 0) [v21] fun v22 =>hLoad 1 false [v22] (fun v23 σ =>xF fMove [v1] fun v24 =>xF (fIxS 1) [v23, v24] fun v25 =>hLoad 1 false [v25] (fun v26 σ =>xF fMove [v26] fun v4 =>K v4 σ) σ) σ)
def w_bu_j1 (K : Value → Mem → Prop) (ts : List Value) (ls : List (List Value)) (σ : Mem) : Prop := w_bu_j1b K (ts.getD 0 poison) (ts.getD 1 poison) (ts.getD 2 poison) σ
def w_bu (a0 a1 : Value) (K : Value → Mem → Prop) (σ : Mem) : Prop :=xF fMove [.int .u64 0] fun v4 =>xJoin (w_bu_j1 K) fun J1 =>xF fMove [a0] fun v5 =>xF (fBin .eql .ptr) [v5, .pointer none] fun v6 =>xF fMove [v6] fun v7 =>xIf v7
 (xF fPick [.bool true, .bool true, undef] fun v10 =>xF fMove [v10] fun v11 =>xIf v11
 (xF fPick [.bool true, .bool true, undef] fun v19 =>J1 [a0, a1, v19] [] σ)
 (xF fMove [a1] fun v12 =>xF fMove [a0] fun v13 =>xF fNil [v13] fun v14 =>xF (fFld 0) [v14] fun v15 =>hLoad 1 false [v15] (fun v16 σ =>xF fLen [v16] fun v17 =>xF (fBin .geq .no) [v12, v17] fun v18 =>xF fPick [.bool false, .bool true, v18] fun v19 =>J1 [a0, a1, v19] [] σ) σ))
 (xF fMove [a1] fun v8 =>xF (fBin .lss .no) [v8, .int .i64 0] fun v9 =>xF fPick [.bool false, .bool true, v9] fun v10 =>xF fMove [v10] fun v11 =>xIf v11
 (xF fPick [.bool true, .bool true, undef] fun v19 =>J1 [a0, a1, v19] [] σ)
 (xF fMove [a1] fun v12 =>xF fMove [a0] fun v13 =>xF fNil [v13] fun v14 =>xF (fFld 0) [v14] fun v15 =>hLoad 1 false [v15] (fun v16 σ =>xF fLen [v16] fun v17 =>xF (fBin .geq .no) [v12, v17] fun v18 =>xF fPick [.bool false, .bool true, v18] fun v19 =>J1 [a0, a1, v19] [] σ) σ))
def s_bu : Spec := fun args K σ => match args with
  | [a0, a1] => w_bu a0 a1 K σ
  | _ => False
noncomputable def cx_bu : Cx := { P := Try.prog, T := [], loc := [], eqt := [(25, .ptr)], n := 27, keep := [(1000003, [0, 1, 19], [])] }
theorem q_bu : FnS cx_bu Try.f8 (bodyOf Try.f8) 2 = s_bu := by
  funext args K σ
  rcases args with _ | ⟨a0, _ | ⟨a1, _ | ⟨b, r⟩⟩⟩ <;> kernel_rfl
theorem e_bu : Entry Try.prog 8 .read s_bu :=
  entry (C := cx_bu) TOk.nil mixedOk Try.func8 (by kernel_rfl) (by kernel_rfl) (by kernel_rfl) q_bu
attribute [irreducible] w_bu_j1b w_bu_j1 w_bu s_bu
end Go.Fl
