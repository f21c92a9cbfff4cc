/- What the claim leans on, part 2: own readings of the program's functions, what they come to, laws of them. No condition. -/
import Derived.Test.YtedpfdkhebmocaaGreatZCompactStill1
namespace Go.Fl
open Go
open Go Go.Proofs
set_option linter.unusedVariables false
set_option maxRecDepth 10000000
theorem mixedOk : Tryz.prog.follows .mixedOrders = true := by kernel_rfl
def bodyOf (fn : Func) : Code :=
  match fn.body with
  | some c => c
  | none => .skip
def w_bq_j3b (K : Value → Mem → Prop) (v3 v4 v5 : Value) (σ : Mem) : Prop :=xF fMove [v3] fun v70 =>xF fMove [v70] fun v71 =>xIf v71
 (xF fMove [v4] fun v72 =>xF fPick [.bool true, v72, .bool false] fun v73 =>xF fMove [v73] fun v74 =>xIf v74
 (xF fMove [v5] fun v75 =>xF fPick [.bool true, v75, .bool false] fun v76 =>xF fMove [v76] fun v2 =>K v2 σ)
 (xF fPick [.bool false, undef, .bool false] fun v76 =>xF fMove [v76] fun v2 =>K v2 σ))
 (xF fPick [.bool false, undef, .bool false] fun v73 =>xF fMove [v73] fun v74 =>xIf v74
 (xF fMove [v5] fun v75 =>xF fPick [.bool true, v75, .bool false] fun v76 =>xF fMove [v76] fun v2 =>K v2 σ)
 (xF fPick [.bool false, undef, .bool false] fun v76 =>xF fMove [v76] fun v2 =>K v2 σ))
def w_bq_j3 (K : Value → Mem → Prop) (ts : List Value) (ls : List (List Value)) (σ : Mem) : Prop := w_bq_j3b K (ts.getD 0 poison) (ts.getD 1 poison) (ts.getD 2 poison) σ
def w_bq_j2b (K : Value → Mem → Prop) (v3 v4 : Value) (c1 : List Value) (σ : Mem) : Prop :=xJoin (w_bq_j3 K) fun J3 =>xF (fFld 4) [(locP 1)] fun v42 =>xO (gLoad 1 false [v42] c1) fun v43 =>xF (fBin .geq .no) [v43, .int .i64 1] fun v44 =>xF fMove [v44] fun v45 =>xIf v45
 (xF (fFld 4) [(locP 1)] fun v46 =>xO (gLoad 1 false [v46] c1) fun v47 =>xF (fBin .leq .no) [v47, .int .i64 65535] fun v48 =>xF fPick [.bool true, v48, .bool false] fun v49 =>xF fMove [v49] fun v50 =>xIf v50
 (xF (fFld 5) [(locP 1)] fun v51 =>xO (gLoad 1 false [v51] c1) fun v52 =>xF (fBin .geq .no) [v52, .int .i64 0] fun v53 =>xF fPick [.bool true, v53, .bool false] fun v54 =>xF fMove [v54] fun v55 =>xIf v55
 (xF (fFld 5) [(locP 1)] fun v56 =>xO (gLoad 1 false [v56] c1) fun v57 =>xF (fBin .leq .no) [v57, .int .i64 1000] fun v58 =>xF fPick [.bool true, v58, .bool false] fun v59 =>xF fMove [v59] fun v60 =>xIf v60
 (xF (fFld 6) [(locP 1)] fun v61 =>xO (gLoad 1 false [v61] c1) fun v62 =>xF (fBin .geq .no) [v62, .int .i64 1] fun v63 =>xF fPick [.bool true, v63, .bool false] fun v64 =>xF fMove [v64] fun v65 =>xIf v65
 (xF (fFld 6) [(locP 1)] fun v66 =>xO (gLoad 1 false [v66] c1) fun v67 =>xF (fBin .leq .no) [v67, .int .i64 16] fun v68 =>xF fPick [.bool true, v68, .bool false] fun v69 =>xF fMove [v69] fun v5 =>J3 [v3, v4, v5] [] σ)
 (xF fPick [.bool false, undef, .bool false] fun v69 =>xF fMove [v69] fun v5 =>J3 [v3, v4, v5] [] σ))
 (xF fPick [.bool false, undef, .bool false] fun v64 =>xF fMove [v64] fun v65 =>xIf v65
 (xF (fFld 6) [(locP 1)] fun v66 =>xO (gLoad 1 false [v66] c1) fun v67 =>xF (fBin .leq .no) [v67, .int .i64 16] fun v68 =>xF fPick [.bool true, v68, .bool false] fun v69 =>xF fMove [v69] fun v5 =>J3 [v3, v4, v5] [] σ)
 (xF fPick [.bool false, undef, .bool false] fun v69 =>xF fMove [v69] fun v5 =>J3 [v3, v4, v5] [] σ)))
 (xF fPick [.bool false, undef, .bool false] fun v59 =>xF fMove [v59] fun v60 =>xIf v60
 (xF (fFld 6) [(locP 1)] fun v61 =>xO (gLoad 1 false [v61] c1) fun v62 =>xF (fBin .geq .no) [v62, .int .i64 1] fun v63 =>xF fPick [.bool true, v63, .bool false] fun v64 =>xF fMove [v64] fun v65 =>xIf v65
 (xF (fFld 6) [(locP 1)] fun v66 =>xO (gLoad 1 false [v66] c1) fun v67 =>xF (fBin .leq .no) [v67, .int .i64 16] fun v68 =>xF fPick [.bool true, v68, .bool false] fun v69 =>xF fMove [v69] fun v5 =>J3 [v3, v4, v5] [] σ)
 (xF fPick [.bool false, undef, .bool false] fun v69 =>xF fMove [v69] fun v5 =>J3 [v3, v4, v5] [] σ))
 (xF fPick [.bool false, undef, .bool false] fun v64 =>xF fMove [v64] fun v65 =>xIf v65
 (xF (fFld 6) [(locP 1)] fun v66 =>xO (gLoad 1 false [v66] c1) fun v67 =>xF (fBin .leq .no) [v67, .int .i64 16] fun v68 =>xF fPick [.bool true, v68, .bool false] fun v69 =>xF fMove [v69] fun v5 =>J3 [v3, v4, v5] [] σ)
 (xF fPick [.bool false, undef, .bool false] fun v69 =>xF fMove [v69] fun v5 =>J3 [v3, v4, v5] [] σ))))
 (xF fPick [.bool false, undef, .bool false] fun v54 =>xF fMove [v54] fun v55 =>xIf v55
 (xF (fFld 5) [(locP 1)] fun v56 =>xO (gLoad 1 false [v56] c1) fun v57 =>xF (fBin .leq .no) [v57, .int .i64 1000] fun v58 =>xF fPick [.bool true, v58, .bool false] fun v59 =>xF fMove [v59] fun v60 =>xIf v60
 (xF (fFld 6) [(locP 1)] fun v61 =>xO (gLoad 1 false [v61] c1) fun v62 =>xF (fBin .geq .no) [v62, .int .i64 1] fun v63 =>xF fPick [.bool true, v63, .bool false] fun v64 =>xF fMove [v64] fun v65 =>xIf v65
 (xF (fFld 6) [(locP 1)] fun v66 =>xO (gLoad 1 false [v66] c1) fun v67 =>xF (fBin .leq .no) [v67, .int .i64 16] fun v68 =>xF fPick [.bool true, v68, .bool false] fun v69 =>xF fMove [v69] fun v5 =>J3 [v3, v4, v5] [] σ)
 (xF fPick [.bool false, undef, .bool false] fun v69 =>xF fMove [v69] fun v5 =>J3 [v3, v4, v5] [] σ))
 (xF fPick [.bool false, undef, .bool false] fun v64 =>xF fMove [v64] fun v65 =>xIf v65
 (xF (fFld 6) [(locP 1)] fun v66 =>xO (gLoad 1 false [v66] c1) fun v67 =>xF (fBin .leq .no) [v67, .int .i64 16] fun v68 =>xF fPick [.bool true, v68, .bool false] fun v69 =>xF fMove [v69] fun v5 =>J3 [v3, v4, v5] [] σ)
 (xF fPick [.bool false, undef, .bool false] fun v69 =>xF fMove [v69] fun v5 =>J3 [v3, v4, v5] [] σ)))
 (xF fPick [.bool false, undef, .bool false] fun v59 =>xF fMove [v59] fun v60 =>xIf v60
 (xF (fFld 6) [(locP 1)] fun v61 =>xO (gLoad 1 false [v61] c1) fun v62 =>xF (fBin .geq .no) [v62, .int .i64 1] fun v63 =>xF fPick [.bool true, v63, .bool false] fun v64 =>xF fMove [v64] fun v65 =>xIf v65
 (xF (fFld 6) [(locP 1)] fun v66 =>xO (gLoad 1 false [v66] c1) fun v67 =>xF (fBin .leq .no) [v67, .int .i64 16] fun v68 =>xF fPick [.bool true, v68, .bool false] fun v69 =>xF fMove [v69] fun v5 =>J3 [v3, v4, v5] [] σ)
 (xF fPick [.bool false, undef, .bool false] fun v69 =>xF fMove [v69] fun v5 =>J3 [v3, v4, v5] [] σ))
 (xF fPick [.bool false, undef, .bool false] fun v64 =>xF fMove [v64] fun v65 =>xIf v65
 (xF (fFld 6) [(locP 1)] fun v66 =>xO (gLoad 1 false [v66] c1) fun v67 =>xF (fBin .leq .no) [v67, .int .i64 16] fun v68 =>xF fPick [.bool true, v68, .bool false] fun v69 =>xF fMove [v69] fun v5 =>J3 [v3, v4, v5] [] σ)
 (xF fPick [.bool false, undef, .bool false] fun v69 =>xF fMove [v69] fun v5 =>J3 [v3, v4, v5] [] σ)))))
 (xF fPick [.bool false, undef, .bool false] fun v49 =>xF fMove [v49] fun v50 =>xIf v50
 (xF (fFld 5) [(locP 1)] fun v51 =>xO (gLoad 1 false [v51] c1) fun v52 =>xF (fBin .geq .no) [v52, .int .i64 0] fun v53 =>xF fPick [.bool true, v53, .bool false] fun v54 =>xF fMove [v54] fun v55 =>xIf v55
 (xF (fFld 5) [(locP 1)] fun v56 =>xO (gLoad 1 false [v56] c1) fun v57 =>xF (fBin .leq .no) [v57, .int .i64 1000] fun v58 =>xF fPick [.bool true, v58, .bool false] fun v59 =>xF fMove [v59] fun v60 =>xIf v60
 (xF (fFld 6) [(locP 1)] fun v61 =>xO (gLoad 1 false [v61] c1) fun v62 =>xF (fBin .geq .no) [v62, .int .i64 1] fun v63 =>xF fPick [.bool true, v63, .bool false] fun v64 =>xF fMove [v64] fun v65 =>xIf v65
 (xF (fFld 6) [(locP 1)] fun v66 =>xO (gLoad 1 false [v66] c1) fun v67 =>xF (fBin .leq .no) [v67, .int .i64 16] fun v68 =>xF fPick [.bool true, v68, .bool false] fun v69 =>xF fMove [v69] fun v5 =>J3 [v3, v4, v5] [] σ)
 (xF fPick [.bool false, undef, .bool false] fun v69 =>xF fMove [v69] fun v5 =>J3 [v3, v4, v5] [] σ))
 (xF fPick [.bool false, undef, .bool false] fun v64 =>xF fMove [v64] fun v65 =>xIf v65
 (xF (fFld 6) [(locP 1)] fun v66 =>xO (gLoad 1 false [v66] c1) fun v67 =>xF (fBin .leq .no) [v67, .int .i64 16] fun v68 =>xF fPick [.bool true, v68, .bool false] fun v69 =>xF fMove [v69] fun v5 =>J3 [v3, v4, v5] [] σ)
 (xF fPick [.bool false, undef, .bool false] fun v69 =>xF fMove [v69] fun v5 =>J3 [v3, v4, v5] [] σ)))
 (xF fPick [.bool false, undef, .bool false] fun v59 =>xF fMove [v59] fun v60 =>xIf v60
 (xF (fFld 6) [(locP 1)] fun v61 =>xO (gLoad 1 false [v61] c1) fun v62 =>xF (fBin .geq .no) [v62, .int .i64 1] fun v63 =>xF fPick [.bool true, v63, .bool false] fun v64 =>xF fMove [v64] fun v65 =>xIf v65
 (xF (fFld 6) [(locP 1)] fun v66 =>xO (gLoad 1 false [v66] c1) fun v67 =>xF (fBin .leq .no) [v67, .int .i64 16] fun v68 =>xF fPick [.bool true, v68, .bool false] fun v69 =>xF fMove [v69] fun v5 =>J3 [v3, v4, v5] [] σ)
 (xF fPick [.bool false, undef, .bool false] fun v69 =>xF fMove [v69] fun v5 =>J3 [v3, v4, v5] [] σ))
 (xF fPick [.bool false, undef, .bool false] fun v64 =>xF fMove [v64] fun v65 =>xIf v65
 (xF (fFld 6) [(locP 1)] fun v66 =>xO (gLoad 1 false [v66] c1) fun v67 =>xF (fBin .leq .no) [v67, .int .i64 16] fun v68 =>xF fPick [.bool true, v68, .bool false] fun v69 =>xF fMove [v69] fun v5 =>J3 [v3, v4, v5] [] σ)
 (xF fPick [.bool false, undef, .bool false] fun v69 =>xF fMove [v69] fun v5 =>J3 [v3, v4, v5] [] σ))))
 (xF fPick [.bool false, undef, .bool false] fun v54 =>xF fMove [v54] fun v55 =>xIf v55
 (xF (fFld 5) [(locP 1)] fun v56 =>xO (gLoad 1 false [v56] c1) fun v57 =>xF (fBin .leq .no) [v57, .int .i64 1000] fun v58 =>xF fPick [.bool true, v58, .bool false] fun v59 =>xF fMove [v59] fun v60 =>xIf v60
 (xF (fFld 6) [(locP 1)] fun v61 =>xO (gLoad 1 false [v61] c1) fun v62 =>xF (fBin .geq .no) [v62, .int .i64 1] fun v63 =>xF fPick [.bool true, v63, .bool false] fun v64 =>xF fMove [v64] fun v65 =>xIf v65
 (xF (fFld 6) [(locP 1)] fun v66 =>xO (gLoad 1 false [v66] c1) fun v67 =>xF (fBin .leq .no) [v67, .int .i64 16] fun v68 =>xF fPick [.bool true, v68, .bool false] fun v69 =>xF fMove [v69] fun v5 =>J3 [v3, v4, v5] [] σ)
 (xF fPick [.bool false, undef, .bool false] fun v69 =>xF fMove [v69] fun v5 =>J3 [v3, v4, v5] [] σ))
 (xF fPick [.bool false, undef, .bool false] fun v64 =>xF fMove [v64] fun v65 =>xIf v65
 (xF (fFld 6) [(locP 1)] fun v66 =>xO (gLoad 1 false [v66] c1) fun v67 =>xF (fBin .leq .no) [v67, .int .i64 16] fun v68 =>xF fPick [.bool true, v68, .bool false] fun v69 =>xF fMove [v69] fun v5 =>J3 [v3, v4, v5] [] σ)
 (xF fPick [.bool false, undef, .bool false] fun v69 =>xF fMove [v69] fun v5 =>J3 [v3, v4, v5] [] σ)))
 (xF fPick [.bool false, undef, .bool false] fun v59 =>xF fMove [v59] fun v60 =>xIf v60
 (xF (fFld 6) [(locP 1)] fun v61 =>xO (gLoad 1 false [v61] c1) fun v62 =>xF (fBin .geq .no) [v62, .int .i64 1] fun v63 =>xF fPick [.bool true, v63, .bool false] fun v64 =>xF fMove [v64] fun v65 =>xIf v65
 (xF (fFld 6) [(locP 1)] fun v66 =>xO (gLoad 1 false [v66] c1) fun v67 =>xF (fBin .leq .no) [v67, .int .i64 16] fun v68 =>xF fPick [.bool true, v68, .bool false] fun v69 =>xF fMove [v69] fun v5 =>J3 [v3, v4, v5] [] σ)
 (xF fPick [.bool false, undef, .bool false] fun v69 =>xF fMove [v69] fun v5 =>J3 [v3, v4, v5] [] σ))
 (xF fPick [.bool false, undef, .bool false] fun v64 =>xF fMove [v64] fun v65 =>xIf v65
 (xF (fFld 6) [(locP 1)] fun v66 =>xO (gLoad 1 false [v66] c1) fun v67 =>xF (fBin .leq .no) [v67, .int .i64 16] fun v68 =>xF fPick [.bool true, v68, .bool false] fun v69 =>xF fMove [v69] fun v5 =>J3 [v3, v4, v5] [] σ)
 (xF fPick [.bool false, undef, .bool false] fun v69 =>xF fMove [v69] fun v5 =>J3 [v3, v4, v5] [] σ)))))
def w_bq_j2 (K : Value → Mem → Prop) (ts : List Value) (ls : List (List Value)) (σ : Mem) : Prop := w_bq_j2b K (ts.getD 0 poison) (ts.getD 1 poison) (ls.getD 0 []) σ
def w_bq_j1b (K : Value → Mem → Prop) (v3 : Value) (c1 : List Value) (σ : Mem) : Prop :=xJoin (w_bq_j2 K) fun J2 =>xF (fFld 2) [(locP 1)] fun v24 =>xO (gLoad 1 false [v24] c1) fun v25 =>xF (fBin .geq .no) [v25, .int .i64 1] fun v26 =>xF fMove [v26] fun v27 =>xIf v27
 (xF (fFld 2) [(locP 1)] fun v28 =>xO (gLoad 1 false [v28] c1) fun v29 =>xF (fBin .leq .no) [v29, .int .i64 64] fun v30 =>xF fPick [.bool true, v30, .bool false] fun v31 =>xF fMove [v31] fun v32 =>xIf v32
 (xF (fFld 3) [(locP 1)] fun v33 =>xO (gLoad 1 false [v33] c1) fun v34 =>xF (fBin .geq .no) [v34, .int .i64 17] fun v35 =>xF fPick [.bool true, v35, .bool false] fun v36 =>xF fMove [v36] fun v37 =>xIf v37
 (xF (fFld 3) [(locP 1)] fun v38 =>xO (gLoad 1 false [v38] c1) fun v39 =>xF (fBin .leq .no) [v39, .int .i64 256] fun v40 =>xF fPick [.bool true, v40, .bool false] fun v41 =>xF fMove [v41] fun v4 =>J2 [v3, v4] [c1] σ)
 (xF fPick [.bool false, undef, .bool false] fun v41 =>xF fMove [v41] fun v4 =>J2 [v3, v4] [c1] σ))
 (xF fPick [.bool false, undef, .bool false] fun v36 =>xF fMove [v36] fun v37 =>xIf v37
 (xF (fFld 3) [(locP 1)] fun v38 =>xO (gLoad 1 false [v38] c1) fun v39 =>xF (fBin .leq .no) [v39, .int .i64 256] fun v40 =>xF fPick [.bool true, v40, .bool false] fun v41 =>xF fMove [v41] fun v4 =>J2 [v3, v4] [c1] σ)
 (xF fPick [.bool false, undef, .bool false] fun v41 =>xF fMove [v41] fun v4 =>J2 [v3, v4] [c1] σ)))
 (xF fPick [.bool false, undef, .bool false] fun v31 =>xF fMove [v31] fun v32 =>xIf v32
 (xF (fFld 3) [(locP 1)] fun v33 =>xO (gLoad 1 false [v33] c1) fun v34 =>xF (fBin .geq .no) [v34, .int .i64 17] fun v35 =>xF fPick [.bool true, v35, .bool false] fun v36 =>xF fMove [v36] fun v37 =>xIf v37
 (xF (fFld 3) [(locP 1)] fun v38 =>xO (gLoad 1 false [v38] c1) fun v39 =>xF (fBin .leq .no) [v39, .int .i64 256] fun v40 =>xF fPick [.bool true, v40, .bool false] fun v41 =>xF fMove [v41] fun v4 =>J2 [v3, v4] [c1] σ)
 (xF fPick [.bool false, undef, .bool false] fun v41 =>xF fMove [v41] fun v4 =>J2 [v3, v4] [c1] σ))
 (xF fPick [.bool false, undef, .bool false] fun v36 =>xF fMove [v36] fun v37 =>xIf v37
 (xF (fFld 3) [(locP 1)] fun v38 =>xO (gLoad 1 false [v38] c1) fun v39 =>xF (fBin .leq .no) [v39, .int .i64 256] fun v40 =>xF fPick [.bool true, v40, .bool false] fun v41 =>xF fMove [v41] fun v4 =>J2 [v3, v4] [c1] σ)
 (xF fPick [.bool false, undef, .bool false] fun v41 =>xF fMove [v41] fun v4 =>J2 [v3, v4] [c1] σ)))
def w_bq_j1 (K : Value → Mem → Prop) (ts : List Value) (ls : List (List Value)) (σ : Mem) : Prop := w_bq_j1b K (ts.getD 0 poison) (ls.getD 0 []) σ
def w_bq (a0 : Value) (K : Value → Mem → Prop) (σ : Mem) : Prop :=xC (gBox 7 [a0] []) fun c1 =>xF fMove [.bool false] fun v2 =>xJoin (w_bq_j1 K) fun J1 =>xF (fFld 0) [(locP 1)] fun v6 =>xO (gLoad 1 false [v6] c1) fun v7 =>xF (fBin .geq .no) [v7, .int .i64 1] fun v8 =>xF fMove [v8] fun v9 =>xIf v9
 (xF (fFld 0) [(locP 1)] fun v10 =>xO (gLoad 1 false [v10] c1) fun v11 =>xF (fBin .leq .no) [v11, .int .i64 8] fun v12 =>xF fPick [.bool true, v12, .bool false] fun v13 =>xF fMove [v13] fun v14 =>xIf v14
 (xF (fFld 1) [(locP 1)] fun v15 =>xO (gLoad 1 false [v15] c1) fun v16 =>xF (fBin .geq .no) [v16, .int .i64 1] fun v17 =>xF fPick [.bool true, v17, .bool false] fun v18 =>xF fMove [v18] fun v19 =>xIf v19
 (xF (fFld 1) [(locP 1)] fun v20 =>xO (gLoad 1 false [v20] c1) fun v21 =>xF (fBin .leq .no) [v21, .int .i64 65536] fun v22 =>xF fPick [.bool true, v22, .bool false] fun v23 =>xF fMove [v23] fun v3 =>J1 [v3] [c1] σ)
 (xF fPick [.bool false, undef, .bool false] fun v23 =>xF fMove [v23] fun v3 =>J1 [v3] [c1] σ))
 (xF fPick [.bool false, undef, .bool false] fun v18 =>xF fMove [v18] fun v19 =>xIf v19
 (xF (fFld 1) [(locP 1)] fun v20 =>xO (gLoad 1 false [v20] c1) fun v21 =>xF (fBin .leq .no) [v21, .int .i64 65536] fun v22 =>xF fPick [.bool true, v22, .bool false] fun v23 =>xF fMove [v23] fun v3 =>J1 [v3] [c1] σ)
 (xF fPick [.bool false, undef, .bool false] fun v23 =>xF fMove [v23] fun v3 =>J1 [v3] [c1] σ)))
 (xF fPick [.bool false, undef, .bool false] fun v13 =>xF fMove [v13] fun v14 =>xIf v14
 (xF (fFld 1) [(locP 1)] fun v15 =>xO (gLoad 1 false [v15] c1) fun v16 =>xF (fBin .geq .no) [v16, .int .i64 1] fun v17 =>xF fPick [.bool true, v17, .bool false] fun v18 =>xF fMove [v18] fun v19 =>xIf v19
 (xF (fFld 1) [(locP 1)] fun v20 =>xO (gLoad 1 false [v20] c1) fun v21 =>xF (fBin .leq .no) [v21, .int .i64 65536] fun v22 =>xF fPick [.bool true, v22, .bool false] fun v23 =>xF fMove [v23] fun v3 =>J1 [v3] [c1] σ)
 (xF fPick [.bool false, undef, .bool false] fun v23 =>xF fMove [v23] fun v3 =>J1 [v3] [c1] σ))
 (xF fPick [.bool false, undef, .bool false] fun v18 =>xF fMove [v18] fun v19 =>xIf v19
 (xF (fFld 1) [(locP 1)] fun v20 =>xO (gLoad 1 false [v20] c1) fun v21 =>xF (fBin .leq .no) [v21, .int .i64 65536] fun v22 =>xF fPick [.bool true, v22, .bool false] fun v23 =>xF fMove [v23] fun v3 =>J1 [v3] [c1] σ)
 (xF fPick [.bool false, undef, .bool false] fun v23 =>xF fMove [v23] fun v3 =>J1 [v3] [c1] σ)))
def s_bq : Spec := fun args K σ => match args with
  | [a0] => w_bq a0 K σ
  | _ => False
noncomputable def cx_bq : Cx := { P := Tryz.prog, T := [], loc := [(1, 1), (6, 1), (10, 1), (15, 1), (20, 1), (24, 1), (28, 1), (33, 1), (38, 1), (42, 1), (46, 1), (51, 1), (56, 1), (61, 1), (66, 1)], eqt := [], n := 77, keep := [(1000003, [3], [1]), (1000004, [3, 4], [1]), (1000005, [3, 4, 5], [])] }
theorem q_bq : FnS cx_bq Tryz.f67 (bodyOf Tryz.f67) 1 = s_bq := by
  funext args K σ
  rcases args with _ | ⟨a0, _ | ⟨b, r⟩⟩ <;> kernel_rfl
theorem e_bq : Entry Tryz.prog 67 .none s_bq :=
  entry (C := cx_bq) TOk.nil mixedOk Tryz.func67 (by kernel_rfl) (by kernel_rfl) (by kernel_rfl) q_bq
attribute [irreducible] w_bq_j3b w_bq_j3 w_bq_j2b w_bq_j2 w_bq_j1b w_bq_j1 w_bq s_bq
def w_bp (a0 a1 : Value) (K : Value → Mem → Prop) (σ : Mem) : Prop :=xC (gBox 7 [a0] []) fun c2 =>xF fMove [.int .i64 0] fun v4 =>xF (fFld 0) [(locP 2)] fun v5 =>xO (gLoad 1 false [v5] c2) fun v6 =>xF (fBin .add .no) [.int .i64 6, v6] fun v7 =>xF (fFld 1) [(locP 2)] fun v8 =>xO (gLoad 1 false [v8] c2) fun v9 =>xF (fBin .mul .no) [.int .i64 2, v9] fun v10 =>xF (fBin .add .no) [v7, v10] fun v11 =>xF (fFld 2) [(locP 2)] fun v12 =>xO (gLoad 1 false [v12] c2) fun v13 =>xF (fBin .mul .no) [.int .i64 3, v13] fun v14 =>xF (fBin .add .no) [v11, v14] fun v15 =>xF (fFld 3) [(locP 2)] fun v16 =>xO (gLoad 1 false [v16] c2) fun v17 =>xF fMove [a1] fun v18 =>xF (fBin .mul .no) [v17, v18] fun v19 =>xF (fBin .add .no) [v15, v19] fun v20 =>xF fMove [v20] fun v4 =>K v4 σ
def s_bp : Spec := fun args K σ => match args with
  | [a0, a1] => w_bp a0 a1 K σ
  | _ => False
noncomputable def cx_bp : Cx := { P := Tryz.prog, T := [], loc := [(2, 2), (5, 2), (8, 2), (12, 2), (16, 2)], eqt := [], n := 21, keep := [] }
theorem q_bp : FnS cx_bp Tryz.f24 (bodyOf Tryz.f24) 2 = s_bp := by
  funext args K σ
  rcases args with _ | ⟨a0, _ | ⟨a1, _ | ⟨b, r⟩⟩⟩ <;> kernel_rfl
theorem e_bp : Entry Tryz.prog 24 .none s_bp :=
  entry (C := cx_bp) TOk.nil mixedOk Tryz.func24 (by kernel_rfl) (by kernel_rfl) (by kernel_rfl) q_bp
attribute [irreducible] w_bp s_bp
def w_b0 (a0 : Value) (K : Value → Mem → Prop) (σ : Mem) : Prop :=xC (gBox 7 [a0] []) fun c1 =>xF fMove [.int .i64 0] fun v2 =>xO (gLoad 7 true [(locP 1)] c1) fun v3 =>xF (fFld 2) [(locP 1)] fun v4 =>xO (gLoad 1 false [v4] c1) fun v5 =>s_bp [v3, v5] (fun v6 σ =>xF fMove [v6] fun v2 =>K v2 σ) σ
def s_b0 : Spec := fun args K σ => match args with
  | [a0] => w_b0 a0 K σ
  | _ => False
noncomputable def cx_b0 : Cx := { P := Tryz.prog, T := [(24, .none, s_bp)], loc := [(1, 1), (4, 1)], eqt := [], n := 7, keep := [] }
theorem q_b0 : FnS cx_b0 Tryz.f58 (bodyOf Tryz.f58) 1 = s_b0 := by
  funext args K σ
  rcases args with _ | ⟨a0, _ | ⟨b, r⟩⟩ <;> kernel_rfl
theorem e_b0 : Entry Tryz.prog 58 .none s_b0 :=
  entry (C := cx_b0) (TOk.cons e_bp TOk.nil) mixedOk Tryz.func58 (by kernel_rfl) (by kernel_rfl) (by kernel_rfl) q_b0
attribute [irreducible] w_b0 s_b0
def w_cj_j1b (K : Value → Mem → Prop) (v0 v9 : Value) (σ : Mem) : Prop :=xIf v9
 (xF fMove [.pointer none] fun v2 =>xF fMove [.int .i64 1] fun v3 =>K (.tuple #[v2, v3]) σ)
 (xF fMove [v0] fun v10 =>hMakeS 1 8 [.int .u64 0] [v10, v10] (fun v11 σ =>xF fMove [v0] fun v12 =>hMakeS 1 8 [.int .i64 0] [v12, v12] (fun v13 σ =>xF (fBuild [(0, 1), (1, 1), (2, 1), (3, 1), (4, 3)] [(.slice none 0 0), (.slice none 0 0), .int .i64 0, .int .i64 0, .int .i64 0, .int .i64 0, .bool false] [0, 1]) [v11, v13] fun v14 =>hBox 7 [v14] (fun v15 σ =>xF fMove [v15] fun v2 =>xF fMove [.int .i64 0] fun v3 =>K (.tuple #[v2, v3]) σ) σ) σ) σ)
def w_cj_j1 (K : Value → Mem → Prop) (ts : List Value) (ls : List (List Value)) (σ : Mem) : Prop := w_cj_j1b K (ts.getD 0 poison) (ts.getD 1 poison) σ
def w_cj (a0 : Value) (K : Value → Mem → Prop) (σ : Mem) : Prop :=xF fMove [.pointer none] fun v2 =>xF fMove [.int .i64 0] fun v3 =>xJoin (w_cj_j1 K) fun J1 =>xF fMove [a0] fun v4 =>xF (fBin .lss .no) [v4, .int .i64 1] fun v5 =>xF fMove [v5] fun v6 =>xIf v6
 (xF fPick [.bool true, .bool true, undef] fun v9 =>J1 [a0, v9] [] σ)
 (xF fMove [a0] fun v7 =>xF (fBin .gtr .no) [v7, .int .i64 1048576] fun v8 =>xF fPick [.bool false, .bool true, v8] fun v9 =>J1 [a0, v9] [] σ)
def s_cj : Spec := fun args K σ => match args with
  | [a0] => w_cj a0 K σ
  | _ => False
noncomputable def cx_cj : Cx := { P := Tryz.prog, T := [], loc := [], eqt := [], n := 16, keep := [(1000003, [0, 9], [])] }
theorem q_cj : FnS cx_cj Tryz.f68 (bodyOf Tryz.f68) 1 = s_cj := by
  funext args K σ
  rcases args with _ | ⟨a0, _ | ⟨b, r⟩⟩ <;> kernel_rfl
theorem e_cj : Entry Tryz.prog 68 .write s_cj :=
  entry (C := cx_cj) TOk.nil mixedOk Tryz.func68 (by kernel_rfl) (by kernel_rfl) (by kernel_rfl) q_cj
attribute [irreducible] w_cj_j1b w_cj_j1 w_cj s_cj
def w_b5 (a0 a1 : Value) (K : Value → Mem → Prop) (σ : Mem) : Prop :=xC (gBox 7 [a0] []) fun c2 =>xF fMove [.int .i64 0] fun v4 =>xF (fFld 0) [(locP 2)] fun v5 =>xO (gLoad 1 false [v5] c2) fun v6 =>xF (fBin .add .no) [.int .i64 6, v6] fun v7 =>xF fMove [a1] fun v8 =>xF (fBin .mul .no) [.int .i64 2, v8] fun v9 =>xF (fBin .add .no) [v7, v9] fun v10 =>xF fMove [v10] fun v4 =>K v4 σ
def s_b5 : Spec := fun args K σ => match args with
  | [a0, a1] => w_b5 a0 a1 K σ
  | _ => False
noncomputable def cx_b5 : Cx := { P := Tryz.prog, T := [], loc := [(2, 2), (5, 2)], eqt := [], n := 11, keep := [] }
theorem q_b5 : FnS cx_b5 Tryz.f63 (bodyOf Tryz.f63) 2 = s_b5 := by
  funext args K σ
  rcases args with _ | ⟨a0, _ | ⟨a1, _ | ⟨b, r⟩⟩⟩ <;> kernel_rfl
theorem e_b5 : Entry Tryz.prog 63 .none s_b5 :=
  entry (C := cx_b5) TOk.nil mixedOk Tryz.func63 (by kernel_rfl) (by kernel_rfl) (by kernel_rfl) q_b5
attribute [irreducible] w_b5 s_b5
def w_dl (a0 a1 : Value) (K : Value → Mem → Prop) (σ : Mem) : Prop :=xF fMove [.int .u64 0] fun v4 =>xF fMove [a0] fun v5 =>xF fMax [v5, .int .i64 0] fun v6 =>xF fMove [a1] fun v7 =>xF fMin [v6, v7] fun v8 =>xF (fConv .u64) [v8] fun v9 =>xF fMove [v9] fun v4 =>K v4 σ
def s_dl : Spec := fun args K σ => match args with
  | [a0, a1] => w_dl a0 a1 K σ
  | _ => False
noncomputable def cx_dl : Cx := { P := Tryz.prog, T := [], loc := [], eqt := [], n := 10, keep := [] }
theorem q_dl : FnS cx_dl Tryz.f66 (bodyOf Tryz.f66) 2 = s_dl := by
  funext args K σ
  rcases args with _ | ⟨a0, _ | ⟨a1, _ | ⟨b, r⟩⟩⟩ <;> kernel_rfl
theorem e_dl : Entry Tryz.prog 66 .none s_dl :=
  entry (C := cx_dl) TOk.nil mixedOk Tryz.func66 (by kernel_rfl) (by kernel_rfl) (by kernel_rfl) q_dl
attribute [irreducible] w_dl s_dl
def w_dh (a0 : Value) (K : Value → Mem → Prop) (σ : Mem) : Prop :=xC (gBox 4 [a0] []) fun c1 =>xF fMove [.int .u64 0] fun v2 =>xF (fFld 0) [(locP 1)] fun v3 =>xO (gLoad 1 false [v3] c1) fun v4 =>s_dl [v4, .int .i64 7] (fun v5 σ =>xF (fFld 1) [(locP 1)] fun v6 =>xO (gLoad 1 false [v6] c1) fun v7 =>s_dl [v7, .int .i64 1048575] (fun v8 σ =>xF (fBin .shl .no) [v8, .int .u64 3] fun v9 =>xF (fBin .or .no) [v5, v9] fun v10 =>xF (fFld 2) [(locP 1)] fun v11 =>xO (gLoad 1 false [v11] c1) fun v12 =>s_dl [v12, .int .i64 65535] (fun v13 σ =>xF (fBin .shl .no) [v13, .int .u64 23] fun v14 =>xF (fBin .or .no) [v10, v14] fun v15 =>xF (fFld 3) [(locP 1)] fun v16 =>xO (gLoad 1 false [v16] c1) fun v17 =>s_dl [v17, .int .i64 4194303] (fun v18 σ =>xF (fBin .shl .no) [v18, .int .u64 39] fun v19 =>xF (fBin .or .no) [v15, v19] fun v20 =>xF fMove [v20] fun v2 =>K v2 σ) σ) σ) σ) σ
def s_dh : Spec := fun args K σ => match args with
  | [a0] => w_dh a0 K σ
  | _ => False
noncomputable def cx_dh : Cx := { P := Tryz.prog, T := [(66, .none, s_dl)], loc := [(1, 1), (3, 1), (6, 1), (11, 1), (16, 1)], eqt := [], n := 21, keep := [] }
theorem q_dh : FnS cx_dh Tryz.f69 (bodyOf Tryz.f69) 1 = s_dh := by
  funext args K σ
  rcases args with _ | ⟨a0, _ | ⟨b, r⟩⟩ <;> kernel_rfl
theorem e_dh : Entry Tryz.prog 69 .none s_dh :=
  entry (C := cx_dh) (TOk.cons e_dl TOk.nil) mixedOk Tryz.func69 (by kernel_rfl) (by kernel_rfl) (by kernel_rfl) q_dh
attribute [irreducible] w_dh s_dh
def w_ci_j1b (K : Value → Mem → Prop) (v0 v1 v19 : Value) (σ : Mem) : Prop :=xIf v19
 (xF fMove [.bool false] fun v4 =>K v4 σ)
 (xF fMove [v0] fun v20 =>xF fNil [v20] fun v21 =>xF (fFld 2) [v21] fun v22 =>hLoad 1 false [v22] (fun v23 σ =>xF (fBin .add .no) [v23, .int .i64 1] fun v24 =>xF fNil [v20] fun v25 =>xF (fFld 2) [v25] fun v26 =>hStore 1 [v26, v24] (fun _v σ =>xF fMove [v0] fun v27 =>xF fMove [v1] fun v28 =>xF fMove [v0] fun v29 =>xF fNil [v29] fun v30 =>xF (fFld 3) [v30] fun v31 =>hLoad 1 false [v31] (fun v32 σ =>xF (fBuild [(0, 1), (1, 1), (2, 1)] [.int .i64 0, .int .i64 0, .bool false] [0, 1]) [v28, v32] fun v33 =>xF fNil [v27] fun v34 =>xF (fFld 4) [v34] fun v35 =>hStore 3 [v35, v33] (fun _v σ =>xF fMove [.bool true] fun v4 =>K v4 σ) σ) σ) σ) σ)
def w_ci_j1 (K : Value → Mem → Prop) (ts : List Value) (ls : List (List Value)) (σ : Mem) : Prop := w_ci_j1b K (ts.getD 0 poison) (ts.getD 1 poison) (ts.getD 2 poison) σ
def w_ci (a0 a1 : Value) (K : Value → Mem → Prop) (σ : Mem) : Prop :=xF fMove [.bool false] fun v4 =>xJoin (w_ci_j1 K) fun J1 =>xF fMove [a0] fun v5 =>xF (fBin .eql .ptr) [v5, .pointer none] fun v6 =>xF fMove [v6] fun v7 =>xIf v7
 (xF fPick [.bool true, .bool true, undef] fun v10 =>xF fMove [v10] fun v11 =>xIf v11
 (xF fPick [.bool true, .bool true, undef] fun v19 =>J1 [a0, a1, v19] [] σ)
 (xF fMove [a1] fun v12 =>xF fMove [a0] fun v13 =>xF fNil [v13] fun v14 =>xF (fFld 0) [v14] fun v15 =>hLoad 1 false [v15] (fun v16 σ =>xF fLen [v16] fun v17 =>xF (fBin .geq .no) [v12, v17] fun v18 =>xF fPick [.bool false, .bool true, v18] fun v19 =>J1 [a0, a1, v19] [] σ) σ))
 (xF fMove [a1] fun v8 =>xF (fBin .lss .no) [v8, .int .i64 0] fun v9 =>xF fPick [.bool false, .bool true, v9] fun v10 =>xF fMove [v10] fun v11 =>xIf v11
 (xF fPick [.bool true, .bool true, undef] fun v19 =>J1 [a0, a1, v19] [] σ)
 (xF fMove [a1] fun v12 =>xF fMove [a0] fun v13 =>xF fNil [v13] fun v14 =>xF (fFld 0) [v14] fun v15 =>hLoad 1 false [v15] (fun v16 σ =>xF fLen [v16] fun v17 =>xF (fBin .geq .no) [v12, v17] fun v18 =>xF fPick [.bool false, .bool true, v18] fun v19 =>J1 [a0, a1, v19] [] σ) σ))
def s_ci : Spec := fun args K σ => match args with
  | [a0, a1] => w_ci a0 a1 K σ
  | _ => False
noncomputable def cx_ci : Cx := { P := Tryz.prog, T := [], loc := [], eqt := [(25, .ptr)], n := 36, keep := [(1000003, [0, 1, 19], [])] }
theorem q_ci : FnS cx_ci Tryz.f64 (bodyOf Tryz.f64) 2 = s_ci := by
  funext args K σ
  rcases args with _ | ⟨a0, _ | ⟨a1, _ | ⟨b, r⟩⟩⟩ <;> kernel_rfl
theorem e_ci : Entry Tryz.prog 64 .write s_ci :=
  entry (C := cx_ci) TOk.nil mixedOk Tryz.func64 (by kernel_rfl) (by kernel_rfl) (by kernel_rfl) q_ci
attribute [irreducible] w_ci_j1b w_ci_j1 w_ci s_ci
def w_ch_j1b (K : Value → Mem → Prop) (v0 v1 v2 : Value) (σ : Mem) : Prop :=xF fMove [v0] fun v34 =>xF fNil [v34] fun v35 =>xF (fFld 0) [v35] fun v36 =>hLoad 1 false [v36] (fun v37 σ =>xF fMove [v1] fun v38 =>xF fMove [v2] fun v39 =>xF (fIxS 1) [v37, v38] fun v40 =>hStore 1 [v40, v39] (fun _v σ =>K (.tuple #[]) σ) σ) σ
def w_ch_j1 (K : Value → Mem → Prop) (ts : List Value) (ls : List (List Value)) (σ : Mem) : Prop := w_ch_j1b K (ts.getD 0 poison) (ts.getD 1 poison) (ts.getD 2 poison) σ
def w_ch (a0 a1 a2 : Value) (K : Value → Mem → Prop) (σ : Mem) : Prop :=xJoin (w_ch_j1 K) fun J1 =>xF fMove [a0] fun v6 =>xF fMove [a0] fun v7 =>xF fNil [v7] fun v8 =>xF (fFld 0) [v8] fun v9 =>hLoad 1 false [v9] (fun v10 σ =>xF fMove [a1] fun v11 =>xF (fIxS 1) [v10, v11] fun v12 =>hLoad 1 false [v12] (fun v13 σ =>xF fMove [a2] fun v14 =>xF (fBin .neq .no) [v13, v14] fun v15 =>xF fNil [v6] fun v16 =>xF (fFld 4) [v16] fun v17 =>xF (fFld 2) [v17] fun v18 =>hStore 1 [v18, v15] (fun _v σ =>xF fMove [a0] fun v19 =>xF fNil [v19] fun v20 =>xF (fFld 4) [v20] fun v21 =>xF (fFld 2) [v21] fun v22 =>hLoad 1 false [v22] (fun v23 σ =>xIf v23
 (xF fMove [a0] fun v24 =>xF fNil [v24] fun v25 =>xF (fFld 1) [v25] fun v26 =>hLoad 1 false [v26] (fun v27 σ =>xF fMove [a1] fun v28 =>xF fMove [a0] fun v29 =>xF fNil [v29] fun v30 =>xF (fFld 2) [v30] fun v31 =>hLoad 1 false [v31] (fun v32 σ =>xF (fIxS 1) [v27, v28] fun v33 =>hStore 1 [v33, v32] (fun _v σ =>J1 [a0, a1, a2] [] σ) σ) σ) σ)
 (J1 [a0, a1, a2] [] σ)) σ) σ) σ) σ
def s_ch : Spec := fun args K σ => match args with
  | [a0, a1, a2] => w_ch a0 a1 a2 K σ
  | _ => False
noncomputable def cx_ch : Cx := { P := Tryz.prog, T := [], loc := [], eqt := [], n := 41, keep := [(1000004, [0, 1, 2], [])] }
theorem q_ch : FnS cx_ch Tryz.f65 (bodyOf Tryz.f65) 3 = s_ch := by
  funext args K σ
  rcases args with _ | ⟨a0, _ | ⟨a1, _ | ⟨a2, _ | ⟨b, r⟩⟩⟩⟩ <;> kernel_rfl
theorem e_ch : Entry Tryz.prog 65 .write s_ch :=
  entry (C := cx_ch) TOk.nil mixedOk Tryz.func65 (by kernel_rfl) (by kernel_rfl) (by kernel_rfl) q_ch
attribute [irreducible] w_ch_j1b w_ch_j1 w_ch s_ch
def w_cf (a0 a1 a2 : Value) (K : Value → Mem → Prop) (σ : Mem) : Prop :=xF fMove [.int .i64 0] fun v6 =>xF fMove [a0] fun v7 =>xF fMove [a1] fun v8 =>s_ci [v7, v8] (fun v9 σ =>xF (fUn .not) [v9] fun v10 =>xIf v10
 (xF fMove [.int .i64 2] fun v6 =>K v6 σ)
 (xF fMove [a0] fun v11 =>xF fMove [a1] fun v12 =>xF fMove [a2] fun v13 =>s_ch [v11, v12, v13] (fun v14 σ =>xF fMove [.int .i64 0] fun v6 =>K v6 σ) σ)) σ
def s_cf : Spec := fun args K σ => match args with
  | [a0, a1, a2] => w_cf a0 a1 a2 K σ
  | _ => False
noncomputable def cx_cf : Cx := { P := Tryz.prog, T := [(64, .write, s_ci), (65, .write, s_ch)], loc := [], eqt := [], n := 15, keep := [] }
theorem q_cf : FnS cx_cf Tryz.f33 (bodyOf Tryz.f33) 3 = s_cf := by
  funext args K σ
  rcases args with _ | ⟨a0, _ | ⟨a1, _ | ⟨a2, _ | ⟨b, r⟩⟩⟩⟩ <;> kernel_rfl
theorem e_cf : Entry Tryz.prog 33 .write s_cf :=
  entry (C := cx_cf) (TOk.cons e_ci (TOk.cons e_ch TOk.nil)) mixedOk Tryz.func33 (by kernel_rfl) (by kernel_rfl) (by kernel_rfl) q_cf
attribute [irreducible] w_cf s_cf
def w_di (a0 a1 : Value) (K : Value → Mem → Prop) (σ : Mem) : Prop :=xF fMove [.int .u64 0] fun v4 =>xF fMove [a0] fun v5 =>xF fMin [v5, .int .i64 65535] fun v6 =>xF (fBin .add .no) [v6, .int .i64 1] fun v7 =>s_dl [v7, .int .i64 65536] (fun v8 σ =>xF fMove [a1] fun v9 =>s_dl [v9, .int .i64 68719476735] (fun v10 σ =>xF (fBin .shl .no) [v10, .int .u64 17] fun v11 =>xF (fBin .or .no) [v8, v11] fun v12 =>xF fMove [v12] fun v4 =>K v4 σ) σ) σ
def s_di : Spec := fun args K σ => match args with
  | [a0, a1] => w_di a0 a1 K σ
  | _ => False
noncomputable def cx_di : Cx := { P := Tryz.prog, T := [(66, .none, s_dl)], loc := [], eqt := [], n := 13, keep := [] }
theorem q_di : FnS cx_di Tryz.f70 (bodyOf Tryz.f70) 2 = s_di := by
  funext args K σ
  rcases args with _ | ⟨a0, _ | ⟨a1, _ | ⟨b, r⟩⟩⟩ <;> kernel_rfl
theorem e_di : Entry Tryz.prog 70 .none s_di :=
  entry (C := cx_di) (TOk.cons e_dl TOk.nil) mixedOk Tryz.func70 (by kernel_rfl) (by kernel_rfl) (by kernel_rfl) q_di
attribute [irreducible] w_di s_di
def w_b6 (K : Value → Mem → Prop) (σ : Mem) : Prop :=xF fMove [.int .i64 0] fun v0 =>xF fMove [.int .i64 1] fun v0 =>K v0 σ
def s_b6 : Spec := fun args K σ => match args with
  | [] => w_b6  K σ
  | _ => False
noncomputable def cx_b6 : Cx := { P := Tryz.prog, T := [], loc := [], eqt := [], n := 1, keep := [] }
theorem q_b6 : FnS cx_b6 Tryz.f71 (bodyOf Tryz.f71) 0 = s_b6 := by
  funext args K σ
  rcases args with _ | ⟨b, r⟩ <;> kernel_rfl
theorem e_b6 : Entry Tryz.prog 71 .none s_b6 :=
  entry (C := cx_b6) TOk.nil mixedOk Tryz.func71 (by kernel_rfl) (by kernel_rfl) (by kernel_rfl) q_b6
attribute [irreducible] w_b6 s_b6
def w_bz_j1b (K : Value → Mem → Prop) (v4 : Value) (c1 : List Value) (σ : Mem) : Prop :=xF fMove [v4] fun v41 =>xO (gLoad 7 true [(locP 1)] c1) fun v42 =>xF (fFld 1) [(locP 1)] fun v43 =>xO (gLoad 1 false [v43] c1) fun v44 =>xF (fBin .sub .no) [v44, .int .i64 1] fun v45 =>s_b5 [v42, v45] (fun v46 σ =>xF (fBin .add .no) [v46, .int .i64 1] fun v47 =>s_di [(.int .i64 (-1)), .int .i64 0] (fun v48 σ =>s_cf [v41, v47, v48] (fun v49 σ =>xF fMove [v4] fun v50 =>s_b6 [] (fun v51 σ =>s_di [.int .i64 0, .int .i64 0] (fun v52 σ =>s_cf [v50, v51, v52] (fun v53 σ =>xF fMove [v4] fun v54 =>xF fMove [v54] fun v2 =>xF fMove [.int .i64 0] fun v3 =>K (.tuple #[v2, v3]) σ) σ) σ) σ) σ) σ) σ
def w_bz_j1 (K : Value → Mem → Prop) (ts : List Value) (ls : List (List Value)) (σ : Mem) : Prop := w_bz_j1b K (ts.getD 0 poison) (ls.getD 0 []) σ
def w_layout_Fresh_l8b (K : Value → Mem → Prop) (J1 : List Value → List (List Value) → Mem → Prop) (R1 : List Value → List (List Value) → Mem → Prop) (v4 v20 v21 : Value) (c1 : List Value) (σ : Mem) : Prop :=xF (fBin .lss .no) [v21, v20] fun v22 =>xIf v22
 (xF fMove [v21] fun v23 =>xF fMove [v23] fun v6 =>xF fMove [v4] fun v24 =>xO (gLoad 7 true [(locP 1)] c1) fun v25 =>xF fMove [v6] fun v26 =>s_b5 [v25, v26] (fun v27 σ =>xF (fBuild [(0, 1), (1, 1), (2, 1), (3, 1)] [.int .i64 0, .int .i64 0, .int .i64 0, .int .i64 0] [2]) [.int .i64 1] fun v28 =>s_dh [v28] (fun v29 σ =>s_cf [v24, v27, v29] (fun v30 σ =>xF fMove [v4] fun v31 =>xO (gLoad 7 true [(locP 1)] c1) fun v32 =>xF fMove [v6] fun v33 =>s_b5 [v32, v33] (fun v34 σ =>xF (fBin .add .no) [v34, .int .i64 1] fun v35 =>xF fMove [v6] fun v36 =>xF (fBin .add .no) [v36, .int .i64 1] fun v37 =>s_di [v37, .int .i64 0] (fun v38 σ =>s_cf [v31, v35, v38] (fun v39 σ =>xF (fBin .add .no) [v21, .int .i64 1] fun v40 =>xF fMove [v40] fun v21 =>R1 [v4, v20, v21] [c1] σ) σ) σ) σ) σ) σ) σ)
 (J1 [v4] [c1] σ)
def w_layout_Fresh_l8 (K : Value → Mem → Prop) (J1 : List Value → List (List Value) → Mem → Prop) (R1 : List Value → List (List Value) → Mem → Prop) (ts : List Value) (ls : List (List Value)) (σ : Mem) : Prop := w_layout_Fresh_l8b K J1 R1 (ts.getD 0 poison) (ts.getD 1 poison) (ts.getD 2 poison) (ls.getD 0 []) σ
def w_bz (a0 : Value) (K : Value → Mem → Prop) (σ : Mem) : Prop :=xC (gBox 7 [a0] []) fun c1 =>xF fMove [.pointer none] fun v2 =>xF fMove [.int .i64 0] fun v3 =>xO (gLoad 7 true [(locP 1)] c1) fun v7 =>s_bq [v7] (fun v8 σ =>xF (fUn .not) [v8] fun v9 =>xIf v9
 (xF fMove [.pointer none] fun v2 =>xF fMove [.int .i64 1] fun v3 =>K (.tuple #[v2, v3]) σ)
 (xO (gLoad 7 true [(locP 1)] c1) fun v11 =>s_b0 [v11] (fun v12 σ =>s_cj [v12] (fun v13 σ =>xF fMove [v13] fun v10 =>xF (fExt 0) [v10] fun v14 =>xF (fExt 1) [v10] fun v15 =>xF fMove [v14] fun v4 =>xF fMove [v15] fun v5 =>xF fMove [v5] fun v16 =>xF (fBin .neq .no) [v16, .int .i64 0] fun v17 =>xIf v17
 (xF fMove [v5] fun v18 =>xF fMove [.pointer none] fun v2 =>xF fMove [v18] fun v3 =>K (.tuple #[v2, v3]) σ)
 (xJoin (w_bz_j1 K) fun J1 =>xF (fFld 1) [(locP 1)] fun v19 =>xO (gLoad 1 false [v19] c1) fun v20 =>xF fMove [.int .i64 0] fun v21 =>xLoop (w_layout_Fresh_l8 K J1) [v4, v20, v21] [c1] σ)) σ) σ)) σ
def s_bz : Spec := fun args K σ => match args with
  | [a0] => w_bz a0 K σ
  | _ => False
noncomputable def cx_bz : Cx := { P := Tryz.prog, T := [(67, .none, s_bq), (58, .none, s_b0), (68, .write, s_cj), (63, .none, s_b5), (69, .none, s_dh), (33, .write, s_cf), (70, .none, s_di), (71, .none, s_b6)], loc := [(1, 1), (19, 1), (43, 1)], eqt := [], n := 55, keep := [(8, [4, 20, 21], [1]), (1000013, [4], [1])] }
theorem q_bz : FnS cx_bz Tryz.f40 (bodyOf Tryz.f40) 1 = s_bz := by
  funext args K σ
  rcases args with _ | ⟨a0, _ | ⟨b, r⟩⟩ <;> kernel_rfl
theorem e_bz : Entry Tryz.prog 40 .write s_bz :=
  entry (C := cx_bz) (TOk.cons e_bq (TOk.cons e_b0 (TOk.cons e_cj (TOk.cons e_b5 (TOk.cons e_dh (TOk.cons e_cf (TOk.cons e_di (TOk.cons e_b6 TOk.nil)))))))) mixedOk Tryz.func40 (by kernel_rfl) (by kernel_rfl) (by kernel_rfl) q_bz
attribute [irreducible] w_bz_j1b w_bz_j1 w_layout_Fresh_l8b w_layout_Fresh_l8 w_bz s_bz
def w_ba (a0 a1 a2 a3 : Value) (K : Value → Mem → Prop) (σ : Mem) : Prop :=xF fMove [.bool false] fun v9 =>xF fMove [a0] fun v13 =>xF fMove [a1] fun v14 =>xF fMove [a2] fun v15 =>xF fMove [a3] fun v16 =>xF (fBuild [(0, 1), (1, 1), (2, 1), (3, 1), (4, 1), (5, 1), (6, 1)] [.int .i64 0, .int .i64 0, .int .i64 0, .int .i64 0, .int .i64 0, .int .i64 0, .int .i64 0] [0, 1, 2, 3, 4, 5, 6]) [v13, v14, v15, v16, .int .i64 100, .int .i64 600, .int .i64 3] fun v17 =>xC (gStore 7 [(locP 10), v17] [.int .i64 0, .int .i64 0, .int .i64 0, .int .i64 0, .int .i64 0, .int .i64 0, .int .i64 0]) fun c10 =>xO (gLoad 7 true [(locP 10)] c10) fun v19 =>s_bz [v19] (fun v20 σ =>xF fMove [v20] fun v18 =>xF (fExt 0) [v18] fun v21 =>xF (fExt 1) [v18] fun v22 =>xF fMove [v21] fun v11 =>xF fMove [v22] fun v12 =>xO (gLoad 7 true [(locP 10)] c10) fun v23 =>xF fMove [v11] fun v24 =>xF (fBuild [(0, 7), (7, 1), (8, 1)] [.int .i64 0, .int .i64 0, .int .i64 0, .int .i64 0, .int .i64 0, .int .i64 0, .int .i64 0, .pointer none, .int .i64 0] [0, 1]) [v23, v24] fun v25 =>xF fMove [v12] fun v26 =>xF (fBin .eql .no) [v26, .int .i64 0] fun v27 =>xC (gStore 9 [(locP 8), v25] [.int .i64 0, .int .i64 0, .int .i64 0, .int .i64 0, .int .i64 0, .int .i64 0, .int .i64 0, .pointer none, .int .i64 0]) fun c8 =>xF fMove [v27] fun v9 =>xO (gLoad 9 true [(locP 8)] c8) fun r8 =>K (.tuple #[r8, v9]) σ) σ
def s_ba : Spec := fun args K σ => match args with
  | [a0, a1, a2, a3] => w_ba a0 a1 a2 a3 K σ
  | _ => False
noncomputable def cx_ba : Cx := { P := Tryz.prog, T := [(40, .write, s_bz)], loc := [(8, 8), (10, 10)], eqt := [], n := 28, keep := [] }
theorem q_ba : FnS cx_ba Tryz.f9 (bodyOf Tryz.f9) 4 = s_ba := by
  funext args K σ
  rcases args with _ | ⟨a0, _ | ⟨a1, _ | ⟨a2, _ | ⟨a3, _ | ⟨b, r⟩⟩⟩⟩⟩ <;> kernel_rfl
theorem e_ba : Entry Tryz.prog 9 .write s_ba :=
  entry (C := cx_ba) (TOk.cons e_bz TOk.nil) mixedOk Tryz.func9 (by kernel_rfl) (by kernel_rfl) (by kernel_rfl) q_ba
attribute [irreducible] w_ba s_ba
def w_al (a0 a1 : Value) (K : Value → Mem → Prop) (σ : Mem) : Prop :=xF fMove [.pointer none] fun v4 =>xF fMove [a0] fun v5 =>xF fMove [a1] fun v6 =>xF (fBuild [(0, 1), (1, 1), (2, 1), (3, 5), (8, 1), (9, 1), (10, 1), (11, 2), (13, 1), (14, 4)] [.int .i64 0, .bool false, .int .i64 0, .int .i64 0, .int .u64 0, .int .i64 0, .int .i64 0, .bool false, .int .i64 0, .int .i64 0, .pointer none, .int .i64 0, .int .i64 0, .pointer none, .int .i64 0, .int .u64 0, .int .i64 0, .int .i64 0] [0, 1]) [v5, v6] fun v7 =>hBox 18 [v7] (fun v8 σ =>xF fMove [v8] fun v4 =>K v4 σ) σ
def s_al : Spec := fun args K σ => match args with
  | [a0, a1] => w_al a0 a1 K σ
  | _ => False
noncomputable def cx_al : Cx := { P := Tryz.prog, T := [], loc := [], eqt := [], n := 9, keep := [] }
theorem q_al : FnS cx_al Tryz.f41 (bodyOf Tryz.f41) 2 = s_al := by
  funext args K σ
  rcases args with _ | ⟨a0, _ | ⟨a1, _ | ⟨b, r⟩⟩⟩ <;> kernel_rfl
theorem e_al : Entry Tryz.prog 41 .write s_al :=
  entry (C := cx_al) TOk.nil mixedOk Tryz.func41 (by kernel_rfl) (by kernel_rfl) (by kernel_rfl) q_al
attribute [irreducible] w_al s_al
def w_bs_j1b (K : Value → Mem → Prop) (σ : Mem) : Prop :=xF fMove [(.int .i64 (-1))] fun v2 =>K v2 σ
def w_bs_j1 (K : Value → Mem → Prop) (ts : List Value) (ls : List (List Value)) (σ : Mem) : Prop := w_bs_j1b K σ
def w_bs_j2b (K : Value → Mem → Prop) (J1 : List Value → List (List Value) → Mem → Prop) (R1 : List Value → List (List Value) → Mem → Prop) (v0 v3 v4 v14 : Value) (σ : Mem) : Prop :=xIf v14
 (xF fMove [v3] fun v15 =>xF fMove [v15] fun v2 =>K v2 σ)
 (xF (fBin .add .no) [v4, .int .i64 1] fun v16 =>xF fMove [v16] fun v4 =>R1 [v0, v4] [] σ)
def w_bs_j2 (K : Value → Mem → Prop) (J1 : List Value → List (List Value) → Mem → Prop) (R1 : List Value → List (List Value) → Mem → Prop) (ts : List Value) (ls : List (List Value)) (σ : Mem) : Prop := w_bs_j2b K J1 R1 (ts.getD 0 poison) (ts.getD 1 poison) (ts.getD 2 poison) (ts.getD 3 poison) σ
def w_layout_Class_l3b (K : Value → Mem → Prop) (J1 : List Value → List (List Value) → Mem → Prop) (R1 : List Value → List (List Value) → Mem → Prop) (v0 v4 : Value) (σ : Mem) : Prop :=xF (fBin .lss .no) [v4, .int .i64 4] fun v5 =>xIf v5
 (xF fMove [v4] fun v6 =>xF fMove [v6] fun v3 =>xJoin (w_bs_j2 K J1 R1) fun J2 =>xF fMove [v0] fun v7 =>xF (fBin .geq .no) [v7, .int .i64 1] fun v8 =>xF fMove [v8] fun v9 =>xIf v9
 (xF fMove [v0] fun v10 =>xF fMove [v3] fun v11 =>xF (fBin .shl .no) [.int .i64 2, v11] fun v12 =>xF (fBin .leq .no) [v10, v12] fun v13 =>xF fPick [.bool true, v13, .bool false] fun v14 =>J2 [v0, v3, v4, v14] [] σ)
 (xF fPick [.bool false, undef, .bool false] fun v14 =>J2 [v0, v3, v4, v14] [] σ))
 (J1 [] [] σ)
def w_layout_Class_l3 (K : Value → Mem → Prop) (J1 : List Value → List (List Value) → Mem → Prop) (R1 : List Value → List (List Value) → Mem → Prop) (ts : List Value) (ls : List (List Value)) (σ : Mem) : Prop := w_layout_Class_l3b K J1 R1 (ts.getD 0 poison) (ts.getD 1 poison) σ
def w_bs (a0 : Value) (K : Value → Mem → Prop) (σ : Mem) : Prop :=xF fMove [.int .i64 0] fun v2 =>xJoin (w_bs_j1 K) fun J1 =>xF fMove [.int .i64 0] fun v4 =>xLoop (w_layout_Class_l3 K J1) [a0, v4] [] σ
def s_bs : Spec := fun args K σ => match args with
  | [a0] => w_bs a0 K σ
  | _ => False
noncomputable def cx_bs : Cx := { P := Tryz.prog, T := [], loc := [], eqt := [], n := 17, keep := [(3, [0, 4], []), (1000006, [0, 3, 4, 14], []), (1000008, [], [])] }
theorem q_bs : FnS cx_bs Tryz.f36 (bodyOf Tryz.f36) 1 = s_bs := by
  funext args K σ
  rcases args with _ | ⟨a0, _ | ⟨b, r⟩⟩ <;> kernel_rfl
theorem e_bs : Entry Tryz.prog 36 .write s_bs :=
  entry (C := cx_bs) TOk.nil mixedOk Tryz.func36 (by kernel_rfl) (by kernel_rfl) (by kernel_rfl) q_bs
attribute [irreducible] w_bs_j1b w_bs_j1 w_bs_j2b w_bs_j2 w_layout_Class_l3b w_layout_Class_l3 w_bs s_bs
def w_ce (a0 : Value) (K : Value → Mem → Prop) (σ : Mem) : Prop :=xF fMove [.int .i64 0] fun v2 =>xF fMove [a0] fun v3 =>xF (fBin .eql .ptr) [v3, .pointer none] fun v4 =>xIf v4
 (xF fMove [.int .i64 0] fun v2 =>K v2 σ)
 (xF fMove [a0] fun v5 =>xF fNil [v5] fun v6 =>xF (fFld 2) [v6] fun v7 =>hLoad 1 false [v7] (fun v8 σ =>xF fMove [v8] fun v2 =>K v2 σ) σ)
def s_ce : Spec := fun args K σ => match args with
  | [a0] => w_ce a0 K σ
  | _ => False
noncomputable def cx_ce : Cx := { P := Tryz.prog, T := [], loc := [], eqt := [(25, .ptr)], n := 9, keep := [] }
theorem q_ce : FnS cx_ce Tryz.f47 (bodyOf Tryz.f47) 1 = s_ce := by
  funext args K σ
  rcases args with _ | ⟨a0, _ | ⟨b, r⟩⟩ <;> kernel_rfl
theorem e_ce : Entry Tryz.prog 47 .read s_ce :=
  entry (C := cx_ce) TOk.nil mixedOk Tryz.func47 (by kernel_rfl) (by kernel_rfl) (by kernel_rfl) q_ce
attribute [irreducible] w_ce s_ce
def w_bw (a0 : Value) (K : Value → Mem → Prop) (σ : Mem) : Prop :=xC (gBox 9 [a0] []) fun c1 =>xF fMove [.int .i64 0] fun v2 =>xF (fFld 7) [(locP 1)] fun v3 =>xO (gLoad 1 false [v3] c1) fun v4 =>s_ce [v4] (fun v5 σ =>xF fMove [v5] fun v2 =>K v2 σ) σ
def s_bw : Spec := fun args K σ => match args with
  | [a0] => w_bw a0 K σ
  | _ => False
noncomputable def cx_bw : Cx := { P := Tryz.prog, T := [(47, .read, s_ce)], loc := [(1, 1), (3, 1)], eqt := [], n := 6, keep := [] }
theorem q_bw : FnS cx_bw Tryz.f18 (bodyOf Tryz.f18) 1 = s_bw := by
  funext args K σ
  rcases args with _ | ⟨a0, _ | ⟨b, r⟩⟩ <;> kernel_rfl
theorem e_bw : Entry Tryz.prog 18 .read s_bw :=
  entry (C := cx_bw) (TOk.cons e_ce TOk.nil) mixedOk Tryz.func18 (by kernel_rfl) (by kernel_rfl) (by kernel_rfl) q_bw
attribute [irreducible] w_bw s_bw
def w_aj (a0 a1 a2 : Value) (K : Value → Mem → Prop) (σ : Mem) : Prop :=xC (gBox 9 [a1] []) fun c4 =>xF fMove [a0] fun v6 =>xF fMove [a2] fun v7 =>xO (gLoad 9 true [(locP 4)] c4) fun v8 =>s_bw [v8] (fun v9 σ =>xF (fBuild [(0, 1), (1, 1), (2, 1), (3, 1)] [.int .i64 0, .int .u64 0, .int .i64 0, .int .i64 0] [0, 3]) [v7, v9] fun v10 =>xF fNil [v6] fun v11 =>xF (fFld 14) [v11] fun v12 =>hStore 4 [v12, v10] (fun _v σ =>K (.tuple #[]) σ) σ) σ
def s_aj : Spec := fun args K σ => match args with
  | [a0, a1, a2] => w_aj a0 a1 a2 K σ
  | _ => False
noncomputable def cx_aj : Cx := { P := Tryz.prog, T := [(18, .read, s_bw)], loc := [(4, 4)], eqt := [], n := 13, keep := [] }
theorem q_aj : FnS cx_aj Tryz.f72 (bodyOf Tryz.f72) 3 = s_aj := by
  funext args K σ
  rcases args with _ | ⟨a0, _ | ⟨a1, _ | ⟨a2, _ | ⟨b, r⟩⟩⟩⟩ <;> kernel_rfl
theorem e_aj : Entry Tryz.prog 72 .write s_aj :=
  entry (C := cx_aj) (TOk.cons e_bw TOk.nil) mixedOk Tryz.func72 (by kernel_rfl) (by kernel_rfl) (by kernel_rfl) q_aj
attribute [irreducible] w_aj s_aj
def w_b8 (a0 a1 : Value) (K : Value → Mem → Prop) (σ : Mem) : Prop :=xF fMove [a0] fun v4 =>xF (fBin .neq .ptr) [v4, .pointer none] fun v5 =>xIf v5
 (xF fMove [a0] fun v6 =>xF fMove [a1] fun v7 =>xF fNil [v6] fun v8 =>xF (fFld 3) [v8] fun v9 =>hStore 1 [v9, v7] (fun _v σ =>K (.tuple #[]) σ) σ)
 (K (.tuple #[]) σ)
def s_b8 : Spec := fun args K σ => match args with
  | [a0, a1] => w_b8 a0 a1 K σ
  | _ => False
noncomputable def cx_b8 : Cx := { P := Tryz.prog, T := [], loc := [], eqt := [(25, .ptr)], n := 10, keep := [] }
theorem q_b8 : FnS cx_b8 Tryz.f92 (bodyOf Tryz.f92) 2 = s_b8 := by
  funext args K σ
  rcases args with _ | ⟨a0, _ | ⟨a1, _ | ⟨b, r⟩⟩⟩ <;> kernel_rfl
theorem e_b8 : Entry Tryz.prog 92 .write s_b8 :=
  entry (C := cx_b8) TOk.nil mixedOk Tryz.func92 (by kernel_rfl) (by kernel_rfl) (by kernel_rfl) q_b8
attribute [irreducible] w_b8 s_b8
def w_cc (a0 a1 : Value) (K : Value → Mem → Prop) (σ : Mem) : Prop :=xF fMove [.int .u64 0] fun v4 =>xF fMove [.int .i64 0] fun v5 =>xF fMove [a0] fun v6 =>xF fMove [a1] fun v7 =>s_ci [v6, v7] (fun v8 σ =>xF (fUn .not) [v8] fun v9 =>xIf v9
 (xF fMove [.int .u64 0] fun v4 =>xF fMove [.int .i64 2] fun v5 =>K (.tuple #[v4, v5]) σ)
 (xF fMove [a0] fun v10 =>xF fNil [v10] fun v11 =>xF (fFld 0) [v11] fun v12 =>hLoad 1 false [v12] (fun v13 σ =>xF fMove [a1] fun v14 =>xF (fIxS 1) [v13, v14] fun v15 =>hLoad 1 false [v15] (fun v16 σ =>xF fMove [v16] fun v4 =>xF fMove [.int .i64 0] fun v5 =>K (.tuple #[v4, v5]) σ) σ) σ)) σ
def s_cc : Spec := fun args K σ => match args with
  | [a0, a1] => w_cc a0 a1 K σ
  | _ => False
noncomputable def cx_cc : Cx := { P := Tryz.prog, T := [(64, .write, s_ci)], loc := [], eqt := [], n := 17, keep := [] }
theorem q_cc : FnS cx_cc Tryz.f106 (bodyOf Tryz.f106) 2 = s_cc := by
  funext args K σ
  rcases args with _ | ⟨a0, _ | ⟨a1, _ | ⟨b, r⟩⟩⟩ <;> kernel_rfl
theorem e_cc : Entry Tryz.prog 106 .write s_cc :=
  entry (C := cx_cc) (TOk.cons e_ci TOk.nil) mixedOk Tryz.func106 (by kernel_rfl) (by kernel_rfl) (by kernel_rfl) q_cc
attribute [irreducible] w_cc s_cc
def w_bv (a0 a1 : Value) (K : Value → Mem → Prop) (σ : Mem) : Prop :=xC (gBox 9 [a0] []) fun c2 =>xF fMove [.int .u64 0] fun v4 =>xF (fFld 7) [(locP 2)] fun v7 =>xO (gLoad 1 false [v7] c2) fun v8 =>xF (fFld 8) [(locP 2)] fun v9 =>xO (gLoad 1 false [v9] c2) fun v10 =>s_b8 [v8, v10] (fun v11 σ =>xF (fFld 7) [(locP 2)] fun v13 =>xO (gLoad 1 false [v13] c2) fun v14 =>xF fMove [a1] fun v15 =>s_cc [v14, v15] (fun v16 σ =>xF fMove [v16] fun v12 =>xF (fExt 0) [v12] fun v17 =>xF (fExt 1) [v12] fun v18 =>xF fMove [v17] fun v5 =>xF fMove [v18] fun v6 =>xF fMove [v5] fun v19 =>xF fMove [v19] fun v4 =>K v4 σ) σ) σ
def s_bv : Spec := fun args K σ => match args with
  | [a0, a1] => w_bv a0 a1 K σ
  | _ => False
noncomputable def cx_bv : Cx := { P := Tryz.prog, T := [(92, .write, s_b8), (106, .write, s_cc)], loc := [(2, 2), (7, 2), (9, 2), (13, 2)], eqt := [], n := 20, keep := [] }
theorem q_bv : FnS cx_bv Tryz.f54 (bodyOf Tryz.f54) 2 = s_bv := by
  funext args K σ
  rcases args with _ | ⟨a0, _ | ⟨a1, _ | ⟨b, r⟩⟩⟩ <;> kernel_rfl
theorem e_bv : Entry Tryz.prog 54 .write s_bv :=
  entry (C := cx_bv) (TOk.cons e_b8 (TOk.cons e_cc TOk.nil)) mixedOk Tryz.func54 (by kernel_rfl) (by kernel_rfl) (by kernel_rfl) q_bv
attribute [irreducible] w_bv s_bv
def w_dk (a0 : Value) (K : Value → Mem → Prop) (σ : Mem) : Prop :=xF fMove [.int .i64 0] fun v2 =>xF fMove [.int .i64 0] fun v3 =>xF fMove [a0] fun v4 =>xF (fBin .and .no) [v4, .int .u64 131071] fun v5 =>xF (fConv .i64) [v5] fun v6 =>xF (fBin .sub .no) [v6, .int .i64 1] fun v7 =>xF fMove [a0] fun v8 =>xF (fBin .shr .no) [v8, .int .u64 17] fun v9 =>xF (fBin .and .no) [v9, .int .u64 68719476735] fun v10 =>xF (fConv .i64) [v10] fun v11 =>xF fMove [v7] fun v2 =>xF fMove [v11] fun v3 =>K (.tuple #[v2, v3]) σ
def s_dk : Spec := fun args K σ => match args with
  | [a0] => w_dk a0 K σ
  | _ => False
noncomputable def cx_dk : Cx := { P := Tryz.prog, T := [], loc := [], eqt := [], n := 12, keep := [] }
theorem q_dk : FnS cx_dk Tryz.f116 (bodyOf Tryz.f116) 1 = s_dk := by
  funext args K σ
  rcases args with _ | ⟨a0, _ | ⟨b, r⟩⟩ <;> kernel_rfl
theorem e_dk : Entry Tryz.prog 116 .none s_dk :=
  entry (C := cx_dk) TOk.nil mixedOk Tryz.func116 (by kernel_rfl) (by kernel_rfl) (by kernel_rfl) q_dk
attribute [irreducible] w_dk s_dk
def w_b9 (a0 a1 a2 a3 : Value) (K : Value → Mem → Prop) (σ : Mem) : Prop :=xF fMove [.bool false] fun v8 =>xF fMove [.int .i64 0] fun v9 =>xF fMove [a0] fun v10 =>xF fMove [a1] fun v11 =>s_ci [v10, v11] (fun v12 σ =>xF (fUn .not) [v12] fun v13 =>xIf v13
 (xF fMove [.bool false] fun v8 =>xF fMove [.int .i64 2] fun v9 =>K (.tuple #[v8, v9]) σ)
 (xF fMove [a0] fun v14 =>xF fNil [v14] fun v15 =>xF (fFld 0) [v15] fun v16 =>hLoad 1 false [v16] (fun v17 σ =>xF fMove [a1] fun v18 =>xF (fIxS 1) [v17, v18] fun v19 =>hLoad 1 false [v19] (fun v20 σ =>xF fMove [a2] fun v21 =>xF (fBin .neq .no) [v20, v21] fun v22 =>xIf v22
 (xF fMove [.bool false] fun v8 =>xF fMove [.int .i64 0] fun v9 =>K (.tuple #[v8, v9]) σ)
 (xF fMove [a0] fun v23 =>xF fMove [a1] fun v24 =>xF fMove [a3] fun v25 =>s_ch [v23, v24, v25] (fun v26 σ =>xF fMove [.bool true] fun v8 =>xF fMove [.int .i64 0] fun v9 =>K (.tuple #[v8, v9]) σ) σ)) σ) σ)) σ
def s_b9 : Spec := fun args K σ => match args with
  | [a0, a1, a2, a3] => w_b9 a0 a1 a2 a3 K σ
  | _ => False
noncomputable def cx_b9 : Cx := { P := Tryz.prog, T := [(64, .write, s_ci), (65, .write, s_ch)], loc := [], eqt := [], n := 27, keep := [] }
theorem q_b9 : FnS cx_b9 Tryz.f93 (bodyOf Tryz.f93) 4 = s_b9 := by
  funext args K σ
  rcases args with _ | ⟨a0, _ | ⟨a1, _ | ⟨a2, _ | ⟨a3, _ | ⟨b, r⟩⟩⟩⟩⟩ <;> kernel_rfl
theorem e_b9 : Entry Tryz.prog 93 .write s_b9 :=
  entry (C := cx_b9) (TOk.cons e_ci (TOk.cons e_ch TOk.nil)) mixedOk Tryz.func93 (by kernel_rfl) (by kernel_rfl) (by kernel_rfl) q_b9
attribute [irreducible] w_b9 s_b9
def w_bu (a0 a1 a2 a3 : Value) (K : Value → Mem → Prop) (σ : Mem) : Prop :=xC (gBox 9 [a0] []) fun c4 =>xF fMove [.bool false] fun v8 =>xF (fFld 7) [(locP 4)] fun v11 =>xO (gLoad 1 false [v11] c4) fun v12 =>xF (fFld 8) [(locP 4)] fun v13 =>xO (gLoad 1 false [v13] c4) fun v14 =>s_b8 [v12, v14] (fun v15 σ =>xF (fFld 7) [(locP 4)] fun v17 =>xO (gLoad 1 false [v17] c4) fun v18 =>xF fMove [a1] fun v19 =>xF fMove [a2] fun v20 =>xF fMove [a3] fun v21 =>s_b9 [v18, v19, v20, v21] (fun v22 σ =>xF fMove [v22] fun v16 =>xF (fExt 0) [v16] fun v23 =>xF (fExt 1) [v16] fun v24 =>xF fMove [v23] fun v9 =>xF fMove [v24] fun v10 =>xF fMove [v9] fun v25 =>xF fMove [v25] fun v8 =>K v8 σ) σ) σ
def s_bu : Spec := fun args K σ => match args with
  | [a0, a1, a2, a3] => w_bu a0 a1 a2 a3 K σ
  | _ => False
noncomputable def cx_bu : Cx := { P := Tryz.prog, T := [(92, .write, s_b8), (93, .write, s_b9)], loc := [(4, 4), (11, 4), (13, 4), (17, 4)], eqt := [], n := 26, keep := [] }
theorem q_bu : FnS cx_bu Tryz.f49 (bodyOf Tryz.f49) 4 = s_bu := by
  funext args K σ
  rcases args with _ | ⟨a0, _ | ⟨a1, _ | ⟨a2, _ | ⟨a3, _ | ⟨b, r⟩⟩⟩⟩⟩ <;> kernel_rfl
theorem e_bu : Entry Tryz.prog 49 .write s_bu :=
  entry (C := cx_bu) (TOk.cons e_b8 (TOk.cons e_b9 TOk.nil)) mixedOk Tryz.func49 (by kernel_rfl) (by kernel_rfl) (by kernel_rfl) q_bu
attribute [irreducible] w_bu s_bu
def w_c8_j1b (K : Value → Mem → Prop) (v0 : Value) (σ : Mem) : Prop :=xF fMove [v0] fun v88 =>xF fNil [v88] fun v89 =>xF (fFld 4) [v89] fun v90 =>hLoad 1 false [v90] (fun v91 σ =>xF fMove [v91] fun v4 =>K v4 σ) σ
def w_c8_j1 (K : Value → Mem → Prop) (ts : List Value) (ls : List (List Value)) (σ : Mem) : Prop := w_c8_j1b K (ts.getD 0 poison) σ
def w_c8 (a0 a1 : Value) (K : Value → Mem → Prop) (σ : Mem) : Prop :=xC (gBox 9 [a1] []) fun c3 =>xF fMove [.bool false] fun v4 =>xJoin (w_c8_j1 K) fun J1 =>xF fMove [a0] fun v7 =>xF fNil [v7] fun v8 =>xF (fFld 0) [v8] fun v9 =>hLoad 1 false [v9] (fun v10 σ =>xF (fBin .eql .no) [v10, .int .i64 0] fun v40 =>xF fMove [v40] fun v39 =>xIf v39
 (xF fMove [a0] fun v41 =>xO (gLoad 9 true [(locP 3)] c3) fun v42 =>s_b6 [] (fun v43 σ =>s_bv [v42, v43] (fun v44 σ =>xF fNil [v41] fun v45 =>xF (fFld 1) [v45] fun v46 =>hStore 1 [v46, v44] (fun _v σ =>xF fMove [a0] fun v48 =>xF fMove [a0] fun v49 =>xF fNil [v49] fun v50 =>xF (fFld 1) [v50] fun v51 =>hLoad 1 false [v51] (fun v52 σ =>s_dk [v52] (fun v53 σ =>xF fMove [v53] fun v47 =>xF (fExt 0) [v47] fun v54 =>xF (fExt 1) [v47] fun v55 =>xF fNil [v48] fun v56 =>xF (fFld 3) [v56] fun v57 =>hStore 1 [v57, v54] (fun _v σ =>xF fMove [a0] fun v58 =>xF fNil [v58] fun v59 =>xF (fFld 0) [v59] fun v60 =>hStore 1 [v60, .int .i64 1] (fun _v σ =>xF fMove [a0] fun v61 =>xF fNil [v61] fun v62 =>xF (fFld 3) [v62] fun v63 =>hLoad 1 false [v63] (fun v64 σ =>xF (fBin .lss .no) [v64, .int .i64 0] fun v65 =>xF fMove [v65] fun v4 =>K v4 σ) σ) σ) σ) σ) σ) σ) σ) σ)
 (xF (fBin .eql .no) [v10, .int .i64 1] fun v67 =>xF fMove [v67] fun v66 =>xIf v66
 (xF fMove [a0] fun v69 =>xO (gLoad 9 true [(locP 3)] c3) fun v70 =>xF (fFld 0) [(locP 3)] fun v71 =>xO (gLoad 7 true [v71] c3) fun v72 =>xF fMove [a0] fun v73 =>xF fNil [v73] fun v74 =>xF (fFld 3) [v74] fun v75 =>hLoad 1 false [v75] (fun v76 σ =>s_b5 [v72, v76] (fun v77 σ =>xF (fBin .add .no) [v77, .int .i64 1] fun v78 =>s_bv [v70, v78] (fun v79 σ =>s_dk [v79] (fun v80 σ =>xF fMove [v80] fun v68 =>xF (fExt 0) [v68] fun v81 =>xF (fExt 1) [v68] fun v82 =>xF fNil [v69] fun v83 =>xF (fFld 2) [v83] fun v84 =>hStore 1 [v84, v81] (fun _v σ =>xF fMove [a0] fun v85 =>xF fNil [v85] fun v86 =>xF (fFld 0) [v86] fun v87 =>hStore 1 [v87, .int .i64 2] (fun _v σ =>J1 [a0] [] σ) σ) σ) σ) σ) σ) σ)
 (xF fMove [a0] fun v12 =>xF fNil [v12] fun v13 =>xF (fFld 1) [v13] fun v14 =>hLoad 1 false [v14] (fun v15 σ =>s_dk [v15] (fun v16 σ =>xF fMove [v16] fun v11 =>xF (fExt 0) [v11] fun v17 =>xF (fExt 1) [v11] fun v18 =>xF fMove [v17] fun v5 =>xF fMove [v18] fun v6 =>xF fMove [a0] fun v19 =>xF fNil [v19] fun v20 =>xF (fFld 0) [v20] fun v21 =>hStore 1 [v21, .int .i64 0] (fun _v σ =>xF fMove [a0] fun v22 =>xO (gLoad 9 true [(locP 3)] c3) fun v23 =>s_b6 [] (fun v24 σ =>xF fMove [a0] fun v25 =>xF fNil [v25] fun v26 =>xF (fFld 1) [v26] fun v27 =>hLoad 1 false [v27] (fun v28 σ =>xF fMove [a0] fun v29 =>xF fNil [v29] fun v30 =>xF (fFld 2) [v30] fun v31 =>hLoad 1 false [v31] (fun v32 σ =>xF fMove [v6] fun v33 =>xF (fBin .add .no) [v33, .int .i64 1] fun v34 =>s_di [v32, v34] (fun v35 σ =>s_bu [v23, v24, v28, v35] (fun v36 σ =>xF fNil [v22] fun v37 =>xF (fFld 4) [v37] fun v38 =>hStore 1 [v38, v36] (fun _v σ =>J1 [a0] [] σ) σ) σ) σ) σ) σ) σ) σ) σ) σ))) σ
def s_c8 : Spec := fun args K σ => match args with
  | [a0, a1] => w_c8 a0 a1 K σ
  | _ => False
noncomputable def cx_c8 : Cx := { P := Tryz.prog, T := [(71, .none, s_b6), (54, .write, s_bv), (116, .none, s_dk), (63, .none, s_b5), (70, .none, s_di), (49, .write, s_bu)], loc := [(3, 3), (71, 3)], eqt := [], n := 92, keep := [(1000014, [0], [])] }
theorem q_c8 : FnS cx_c8 Tryz.f73 (bodyOf Tryz.f73) 2 = s_c8 := by
  funext args K σ
  rcases args with _ | ⟨a0, _ | ⟨a1, _ | ⟨b, r⟩⟩⟩ <;> kernel_rfl
theorem e_c8 : Entry Tryz.prog 73 .write s_c8 :=
  entry (C := cx_c8) (TOk.cons e_b6 (TOk.cons e_bv (TOk.cons e_dk (TOk.cons e_b5 (TOk.cons e_di (TOk.cons e_bu TOk.nil)))))) mixedOk Tryz.func73 (by kernel_rfl) (by kernel_rfl) (by kernel_rfl) q_c8
attribute [irreducible] w_c8_j1b w_c8_j1 w_c8 s_c8
def w_c7_j1b (K : Value → Mem → Prop) (v0 v12 : Value) (σ : Mem) : Prop :=xIf v12
 (xF fMove [.int .i64 0] fun v2 =>xF fMove [.bool false] fun v3 =>K (.tuple #[v2, v3]) σ)
 (xF fMove [v0] fun v13 =>xF fNil [v13] fun v14 =>xF (fFld 3) [v14] fun v15 =>hLoad 1 false [v15] (fun v16 σ =>xF fMove [v16] fun v2 =>xF fMove [.bool true] fun v3 =>K (.tuple #[v2, v3]) σ) σ)
def w_c7_j1 (K : Value → Mem → Prop) (ts : List Value) (ls : List (List Value)) (σ : Mem) : Prop := w_c7_j1b K (ts.getD 0 poison) (ts.getD 1 poison) σ
def w_c7 (a0 : Value) (K : Value → Mem → Prop) (σ : Mem) : Prop :=xF fMove [.int .i64 0] fun v2 =>xF fMove [.bool false] fun v3 =>xJoin (w_c7_j1 K) fun J1 =>xF fMove [a0] fun v4 =>xF (fBin .eql .ptr) [v4, .pointer none] fun v5 =>xF fMove [v5] fun v6 =>xIf v6
 (xF fPick [.bool true, .bool true, undef] fun v12 =>J1 [a0, v12] [] σ)
 (xF fMove [a0] fun v7 =>xF fNil [v7] fun v8 =>xF (fFld 4) [v8] fun v9 =>hLoad 1 false [v9] (fun v10 σ =>xF (fUn .not) [v10] fun v11 =>xF fPick [.bool false, .bool true, v11] fun v12 =>J1 [a0, v12] [] σ) σ)
def s_c7 : Spec := fun args K σ => match args with
  | [a0] => w_c7 a0 K σ
  | _ => False
noncomputable def cx_c7 : Cx := { P := Tryz.prog, T := [], loc := [], eqt := [(161, .ptr)], n := 17, keep := [(1000003, [0, 12], [])] }
theorem q_c7 : FnS cx_c7 Tryz.f74 (bodyOf Tryz.f74) 1 = s_c7 := by
  funext args K σ
  rcases args with _ | ⟨a0, _ | ⟨b, r⟩⟩ <;> kernel_rfl
theorem e_c7 : Entry Tryz.prog 74 .read s_c7 :=
  entry (C := cx_c7) TOk.nil mixedOk Tryz.func74 (by kernel_rfl) (by kernel_rfl) (by kernel_rfl) q_c7
attribute [irreducible] w_c7_j1b w_c7_j1 w_c7 s_c7
def w_dj (a0 : Value) (K : Value → Mem → Prop) (σ : Mem) : Prop :=if true = true then (xC (gAlloc [.int .i64 0, .int .i64 0, .int .i64 0, .int .i64 0] [] []) fun c2 =>xF fMove [a0] fun v3 =>xF (fBin .and .no) [v3, .int .u64 7] fun v4 =>xF (fConv .i64) [v4] fun v5 =>xF fMove [a0] fun v6 =>xF (fBin .shr .no) [v6, .int .u64 3] fun v7 =>xF (fBin .and .no) [v7, .int .u64 1048575] fun v8 =>xF (fConv .i64) [v8] fun v9 =>xF fMove [a0] fun v10 =>xF (fBin .shr .no) [v10, .int .u64 23] fun v11 =>xF (fBin .and .no) [v11, .int .u64 65535] fun v12 =>xF (fConv .i64) [v12] fun v13 =>xF fMove [a0] fun v14 =>xF (fBin .shr .no) [v14, .int .u64 39] fun v15 =>xF (fBin .and .no) [v15, .int .u64 4194303] fun v16 =>xF (fConv .i64) [v16] fun v17 =>xF (fBuild [(0, 1), (1, 1), (2, 1), (3, 1)] [.int .i64 0, .int .i64 0, .int .i64 0, .int .i64 0] [0, 1, 2, 3]) [v5, v9, v13, v17] fun v18 =>xC (gStore 4 [(locP 2), v18] c2) fun c2 =>xO (gLoad 4 true [(locP 2)] c2) fun r2 =>K r2 σ) else False
def s_dj : Spec := fun args K σ => match args with
  | [a0] => w_dj a0 K σ
  | _ => False
noncomputable def cx_dj : Cx := { P := Tryz.prog, T := [], loc := [(2, 2)], eqt := [], n := 19, keep := [] }
theorem q_dj : FnS cx_dj Tryz.f62 (bodyOf Tryz.f62) 1 = s_dj := by
  funext args K σ
  rcases args with _ | ⟨a0, _ | ⟨b, r⟩⟩ <;> kernel_rfl
theorem e_dj : Entry Tryz.prog 62 .none s_dj :=
  entry (C := cx_dj) TOk.nil mixedOk Tryz.func62 (by kernel_rfl) (by kernel_rfl) (by kernel_rfl) q_dj
attribute [irreducible] w_dj s_dj
def w_cw (a0 : Value) (K : Value → Mem → Prop) (σ : Mem) : Prop :=xF fMove [.pointer none] fun v2 =>xF fMove [a0] fun v3 =>xF (fBuild [(0, 1), (1, 1), (2, 1), (3, 1), (4, 1), (5, 2), (7, 1)] [.int .i64 0, .int .i64 0, .int .u64 0, .int .i64 0, .int .u64 0, .int .i64 0, .int .i64 0, .bool false] [0]) [v3] fun v4 =>hBox 8 [v4] (fun v5 σ =>xF fMove [v5] fun v2 =>K v2 σ) σ
def s_cw : Spec := fun args K σ => match args with
  | [a0] => w_cw a0 K σ
  | _ => False
noncomputable def cx_cw : Cx := { P := Tryz.prog, T := [], loc := [], eqt := [], n := 6, keep := [] }
theorem q_cw : FnS cx_cw Tryz.f75 (bodyOf Tryz.f75) 1 = s_cw := by
  funext args K σ
  rcases args with _ | ⟨a0, _ | ⟨b, r⟩⟩ <;> kernel_rfl
theorem e_cw : Entry Tryz.prog 75 .write s_cw :=
  entry (C := cx_cw) TOk.nil mixedOk Tryz.func75 (by kernel_rfl) (by kernel_rfl) (by kernel_rfl) q_cw
attribute [irreducible] w_cw s_cw
def w_b2 (a0 : Value) (K : Value → Mem → Prop) (σ : Mem) : Prop :=xF fMove [.int .i64 0] fun v2 =>xF fMove [a0] fun v3 =>xF (fBin .add .no) [.int .i64 2, v3] fun v4 =>xF fMove [v4] fun v2 =>K v2 σ
def s_b2 : Spec := fun args K σ => match args with
  | [a0] => w_b2 a0 K σ
  | _ => False
noncomputable def cx_b2 : Cx := { P := Tryz.prog, T := [], loc := [], eqt := [], n := 5, keep := [] }
theorem q_b2 : FnS cx_b2 Tryz.f35 (bodyOf Tryz.f35) 1 = s_b2 := by
  funext args K σ
  rcases args with _ | ⟨a0, _ | ⟨b, r⟩⟩ <;> kernel_rfl
theorem e_b2 : Entry Tryz.prog 35 .none s_b2 :=
  entry (C := cx_b2) TOk.nil mixedOk Tryz.func35 (by kernel_rfl) (by kernel_rfl) (by kernel_rfl) q_b2
attribute [irreducible] w_b2 s_b2
def w_br (a0 a1 : Value) (K : Value → Mem → Prop) (σ : Mem) : Prop :=xC (gBox 7 [a0] []) fun c2 =>xF fMove [.int .i64 0] fun v4 =>xF (fFld 0) [(locP 2)] fun v5 =>xO (gLoad 1 false [v5] c2) fun v6 =>xF (fBin .add .no) [.int .i64 6, v6] fun v7 =>xF (fFld 1) [(locP 2)] fun v8 =>xO (gLoad 1 false [v8] c2) fun v9 =>xF (fBin .mul .no) [.int .i64 2, v9] fun v10 =>xF (fBin .add .no) [v7, v10] fun v11 =>xF fMove [a1] fun v12 =>xF (fBin .mul .no) [.int .i64 3, v12] fun v13 =>xF (fBin .add .no) [v11, v13] fun v14 =>xF fMove [v14] fun v4 =>K v4 σ
def s_br : Spec := fun args K σ => match args with
  | [a0, a1] => w_br a0 a1 K σ
  | _ => False
noncomputable def cx_br : Cx := { P := Tryz.prog, T := [], loc := [(2, 2), (5, 2), (8, 2)], eqt := [], n := 15, keep := [] }
theorem q_br : FnS cx_br Tryz.f23 (bodyOf Tryz.f23) 2 = s_br := by
  funext args K σ
  rcases args with _ | ⟨a0, _ | ⟨a1, _ | ⟨b, r⟩⟩⟩ <;> kernel_rfl
theorem e_br : Entry Tryz.prog 23 .none s_br :=
  entry (C := cx_br) TOk.nil mixedOk Tryz.func23 (by kernel_rfl) (by kernel_rfl) (by kernel_rfl) q_br
attribute [irreducible] w_br s_br
def w_da (a0 : Value) (K : Value → Mem → Prop) (σ : Mem) : Prop :=if true = true then (xC (gAlloc [.int .i64 0, .int .i64 0, .int .i64 0, .int .i64 0] [] []) fun c2 =>xF fMove [a0] fun v3 =>xF (fBin .and .no) [v3, .int .u64 3] fun v4 =>xF (fConv .i64) [v4] fun v5 =>xF fMove [a0] fun v6 =>xF (fBin .shr .no) [v6, .int .u64 2] fun v7 =>xF (fBin .and .no) [v7, .int .u64 63] fun v8 =>xF (fConv .i64) [v8] fun v9 =>xF fMove [a0] fun v10 =>xF (fBin .shr .no) [v10, .int .u64 8] fun v11 =>xF (fBin .and .no) [v11, .int .u64 1048575] fun v12 =>xF (fConv .i64) [v12] fun v13 =>xF fMove [a0] fun v14 =>xF (fBin .shr .no) [v14, .int .u64 28] fun v15 =>xF (fBin .and .no) [v15, .int .u64 68719476735] fun v16 =>xF (fConv .i64) [v16] fun v17 =>xF (fBuild [(0, 1), (1, 1), (2, 1), (3, 1)] [.int .i64 0, .int .i64 0, .int .i64 0, .int .i64 0] [0, 1, 2, 3]) [v5, v9, v13, v17] fun v18 =>xC (gStore 4 [(locP 2), v18] c2) fun c2 =>xO (gLoad 4 true [(locP 2)] c2) fun r2 =>K r2 σ) else False
def s_da : Spec := fun args K σ => match args with
  | [a0] => w_da a0 K σ
  | _ => False
noncomputable def cx_da : Cx := { P := Tryz.prog, T := [], loc := [(2, 2)], eqt := [], n := 19, keep := [] }
theorem q_da : FnS cx_da Tryz.f22 (bodyOf Tryz.f22) 1 = s_da := by
  funext args K σ
  rcases args with _ | ⟨a0, _ | ⟨b, r⟩⟩ <;> kernel_rfl
theorem e_da : Entry Tryz.prog 22 .none s_da :=
  entry (C := cx_da) TOk.nil mixedOk Tryz.func22 (by kernel_rfl) (by kernel_rfl) (by kernel_rfl) q_da
attribute [irreducible] w_da s_da
def w_b4 (a0 : Value) (K : Value → Mem → Prop) (σ : Mem) : Prop :=xF fMove [.int .i64 0] fun v2 =>xF fMove [a0] fun v3 =>xF (fBin .shl .no) [.int .i64 2, v3] fun v4 =>xF (fBin .add .no) [.int .i64 1, v4] fun v5 =>xF fMove [v5] fun v2 =>K v2 σ
def s_b4 : Spec := fun args K σ => match args with
  | [a0] => w_b4 a0 K σ
  | _ => False
noncomputable def cx_b4 : Cx := { P := Tryz.prog, T := [], loc := [], eqt := [], n := 6, keep := [] }
theorem q_b4 : FnS cx_b4 Tryz.f80 (bodyOf Tryz.f80) 1 = s_b4 := by
  funext args K σ
  rcases args with _ | ⟨a0, _ | ⟨b, r⟩⟩ <;> kernel_rfl
theorem e_b4 : Entry Tryz.prog 80 .none s_b4 :=
  entry (C := cx_b4) TOk.nil mixedOk Tryz.func80 (by kernel_rfl) (by kernel_rfl) (by kernel_rfl) q_b4
attribute [irreducible] w_b4 s_b4
def w_de (a0 : Value) (K : Value → Mem → Prop) (σ : Mem) : Prop :=xC (gBox 4 [a0] []) fun c1 =>xF fMove [.int .u64 0] fun v2 =>xF (fFld 0) [(locP 1)] fun v3 =>xO (gLoad 1 false [v3] c1) fun v4 =>s_dl [v4, .int .i64 3] (fun v5 σ =>xF (fFld 1) [(locP 1)] fun v6 =>xO (gLoad 1 false [v6] c1) fun v7 =>s_dl [v7, .int .i64 63] (fun v8 σ =>xF (fBin .shl .no) [v8, .int .u64 2] fun v9 =>xF (fBin .or .no) [v5, v9] fun v10 =>xF (fFld 2) [(locP 1)] fun v11 =>xO (gLoad 1 false [v11] c1) fun v12 =>s_dl [v12, .int .i64 1048575] (fun v13 σ =>xF (fBin .shl .no) [v13, .int .u64 8] fun v14 =>xF (fBin .or .no) [v10, v14] fun v15 =>xF (fFld 3) [(locP 1)] fun v16 =>xO (gLoad 1 false [v16] c1) fun v17 =>s_dl [v17, .int .i64 68719476735] (fun v18 σ =>xF (fBin .shl .no) [v18, .int .u64 28] fun v19 =>xF (fBin .or .no) [v15, v19] fun v20 =>xF fMove [v20] fun v2 =>K v2 σ) σ) σ) σ) σ
def s_de : Spec := fun args K σ => match args with
  | [a0] => w_de a0 K σ
  | _ => False
noncomputable def cx_de : Cx := { P := Tryz.prog, T := [(66, .none, s_dl)], loc := [(1, 1), (3, 1), (6, 1), (11, 1), (16, 1)], eqt := [], n := 21, keep := [] }
theorem q_de : FnS cx_de Tryz.f91 (bodyOf Tryz.f91) 1 = s_de := by
  funext args K σ
  rcases args with _ | ⟨a0, _ | ⟨b, r⟩⟩ <;> kernel_rfl
theorem e_de : Entry Tryz.prog 91 .none s_de :=
  entry (C := cx_de) (TOk.cons e_dl TOk.nil) mixedOk Tryz.func91 (by kernel_rfl) (by kernel_rfl) (by kernel_rfl) q_de
attribute [irreducible] w_de s_de
def w_c0 (a0 a1 : Value) (K : Value → Mem → Prop) (σ : Mem) : Prop :=xC (gBox 9 [a1] []) fun c3 =>xF fMove [.bool false] fun v4 =>xF fMove [a0] fun v7 =>xF fNil [v7] fun v8 =>xF (fFld 4) [v8] fun v9 =>hLoad 1 false [v9] (fun v10 σ =>s_da [v10] (fun v11 σ =>xC (gStore 4 [(locP 5), v11] [.int .i64 0, .int .i64 0, .int .i64 0, .int .i64 0]) fun c5 =>xF (fFld 2) [(locP 5)] fun v12 =>xO (gLoad 1 false [v12] c5) fun v13 =>xF fMove [v13] fun v6 =>xF (fFld 2) [(locP 5)] fun v14 =>xO (gLoad 1 false [v14] c5) fun v15 =>xF fMove [a0] fun v16 =>xF fNil [v16] fun v17 =>xF (fFld 0) [v17] fun v18 =>hLoad 1 false [v18] (fun v19 σ =>s_b4 [v19] (fun v20 σ =>xF (fBin .add .no) [v15, v20] fun v21 =>xF (fFld 2) [(locP 5)] fun v22 =>xC (gStore 1 [v22, v21] c5) fun c5 =>xF fMove [a0] fun v23 =>xF fNil [v23] fun v24 =>xF (fFld 1) [v24] fun v25 =>hStore 1 [v25, .int .i64 0] (fun _v σ =>xO (gLoad 9 true [(locP 3)] c3) fun v26 =>xF (fFld 0) [(locP 3)] fun v27 =>xO (gLoad 7 true [v27] c3) fun v28 =>xF fMove [a0] fun v29 =>xF fNil [v29] fun v30 =>xF (fFld 3) [v30] fun v31 =>hLoad 1 false [v31] (fun v32 σ =>s_br [v28, v32] (fun v33 σ =>xF fMove [a0] fun v34 =>xF fNil [v34] fun v35 =>xF (fFld 4) [v35] fun v36 =>hLoad 1 false [v36] (fun v37 σ =>xO (gLoad 4 true [(locP 5)] c5) fun v38 =>s_de [v38] (fun v39 σ =>s_bu [v26, v33, v37, v39] (fun v40 σ =>xF (fUn .not) [v40] fun v41 =>xIf v41
 (xF fMove [.bool false] fun v4 =>K v4 σ)
 (xF fMove [a0] fun v42 =>xF fMove [a0] fun v43 =>xF (fFld 0) [(locP 3)] fun v44 =>xO (gLoad 7 true [v44] c3) fun v45 =>xF fMove [a0] fun v46 =>xF fNil [v46] fun v47 =>xF (fFld 3) [v47] fun v48 =>hLoad 1 false [v48] (fun v49 σ =>s_bp [v45, v49] (fun v50 σ =>xF fMove [v6] fun v51 =>xF (fBin .add .no) [v50, v51] fun v52 =>xF fMove [a0] fun v53 =>xF fNil [v53] fun v54 =>xF (fFld 3) [v54] fun v55 =>hLoad 1 false [v55] (fun v56 σ =>xF (fBuild [(0, 1), (1, 1)] [.int .i64 0, .int .i64 0] [0, 1]) [v52, v56] fun v57 =>xF fNil [v42] fun v58 =>xF (fFld 5) [v58] fun v59 =>hStore 2 [v59, v57] (fun _v σ =>xF fNil [v43] fun v60 =>xF (fFld 7) [v60] fun v61 =>hStore 1 [v61, .bool true] (fun _v σ =>xF fMove [.bool true] fun v4 =>K v4 σ) σ) σ) σ) σ) σ)) σ) σ) σ) σ) σ) σ) σ) σ) σ) σ
def s_c0 : Spec := fun args K σ => match args with
  | [a0, a1] => w_c0 a0 a1 K σ
  | _ => False
noncomputable def cx_c0 : Cx := { P := Tryz.prog, T := [(22, .none, s_da), (80, .none, s_b4), (23, .none, s_br), (91, .none, s_de), (49, .write, s_bu), (24, .none, s_bp)], loc := [(3, 3), (5, 5), (12, 5), (14, 5), (22, 5), (27, 3), (44, 3)], eqt := [], n := 62, keep := [] }
theorem q_c0 : FnS cx_c0 Tryz.f117 (bodyOf Tryz.f117) 2 = s_c0 := by
  funext args K σ
  rcases args with _ | ⟨a0, _ | ⟨a1, _ | ⟨b, r⟩⟩⟩ <;> kernel_rfl
theorem e_c0 : Entry Tryz.prog 117 .write s_c0 :=
  entry (C := cx_c0) (TOk.cons e_da (TOk.cons e_b4 (TOk.cons e_br (TOk.cons e_de (TOk.cons e_bu (TOk.cons e_bp TOk.nil)))))) mixedOk Tryz.func117 (by kernel_rfl) (by kernel_rfl) (by kernel_rfl) q_c0
attribute [irreducible] w_c0 s_c0
def w_c1 (a0 a1 : Value) (K : Value → Mem → Prop) (σ : Mem) : Prop :=xC (gBox 9 [a1] []) fun c3 =>xF fMove [.bool false] fun v4 =>xF fMove [a0] fun v5 =>xF fMove [a0] fun v6 =>xF fMove [a0] fun v7 =>xF fNil [v7] fun v8 =>xF (fFld 3) [v8] fun v9 =>hLoad 1 false [v9] (fun v10 σ =>xF (fBin .add .no) [v10, .int .i64 1] fun v11 =>xF fNil [v5] fun v12 =>xF (fFld 3) [v12] fun v13 =>hStore 1 [v13, v11] (fun _v σ =>xF fNil [v6] fun v14 =>xF (fFld 1) [v14] fun v15 =>hStore 1 [v15, .int .i64 3] (fun _v σ =>xF fMove [a0] fun v16 =>xF fNil [v16] fun v17 =>xF (fFld 3) [v17] fun v18 =>hLoad 1 false [v18] (fun v19 σ =>xF (fFld 0) [(locP 3)] fun v20 =>xF (fFld 2) [v20] fun v21 =>xO (gLoad 1 false [v21] c3) fun v22 =>xF (fBin .geq .no) [v19, v22] fun v23 =>xF fMove [v23] fun v4 =>K v4 σ) σ) σ) σ) σ
def s_c1 : Spec := fun args K σ => match args with
  | [a0, a1] => w_c1 a0 a1 K σ
  | _ => False
noncomputable def cx_c1 : Cx := { P := Tryz.prog, T := [], loc := [(3, 3), (20, 3), (21, 3)], eqt := [], n := 24, keep := [] }
theorem q_c1 : FnS cx_c1 Tryz.f118 (bodyOf Tryz.f118) 2 = s_c1 := by
  funext args K σ
  rcases args with _ | ⟨a0, _ | ⟨a1, _ | ⟨b, r⟩⟩⟩ <;> kernel_rfl
theorem e_c1 : Entry Tryz.prog 118 .write s_c1 :=
  entry (C := cx_c1) TOk.nil mixedOk Tryz.func118 (by kernel_rfl) (by kernel_rfl) (by kernel_rfl) q_c1
attribute [irreducible] w_c1 s_c1
def w_cz (a0 : Value) (K : Value → Mem → Prop) (σ : Mem) : Prop :=xF fMove [.int .u64 0] fun v2 =>xF fMove [a0] fun v3 =>xF fNil [v3] fun v4 =>xF (fFld 0) [v4] fun v5 =>hLoad 1 false [v5] (fun v6 σ =>xF fMove [a0] fun v7 =>xF fNil [v7] fun v8 =>xF (fFld 4) [v8] fun v9 =>hLoad 1 false [v9] (fun v10 σ =>s_da [v10] (fun v11 σ =>xF (fFldV 3 1 false) [v11] fun v12 =>xF (fBin .add .no) [v12, .int .i64 1] fun v13 =>xF (fBuild [(0, 1), (1, 1), (2, 1), (3, 1)] [.int .i64 0, .int .i64 0, .int .i64 0, .int .i64 0] [0, 1, 3]) [.int .i64 1, v6, v13] fun v14 =>s_de [v14] (fun v15 σ =>xF fMove [v15] fun v2 =>K v2 σ) σ) σ) σ) σ
def s_cz : Spec := fun args K σ => match args with
  | [a0] => w_cz a0 K σ
  | _ => False
noncomputable def cx_cz : Cx := { P := Tryz.prog, T := [(22, .none, s_da), (91, .none, s_de)], loc := [], eqt := [], n := 16, keep := [] }
theorem q_cz : FnS cx_cz Tryz.f119 (bodyOf Tryz.f119) 1 = s_cz := by
  funext args K σ
  rcases args with _ | ⟨a0, _ | ⟨b, r⟩⟩ <;> kernel_rfl
theorem e_cz : Entry Tryz.prog 119 .read s_cz :=
  entry (C := cx_cz) (TOk.cons e_da (TOk.cons e_de TOk.nil)) mixedOk Tryz.func119 (by kernel_rfl) (by kernel_rfl) (by kernel_rfl) q_cz
attribute [irreducible] w_cz s_cz
def w_cy_j1b (K : Value → Mem → Prop) (σ : Mem) : Prop :=xF fMove [.bool false] fun v4 =>K v4 σ
def w_cy_j1 (K : Value → Mem → Prop) (ts : List Value) (ls : List (List Value)) (σ : Mem) : Prop := w_cy_j1b K σ
def w_cy_j2b (K : Value → Mem → Prop) (J1 : List Value → List (List Value) → Mem → Prop) (v0 v117 : Value) (σ : Mem) : Prop :=xIf v117
 (xF fMove [v0] fun v118 =>xF fMove [v0] fun v119 =>xF fNil [v118] fun v120 =>xF (fFld 3) [v120] fun v121 =>hStore 1 [v121, .int .i64 0] (fun _v σ =>xF fNil [v119] fun v122 =>xF (fFld 1) [v122] fun v123 =>hStore 1 [v123, .int .i64 3] (fun _v σ =>J1 [] [] σ) σ) σ)
 (J1 [] [] σ)
def w_cy_j2 (K : Value → Mem → Prop) (J1 : List Value → List (List Value) → Mem → Prop) (ts : List Value) (ls : List (List Value)) (σ : Mem) : Prop := w_cy_j2b K J1 (ts.getD 0 poison) (ts.getD 1 poison) σ
def w_cy (a0 a1 : Value) (K : Value → Mem → Prop) (σ : Mem) : Prop :=xC (gBox 9 [a1] []) fun c3 =>xF fMove [.bool false] fun v4 =>xJoin (w_cy_j1 K) fun J1 =>xF fMove [a0] fun v7 =>xF fNil [v7] fun v8 =>xF (fFld 1) [v8] fun v9 =>hLoad 1 false [v9] (fun v10 σ =>xF (fBin .eql .no) [v10, .int .i64 0] fun v36 =>xF fMove [v36] fun v35 =>xIf v35
 (xF fMove [a0] fun v37 =>xO (gLoad 9 true [(locP 3)] c3) fun v38 =>xF fMove [a0] fun v39 =>xF fNil [v39] fun v40 =>xF (fFld 0) [v40] fun v41 =>hLoad 1 false [v41] (fun v42 σ =>s_b2 [v42] (fun v43 σ =>s_bv [v38, v43] (fun v44 σ =>xF fNil [v37] fun v45 =>xF (fFld 2) [v45] fun v46 =>hStore 1 [v46, v44] (fun _v σ =>xF fMove [a0] fun v47 =>xF fMove [a0] fun v48 =>xF fMove [a0] fun v49 =>xF fNil [v49] fun v50 =>xF (fFld 2) [v50] fun v51 =>hLoad 1 false [v51] (fun v52 σ =>xF (fConv .i64) [v52] fun v53 =>xF (fBin .sub .no) [v53, .int .i64 1] fun v54 =>xF fNil [v47] fun v55 =>xF (fFld 3) [v55] fun v56 =>hStore 1 [v56, v54] (fun _v σ =>xF fNil [v48] fun v57 =>xF (fFld 1) [v57] fun v58 =>hStore 1 [v58, .int .i64 1] (fun _v σ =>xF fMove [a0] fun v59 =>xF fNil [v59] fun v60 =>xF (fFld 3) [v60] fun v61 =>hLoad 1 false [v61] (fun v62 σ =>xF (fBin .lss .no) [v62, .int .i64 0] fun v63 =>xIf v63
 (xF fMove [a0] fun v64 =>xF fMove [a0] fun v65 =>xF fNil [v64] fun v66 =>xF (fFld 3) [v66] fun v67 =>hStore 1 [v67, .int .i64 0] (fun _v σ =>xF fNil [v65] fun v68 =>xF (fFld 1) [v68] fun v69 =>hStore 1 [v69, .int .i64 3] (fun _v σ =>J1 [] [] σ) σ) σ)
 (J1 [] [] σ)) σ) σ) σ) σ) σ) σ) σ) σ)
 (xF (fBin .eql .no) [v10, .int .i64 1] fun v71 =>xF fMove [v71] fun v70 =>xIf v70
 (xF fMove [a0] fun v72 =>xO (gLoad 9 true [(locP 3)] c3) fun v73 =>xF (fFld 0) [(locP 3)] fun v74 =>xO (gLoad 7 true [v74] c3) fun v75 =>xF fMove [a0] fun v76 =>xF fNil [v76] fun v77 =>xF (fFld 3) [v77] fun v78 =>hLoad 1 false [v78] (fun v79 σ =>s_br [v75, v79] (fun v80 σ =>s_bv [v73, v80] (fun v81 σ =>xF fNil [v72] fun v82 =>xF (fFld 4) [v82] fun v83 =>hStore 1 [v83, v81] (fun _v σ =>xF fMove [a0] fun v84 =>xF fNil [v84] fun v85 =>xF (fFld 4) [v85] fun v86 =>hLoad 1 false [v86] (fun v87 σ =>s_da [v87] (fun v88 σ =>xC (gStore 4 [(locP 5), v88] [.int .i64 0, .int .i64 0, .int .i64 0, .int .i64 0]) fun c5 =>xF fMove [a0] fun v89 =>xF fNil [v89] fun v90 =>xF (fFld 1) [v90] fun v91 =>hStore 1 [v91, .int .i64 2] (fun _v σ =>xJoin (w_cy_j2 K J1) fun J2 =>xF (fFld 0) [(locP 5)] fun v92 =>xO (gLoad 1 false [v92] c5) fun v93 =>xF (fBin .neq .no) [v93, .int .i64 1] fun v94 =>xF fMove [v94] fun v95 =>xIf v95
 (xF fPick [.bool true, .bool true, undef] fun v103 =>xF fMove [v103] fun v104 =>xIf v104
 (xF fPick [.bool true, .bool true, undef] fun v117 =>J2 [a0, v117] [] σ)
 (xF (fFld 2) [(locP 5)] fun v105 =>xO (gLoad 1 false [v105] c5) fun v106 =>xF fMove [a0] fun v107 =>xF fNil [v107] fun v108 =>xF (fFld 0) [v108] fun v109 =>hLoad 1 false [v109] (fun v110 σ =>s_b4 [v110] (fun v111 σ =>xF (fBin .add .no) [v106, v111] fun v112 =>xF (fFld 0) [(locP 3)] fun v113 =>xF (fFld 3) [v113] fun v114 =>xO (gLoad 1 false [v114] c3) fun v115 =>xF (fBin .gtr .no) [v112, v115] fun v116 =>xF fPick [.bool false, .bool true, v116] fun v117 =>J2 [a0, v117] [] σ) σ) σ))
 (xF (fFld 1) [(locP 5)] fun v96 =>xO (gLoad 1 false [v96] c5) fun v97 =>xF fMove [a0] fun v98 =>xF fNil [v98] fun v99 =>xF (fFld 0) [v99] fun v100 =>hLoad 1 false [v100] (fun v101 σ =>xF (fBin .neq .no) [v97, v101] fun v102 =>xF fPick [.bool false, .bool true, v102] fun v103 =>xF fMove [v103] fun v104 =>xIf v104
 (xF fPick [.bool true, .bool true, undef] fun v117 =>J2 [a0, v117] [] σ)
 (xF (fFld 2) [(locP 5)] fun v105 =>xO (gLoad 1 false [v105] c5) fun v106 =>xF fMove [a0] fun v107 =>xF fNil [v107] fun v108 =>xF (fFld 0) [v108] fun v109 =>hLoad 1 false [v109] (fun v110 σ =>s_b4 [v110] (fun v111 σ =>xF (fBin .add .no) [v106, v111] fun v112 =>xF (fFld 0) [(locP 3)] fun v113 =>xF (fFld 3) [v113] fun v114 =>xO (gLoad 1 false [v114] c3) fun v115 =>xF (fBin .gtr .no) [v112, v115] fun v116 =>xF fPick [.bool false, .bool true, v116] fun v117 =>J2 [a0, v117] [] σ) σ) σ)) σ)) σ) σ) σ) σ) σ) σ) σ)
 (xF (fBin .eql .no) [v10, .int .i64 2] fun v125 =>xF fMove [v125] fun v124 =>xIf v124
 (xF fMove [a0] fun v126 =>xO (gLoad 9 true [(locP 3)] c3) fun v127 =>s_c0 [v126, v127] (fun v128 σ =>xF fMove [v128] fun v4 =>K v4 σ) σ)
 (xF (fBin .eql .no) [v10, .int .i64 3] fun v130 =>xF fMove [v130] fun v129 =>xIf v129
 (xF fMove [a0] fun v131 =>xO (gLoad 9 true [(locP 3)] c3) fun v132 =>xF (fFld 0) [(locP 3)] fun v133 =>xO (gLoad 7 true [v133] c3) fun v134 =>xF fMove [a0] fun v135 =>xF fNil [v135] fun v136 =>xF (fFld 3) [v136] fun v137 =>hLoad 1 false [v137] (fun v138 σ =>s_br [v134, v138] (fun v139 σ =>s_bv [v132, v139] (fun v140 σ =>xF fNil [v131] fun v141 =>xF (fFld 4) [v141] fun v142 =>hStore 1 [v142, v140] (fun _v σ =>xF fMove [a0] fun v143 =>xF fNil [v143] fun v144 =>xF (fFld 4) [v144] fun v145 =>hLoad 1 false [v145] (fun v146 σ =>s_da [v146] (fun v147 σ =>xF (fFldV 0 1 false) [v147] fun v148 =>xF (fBin .neq .no) [v148, .int .i64 0] fun v149 =>xIf v149
 (xF fMove [a0] fun v150 =>xO (gLoad 9 true [(locP 3)] c3) fun v151 =>s_c1 [v150, v151] (fun v152 σ =>xF fMove [v152] fun v4 =>K v4 σ) σ)
 (xF fMove [a0] fun v153 =>xF fNil [v153] fun v154 =>xF (fFld 1) [v154] fun v155 =>hStore 1 [v155, .int .i64 4] (fun _v σ =>J1 [] [] σ) σ)) σ) σ) σ) σ) σ) σ)
 (xF (fBin .eql .no) [v10, .int .i64 4] fun v157 =>xF fMove [v157] fun v156 =>xIf v156
 (xO (gLoad 9 true [(locP 3)] c3) fun v158 =>xF (fFld 0) [(locP 3)] fun v159 =>xO (gLoad 7 true [v159] c3) fun v160 =>xF fMove [a0] fun v161 =>xF fNil [v161] fun v162 =>xF (fFld 3) [v162] fun v163 =>hLoad 1 false [v163] (fun v164 σ =>s_br [v160, v164] (fun v165 σ =>xF fMove [a0] fun v166 =>xF fNil [v166] fun v167 =>xF (fFld 4) [v167] fun v168 =>hLoad 1 false [v168] (fun v169 σ =>xF fMove [a0] fun v170 =>s_cz [v170] (fun v171 σ =>s_bu [v158, v165, v169, v171] (fun v172 σ =>xF (fUn .not) [v172] fun v173 =>xIf v173
 (xF fMove [a0] fun v174 =>xO (gLoad 9 true [(locP 3)] c3) fun v175 =>s_c1 [v174, v175] (fun v176 σ =>xF fMove [v176] fun v4 =>K v4 σ) σ)
 (xF fMove [a0] fun v177 =>xF fNil [v177] fun v178 =>xF (fFld 1) [v178] fun v179 =>hStore 1 [v179, .int .i64 5] (fun _v σ =>J1 [] [] σ) σ)) σ) σ) σ) σ) σ)
 (xF (fBin .eql .no) [v10, .int .i64 5] fun v181 =>xF fMove [v181] fun v180 =>xIf v180
 (xF fMove [a0] fun v182 =>xF fNil [v182] fun v183 =>xF (fFld 1) [v183] fun v184 =>hStore 1 [v184, .int .i64 6] (fun _v σ =>xO (gLoad 9 true [(locP 3)] c3) fun v185 =>xF fMove [a0] fun v186 =>xF fNil [v186] fun v187 =>xF (fFld 0) [v187] fun v188 =>hLoad 1 false [v188] (fun v189 σ =>s_b2 [v189] (fun v190 σ =>xF fMove [a0] fun v191 =>xF fNil [v191] fun v192 =>xF (fFld 2) [v192] fun v193 =>hLoad 1 false [v193] (fun v194 σ =>xF fMove [a0] fun v195 =>xF fNil [v195] fun v196 =>xF (fFld 3) [v196] fun v197 =>hLoad 1 false [v197] (fun v198 σ =>xF (fBin .add .no) [v198, .int .i64 1] fun v199 =>xF (fConv .u64) [v199] fun v200 =>s_bu [v185, v190, v194, v200] (fun v201 σ =>xIf v201
 (xF fMove [a0] fun v202 =>xF fNil [v202] fun v203 =>xF (fFld 1) [v203] fun v204 =>hStore 1 [v204, .int .i64 0] (fun _v σ =>J1 [] [] σ) σ)
 (J1 [] [] σ)) σ) σ) σ) σ) σ) σ)
 (xF fMove [a0] fun v11 =>xF fNil [v11] fun v12 =>xF (fFld 4) [v12] fun v13 =>hLoad 1 false [v13] (fun v14 σ =>s_da [v14] (fun v15 σ =>xF (fFldV 3 1 false) [v15] fun v16 =>xF (fBin .add .no) [v16, .int .i64 2] fun v17 =>xF (fBuild [(0, 1), (1, 1), (2, 1), (3, 1)] [.int .i64 0, .int .i64 0, .int .i64 0, .int .i64 0] [3]) [v17] fun v18 =>s_de [v18] (fun v19 σ =>xF fMove [v19] fun v6 =>xO (gLoad 9 true [(locP 3)] c3) fun v20 =>xF (fFld 0) [(locP 3)] fun v21 =>xO (gLoad 7 true [v21] c3) fun v22 =>xF fMove [a0] fun v23 =>xF fNil [v23] fun v24 =>xF (fFld 3) [v24] fun v25 =>hLoad 1 false [v25] (fun v26 σ =>s_br [v22, v26] (fun v27 σ =>xF fMove [a0] fun v28 =>s_cz [v28] (fun v29 σ =>xF fMove [v6] fun v30 =>s_bu [v20, v27, v29, v30] (fun v31 σ =>xF fMove [a0] fun v32 =>xF fNil [v32] fun v33 =>xF (fFld 1) [v33] fun v34 =>hStore 1 [v34, .int .i64 0] (fun _v σ =>J1 [] [] σ) σ) σ) σ) σ) σ) σ) σ) σ))))))) σ
def s_cy : Spec := fun args K σ => match args with
  | [a0, a1] => w_cy a0 a1 K σ
  | _ => False
noncomputable def cx_cy : Cx := { P := Tryz.prog, T := [(35, .none, s_b2), (54, .write, s_bv), (23, .none, s_br), (22, .none, s_da), (80, .none, s_b4), (117, .write, s_c0), (118, .write, s_c1), (119, .read, s_cz), (49, .write, s_bu), (91, .none, s_de)], loc := [(3, 3), (5, 5), (21, 3), (74, 3), (92, 5), (96, 5), (105, 5), (113, 3), (114, 3), (133, 3), (159, 3)], eqt := [], n := 205, keep := [(1000016, [0, 117], []), (1000032, [], [])] }
theorem q_cy : FnS cx_cy Tryz.f76 (bodyOf Tryz.f76) 2 = s_cy := by
  funext args K σ
  rcases args with _ | ⟨a0, _ | ⟨a1, _ | ⟨b, r⟩⟩⟩ <;> kernel_rfl
theorem e_cy : Entry Tryz.prog 76 .write s_cy :=
  entry (C := cx_cy) (TOk.cons e_b2 (TOk.cons e_bv (TOk.cons e_br (TOk.cons e_da (TOk.cons e_b4 (TOk.cons e_c0 (TOk.cons e_c1 (TOk.cons e_cz (TOk.cons e_bu (TOk.cons e_de TOk.nil)))))))))) mixedOk Tryz.func76 (by kernel_rfl) (by kernel_rfl) (by kernel_rfl) q_cy
attribute [irreducible] w_cy_j1b w_cy_j1 w_cy_j2b w_cy_j2 w_cy s_cy
def w_cx_j1b (K : Value → Mem → Prop) (v0 v12 : Value) (c2 : List Value) (σ : Mem) : Prop :=xIf v12
 (xF (fBuild [(0, 1), (1, 1)] [.int .i64 0, .int .i64 0] []) [] fun v13 =>xC (gStore 2 [(locP 2), v13] c2) fun c2 =>xF fMove [.bool false] fun v3 =>xO (gLoad 2 true [(locP 2)] c2) fun r2 =>K (.tuple #[r2, v3]) σ)
 (xF fMove [v0] fun v14 =>xF fNil [v14] fun v15 =>xF (fFld 5) [v15] fun v16 =>hLoad 2 true [v16] (fun v17 σ =>xC (gStore 2 [(locP 2), v17] c2) fun c2 =>xF fMove [.bool true] fun v3 =>xO (gLoad 2 true [(locP 2)] c2) fun r2 =>K (.tuple #[r2, v3]) σ) σ)
def w_cx_j1 (K : Value → Mem → Prop) (ts : List Value) (ls : List (List Value)) (σ : Mem) : Prop := w_cx_j1b K (ts.getD 0 poison) (ts.getD 1 poison) (ls.getD 0 []) σ
def w_cx (a0 : Value) (K : Value → Mem → Prop) (σ : Mem) : Prop :=xF fMove [.bool false] fun v3 =>xJoin (w_cx_j1 K) fun J1 =>xF fMove [a0] fun v4 =>xF (fBin .eql .ptr) [v4, .pointer none] fun v5 =>xF fMove [v5] fun v6 =>xIf v6
 (xF fPick [.bool true, .bool true, undef] fun v12 =>J1 [a0, v12] [[.int .i64 0, .int .i64 0]] σ)
 (xF fMove [a0] fun v7 =>xF fNil [v7] fun v8 =>xF (fFld 7) [v8] fun v9 =>hLoad 1 false [v9] (fun v10 σ =>xF (fUn .not) [v10] fun v11 =>xF fPick [.bool false, .bool true, v11] fun v12 =>J1 [a0, v12] [[.int .i64 0, .int .i64 0]] σ) σ)
def s_cx : Spec := fun args K σ => match args with
  | [a0] => w_cx a0 K σ
  | _ => False
noncomputable def cx_cx : Cx := { P := Tryz.prog, T := [], loc := [(2, 2)], eqt := [(119, .ptr)], n := 18, keep := [(1000003, [0, 12], [2])] }
theorem q_cx : FnS cx_cx Tryz.f77 (bodyOf Tryz.f77) 1 = s_cx := by
  funext args K σ
  rcases args with _ | ⟨a0, _ | ⟨b, r⟩⟩ <;> kernel_rfl
theorem e_cx : Entry Tryz.prog 77 .read s_cx :=
  entry (C := cx_cx) TOk.nil mixedOk Tryz.func77 (by kernel_rfl) (by kernel_rfl) (by kernel_rfl) q_cx
attribute [irreducible] w_cx_j1b w_cx_j1 w_cx s_cx
def w_c6 (a0 : Value) (K : Value → Mem → Prop) (σ : Mem) : Prop :=xF fMove [.pointer none] fun v2 =>xF fMove [a0] fun v3 =>xF (fBuild [(0, 1), (1, 1), (2, 1)] [.int .i64 0, .int .i64 0, .int .u64 0] [1]) [v3] fun v4 =>hBox 3 [v4] (fun v5 σ =>xF fMove [v5] fun v2 =>K v2 σ) σ
def s_c6 : Spec := fun args K σ => match args with
  | [a0] => w_c6 a0 K σ
  | _ => False
noncomputable def cx_c6 : Cx := { P := Tryz.prog, T := [], loc := [], eqt := [], n := 6, keep := [] }
theorem q_c6 : FnS cx_c6 Tryz.f78 (bodyOf Tryz.f78) 1 = s_c6 := by
  funext args K σ
  rcases args with _ | ⟨a0, _ | ⟨b, r⟩⟩ <;> kernel_rfl
theorem e_c6 : Entry Tryz.prog 78 .write s_c6 :=
  entry (C := cx_c6) TOk.nil mixedOk Tryz.func78 (by kernel_rfl) (by kernel_rfl) (by kernel_rfl) q_c6
attribute [irreducible] w_c6 s_c6
def w_b7 (a0 a1 a2 : Value) (K : Value → Mem → Prop) (σ : Mem) : Prop :=xF fMove [.int .u64 0] fun v6 =>xF fMove [.int .i64 0] fun v7 =>xF fMove [a0] fun v9 =>xF fMove [a1] fun v10 =>s_ci [v9, v10] (fun v11 σ =>xF (fUn .not) [v11] fun v12 =>xIf v12
 (xF fMove [.int .u64 0] fun v6 =>xF fMove [.int .i64 2] fun v7 =>K (.tuple #[v6, v7]) σ)
 (xF fMove [a0] fun v13 =>xF fNil [v13] fun v14 =>xF (fFld 0) [v14] fun v15 =>hLoad 1 false [v15] (fun v16 σ =>xF fMove [a1] fun v17 =>xF (fIxS 1) [v16, v17] fun v18 =>hLoad 1 false [v18] (fun v19 σ =>xF fMove [v19] fun v8 =>xF fMove [a0] fun v20 =>xF fMove [a1] fun v21 =>xF fMove [v8] fun v22 =>xF fMove [a2] fun v23 =>xF (fBin .add .no) [v22, v23] fun v24 =>s_ch [v20, v21, v24] (fun v25 σ =>xF fMove [v8] fun v26 =>xF fMove [v26] fun v6 =>xF fMove [.int .i64 0] fun v7 =>K (.tuple #[v6, v7]) σ) σ) σ) σ)) σ
def s_b7 : Spec := fun args K σ => match args with
  | [a0, a1, a2] => w_b7 a0 a1 a2 K σ
  | _ => False
noncomputable def cx_b7 : Cx := { P := Tryz.prog, T := [(64, .write, s_ci), (65, .write, s_ch)], loc := [], eqt := [], n := 27, keep := [] }
theorem q_b7 : FnS cx_b7 Tryz.f120 (bodyOf Tryz.f120) 3 = s_b7 := by
  funext args K σ
  rcases args with _ | ⟨a0, _ | ⟨a1, _ | ⟨a2, _ | ⟨b, r⟩⟩⟩⟩ <;> kernel_rfl
theorem e_b7 : Entry Tryz.prog 120 .write s_b7 :=
  entry (C := cx_b7) (TOk.cons e_ci (TOk.cons e_ch TOk.nil)) mixedOk Tryz.func120 (by kernel_rfl) (by kernel_rfl) (by kernel_rfl) q_b7
attribute [irreducible] w_b7 s_b7
def w_bt (a0 a1 a2 : Value) (K : Value → Mem → Prop) (σ : Mem) : Prop :=xC (gBox 9 [a0] []) fun c3 =>xF (fFld 7) [(locP 3)] fun v6 =>xO (gLoad 1 false [v6] c3) fun v7 =>xF (fFld 8) [(locP 3)] fun v8 =>xO (gLoad 1 false [v8] c3) fun v9 =>s_b8 [v7, v9] (fun v10 σ =>xF (fFld 7) [(locP 3)] fun v11 =>xO (gLoad 1 false [v11] c3) fun v12 =>xF fMove [a1] fun v13 =>xF fMove [a2] fun v14 =>xF (fConv .u64) [v14] fun v15 =>s_b7 [v12, v13, v15] (fun v16 σ =>K (.tuple #[]) σ) σ) σ
def s_bt : Spec := fun args K σ => match args with
  | [a0, a1, a2] => w_bt a0 a1 a2 K σ
  | _ => False
noncomputable def cx_bt : Cx := { P := Tryz.prog, T := [(92, .write, s_b8), (120, .write, s_b7)], loc := [(3, 3), (6, 3), (8, 3), (11, 3)], eqt := [], n := 17, keep := [] }
theorem q_bt : FnS cx_bt Tryz.f79 (bodyOf Tryz.f79) 3 = s_bt := by
  funext args K σ
  rcases args with _ | ⟨a0, _ | ⟨a1, _ | ⟨a2, _ | ⟨b, r⟩⟩⟩⟩ <;> kernel_rfl
theorem e_bt : Entry Tryz.prog 79 .write s_bt :=
  entry (C := cx_bt) (TOk.cons e_b8 (TOk.cons e_b7 TOk.nil)) mixedOk Tryz.func79 (by kernel_rfl) (by kernel_rfl) (by kernel_rfl) q_bt
attribute [irreducible] w_bt s_bt
def w_dg_j1b (K : Value → Mem → Prop) (v3 : Value) (σ : Mem) : Prop :=xF fMove [v3] fun v26 =>xF fMove [v26] fun v2 =>K v2 σ
def w_dg_j1 (K : Value → Mem → Prop) (ts : List Value) (ls : List (List Value)) (σ : Mem) : Prop := w_dg_j1b K (ts.getD 0 poison) σ
def w_dg (a0 : Value) (K : Value → Mem → Prop) (σ : Mem) : Prop :=xC (gBox 5 [a0] []) fun c1 =>xF fMove [.int .u64 0] fun v2 =>xF (fFld 0) [(locP 1)] fun v4 =>xO (gLoad 1 false [v4] c1) fun v5 =>s_dl [v5, .int .i64 3] (fun v6 σ =>xF (fFld 1) [(locP 1)] fun v7 =>xO (gLoad 1 false [v7] c1) fun v8 =>s_dl [v8, .int .i64 65535] (fun v9 σ =>xF (fBin .shl .no) [v9, .int .u64 2] fun v10 =>xF (fBin .or .no) [v6, v10] fun v11 =>xF (fFld 2) [(locP 1)] fun v12 =>xO (gLoad 1 false [v12] c1) fun v13 =>s_dl [v13, .int .i64 65535] (fun v14 σ =>xF (fBin .shl .no) [v14, .int .u64 18] fun v15 =>xF (fBin .or .no) [v11, v15] fun v16 =>xF (fFld 3) [(locP 1)] fun v17 =>xO (gLoad 1 false [v17] c1) fun v18 =>s_dl [v18, .int .i64 65535] (fun v19 σ =>xF (fBin .shl .no) [v19, .int .u64 34] fun v20 =>xF (fBin .or .no) [v16, v20] fun v21 =>xF fMove [v21] fun v3 =>xJoin (w_dg_j1 K) fun J1 =>xF (fFld 4) [(locP 1)] fun v22 =>xO (gLoad 1 false [v22] c1) fun v23 =>xIf v23
 (xF fMove [v3] fun v24 =>xF (fBin .or .no) [v24, .int .u64 1125899906842624] fun v25 =>xF fMove [v25] fun v3 =>J1 [v3] [] σ)
 (J1 [v3] [] σ)) σ) σ) σ) σ
def s_dg : Spec := fun args K σ => match args with
  | [a0] => w_dg a0 K σ
  | _ => False
noncomputable def cx_dg : Cx := { P := Tryz.prog, T := [(66, .none, s_dl)], loc := [(1, 1), (4, 1), (7, 1), (12, 1), (17, 1), (22, 1)], eqt := [], n := 27, keep := [(1000005, [3], [])] }
theorem q_dg : FnS cx_dg Tryz.f34 (bodyOf Tryz.f34) 1 = s_dg := by
  funext args K σ
  rcases args with _ | ⟨a0, _ | ⟨b, r⟩⟩ <;> kernel_rfl
theorem e_dg : Entry Tryz.prog 34 .none s_dg :=
  entry (C := cx_dg) (TOk.cons e_dl TOk.nil) mixedOk Tryz.func34 (by kernel_rfl) (by kernel_rfl) (by kernel_rfl) q_dg
attribute [irreducible] w_dg_j1b w_dg_j1 w_dg s_dg
def w_ak (a0 a1 : Value) (K : Value → Mem → Prop) (σ : Mem) : Prop :=xF fMove [.int .u64 0] fun v4 =>xF fMove [a1] fun v5 =>xF fMove [a0] fun v6 =>xF fNil [v6] fun v7 =>xF (fFld 0) [v7] fun v8 =>hLoad 1 false [v8] (fun v9 σ =>xF fMove [a0] fun v10 =>xF fNil [v10] fun v11 =>xF (fFld 8) [v11] fun v12 =>hLoad 1 false [v12] (fun v13 σ =>xF fMove [a0] fun v14 =>xF fNil [v14] fun v15 =>xF (fFld 9) [v15] fun v16 =>hLoad 1 false [v16] (fun v17 σ =>xF fMove [a0] fun v18 =>xF fNil [v18] fun v19 =>xF (fFld 1) [v19] fun v20 =>hLoad 1 false [v20] (fun v21 σ =>xF (fBuild [(0, 1), (1, 1), (2, 1), (3, 1), (4, 1)] [.int .i64 0, .int .i64 0, .int .i64 0, .int .i64 0, .bool false] [0, 1, 2, 3, 4]) [v5, v9, v13, v17, v21] fun v22 =>s_dg [v22] (fun v23 σ =>xF fMove [v23] fun v4 =>K v4 σ) σ) σ) σ) σ) σ
def s_ak : Spec := fun args K σ => match args with
  | [a0, a1] => w_ak a0 a1 K σ
  | _ => False
noncomputable def cx_ak : Cx := { P := Tryz.prog, T := [(34, .none, s_dg)], loc := [], eqt := [], n := 24, keep := [] }
theorem q_ak : FnS cx_ak Tryz.f81 (bodyOf Tryz.f81) 2 = s_ak := by
  funext args K σ
  rcases args with _ | ⟨a0, _ | ⟨a1, _ | ⟨b, r⟩⟩⟩ <;> kernel_rfl
theorem e_ak : Entry Tryz.prog 81 .read s_ak :=
  entry (C := cx_ak) (TOk.cons e_dg TOk.nil) mixedOk Tryz.func81 (by kernel_rfl) (by kernel_rfl) (by kernel_rfl) q_ak
attribute [irreducible] w_ak s_ak
def w_bx (a0 a1 a2 : Value) (K : Value → Mem → Prop) (σ : Mem) : Prop :=xC (gBox 9 [a0] []) fun c3 =>xF (fFld 7) [(locP 3)] fun v6 =>xO (gLoad 1 false [v6] c3) fun v7 =>xF (fFld 8) [(locP 3)] fun v8 =>xO (gLoad 1 false [v8] c3) fun v9 =>s_b8 [v7, v9] (fun v10 σ =>xF (fFld 7) [(locP 3)] fun v11 =>xO (gLoad 1 false [v11] c3) fun v12 =>xF fMove [a1] fun v13 =>xF fMove [a2] fun v14 =>s_cf [v12, v13, v14] (fun v15 σ =>K (.tuple #[]) σ) σ) σ
def s_bx : Spec := fun args K σ => match args with
  | [a0, a1, a2] => w_bx a0 a1 a2 K σ
  | _ => False
noncomputable def cx_bx : Cx := { P := Tryz.prog, T := [(92, .write, s_b8), (33, .write, s_cf)], loc := [(3, 3), (6, 3), (8, 3), (11, 3)], eqt := [], n := 16, keep := [] }
theorem q_bx : FnS cx_bx Tryz.f56 (bodyOf Tryz.f56) 3 = s_bx := by
  funext args K σ
  rcases args with _ | ⟨a0, _ | ⟨a1, _ | ⟨a2, _ | ⟨b, r⟩⟩⟩⟩ <;> kernel_rfl
theorem e_bx : Entry Tryz.prog 56 .write s_bx :=
  entry (C := cx_bx) (TOk.cons e_b8 (TOk.cons e_cf TOk.nil)) mixedOk Tryz.func56 (by kernel_rfl) (by kernel_rfl) (by kernel_rfl) q_bx
attribute [irreducible] w_bx s_bx
def w_df (a0 : Value) (K : Value → Mem → Prop) (σ : Mem) : Prop :=xC (gBox 2 [a0] []) fun c1 =>xF fMove [.int .u64 0] fun v2 =>xF (fFld 0) [(locP 1)] fun v3 =>xO (gLoad 1 false [v3] c1) fun v4 =>s_dl [v4, .int .i64 65535] (fun v5 σ =>xF (fFld 1) [(locP 1)] fun v6 =>xO (gLoad 1 false [v6] c1) fun v7 =>s_dl [v7, .int .i64 65535] (fun v8 σ =>xF (fBin .shl .no) [v8, .int .u64 16] fun v9 =>xF (fBin .or .no) [v5, v9] fun v10 =>xF fMove [v10] fun v2 =>K v2 σ) σ) σ
def s_df : Spec := fun args K σ => match args with
  | [a0] => w_df a0 K σ
  | _ => False
noncomputable def cx_df : Cx := { P := Tryz.prog, T := [(66, .none, s_dl)], loc := [(1, 1), (3, 1), (6, 1)], eqt := [], n := 11, keep := [] }
theorem q_df : FnS cx_df Tryz.f82 (bodyOf Tryz.f82) 1 = s_df := by
  funext args K σ
  rcases args with _ | ⟨a0, _ | ⟨b, r⟩⟩ <;> kernel_rfl
theorem e_df : Entry Tryz.prog 82 .none s_df :=
  entry (C := cx_df) (TOk.cons e_dl TOk.nil) mixedOk Tryz.func82 (by kernel_rfl) (by kernel_rfl) (by kernel_rfl) q_df
attribute [irreducible] w_df s_df
def w_c5_j1b (K : Value → Mem → Prop) (σ : Mem) : Prop :=xF fMove [.bool false] fun v4 =>K v4 σ
def w_c5_j1 (K : Value → Mem → Prop) (ts : List Value) (ls : List (List Value)) (σ : Mem) : Prop := w_c5_j1b K σ
def w_c5 (a0 a1 : Value) (K : Value → Mem → Prop) (σ : Mem) : Prop :=xC (gBox 9 [a1] []) fun c3 =>xF fMove [.bool false] fun v4 =>xF fMove [a0] fun v8 =>xF fNil [v8] fun v9 =>xF (fFld 2) [v9] fun v10 =>hLoad 1 false [v10] (fun v11 σ =>s_dk [v11] (fun v12 σ =>xF fMove [v12] fun v7 =>xF (fExt 0) [v7] fun v13 =>xF (fExt 1) [v7] fun v14 =>xF fMove [v13] fun v5 =>xF fMove [v14] fun v6 =>xJoin (w_c5_j1 K) fun J1 =>xF fMove [a0] fun v15 =>xF fNil [v15] fun v16 =>xF (fFld 0) [v16] fun v17 =>hLoad 1 false [v17] (fun v18 σ =>xF (fBin .eql .no) [v18, .int .i64 0] fun v37 =>xF fMove [v37] fun v36 =>xIf v36
 (xF fMove [a0] fun v38 =>xF fMove [a0] fun v39 =>xO (gLoad 9 true [(locP 3)] c3) fun v40 =>s_b6 [] (fun v41 σ =>s_bv [v40, v41] (fun v42 σ =>xF fNil [v38] fun v43 =>xF (fFld 2) [v43] fun v44 =>hStore 1 [v44, v42] (fun _v σ =>xF fNil [v39] fun v45 =>xF (fFld 0) [v45] fun v46 =>hStore 1 [v46, .int .i64 1] (fun _v σ =>J1 [] [] σ) σ) σ) σ) σ)
 (xF (fBin .eql .no) [v18, .int .i64 1] fun v48 =>xF fMove [v48] fun v47 =>xIf v47
 (xO (gLoad 9 true [(locP 3)] c3) fun v49 =>xF (fFld 0) [(locP 3)] fun v50 =>xO (gLoad 7 true [v50] c3) fun v51 =>xF fMove [a0] fun v52 =>xF fNil [v52] fun v53 =>xF (fFld 1) [v53] fun v54 =>hLoad 1 false [v54] (fun v55 σ =>s_b5 [v51, v55] (fun v56 σ =>xF (fBin .add .no) [v56, .int .i64 1] fun v57 =>xF fMove [v5] fun v58 =>s_di [v58, .int .i64 0] (fun v59 σ =>s_bx [v49, v57, v59] (fun v60 σ =>xF fMove [a0] fun v61 =>xF fNil [v61] fun v62 =>xF (fFld 0) [v62] fun v63 =>hStore 1 [v63, .int .i64 2] (fun _v σ =>J1 [] [] σ) σ) σ) σ) σ) σ)
 (xF fMove [a0] fun v19 =>xF fNil [v19] fun v20 =>xF (fFld 0) [v20] fun v21 =>hStore 1 [v21, .int .i64 0] (fun _v σ =>xO (gLoad 9 true [(locP 3)] c3) fun v22 =>s_b6 [] (fun v23 σ =>xF fMove [a0] fun v24 =>xF fNil [v24] fun v25 =>xF (fFld 2) [v25] fun v26 =>hLoad 1 false [v26] (fun v27 σ =>xF fMove [a0] fun v28 =>xF fNil [v28] fun v29 =>xF (fFld 1) [v29] fun v30 =>hLoad 1 false [v30] (fun v31 σ =>xF fMove [v6] fun v32 =>xF (fBin .add .no) [v32, .int .i64 1] fun v33 =>s_di [v31, v33] (fun v34 σ =>s_bu [v22, v23, v27, v34] (fun v35 σ =>xF fMove [v35] fun v4 =>K v4 σ) σ) σ) σ) σ) σ) σ))) σ) σ) σ
def s_c5 : Spec := fun args K σ => match args with
  | [a0, a1] => w_c5 a0 a1 K σ
  | _ => False
noncomputable def cx_c5 : Cx := { P := Tryz.prog, T := [(116, .none, s_dk), (71, .none, s_b6), (54, .write, s_bv), (63, .none, s_b5), (70, .none, s_di), (56, .write, s_bx), (49, .write, s_bu)], loc := [(3, 3), (50, 3)], eqt := [], n := 64, keep := [(1000011, [], [])] }
theorem q_c5 : FnS cx_c5 Tryz.f83 (bodyOf Tryz.f83) 2 = s_c5 := by
  funext args K σ
  rcases args with _ | ⟨a0, _ | ⟨a1, _ | ⟨b, r⟩⟩⟩ <;> kernel_rfl
theorem e_c5 : Entry Tryz.prog 83 .write s_c5 :=
  entry (C := cx_c5) (TOk.cons e_dk (TOk.cons e_b6 (TOk.cons e_bv (TOk.cons e_b5 (TOk.cons e_di (TOk.cons e_bx (TOk.cons e_bu TOk.nil))))))) mixedOk Tryz.func83 (by kernel_rfl) (by kernel_rfl) (by kernel_rfl) q_c5
attribute [irreducible] w_c5_j1b w_c5_j1 w_c5 s_c5
def w_ai_j1b (K : Value → Mem → Prop) (σ : Mem) : Prop :=xF fMove [.bool false] fun v4 =>K v4 σ
def w_ai_j1 (K : Value → Mem → Prop) (ts : List Value) (ls : List (List Value)) (σ : Mem) : Prop := w_ai_j1b K σ
def w_ai (a0 a1 : Value) (K : Value → Mem → Prop) (σ : Mem) : Prop :=xC (gBox 9 [a1] []) fun c3 =>xF fMove [.bool false] fun v4 =>xJoin (w_ai_j1 K) fun J1 =>xF fMove [a0] fun v9 =>xF fNil [v9] fun v10 =>xF (fFld 2) [v10] fun v11 =>hLoad 1 false [v11] (fun v12 σ =>xF (fBin .eql .no) [v12, .int .i64 0] fun v20 =>xF fMove [v20] fun v19 =>xIf v19
 (xF fMove [a0] fun v21 =>xF fNil [v21] fun v22 =>xF (fFld 0) [v22] fun v23 =>hLoad 1 false [v23] (fun v24 σ =>s_bs [v24] (fun v25 σ =>xF (fBin .lss .no) [v25, .int .i64 0] fun v26 =>xIf v26
 (xF fMove [a0] fun v27 =>xO (gLoad 9 true [(locP 3)] c3) fun v28 =>s_aj [v27, v28, .int .i64 5] (fun v29 σ =>xF fMove [.bool true] fun v4 =>K v4 σ) σ)
 (xF fMove [a0] fun v30 =>xF fNil [v30] fun v31 =>xF (fFld 3) [v31] fun v32 =>xO (gLoad 9 true [(locP 3)] c3) fun v33 =>s_c8 [v32, v33] (fun v34 σ =>xIf v34
 (xF fMove [a0] fun v36 =>xF fNil [v36] fun v37 =>xF (fFld 3) [v37] fun v38 =>s_c7 [v38] (fun v39 σ =>xF fMove [v39] fun v35 =>xF (fExt 0) [v35] fun v40 =>xF (fExt 1) [v35] fun v41 =>xF fMove [v40] fun v5 =>xF fMove [v41] fun v6 =>xF fMove [a0] fun v42 =>xF fMove [a0] fun v43 =>xF fMove [v5] fun v44 =>xF fNil [v42] fun v45 =>xF (fFld 8) [v45] fun v46 =>hStore 1 [v46, v44] (fun _v σ =>xF fNil [v43] fun v47 =>xF (fFld 2) [v47] fun v48 =>hStore 1 [v48, .int .i64 1] (fun _v σ =>xF fMove [v6] fun v49 =>xF (fUn .not) [v49] fun v50 =>xIf v50
 (xF fMove [a0] fun v51 =>xO (gLoad 9 true [(locP 3)] c3) fun v52 =>s_aj [v51, v52, .int .i64 7] (fun v53 σ =>xF fMove [.bool true] fun v4 =>K v4 σ) σ)
 (J1 [] [] σ)) σ) σ) σ)
 (J1 [] [] σ)) σ)) σ) σ)
 (xF (fBin .eql .no) [v12, .int .i64 1] fun v55 =>xF fMove [v55] fun v54 =>xIf v54
 (xF fMove [a0] fun v56 =>xF fMove [a0] fun v57 =>xO (gLoad 9 true [(locP 3)] c3) fun v58 =>xF (fFld 0) [(locP 3)] fun v59 =>xO (gLoad 7 true [v59] c3) fun v60 =>xF fMove [a0] fun v61 =>xF fNil [v61] fun v62 =>xF (fFld 8) [v62] fun v63 =>hLoad 1 false [v63] (fun v64 σ =>s_b5 [v60, v64] (fun v65 σ =>s_bv [v58, v65] (fun v66 σ =>s_dj [v66] (fun v67 σ =>xF (fFldV 2 1 false) [v67] fun v68 =>xF fNil [v56] fun v69 =>xF (fFld 9) [v69] fun v70 =>hStore 1 [v70, v68] (fun _v σ =>xF fNil [v57] fun v71 =>xF (fFld 2) [v71] fun v72 =>hStore 1 [v72, .int .i64 2] (fun _v σ =>xF fMove [a0] fun v73 =>xF fMove [a0] fun v74 =>xF fNil [v74] fun v75 =>xF (fFld 0) [v75] fun v76 =>hLoad 1 false [v76] (fun v77 σ =>s_bs [v77] (fun v78 σ =>s_cw [v78] (fun v79 σ =>xF fNil [v73] fun v80 =>xF (fFld 10) [v80] fun v81 =>hStore 1 [v81, v79] (fun _v σ =>J1 [] [] σ) σ) σ) σ) σ) σ) σ) σ) σ) σ) σ)
 (xF (fBin .eql .no) [v12, .int .i64 2] fun v83 =>xF fMove [v83] fun v82 =>xIf v82
 (xF fMove [a0] fun v84 =>xF fNil [v84] fun v85 =>xF (fFld 10) [v85] fun v86 =>hLoad 1 false [v86] (fun v87 σ =>xO (gLoad 9 true [(locP 3)] c3) fun v88 =>s_cy [v87, v88] (fun v89 σ =>xIf v89
 (xF fMove [a0] fun v91 =>xF fNil [v91] fun v92 =>xF (fFld 10) [v92] fun v93 =>hLoad 1 false [v93] (fun v94 σ =>s_cx [v94] (fun v95 σ =>xF fMove [v95] fun v90 =>xF (fExt 0) [v90] fun v96 =>xF (fExt 1) [v90] fun v97 =>xC (gStore 2 [(locP 7), v96] [.int .i64 0, .int .i64 0]) fun c7 =>xF fMove [v97] fun v8 =>xF fMove [a0] fun v98 =>xF fMove [a0] fun v99 =>xO (gLoad 2 true [(locP 7)] c7) fun v100 =>xF fNil [v98] fun v101 =>xF (fFld 11) [v101] fun v102 =>hStore 2 [v102, v100] (fun _v σ =>xF fNil [v99] fun v103 =>xF (fFld 2) [v103] fun v104 =>hStore 1 [v104, .int .i64 3] (fun _v σ =>xF fMove [v8] fun v105 =>xF (fUn .not) [v105] fun v106 =>xIf v106
 (xF fMove [a0] fun v107 =>xO (gLoad 9 true [(locP 3)] c3) fun v108 =>s_aj [v107, v108, .int .i64 6] (fun v109 σ =>xF fMove [a0] fun v110 =>xF fMove [a0] fun v111 =>xF fMove [a0] fun v112 =>xF fNil [v112] fun v113 =>xF (fFld 8) [v113] fun v114 =>hLoad 1 false [v114] (fun v115 σ =>s_c6 [v115] (fun v116 σ =>xF fNil [v110] fun v117 =>xF (fFld 13) [v117] fun v118 =>hStore 1 [v118, v116] (fun _v σ =>xF fNil [v111] fun v119 =>xF (fFld 2) [v119] fun v120 =>hStore 1 [v120, .int .i64 7] (fun _v σ =>J1 [] [] σ) σ) σ) σ) σ) σ)
 (J1 [] [] σ)) σ) σ) σ) σ)
 (J1 [] [] σ)) σ) σ)
 (xF (fBin .eql .no) [v12, .int .i64 3] fun v122 =>xF fMove [v122] fun v121 =>xIf v121
 (xO (gLoad 9 true [(locP 3)] c3) fun v123 =>xF (fFld 0) [(locP 3)] fun v124 =>xO (gLoad 7 true [v124] c3) fun v125 =>xF fMove [a0] fun v126 =>xF fNil [v126] fun v127 =>xF (fFld 11) [v127] fun v128 =>xF (fFld 1) [v128] fun v129 =>hLoad 1 false [v129] (fun v130 σ =>s_br [v125, v130] (fun v131 σ =>xF (fBin .add .no) [v131, .int .i64 1] fun v132 =>xF fMove [a0] fun v133 =>xF fNil [v133] fun v134 =>xF (fFld 0) [v134] fun v135 =>hLoad 1 false [v135] (fun v136 σ =>s_bs [v136] (fun v137 σ =>s_b4 [v137] (fun v138 σ =>s_bt [v123, v132, v138] (fun v139 σ =>xF fMove [a0] fun v140 =>xF fNil [v140] fun v141 =>xF (fFld 2) [v141] fun v142 =>hStore 1 [v142, .int .i64 4] (fun _v σ =>J1 [] [] σ) σ) σ) σ) σ) σ) σ) σ)
 (xF (fBin .eql .no) [v12, .int .i64 4] fun v144 =>xF fMove [v144] fun v143 =>xIf v143
 (xO (gLoad 9 true [(locP 3)] c3) fun v145 =>xF fMove [a0] fun v146 =>xF fNil [v146] fun v147 =>xF (fFld 11) [v147] fun v148 =>xF (fFld 0) [v148] fun v149 =>hLoad 1 false [v149] (fun v150 σ =>xF fMove [a0] fun v151 =>s_ak [v151, .int .i64 1] (fun v152 σ =>s_bx [v145, v150, v152] (fun v153 σ =>xF fMove [a0] fun v154 =>xF fNil [v154] fun v155 =>xF (fFld 2) [v155] fun v156 =>hStore 1 [v156, .int .i64 5] (fun _v σ =>J1 [] [] σ) σ) σ) σ) σ)
 (xF (fBin .eql .no) [v12, .int .i64 5] fun v158 =>xF fMove [v158] fun v157 =>xIf v157
 (xO (gLoad 9 true [(locP 3)] c3) fun v159 =>xF (fFld 0) [(locP 3)] fun v160 =>xO (gLoad 7 true [v160] c3) fun v161 =>xF fMove [a0] fun v162 =>xF fNil [v162] fun v163 =>xF (fFld 8) [v163] fun v164 =>hLoad 1 false [v164] (fun v165 σ =>s_b5 [v161, v165] (fun v166 σ =>xF fMove [a0] fun v167 =>xF fNil [v167] fun v168 =>xF (fFld 11) [v168] fun v169 =>xF (fFld 0) [v169] fun v170 =>hLoad 1 false [v170] (fun v171 σ =>xF fMove [a0] fun v172 =>xF fNil [v172] fun v173 =>xF (fFld 9) [v173] fun v174 =>hLoad 1 false [v174] (fun v175 σ =>xF (fBuild [(0, 1), (1, 1), (2, 1), (3, 1)] [.int .i64 0, .int .i64 0, .int .i64 0, .int .i64 0] [0, 1, 2]) [.int .i64 1, v171, v175] fun v176 =>s_dh [v176] (fun v177 σ =>s_bx [v159, v166, v177] (fun v178 σ =>xF fMove [a0] fun v179 =>xF fMove [a0] fun v180 =>xF fNil [v180] fun v181 =>xF (fFld 8) [v181] fun v182 =>hLoad 1 false [v182] (fun v183 σ =>xF fMove [a0] fun v184 =>xF fNil [v184] fun v185 =>xF (fFld 9) [v185] fun v186 =>hLoad 1 false [v186] (fun v187 σ =>xF (fBuild [(0, 1), (1, 1)] [.int .i64 0, .int .i64 0] [0, 1]) [v183, v187] fun v188 =>s_df [v188] (fun v189 σ =>xO (gLoad 9 true [(locP 3)] c3) fun v190 =>s_bw [v190] (fun v191 σ =>xF (fBuild [(0, 1), (1, 1), (2, 1), (3, 1)] [.int .i64 0, .int .u64 0, .int .i64 0, .int .i64 0] [1, 3]) [v189, v191] fun v192 =>xF fNil [v179] fun v193 =>xF (fFld 14) [v193] fun v194 =>hStore 4 [v194, v192] (fun _v σ =>xF fMove [a0] fun v195 =>xF fNil [v195] fun v196 =>xF (fFld 2) [v196] fun v197 =>hStore 1 [v197, .int .i64 6] (fun _v σ =>J1 [] [] σ) σ) σ) σ) σ) σ) σ) σ) σ) σ) σ) σ) σ)
 (xF (fBin .eql .no) [v12, .int .i64 6] fun v199 =>xF fMove [v199] fun v198 =>xIf v198
 (xO (gLoad 9 true [(locP 3)] c3) fun v200 =>xF fMove [a0] fun v201 =>xF fNil [v201] fun v202 =>xF (fFld 11) [v202] fun v203 =>xF (fFld 0) [v203] fun v204 =>hLoad 1 false [v204] (fun v205 σ =>xF fMove [a0] fun v206 =>s_ak [v206, .int .i64 2] (fun v207 σ =>s_bx [v200, v205, v207] (fun v208 σ =>xF fMove [.bool true] fun v4 =>K v4 σ) σ) σ) σ)
 (xF fMove [a0] fun v13 =>xF fNil [v13] fun v14 =>xF (fFld 13) [v14] fun v15 =>hLoad 1 false [v15] (fun v16 σ =>xO (gLoad 9 true [(locP 3)] c3) fun v17 =>s_c5 [v16, v17] (fun v18 σ =>xF fMove [v18] fun v4 =>K v4 σ) σ) σ)))))))) σ
def s_ai : Spec := fun args K σ => match args with
  | [a0, a1] => w_ai a0 a1 K σ
  | _ => False
noncomputable def cx_ai : Cx := { P := Tryz.prog, T := [(36, .write, s_bs), (72, .write, s_aj), (73, .write, s_c8), (74, .read, s_c7), (63, .none, s_b5), (54, .write, s_bv), (62, .none, s_dj), (75, .write, s_cw), (76, .write, s_cy), (77, .read, s_cx), (78, .write, s_c6), (23, .none, s_br), (80, .none, s_b4), (79, .write, s_bt), (81, .read, s_ak), (56, .write, s_bx), (69, .none, s_dh), (82, .none, s_df), (18, .read, s_bw), (83, .write, s_c5)], loc := [(3, 3), (7, 7), (59, 3), (124, 3), (160, 3)], eqt := [], n := 209, keep := [(1000037, [], [])] }
theorem q_ai : FnS cx_ai Tryz.f42 (bodyOf Tryz.f42) 2 = s_ai := by
  funext args K σ
  rcases args with _ | ⟨a0, _ | ⟨a1, _ | ⟨b, r⟩⟩⟩ <;> kernel_rfl
theorem e_ai : Entry Tryz.prog 42 .write s_ai :=
  entry (C := cx_ai) (TOk.cons e_bs (TOk.cons e_aj (TOk.cons e_c8 (TOk.cons e_c7 (TOk.cons e_b5 (TOk.cons e_bv (TOk.cons e_dj (TOk.cons e_cw (TOk.cons e_cy (TOk.cons e_cx (TOk.cons e_c6 (TOk.cons e_br (TOk.cons e_b4 (TOk.cons e_bt (TOk.cons e_ak (TOk.cons e_bx (TOk.cons e_dh (TOk.cons e_df (TOk.cons e_bw (TOk.cons e_c5 TOk.nil)))))))))))))))))))) mixedOk Tryz.func42 (by kernel_rfl) (by kernel_rfl) (by kernel_rfl) q_ai
attribute [irreducible] w_ai_j1b w_ai_j1 w_ai s_ai
def w_ah (a0 : Value) (K : Value → Mem → Prop) (σ : Mem) : Prop :=xF fMove [a0] fun v3 =>xF (fBin .eql .ptr) [v3, .pointer none] fun v4 =>xIf v4
 (xF (fBuild [(0, 1), (1, 1), (2, 1), (3, 1)] [.int .i64 0, .int .u64 0, .int .i64 0, .int .i64 0] [0]) [.int .i64 1] fun v5 =>xC (gStore 4 [(locP 2), v5] [.int .i64 0, .int .u64 0, .int .i64 0, .int .i64 0]) fun c2 =>xO (gLoad 4 true [(locP 2)] c2) fun r2 =>K r2 σ)
 (xF fMove [a0] fun v6 =>xF fNil [v6] fun v7 =>xF (fFld 14) [v7] fun v8 =>hLoad 4 true [v8] (fun v9 σ =>xC (gStore 4 [(locP 2), v9] [.int .i64 0, .int .u64 0, .int .i64 0, .int .i64 0]) fun c2 =>xO (gLoad 4 true [(locP 2)] c2) fun r2 =>K r2 σ) σ)
def s_ah : Spec := fun args K σ => match args with
  | [a0] => w_ah a0 K σ
  | _ => False
noncomputable def cx_ah : Cx := { P := Tryz.prog, T := [], loc := [(2, 2)], eqt := [(86, .ptr)], n := 10, keep := [] }
theorem q_ah : FnS cx_ah Tryz.f43 (bodyOf Tryz.f43) 1 = s_ah := by
  funext args K σ
  rcases args with _ | ⟨a0, _ | ⟨b, r⟩⟩ <;> kernel_rfl
theorem e_ah : Entry Tryz.prog 43 .read s_ah :=
  entry (C := cx_ah) TOk.nil mixedOk Tryz.func43 (by kernel_rfl) (by kernel_rfl) (by kernel_rfl) q_ah
attribute [irreducible] w_ah s_ah
def w_bb_j1b (K : Value → Mem → Prop) (v7 : Value) (c6 : List Value) (σ : Mem) : Prop :=xF fMove [v7] fun v19 =>s_ah [v19] (fun v20 σ =>xC (gStore 4 [(locP 6), v20] c6) fun c6 =>xO (gLoad 4 true [(locP 6)] c6) fun r6 =>K r6 σ) σ
def w_bb_j1 (K : Value → Mem → Prop) (ts : List Value) (ls : List (List Value)) (σ : Mem) : Prop := w_bb_j1b K (ts.getD 0 poison) (ls.getD 0 []) σ
def w_law08_Make_l4b (K : Value → Mem → Prop) (J1 : List Value → List (List Value) → Mem → Prop) (R1 : List Value → List (List Value) → Mem → Prop) (v7 v8 : Value) (c3 c6 : List Value) (σ : Mem) : Prop :=xF fMove [v8] fun v12 =>xF (fBin .lss .no) [v12, .int .i64 400] fun v13 =>xIf v13
 (xF fMove [v7] fun v16 =>xO (gLoad 9 true [(locP 3)] c3) fun v17 =>s_ai [v16, v17] (fun v18 σ =>xIf v18
 (J1 [v7] [c6] σ)
 (xF fMove [v8] fun v14 =>xF (fBin .add .no) [v14, .int .i64 1] fun v15 =>xF fMove [v15] fun v8 =>R1 [v7, v8] [c3, c6] σ)) σ)
 (J1 [v7] [c6] σ)
def w_law08_Make_l4 (K : Value → Mem → Prop) (J1 : List Value → List (List Value) → Mem → Prop) (R1 : List Value → List (List Value) → Mem → Prop) (ts : List Value) (ls : List (List Value)) (σ : Mem) : Prop := w_law08_Make_l4b K J1 R1 (ts.getD 0 poison) (ts.getD 1 poison) (ls.getD 0 []) (ls.getD 1 []) σ
def w_bb (a0 a1 a2 : Value) (K : Value → Mem → Prop) (σ : Mem) : Prop :=xC (gBox 9 [a0] []) fun c3 =>xF fMove [a1] fun v9 =>xF fMove [a2] fun v10 =>s_al [v9, v10] (fun v11 σ =>xF fMove [v11] fun v7 =>xJoin (w_bb_j1 K) fun J1 =>xF fMove [.int .i64 0] fun v8 =>xLoop (w_law08_Make_l4 K J1) [v7, v8] [c3, [.int .i64 0, .int .u64 0, .int .i64 0, .int .i64 0]] σ) σ
def s_bb : Spec := fun args K σ => match args with
  | [a0, a1, a2] => w_bb a0 a1 a2 K σ
  | _ => False
noncomputable def cx_bb : Cx := { P := Tryz.prog, T := [(41, .write, s_al), (42, .write, s_ai), (43, .read, s_ah)], loc := [(3, 3), (6, 6)], eqt := [], n := 21, keep := [(4, [7, 8], [3, 6]), (1000007, [7], [6])] }
theorem q_bb : FnS cx_bb Tryz.f11 (bodyOf Tryz.f11) 3 = s_bb := by
  funext args K σ
  rcases args with _ | ⟨a0, _ | ⟨a1, _ | ⟨a2, _ | ⟨b, r⟩⟩⟩⟩ <;> kernel_rfl
theorem e_bb : Entry Tryz.prog 11 .write s_bb :=
  entry (C := cx_bb) (TOk.cons e_al (TOk.cons e_ai (TOk.cons e_ah TOk.nil))) mixedOk Tryz.func11 (by kernel_rfl) (by kernel_rfl) (by kernel_rfl) q_bb
attribute [irreducible] w_bb_j1b w_bb_j1 w_law08_Make_l4b w_law08_Make_l4 w_bb s_bb
def w_a4 (a0 a1 : Value) (K : Value → Mem → Prop) (σ : Mem) : Prop :=xF fMove [.pointer none] fun v4 =>xF fMove [a0] fun v5 =>xF fMove [a1] fun v6 =>xF (fBuild [(0, 1), (1, 1), (2, 2), (4, 1), (5, 1), (6, 1), (7, 1), (8, 1), (9, 4)] [.int .u64 0, .bool false, .int .i64 0, .int .i64 0, .int .i64 0, .int .u64 0, .int .i64 0, .pointer none, .pointer none, .int .i64 0, .int .u64 0, .int .i64 0, .int .i64 0] [0, 1]) [v5, v6] fun v7 =>hBox 13 [v7] (fun v8 σ =>xF fMove [v8] fun v4 =>K v4 σ) σ
def s_a4 : Spec := fun args K σ => match args with
  | [a0, a1] => w_a4 a0 a1 K σ
  | _ => False
noncomputable def cx_a4 : Cx := { P := Tryz.prog, T := [], loc := [], eqt := [], n := 9, keep := [] }
theorem q_a4 : FnS cx_a4 Tryz.f44 (bodyOf Tryz.f44) 2 = s_a4 := by
  funext args K σ
  rcases args with _ | ⟨a0, _ | ⟨a1, _ | ⟨b, r⟩⟩⟩ <;> kernel_rfl
theorem e_a4 : Entry Tryz.prog 44 .write s_a4 :=
  entry (C := cx_a4) TOk.nil mixedOk Tryz.func44 (by kernel_rfl) (by kernel_rfl) (by kernel_rfl) q_a4
attribute [irreducible] w_a4 s_a4
def w_db_j1b (K : Value → Mem → Prop) (v0 v11 : Value) (c2 : List Value) (σ : Mem) : Prop :=xIf v11
 (xF (fBuild [(0, 1), (1, 1)] [.int .i64 0, .int .i64 0] []) [] fun v12 =>xC (gStore 2 [(locP 2), v12] c2) fun c2 =>xF fMove [.bool false] fun v3 =>xO (gLoad 2 true [(locP 2)] c2) fun r2 =>K (.tuple #[r2, v3]) σ)
 (xF fMove [v0] fun v13 =>xF (fBin .and .no) [v13, .int .u64 65535] fun v14 =>xF (fConv .i64) [v14] fun v15 =>xF fMove [v0] fun v16 =>xF (fBin .shr .no) [v16, .int .u64 16] fun v17 =>xF (fConv .i64) [v17] fun v18 =>xF (fBuild [(0, 1), (1, 1)] [.int .i64 0, .int .i64 0] [0, 1]) [v15, v18] fun v19 =>xC (gStore 2 [(locP 2), v19] c2) fun c2 =>xF fMove [.bool true] fun v3 =>xO (gLoad 2 true [(locP 2)] c2) fun r2 =>K (.tuple #[r2, v3]) σ)
def w_db_j1 (K : Value → Mem → Prop) (ts : List Value) (ls : List (List Value)) (σ : Mem) : Prop := w_db_j1b K (ts.getD 0 poison) (ts.getD 1 poison) (ls.getD 0 []) σ
def w_db (a0 : Value) (K : Value → Mem → Prop) (σ : Mem) : Prop :=if true = true then (xC (gAlloc [.int .i64 0, .int .i64 0] [] []) fun c2 =>xF fMove [.bool false] fun v3 =>xJoin (w_db_j1 K) fun J1 =>xF fMove [a0] fun v4 =>xF (fBin .shr .no) [v4, .int .u64 32] fun v5 =>xF (fBin .neq .no) [v5, .int .u64 0] fun v6 =>xF fMove [v6] fun v7 =>xIf v7
 (xF fPick [.bool true, .bool true, undef] fun v11 =>J1 [a0, v11] [c2] σ)
 (xF fMove [a0] fun v8 =>xF (fBin .shr .no) [v8, .int .u64 16] fun v9 =>xF (fBin .eql .no) [v9, .int .u64 0] fun v10 =>xF fPick [.bool false, .bool true, v10] fun v11 =>J1 [a0, v11] [c2] σ)) else False
def s_db : Spec := fun args K σ => match args with
  | [a0] => w_db a0 K σ
  | _ => False
noncomputable def cx_db : Cx := { P := Tryz.prog, T := [], loc := [(2, 2)], eqt := [], n := 20, keep := [(1000003, [0, 11], [2])] }
theorem q_db : FnS cx_db Tryz.f61 (bodyOf Tryz.f61) 1 = s_db := by
  funext args K σ
  rcases args with _ | ⟨a0, _ | ⟨b, r⟩⟩ <;> kernel_rfl
theorem e_db : Entry Tryz.prog 61 .none s_db :=
  entry (C := cx_db) TOk.nil mixedOk Tryz.func61 (by kernel_rfl) (by kernel_rfl) (by kernel_rfl) q_db
attribute [irreducible] w_db_j1b w_db_j1 w_db s_db
def w_a0 (a0 a1 : Value) (K : Value → Mem → Prop) (σ : Mem) : Prop :=xC (gBox 9 [a1] []) fun c3 =>xF fMove [.bool false] fun v4 =>xF fMove [a0] fun v5 =>xO (gLoad 9 true [(locP 3)] c3) fun v6 =>s_bw [v6] (fun v7 σ =>xF (fBuild [(0, 1), (1, 1), (2, 1), (3, 1)] [.int .i64 0, .int .u64 0, .int .i64 0, .int .i64 0] [0, 3]) [.int .i64 3, v7] fun v8 =>xF fNil [v5] fun v9 =>xF (fFld 9) [v9] fun v10 =>hStore 4 [v10, v8] (fun _v σ =>xF fMove [.bool true] fun v4 =>K v4 σ) σ) σ
def s_a0 : Spec := fun args K σ => match args with
  | [a0, a1] => w_a0 a0 a1 K σ
  | _ => False
noncomputable def cx_a0 : Cx := { P := Tryz.prog, T := [(18, .read, s_bw)], loc := [(3, 3)], eqt := [], n := 11, keep := [] }
theorem q_a0 : FnS cx_a0 Tryz.f85 (bodyOf Tryz.f85) 2 = s_a0 := by
  funext args K σ
  rcases args with _ | ⟨a0, _ | ⟨a1, _ | ⟨b, r⟩⟩⟩ <;> kernel_rfl
theorem e_a0 : Entry Tryz.prog 85 .write s_a0 :=
  entry (C := cx_a0) (TOk.cons e_bw TOk.nil) mixedOk Tryz.func85 (by kernel_rfl) (by kernel_rfl) (by kernel_rfl) q_a0
attribute [irreducible] w_a0 s_a0
def w_a3 (a0 a1 : Value) (K : Value → Mem → Prop) (σ : Mem) : Prop :=xC (gBox 4 [a0] []) fun c2 =>xC (gBox 2 [a1] []) fun c3 =>xF fMove [.bool false] fun v4 =>xF (fFld 0) [(locP 2)] fun v5 =>xO (gLoad 1 false [v5] c2) fun v6 =>xF (fBin .eql .no) [v6, .int .i64 1] fun v7 =>xF fMove [v7] fun v8 =>xIf v8
 (xF fPick [.bool true, .bool true, undef] fun v12 =>xF fMove [v12] fun v13 =>xIf v13
 (xF fPick [.bool true, .bool true, undef] fun v17 =>xF fMove [v17] fun v18 =>xIf v18
 (xF (fFld 2) [(locP 2)] fun v19 =>xO (gLoad 1 false [v19] c2) fun v20 =>xF (fFld 1) [(locP 3)] fun v21 =>xO (gLoad 1 false [v21] c3) fun v22 =>xF (fBin .eql .no) [v20, v22] fun v23 =>xF fPick [.bool true, v23, .bool false] fun v24 =>xF fMove [v24] fun v4 =>K v4 σ)
 (xF fPick [.bool false, undef, .bool false] fun v24 =>xF fMove [v24] fun v4 =>K v4 σ))
 (xF (fFld 0) [(locP 2)] fun v14 =>xO (gLoad 1 false [v14] c2) fun v15 =>xF (fBin .eql .no) [v15, .int .i64 4] fun v16 =>xF fPick [.bool false, .bool true, v16] fun v17 =>xF fMove [v17] fun v18 =>xIf v18
 (xF (fFld 2) [(locP 2)] fun v19 =>xO (gLoad 1 false [v19] c2) fun v20 =>xF (fFld 1) [(locP 3)] fun v21 =>xO (gLoad 1 false [v21] c3) fun v22 =>xF (fBin .eql .no) [v20, v22] fun v23 =>xF fPick [.bool true, v23, .bool false] fun v24 =>xF fMove [v24] fun v4 =>K v4 σ)
 (xF fPick [.bool false, undef, .bool false] fun v24 =>xF fMove [v24] fun v4 =>K v4 σ)))
 (xF (fFld 0) [(locP 2)] fun v9 =>xO (gLoad 1 false [v9] c2) fun v10 =>xF (fBin .eql .no) [v10, .int .i64 2] fun v11 =>xF fPick [.bool false, .bool true, v11] fun v12 =>xF fMove [v12] fun v13 =>xIf v13
 (xF fPick [.bool true, .bool true, undef] fun v17 =>xF fMove [v17] fun v18 =>xIf v18
 (xF (fFld 2) [(locP 2)] fun v19 =>xO (gLoad 1 false [v19] c2) fun v20 =>xF (fFld 1) [(locP 3)] fun v21 =>xO (gLoad 1 false [v21] c3) fun v22 =>xF (fBin .eql .no) [v20, v22] fun v23 =>xF fPick [.bool true, v23, .bool false] fun v24 =>xF fMove [v24] fun v4 =>K v4 σ)
 (xF fPick [.bool false, undef, .bool false] fun v24 =>xF fMove [v24] fun v4 =>K v4 σ))
 (xF (fFld 0) [(locP 2)] fun v14 =>xO (gLoad 1 false [v14] c2) fun v15 =>xF (fBin .eql .no) [v15, .int .i64 4] fun v16 =>xF fPick [.bool false, .bool true, v16] fun v17 =>xF fMove [v17] fun v18 =>xIf v18
 (xF (fFld 2) [(locP 2)] fun v19 =>xO (gLoad 1 false [v19] c2) fun v20 =>xF (fFld 1) [(locP 3)] fun v21 =>xO (gLoad 1 false [v21] c3) fun v22 =>xF (fBin .eql .no) [v20, v22] fun v23 =>xF fPick [.bool true, v23, .bool false] fun v24 =>xF fMove [v24] fun v4 =>K v4 σ)
 (xF fPick [.bool false, undef, .bool false] fun v24 =>xF fMove [v24] fun v4 =>K v4 σ)))
def s_a3 : Spec := fun args K σ => match args with
  | [a0, a1] => w_a3 a0 a1 K σ
  | _ => False
noncomputable def cx_a3 : Cx := { P := Tryz.prog, T := [], loc := [(2, 2), (3, 3), (5, 2), (9, 2), (14, 2), (19, 2), (21, 3)], eqt := [], n := 25, keep := [] }
theorem q_a3 : FnS cx_a3 Tryz.f112 (bodyOf Tryz.f112) 2 = s_a3 := by
  funext args K σ
  rcases args with _ | ⟨a0, _ | ⟨a1, _ | ⟨b, r⟩⟩⟩ <;> kernel_rfl
theorem e_a3 : Entry Tryz.prog 112 .none s_a3 :=
  entry (C := cx_a3) TOk.nil mixedOk Tryz.func112 (by kernel_rfl) (by kernel_rfl) (by kernel_rfl) q_a3
attribute [irreducible] w_a3 s_a3
def w_a1_j1b (K : Value → Mem → Prop) (v0 v28 : Value) (c3 c5 : List Value) (σ : Mem) : Prop :=xIf v28
 (xF fMove [v0] fun v29 =>xO (gLoad 9 true [(locP 3)] c3) fun v30 =>s_a0 [v29, v30] (fun v31 σ =>xF fMove [v31] fun v4 =>K v4 σ) σ)
 (xF fMove [v0] fun v32 =>xO (gLoad 9 true [(locP 3)] c3) fun v33 =>xF (fFld 0) [(locP 3)] fun v34 =>xO (gLoad 7 true [v34] c3) fun v35 =>xF (fFld 0) [(locP 5)] fun v36 =>xO (gLoad 1 false [v36] c5) fun v37 =>s_b5 [v35, v37] (fun v38 σ =>s_bv [v33, v38] (fun v39 σ =>xF fNil [v32] fun v40 =>xF (fFld 5) [v40] fun v41 =>hStore 1 [v41, v39] (fun _v σ =>xF fMove [v0] fun v42 =>xF fNil [v42] fun v43 =>xF (fFld 5) [v43] fun v44 =>hLoad 1 false [v44] (fun v45 σ =>s_dj [v45] (fun v46 σ =>xO (gLoad 2 true [(locP 5)] c5) fun v47 =>s_a3 [v46, v47] (fun v48 σ =>xF (fUn .not) [v48] fun v49 =>xIf v49
 (xF fMove [v0] fun v50 =>xO (gLoad 9 true [(locP 3)] c3) fun v51 =>s_a0 [v50, v51] (fun v52 σ =>xF fMove [v52] fun v4 =>K v4 σ) σ)
 (xF fMove [v0] fun v53 =>xF fNil [v53] fun v54 =>xF (fFld 4) [v54] fun v55 =>hStore 1 [v55, .int .i64 1] (fun _v σ =>xF fMove [.bool false] fun v4 =>K v4 σ) σ)) σ) σ) σ) σ) σ) σ)
def w_a1_j1 (K : Value → Mem → Prop) (ts : List Value) (ls : List (List Value)) (σ : Mem) : Prop := w_a1_j1b K (ts.getD 0 poison) (ts.getD 1 poison) (ls.getD 0 []) (ls.getD 1 []) σ
def w_a1 (a0 a1 : Value) (K : Value → Mem → Prop) (σ : Mem) : Prop :=xC (gBox 9 [a1] []) fun c3 =>xF fMove [.bool false] fun v4 =>xF fMove [a0] fun v8 =>xF fNil [v8] fun v9 =>xF (fFld 0) [v9] fun v10 =>hLoad 1 false [v10] (fun v11 σ =>s_db [v11] (fun v12 σ =>xF fMove [v12] fun v7 =>xF (fExt 0) [v7] fun v13 =>xF (fExt 1) [v7] fun v14 =>xC (gStore 2 [(locP 5), v13] [.int .i64 0, .int .i64 0]) fun c5 =>xF fMove [v14] fun v6 =>xF fMove [a0] fun v15 =>xO (gLoad 2 true [(locP 5)] c5) fun v16 =>xF fNil [v15] fun v17 =>xF (fFld 2) [v17] fun v18 =>hStore 2 [v18, v16] (fun _v σ =>xJoin (w_a1_j1 K) fun J1 =>xF fMove [v6] fun v19 =>xF (fUn .not) [v19] fun v20 =>xF fMove [v20] fun v21 =>xIf v21
 (xF fPick [.bool true, .bool true, undef] fun v28 =>J1 [a0, v28] [c3, c5] σ)
 (xF (fFld 0) [(locP 5)] fun v22 =>xO (gLoad 1 false [v22] c5) fun v23 =>xF (fFld 0) [(locP 3)] fun v24 =>xF (fFld 1) [v24] fun v25 =>xO (gLoad 1 false [v25] c3) fun v26 =>xF (fBin .geq .no) [v23, v26] fun v27 =>xF fPick [.bool false, .bool true, v27] fun v28 =>J1 [a0, v28] [c3, c5] σ)) σ) σ) σ
def s_a1 : Spec := fun args K σ => match args with
  | [a0, a1] => w_a1 a0 a1 K σ
  | _ => False
noncomputable def cx_a1 : Cx := { P := Tryz.prog, T := [(61, .none, s_db), (85, .write, s_a0), (63, .none, s_b5), (54, .write, s_bv), (62, .none, s_dj), (112, .none, s_a3)], loc := [(3, 3), (5, 5), (22, 5), (24, 3), (25, 3), (34, 3), (36, 5)], eqt := [], n := 56, keep := [(1000005, [0, 28], [3, 5])] }
theorem q_a1 : FnS cx_a1 Tryz.f84 (bodyOf Tryz.f84) 2 = s_a1 := by
  funext args K σ
  rcases args with _ | ⟨a0, _ | ⟨a1, _ | ⟨b, r⟩⟩⟩ <;> kernel_rfl
theorem e_a1 : Entry Tryz.prog 84 .write s_a1 :=
  entry (C := cx_a1) (TOk.cons e_db (TOk.cons e_a0 (TOk.cons e_b5 (TOk.cons e_bv (TOk.cons e_dj (TOk.cons e_a3 TOk.nil)))))) mixedOk Tryz.func84 (by kernel_rfl) (by kernel_rfl) (by kernel_rfl) q_a1
attribute [irreducible] w_a1_j1b w_a1_j1 w_a1 s_a1
def w_dc (a0 : Value) (K : Value → Mem → Prop) (σ : Mem) : Prop :=if true = true then (xC (gAlloc [.int .i64 0, .int .i64 0, .int .i64 0, .int .i64 0, .bool false] [] []) fun c2 =>xF fMove [a0] fun v3 =>xF (fBin .and .no) [v3, .int .u64 3] fun v4 =>xF (fConv .i64) [v4] fun v5 =>xF fMove [a0] fun v6 =>xF (fBin .shr .no) [v6, .int .u64 2] fun v7 =>xF (fBin .and .no) [v7, .int .u64 65535] fun v8 =>xF (fConv .i64) [v8] fun v9 =>xF fMove [a0] fun v10 =>xF (fBin .shr .no) [v10, .int .u64 18] fun v11 =>xF (fBin .and .no) [v11, .int .u64 65535] fun v12 =>xF (fConv .i64) [v12] fun v13 =>xF fMove [a0] fun v14 =>xF (fBin .shr .no) [v14, .int .u64 34] fun v15 =>xF (fBin .and .no) [v15, .int .u64 65535] fun v16 =>xF (fConv .i64) [v16] fun v17 =>xF fMove [a0] fun v18 =>xF (fBin .shr .no) [v18, .int .u64 50] fun v19 =>xF (fBin .and .no) [v19, .int .u64 1] fun v20 =>xF (fBin .eql .no) [v20, .int .u64 1] fun v21 =>xF (fBuild [(0, 1), (1, 1), (2, 1), (3, 1), (4, 1)] [.int .i64 0, .int .i64 0, .int .i64 0, .int .i64 0, .bool false] [0, 1, 2, 3, 4]) [v5, v9, v13, v17, v21] fun v22 =>xC (gStore 5 [(locP 2), v22] c2) fun c2 =>xO (gLoad 5 true [(locP 2)] c2) fun r2 =>K r2 σ) else False
def s_dc : Spec := fun args K σ => match args with
  | [a0] => w_dc a0 K σ
  | _ => False
noncomputable def cx_dc : Cx := { P := Tryz.prog, T := [], loc := [(2, 2)], eqt := [], n := 23, keep := [] }
theorem q_dc : FnS cx_dc Tryz.f31 (bodyOf Tryz.f31) 1 = s_dc := by
  funext args K σ
  rcases args with _ | ⟨a0, _ | ⟨b, r⟩⟩ <;> kernel_rfl
theorem e_dc : Entry Tryz.prog 31 .none s_dc :=
  entry (C := cx_dc) TOk.nil mixedOk Tryz.func31 (by kernel_rfl) (by kernel_rfl) (by kernel_rfl) q_dc
attribute [irreducible] w_dc s_dc
def w_a5 (a0 a1 a2 : Value) (K : Value → Mem → Prop) (σ : Mem) : Prop :=xF fMove [.pointer none] fun v6 =>xF fMove [a0] fun v7 =>xF fMove [a1] fun v8 =>xF fMove [a2] fun v9 =>xF (fBuild [(0, 1), (1, 1), (2, 1), (3, 1), (4, 1), (5, 1), (6, 1)] [.int .i64 0, .int .u64 0, .int .i64 0, .int .i64 0, .int .u64 0, .bool false, .bool false] [0, 1, 2]) [v7, v8, v9] fun v10 =>hBox 7 [v10] (fun v11 σ =>xF fMove [v11] fun v6 =>K v6 σ) σ
def s_a5 : Spec := fun args K σ => match args with
  | [a0, a1, a2] => w_a5 a0 a1 a2 K σ
  | _ => False
noncomputable def cx_a5 : Cx := { P := Tryz.prog, T := [], loc := [], eqt := [], n := 12, keep := [] }
theorem q_a5 : FnS cx_a5 Tryz.f86 (bodyOf Tryz.f86) 3 = s_a5 := by
  funext args K σ
  rcases args with _ | ⟨a0, _ | ⟨a1, _ | ⟨a2, _ | ⟨b, r⟩⟩⟩⟩ <;> kernel_rfl
theorem e_a5 : Entry Tryz.prog 86 .write s_a5 :=
  entry (C := cx_a5) TOk.nil mixedOk Tryz.func86 (by kernel_rfl) (by kernel_rfl) (by kernel_rfl) q_a5
attribute [irreducible] w_a5 s_a5
def w_az (a0 a1 : Value) (K : Value → Mem → Prop) (σ : Mem) : Prop :=xC (gBox 9 [a1] []) fun c3 =>xF fMove [a0] fun v6 =>xF fNil [v6] fun v7 =>xF (fFld 5) [v7] fun v8 =>hLoad 1 false [v8] (fun v9 σ =>s_dj [v9] (fun v10 σ =>xC (gStore 4 [(locP 4), v10] [.int .i64 0, .int .i64 0, .int .i64 0, .int .i64 0]) fun c4 =>xF (fFld 3) [(locP 4)] fun v11 =>xO (gLoad 1 false [v11] c4) fun v12 =>xF (fBin .add .no) [v12, .int .i64 1] fun v13 =>xF (fFld 0) [(locP 4)] fun v14 =>xC (gStore 1 [v14, .int .i64 4] c4) fun c4 =>xF (fFld 3) [(locP 4)] fun v15 =>xC (gStore 1 [v15, v13] c4) fun c4 =>xF fMove [a0] fun v16 =>xF fNil [v16] fun v17 =>xF (fFld 4) [v17] fun v18 =>hStore 1 [v18, .int .i64 0] (fun _v σ =>xO (gLoad 4 true [(locP 4)] c4) fun v19 =>s_dh [v19] (fun v20 σ =>xF fMove [v20] fun v5 =>xO (gLoad 9 true [(locP 3)] c3) fun v21 =>xF (fFld 0) [(locP 3)] fun v22 =>xO (gLoad 7 true [v22] c3) fun v23 =>xF fMove [a0] fun v24 =>xF fNil [v24] fun v25 =>xF (fFld 2) [v25] fun v26 =>xF (fFld 0) [v26] fun v27 =>hLoad 1 false [v27] (fun v28 σ =>s_b5 [v23, v28] (fun v29 σ =>xF fMove [a0] fun v30 =>xF fNil [v30] fun v31 =>xF (fFld 5) [v31] fun v32 =>hLoad 1 false [v32] (fun v33 σ =>xF fMove [v5] fun v34 =>s_bu [v21, v29, v33, v34] (fun v35 σ =>xIf v35
 (xF fMove [a0] fun v36 =>xF fMove [a0] fun v37 =>xF fMove [a0] fun v38 =>xF fNil [v38] fun v39 =>xF (fFld 2) [v39] fun v40 =>xF (fFld 0) [v40] fun v41 =>hLoad 1 false [v41] (fun v42 σ =>xF fMove [v5] fun v43 =>xF fMove [a0] fun v44 =>xF fNil [v44] fun v45 =>xF (fFld 6) [v45] fun v46 =>hLoad 1 false [v46] (fun v47 σ =>s_a5 [v42, v43, v47] (fun v48 σ =>xF fNil [v36] fun v49 =>xF (fFld 7) [v49] fun v50 =>hStore 1 [v50, v48] (fun _v σ =>xF fNil [v37] fun v51 =>xF (fFld 4) [v51] fun v52 =>hStore 1 [v52, .int .i64 3] (fun _v σ =>K (.tuple #[]) σ) σ) σ) σ) σ) σ)
 (K (.tuple #[]) σ)) σ) σ) σ) σ) σ) σ) σ) σ
def s_az : Spec := fun args K σ => match args with
  | [a0, a1] => w_az a0 a1 K σ
  | _ => False
noncomputable def cx_az : Cx := { P := Tryz.prog, T := [(62, .none, s_dj), (69, .none, s_dh), (63, .none, s_b5), (49, .write, s_bu), (86, .write, s_a5)], loc := [(3, 3), (4, 4), (11, 4), (14, 4), (15, 4), (22, 3)], eqt := [], n := 53, keep := [] }
theorem q_az : FnS cx_az Tryz.f87 (bodyOf Tryz.f87) 2 = s_az := by
  funext args K σ
  rcases args with _ | ⟨a0, _ | ⟨a1, _ | ⟨b, r⟩⟩⟩ <;> kernel_rfl
theorem e_az : Entry Tryz.prog 87 .write s_az :=
  entry (C := cx_az) (TOk.cons e_dj (TOk.cons e_dh (TOk.cons e_b5 (TOk.cons e_bu (TOk.cons e_a5 TOk.nil))))) mixedOk Tryz.func87 (by kernel_rfl) (by kernel_rfl) (by kernel_rfl) q_az
attribute [irreducible] w_az s_az
def w_c9_j1b (K : Value → Mem → Prop) (c2 c3 : List Value) (σ : Mem) : Prop :=xO (gLoad 3 true [(locP 3)] c3) fun v18 =>xC (gStore 3 [(locP 2), v18] c2) fun c2 =>xO (gLoad 3 true [(locP 2)] c2) fun r2 =>K r2 σ
def w_c9_j1 (K : Value → Mem → Prop) (ts : List Value) (ls : List (List Value)) (σ : Mem) : Prop := w_c9_j1b K (ls.getD 0 []) (ls.getD 1 []) σ
def w_c9 (a0 : Value) (K : Value → Mem → Prop) (σ : Mem) : Prop :=if true = true then (xC (gAlloc [.int .i64 0, .bool false, .int .i64 0] [] []) fun c2 =>xF fMove [a0] fun v4 =>xF (fBin .and .no) [v4, .int .u64 1099511627775] fun v5 =>xF (fConv .i64) [v5] fun v6 =>xF fMove [a0] fun v7 =>xF (fBin .shr .no) [v7, .int .u64 63] fun v8 =>xF (fBin .eql .no) [v8, .int .u64 1] fun v9 =>xF (fBuild [(0, 1), (1, 1), (2, 1)] [.int .i64 0, .bool false, .int .i64 0] [0, 1]) [v6, v9] fun v10 =>if true = true then (xC (gAlloc [.int .i64 0, .bool false, .int .i64 0] [] []) fun c3 =>xC (gStore 3 [(locP 3), v10] c3) fun c3 =>xJoin (w_c9_j1 K) fun J1 =>xF (fFld 1) [(locP 3)] fun v11 =>xO (gLoad 1 false [v11] c3) fun v12 =>xIf v12
 (xF fMove [a0] fun v13 =>xF (fBin .shr .no) [v13, .int .u64 40] fun v14 =>xF (fBin .and .no) [v14, .int .u64 4194303] fun v15 =>xF (fConv .i64) [v15] fun v16 =>xF (fFld 2) [(locP 3)] fun v17 =>xC (gStore 1 [v17, v16] c3) fun c3 =>J1 [] [c2, c3] σ)
 (J1 [] [c2, c3] σ)) else False) else False
def s_c9 : Spec := fun args K σ => match args with
  | [a0] => w_c9 a0 K σ
  | _ => False
noncomputable def cx_c9 : Cx := { P := Tryz.prog, T := [], loc := [(2, 2), (3, 3), (11, 3), (17, 3)], eqt := [], n := 19, keep := [(1000005, [], [2, 3])] }
theorem q_c9 : FnS cx_c9 Tryz.f101 (bodyOf Tryz.f101) 1 = s_c9 := by
  funext args K σ
  rcases args with _ | ⟨a0, _ | ⟨b, r⟩⟩ <;> kernel_rfl
theorem e_c9 : Entry Tryz.prog 101 .none s_c9 :=
  entry (C := cx_c9) TOk.nil mixedOk Tryz.func101 (by kernel_rfl) (by kernel_rfl) (by kernel_rfl) q_c9
attribute [irreducible] w_c9_j1b w_c9_j1 w_c9 s_c9
def w_dd_j1b (K : Value → Mem → Prop) (v3 : Value) (σ : Mem) : Prop :=xF fMove [v3] fun v16 =>xF fMove [v16] fun v2 =>K v2 σ
def w_dd_j1 (K : Value → Mem → Prop) (ts : List Value) (ls : List (List Value)) (σ : Mem) : Prop := w_dd_j1b K (ts.getD 0 poison) σ
def w_dd (a0 : Value) (K : Value → Mem → Prop) (σ : Mem) : Prop :=xC (gBox 3 [a0] []) fun c1 =>xF fMove [.int .u64 0] fun v2 =>xF (fFld 0) [(locP 1)] fun v4 =>xO (gLoad 1 false [v4] c1) fun v5 =>s_dl [v5, .int .i64 1099511627775] (fun v6 σ =>xF fMove [v6] fun v3 =>xJoin (w_dd_j1 K) fun J1 =>xF (fFld 1) [(locP 1)] fun v7 =>xO (gLoad 1 false [v7] c1) fun v8 =>xIf v8
 (xF fMove [v3] fun v9 =>xF (fFld 2) [(locP 1)] fun v10 =>xO (gLoad 1 false [v10] c1) fun v11 =>s_dl [v11, .int .i64 4194303] (fun v12 σ =>xF (fBin .shl .no) [v12, .int .u64 40] fun v13 =>xF (fBin .or .no) [.int .u64 9223372036854775808, v13] fun v14 =>xF (fBin .or .no) [v9, v14] fun v15 =>xF fMove [v15] fun v3 =>J1 [v3] [] σ) σ)
 (J1 [v3] [] σ)) σ
def s_dd : Spec := fun args K σ => match args with
  | [a0] => w_dd a0 K σ
  | _ => False
noncomputable def cx_dd : Cx := { P := Tryz.prog, T := [(66, .none, s_dl)], loc := [(1, 1), (4, 1), (7, 1), (10, 1)], eqt := [], n := 17, keep := [(1000005, [3], [])] }
theorem q_dd : FnS cx_dd Tryz.f102 (bodyOf Tryz.f102) 1 = s_dd := by
  funext args K σ
  rcases args with _ | ⟨a0, _ | ⟨b, r⟩⟩ <;> kernel_rfl
theorem e_dd : Entry Tryz.prog 102 .none s_dd :=
  entry (C := cx_dd) (TOk.cons e_dl TOk.nil) mixedOk Tryz.func102 (by kernel_rfl) (by kernel_rfl) (by kernel_rfl) q_dd
attribute [irreducible] w_dd_j1b w_dd_j1 w_dd s_dd
def w_a2_j1b (K : Value → Mem → Prop) (σ : Mem) : Prop :=xF fMove [.bool false] fun v4 =>K v4 σ
def w_a2_j1 (K : Value → Mem → Prop) (ts : List Value) (ls : List (List Value)) (σ : Mem) : Prop := w_a2_j1b K σ
def w_a2_j2b (K : Value → Mem → Prop) (J1 : List Value → List (List Value) → Mem → Prop) (v0 : Value) (c3 c8 : List Value) (σ : Mem) : Prop :=xF fMove [v0] fun v73 =>xO (gLoad 9 true [(locP 3)] c3) fun v74 =>xF (fFld 0) [(locP 3)] fun v75 =>xO (gLoad 7 true [v75] c3) fun v76 =>xF fMove [v0] fun v77 =>xF fNil [v77] fun v78 =>xF (fFld 0) [v78] fun v79 =>hLoad 1 false [v79] (fun v80 σ =>s_b5 [v76, v80] (fun v81 σ =>xF fMove [v0] fun v82 =>xF fNil [v82] fun v83 =>xF (fFld 1) [v83] fun v84 =>hLoad 1 false [v84] (fun v85 σ =>xO (gLoad 4 true [(locP 8)] c8) fun v86 =>s_dh [v86] (fun v87 σ =>s_bu [v74, v81, v85, v87] (fun v88 σ =>xF fNil [v73] fun v89 =>xF (fFld 6) [v89] fun v90 =>hStore 1 [v90, v88] (fun _v σ =>xF fMove [.bool true] fun v4 =>K v4 σ) σ) σ) σ) σ) σ) σ
def w_a2_j2 (K : Value → Mem → Prop) (J1 : List Value → List (List Value) → Mem → Prop) (ts : List Value) (ls : List (List Value)) (σ : Mem) : Prop := w_a2_j2b K J1 (ts.getD 0 poison) (ls.getD 0 []) (ls.getD 1 []) σ
def w_a2_j3b (K : Value → Mem → Prop) (J1 : List Value → List (List Value) → Mem → Prop) (v0 : Value) (σ : Mem) : Prop :=xF fMove [v0] fun v121 =>xF fNil [v121] fun v122 =>xF (fFld 5) [v122] fun v123 =>hLoad 1 false [v123] (fun v124 σ =>xF (fUn .not) [v124] fun v125 =>xIf v125
 (xF fMove [v0] fun v126 =>xF fNil [v126] fun v127 =>xF (fFld 3) [v127] fun v128 =>hLoad 1 false [v128] (fun v129 σ =>xF (fBin .add .no) [v129, .int .i64 1] fun v130 =>xF fNil [v126] fun v131 =>xF (fFld 3) [v131] fun v132 =>hStore 1 [v132, v130] (fun _v σ =>J1 [] [] σ) σ) σ)
 (J1 [] [] σ)) σ
def w_a2_j3 (K : Value → Mem → Prop) (J1 : List Value → List (List Value) → Mem → Prop) (ts : List Value) (ls : List (List Value)) (σ : Mem) : Prop := w_a2_j3b K J1 (ts.getD 0 poison) σ
def w_a2 (a0 a1 : Value) (K : Value → Mem → Prop) (σ : Mem) : Prop :=xC (gBox 9 [a1] []) fun c3 =>xF fMove [.bool false] fun v4 =>xF fMove [a0] fun v9 =>xF fNil [v9] fun v10 =>xF (fFld 1) [v10] fun v11 =>hLoad 1 false [v11] (fun v12 σ =>s_dj [v12] (fun v13 σ =>xC (gStore 4 [(locP 5), v13] [.int .i64 0, .int .i64 0, .int .i64 0, .int .i64 0]) fun c5 =>xF (fFld 1) [(locP 5)] fun v14 =>xO (gLoad 1 false [v14] c5) fun v15 =>xF (fBin .add .no) [v15, .int .i64 1] fun v16 =>xF fMove [a0] fun v17 =>xF fNil [v17] fun v18 =>xF (fFld 3) [v18] fun v19 =>hLoad 1 false [v19] (fun v20 σ =>xF (fBin .add .no) [v16, v20] fun v21 =>xF fMove [v21] fun v6 =>xF fMove [a0] fun v22 =>xF fNil [v22] fun v23 =>xF (fFld 4) [v23] fun v24 =>hLoad 1 false [v24] (fun v25 σ =>s_c9 [v25] (fun v26 σ =>xC (gStore 3 [(locP 7), v26] [.int .i64 0, .bool false, .int .i64 0]) fun c7 =>xJoin (w_a2_j1 K) fun J1 =>xF fMove [a0] fun v51 =>xF fNil [v51] fun v52 =>xF (fFld 3) [v52] fun v53 =>hLoad 1 false [v53] (fun v54 σ =>xF fMove [a0] fun v55 =>xF fNil [v55] fun v56 =>xF (fFld 2) [v56] fun v57 =>hLoad 1 false [v57] (fun v58 σ =>xF (fBin .geq .no) [v54, v58] fun v59 =>xF fMove [v59] fun v50 =>xIf v50
 (xF (fFld 2) [(locP 5)] fun v60 =>xO (gLoad 1 false [v60] c5) fun v61 =>xF (fBin .add .no) [v61, .int .i64 1] fun v62 =>xF (fBuild [(0, 1), (1, 1), (2, 1), (3, 1)] [.int .i64 0, .int .i64 0, .int .i64 0, .int .i64 0] [0, 2]) [.int .i64 0, v62] fun v63 =>xC (gStore 4 [(locP 8), v63] [.int .i64 0, .int .i64 0, .int .i64 0, .int .i64 0]) fun c8 =>xJoin (w_a2_j2 K J1) fun J2 =>xF (fFld 2) [(locP 5)] fun v64 =>xO (gLoad 1 false [v64] c5) fun v65 =>xF (fFld 0) [(locP 3)] fun v66 =>xF (fFld 4) [v66] fun v67 =>xO (gLoad 1 false [v67] c3) fun v68 =>xF (fBin .geq .no) [v65, v68] fun v69 =>xIf v69
 (xF (fFld 2) [(locP 5)] fun v70 =>xO (gLoad 1 false [v70] c5) fun v71 =>xF (fBuild [(0, 1), (1, 1), (2, 1), (3, 1)] [.int .i64 0, .int .i64 0, .int .i64 0, .int .i64 0] [0, 2]) [.int .i64 3, v71] fun v72 =>xC (gStore 4 [(locP 8), v72] c8) fun c8 =>J2 [a0] [c3, c8] σ)
 (J2 [a0] [c3, c8] σ))
 (xF fMove [a0] fun v92 =>xF fNil [v92] fun v93 =>xF (fFld 5) [v93] fun v94 =>hLoad 1 false [v94] (fun v95 σ =>xF (fUn .not) [v95] fun v96 =>xF fMove [v96] fun v91 =>xIf v91
 (xF fMove [a0] fun v97 =>xO (gLoad 9 true [(locP 3)] c3) fun v98 =>xF fMove [v6] fun v99 =>s_bv [v98, v99] (fun v100 σ =>xF fNil [v97] fun v101 =>xF (fFld 4) [v101] fun v102 =>hStore 1 [v102, v100] (fun _v σ =>xF fMove [a0] fun v103 =>xF fNil [v103] fun v104 =>xF (fFld 4) [v104] fun v105 =>hLoad 1 false [v105] (fun v106 σ =>s_c9 [v106] (fun v107 σ =>xC (gStore 3 [(locP 7), v107] c7) fun c7 =>xJoin (w_a2_j3 K J1) fun J3 =>xF fMove [a0] fun v108 =>xF (fFld 1) [(locP 7)] fun v109 =>xO (gLoad 1 false [v109] c7) fun v110 =>xF (fUn .not) [v110] fun v111 =>xF fMove [v111] fun v112 =>xIf v112
 (xF fPick [.bool true, .bool true, undef] fun v118 =>xF fNil [v108] fun v119 =>xF (fFld 5) [v119] fun v120 =>hStore 1 [v120, v118] (fun _v σ =>J3 [a0] [] σ) σ)
 (xF (fFld 2) [(locP 7)] fun v113 =>xO (gLoad 1 false [v113] c7) fun v114 =>xF (fFld 3) [(locP 5)] fun v115 =>xO (gLoad 1 false [v115] c5) fun v116 =>xF (fBin .neq .no) [v114, v116] fun v117 =>xF fPick [.bool false, .bool true, v117] fun v118 =>xF fNil [v108] fun v119 =>xF (fFld 5) [v119] fun v120 =>hStore 1 [v120, v118] (fun _v σ =>J3 [a0] [] σ) σ)) σ) σ) σ) σ)
 (xF fMove [a0] fun v27 =>xF fNil [v27] fun v28 =>xF (fFld 5) [v28] fun v29 =>hStore 1 [v29, .bool false] (fun _v σ =>xO (gLoad 9 true [(locP 3)] c3) fun v30 =>xF fMove [v6] fun v31 =>xF fMove [a0] fun v32 =>xF fNil [v32] fun v33 =>xF (fFld 4) [v33] fun v34 =>hLoad 1 false [v34] (fun v35 σ =>xF (fFld 0) [(locP 7)] fun v36 =>xO (gLoad 1 false [v36] c7) fun v37 =>xF (fFld 3) [(locP 5)] fun v38 =>xO (gLoad 1 false [v38] c5) fun v39 =>xF (fBuild [(0, 1), (1, 1), (2, 1)] [.int .i64 0, .bool false, .int .i64 0] [0, 1, 2]) [v37, .bool true, v39] fun v40 =>s_dd [v40] (fun v41 σ =>s_bu [v30, v31, v35, v41] (fun v42 σ =>xIf v42
 (xF fMove [a0] fun v43 =>xF fNil [v43] fun v44 =>xF (fFld 3) [v44] fun v45 =>hLoad 1 false [v45] (fun v46 σ =>xF (fBin .add .no) [v46, .int .i64 1] fun v47 =>xF fNil [v43] fun v48 =>xF (fFld 3) [v48] fun v49 =>hStore 1 [v49, v47] (fun _v σ =>J1 [] [] σ) σ) σ)
 (J1 [] [] σ)) σ) σ) σ) σ)) σ)) σ) σ) σ) σ) σ) σ) σ
def s_a2 : Spec := fun args K σ => match args with
  | [a0, a1] => w_a2 a0 a1 K σ
  | _ => False
noncomputable def cx_a2 : Cx := { P := Tryz.prog, T := [(62, .none, s_dj), (101, .none, s_c9), (63, .none, s_b5), (69, .none, s_dh), (49, .write, s_bu), (54, .write, s_bv), (102, .none, s_dd)], loc := [(3, 3), (5, 5), (7, 7), (8, 8), (14, 5), (36, 7), (38, 5), (60, 5), (64, 5), (66, 3), (67, 3), (70, 5), (75, 3), (109, 7), (113, 7), (115, 5)], eqt := [], n := 133, keep := [(1000012, [0], [3, 8]), (1000018, [0], []), (1000020, [], [])] }
theorem q_a2 : FnS cx_a2 Tryz.f88 (bodyOf Tryz.f88) 2 = s_a2 := by
  funext args K σ
  rcases args with _ | ⟨a0, _ | ⟨a1, _ | ⟨b, r⟩⟩⟩ <;> kernel_rfl
theorem e_a2 : Entry Tryz.prog 88 .write s_a2 :=
  entry (C := cx_a2) (TOk.cons e_dj (TOk.cons e_c9 (TOk.cons e_b5 (TOk.cons e_dh (TOk.cons e_bu (TOk.cons e_bv (TOk.cons e_dd TOk.nil))))))) mixedOk Tryz.func88 (by kernel_rfl) (by kernel_rfl) (by kernel_rfl) q_a2
attribute [irreducible] w_a2_j1b w_a2_j1 w_a2_j2b w_a2_j2 w_a2_j3b w_a2_j3 w_a2 s_a2
def w_cg_j1b (K : Value → Mem → Prop) (v0 v1 v19 : Value) (σ : Mem) : Prop :=xIf v19
 (xF fMove [.int .i64 0] fun v4 =>K v4 σ)
 (xF fMove [v0] fun v20 =>xF fNil [v20] fun v21 =>xF (fFld 1) [v21] fun v22 =>hLoad 1 false [v22] (fun v23 σ =>xF fMove [v1] fun v24 =>xF (fIxS 1) [v23, v24] fun v25 =>hLoad 1 false [v25] (fun v26 σ =>xF fMove [v26] fun v4 =>K v4 σ) σ) σ)
def w_cg_j1 (K : Value → Mem → Prop) (ts : List Value) (ls : List (List Value)) (σ : Mem) : Prop := w_cg_j1b K (ts.getD 0 poison) (ts.getD 1 poison) (ts.getD 2 poison) σ
def w_cg (a0 a1 : Value) (K : Value → Mem → Prop) (σ : Mem) : Prop :=xF fMove [.int .i64 0] fun v4 =>xJoin (w_cg_j1 K) fun J1 =>xF fMove [a0] fun v5 =>xF (fBin .eql .ptr) [v5, .pointer none] fun v6 =>xF fMove [v6] fun v7 =>xIf v7
 (xF fPick [.bool true, .bool true, undef] fun v10 =>xF fMove [v10] fun v11 =>xIf v11
 (xF fPick [.bool true, .bool true, undef] fun v19 =>J1 [a0, a1, v19] [] σ)
 (xF fMove [a1] fun v12 =>xF fMove [a0] fun v13 =>xF fNil [v13] fun v14 =>xF (fFld 0) [v14] fun v15 =>hLoad 1 false [v15] (fun v16 σ =>xF fLen [v16] fun v17 =>xF (fBin .geq .no) [v12, v17] fun v18 =>xF fPick [.bool false, .bool true, v18] fun v19 =>J1 [a0, a1, v19] [] σ) σ))
 (xF fMove [a1] fun v8 =>xF (fBin .lss .no) [v8, .int .i64 0] fun v9 =>xF fPick [.bool false, .bool true, v9] fun v10 =>xF fMove [v10] fun v11 =>xIf v11
 (xF fPick [.bool true, .bool true, undef] fun v19 =>J1 [a0, a1, v19] [] σ)
 (xF fMove [a1] fun v12 =>xF fMove [a0] fun v13 =>xF fNil [v13] fun v14 =>xF (fFld 0) [v14] fun v15 =>hLoad 1 false [v15] (fun v16 σ =>xF fLen [v16] fun v17 =>xF (fBin .geq .no) [v12, v17] fun v18 =>xF fPick [.bool false, .bool true, v18] fun v19 =>J1 [a0, a1, v19] [] σ) σ))
def s_cg : Spec := fun args K σ => match args with
  | [a0, a1] => w_cg a0 a1 K σ
  | _ => False
noncomputable def cx_cg : Cx := { P := Tryz.prog, T := [], loc := [], eqt := [(25, .ptr)], n := 27, keep := [(1000003, [0, 1, 19], [])] }
theorem q_cg : FnS cx_cg Tryz.f89 (bodyOf Tryz.f89) 2 = s_cg := by
  funext args K σ
  rcases args with _ | ⟨a0, _ | ⟨a1, _ | ⟨b, r⟩⟩⟩ <;> kernel_rfl
theorem e_cg : Entry Tryz.prog 89 .read s_cg :=
  entry (C := cx_cg) TOk.nil mixedOk Tryz.func89 (by kernel_rfl) (by kernel_rfl) (by kernel_rfl) q_cg
attribute [irreducible] w_cg_j1b w_cg_j1 w_cg s_cg
def w_b1_j1b (K : Value → Mem → Prop) (v1 v5 v16 : Value) (c2 : List Value) (σ : Mem) : Prop :=xIf v16
 (xF fMove [(.int .i64 (-1))] fun v4 =>K v4 σ)
 (xF fMove [v1] fun v17 =>xF fMove [v5] fun v18 =>xF (fBin .sub .no) [v17, v18] fun v19 =>xF (fFld 3) [(locP 2)] fun v20 =>xO (gLoad 1 false [v20] c2) fun v21 =>xF (fBin .quo .no) [v19, v21] fun v22 =>xF fMove [v22] fun v4 =>K v4 σ)
def w_b1_j1 (K : Value → Mem → Prop) (ts : List Value) (ls : List (List Value)) (σ : Mem) : Prop := w_b1_j1b K (ts.getD 0 poison) (ts.getD 1 poison) (ts.getD 2 poison) (ls.getD 0 []) σ
def w_b1 (a0 a1 : Value) (K : Value → Mem → Prop) (σ : Mem) : Prop :=xC (gBox 7 [a0] []) fun c2 =>xF fMove [.int .i64 0] fun v4 =>xO (gLoad 7 true [(locP 2)] c2) fun v6 =>s_bp [v6, .int .i64 0] (fun v7 σ =>xF fMove [v7] fun v5 =>xJoin (w_b1_j1 K) fun J1 =>xF fMove [a1] fun v8 =>xF fMove [v5] fun v9 =>xF (fBin .lss .no) [v8, v9] fun v10 =>xF fMove [v10] fun v11 =>xIf v11
 (xF fPick [.bool true, .bool true, undef] fun v16 =>J1 [a1, v5, v16] [c2] σ)
 (xF fMove [a1] fun v12 =>xO (gLoad 7 true [(locP 2)] c2) fun v13 =>s_b0 [v13] (fun v14 σ =>xF (fBin .geq .no) [v12, v14] fun v15 =>xF fPick [.bool false, .bool true, v15] fun v16 =>J1 [a1, v5, v16] [c2] σ) σ)) σ
def s_b1 : Spec := fun args K σ => match args with
  | [a0, a1] => w_b1 a0 a1 K σ
  | _ => False
noncomputable def cx_b1 : Cx := { P := Tryz.prog, T := [(24, .none, s_bp), (58, .none, s_b0)], loc := [(2, 2), (20, 2)], eqt := [], n := 23, keep := [(1000004, [1, 5, 16], [2])] }
theorem q_b1 : FnS cx_b1 Tryz.f21 (bodyOf Tryz.f21) 2 = s_b1 := by
  funext args K σ
  rcases args with _ | ⟨a0, _ | ⟨a1, _ | ⟨b, r⟩⟩⟩ <;> kernel_rfl
theorem e_b1 : Entry Tryz.prog 21 .none s_b1 :=
  entry (C := cx_b1) (TOk.cons e_bp (TOk.cons e_b0 TOk.nil)) mixedOk Tryz.func21 (by kernel_rfl) (by kernel_rfl) (by kernel_rfl) q_b1
attribute [irreducible] w_b1_j1b w_b1_j1 w_b1 s_b1
def w_ay_j1b (K : Value → Mem → Prop) (σ : Mem) : Prop :=xF fMove [.bool false] fun v4 =>K v4 σ
def w_ay_j1 (K : Value → Mem → Prop) (ts : List Value) (ls : List (List Value)) (σ : Mem) : Prop := w_ay_j1b K σ
def w_ay (a0 a1 : Value) (K : Value → Mem → Prop) (σ : Mem) : Prop :=xC (gBox 9 [a1] []) fun c3 =>xF fMove [.bool false] fun v4 =>xF (fFld 0) [(locP 3)] fun v8 =>xO (gLoad 7 true [v8] c3) fun v9 =>xF fMove [a0] fun v10 =>xF fNil [v10] fun v11 =>xF (fFld 2) [v11] fun v12 =>xF (fFld 0) [v12] fun v13 =>hLoad 1 false [v13] (fun v14 σ =>s_b5 [v9, v14] (fun v15 σ =>xF fMove [v15] fun v5 =>xJoin (w_ay_j1 K) fun J1 =>xF fMove [a0] fun v16 =>xF fNil [v16] fun v17 =>xF (fFld 4) [v17] fun v18 =>hLoad 1 false [v18] (fun v19 σ =>xF (fBin .eql .no) [v19, .int .i64 0] fun v27 =>xF fMove [v27] fun v26 =>xIf v26
 (xF fMove [a0] fun v28 =>xO (gLoad 9 true [(locP 3)] c3) fun v29 =>s_a1 [v28, v29] (fun v30 σ =>xF fMove [v30] fun v4 =>K v4 σ) σ)
 (xF (fBin .eql .no) [v19, .int .i64 1] fun v32 =>xF fMove [v32] fun v31 =>xIf v31
 (xO (gLoad 9 true [(locP 3)] c3) fun v33 =>xF fMove [a0] fun v34 =>xF fNil [v34] fun v35 =>xF (fFld 5) [v35] fun v36 =>hLoad 1 false [v36] (fun v37 σ =>s_dj [v37] (fun v38 σ =>xF (fFldV 1 1 false) [v38] fun v39 =>s_bv [v33, v39] (fun v40 σ =>s_dc [v40] (fun v41 σ =>xC (gStore 5 [(locP 6), v41] [.int .i64 0, .int .i64 0, .int .i64 0, .int .i64 0, .bool false]) fun c6 =>xF (fFld 4) [(locP 6)] fun v42 =>xO (gLoad 1 false [v42] c6) fun v43 =>xF fMove [a0] fun v44 =>xF fNil [v44] fun v45 =>xF (fFld 1) [v45] fun v46 =>hLoad 1 false [v46] (fun v47 σ =>xF (fBin .neq .bool) [v43, v47] fun v48 =>xIf v48
 (xF fMove [a0] fun v49 =>xO (gLoad 9 true [(locP 3)] c3) fun v50 =>s_a0 [v49, v50] (fun v51 σ =>xF fMove [v51] fun v4 =>K v4 σ) σ)
 (xF fMove [a0] fun v52 =>xF fMove [a0] fun v53 =>xF (fFld 1) [(locP 6)] fun v54 =>xO (gLoad 1 false [v54] c6) fun v55 =>xF fNil [v52] fun v56 =>xF (fFld 6) [v56] fun v57 =>hStore 1 [v57, v55] (fun _v σ =>xF fNil [v53] fun v58 =>xF (fFld 4) [v58] fun v59 =>hStore 1 [v59, .int .i64 2] (fun _v σ =>xF fMove [a0] fun v60 =>xF fNil [v60] fun v61 =>xF (fFld 5) [v61] fun v62 =>hLoad 1 false [v62] (fun v63 σ =>s_dj [v63] (fun v64 σ =>xF (fFldV 0 1 false) [v64] fun v65 =>xF (fBin .eql .no) [v65, .int .i64 4] fun v66 =>xIf v66
 (xF fMove [a0] fun v67 =>xF fMove [a0] fun v68 =>xF fMove [a0] fun v69 =>xF fNil [v69] fun v70 =>xF (fFld 2) [v70] fun v71 =>xF (fFld 0) [v71] fun v72 =>hLoad 1 false [v72] (fun v73 σ =>xF fMove [a0] fun v74 =>xF fNil [v74] fun v75 =>xF (fFld 5) [v75] fun v76 =>hLoad 1 false [v76] (fun v77 σ =>xF fMove [a0] fun v78 =>xF fNil [v78] fun v79 =>xF (fFld 6) [v79] fun v80 =>hLoad 1 false [v80] (fun v81 σ =>s_a5 [v73, v77, v81] (fun v82 σ =>xF fNil [v67] fun v83 =>xF (fFld 7) [v83] fun v84 =>hStore 1 [v84, v82] (fun _v σ =>xF fNil [v68] fun v85 =>xF (fFld 4) [v85] fun v86 =>hStore 1 [v86, .int .i64 4] (fun _v σ =>J1 [] [] σ) σ) σ) σ) σ) σ) σ)
 (J1 [] [] σ)) σ) σ) σ) σ)) σ) σ) σ) σ) σ)
 (xF (fBin .eql .no) [v19, .int .i64 2] fun v88 =>xF fMove [v88] fun v87 =>xIf v87
 (xF fMove [a0] fun v89 =>xO (gLoad 9 true [(locP 3)] c3) fun v90 =>s_az [v89, v90] (fun v91 σ =>J1 [] [] σ) σ)
 (xF (fBin .eql .no) [v19, .int .i64 3] fun v93 =>xF fMove [v93] fun v92 =>xIf v92
 (xF fMove [a0] fun v94 =>xF fNil [v94] fun v95 =>xF (fFld 7) [v95] fun v96 =>hLoad 1 false [v96] (fun v97 σ =>xO (gLoad 9 true [(locP 3)] c3) fun v98 =>s_a2 [v97, v98] (fun v99 σ =>xIf v99
 (xF fMove [a0] fun v100 =>xF fMove [a0] fun v101 =>xF (fFld 7) [(locP 3)] fun v102 =>xO (gLoad 1 false [v102] c3) fun v103 =>xF fMove [v5] fun v104 =>s_cg [v103, v104] (fun v105 σ =>xF (fBuild [(0, 1), (1, 1), (2, 1), (3, 1)] [.int .i64 0, .int .u64 0, .int .i64 0, .int .i64 0] [3]) [v105] fun v106 =>xF fNil [v100] fun v107 =>xF (fFld 9) [v107] fun v108 =>hStore 4 [v108, v106] (fun _v σ =>xF fNil [v101] fun v109 =>xF (fFld 4) [v109] fun v110 =>hStore 1 [v110, .int .i64 5] (fun _v σ =>J1 [] [] σ) σ) σ) σ)
 (J1 [] [] σ)) σ) σ)
 (xF (fBin .eql .no) [v19, .int .i64 4] fun v112 =>xF fMove [v112] fun v111 =>xIf v111
 (xF fMove [a0] fun v113 =>xF fNil [v113] fun v114 =>xF (fFld 7) [v114] fun v115 =>hLoad 1 false [v115] (fun v116 σ =>xO (gLoad 9 true [(locP 3)] c3) fun v117 =>s_a2 [v116, v117] (fun v118 σ =>xIf v118
 (xF fMove [a0] fun v119 =>xF fNil [v119] fun v120 =>xF (fFld 4) [v120] fun v121 =>hStore 1 [v121, .int .i64 0] (fun _v σ =>J1 [] [] σ) σ)
 (J1 [] [] σ)) σ) σ)
 (xF (fBin .eql .no) [v19, .int .i64 5] fun v123 =>xF fMove [v123] fun v122 =>xIf v122
 (xF (fFld 0) [(locP 3)] fun v124 =>xO (gLoad 7 true [v124] c3) fun v125 =>xF fMove [a0] fun v126 =>xF fNil [v126] fun v127 =>xF (fFld 5) [v127] fun v128 =>hLoad 1 false [v128] (fun v129 σ =>s_dj [v129] (fun v130 σ =>xF (fFldV 1 1 false) [v130] fun v131 =>s_b1 [v125, v131] (fun v132 σ =>xF fMove [v132] fun v7 =>xO (gLoad 9 true [(locP 3)] c3) fun v133 =>xF (fFld 0) [(locP 3)] fun v134 =>xO (gLoad 7 true [v134] c3) fun v135 =>xF fMove [v7] fun v136 =>s_br [v135, v136] (fun v137 σ =>xF (fBin .add .no) [v137, .int .i64 1] fun v138 =>xF fMove [a0] fun v139 =>xF fNil [v139] fun v140 =>xF (fFld 6) [v140] fun v141 =>hLoad 1 false [v141] (fun v142 σ =>s_bs [v142] (fun v143 σ =>s_b4 [v143] (fun v144 σ =>xF (fUn .neg) [v144] fun v145 =>s_bt [v133, v138, v145] (fun v146 σ =>xF fMove [a0] fun v147 =>xF fMove [a0] fun v148 =>xF fMove [a0] fun v149 =>xF fNil [v149] fun v150 =>xF (fFld 2) [v150] fun v151 =>xF (fFld 0) [v151] fun v152 =>hLoad 1 false [v152] (fun v153 σ =>s_c6 [v153] (fun v154 σ =>xF fNil [v147] fun v155 =>xF (fFld 8) [v155] fun v156 =>hStore 1 [v156, v154] (fun _v σ =>xF fNil [v148] fun v157 =>xF (fFld 4) [v157] fun v158 =>hStore 1 [v158, .int .i64 6] (fun _v σ =>xF fMove [a0] fun v159 =>xF fNil [v159] fun v160 =>xF (fFld 2) [v160] fun v161 =>xF (fFld 1) [v161] fun v162 =>hLoad 1 false [v162] (fun v163 σ =>xF (fFld 0) [(locP 3)] fun v164 =>xF (fFld 4) [v164] fun v165 =>xO (gLoad 1 false [v165] c3) fun v166 =>xF (fBin .geq .no) [v163, v166] fun v167 =>xF fMove [v167] fun v4 =>K v4 σ) σ) σ) σ) σ) σ) σ) σ) σ) σ) σ) σ) σ) σ)
 (xF fMove [a0] fun v20 =>xF fNil [v20] fun v21 =>xF (fFld 8) [v21] fun v22 =>hLoad 1 false [v22] (fun v23 σ =>xO (gLoad 9 true [(locP 3)] c3) fun v24 =>s_c5 [v23, v24] (fun v25 σ =>xF fMove [v25] fun v4 =>K v4 σ) σ) σ))))))) σ) σ) σ
def s_ay : Spec := fun args K σ => match args with
  | [a0, a1] => w_ay a0 a1 K σ
  | _ => False
noncomputable def cx_ay : Cx := { P := Tryz.prog, T := [(63, .none, s_b5), (84, .write, s_a1), (62, .none, s_dj), (54, .write, s_bv), (31, .none, s_dc), (85, .write, s_a0), (86, .write, s_a5), (87, .write, s_az), (88, .write, s_a2), (89, .read, s_cg), (21, .none, s_b1), (23, .none, s_br), (36, .write, s_bs), (80, .none, s_b4), (79, .write, s_bt), (78, .write, s_c6), (83, .write, s_c5)], loc := [(3, 3), (6, 6), (8, 3), (42, 6), (54, 6), (102, 3), (124, 3), (134, 3), (164, 3), (165, 3)], eqt := [(4, .bool)], n := 168, keep := [(1000027, [], [])] }
theorem q_ay : FnS cx_ay Tryz.f45 (bodyOf Tryz.f45) 2 = s_ay := by
  funext args K σ
  rcases args with _ | ⟨a0, _ | ⟨a1, _ | ⟨b, r⟩⟩⟩ <;> kernel_rfl
theorem e_ay : Entry Tryz.prog 45 .write s_ay :=
  entry (C := cx_ay) (TOk.cons e_b5 (TOk.cons e_a1 (TOk.cons e_dj (TOk.cons e_bv (TOk.cons e_dc (TOk.cons e_a0 (TOk.cons e_a5 (TOk.cons e_az (TOk.cons e_a2 (TOk.cons e_cg (TOk.cons e_b1 (TOk.cons e_br (TOk.cons e_bs (TOk.cons e_b4 (TOk.cons e_bt (TOk.cons e_c6 (TOk.cons e_c5 TOk.nil))))))))))))))))) mixedOk Tryz.func45 (by kernel_rfl) (by kernel_rfl) (by kernel_rfl) q_ay
attribute [irreducible] w_ay_j1b w_ay_j1 w_ay s_ay
def w_ax (a0 : Value) (K : Value → Mem → Prop) (σ : Mem) : Prop :=xF fMove [a0] fun v3 =>xF (fBin .eql .ptr) [v3, .pointer none] fun v4 =>xIf v4
 (xF (fBuild [(0, 1), (1, 1), (2, 1), (3, 1)] [.int .i64 0, .int .u64 0, .int .i64 0, .int .i64 0] [0]) [.int .i64 1] fun v5 =>xC (gStore 4 [(locP 2), v5] [.int .i64 0, .int .u64 0, .int .i64 0, .int .i64 0]) fun c2 =>xO (gLoad 4 true [(locP 2)] c2) fun r2 =>K r2 σ)
 (xF fMove [a0] fun v6 =>xF fNil [v6] fun v7 =>xF (fFld 9) [v7] fun v8 =>hLoad 4 true [v8] (fun v9 σ =>xC (gStore 4 [(locP 2), v9] [.int .i64 0, .int .u64 0, .int .i64 0, .int .i64 0]) fun c2 =>xO (gLoad 4 true [(locP 2)] c2) fun r2 =>K r2 σ) σ)
def s_ax : Spec := fun args K σ => match args with
  | [a0] => w_ax a0 K σ
  | _ => False
noncomputable def cx_ax : Cx := { P := Tryz.prog, T := [], loc := [(2, 2)], eqt := [(96, .ptr)], n := 10, keep := [] }
theorem q_ax : FnS cx_ax Tryz.f46 (bodyOf Tryz.f46) 1 = s_ax := by
  funext args K σ
  rcases args with _ | ⟨a0, _ | ⟨b, r⟩⟩ <;> kernel_rfl
theorem e_ax : Entry Tryz.prog 46 .read s_ax :=
  entry (C := cx_ax) TOk.nil mixedOk Tryz.func46 (by kernel_rfl) (by kernel_rfl) (by kernel_rfl) q_ax
attribute [irreducible] w_ax s_ax
def w_bc_j1b (K : Value → Mem → Prop) (v7 : Value) (c6 : List Value) (σ : Mem) : Prop :=xF fMove [v7] fun v19 =>s_ax [v19] (fun v20 σ =>xC (gStore 4 [(locP 6), v20] c6) fun c6 =>xO (gLoad 4 true [(locP 6)] c6) fun r6 =>K r6 σ) σ
def w_bc_j1 (K : Value → Mem → Prop) (ts : List Value) (ls : List (List Value)) (σ : Mem) : Prop := w_bc_j1b K (ts.getD 0 poison) (ls.getD 0 []) σ
def w_law09_Drop_l4b (K : Value → Mem → Prop) (J1 : List Value → List (List Value) → Mem → Prop) (R1 : List Value → List (List Value) → Mem → Prop) (v7 v8 : Value) (c3 c6 : List Value) (σ : Mem) : Prop :=xF fMove [v8] fun v12 =>xF (fBin .lss .no) [v12, .int .i64 200] fun v13 =>xIf v13
 (xF fMove [v7] fun v16 =>xO (gLoad 9 true [(locP 3)] c3) fun v17 =>s_ay [v16, v17] (fun v18 σ =>xIf v18
 (J1 [v7] [c6] σ)
 (xF fMove [v8] fun v14 =>xF (fBin .add .no) [v14, .int .i64 1] fun v15 =>xF fMove [v15] fun v8 =>R1 [v7, v8] [c3, c6] σ)) σ)
 (J1 [v7] [c6] σ)
def w_law09_Drop_l4 (K : Value → Mem → Prop) (J1 : List Value → List (List Value) → Mem → Prop) (R1 : List Value → List (List Value) → Mem → Prop) (ts : List Value) (ls : List (List Value)) (σ : Mem) : Prop := w_law09_Drop_l4b K J1 R1 (ts.getD 0 poison) (ts.getD 1 poison) (ls.getD 0 []) (ls.getD 1 []) σ
def w_bc (a0 a1 a2 : Value) (K : Value → Mem → Prop) (σ : Mem) : Prop :=xC (gBox 9 [a0] []) fun c3 =>xF fMove [a1] fun v9 =>xF fMove [a2] fun v10 =>s_a4 [v9, v10] (fun v11 σ =>xF fMove [v11] fun v7 =>xJoin (w_bc_j1 K) fun J1 =>xF fMove [.int .i64 0] fun v8 =>xLoop (w_law09_Drop_l4 K J1) [v7, v8] [c3, [.int .i64 0, .int .u64 0, .int .i64 0, .int .i64 0]] σ) σ
def s_bc : Spec := fun args K σ => match args with
  | [a0, a1, a2] => w_bc a0 a1 a2 K σ
  | _ => False
noncomputable def cx_bc : Cx := { P := Tryz.prog, T := [(44, .write, s_a4), (45, .write, s_ay), (46, .read, s_ax)], loc := [(3, 3), (6, 6)], eqt := [], n := 21, keep := [(4, [7, 8], [3, 6]), (1000007, [7], [6])] }
theorem q_bc : FnS cx_bc Tryz.f17 (bodyOf Tryz.f17) 3 = s_bc := by
  funext args K σ
  rcases args with _ | ⟨a0, _ | ⟨a1, _ | ⟨a2, _ | ⟨b, r⟩⟩⟩⟩ <;> kernel_rfl
theorem e_bc : Entry Tryz.prog 17 .write s_bc :=
  entry (C := cx_bc) (TOk.cons e_a4 (TOk.cons e_ay (TOk.cons e_ax TOk.nil))) mixedOk Tryz.func17 (by kernel_rfl) (by kernel_rfl) (by kernel_rfl) q_bc
attribute [irreducible] w_bc_j1b w_bc_j1 w_law09_Drop_l4b w_law09_Drop_l4 w_bc s_bc
def w_aw (K : Value → Mem → Prop) (σ : Mem) : Prop :=xF fMove [.pointer none] fun v0 =>xF (fBuild [(0, 1), (1, 1), (2, 1), (3, 1), (4, 1), (5, 1), (6, 1), (7, 1), (8, 1), (9, 5), (14, 5), (19, 1)] [.int .i64 0, (.slice none 0 0), .int .i64 0, .int .i64 0, .int .u64 0, .int .u64 0, .pointer none, .pointer none, .pointer none, .int .i64 0, .int .i64 0, .int .i64 0, .int .i64 0, .int .i64 0, .int .i64 0, .int .i64 0, .int .i64 0, .int .i64 0, .int .i64 0, .int .i64 0] []) [] fun v1 =>hBox 20 [v1] (fun v2 σ =>xF fMove [v2] fun v0 =>K v0 σ) σ
def s_aw : Spec := fun args K σ => match args with
  | [] => w_aw  K σ
  | _ => False
noncomputable def cx_aw : Cx := { P := Tryz.prog, T := [], loc := [], eqt := [], n := 3, keep := [] }
theorem q_aw : FnS cx_aw Tryz.f14 (bodyOf Tryz.f14) 0 = s_aw := by
  funext args K σ
  rcases args with _ | ⟨b, r⟩ <;> kernel_rfl
theorem e_aw : Entry Tryz.prog 14 .write s_aw :=
  entry (C := cx_aw) TOk.nil mixedOk Tryz.func14 (by kernel_rfl) (by kernel_rfl) (by kernel_rfl) q_aw
attribute [irreducible] w_aw s_aw
def w_cd_j1b (K : Value → Mem → Prop) (v0 v1 v19 : Value) (σ : Mem) : Prop :=xIf v19
 (xF fMove [.int .u64 0] fun v4 =>K v4 σ)
 (xF fMove [v0] fun v20 =>xF fNil [v20] fun v21 =>xF (fFld 0) [v21] fun v22 =>hLoad 1 false [v22] (fun v23 σ =>xF fMove [v1] fun v24 =>xF (fIxS 1) [v23, v24] fun v25 =>hLoad 1 false [v25] (fun v26 σ =>xF fMove [v26] fun v4 =>K v4 σ) σ) σ)
def w_cd_j1 (K : Value → Mem → Prop) (ts : List Value) (ls : List (List Value)) (σ : Mem) : Prop := w_cd_j1b K (ts.getD 0 poison) (ts.getD 1 poison) (ts.getD 2 poison) σ
def w_cd (a0 a1 : Value) (K : Value → Mem → Prop) (σ : Mem) : Prop :=xF fMove [.int .u64 0] fun v4 =>xJoin (w_cd_j1 K) fun J1 =>xF fMove [a0] fun v5 =>xF (fBin .eql .ptr) [v5, .pointer none] fun v6 =>xF fMove [v6] fun v7 =>xIf v7
 (xF fPick [.bool true, .bool true, undef] fun v10 =>xF fMove [v10] fun v11 =>xIf v11
 (xF fPick [.bool true, .bool true, undef] fun v19 =>J1 [a0, a1, v19] [] σ)
 (xF fMove [a1] fun v12 =>xF fMove [a0] fun v13 =>xF fNil [v13] fun v14 =>xF (fFld 0) [v14] fun v15 =>hLoad 1 false [v15] (fun v16 σ =>xF fLen [v16] fun v17 =>xF (fBin .geq .no) [v12, v17] fun v18 =>xF fPick [.bool false, .bool true, v18] fun v19 =>J1 [a0, a1, v19] [] σ) σ))
 (xF fMove [a1] fun v8 =>xF (fBin .lss .no) [v8, .int .i64 0] fun v9 =>xF fPick [.bool false, .bool true, v9] fun v10 =>xF fMove [v10] fun v11 =>xIf v11
 (xF fPick [.bool true, .bool true, undef] fun v19 =>J1 [a0, a1, v19] [] σ)
 (xF fMove [a1] fun v12 =>xF fMove [a0] fun v13 =>xF fNil [v13] fun v14 =>xF (fFld 0) [v14] fun v15 =>hLoad 1 false [v15] (fun v16 σ =>xF fLen [v16] fun v17 =>xF (fBin .geq .no) [v12, v17] fun v18 =>xF fPick [.bool false, .bool true, v18] fun v19 =>J1 [a0, a1, v19] [] σ) σ))
def s_cd : Spec := fun args K σ => match args with
  | [a0, a1] => w_cd a0 a1 K σ
  | _ => False
noncomputable def cx_cd : Cx := { P := Tryz.prog, T := [], loc := [], eqt := [(25, .ptr)], n := 27, keep := [(1000003, [0, 1, 19], [])] }
theorem q_cd : FnS cx_cd Tryz.f13 (bodyOf Tryz.f13) 2 = s_cd := by
  funext args K σ
  rcases args with _ | ⟨a0, _ | ⟨a1, _ | ⟨b, r⟩⟩⟩ <;> kernel_rfl
theorem e_cd : Entry Tryz.prog 13 .read s_cd :=
  entry (C := cx_cd) TOk.nil mixedOk Tryz.func13 (by kernel_rfl) (by kernel_rfl) (by kernel_rfl) q_cd
attribute [irreducible] w_cd_j1b w_cd_j1 w_cd s_cd
end Go.Fl
