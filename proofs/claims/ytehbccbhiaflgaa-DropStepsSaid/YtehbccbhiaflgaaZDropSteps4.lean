/- What the claim leans on, part 4: own readings of the program's functions, what they come to, laws of them. No condition. -/
import Derived.Test.YtehbccbhiaflgaaZDropSteps3
namespace Go.Fl
open Go Go.Proofs
set_option linter.unusedVariables false
set_option maxRecDepth 10000000
def w_mem_Mem_Last (a0 : Value) (K : Value → Mem → Prop) (σ : Mem) : Prop :=
xF fMove [a0] fun v3 =>
xF (fBin .eql .ptr) [v3, (.pointer none)] fun v4 =>
xIf v4
 (xF (fBuild [(0, 1), (1, 1), (2, 1)] [(.int .i64 0), (.int .i64 0), (.bool false)] []) [] fun v5 =>
xC (gStore 3 [(locP 2), v5] [(.int .i64 0), (.int .i64 0), (.bool false)]) fun c2 =>
xO (gLoad 3 true [(locP 2)] c2) fun r2 =>
K r2 σ)
 (xF fMove [a0] fun v6 =>
xF fNil [v6] fun v7 =>
xF (fFld 4) [v7] fun v8 =>
hLoad 3 true [v8] (fun v9 σ =>
xC (gStore 3 [(locP 2), v9] [(.int .i64 0), (.int .i64 0), (.bool false)]) fun c2 =>
xO (gLoad 3 true [(locP 2)] c2) fun r2 =>
K r2 σ) σ)
def s_mem_Mem_Last : Spec := fun args K σ => match args with
  | [a0] => w_mem_Mem_Last a0 K σ
  | _ => False
noncomputable def cx_mem_Mem_Last : Cx := { P := Try.prog, T := [], loc := [(2, 2)], eqt := [(25, .ptr)], n := 10, keep := [] }
theorem q_mem_Mem_Last : FnS cx_mem_Mem_Last Try.f36 (bodyOf Try.f36) 1 = s_mem_Mem_Last := by
  funext args K σ
  rcases args with _ | ⟨a0, _ | ⟨b, r⟩⟩ <;> kernel_rfl
theorem e_mem_Mem_Last : Entry Try.prog 36 .read s_mem_Mem_Last :=
  entry (C := cx_mem_Mem_Last) TOk.nil mixedOk Try.func36 (by kernel_rfl) (by kernel_rfl) (by kernel_rfl) q_mem_Mem_Last
attribute [irreducible] w_mem_Mem_Last s_mem_Mem_Last
def w_ref04_Kind_j1b (K : Value → Mem → Prop) (σ : Mem) : Prop :=
xF fMove [(.int .i64 (-1))] fun v4 =>
xF fMove [(.int .i64 0)] fun v5 =>
xF fMove [(.int .i64 0)] fun v6 =>
K (.tuple #[v4, v5, v6]) σ
def w_ref04_Kind_j1 (K : Value → Mem → Prop) (ts : List Value) (ls : List (List Value)) (σ : Mem) : Prop := w_ref04_Kind_j1b K σ
def w_ref04_Kind_l6b (K : Value → Mem → Prop) (J1 : List Value → List (List Value) → Mem → Prop) (R1 : List Value → List (List Value) → Mem → Prop) (v1 v7 v8 : Value) (c2 : List Value) (σ : Mem) : Prop :=
xF fMove [v8] fun v25 =>
xF fMove [v7] fun v26 =>
xF fLen [v26] fun v27 =>
xF (fBin .lss .no) [v25, v27] fun v28 =>
xIf v28
 (xF fMove [v1] fun v31 =>
xF fMove [v7] fun v32 =>
xF fMove [v8] fun v33 =>
xF (fIxS 1) [v32, v33] fun v34 =>
hLoad 1 false [v34] (fun v35 σ =>
xF (fBin .geq .no) [v31, v35] fun v36 =>
xIf v36
 (xF fMove [v1] fun v37 =>
xF fMove [v7] fun v38 =>
xF fMove [v8] fun v39 =>
xF (fIxS 1) [v38, v39] fun v40 =>
hLoad 1 false [v40] (fun v41 σ =>
xF (fBin .sub .no) [v37, v41] fun v42 =>
xF fMove [v42] fun v1 =>
xF fMove [v8] fun v29 =>
xF (fBin .add .no) [v29, (.int .i64 1)] fun v30 =>
xF fMove [v30] fun v8 =>
R1 [v1, v7, v8] [c2] σ) σ)
 (xF fMove [v8] fun v43 =>
xF (fBin .eql .no) [v43, (.int .i64 4)] fun v45 =>
xF fMove [v45] fun v44 =>
xIf v44
 (xF fMove [v1] fun v46 =>
xF (fBin .rem .no) [v46, (.int .i64 2)] fun v47 =>
xF (fBin .add .no) [(.int .i64 4), v47] fun v48 =>
xF fMove [v1] fun v49 =>
xF (fBin .quo .no) [v49, (.int .i64 2)] fun v50 =>
xF fMove [v48] fun v4 =>
xF fMove [v50] fun v5 =>
xF fMove [(.int .i64 0)] fun v6 =>
K (.tuple #[v4, v5, v6]) σ)
 (xF (fBin .eql .no) [v43, (.int .i64 5)] fun v52 =>
xF fMove [v52] fun v51 =>
xIf v51
 (xF fMove [v1] fun v53 =>
xF (fBin .rem .no) [v53, (.int .i64 3)] fun v54 =>
xF (fBin .add .no) [(.int .i64 6), v54] fun v55 =>
xF fMove [v1] fun v56 =>
xF (fBin .quo .no) [v56, (.int .i64 3)] fun v57 =>
xF fMove [v55] fun v4 =>
xF fMove [v57] fun v5 =>
xF fMove [(.int .i64 0)] fun v6 =>
K (.tuple #[v4, v5, v6]) σ)
 (xF (fBin .eql .no) [v43, (.int .i64 6)] fun v59 =>
xF fMove [v59] fun v58 =>
xIf v58
 (xF fMove [v1] fun v60 =>
xF (fFld 3) [(locP 2)] fun v61 =>
xO (gLoad 1 false [v61] c2) fun v62 =>
xF (fBin .quo .no) [v60, v62] fun v63 =>
xF fMove [v1] fun v64 =>
xF (fFld 3) [(locP 2)] fun v65 =>
xO (gLoad 1 false [v65] c2) fun v66 =>
xF (fBin .rem .no) [v64, v66] fun v67 =>
xF fMove [(.int .i64 9)] fun v4 =>
xF fMove [v63] fun v5 =>
xF fMove [v67] fun v6 =>
K (.tuple #[v4, v5, v6]) σ)
 (xF fMove [v8] fun v68 =>
xF fMove [v1] fun v69 =>
xF fMove [v68] fun v4 =>
xF fMove [v69] fun v5 =>
xF fMove [(.int .i64 0)] fun v6 =>
K (.tuple #[v4, v5, v6]) σ))))) σ)
 (J1 [] [] σ)
def w_ref04_Kind_l6 (K : Value → Mem → Prop) (J1 : List Value → List (List Value) → Mem → Prop) (R1 : List Value → List (List Value) → Mem → Prop) (ts : List Value) (ls : List (List Value)) (σ : Mem) : Prop := w_ref04_Kind_l6b K J1 R1 (ts.getD 0 poison) (ts.getD 1 poison) (ts.getD 2 poison) (ls.getD 0 []) σ
def w_ref04_Kind (a0 a1 : Value) (K : Value → Mem → Prop) (σ : Mem) : Prop :=
xC (gBox 7 [a0] []) fun c2 =>
xF fMove [(.int .i64 0)] fun v4 =>
xF fMove [(.int .i64 0)] fun v5 =>
xF fMove [(.int .i64 0)] fun v6 =>
xF fMove [a1] fun v9 =>
xF (fBin .lss .no) [v9, (.int .i64 0)] fun v10 =>
xIf v10
 (xF fMove [(.int .i64 (-1))] fun v4 =>
xF fMove [(.int .i64 0)] fun v5 =>
xF fMove [(.int .i64 0)] fun v6 =>
K (.tuple #[v4, v5, v6]) σ)
 (xF (fFld 0) [(locP 2)] fun v11 =>
xO (gLoad 1 false [v11] c2) fun v12 =>
xF (fFld 1) [(locP 2)] fun v13 =>
xO (gLoad 1 false [v13] c2) fun v14 =>
xF (fBin .mul .no) [(.int .i64 2), v14] fun v15 =>
xF (fFld 2) [(locP 2)] fun v16 =>
xO (gLoad 1 false [v16] c2) fun v17 =>
xF (fBin .mul .no) [(.int .i64 3), v17] fun v18 =>
xF (fFld 2) [(locP 2)] fun v19 =>
xO (gLoad 1 false [v19] c2) fun v20 =>
xF (fFld 3) [(locP 2)] fun v21 =>
xO (gLoad 1 false [v21] c2) fun v22 =>
xF (fBin .mul .no) [v20, v22] fun v23 =>
hBuildS 1 7 [(.int .i64 0)] [0, 1, 2, 3, 4, 5, 6] [(.int .i64 1), (.int .i64 1), (.int .i64 4), v12, v15, v18, v23] (fun v24 σ =>
xF fMove [v24] fun v7 =>
xJoin (w_ref04_Kind_j1 K) fun J1 =>
xF fMove [(.int .i64 0)] fun v8 =>
xLoop (w_ref04_Kind_l6 K J1) [a1, v7, v8] [c2] σ) σ)
def s_ref04_Kind : Spec := fun args K σ => match args with
  | [a0, a1] => w_ref04_Kind a0 a1 K σ
  | _ => False
noncomputable def cx_ref04_Kind : Cx := { P := Try.prog, T := [], loc := [(2, 2), (11, 2), (13, 2), (16, 2), (19, 2), (21, 2), (61, 2), (65, 2)], eqt := [], n := 70, keep := [(6, [1, 7, 8], [2]), (1000018, [], [])] }
theorem q_ref04_Kind : FnS cx_ref04_Kind Try.f35 (bodyOf Try.f35) 2 = s_ref04_Kind := by
  funext args K σ
  rcases args with _ | ⟨a0, _ | ⟨a1, _ | ⟨b, r⟩⟩⟩ <;> kernel_rfl
theorem e_ref04_Kind : Entry Try.prog 35 .write s_ref04_Kind :=
  entry (C := cx_ref04_Kind) TOk.nil mixedOk Try.func35 (by kernel_rfl) (by kernel_rfl) (by kernel_rfl) q_ref04_Kind
attribute [irreducible] w_ref04_Kind_j1b w_ref04_Kind_j1 w_ref04_Kind_l6b w_ref04_Kind_l6 w_ref04_Kind s_ref04_Kind
def w_law09_DropSteps_j2b (K : Value → Mem → Prop) (σ : Mem) : Prop :=
xF fMove [(.bool true)] fun v2 =>
K v2 σ
def w_law09_DropSteps_j2 (K : Value → Mem → Prop) (ts : List Value) (ls : List (List Value)) (σ : Mem) : Prop := w_law09_DropSteps_j2b K σ
def w_law09_DropSteps_j4b (K : Value → Mem → Prop) (J2 : List Value → List (List Value) → Mem → Prop) (R1 : List Value → List (List Value) → Mem → Prop) (v0 v5 : Value) (c3 : List Value) (σ : Mem) : Prop :=
xF fMove [v5] fun v35 =>
xF (fBin .add .no) [v35, (.int .i64 1)] fun v36 =>
xF fMove [v36] fun v5 =>
R1 [v0, v5] [c3] σ
def w_law09_DropSteps_j4 (K : Value → Mem → Prop) (J2 : List Value → List (List Value) → Mem → Prop) (R1 : List Value → List (List Value) → Mem → Prop) (ts : List Value) (ls : List (List Value)) (σ : Mem) : Prop := w_law09_DropSteps_j4b K J2 R1 (ts.getD 0 poison) (ts.getD 1 poison) (ls.getD 0 []) σ
def w_law09_DropSteps_j5b (K : Value → Mem → Prop) (J2 : List Value → List (List Value) → Mem → Prop) (R1 : List Value → List (List Value) → Mem → Prop) (J4 : List Value → List (List Value) → Mem → Prop) (R3 : List Value → List (List Value) → Mem → Prop) (v0 v5 v9 v10 v11 v13 v145 : Value) (c3 : List Value) (σ : Mem) : Prop :=
xIf v145
 (xF fMove [(.bool false)] fun v2 =>
K v2 σ)
 (xF fMove [v13] fun v146 =>
xIf v146
 (J4 [v0, v5] [c3] σ)
 (xF fMove [v11] fun v83 =>
xF (fBin .add .no) [v83, (.int .i64 1)] fun v84 =>
xF fMove [v84] fun v11 =>
R3 [v0, v5, v9, v10, v11] [c3] σ))
def w_law09_DropSteps_j5 (K : Value → Mem → Prop) (J2 : List Value → List (List Value) → Mem → Prop) (R1 : List Value → List (List Value) → Mem → Prop) (J4 : List Value → List (List Value) → Mem → Prop) (R3 : List Value → List (List Value) → Mem → Prop) (ts : List Value) (ls : List (List Value)) (σ : Mem) : Prop := w_law09_DropSteps_j5b K J2 R1 J4 R3 (ts.getD 0 poison) (ts.getD 1 poison) (ts.getD 2 poison) (ts.getD 3 poison) (ts.getD 4 poison) (ts.getD 5 poison) (ts.getD 6 poison) (ls.getD 0 []) σ
def w_law09_DropSteps_l13b (K : Value → Mem → Prop) (J2 : List Value → List (List Value) → Mem → Prop) (R1 : List Value → List (List Value) → Mem → Prop) (J4 : List Value → List (List Value) → Mem → Prop) (R3 : List Value → List (List Value) → Mem → Prop) (v0 v5 v9 v10 v11 : Value) (c3 : List Value) (σ : Mem) : Prop :=
xF fMove [v11] fun v81 =>
xF (fBin .lss .no) [v81, (.int .i64 80)] fun v82 =>
xIf v82
 (xO (gLoad 9 true [(locP 3)] c3) fun v85 =>
s_layout_Env_Now [v85] (fun v86 σ =>
xF fMove [v86] fun v12 =>
xF fMove [v10] fun v87 =>
xO (gLoad 9 true [(locP 3)] c3) fun v88 =>
s_drop_Drop_Step [v87, v88] (fun v89 σ =>
xF fMove [v89] fun v13 =>
xF (fFld 0) [(locP 3)] fun v91 =>
xO (gLoad 7 true [v91] c3) fun v92 =>
xF (fFld 7) [(locP 3)] fun v93 =>
xO (gLoad 1 false [v93] c3) fun v94 =>
s_mem_Mem_Last [v94] (fun v95 σ =>
xF (fFldV 0 1 false) [v95] fun v96 =>
s_ref04_Kind [v92, v96] (fun v97 σ =>
xF fMove [v97] fun v90 =>
xF (fExt 0) [v90] fun v98 =>
xF (fExt 1) [v90] fun v99 =>
xF (fExt 2) [v90] fun v100 =>
xF fMove [v98] fun v14 =>
xF fMove [v99] fun v15 =>
xF fMove [v100] fun v16 =>
xJoin (w_law09_DropSteps_j5 K J2 R1 J4 R3) fun J5 =>
xO (gLoad 9 true [(locP 3)] c3) fun v101 =>
s_layout_Env_Now [v101] (fun v102 σ =>
xF fMove [v12] fun v103 =>
xF (fBin .add .no) [v103, (.int .i64 1)] fun v104 =>
xF (fBin .gtr .no) [v102, v104] fun v105 =>
xF fMove [v105] fun v106 =>
xIf v106
 (xF fPick [(.bool true), (.bool true), undef] fun v145 =>
J5 [v0, v5, v9, v10, v11, v13, v145] [c3] σ)
 (xO (gLoad 9 true [(locP 3)] c3) fun v107 =>
s_layout_Env_Now [v107] (fun v108 σ =>
xF fMove [v12] fun v109 =>
xF (fBin .gtr .no) [v108, v109] fun v110 =>
xF fMove [v110] fun v111 =>
xIf v111
 (xF fMove [v14] fun v112 =>
xF (fBin .eql .no) [v112, (.int .i64 9)] fun v113 =>
xF fPick [(.bool true), v113, (.bool false)] fun v114 =>
xF fMove [v114] fun v115 =>
xIf v115
 (xF (fFld 7) [(locP 3)] fun v116 =>
xO (gLoad 1 false [v116] c3) fun v117 =>
s_mem_Mem_Last [v117] (fun v118 σ =>
xF (fFldV 2 1 false) [v118] fun v119 =>
xF fPick [(.bool true), v119, (.bool false)] fun v120 =>
xF fMove [v120] fun v121 =>
xIf v121
 (xF (fFld 7) [(locP 3)] fun v122 =>
xO (gLoad 1 false [v122] c3) fun v123 =>
s_mem_Mem_Last [v123] (fun v124 σ =>
xF (fFldV 0 1 false) [v124] fun v125 =>
xF fMove [v9] fun v126 =>
xF (fBin .leq .no) [v125, v126] fun v127 =>
xF fMove [v127] fun v128 =>
xIf v128
 (xF fPick [(.bool true), (.bool true), undef] fun v143 =>
xF fPick [(.bool true), v143, (.bool false)] fun v144 =>
xF fPick [(.bool false), (.bool true), v144] fun v145 =>
J5 [v0, v5, v9, v10, v11, v13, v145] [c3] σ)
 (xF (fFld 7) [(locP 3)] fun v129 =>
xO (gLoad 1 false [v129] c3) fun v130 =>
s_mem_Mem_Last [v130] (fun v131 σ =>
xF (fFldV 0 1 false) [v131] fun v132 =>
xF fMove [v9] fun v133 =>
xF (fBin .add .no) [v133, (.int .i64 1)] fun v134 =>
xF fMove [v0] fun v135 =>
xF fMove [v5] fun v136 =>
xF (fIxS 4) [v135, v136] fun v137 =>
xF (fFld 2) [v137] fun v138 =>
hLoad 1 false [v138] (fun v139 σ =>
xF (fBin .and .no) [v139, (.int .i64 15)] fun v140 =>
xF (fBin .add .no) [v134, v140] fun v141 =>
xF (fBin .gtr .no) [v132, v141] fun v142 =>
xF fPick [(.bool false), (.bool true), v142] fun v143 =>
xF fPick [(.bool true), v143, (.bool false)] fun v144 =>
xF fPick [(.bool false), (.bool true), v144] fun v145 =>
J5 [v0, v5, v9, v10, v11, v13, v145] [c3] σ) σ) σ)) σ)
 (xF fPick [(.bool false), undef, (.bool false)] fun v144 =>
xF fPick [(.bool false), (.bool true), v144] fun v145 =>
J5 [v0, v5, v9, v10, v11, v13, v145] [c3] σ)) σ)
 (xF fPick [(.bool false), undef, (.bool false)] fun v120 =>
xF fMove [v120] fun v121 =>
xIf v121
 (xF (fFld 7) [(locP 3)] fun v122 =>
xO (gLoad 1 false [v122] c3) fun v123 =>
s_mem_Mem_Last [v123] (fun v124 σ =>
xF (fFldV 0 1 false) [v124] fun v125 =>
xF fMove [v9] fun v126 =>
xF (fBin .leq .no) [v125, v126] fun v127 =>
xF fMove [v127] fun v128 =>
xIf v128
 (xF fPick [(.bool true), (.bool true), undef] fun v143 =>
xF fPick [(.bool true), v143, (.bool false)] fun v144 =>
xF fPick [(.bool false), (.bool true), v144] fun v145 =>
J5 [v0, v5, v9, v10, v11, v13, v145] [c3] σ)
 (xF (fFld 7) [(locP 3)] fun v129 =>
xO (gLoad 1 false [v129] c3) fun v130 =>
s_mem_Mem_Last [v130] (fun v131 σ =>
xF (fFldV 0 1 false) [v131] fun v132 =>
xF fMove [v9] fun v133 =>
xF (fBin .add .no) [v133, (.int .i64 1)] fun v134 =>
xF fMove [v0] fun v135 =>
xF fMove [v5] fun v136 =>
xF (fIxS 4) [v135, v136] fun v137 =>
xF (fFld 2) [v137] fun v138 =>
hLoad 1 false [v138] (fun v139 σ =>
xF (fBin .and .no) [v139, (.int .i64 15)] fun v140 =>
xF (fBin .add .no) [v134, v140] fun v141 =>
xF (fBin .gtr .no) [v132, v141] fun v142 =>
xF fPick [(.bool false), (.bool true), v142] fun v143 =>
xF fPick [(.bool true), v143, (.bool false)] fun v144 =>
xF fPick [(.bool false), (.bool true), v144] fun v145 =>
J5 [v0, v5, v9, v10, v11, v13, v145] [c3] σ) σ) σ)) σ)
 (xF fPick [(.bool false), undef, (.bool false)] fun v144 =>
xF fPick [(.bool false), (.bool true), v144] fun v145 =>
J5 [v0, v5, v9, v10, v11, v13, v145] [c3] σ)))
 (xF fPick [(.bool false), undef, (.bool false)] fun v114 =>
xF fMove [v114] fun v115 =>
xIf v115
 (xF (fFld 7) [(locP 3)] fun v116 =>
xO (gLoad 1 false [v116] c3) fun v117 =>
s_mem_Mem_Last [v117] (fun v118 σ =>
xF (fFldV 2 1 false) [v118] fun v119 =>
xF fPick [(.bool true), v119, (.bool false)] fun v120 =>
xF fMove [v120] fun v121 =>
xIf v121
 (xF (fFld 7) [(locP 3)] fun v122 =>
xO (gLoad 1 false [v122] c3) fun v123 =>
s_mem_Mem_Last [v123] (fun v124 σ =>
xF (fFldV 0 1 false) [v124] fun v125 =>
xF fMove [v9] fun v126 =>
xF (fBin .leq .no) [v125, v126] fun v127 =>
xF fMove [v127] fun v128 =>
xIf v128
 (xF fPick [(.bool true), (.bool true), undef] fun v143 =>
xF fPick [(.bool true), v143, (.bool false)] fun v144 =>
xF fPick [(.bool false), (.bool true), v144] fun v145 =>
J5 [v0, v5, v9, v10, v11, v13, v145] [c3] σ)
 (xF (fFld 7) [(locP 3)] fun v129 =>
xO (gLoad 1 false [v129] c3) fun v130 =>
s_mem_Mem_Last [v130] (fun v131 σ =>
xF (fFldV 0 1 false) [v131] fun v132 =>
xF fMove [v9] fun v133 =>
xF (fBin .add .no) [v133, (.int .i64 1)] fun v134 =>
xF fMove [v0] fun v135 =>
xF fMove [v5] fun v136 =>
xF (fIxS 4) [v135, v136] fun v137 =>
xF (fFld 2) [v137] fun v138 =>
hLoad 1 false [v138] (fun v139 σ =>
xF (fBin .and .no) [v139, (.int .i64 15)] fun v140 =>
xF (fBin .add .no) [v134, v140] fun v141 =>
xF (fBin .gtr .no) [v132, v141] fun v142 =>
xF fPick [(.bool false), (.bool true), v142] fun v143 =>
xF fPick [(.bool true), v143, (.bool false)] fun v144 =>
xF fPick [(.bool false), (.bool true), v144] fun v145 =>
J5 [v0, v5, v9, v10, v11, v13, v145] [c3] σ) σ) σ)) σ)
 (xF fPick [(.bool false), undef, (.bool false)] fun v144 =>
xF fPick [(.bool false), (.bool true), v144] fun v145 =>
J5 [v0, v5, v9, v10, v11, v13, v145] [c3] σ)) σ)
 (xF fPick [(.bool false), undef, (.bool false)] fun v120 =>
xF fMove [v120] fun v121 =>
xIf v121
 (xF (fFld 7) [(locP 3)] fun v122 =>
xO (gLoad 1 false [v122] c3) fun v123 =>
s_mem_Mem_Last [v123] (fun v124 σ =>
xF (fFldV 0 1 false) [v124] fun v125 =>
xF fMove [v9] fun v126 =>
xF (fBin .leq .no) [v125, v126] fun v127 =>
xF fMove [v127] fun v128 =>
xIf v128
 (xF fPick [(.bool true), (.bool true), undef] fun v143 =>
xF fPick [(.bool true), v143, (.bool false)] fun v144 =>
xF fPick [(.bool false), (.bool true), v144] fun v145 =>
J5 [v0, v5, v9, v10, v11, v13, v145] [c3] σ)
 (xF (fFld 7) [(locP 3)] fun v129 =>
xO (gLoad 1 false [v129] c3) fun v130 =>
s_mem_Mem_Last [v130] (fun v131 σ =>
xF (fFldV 0 1 false) [v131] fun v132 =>
xF fMove [v9] fun v133 =>
xF (fBin .add .no) [v133, (.int .i64 1)] fun v134 =>
xF fMove [v0] fun v135 =>
xF fMove [v5] fun v136 =>
xF (fIxS 4) [v135, v136] fun v137 =>
xF (fFld 2) [v137] fun v138 =>
hLoad 1 false [v138] (fun v139 σ =>
xF (fBin .and .no) [v139, (.int .i64 15)] fun v140 =>
xF (fBin .add .no) [v134, v140] fun v141 =>
xF (fBin .gtr .no) [v132, v141] fun v142 =>
xF fPick [(.bool false), (.bool true), v142] fun v143 =>
xF fPick [(.bool true), v143, (.bool false)] fun v144 =>
xF fPick [(.bool false), (.bool true), v144] fun v145 =>
J5 [v0, v5, v9, v10, v11, v13, v145] [c3] σ) σ) σ)) σ)
 (xF fPick [(.bool false), undef, (.bool false)] fun v144 =>
xF fPick [(.bool false), (.bool true), v144] fun v145 =>
J5 [v0, v5, v9, v10, v11, v13, v145] [c3] σ)))) σ)) σ) σ) σ) σ) σ)
 (J4 [v0, v5] [c3] σ)
def w_law09_DropSteps_l13 (K : Value → Mem → Prop) (J2 : List Value → List (List Value) → Mem → Prop) (R1 : List Value → List (List Value) → Mem → Prop) (J4 : List Value → List (List Value) → Mem → Prop) (R3 : List Value → List (List Value) → Mem → Prop) (ts : List Value) (ls : List (List Value)) (σ : Mem) : Prop := w_law09_DropSteps_l13b K J2 R1 J4 R3 (ts.getD 0 poison) (ts.getD 1 poison) (ts.getD 2 poison) (ts.getD 3 poison) (ts.getD 4 poison) (ls.getD 0 []) σ
def w_law09_DropSteps_j3b (K : Value → Mem → Prop) (J2 : List Value → List (List Value) → Mem → Prop) (R1 : List Value → List (List Value) → Mem → Prop) (v0 v5 : Value) (c3 : List Value) (σ : Mem) : Prop :=
xJoin (w_law09_DropSteps_j4 K J2 R1) fun J4 =>
xO (gLoad 9 true [(locP 3)] c3) fun v37 =>
xF fMove [v0] fun v38 =>
xF fMove [v5] fun v39 =>
xF (fIxS 4) [v38, v39] fun v40 =>
xF (fFld 2) [v40] fun v41 =>
hLoad 1 false [v41] (fun v42 σ =>
xF (fBin .and .no) [v42, (.int .i64 15)] fun v43 =>
xF (fBin .add .no) [(.int .i64 1), v43] fun v44 =>
xF fMove [v0] fun v45 =>
xF fMove [v5] fun v46 =>
xF (fIxS 4) [v45, v46] fun v47 =>
xF (fFld 3) [v47] fun v48 =>
hLoad 1 false [v48] (fun v49 σ =>
s_law08_Make [v37, v44, v49] (fun v50 σ =>
xF (fFldV 1 1 false) [v50] fun v51 =>
xF fMove [v51] fun v6 =>
xF fMove [v6] fun v53 =>
s_word_Handle [v53] (fun v54 σ =>
xF fMove [v54] fun v52 =>
xF (fExt 0) [v52] fun v55 =>
xF (fExt 1) [v52] fun v56 =>
xC (gStore 2 [(locP 7), v55] [(.int .i64 0), (.int .i64 0)]) fun c7 =>
xF fMove [v56] fun v8 =>
xF (fFld 7) [(locP 3)] fun v57 =>
xO (gLoad 1 false [v57] c3) fun v58 =>
xF (fFld 0) [(locP 3)] fun v59 =>
xO (gLoad 7 true [v59] c3) fun v60 =>
xF (fFld 0) [(locP 7)] fun v61 =>
xO (gLoad 1 false [v61] c7) fun v62 =>
s_layout_Slot [v60, v62] (fun v63 σ =>
s_mem_Mem_Peek [v58, v63] (fun v64 σ =>
s_word_Slot [v64] (fun v65 σ =>
xF (fFldV 1 1 false) [v65] fun v66 =>
xF fMove [v66] fun v9 =>
xF fMove [v6] fun v67 =>
xF fMove [v0] fun v68 =>
xF fMove [v5] fun v69 =>
xF (fIxS 4) [v68, v69] fun v70 =>
xF (fFld 3) [v70] fun v71 =>
hLoad 1 false [v71] (fun v72 σ =>
xF fMove [v0] fun v73 =>
xF fMove [v5] fun v74 =>
xF (fIxS 4) [v73, v74] fun v75 =>
xF (fFld 0) [v75] fun v76 =>
hLoad 1 false [v76] (fun v77 σ =>
xF (fBin .eql .no) [v77, (.int .i64 0)] fun v78 =>
xF (fBin .neq .bool) [v72, v78] fun v79 =>
s_drop_New [v67, v79] (fun v80 σ =>
xF fMove [v80] fun v10 =>
xF fMove [(.int .i64 0)] fun v11 =>
xLoop (w_law09_DropSteps_l13 K J2 R1 J4) [v0, v5, v9, v10, v11] [c3] σ) σ) σ) σ) σ) σ) σ) σ) σ) σ) σ
def w_law09_DropSteps_j3 (K : Value → Mem → Prop) (J2 : List Value → List (List Value) → Mem → Prop) (R1 : List Value → List (List Value) → Mem → Prop) (ts : List Value) (ls : List (List Value)) (σ : Mem) : Prop := w_law09_DropSteps_j3b K J2 R1 (ts.getD 0 poison) (ts.getD 1 poison) (ls.getD 0 []) σ
def w_law09_DropSteps_l6b (K : Value → Mem → Prop) (J2 : List Value → List (List Value) → Mem → Prop) (R1 : List Value → List (List Value) → Mem → Prop) (v0 v5 : Value) (c3 : List Value) (σ : Mem) : Prop :=
xJoin (w_law09_DropSteps_j3 K J2 R1) fun J3 =>
xF fMove [v5] fun v27 =>
xF fMove [v0] fun v28 =>
xF fLen [v28] fun v29 =>
xF (fBin .lss .no) [v27, v29] fun v30 =>
xF fMove [v30] fun v31 =>
xIf v31
 (xF fMove [v5] fun v32 =>
xF (fBin .lss .no) [v32, (.int .i64 12)] fun v33 =>
xF fPick [(.bool true), v33, (.bool false)] fun v34 =>
xIf v34
 (J3 [v0, v5] [c3] σ)
 (J2 [] [] σ))
 (xF fPick [(.bool false), undef, (.bool false)] fun v34 =>
xIf v34
 (J3 [v0, v5] [c3] σ)
 (J2 [] [] σ))
def w_law09_DropSteps_l6 (K : Value → Mem → Prop) (J2 : List Value → List (List Value) → Mem → Prop) (R1 : List Value → List (List Value) → Mem → Prop) (ts : List Value) (ls : List (List Value)) (σ : Mem) : Prop := w_law09_DropSteps_l6b K J2 R1 (ts.getD 0 poison) (ts.getD 1 poison) (ls.getD 0 []) σ
def w_law09_DropSteps_j1b (K : Value → Mem → Prop) (v0 v26 : Value) (c3 : List Value) (σ : Mem) : Prop :=
xIf v26
 (xF fMove [(.bool false)] fun v2 =>
K v2 σ)
 (xJoin (w_law09_DropSteps_j2 K) fun J2 =>
xF fMove [(.int .i64 0)] fun v5 =>
xLoop (w_law09_DropSteps_l6 K J2) [v0, v5] [c3] σ)
def w_law09_DropSteps_j1 (K : Value → Mem → Prop) (ts : List Value) (ls : List (List Value)) (σ : Mem) : Prop := w_law09_DropSteps_j1b K (ts.getD 0 poison) (ts.getD 1 poison) (ls.getD 0 []) σ
def w_law09_DropSteps (a0 : Value) (K : Value → Mem → Prop) (σ : Mem) : Prop :=
xF fMove [(.bool false)] fun v2 =>
s_law04_Arena [(.int .i64 1), (.int .i64 8), (.int .i64 6), (.int .i64 40)] (fun v18 σ =>
xF fMove [v18] fun v17 =>
xF (fExt 0) [v17] fun v19 =>
xF (fExt 1) [v17] fun v20 =>
xC (gStore 9 [(locP 3), v19] [(.int .i64 0), (.int .i64 0), (.int .i64 0), (.int .i64 0), (.int .i64 0), (.int .i64 0), (.int .i64 0), (.pointer none), (.int .i64 0)]) fun c3 =>
xF fMove [v20] fun v4 =>
xJoin (w_law09_DropSteps_j1 K) fun J1 =>
s_law09_awake [] (fun v21 σ =>
xF (fUn .not) [v21] fun v22 =>
xF fMove [v22] fun v23 =>
xIf v23
 (xF fPick [(.bool true), (.bool true), undef] fun v26 =>
J1 [a0, v26] [c3] σ)
 (xF fMove [v4] fun v24 =>
xF (fUn .not) [v24] fun v25 =>
xF fPick [(.bool false), (.bool true), v25] fun v26 =>
J1 [a0, v26] [c3] σ)) σ) σ
def s_law09_DropSteps : Spec := fun args K σ => match args with
  | [a0] => w_law09_DropSteps a0 K σ
  | _ => False
noncomputable def cx_law09_DropSteps : Cx := { P := Try.prog, T := [(11, .write, s_law04_Arena), (12, .none, s_law09_awake), (13, .write, s_law08_Make), (21, .none, s_word_Handle), (24, .none, s_layout_Slot), (23, .read, s_mem_Mem_Peek), (22, .none, s_word_Slot), (14, .write, s_drop_New), (34, .read, s_layout_Env_Now), (15, .write, s_drop_Drop_Step), (36, .read, s_mem_Mem_Last), (35, .write, s_ref04_Kind)], loc := [(3, 3), (7, 7), (57, 3), (59, 3), (61, 7), (91, 3), (93, 3), (116, 3), (122, 3), (129, 3)], eqt := [(4, .bool)], n := 147, keep := [(6, [0, 5], [3]), (13, [0, 5, 9, 10, 11], [3]), (1000004, [0, 26], [3]), (1000007, [0, 5], [3]), (1000008, [0, 5], [3]), (1000019, [0, 5, 9, 10, 11, 13, 145], [3]), (1000021, [], [])] }
theorem q_law09_DropSteps : FnS cx_law09_DropSteps Try.f10 (bodyOf Try.f10) 1 = s_law09_DropSteps := by
  funext args K σ
  rcases args with _ | ⟨a0, _ | ⟨b, r⟩⟩ <;> kernel_rfl
theorem e_law09_DropSteps : Entry Try.prog 10 .write s_law09_DropSteps :=
  entry (C := cx_law09_DropSteps) (TOk.cons e_law04_Arena (TOk.cons e_law09_awake (TOk.cons e_law08_Make (TOk.cons e_word_Handle (TOk.cons e_layout_Slot (TOk.cons e_mem_Mem_Peek (TOk.cons e_word_Slot (TOk.cons e_drop_New (TOk.cons e_layout_Env_Now (TOk.cons e_drop_Drop_Step (TOk.cons e_mem_Mem_Last (TOk.cons e_ref04_Kind TOk.nil)))))))))))) mixedOk Try.func10 (by kernel_rfl) (by kernel_rfl) (by kernel_rfl) q_law09_DropSteps
attribute [irreducible] w_law09_DropSteps_j2b w_law09_DropSteps_j2 w_law09_DropSteps_j4b w_law09_DropSteps_j4 w_law09_DropSteps_j5b w_law09_DropSteps_j5 w_law09_DropSteps_l13b w_law09_DropSteps_l13 w_law09_DropSteps_j3b w_law09_DropSteps_j3 w_law09_DropSteps_l6b w_law09_DropSteps_l6 w_law09_DropSteps_j1b w_law09_DropSteps_j1 w_law09_DropSteps s_law09_DropSteps
end Go.Fl
namespace Go.Fl
open Go
set_option linter.unusedVariables false
set_option linter.unusedSimpArgs false
theorem Mem.set_set (σ : Mem) (i : Nat) (a b : Blk) : (σ.set i a).set i b = σ.set i b := by
  apply Mem.ext'; funext j; simp only [Mem.set]; split <;> rfl
theorem Mem.set_self {σ : Mem} {i : Nat} {b : Blk} (h : σ.get i = some b) : σ.set i b = σ := by
  apply Mem.ext'; funext j; simp only [Mem.set]; split
  · rename_i e; rw [e, h]
  · rfl
theorem Mem.set_comm (σ : Mem) {i j : Nat} (a b : Blk) (h : i ≠ j) : (σ.set i a).set j b = (σ.set j b).set i a := by
  apply Mem.ext'; funext k; simp only [Mem.set]
  by_cases h1 : k = j <;> by_cases h2 : k = i <;> simp [h1, h2]
  · exact absurd (h2.symm.trans h1) h
  · intro e; exact absurd e.symm h
  · intro e; exact absurd e h
@[simp] theorem Mem.get_set_same (σ : Mem) (i : Nat) (b : Blk) : (σ.set i b).get i = some b := by simp [Mem.set]
theorem Mem.get_set_ne (σ : Mem) {i j : Nat} (b : Blk) (h : j ≠ i) : (σ.set i b).get j = σ.get j := by simp [Mem.set, h]
theorem nr {α : Sort _} {a b : α} (h : a = b) : a = b := h
section
variable {K : Value → Prop} {x y z : Value} {b o off : Nat} {q : Option Nat} {k k' : IntKind} {a c : Int} {Q : EqK}
theorem xMove : xF fMove [x] K = K x := nr rfl
theorem xPickT : xF fPick [.bool true, x, y] K = K x := nr rfl
theorem xPickF : xF fPick [.bool false, x, y] K = K y := nr rfl
theorem xNil {p : Addr} : xF fNil [.pointer (some p)] K = K (.pointer (some p)) := nr rfl
theorem xFld {p : Addr} : xF (fFld off) [.pointer (some p)] K = K (.pointer (some ⟨p.block, p.off + off, p.spot⟩)) := nr rfl
theorem xExt0 : xF (fExt 0) [.tuple #[x, y]] K = K x := nr rfl
theorem xExt1 : xF (fExt 1) [.tuple #[x, y]] K = K y := nr rfl
theorem xExt30 : xF (fExt 0) [.tuple #[x, y, z]] K = K x := nr rfl
theorem xExt31 : xF (fExt 1) [.tuple #[x, y, z]] K = K y := nr rfl
theorem xExt32 : xF (fExt 2) [.tuple #[x, y, z]] K = K z := nr rfl
theorem xAdd : xF (fBin .add Q) [.int k a, .int k c] K = K (.int k (k.wrap (a + c))) := by simp [xF, fBin, isSh, binI]
theorem xSub : xF (fBin .sub Q) [.int k a, .int k c] K = K (.int k (k.wrap (a - c))) := by simp [xF, fBin, isSh, binI]
theorem xMul : xF (fBin .mul Q) [.int k a, .int k c] K = K (.int k (k.wrap (a * c))) := by simp [xF, fBin, isSh, binI]
theorem xQuo (h : c ≠ 0) : xF (fBin .quo Q) [.int k a, .int k c] K = K (.int k (k.wrap (a.tdiv c))) := by simp [xF, fBin, isSh, binI, h]
theorem xRem (h : c ≠ 0) : xF (fBin .rem Q) [.int k a, .int k c] K = K (.int k (a.tmod c)) := by simp [xF, fBin, isSh, binI, h]
theorem xEql : xF (fBin .eql Q) [.int k a, .int k c] K = K (.bool (decide (a = c))) := by
  simp only [xF, fBin, isSh, binI]
  simp only [Bool.false_eq_true, if_false, if_true]
  congr 2
theorem xNeq : xF (fBin .neq Q) [.int k a, .int k c] K = K (.bool (decide (a ≠ c))) := by
  simp only [xF, fBin, isSh, binI]
  simp only [Bool.false_eq_true, if_false, if_true]
  congr 2
  by_cases h : a = c <;> simp [h]
theorem xLss : xF (fBin .lss Q) [.int k a, .int k c] K = K (.bool (decide (a < c))) := by simp [xF, fBin, isSh, binI]
theorem xLeq : xF (fBin .leq Q) [.int k a, .int k c] K = K (.bool (decide (a ≤ c))) := by simp [xF, fBin, isSh, binI]
theorem xGtr : xF (fBin .gtr Q) [.int k a, .int k c] K = K (.bool (decide (c < a))) := by simp [xF, fBin, isSh, binI]
theorem xGeq : xF (fBin .geq Q) [.int k a, .int k c] K = K (.bool (decide (c ≤ a))) := by simp [xF, fBin, isSh, binI]
theorem xEqPN {p : Addr} : xF (fBin .eql .ptr) [.pointer (some p), .pointer none] K = K (.bool false) := nr rfl
theorem xEqNN : xF (fBin .eql .ptr) [.pointer none, .pointer none] K = K (.bool true) := nr rfl
theorem xNePN {p : Addr} : xF (fBin .neq .ptr) [.pointer (some p), .pointer none] K = K (.bool true) := nr rfl
theorem xNeNN : xF (fBin .neq .ptr) [.pointer none, .pointer none] K = K (.bool false) := nr rfl
theorem xEqBB {u v : Bool} : xF (fBin .eql .bool) [.bool u, .bool v] K = K (.bool (u == v)) := nr rfl
theorem xNeBB {u v : Bool} : xF (fBin .neq .bool) [.bool u, .bool v] K = K (.bool (!(u == v))) := nr rfl
theorem xNot {u : Bool} : xF (fUn .not) [.bool u] K = K (.bool (!u)) := by simp [xF, fUn]
theorem xNeg : xF (fUn .neg) [.int k a] K = K (.int k (k.wrap (-a))) := by simp [xF, fUn]
theorem xConv : xF (fConv k) [.int k' a] K = K (.int k (k.wrap a)) := nr rfl
theorem xLen {p : Option Addr} {n m : Nat} : xF fLen [.slice p n m] K = K (.int .i64 n) := nr rfl
theorem xMin : xF fMin [.int k a, .int k c] K = K (.int k (min a c)) := by
  show K (.int k (if c < a then c else a)) = _
  congr 2; split <;> omega
theorem xMax : xF fMax [.int k a, .int k c] K = K (.int k (max a c)) := by
  show K (.int k (if c > a then c else a)) = _
  congr 2; split <;> omega
theorem xIfc {t : TypeId} : xF (fIface t) [x] K = K (.iface t x) := nr rfl
theorem xIxS {p : Addr} {n m es : Nat} (h0 : 0 ≤ a) (h1 : a < n) : xF (fIxS es) [.slice (some p) n m, .int k a] K = K (.pointer (some ⟨p.block, p.off + a.toNat * es, p.spot⟩)) := by
  simp only [xF, fIxS, if_pos (And.intro h0 h1)]; rfl
theorem xFldV {cs : Array Value} {sz : Nat} {ag : Bool} : xF (fFldV off sz ag) [.agg cs] K = xO (sub cs.toList off sz ag) K := nr rfl
end
theorem xIfT {A B : Prop} : xIf (.bool true) A B = A := nr rfl
theorem xIfF {A B : Prop} : xIf (.bool false) A B = B := nr rfl
theorem xIfD {A B : Prop} {p : Prop} [Decidable p] : xIf (.bool (decide p)) A B = if p then A else B := by
  by_cases h : p <;> simp [xIf, h]
theorem xIfB {A B : Prop} {u : Bool} : xIf (.bool u) A B = if u = true then A else B := by cases u <;> rfl
theorem xJoinE {F : List Value → List (List Value) → Mem → Prop} {G : (List Value → List (List Value) → Mem → Prop) → Prop} : xJoin F G = G F := nr rfl
theorem xOs {v : Value} {K : Value → Prop} : xO (some v) K = K v := nr rfl
theorem xCs {c : List Value} {K : List Value → Prop} : xC (some c) K = K c := nr rfl
theorem sub_one {cs : List Value} {o : Nat} {v : Value} (h : cs[o]? = some v) : sub cs o 1 false = some v := by
  have : o < cs.length := (List.getElem?_eq_some_iff.1 h).1
  simp [sub, h, show o + 1 ≤ cs.length by omega]
theorem lay_one {cs : List Value} {o : Nat} {v : Value} : lay cs o [v] = cs.take o ++ v :: cs.drop (o + 1) := by simp [lay]
theorem lay_set {cs : List Value} {o : Nat} {v : Value} (h : o < cs.length) : lay cs o [v] = cs.set o v := by
  rw [lay_one, List.set_eq_take_append_cons_drop, if_pos h]
theorem hLoad_eq {sz b o : Nat} {ag : Bool} {K : Value → Mem → Prop} {σ : Mem} {cs : List Value} {rw : Bool} (h : σ.get b = some ⟨cs, rw⟩) :
    hLoad sz ag [.pointer (some ⟨b, o, none⟩)] K σ = xO (sub cs o sz ag) (fun v => K v σ) := by
  simp only [hLoad, rd, h]
  cases sub cs o sz ag <;> rfl
theorem hStore_eq {sz b o : Nat} {K : Value → Mem → Prop} {σ : Mem} {cs c : List Value} {x : Value} (h : σ.get b = some ⟨cs, true⟩) (hc : cellsOf x sz = some c)
    (hl : o + sz ≤ cs.length) (ho : c.all oneB = true) : hStore sz [.pointer (some ⟨b, o, none⟩), x] K σ = K undef (σ.set b ⟨lay cs o c, true⟩) := by
  simp only [hStore, wr, h, hc]
  rw [if_pos ⟨trivial, hl, ho⟩]
def upd (f : Int → Int) (a v : Int) : Int → Int := fun i => if i = a then v else f i
theorem upd_same (f : Int → Int) (a v : Int) : upd f a v a = v := by simp [upd]
theorem upd_ne (f : Int → Int) {a i : Int} (v : Int) (h : i ≠ a) : upd f a v i = f i := by simp [upd, h]
def cells (k : IntKind) (n : Nat) (f : Int → Int) : List Value := (List.range n).map fun i : Nat => Value.int k (f (i : Int))
@[simp] theorem cells_len (k : IntKind) (n : Nat) (f : Int → Int) : (cells k n f).length = n := by simp [cells]
theorem cells_get (k : IntKind) {n : Nat} (f : Int → Int) {a : Int} (h0 : 0 ≤ a) (h1 : a < n) : (cells k n f)[a.toNat]? = some (.int k (f a)) := by
  have : a.toNat < n := by omega
  simp only [cells, List.getElem?_map, List.getElem?_range this, Option.map_some]
  rw [show ((a.toNat : Nat) : Int) = a by omega]
theorem cells_set (k : IntKind) {n : Nat} (f : Int → Int) {a : Int} (v : Int) (h0 : 0 ≤ a) (h1 : a < n) : (cells k n f).set a.toNat (.int k v) = cells k n (upd f a v) := by
  apply List.ext_getElem?
  intro i
  rw [List.getElem?_set]
  by_cases hi : i < n
  · simp only [cells, List.getElem?_map, List.getElem?_range hi, Option.map_some, List.length_map, List.length_range]
    by_cases e : a.toNat = i
    · subst e
      rw [if_pos rfl, if_pos hi]
      simp [upd]
      intro hc; omega
    · rw [if_neg e]
      have : (i : Int) ≠ a := by omega
      simp [upd, this]
  · have h2 : ¬ a.toNat = i := by omega
    rw [if_neg h2]
    simp [cells, hi]
theorem cells_sub (k : IntKind) {n : Nat} (f : Int → Int) {a : Int} (h0 : 0 ≤ a) (h1 : a < n) : sub (cells k n f) (0 + a.toNat * 1) 1 false = some (.int k (f a)) := by
  rw [show 0 + a.toNat * 1 = a.toNat by omega]
  exact sub_one (cells_get k f h0 h1)
theorem cells_lay (k : IntKind) {n : Nat} (f : Int → Int) {a : Int} (v : Int) (h0 : 0 ≤ a) (h1 : a < n) : lay (cells k n f) (0 + a.toNat * 1) [.int k v] = cells k n (upd f a v) := by
  rw [show 0 + a.toNat * 1 = a.toNat by omega, lay_set (by simp; omega), cells_set k f v h0 h1]
theorem cells_repl (k : IntKind) (n : Nat) : (List.replicate n [Value.int k 0]).flatten = cells k n fun _ => 0 := by
  rw [List.flatten_replicate_singleton]
  apply List.ext_getElem?
  intro i
  by_cases hi : i < n
  · simp [cells, hi, List.getElem?_replicate, List.getElem?_range hi]
  · simp [cells, hi, List.getElem?_replicate]
theorem locP_e (k : Nat) : locP k = .pointer (some ⟨k, 0, some 0⟩) := nr rfl
theorem gBox_a {cs : List Value} {sz : Nat} {l : List Value} (h : cs.length = sz) : gBox sz [.agg cs.toArray] l = some cs := by
  subst h
  show cellsOf (.agg cs.toArray) _ = _
  simp [cellsOf]
theorem gBox_i {k : IntKind} {n : Int} {l : List Value} : gBox 1 [.int k n] l = some [.int k n] := nr rfl
theorem gBox_b {b : Bool} {l : List Value} : gBox 1 [.bool b] l = some [.bool b] := nr rfl
theorem gBox_p {p : Option Addr} {l : List Value} : gBox 1 [.pointer p] l = some [.pointer p] := nr rfl
theorem gLoad_s {sz k o : Nat} {ag : Bool} {q : Option Nat} {cs : List Value} : gLoad sz ag [.pointer (some ⟨k, o, q⟩)] cs = sub cs o sz ag := nr rfl
theorem gAlloc_s {z l : List Value} : gAlloc z [] l = some z := nr rfl
theorem gStore_a {sz k o : Nat} {q : Option Nat} {c cs : List Value} (h : c.length = sz) (hl : o + sz ≤ cs.length) (ho : c.all oneB = true) :
    gStore sz [.pointer (some ⟨k, o, q⟩), .agg c.toArray] cs = some (lay cs o c) := by
  subst h
  have : cellsOf (.agg c.toArray) c.length = some c := by simp [cellsOf]
  simp only [gStore, this]
  rw [if_pos ⟨hl, ho⟩]
theorem gStore_1 {k o : Nat} {q : Option Nat} {x : Value} {cs : List Value} (h : cellsOf x 1 = some [x]) (hl : o + 1 ≤ cs.length) (ho : oneB x = true) :
    gStore 1 [.pointer (some ⟨k, o, q⟩), x] cs = some (lay cs o [x]) := by
  simp only [gStore, h]
  rw [if_pos ⟨hl, by simp [ho]⟩]
theorem gStore_i {k o : Nat} {q : Option Nat} {kd : IntKind} {n : Int} {cs : List Value} (hl : o + 1 ≤ cs.length) :
    gStore 1 [.pointer (some ⟨k, o, q⟩), .int kd n] cs = some (lay cs o [.int kd n]) := gStore_1 rfl hl rfl
theorem gStore_b {k o : Nat} {q : Option Nat} {b : Bool} {cs : List Value} (hl : o + 1 ≤ cs.length) :
    gStore 1 [.pointer (some ⟨k, o, q⟩), .bool b] cs = some (lay cs o [.bool b]) := gStore_1 rfl hl rfl
theorem gStore_p {k o : Nat} {q : Option Nat} {p : Option Addr} {cs : List Value} (hl : o + 1 ≤ cs.length) :
    gStore 1 [.pointer (some ⟨k, o, q⟩), .pointer p] cs = some (lay cs o [.pointer p]) := gStore_1 rfl hl rfl
theorem sub_z {x : Value} {cs : List Value} : sub (x :: cs) 0 1 false = some x := by simp [sub]
theorem sub_s {x : Value} {cs : List Value} {n : Nat} : sub (x :: cs) (n + 1) 1 false = sub cs n 1 false := by
  simp only [sub, List.length_cons]
  by_cases h : n + 1 ≤ cs.length
  · rw [if_pos h, if_pos (by omega)]; simp
  · rw [if_neg h, if_neg (by omega)]
theorem sub_l {cs : List Value} {o sz : Nat} : sub cs o sz true = if o + sz ≤ cs.length then some (.agg ((cs.drop o).take sz).toArray) else none := by simp [sub]
theorem oneB_i {k : IntKind} {n : Int} : oneB (.int k n) = true := nr rfl
theorem oneB_b {b : Bool} : oneB (.bool b) = true := nr rfl
theorem oneB_p {p : Option Addr} : oneB (.pointer p) = true := nr rfl
theorem oneB_sl {p : Option Addr} {n c : Nat} : oneB (.slice p n c) = true := nr rfl
theorem lay_z {cs vs : List Value} : lay cs 0 vs = vs ++ cs.drop vs.length := by simp [lay]
theorem lay_s {x : Value} {cs vs : List Value} {n : Nat} : lay (x :: cs) (n + 1) vs = x :: lay cs n vs := by
  simp only [lay, List.take_succ_cons, List.cons_append]
  rw [show n + 1 + vs.length = (n + vs.length) + 1 by omega, List.drop_succ_cons]
def SlW (w : World) (ks : List (Option IntKind)) (v : Value) : Prop := v = .slice none 0 0 ∨ ∃ (a : Addr) (len cap : Nat) (cells : List Value), v = .slice (some a) len cap ∧ len ≤ cap ∧ cap ≤ maxLen ∧
  FlatL (List.replicate len ks).flatten cells ∧ (cap = 0 ∨ InW w a (cap * ks.length) (len * ks.length) cells)
theorem Opn.sl {w : World} {ρ : Ren} {σ : Mem} {avs avs' : List Value} {v : Value} {ks : List (Option IntKind)} (h : Opn w ρ σ avs avs') (hv : SlW w ks v) :
    ∃ ρ' σ' s n cs, Opn w ρ' σ' (s :: avs) (v :: avs') ∧ Sl σ' ks.length n cs s ∧ n ≤ maxLen ∧ FlatL (List.replicate n ks).flatten cs ∧ ∀ i b, σ.get i = some b → σ'.get i = some b := by
  rcases hv with rfl | ⟨a, len, cap, cs, rfl, h1, h2, h3, h4⟩
  · exact ⟨ρ, σ, _, 0, [], h.nilS, .nil, Nat.zero_le _, .nil, fun _ _ q => q⟩
  · obtain ⟨ρ', σ', s, o, sl, ext⟩ := h.slice (es := ks.length) h1 h3 (by simp) h4
    exact ⟨ρ', σ', s, len, cs, o, sl, Nat.le_trans h1 h2, h3, ext⟩
theorem ruS : type_of% ((And.intro (And.intro (And.intro (And.intro (And.intro @xMove (And.intro @xPickT @xPickF)) (And.intro @xNil (And.intro @xFld @xExt0))) (And.intro (And.intro @xExt1 (And.intro @xExt30 @xExt31)) (And.intro (And.intro @xExt32 @xAdd) (And.intro @xSub @xMul)))) (And.intro (And.intro (And.intro @xEql (And.intro @xNeq @xLss)) (And.intro @xLeq (And.intro @xGtr @xGeq))) (And.intro (And.intro @xEqPN (And.intro @xEqNN @xNePN)) (And.intro (And.intro @xNeNN @xEqBB) (And.intro @xNeBB @xNot))))) (And.intro (And.intro (And.intro (And.intro @xConv (And.intro @xLen @xMin)) (And.intro @xMax (And.intro @xIfc @xIfT))) (And.intro (And.intro @xIfF (And.intro @xIfD @xJoinE)) (And.intro (And.intro @xOs @xCs) (And.intro @xFldV @List.getD_cons_zero.{0})))) (And.intro (And.intro (And.intro @List.getD_cons_succ.{0} (And.intro @Nat.zero_add @Mem.get_set_same)) (And.intro (And.intro @Mem.set_set @if_true.{1}) (And.intro @if_false.{1} @Bool.not_true))) (And.intro (And.intro @Bool.not_false (And.intro @decide_true @decide_false)) (And.intro (And.intro @decide_eq_true_eq @decide_not) (And.intro @Bool.not_eq_true @Bool.false_eq_true))))))) := (And.intro (And.intro (And.intro (And.intro (And.intro @xMove (And.intro @xPickT @xPickF)) (And.intro @xNil (And.intro @xFld @xExt0))) (And.intro (And.intro @xExt1 (And.intro @xExt30 @xExt31)) (And.intro (And.intro @xExt32 @xAdd) (And.intro @xSub @xMul)))) (And.intro (And.intro (And.intro @xEql (And.intro @xNeq @xLss)) (And.intro @xLeq (And.intro @xGtr @xGeq))) (And.intro (And.intro @xEqPN (And.intro @xEqNN @xNePN)) (And.intro (And.intro @xNeNN @xEqBB) (And.intro @xNeBB @xNot))))) (And.intro (And.intro (And.intro (And.intro @xConv (And.intro @xLen @xMin)) (And.intro @xMax (And.intro @xIfc @xIfT))) (And.intro (And.intro @xIfF (And.intro @xIfD @xJoinE)) (And.intro (And.intro @xOs @xCs) (And.intro @xFldV @List.getD_cons_zero.{0})))) (And.intro (And.intro (And.intro @List.getD_cons_succ.{0} (And.intro @Nat.zero_add @Mem.get_set_same)) (And.intro (And.intro @Mem.set_set @if_true.{1}) (And.intro @if_false.{1} @Bool.not_true))) (And.intro (And.intro @Bool.not_false (And.intro @decide_true @decide_false)) (And.intro (And.intro @decide_eq_true_eq @decide_not) (And.intro @Bool.not_eq_true @Bool.false_eq_true))))))
theorem ruL : type_of% ((And.intro (And.intro (And.intro (And.intro (And.intro @locP_e @gBox_a) (And.intro @gBox_i @gBox_b)) (And.intro (And.intro @gBox_p @gLoad_s) (And.intro @gAlloc_s @gStore_a))) (And.intro (And.intro (And.intro @gStore_i @gStore_b) (And.intro @gStore_p @sub_z)) (And.intro (And.intro @sub_s @lay_z) (And.intro @lay_s @List.length_cons.{0})))) (And.intro (And.intro (And.intro (And.intro @List.length_nil.{0} @Nat.le_refl) (And.intro @List.drop_zero.{0} @List.drop_succ_cons.{0})) (And.intro (And.intro @List.take_succ_cons.{0} @List.take_zero.{0}) (And.intro @List.drop_nil.{0} @List.cons_append.{0}))) (And.intro (And.intro (And.intro @List.nil_append.{0} @List.all_cons.{0}) (And.intro @List.all_nil.{0} @oneB_i)) (And.intro (And.intro @oneB_b @oneB_p) (And.intro @oneB_sl @Bool.and_true)))))) := (And.intro (And.intro (And.intro (And.intro (And.intro @locP_e @gBox_a) (And.intro @gBox_i @gBox_b)) (And.intro (And.intro @gBox_p @gLoad_s) (And.intro @gAlloc_s @gStore_a))) (And.intro (And.intro (And.intro @gStore_i @gStore_b) (And.intro @gStore_p @sub_z)) (And.intro (And.intro @sub_s @lay_z) (And.intro @lay_s @List.length_cons.{0})))) (And.intro (And.intro (And.intro (And.intro @List.length_nil.{0} @Nat.le_refl) (And.intro @List.drop_zero.{0} @List.drop_succ_cons.{0})) (And.intro (And.intro @List.take_succ_cons.{0} @List.take_zero.{0}) (And.intro @List.drop_nil.{0} @List.cons_append.{0}))) (And.intro (And.intro (And.intro @List.nil_append.{0} @List.all_cons.{0}) (And.intro @List.all_nil.{0} @oneB_i)) (And.intro (And.intro @oneB_b @oneB_p) (And.intro @oneB_sl @Bool.and_true)))))
theorem ruX : type_of% (@sub_l) := @sub_l
end Go.Fl
namespace Go.Fl
open Go
set_option linter.unusedVariables false
set_option linter.unusedSimpArgs false
structure Ar where
  n : Nat
  w : Int → Int
  t : Int → Int
  s : Int
  who : Int
  la : Int
  lw : Int
  lc : Bool
structure Nm where
  m : Nat
  w : Nat
  t : Nat
def Ar.mc (N : Nm) (A : Ar) : List Value := [.slice (some ⟨N.w, 0, none⟩) A.n 1, .slice (some ⟨N.t, 0, none⟩) A.n 1, .int .i64 A.s, .int .i64 A.who, .int .i64 A.la, .int .i64 A.lw, .bool A.lc]
def Ar.wb (A : Ar) : Blk := ⟨cells .u64 A.n A.w, true⟩
def Ar.tb (A : Ar) : Blk := ⟨cells .i64 A.n A.t, true⟩
structure Nm.ok (N : Nm) : Prop where
  mw : N.m ≠ N.w
  mt : N.m ≠ N.t
  wt : N.w ≠ N.t
def putA (N : Nm) (A : Ar) (σ : Mem) : Mem := ((σ.set N.t A.tb).set N.w A.wb).set N.m ⟨A.mc N, true⟩
variable {N : Nm} {A B : Ar} {σ : Mem} {K : Value → Mem → Prop}
theorem putA_m : (putA N A σ).get N.m = some ⟨A.mc N, true⟩ := by simp [putA]
theorem putA_w (h : N.ok) : (putA N A σ).get N.w = some A.wb := by simp [putA, Mem.get_set, h.mw.symm]
theorem putA_t (h : N.ok) : (putA N A σ).get N.t = some A.tb := by simp [putA, Mem.get_set, h.mt.symm, h.wt.symm]
theorem putA_ne {i : Nat} (h1 : i ≠ N.m) (h2 : i ≠ N.w) (h3 : i ≠ N.t) : (putA N A σ).get i = σ.get i := by simp [putA, Mem.get_set, h1, h2, h3]
theorem putA_set {p : Nat} {c : Blk} (h1 : p ≠ N.m) (h2 : p ≠ N.w) (h3 : p ≠ N.t) : (putA N A σ).set p c = putA N A (σ.set p c) := by
  simp only [putA]
  rw [Mem.set_comm _ _ _ h1.symm, Mem.set_comm _ _ _ h2.symm, Mem.set_comm _ _ _ h3.symm]
def Ar.by (A : Ar) (who : Int) : Ar := { A with who := who }
def Ar.step (A : Ar) (a : Int) : Ar := { A with s := IntKind.i64.wrap (A.s + 1), la := a, lw := A.who, lc := false }
def Ar.lay (A : Ar) (a v : Int) : Ar := { A with lc := decide (A.w a ≠ v), t := if A.w a ≠ v then upd A.t a A.s else A.t, w := upd A.w a v }
def Ar.tick (A : Ar) : Ar := { A with s := IntKind.i64.wrap (A.s + 1) }
def Ar.lst (A : Ar) (a : Int) : Ar := { A with la := a, lw := A.who, lc := false }
def Ar.chg (A : Ar) (c : Bool) : Ar := { A with lc := c }
def Ar.setW (A : Ar) (a v : Int) : Ar := { A with w := upd A.w a v }
def Ar.setT (A : Ar) (a v : Int) : Ar := { A with t := upd A.t a v }
theorem putA_setM (h : A.n = B.n) (hw : A.w = B.w) (ht : A.t = B.t) : (putA N A σ).set N.m ⟨B.mc N, true⟩ = putA N B σ := by
  simp only [putA, Mem.set_set, Ar.wb, Ar.tb, h, hw, ht]
theorem ldM0 : hLoad 1 false [.pointer (some ⟨N.m, 0, none⟩)] K (putA N A σ) = K (.slice (some ⟨N.w, 0, none⟩) A.n 1) (putA N A σ) := (hLoad_eq putA_m).trans rfl
theorem ldM1 : hLoad 1 false [.pointer (some ⟨N.m, 1, none⟩)] K (putA N A σ) = K (.slice (some ⟨N.t, 0, none⟩) A.n 1) (putA N A σ) := (hLoad_eq putA_m).trans rfl
theorem ldM2 : hLoad 1 false [.pointer (some ⟨N.m, 2, none⟩)] K (putA N A σ) = K (.int .i64 A.s) (putA N A σ) := (hLoad_eq putA_m).trans rfl
theorem ldM3 : hLoad 1 false [.pointer (some ⟨N.m, 3, none⟩)] K (putA N A σ) = K (.int .i64 A.who) (putA N A σ) := (hLoad_eq putA_m).trans rfl
theorem ldM4 : hLoad 3 true [.pointer (some ⟨N.m, 4, none⟩)] K (putA N A σ) = K (.agg #[.int .i64 A.la, .int .i64 A.lw, .bool A.lc]) (putA N A σ) := (hLoad_eq putA_m).trans rfl
theorem ldM6 : hLoad 1 false [.pointer (some ⟨N.m, 6, none⟩)] K (putA N A σ) = K (.bool A.lc) (putA N A σ) := (hLoad_eq putA_m).trans rfl
theorem stM2 : hStore 1 [.pointer (some ⟨N.m, 2, none⟩), .int .i64 (IntKind.i64.wrap (A.s + 1))] K (putA N A σ) = K undef (putA N A.tick σ) := by
  rw [hStore_eq putA_m rfl (by simp [Ar.mc]) rfl]
  exact congrArg _ (putA_setM (B := A.tick) rfl rfl rfl)
theorem stM3 {who : Int} : hStore 1 [.pointer (some ⟨N.m, 3, none⟩), .int .i64 who] K (putA N A σ) = K undef (putA N (A.by who) σ) := by
  rw [hStore_eq putA_m rfl (by simp [Ar.mc]) rfl]
  exact congrArg _ (putA_setM (B := A.by who) rfl rfl rfl)
theorem stM4 {a : Int} : hStore 3 [.pointer (some ⟨N.m, 4, none⟩), .agg #[.int .i64 a, .int .i64 A.who, .bool false]] K (putA N A σ) = K undef (putA N (A.lst a) σ) := by
  rw [hStore_eq putA_m rfl (by simp [Ar.mc]) rfl]
  exact congrArg _ (putA_setM (B := A.lst a) rfl rfl rfl)
theorem stM6 {c : Bool} : hStore 1 [.pointer (some ⟨N.m, 6, none⟩), .bool c] K (putA N A σ) = K undef (putA N (A.chg c) σ) := by
  rw [hStore_eq putA_m rfl (by simp [Ar.mc]) rfl]
  exact congrArg _ (putA_setM (B := A.chg c) rfl rfl rfl)
theorem ldW (h : N.ok) {a : Int} (h0 : 0 ≤ a) (h1 : a < A.n) : hLoad 1 false [.pointer (some ⟨N.w, a.toNat * 1, none⟩)] K (putA N A σ) = K (.int .u64 (A.w a)) (putA N A σ) := by
  rw [hLoad_eq (putA_w h)]
  have := cells_sub .u64 A.w h0 h1
  rw [Nat.zero_add] at this
  rw [this, xOs]
theorem stW (h : N.ok) {a v : Int} (h0 : 0 ≤ a) (h1 : a < A.n) : hStore 1 [.pointer (some ⟨N.w, a.toNat * 1, none⟩), .int .u64 v] K (putA N A σ) = K undef (putA N (A.setW a v) σ) := by
  have := cells_lay .u64 A.w v h0 h1
  rw [Nat.zero_add] at this
  rw [hStore_eq (putA_w h) rfl (by simp; omega) rfl, this]
  refine congrArg _ ?_
  simp only [putA]
  rw [Mem.set_comm _ _ _ h.mw, Mem.set_set]; rfl
theorem stT (h : N.ok) {a v : Int} (h0 : 0 ≤ a) (h1 : a < A.n) : hStore 1 [.pointer (some ⟨N.t, a.toNat * 1, none⟩), .int .i64 v] K (putA N A σ) = K undef (putA N (A.setT a v) σ) := by
  have := cells_lay .i64 A.t v h0 h1
  rw [Nat.zero_add] at this
  rw [hStore_eq (putA_t h) rfl (by simp; omega) rfl, this]
  refine congrArg _ ?_
  simp only [putA]
  rw [Mem.set_comm _ _ _ h.mt, Mem.set_comm _ _ _ h.wt, Mem.set_set]; rfl
theorem ldT (h : N.ok) {a : Int} (h0 : 0 ≤ a) (h1 : a < A.n) : hLoad 1 false [.pointer (some ⟨N.t, a.toNat * 1, none⟩)] K (putA N A σ) = K (.int .i64 (A.t a)) (putA N A σ) := by
  rw [hLoad_eq (putA_t h)]
  have := cells_sub .i64 A.t h0 h1
  rw [Nat.zero_add] at this
  rw [this, xOs]
theorem xBuildLast {a b : Int} {K : Value → Prop} : xF (fBuild [(0, 1), (1, 1), (2, 1)] [.int .i64 0, .int .i64 0, .bool false] [0, 1]) [.int .i64 a, .int .i64 b] K = K (.agg #[.int .i64 a, .int .i64 b, .bool false]) := rfl
def Nm.p (N : Nm) : Value := .pointer (some ⟨N.m, 0, none⟩)
theorem c_By {who : Int} : s_mem_Mem_By [N.p, .int .i64 who] K (putA N A σ) = K (.tuple #[]) (putA N (A.by who) σ) := by
  simp only [s_mem_Mem_By, w_mem_Mem_By, Nm.p, stM3, ruS, Nat.reduceAdd, reduceIte, Int.reduceLT, Int.reduceLE, Int.reduceEq, Int.reduceNeg, Int.reduceAdd, Int.reduceSub]
theorem c_step {a : Int} (h0 : 0 ≤ a) (h1 : a < A.n) : s_mem_Mem_step [N.p, .int .i64 a] K (putA N A σ) = K (.bool true) (putA N (A.step a) σ) := by
  simp only [s_mem_Mem_step, w_mem_Mem_step, w_mem_Mem_step_j1, w_mem_Mem_step_j1b, Nm.p, ldM0, ldM2, ldM3, stM2, stM4, xBuildLast, ruS, Nat.reduceAdd, reduceIte, Int.reduceLT, Int.reduceLE, Int.reduceEq, Int.reduceNeg, Int.reduceAdd, Int.reduceSub]
  rw [if_neg (by omega), if_neg (by omega)]
  rfl
theorem c_set (h : N.ok) {a v : Int} (h0 : 0 ≤ a) (h1 : a < A.n) : s_mem_Mem_set [N.p, .int .i64 a, .int .u64 v] K (putA N A σ) = K (.tuple #[]) (putA N (A.lay a v) σ) := by
  have h2 : ∀ c, a < (A.chg c).n := fun _ => h1
  simp only [s_mem_Mem_set, w_mem_Mem_set, w_mem_Mem_set_j1, w_mem_Mem_set_j1b, Nm.p, ldM0, ldM1, ldM2, ldM6, stM6, xIxS h0 h1, xIxS h0 (h2 _), ldW h h0 h1, ruS, Nat.reduceAdd, reduceIte, Int.reduceLT, Int.reduceLE, Int.reduceEq, Int.reduceNeg, Int.reduceAdd, Int.reduceSub]
  by_cases hc : A.w a = v
  · simp only [hc, Ar.chg, ne_eq, not_true_eq_false, decide_false, Bool.false_eq_true, if_false, xIxS h0 h1, ruS, Nat.reduceAdd, reduceIte, Int.reduceLT, Int.reduceLE, Int.reduceEq, Int.reduceNeg, Int.reduceAdd, Int.reduceSub]
    have h3 : a < (A.chg false).n := h1
    rw [show ({ n := A.n, w := A.w, t := A.t, s := A.s, who := A.who, la := A.la, lw := A.lw, lc := false } : Ar) = A.chg false from rfl]
    simp only [xIxS h0 h3, stW h h0 h3, Nat.zero_add]
    refine congrArg _ (congrArg (putA N · σ) ?_)
    simp [Ar.setW, Ar.chg, Ar.lay, hc]
  · simp only [hc, ne_eq, not_false_eq_true, decide_true, if_true, Ar.chg, ruS, Nat.reduceAdd, reduceIte, Int.reduceLT, Int.reduceLE, Int.reduceEq, Int.reduceNeg, Int.reduceAdd, Int.reduceSub]
    have h3 : a < (A.chg true).n := h1
    have h4 : a < ((A.chg true).setT a A.s).n := h1
    rw [show ({ n := A.n, w := A.w, t := A.t, s := A.s, who := A.who, la := A.la, lw := A.lw, lc := true } : Ar) = A.chg true from rfl]
    simp only [xIxS h0 h3, stT h h0 h3, Nat.zero_add]
    simp only [ldM0, ruS, Nat.reduceAdd, reduceIte, Int.reduceLT, Int.reduceLE, Int.reduceEq, Int.reduceNeg, Int.reduceAdd, Int.reduceSub]
    simp only [xIxS h0 h4, stW h h0 h4, Nat.zero_add]
    refine congrArg _ (congrArg (putA N · σ) ?_)
    simp [Ar.setW, Ar.setT, Ar.chg, Ar.lay, hc]
def Ar.load (A : Ar) (a : Int) : Ar := A.step a
def Ar.store (A : Ar) (a v : Int) : Ar := (A.step a).lay a v
def Ar.cas (A : Ar) (a o v : Int) : Ar := if A.w a = o then (A.step a).lay a v else A.step a
def Ar.add (A : Ar) (a d : Int) : Ar := (A.step a).lay a (IntKind.u64.wrap (A.w a + d))
theorem step_lt {a b : Int} (h : a < A.n) : a < (A.step b).n := h
theorem c_mLoad (h : N.ok) {a : Int} (h0 : 0 ≤ a) (h1 : a < A.n) : s_mem_Mem_Load [N.p, .int .i64 a] K (putA N A σ) = K (.tuple #[.int .u64 (A.w a), .int .i64 0]) (putA N (A.load a) σ) := by
  simp only [s_mem_Mem_Load, w_mem_Mem_Load, ruS, Nat.reduceAdd, reduceIte, Int.reduceLT, Int.reduceLE, Int.reduceEq, Int.reduceNeg, Int.reduceAdd, Int.reduceSub, c_step h0 h1]
  simp only [Nm.p, ldM0, xIxS h0 (step_lt h1), ldW h h0 (step_lt h1), ruS, Nat.reduceAdd, reduceIte, Int.reduceLT, Int.reduceLE, Int.reduceEq, Int.reduceNeg, Int.reduceAdd, Int.reduceSub]
  rfl
theorem c_mStore (h : N.ok) {a v : Int} (h0 : 0 ≤ a) (h1 : a < A.n) : s_mem_Mem_Store [N.p, .int .i64 a, .int .u64 v] K (putA N A σ) = K (.int .i64 0) (putA N (A.store a v) σ) := by
  simp only [s_mem_Mem_Store, w_mem_Mem_Store, ruS, Nat.reduceAdd, reduceIte, Int.reduceLT, Int.reduceLE, Int.reduceEq, Int.reduceNeg, Int.reduceAdd, Int.reduceSub, c_step h0 h1, c_set h h0 (step_lt h1)]
  rfl
theorem c_mCas (h : N.ok) {a o v : Int} (h0 : 0 ≤ a) (h1 : a < A.n) : s_mem_Mem_Cas [N.p, .int .i64 a, .int .u64 o, .int .u64 v] K (putA N A σ) = K (.tuple #[.bool (decide (A.w a = o)), .int .i64 0]) (putA N (A.cas a o v) σ) := by
  simp only [s_mem_Mem_Cas, w_mem_Mem_Cas, ruS, Nat.reduceAdd, reduceIte, Int.reduceLT, Int.reduceLE, Int.reduceEq, Int.reduceNeg, Int.reduceAdd, Int.reduceSub, c_step h0 h1]
  have hw : (A.step a).w a = A.w a := rfl
  simp only [Nm.p, ldM0, xIxS h0 (step_lt h1), ldW h h0 (step_lt h1), ruS, Nat.reduceAdd, reduceIte, Int.reduceLT, Int.reduceLE, Int.reduceEq, Int.reduceNeg, Int.reduceAdd, Int.reduceSub, hw]
  by_cases hc : A.w a = o
  · have := c_set (K := fun v σ => K (.tuple #[.bool true, .int .i64 0]) σ) (σ := σ) (v := v) h h0 (step_lt (b := a) h1)
    simp only [Nm.p] at this
    simp only [hc, decide_true, if_false, if_true, not_true_eq_false, ne_eq, this, Ar.cas, ruS, Nat.reduceAdd, reduceIte, Int.reduceLT, Int.reduceLE, Int.reduceEq, Int.reduceNeg, Int.reduceAdd, Int.reduceSub]
  · simp only [hc, decide_false, if_true, not_false_eq_true, ne_eq, Ar.cas, if_false, ruS, Nat.reduceAdd, reduceIte, Int.reduceLT, Int.reduceLE, Int.reduceEq, Int.reduceNeg, Int.reduceAdd, Int.reduceSub]
theorem c_mAdd (h : N.ok) {a d : Int} (h0 : 0 ≤ a) (h1 : a < A.n) : s_mem_Mem_Add [N.p, .int .i64 a, .int .u64 d] K (putA N A σ) = K (.tuple #[.int .u64 (A.w a), .int .i64 0]) (putA N (A.add a d) σ) := by
  simp only [s_mem_Mem_Add, w_mem_Mem_Add, ruS, Nat.reduceAdd, reduceIte, Int.reduceLT, Int.reduceLE, Int.reduceEq, Int.reduceNeg, Int.reduceAdd, Int.reduceSub, c_step h0 h1]
  have hw : (A.step a).w a = A.w a := rfl
  simp only [Nm.p, ldM0, xIxS h0 (step_lt h1), ldW h h0 (step_lt h1), ruS, Nat.reduceAdd, reduceIte, Int.reduceLT, Int.reduceLE, Int.reduceEq, Int.reduceNeg, Int.reduceAdd, Int.reduceSub, hw]
  have := c_set (K := fun q σ => K (.tuple #[.int .u64 (A.w a), .int .i64 0]) σ) (σ := σ) (v := IntKind.u64.wrap (A.w a + d)) h h0 (step_lt (b := a) h1)
  simp only [Nm.p] at this
  simp only [this, ruS, Nat.reduceAdd, reduceIte, Int.reduceLT, Int.reduceLE, Int.reduceEq, Int.reduceNeg, Int.reduceAdd, Int.reduceSub]
  rfl
theorem c_mPeek (h : N.ok) {a : Int} (h0 : 0 ≤ a) (h1 : a < A.n) : s_mem_Mem_Peek [N.p, .int .i64 a] K (putA N A σ) = K (.int .u64 (A.w a)) (putA N A σ) := by
  simp only [s_mem_Mem_Peek, w_mem_Mem_Peek, w_mem_Mem_Peek_j1, w_mem_Mem_Peek_j1b, Nm.p, ldM0, ruS, Nat.reduceAdd, reduceIte, Int.reduceLT, Int.reduceLE, Int.reduceEq, Int.reduceNeg, Int.reduceAdd, Int.reduceSub]
  rw [if_neg (by omega), if_neg (by omega), xIxS h0 h1]
  simp only [Nat.zero_add]
  rw [ldW h h0 h1]
theorem c_mSteps : s_mem_Mem_Steps [N.p] K (putA N A σ) = K (.int .i64 A.s) (putA N A σ) := by
  simp only [s_mem_Mem_Steps, w_mem_Mem_Steps, Nm.p, ldM2, ruS, Nat.reduceAdd, reduceIte, Int.reduceLT, Int.reduceLE, Int.reduceEq, Int.reduceNeg, Int.reduceAdd, Int.reduceSub]
theorem c_mLast : s_mem_Mem_Last [N.p] K (putA N A σ) = K (.agg #[.int .i64 A.la, .int .i64 A.lw, .bool A.lc]) (putA N A σ) := by
  simp only [s_mem_Mem_Last, w_mem_Mem_Last, Nm.p, ldM4, ruS, ruL, ruX, Nat.reduceAdd, reduceIte, Int.reduceLT, Int.reduceLE, Int.reduceEq, Int.reduceNeg, Int.reduceAdd, Int.reduceSub, Nat.reduceLeDiff]
structure Cf where
  T : Int
  S : Int
  C : Int
  W : Int
  G : Int
  P : Int
  R : Int
def Cf.l (c : Cf) : List Value := [.int .i64 c.T, .int .i64 c.S, .int .i64 c.C, .int .i64 c.W, .int .i64 c.G, .int .i64 c.P, .int .i64 c.R]
def Cf.v (c : Cf) : Value := .agg #[.int .i64 c.T, .int .i64 c.S, .int .i64 c.C, .int .i64 c.W, .int .i64 c.G, .int .i64 c.P, .int .i64 c.R]
def Nm.env (N : Nm) (c : Cf) (who : Int) : Value := .agg #[.int .i64 c.T, .int .i64 c.S, .int .i64 c.C, .int .i64 c.W, .int .i64 c.G, .int .i64 c.P, .int .i64 c.R, N.p, .int .i64 who]
variable {C : Cf} {who : Int}
theorem by_lt {a : Int} (h : a < A.n) : a < (A.by who).n := h
theorem c_Load (h : N.ok) {a : Int} (h0 : 0 ≤ a) (h1 : a < A.n) : s_layout_Env_Load [N.env C who, .int .i64 a] K (putA N A σ) = K (.int .u64 (A.w a)) (putA N ((A.by who).load a) σ) := by
  simp only [s_layout_Env_Load, w_layout_Env_Load, Nm.env, ruS, ruL, ruX, Nat.reduceAdd, reduceIte, Int.reduceLT, Int.reduceLE, Int.reduceEq, Int.reduceNeg, Int.reduceAdd, Int.reduceSub, Nat.reduceLeDiff, c_By, c_mLoad h h0 (by_lt h1)]
  rfl
theorem c_Store (h : N.ok) {a v : Int} (h0 : 0 ≤ a) (h1 : a < A.n) : s_layout_Env_Store [N.env C who, .int .i64 a, .int .u64 v] K (putA N A σ) = K (.tuple #[]) (putA N ((A.by who).store a v) σ) := by
  simp only [s_layout_Env_Store, w_layout_Env_Store, Nm.env, ruS, ruL, ruX, Nat.reduceAdd, reduceIte, Int.reduceLT, Int.reduceLE, Int.reduceEq, Int.reduceNeg, Int.reduceAdd, Int.reduceSub, Nat.reduceLeDiff, c_By, c_mStore h h0 (by_lt h1)]
theorem c_Cas (h : N.ok) {a o v : Int} (h0 : 0 ≤ a) (h1 : a < A.n) : s_layout_Env_Cas [N.env C who, .int .i64 a, .int .u64 o, .int .u64 v] K (putA N A σ) = K (.bool (decide (A.w a = o))) (putA N ((A.by who).cas a o v) σ) := by
  simp only [s_layout_Env_Cas, w_layout_Env_Cas, Nm.env, ruS, ruL, ruX, Nat.reduceAdd, reduceIte, Int.reduceLT, Int.reduceLE, Int.reduceEq, Int.reduceNeg, Int.reduceAdd, Int.reduceSub, Nat.reduceLeDiff, c_By, c_mCas h h0 (by_lt h1)]
  rfl
theorem c_Add (h : N.ok) {a d : Int} (h0 : 0 ≤ a) (h1 : a < A.n) : s_layout_Env_Add [N.env C who, .int .i64 a, .int .i64 d] K (putA N A σ) = K (.tuple #[]) (putA N ((A.by who).add a (IntKind.u64.wrap d)) σ) := by
  simp only [s_layout_Env_Add, w_layout_Env_Add, Nm.env, ruS, ruL, ruX, Nat.reduceAdd, reduceIte, Int.reduceLT, Int.reduceLE, Int.reduceEq, Int.reduceNeg, Int.reduceAdd, Int.reduceSub, Nat.reduceLeDiff, c_By, c_mAdd h h0 (by_lt h1)]
theorem c_Now : s_layout_Env_Now [N.env C who] K (putA N A σ) = K (.int .i64 A.s) (putA N A σ) := by
  simp only [s_layout_Env_Now, w_layout_Env_Now, Nm.env, ruS, ruL, ruX, Nat.reduceAdd, reduceIte, Int.reduceLT, Int.reduceLE, Int.reduceEq, Int.reduceNeg, Int.reduceAdd, Int.reduceSub, Nat.reduceLeDiff, c_mSteps]
theorem xAnd63 {K : Value → Prop} {Q : EqK} {k : Nat} {w : Int} (h0 : 0 ≤ w) (h1 : w < 18446744073709551616) (hk : k ≤ 63) : xF (fBin .and Q) [.int .u64 w, .int .u64 (2 ^ k - 1)] K = K (.int .u64 (w % 2 ^ k)) := by
  obtain ⟨n, rfl⟩ := Int.eq_ofNat_of_zero_le h0
  have e : ((2 : Int) ^ k - 1) = ((2 ^ k - 1 : Nat) : Int) := by
    have : 0 < 2 ^ k := Nat.two_pow_pos k
    push_cast [Nat.one_le_two_pow]
    rfl
  have hb : 2 ^ k < 2 ^ 64 := Nat.pow_lt_pow_right (by decide) (by omega)
  have hn : n < 2 ^ 64 := by omega
  have q : (BitVec.ofInt 64 (n : Int) &&& BitVec.ofInt 64 ((2 ^ k - 1 : Nat) : Int)).toNat = n % 2 ^ k := by
    rw [BitVec.toNat_and, BitVec.toNat_ofInt, BitVec.toNat_ofInt]
    have h3 : ((n : Int) % ((2 ^ 64 : Nat) : Int)).toNat = n := by omega
    have h4 : (((2 ^ k - 1 : Nat) : Int) % ((2 ^ 64 : Nat) : Int)).toNat = 2 ^ k - 1 := by omega
    rw [h3, h4, Nat.and_two_pow_sub_one_eq_mod]
  show xF (fBin .and Q) _ _ = _
  simp only [xF, fBin, isSh, binI, Bool.false_eq_true, if_false, if_true]
  show K (.int .u64 (IntKind.u64.wrap ((BitVec.ofInt 64 (n : Int) &&& BitVec.ofInt 64 (2 ^ k - 1)).toNat : Int))) = _
  rw [e, q, IntWalk.u64_in _ (by have := Nat.mod_lt n (Nat.two_pow_pos k); omega)]
  push_cast
  rfl
theorem and2 {K : Value → Prop} {Q : EqK} {w : Int} (h0 : 0 ≤ w) (h1 : w < 18446744073709551616) : xF (fBin .and Q) [.int .u64 w, .int .u64 3] K = K (.int .u64 (w % 4)) := by
  simpa using xAnd63 (K := K) (Q := Q) (k := 2) h0 h1 (by decide)
theorem and3 {K : Value → Prop} {Q : EqK} {w : Int} (h0 : 0 ≤ w) (h1 : w < 18446744073709551616) : xF (fBin .and Q) [.int .u64 w, .int .u64 7] K = K (.int .u64 (w % 8)) := by
  simpa using xAnd63 (K := K) (Q := Q) (k := 3) h0 h1 (by decide)
theorem and6 {K : Value → Prop} {Q : EqK} {w : Int} (h0 : 0 ≤ w) (h1 : w < 18446744073709551616) : xF (fBin .and Q) [.int .u64 w, .int .u64 63] K = K (.int .u64 (w % 64)) := by
  simpa using xAnd63 (K := K) (Q := Q) (k := 6) h0 h1 (by decide)
theorem and16 {K : Value → Prop} {Q : EqK} {w : Int} (h0 : 0 ≤ w) (h1 : w < 18446744073709551616) : xF (fBin .and Q) [.int .u64 w, .int .u64 65535] K = K (.int .u64 (w % 65536)) := by
  simpa using xAnd63 (K := K) (Q := Q) (k := 16) h0 h1 (by decide)
theorem and17 {K : Value → Prop} {Q : EqK} {w : Int} (h0 : 0 ≤ w) (h1 : w < 18446744073709551616) : xF (fBin .and Q) [.int .u64 w, .int .u64 131071] K = K (.int .u64 (w % 131072)) := by
  simpa using xAnd63 (K := K) (Q := Q) (k := 17) h0 h1 (by decide)
theorem and20 {K : Value → Prop} {Q : EqK} {w : Int} (h0 : 0 ≤ w) (h1 : w < 18446744073709551616) : xF (fBin .and Q) [.int .u64 w, .int .u64 1048575] K = K (.int .u64 (w % 1048576)) := by
  simpa using xAnd63 (K := K) (Q := Q) (k := 20) h0 h1 (by decide)
theorem and22 {K : Value → Prop} {Q : EqK} {w : Int} (h0 : 0 ≤ w) (h1 : w < 18446744073709551616) : xF (fBin .and Q) [.int .u64 w, .int .u64 4194303] K = K (.int .u64 (w % 4194304)) := by
  simpa using xAnd63 (K := K) (Q := Q) (k := 22) h0 h1 (by decide)
theorem and36 {K : Value → Prop} {Q : EqK} {w : Int} (h0 : 0 ≤ w) (h1 : w < 18446744073709551616) : xF (fBin .and Q) [.int .u64 w, .int .u64 68719476735] K = K (.int .u64 (w % 68719476736)) := by
  simpa using xAnd63 (K := K) (Q := Q) (k := 36) h0 h1 (by decide)
theorem and40 {K : Value → Prop} {Q : EqK} {w : Int} (h0 : 0 ≤ w) (h1 : w < 18446744073709551616) : xF (fBin .and Q) [.int .u64 w, .int .u64 1099511627775] K = K (.int .u64 (w % 1099511627776)) := by
  simpa using xAnd63 (K := K) (Q := Q) (k := 40) h0 h1 (by decide)
theorem and1 {K : Value → Prop} {Q : EqK} {w : Int} (h0 : 0 ≤ w) (h1 : w < 18446744073709551616) : xF (fBin .and Q) [.int .u64 w, .int .u64 1] K = K (.int .u64 (w % 2)) := by
  simpa using xAnd63 (K := K) (Q := Q) (k := 1) h0 h1 (by decide)
theorem xShrG {K : Value → Prop} {Q : EqK} {k' : IntKind} {s : Nat} {w : Int} (h0 : 0 ≤ w) (hs : s ≤ 64) : xF (fBin .shr Q) [.int .u64 w, .int k' (s : Int)] K = K (.int .u64 (w / 2 ^ s)) := by
  have h : ¬ ((s : Int) < 0) := by omega
  have hm : min s IntKind.u64.bits = s := Nat.min_eq_left hs
  simp only [xF, fBin, isSh, shI, if_true, if_neg h, Int.toNat_natCast, hm]
  rw [Int.fdiv_eq_ediv_of_nonneg _ (by exact Int.le_of_lt (Int.pow_pos (by decide)))]
theorem xShlG {K : Value → Prop} {Q : EqK} {k' : IntKind} {s : Nat} {w : Int} (h0 : 0 ≤ w) (h1 : w * 2 ^ s < 18446744073709551616) (hs : s ≤ 64) : xF (fBin .shl Q) [.int .u64 w, .int k' (s : Int)] K = K (.int .u64 (w * 2 ^ s)) := by
  have h : ¬ ((s : Int) < 0) := by omega
  have hm : min s IntKind.u64.bits = s := Nat.min_eq_left hs
  simp only [xF, fBin, isSh, shI, if_true, if_neg h, Int.toNat_natCast, hm]
  rw [IntWalk.u64_in _ ⟨Int.mul_nonneg h0 (Int.le_of_lt (Int.pow_pos (by decide))), by omega⟩]
theorem xOrG {K : Value → Prop} {Q : EqK} {s : Nat} {a c : Int} (h0 : 0 ≤ a) (h1 : a < 2 ^ s) (h2 : 0 ≤ c) (h3 : a + c * 2 ^ s < 18446744073709551616) :
    xF (fBin .or Q) [.int .u64 a, .int .u64 (c * 2 ^ s)] K = K (.int .u64 (a + c * 2 ^ s)) := by
  obtain ⟨m, rfl⟩ := Int.eq_ofNat_of_zero_le h0
  obtain ⟨n, rfl⟩ := Int.eq_ofNat_of_zero_le h2
  have e : (n : Int) * 2 ^ s = ((n * 2 ^ s : Nat) : Int) := by push_cast; rfl
  rw [e] at h3 ⊢
  have hm : m < 2 ^ s := by exact_mod_cast h1
  have q : (BitVec.ofInt 64 (m : Int) ||| BitVec.ofInt 64 ((n * 2 ^ s : Nat) : Int)).toNat = m + n * 2 ^ s := by
    rw [BitVec.toNat_or, BitVec.toNat_ofInt, BitVec.toNat_ofInt]
    have h4 : ((m : Int) % ((2 ^ 64 : Nat) : Int)).toNat = m := by omega
    have h5 : (((n * 2 ^ s : Nat) : Int) % ((2 ^ 64 : Nat) : Int)).toNat = n * 2 ^ s := by omega
    rw [h4, h5, Nat.mul_comm n, Nat.or_comm, ← Nat.two_pow_add_eq_or_of_lt hm, Nat.add_comm]
  simp only [xF, fBin, isSh, binI, Bool.false_eq_true, if_false, if_true]
  show K (.int .u64 (IntKind.u64.wrap ((BitVec.ofInt 64 (m : Int) ||| BitVec.ofInt 64 ((n * 2 ^ s : Nat) : Int)).toNat : Int))) = _
  rw [q, IntWalk.u64_in _ (by omega)]
  push_cast
  rfl
theorem shr2 {K : Value → Prop} {Q : EqK} {k' : IntKind} {w : Int} (h0 : 0 ≤ w) : xF (fBin .shr Q) [.int .u64 w, .int k' 2] K = K (.int .u64 (w / 4)) := by
  simpa using xShrG (K := K) (Q := Q) (k' := k') (s := 2) h0 (by decide)
theorem shl2 {K : Value → Prop} {Q : EqK} {k' : IntKind} {w : Int} (h0 : 0 ≤ w) (h1 : w * 4 < 18446744073709551616) : xF (fBin .shl Q) [.int .u64 w, .int k' 2] K = K (.int .u64 (w * 4)) := by
  simpa using xShlG (K := K) (Q := Q) (k' := k') (s := 2) h0 (by simpa using h1) (by decide)
theorem or2 {K : Value → Prop} {Q : EqK} {a c : Int} (h0 : 0 ≤ a) (h1 : a < 4) (h2 : 0 ≤ c) (h3 : a + c * 4 < 18446744073709551616) : xF (fBin .or Q) [.int .u64 a, .int .u64 (c * 4)] K = K (.int .u64 (a + c * 4)) := by
  simpa using xOrG (K := K) (Q := Q) (s := 2) h0 (by simpa using h1) h2 (by simpa using h3)
theorem shr3 {K : Value → Prop} {Q : EqK} {k' : IntKind} {w : Int} (h0 : 0 ≤ w) : xF (fBin .shr Q) [.int .u64 w, .int k' 3] K = K (.int .u64 (w / 8)) := by
  simpa using xShrG (K := K) (Q := Q) (k' := k') (s := 3) h0 (by decide)
theorem shl3 {K : Value → Prop} {Q : EqK} {k' : IntKind} {w : Int} (h0 : 0 ≤ w) (h1 : w * 8 < 18446744073709551616) : xF (fBin .shl Q) [.int .u64 w, .int k' 3] K = K (.int .u64 (w * 8)) := by
  simpa using xShlG (K := K) (Q := Q) (k' := k') (s := 3) h0 (by simpa using h1) (by decide)
theorem or3 {K : Value → Prop} {Q : EqK} {a c : Int} (h0 : 0 ≤ a) (h1 : a < 8) (h2 : 0 ≤ c) (h3 : a + c * 8 < 18446744073709551616) : xF (fBin .or Q) [.int .u64 a, .int .u64 (c * 8)] K = K (.int .u64 (a + c * 8)) := by
  simpa using xOrG (K := K) (Q := Q) (s := 3) h0 (by simpa using h1) h2 (by simpa using h3)
theorem shr8 {K : Value → Prop} {Q : EqK} {k' : IntKind} {w : Int} (h0 : 0 ≤ w) : xF (fBin .shr Q) [.int .u64 w, .int k' 8] K = K (.int .u64 (w / 256)) := by
  simpa using xShrG (K := K) (Q := Q) (k' := k') (s := 8) h0 (by decide)
theorem shl8 {K : Value → Prop} {Q : EqK} {k' : IntKind} {w : Int} (h0 : 0 ≤ w) (h1 : w * 256 < 18446744073709551616) : xF (fBin .shl Q) [.int .u64 w, .int k' 8] K = K (.int .u64 (w * 256)) := by
  simpa using xShlG (K := K) (Q := Q) (k' := k') (s := 8) h0 (by simpa using h1) (by decide)
theorem or8 {K : Value → Prop} {Q : EqK} {a c : Int} (h0 : 0 ≤ a) (h1 : a < 256) (h2 : 0 ≤ c) (h3 : a + c * 256 < 18446744073709551616) : xF (fBin .or Q) [.int .u64 a, .int .u64 (c * 256)] K = K (.int .u64 (a + c * 256)) := by
  simpa using xOrG (K := K) (Q := Q) (s := 8) h0 (by simpa using h1) h2 (by simpa using h3)
theorem shr16 {K : Value → Prop} {Q : EqK} {k' : IntKind} {w : Int} (h0 : 0 ≤ w) : xF (fBin .shr Q) [.int .u64 w, .int k' 16] K = K (.int .u64 (w / 65536)) := by
  simpa using xShrG (K := K) (Q := Q) (k' := k') (s := 16) h0 (by decide)
theorem shl16 {K : Value → Prop} {Q : EqK} {k' : IntKind} {w : Int} (h0 : 0 ≤ w) (h1 : w * 65536 < 18446744073709551616) : xF (fBin .shl Q) [.int .u64 w, .int k' 16] K = K (.int .u64 (w * 65536)) := by
  simpa using xShlG (K := K) (Q := Q) (k' := k') (s := 16) h0 (by simpa using h1) (by decide)
theorem or16 {K : Value → Prop} {Q : EqK} {a c : Int} (h0 : 0 ≤ a) (h1 : a < 65536) (h2 : 0 ≤ c) (h3 : a + c * 65536 < 18446744073709551616) : xF (fBin .or Q) [.int .u64 a, .int .u64 (c * 65536)] K = K (.int .u64 (a + c * 65536)) := by
  simpa using xOrG (K := K) (Q := Q) (s := 16) h0 (by simpa using h1) h2 (by simpa using h3)
theorem shr17 {K : Value → Prop} {Q : EqK} {k' : IntKind} {w : Int} (h0 : 0 ≤ w) : xF (fBin .shr Q) [.int .u64 w, .int k' 17] K = K (.int .u64 (w / 131072)) := by
  simpa using xShrG (K := K) (Q := Q) (k' := k') (s := 17) h0 (by decide)
theorem shl17 {K : Value → Prop} {Q : EqK} {k' : IntKind} {w : Int} (h0 : 0 ≤ w) (h1 : w * 131072 < 18446744073709551616) : xF (fBin .shl Q) [.int .u64 w, .int k' 17] K = K (.int .u64 (w * 131072)) := by
  simpa using xShlG (K := K) (Q := Q) (k' := k') (s := 17) h0 (by simpa using h1) (by decide)
theorem or17 {K : Value → Prop} {Q : EqK} {a c : Int} (h0 : 0 ≤ a) (h1 : a < 131072) (h2 : 0 ≤ c) (h3 : a + c * 131072 < 18446744073709551616) : xF (fBin .or Q) [.int .u64 a, .int .u64 (c * 131072)] K = K (.int .u64 (a + c * 131072)) := by
  simpa using xOrG (K := K) (Q := Q) (s := 17) h0 (by simpa using h1) h2 (by simpa using h3)
theorem shr18 {K : Value → Prop} {Q : EqK} {k' : IntKind} {w : Int} (h0 : 0 ≤ w) : xF (fBin .shr Q) [.int .u64 w, .int k' 18] K = K (.int .u64 (w / 262144)) := by
  simpa using xShrG (K := K) (Q := Q) (k' := k') (s := 18) h0 (by decide)
theorem shl18 {K : Value → Prop} {Q : EqK} {k' : IntKind} {w : Int} (h0 : 0 ≤ w) (h1 : w * 262144 < 18446744073709551616) : xF (fBin .shl Q) [.int .u64 w, .int k' 18] K = K (.int .u64 (w * 262144)) := by
  simpa using xShlG (K := K) (Q := Q) (k' := k') (s := 18) h0 (by simpa using h1) (by decide)
theorem or18 {K : Value → Prop} {Q : EqK} {a c : Int} (h0 : 0 ≤ a) (h1 : a < 262144) (h2 : 0 ≤ c) (h3 : a + c * 262144 < 18446744073709551616) : xF (fBin .or Q) [.int .u64 a, .int .u64 (c * 262144)] K = K (.int .u64 (a + c * 262144)) := by
  simpa using xOrG (K := K) (Q := Q) (s := 18) h0 (by simpa using h1) h2 (by simpa using h3)
theorem shr23 {K : Value → Prop} {Q : EqK} {k' : IntKind} {w : Int} (h0 : 0 ≤ w) : xF (fBin .shr Q) [.int .u64 w, .int k' 23] K = K (.int .u64 (w / 8388608)) := by
  simpa using xShrG (K := K) (Q := Q) (k' := k') (s := 23) h0 (by decide)
theorem shl23 {K : Value → Prop} {Q : EqK} {k' : IntKind} {w : Int} (h0 : 0 ≤ w) (h1 : w * 8388608 < 18446744073709551616) : xF (fBin .shl Q) [.int .u64 w, .int k' 23] K = K (.int .u64 (w * 8388608)) := by
  simpa using xShlG (K := K) (Q := Q) (k' := k') (s := 23) h0 (by simpa using h1) (by decide)
theorem or23 {K : Value → Prop} {Q : EqK} {a c : Int} (h0 : 0 ≤ a) (h1 : a < 8388608) (h2 : 0 ≤ c) (h3 : a + c * 8388608 < 18446744073709551616) : xF (fBin .or Q) [.int .u64 a, .int .u64 (c * 8388608)] K = K (.int .u64 (a + c * 8388608)) := by
  simpa using xOrG (K := K) (Q := Q) (s := 23) h0 (by simpa using h1) h2 (by simpa using h3)
theorem shr28 {K : Value → Prop} {Q : EqK} {k' : IntKind} {w : Int} (h0 : 0 ≤ w) : xF (fBin .shr Q) [.int .u64 w, .int k' 28] K = K (.int .u64 (w / 268435456)) := by
  simpa using xShrG (K := K) (Q := Q) (k' := k') (s := 28) h0 (by decide)
theorem shl28 {K : Value → Prop} {Q : EqK} {k' : IntKind} {w : Int} (h0 : 0 ≤ w) (h1 : w * 268435456 < 18446744073709551616) : xF (fBin .shl Q) [.int .u64 w, .int k' 28] K = K (.int .u64 (w * 268435456)) := by
  simpa using xShlG (K := K) (Q := Q) (k' := k') (s := 28) h0 (by simpa using h1) (by decide)
theorem or28 {K : Value → Prop} {Q : EqK} {a c : Int} (h0 : 0 ≤ a) (h1 : a < 268435456) (h2 : 0 ≤ c) (h3 : a + c * 268435456 < 18446744073709551616) : xF (fBin .or Q) [.int .u64 a, .int .u64 (c * 268435456)] K = K (.int .u64 (a + c * 268435456)) := by
  simpa using xOrG (K := K) (Q := Q) (s := 28) h0 (by simpa using h1) h2 (by simpa using h3)
theorem shr32 {K : Value → Prop} {Q : EqK} {k' : IntKind} {w : Int} (h0 : 0 ≤ w) : xF (fBin .shr Q) [.int .u64 w, .int k' 32] K = K (.int .u64 (w / 4294967296)) := by
  simpa using xShrG (K := K) (Q := Q) (k' := k') (s := 32) h0 (by decide)
theorem shr34 {K : Value → Prop} {Q : EqK} {k' : IntKind} {w : Int} (h0 : 0 ≤ w) : xF (fBin .shr Q) [.int .u64 w, .int k' 34] K = K (.int .u64 (w / 17179869184)) := by
  simpa using xShrG (K := K) (Q := Q) (k' := k') (s := 34) h0 (by decide)
theorem shl34 {K : Value → Prop} {Q : EqK} {k' : IntKind} {w : Int} (h0 : 0 ≤ w) (h1 : w * 17179869184 < 18446744073709551616) : xF (fBin .shl Q) [.int .u64 w, .int k' 34] K = K (.int .u64 (w * 17179869184)) := by
  simpa using xShlG (K := K) (Q := Q) (k' := k') (s := 34) h0 (by simpa using h1) (by decide)
theorem or34 {K : Value → Prop} {Q : EqK} {a c : Int} (h0 : 0 ≤ a) (h1 : a < 17179869184) (h2 : 0 ≤ c) (h3 : a + c * 17179869184 < 18446744073709551616) : xF (fBin .or Q) [.int .u64 a, .int .u64 (c * 17179869184)] K = K (.int .u64 (a + c * 17179869184)) := by
  simpa using xOrG (K := K) (Q := Q) (s := 34) h0 (by simpa using h1) h2 (by simpa using h3)
theorem shr39 {K : Value → Prop} {Q : EqK} {k' : IntKind} {w : Int} (h0 : 0 ≤ w) : xF (fBin .shr Q) [.int .u64 w, .int k' 39] K = K (.int .u64 (w / 549755813888)) := by
  simpa using xShrG (K := K) (Q := Q) (k' := k') (s := 39) h0 (by decide)
theorem shl39 {K : Value → Prop} {Q : EqK} {k' : IntKind} {w : Int} (h0 : 0 ≤ w) (h1 : w * 549755813888 < 18446744073709551616) : xF (fBin .shl Q) [.int .u64 w, .int k' 39] K = K (.int .u64 (w * 549755813888)) := by
  simpa using xShlG (K := K) (Q := Q) (k' := k') (s := 39) h0 (by simpa using h1) (by decide)
theorem or39 {K : Value → Prop} {Q : EqK} {a c : Int} (h0 : 0 ≤ a) (h1 : a < 549755813888) (h2 : 0 ≤ c) (h3 : a + c * 549755813888 < 18446744073709551616) : xF (fBin .or Q) [.int .u64 a, .int .u64 (c * 549755813888)] K = K (.int .u64 (a + c * 549755813888)) := by
  simpa using xOrG (K := K) (Q := Q) (s := 39) h0 (by simpa using h1) h2 (by simpa using h3)
theorem shr40 {K : Value → Prop} {Q : EqK} {k' : IntKind} {w : Int} (h0 : 0 ≤ w) : xF (fBin .shr Q) [.int .u64 w, .int k' 40] K = K (.int .u64 (w / 1099511627776)) := by
  simpa using xShrG (K := K) (Q := Q) (k' := k') (s := 40) h0 (by decide)
theorem shl40 {K : Value → Prop} {Q : EqK} {k' : IntKind} {w : Int} (h0 : 0 ≤ w) (h1 : w * 1099511627776 < 18446744073709551616) : xF (fBin .shl Q) [.int .u64 w, .int k' 40] K = K (.int .u64 (w * 1099511627776)) := by
  simpa using xShlG (K := K) (Q := Q) (k' := k') (s := 40) h0 (by simpa using h1) (by decide)
theorem or40 {K : Value → Prop} {Q : EqK} {a c : Int} (h0 : 0 ≤ a) (h1 : a < 1099511627776) (h2 : 0 ≤ c) (h3 : a + c * 1099511627776 < 18446744073709551616) : xF (fBin .or Q) [.int .u64 a, .int .u64 (c * 1099511627776)] K = K (.int .u64 (a + c * 1099511627776)) := by
  simpa using xOrG (K := K) (Q := Q) (s := 40) h0 (by simpa using h1) h2 (by simpa using h3)
theorem shr50 {K : Value → Prop} {Q : EqK} {k' : IntKind} {w : Int} (h0 : 0 ≤ w) : xF (fBin .shr Q) [.int .u64 w, .int k' 50] K = K (.int .u64 (w / 1125899906842624)) := by
  simpa using xShrG (K := K) (Q := Q) (k' := k') (s := 50) h0 (by decide)
theorem or50 {K : Value → Prop} {Q : EqK} {a c : Int} (h0 : 0 ≤ a) (h1 : a < 1125899906842624) (h2 : 0 ≤ c) (h3 : a + c * 1125899906842624 < 18446744073709551616) : xF (fBin .or Q) [.int .u64 a, .int .u64 (c * 1125899906842624)] K = K (.int .u64 (a + c * 1125899906842624)) := by
  simpa using xOrG (K := K) (Q := Q) (s := 50) h0 (by simpa using h1) h2 (by simpa using h3)
theorem shr63 {K : Value → Prop} {Q : EqK} {k' : IntKind} {w : Int} (h0 : 0 ≤ w) : xF (fBin .shr Q) [.int .u64 w, .int k' 63] K = K (.int .u64 (w / 9223372036854775808)) := by
  simpa using xShrG (K := K) (Q := Q) (k' := k') (s := 63) h0 (by decide)
def cl (n m : Int) : Int := min (max n 0) m
theorem cl_nn {n m : Int} (h : 0 ≤ m) : 0 ≤ cl n m := by unfold cl; omega
theorem cl_le {n m : Int} : cl n m ≤ m := by unfold cl; omega
theorem cl_in {n m : Int} (h0 : 0 ≤ n) (h1 : n ≤ m) : cl n m = n := by unfold cl; omega
theorem c_fit {n m : Int} (h0 : 0 ≤ m) (h1 : m < 18446744073709551616) : s_word_fit [.int .i64 n, .int .i64 m] K σ = K (.int .u64 (cl n m)) σ := by
  simp only [s_word_fit, w_word_fit, ruS, Nat.reduceAdd, reduceIte, Int.reduceLT, Int.reduceLE, Int.reduceEq, Int.reduceNeg, Int.reduceAdd, Int.reduceSub]
  rw [IntWalk.u64_in _ (by omega)]; rfl
def putTop (s c : Int) : Int := cl (min s 65535 + 1) 65536 + cl c 68719476735 * 131072
theorem putTop_in (s c : Int) : 0 ≤ putTop s c ∧ putTop s c < 18446744073709551616 := by unfold putTop cl; omega
theorem c_PutTop {s c : Int} (h : -9223372036854775808 ≤ s) : s_word_PutTop [.int .i64 s, .int .i64 c] K σ = K (.int .u64 (putTop s c)) σ := by
  simp only [s_word_PutTop, w_word_PutTop, ruS, Nat.reduceAdd, reduceIte, Int.reduceLT, Int.reduceLE, Int.reduceEq, Int.reduceNeg, Int.reduceAdd, Int.reduceSub]
  have h1 := @cl_le (min s 65535 + 1) 65536
  have h2 := @cl_nn (min s 65535 + 1) 65536 (by decide)
  have h3 := @cl_le c 68719476735
  have h4 := @cl_nn c 68719476735 (by decide)
  rw [IntWalk.i64_in _ (by omega), c_fit (by decide) (by decide), c_fit (by decide) (by decide), shl17 h4 (by omega), or17 h2 (by omega) h4 (by omega)]
  rfl
def topS (w : Int) : Int := w % 131072 - 1
def topN (w : Int) : Int := w / 131072 % 68719476736
theorem c_Top {w : Int} (h0 : 0 ≤ w) (h1 : w < 18446744073709551616) : s_word_Top [.int .u64 w] K σ = K (.tuple #[.int .i64 (topS w), .int .i64 (topN w)]) σ := by
  simp only [s_word_Top, w_word_Top, ruS, Nat.reduceAdd, reduceIte, Int.reduceLT, Int.reduceLE, Int.reduceEq, Int.reduceNeg, Int.reduceAdd, Int.reduceSub]
  rw [and17 h0 h1]
  simp only [ruS, Nat.reduceAdd, reduceIte, Int.reduceLT, Int.reduceLE, Int.reduceEq, Int.reduceNeg, Int.reduceAdd, Int.reduceSub]
  rw [shr17 h0, and36 (by omega) (by omega)]
  simp only [ruS, Nat.reduceAdd, reduceIte, Int.reduceLT, Int.reduceLE, Int.reduceEq, Int.reduceNeg, Int.reduceAdd, Int.reduceSub]
  rw [IntWalk.i64_in (w % 131072) (by omega), IntWalk.i64_in (w % 131072 - 1) (by omega), IntWalk.i64_in (w / 131072 % 68719476736) (by omega)]
  rfl
def putSlot (st ad ge ve : Int) : Int := cl st 7 + cl ad 1048575 * 8 + cl ge 65535 * 8388608 + cl ve 4194303 * 549755813888
theorem putSlot_in (st ad ge ve : Int) : 0 ≤ putSlot st ad ge ve ∧ putSlot st ad ge ve < 18446744073709551616 := by unfold putSlot cl; omega
theorem c_PutSlot {st ad ge ve : Int} : s_word_PutSlot [.agg #[.int .i64 st, .int .i64 ad, .int .i64 ge, .int .i64 ve]] K σ = K (.int .u64 (putSlot st ad ge ve)) σ := by
  simp only [s_word_PutSlot, w_word_PutSlot, ruS, ruL, ruX, Nat.reduceAdd, reduceIte, Int.reduceLT, Int.reduceLE, Int.reduceEq, Int.reduceNeg, Int.reduceAdd, Int.reduceSub, Nat.reduceLeDiff]
  have h1 := @cl_le st 7
  have h2 := @cl_nn st 7 (by decide)
  have h3 := @cl_le ad 1048575
  have h4 := @cl_nn ad 1048575 (by decide)
  have h5 := @cl_le ge 65535
  have h6 := @cl_nn ge 65535 (by decide)
  have h7 := @cl_le ve 4194303
  have h8 := @cl_nn ve 4194303 (by decide)
  rw [c_fit (by decide) (by decide), c_fit (by decide) (by decide), shl3 h4 (by omega), or3 h2 (by omega) h4 (by omega), c_fit (by decide) (by decide), shl23 h6 (by omega), or23 (by omega) (by omega) h6 (by omega),
    c_fit (by decide) (by decide), shl39 h8 (by omega), or39 (by omega) (by omega) h8 (by omega)]
  rfl
structure isA (N : Nm) (A : Ar) (σ : Mem) : Prop where
  m : σ.get N.m = some ⟨A.mc N, true⟩
  w : σ.get N.w = some A.wb
  t : σ.get N.t = some A.tb
def Ext (σ τ : Mem) : Prop := ∀ i b, σ.get i = some b → τ.get i = some b
def Keep (L : List Nat) (σ τ : Mem) : Prop := ∀ i b, σ.get i = some b → i ∉ L → τ.get i = some b
theorem Ext.refl : Ext σ σ := fun _ _ h => h
theorem Ext.trans {τ υ : Mem} (h : Ext σ τ) (k : Ext τ υ) : Ext σ υ := fun i b q => k i b (h i b q)
theorem Keep.refl {L : List Nat} : Keep L σ σ := fun _ _ h _ => h
theorem Keep.trans {L : List Nat} {τ υ : Mem} (h : Keep L σ τ) (k : Keep L τ υ) : Keep L σ υ := fun i b q n => k i b (h i b q n) n
theorem Keep.mono {L L' : List Nat} {τ : Mem} (h : Keep L σ τ) (hl : ∀ i ∈ L, i ∈ L') : Keep L' σ τ := fun i b q n => h i b q fun hi => n (hl i hi)
theorem Ext.keep {L : List Nat} {τ : Mem} (h : Ext σ τ) : Keep L σ τ := fun i b q _ => h i b q
theorem Ext.fresh {id : Nat} {b : Blk} (h : σ.get id = none) : Ext σ (σ.set id b) := by
  intro i c hi
  rw [Mem.get_set_ne _ _ (by rintro rfl; rw [h] at hi; cases hi)]
  exact hi
theorem isA_put (h : N.ok) : isA N A (putA N A σ) := ⟨putA_m, putA_w h, putA_t h⟩
theorem isA.eq (h : isA N A σ) : σ = putA N A σ := by
  unfold putA
  rw [Mem.set_self h.t, Mem.set_self h.w, Mem.set_self h.m]
theorem isA.ext {τ : Mem} (h : isA N A σ) (k : Ext σ τ) : isA N A τ := ⟨k _ _ h.m, k _ _ h.w, k _ _ h.t⟩
def Nm.l (N : Nm) : List Nat := [N.m, N.w, N.t]
theorem isA.keep {L : List Nat} {τ : Mem} (h : isA N A σ) (k : Keep L σ τ) (hd : N.m ∉ L ∧ N.w ∉ L ∧ N.t ∉ L) : isA N A τ := ⟨k _ _ h.m hd.1, k _ _ h.w hd.2.1, k _ _ h.t hd.2.2⟩
theorem Keep.put : Keep N.l σ (putA N A σ) := by
  intro i b hi hn
  simp only [Nm.l, List.mem_cons, List.not_mem_nil, or_false, not_or] at hn
  rw [putA_ne hn.1 hn.2.1 hn.2.2]; exact hi
theorem isA.fresh (h : isA N A σ) {id : Nat} (hid : σ.get id = none) : id ≠ N.m ∧ id ≠ N.w ∧ id ≠ N.t :=
  ⟨fun e => (by rw [e, h.m] at hid; cases hid), fun e => (by rw [e, h.w] at hid; cases hid), fun e => (by rw [e, h.t] at hid; cases hid)⟩
structure Cf.ok (c : Cf) : Prop where
  T : 1 ≤ c.T ∧ c.T ≤ 8
  S : 1 ≤ c.S ∧ c.S ≤ 65536
  C : 1 ≤ c.C ∧ c.C ≤ 64
  W : 17 ≤ c.W ∧ c.W ≤ 256
  G : 1 ≤ c.G ∧ c.G ≤ 65535
  P : 0 ≤ c.P ∧ c.P ≤ 1000
  R : 1 ≤ c.R ∧ c.R ≤ 16
def Cf.slot (c : Cf) (s : Int) : Int := 6 + c.T + 2 * s
def Cf.chunk (c : Cf) (k : Int) : Int := 6 + c.T + 2 * c.S + 3 * k
def Cf.base (c : Cf) (k : Int) : Int := 6 + c.T + 2 * c.S + 3 * c.C + c.W * k
def Cf.len (c : Cf) : Int := c.base c.C
theorem mulW {c : Cf} (h : c.ok) {k : Int} (h0 : 0 ≤ k) (h1 : k ≤ 1048576) : 0 ≤ c.W * k ∧ c.W * k ≤ 268435456 := by
  have hW := h.W
  refine ⟨Int.mul_nonneg (by omega) h0, ?_⟩
  calc c.W * k ≤ 256 * k := Int.mul_le_mul_of_nonneg_right hW.2 h0
    _ ≤ 268435456 := by omega
theorem c_lTop : s_layout_Top [] K σ = K (.int .i64 1) σ := by simp only [s_layout_Top, w_layout_Top, ruS, Nat.reduceAdd, reduceIte, Int.reduceLT, Int.reduceLE, Int.reduceEq, Int.reduceNeg, Int.reduceAdd, Int.reduceSub]
theorem c_Open {k : Int} (h0 : 0 ≤ k) (h1 : k ≤ 65536) : s_layout_Open [.int .i64 k] K σ = K (.int .i64 (2 + k)) σ := by
  simp only [s_layout_Open, w_layout_Open, ruS, Nat.reduceAdd, reduceIte, Int.reduceLT, Int.reduceLE, Int.reduceEq, Int.reduceNeg, Int.reduceAdd, Int.reduceSub]
  rw [IntWalk.i64_in _ (by omega)]
theorem c_Slot (h : C.ok) {s : Int} (h0 : 0 ≤ s) (h1 : s ≤ 65536) : s_layout_Slot [C.v, .int .i64 s] K σ = K (.int .i64 (C.slot s)) σ := by
  have := h.T
  simp only [s_layout_Slot, w_layout_Slot, Cf.v, ruS, ruL, ruX, Nat.reduceAdd, reduceIte, Int.reduceLT, Int.reduceLE, Int.reduceEq, Int.reduceNeg, Int.reduceAdd, Int.reduceSub, Nat.reduceLeDiff]
  rw [IntWalk.i64_in (6 + C.T) (by omega), IntWalk.i64_in (2 * s) (by omega), IntWalk.i64_in _ (by omega)]; rfl
theorem c_Chunk (h : C.ok) {s : Int} (h0 : 0 ≤ s) (h1 : s ≤ 65536) : s_layout_Chunk [C.v, .int .i64 s] K σ = K (.int .i64 (C.chunk s)) σ := by
  have := h.T
  have := h.S
  simp only [s_layout_Chunk, w_layout_Chunk, Cf.v, ruS, ruL, ruX, Nat.reduceAdd, reduceIte, Int.reduceLT, Int.reduceLE, Int.reduceEq, Int.reduceNeg, Int.reduceAdd, Int.reduceSub, Nat.reduceLeDiff]
  rw [IntWalk.i64_in (6 + C.T) (by omega), IntWalk.i64_in (2 * C.S) (by omega), IntWalk.i64_in (3 * s) (by omega), IntWalk.i64_in (6 + C.T + 2 * C.S) (by omega), IntWalk.i64_in _ (by omega)]; rfl
theorem c_Base (h : C.ok) {s : Int} (h0 : 0 ≤ s) (h1 : s ≤ 65536) : s_layout_Base [C.v, .int .i64 s] K σ = K (.int .i64 (C.base s)) σ := by
  have := h.T
  have := h.S
  have := h.C
  have := mulW h h0 (by omega)
  simp only [s_layout_Base, w_layout_Base, Cf.v, ruS, ruL, ruX, Nat.reduceAdd, reduceIte, Int.reduceLT, Int.reduceLE, Int.reduceEq, Int.reduceNeg, Int.reduceAdd, Int.reduceSub, Nat.reduceLeDiff]
  rw [IntWalk.i64_in (6 + C.T) (by omega), IntWalk.i64_in (2 * C.S) (by omega), IntWalk.i64_in (3 * C.C) (by omega), IntWalk.i64_in (6 + C.T + 2 * C.S) (by omega), IntWalk.i64_in (6 + C.T + 2 * C.S + 3 * C.C) (by omega), IntWalk.i64_in (C.W * s) (by omega), IntWalk.i64_in _ (by omega)]; rfl
theorem c_lLen (h : C.ok) : s_layout_Len [C.v] K σ = K (.int .i64 C.len) σ := by
  have := h.C
  have e := fun (K : Value → Mem → Prop) σ => c_Base (K := K) (σ := σ) h (s := C.C) (by omega) (by omega)
  simp only [s_layout_Len, w_layout_Len, Cf.v, ruS, ruL, ruX, Nat.reduceAdd, reduceIte, Int.reduceLT, Int.reduceLE, Int.reduceEq, Int.reduceNeg, Int.reduceAdd, Int.reduceSub, Nat.reduceLeDiff] at e ⊢
  rw [e]; rfl
section
variable {K : Value → Prop}
theorem shl2_0 : xF (fBin .shl .no) [.int .i64 2, .int .i64 0] K = K (.int .i64 2) := nr rfl
theorem shl2_1 : xF (fBin .shl .no) [.int .i64 2, .int .i64 1] K = K (.int .i64 4) := nr rfl
theorem shl2_2 : xF (fBin .shl .no) [.int .i64 2, .int .i64 2] K = K (.int .i64 8) := nr rfl
theorem shl2_3 : xF (fBin .shl .no) [.int .i64 2, .int .i64 3] K = K (.int .i64 16) := nr rfl
end
theorem i64_1 : IntKind.i64.wrap 1 = 1 := nr rfl
theorem i64_2 : IntKind.i64.wrap 2 = 2 := nr rfl
theorem i64_3 : IntKind.i64.wrap 3 = 3 := nr rfl
theorem i64_4 : IntKind.i64.wrap 4 = 4 := nr rfl
theorem i64_5 : IntKind.i64.wrap 5 = 5 := nr rfl
theorem i64_9 : IntKind.i64.wrap 9 = 9 := nr rfl
theorem i64_17 : IntKind.i64.wrap 17 = 17 := nr rfl
def classOf (n : Int) : Int := if n < 1 then -1 else if n ≤ 2 then 0 else if n ≤ 4 then 1 else if n ≤ 8 then 2 else if n ≤ 16 then 3 else -1
theorem c_Class {n : Int} (hk : K (.int .i64 (classOf n)) σ) : s_layout_Class [.int .i64 n] K σ := by
  simp only [s_layout_Class, w_layout_Class, ruS, Nat.reduceAdd, reduceIte, Int.reduceLT, Int.reduceLE, Int.reduceEq, Int.reduceNeg, Int.reduceAdd, Int.reduceSub]
  by_cases h : 1 ≤ n
  · unfold classOf at hk
    rw [if_neg (by omega)] at hk
    refine xLoop_fold ?_
    simp only [w_layout_Class_l3, w_layout_Class_l3b, w_layout_Class_j2, w_layout_Class_j2b, w_layout_Class_j1, w_layout_Class_j1b, ruS, Nat.reduceAdd, reduceIte, Int.reduceLT, Int.reduceLE, Int.reduceEq, Int.reduceNeg, Int.reduceAdd, Int.reduceSub, h, shl2_0, i64_1]
    by_cases h1 : n ≤ 2
    · rw [if_pos h1] at hk ⊢; exact hk
    rw [if_neg h1] at hk ⊢
    refine xLoop_fold ?_
    simp only [w_layout_Class_l3, w_layout_Class_l3b, w_layout_Class_j2, w_layout_Class_j2b, w_layout_Class_j1, w_layout_Class_j1b, ruS, Nat.reduceAdd, reduceIte, Int.reduceLT, Int.reduceLE, Int.reduceEq, Int.reduceNeg, Int.reduceAdd, Int.reduceSub, h, shl2_1, i64_2]
    by_cases h1 : n ≤ 4
    · rw [if_pos h1] at hk ⊢; exact hk
    rw [if_neg h1] at hk ⊢
    refine xLoop_fold ?_
    simp only [w_layout_Class_l3, w_layout_Class_l3b, w_layout_Class_j2, w_layout_Class_j2b, w_layout_Class_j1, w_layout_Class_j1b, ruS, Nat.reduceAdd, reduceIte, Int.reduceLT, Int.reduceLE, Int.reduceEq, Int.reduceNeg, Int.reduceAdd, Int.reduceSub, h, shl2_2, i64_3]
    by_cases h1 : n ≤ 8
    · rw [if_pos h1] at hk ⊢; exact hk
    rw [if_neg h1] at hk ⊢
    refine xLoop_fold ?_
    simp only [w_layout_Class_l3, w_layout_Class_l3b, w_layout_Class_j2, w_layout_Class_j2b, w_layout_Class_j1, w_layout_Class_j1b, ruS, Nat.reduceAdd, reduceIte, Int.reduceLT, Int.reduceLE, Int.reduceEq, Int.reduceNeg, Int.reduceAdd, Int.reduceSub, h, shl2_3, i64_4]
    by_cases h1 : n ≤ 16
    · rw [if_pos h1] at hk ⊢; exact hk
    rw [if_neg h1] at hk ⊢
    refine xLoop_fold ?_
    simp only [w_layout_Class_l3, w_layout_Class_l3b, w_layout_Class_j2, w_layout_Class_j2b, w_layout_Class_j1, w_layout_Class_j1b, ruS, Nat.reduceAdd, reduceIte, Int.reduceLT, Int.reduceLE, Int.reduceEq, Int.reduceNeg, Int.reduceAdd, Int.reduceSub]
    exact hk
  · unfold classOf at hk
    rw [if_pos (by omega)] at hk
    refine xLoop_fold ?_
    simp only [w_layout_Class_l3, w_layout_Class_l3b, w_layout_Class_j2, w_layout_Class_j2b, w_layout_Class_j1, w_layout_Class_j1b, ruS, Nat.reduceAdd, reduceIte, Int.reduceLT, Int.reduceLE, Int.reduceEq, Int.reduceNeg, Int.reduceAdd, Int.reduceSub, h, i64_1]
    refine xLoop_fold ?_
    simp only [w_layout_Class_l3, w_layout_Class_l3b, w_layout_Class_j2, w_layout_Class_j2b, w_layout_Class_j1, w_layout_Class_j1b, ruS, Nat.reduceAdd, reduceIte, Int.reduceLT, Int.reduceLE, Int.reduceEq, Int.reduceNeg, Int.reduceAdd, Int.reduceSub, h, i64_2]
    refine xLoop_fold ?_
    simp only [w_layout_Class_l3, w_layout_Class_l3b, w_layout_Class_j2, w_layout_Class_j2b, w_layout_Class_j1, w_layout_Class_j1b, ruS, Nat.reduceAdd, reduceIte, Int.reduceLT, Int.reduceLE, Int.reduceEq, Int.reduceNeg, Int.reduceAdd, Int.reduceSub, h, i64_3]
    refine xLoop_fold ?_
    simp only [w_layout_Class_l3, w_layout_Class_l3b, w_layout_Class_j2, w_layout_Class_j2b, w_layout_Class_j1, w_layout_Class_j1b, ruS, Nat.reduceAdd, reduceIte, Int.reduceLT, Int.reduceLE, Int.reduceEq, Int.reduceNeg, Int.reduceAdd, Int.reduceSub, h, i64_4]
    refine xLoop_fold ?_
    simp only [w_layout_Class_l3, w_layout_Class_l3b, w_layout_Class_j2, w_layout_Class_j2b, w_layout_Class_j1, w_layout_Class_j1b, ruS, Nat.reduceAdd, reduceIte, Int.reduceLT, Int.reduceLE, Int.reduceEq, Int.reduceNeg, Int.reduceAdd, Int.reduceSub]
    exact hk
def roomOf (k : Int) : Int := if k = 0 then 3 else if k = 1 then 5 else if k = 2 then 9 else 17
theorem c_Room {k : Int} (h0 : 0 ≤ k) (h1 : k ≤ 3) : s_layout_Room [.int .i64 k] K σ = K (.int .i64 (roomOf k)) σ := by
  simp only [s_layout_Room, w_layout_Room, ruS, Nat.reduceAdd, reduceIte, Int.reduceLT, Int.reduceLE, Int.reduceEq, Int.reduceNeg, Int.reduceAdd, Int.reduceSub]
  rcases (show k = 0 ∨ k = 1 ∨ k = 2 ∨ k = 3 by omega) with rfl | rfl | rfl | rfl <;>
    simp only [shl2_0, shl2_1, shl2_2, shl2_3, ruS, Nat.reduceAdd, reduceIte, Int.reduceLT, Int.reduceLE, Int.reduceEq, Int.reduceNeg, Int.reduceAdd, Int.reduceSub, i64_3, i64_5, i64_9, i64_17] <;> rfl
end Go.Fl
namespace Go.Fl
open Go
set_option linter.unusedVariables false
set_option linter.unusedSimpArgs false
variable {N : Nm} {A B : Ar} {σ : Mem} {K : Value → Mem → Prop} {C : Cf} {who : Int}
def Cf.okB (c : Cf) : Bool :=
  (decide (1 ≤ c.T) && decide (c.T ≤ 8) && decide (1 ≤ c.S) && decide (c.S ≤ 65536)) && (decide (1 ≤ c.C) && decide (c.C ≤ 64) && decide (17 ≤ c.W) && decide (c.W ≤ 256)) &&
  (decide (1 ≤ c.G) && decide (c.G ≤ 65535) && decide (0 ≤ c.P) && decide (c.P ≤ 1000) && decide (1 ≤ c.R) && decide (c.R ≤ 16))
theorem Cf.okB_iff {c : Cf} : c.okB = true ↔ c.ok := by
  simp only [Cf.okB, Bool.and_eq_true, decide_eq_true_eq]
  constructor
  · rintro ⟨⟨⟨⟨⟨a, b⟩, d⟩, e⟩, ⟨⟨f, g⟩, h⟩, i⟩, ⟨⟨⟨⟨j, k⟩, l⟩, m⟩, n⟩, o⟩
    exact ⟨⟨a, b⟩, ⟨d, e⟩, ⟨f, g⟩, ⟨h, i⟩, ⟨j, k⟩, ⟨l, m⟩, ⟨n, o⟩⟩
  · rintro ⟨⟨a, b⟩, ⟨d, e⟩, ⟨f, g⟩, ⟨h, i⟩, ⟨j, k⟩, ⟨l, m⟩, ⟨n, o⟩⟩
    exact ⟨⟨⟨⟨⟨a, b⟩, d⟩, e⟩, ⟨⟨f, g⟩, h⟩, i⟩, ⟨⟨⟨⟨j, k⟩, l⟩, m⟩, n⟩, o⟩
theorem check_j3 {x y z : Bool} : w_layout_Check_j3b K (.bool x) (.bool y) (.bool z) σ = K (.bool (x && y && z)) σ := by
  simp only [w_layout_Check_j3b, ruS, ruL, ruX, Nat.reduceAdd, reduceIte, Int.reduceLT, Int.reduceLE, Int.reduceEq, Int.reduceNeg, Int.reduceAdd, Int.reduceSub, Nat.reduceLeDiff]
  cases x <;> cases y <;> cases z <;> simp only [ruS, ruL, ruX, Nat.reduceAdd, reduceIte, Int.reduceLT, Int.reduceLE, Int.reduceEq, Int.reduceNeg, Int.reduceAdd, Int.reduceSub, Nat.reduceLeDiff, Bool.and_true, Bool.and_false, Bool.false_and, Bool.true_and]
theorem check_j2 {x y : Bool} : w_layout_Check_j2b K (.bool x) (.bool y) C.l σ = K (.bool (x && y && (decide (1 ≤ C.G) && decide (C.G ≤ 65535) && decide (0 ≤ C.P) && decide (C.P ≤ 1000) && decide (1 ≤ C.R) && decide (C.R ≤ 16)))) σ := by
  simp only [w_layout_Check_j2b, w_layout_Check_j3, Cf.l, ruS, ruL, ruX, Nat.reduceAdd, reduceIte, Int.reduceLT, Int.reduceLE, Int.reduceEq, Int.reduceNeg, Int.reduceAdd, Int.reduceSub, Nat.reduceLeDiff, check_j3]
  by_cases h1 : 1 ≤ C.G <;> by_cases h2 : C.G ≤ 65535 <;> by_cases h3 : 0 ≤ C.P <;> by_cases h4 : C.P ≤ 1000 <;> by_cases h5 : 1 ≤ C.R <;>
    simp only [h1, h2, h3, h4, h5, ruS, ruL, ruX, Nat.reduceAdd, reduceIte, Int.reduceLT, Int.reduceLE, Int.reduceEq, Int.reduceNeg, Int.reduceAdd, Int.reduceSub, Nat.reduceLeDiff, check_j3, Bool.and_true, Bool.and_false, Bool.false_and, Bool.true_and]
theorem c_Check : s_layout_Check [C.v] K σ = K (.bool C.okB) σ := by
  have j1 : ∀ {x : Bool}, w_layout_Check_j1b K (.bool x) C.l σ = K (.bool (x && (decide (1 ≤ C.C) && decide (C.C ≤ 64) && decide (17 ≤ C.W) && decide (C.W ≤ 256)) && (decide (1 ≤ C.G) && decide (C.G ≤ 65535) && decide (0 ≤ C.P) && decide (C.P ≤ 1000) && decide (1 ≤ C.R) && decide (C.R ≤ 16)))) σ := by
    intro x
    have e := @check_j2 σ K C
    simp only [Cf.l] at e
    simp only [w_layout_Check_j1b, w_layout_Check_j2, Cf.l, ruS, ruL, ruX, Nat.reduceAdd, reduceIte, Int.reduceLT, Int.reduceLE, Int.reduceEq, Int.reduceNeg, Int.reduceAdd, Int.reduceSub, Nat.reduceLeDiff]
    by_cases h1 : 1 ≤ C.C <;> by_cases h2 : C.C ≤ 64 <;> by_cases h3 : 17 ≤ C.W <;>
      simp only [h1, h2, h3, ruS, ruL, ruX, Nat.reduceAdd, reduceIte, Int.reduceLT, Int.reduceLE, Int.reduceEq, Int.reduceNeg, Int.reduceAdd, Int.reduceSub, Nat.reduceLeDiff, e, Bool.and_true, Bool.and_false, Bool.false_and, Bool.true_and]
  simp only [Cf.l] at j1
  simp only [s_layout_Check, w_layout_Check, w_layout_Check_j1, Cf.v, ruS, ruL, ruX, Nat.reduceAdd, reduceIte, Int.reduceLT, Int.reduceLE, Int.reduceEq, Int.reduceNeg, Int.reduceAdd, Int.reduceSub, Nat.reduceLeDiff]
  unfold Cf.okB
  by_cases h1 : 1 ≤ C.T <;> by_cases h2 : C.T ≤ 8 <;> by_cases h3 : 1 ≤ C.S <;>
    simp only [h1, h2, h3, ruS, ruL, ruX, Nat.reduceAdd, reduceIte, Int.reduceLT, Int.reduceLE, Int.reduceEq, Int.reduceNeg, Int.reduceAdd, Int.reduceSub, Nat.reduceLeDiff, j1, Bool.and_true, Bool.and_false, Bool.false_and, Bool.true_and]
theorem hMakeS_eq {es by' : Nat} {z : List Value} {n : Int} {K : Value → Mem → Prop} {σ : Mem} (h0 : 0 ≤ n) (h1 : n ≤ 1073741824) (hb : by' ≤ 1024) :
    hMakeS es by' z [.int .i64 n, .int .i64 n] K σ = newB (List.replicate n.toNat z).flatten (fun id => .slice (some ⟨id, 0, none⟩) n.toNat es) K σ := by
  simp only [hMakeS]
  rw [if_pos ⟨trivial, h0, h1, hb⟩]
theorem hBox_a {cs : List Value} {sz : Nat} {K : Value → Mem → Prop} {σ : Mem} (h : cs.length = sz) :
    hBox sz [.agg cs.toArray] K σ = newB cs (fun id => .pointer (some ⟨id, 0, none⟩)) K σ := by
  subst h
  have : cellsOf (.agg cs.toArray) cs.length = some cs := by simp [cellsOf]
  simp only [hBox, this]
def Ar.new (n : Nat) : Ar := ⟨n, fun _ => 0, fun _ => 0, 0, 0, 0, 0, false⟩
structure Nm.fr (N : Nm) (σ : Mem) : Prop where
  m : σ.get N.m = none
  w : σ.get N.w = none
  t : σ.get N.t = none
theorem xBuildMem {a b : Value} {K : Value → Prop} (ha : cellsOf a 1 = some [a]) (hb : cellsOf b 1 = some [b]) :
    xF (fBuild [(0, 1), (1, 1), (2, 1), (3, 1), (4, 3)] [.slice none 0 0, .slice none 0 0, .int .i64 0, .int .i64 0, .int .i64 0, .int .i64 0, .bool false] [0, 1]) [a, b] K =
      K (.agg #[a, b, .int .i64 0, .int .i64 0, .int .i64 0, .int .i64 0, .bool false]) := by
  simp [xF, fBuild, fillL, ha, hb, lay]
theorem c_New {n : Int} (h0 : 1 ≤ n) (h1 : n ≤ 1048576) (hk : ∀ N τ, N.ok → isA N (.new n.toNat) τ → Ext σ τ → N.fr σ → K (.tuple #[N.p, .int .i64 0]) τ) : s_mem_New [.int .i64 n] K σ := by
  simp only [s_mem_New, w_mem_New, w_mem_New_j1, w_mem_New_j1b, ruS, Nat.reduceAdd, reduceIte, Int.reduceLT, Int.reduceLE, Int.reduceEq, Int.reduceNeg, Int.reduceAdd, Int.reduceSub]
  rw [if_neg (by omega), if_neg (by omega)]
  rw [hMakeS_eq (by omega) (by omega) (by decide)]
  intro w hw
  rw [hMakeS_eq (by omega) (by omega) (by decide)]
  intro t ht
  rw [xBuildMem rfl rfl]
  refine (hBox_a (cs := [_, _, _, _, _, _, _]) rfl).mpr ?_
  intro m hm
  simp only [ruS, Nat.reduceAdd, reduceIte, Int.reduceLT, Int.reduceLE, Int.reduceEq, Int.reduceNeg, Int.reduceAdd, Int.reduceSub]
  have hwt : w ≠ t := by rintro rfl; simp at ht
  have hmt : m ≠ t := by rintro rfl; simp at hm
  have hmw : m ≠ w := by
    rintro rfl
    rw [Mem.get_set_ne _ _ hwt, Mem.get_set_same] at hm; cases hm
  refine hk ⟨m, w, t⟩ _ ⟨hmw, hmt, hwt⟩ ⟨?_, ?_, ?_⟩ ?_ ⟨?_, hw, ?_⟩
  · rw [Mem.get_set_same]; rfl
  · rw [Mem.get_set_ne _ _ hmw.symm, Mem.get_set_ne _ _ hwt, Mem.get_set_same, cells_repl]; rfl
  · rw [Mem.get_set_ne _ _ hmt.symm, Mem.get_set_same, cells_repl]; rfl
  · exact ((Ext.fresh hw).trans (Ext.fresh ht)).trans (Ext.fresh hm)
  · rw [Mem.get_set_ne _ _ hmt, Mem.get_set_ne _ _ hmw] at hm; exact hm
  · rw [Mem.get_set_ne _ _ hwt.symm] at ht; exact ht
def Nm.el (N : Nm) (c : Cf) (who : Int) : List Value := [.int .i64 c.T, .int .i64 c.S, .int .i64 c.C, .int .i64 c.W, .int .i64 c.G, .int .i64 c.P, .int .i64 c.R, N.p, .int .i64 who]
section
variable {c : Cf} {l : List Value}
theorem gBoxC : gBox 7 [c.v] l = some c.l := nr rfl
theorem subC : sub c.l 0 7 true = some c.v := nr rfl
theorem subC0 : sub c.l 0 1 false = some (.int .i64 c.T) := nr rfl
theorem subC1 : sub c.l 1 1 false = some (.int .i64 c.S) := nr rfl
theorem subC2 : sub c.l 2 1 false = some (.int .i64 c.C) := nr rfl
theorem subC3 : sub c.l 3 1 false = some (.int .i64 c.W) := nr rfl
theorem subC4 : sub c.l 4 1 false = some (.int .i64 c.G) := nr rfl
theorem subC5 : sub c.l 5 1 false = some (.int .i64 c.P) := nr rfl
theorem subC6 : sub c.l 6 1 false = some (.int .i64 c.R) := nr rfl
theorem gBoxE : gBox 9 [N.env c who] l = some (N.el c who) := nr rfl
theorem subE : sub (N.el c who) 0 9 true = some (N.env c who) := nr rfl
theorem subEC : sub (N.el c who) 0 7 true = some c.v := nr rfl
theorem subE0 : sub (N.el c who) 0 1 false = some (.int .i64 c.T) := nr rfl
theorem subE1 : sub (N.el c who) 1 1 false = some (.int .i64 c.S) := nr rfl
theorem subE2 : sub (N.el c who) 2 1 false = some (.int .i64 c.C) := nr rfl
theorem subE3 : sub (N.el c who) 3 1 false = some (.int .i64 c.W) := nr rfl
theorem subE4 : sub (N.el c who) 4 1 false = some (.int .i64 c.G) := nr rfl
theorem subE6 : sub (N.el c who) 6 1 false = some (.int .i64 c.R) := nr rfl
theorem subE7 : sub (N.el c who) 7 1 false = some N.p := nr rfl
theorem subE8 : sub (N.el c who) 8 1 false = some (.int .i64 who) := nr rfl
end
section
variable {a o v d : Int}
@[simp] theorem by_n : (A.by who).n = A.n := rfl
@[simp] theorem by_w : (A.by who).w = A.w := rfl
@[simp] theorem by_t : (A.by who).t = A.t := rfl
@[simp] theorem by_s : (A.by who).s = A.s := rfl
@[simp] theorem load_n : (A.load a).n = A.n := rfl
@[simp] theorem load_w : (A.load a).w = A.w := rfl
@[simp] theorem load_t : (A.load a).t = A.t := rfl
@[simp] theorem load_s : (A.load a).s = IntKind.i64.wrap (A.s + 1) := rfl
@[simp] theorem load_la : (A.load a).la = a := rfl
@[simp] theorem load_lc : (A.load a).lc = false := rfl
@[simp] theorem store_n : (A.store a v).n = A.n := rfl
@[simp] theorem store_w : (A.store a v).w = upd A.w a v := rfl
@[simp] theorem store_s : (A.store a v).s = IntKind.i64.wrap (A.s + 1) := rfl
@[simp] theorem store_la : (A.store a v).la = a := rfl
@[simp] theorem store_lc : (A.store a v).lc = decide (A.w a ≠ v) := rfl
theorem store_t : (A.store a v).t = if A.w a ≠ v then upd A.t a (IntKind.i64.wrap (A.s + 1)) else A.t := rfl
@[simp] theorem cas_n : (A.cas a o v).n = A.n := by unfold Ar.cas; split <;> rfl
@[simp] theorem cas_s : (A.cas a o v).s = IntKind.i64.wrap (A.s + 1) := by unfold Ar.cas; split <;> rfl
@[simp] theorem cas_la : (A.cas a o v).la = a := by unfold Ar.cas; split <;> rfl
theorem cas_no (h : A.w a ≠ o) : A.cas a o v = A.load a := by unfold Ar.cas; rw [if_neg h]; rfl
theorem cas_yes (h : A.w a = o) : A.cas a o v = A.store a v := by unfold Ar.cas; rw [if_pos h]; rfl
theorem add_eq : A.add a d = A.store a (IntKind.u64.wrap (A.w a + d)) := rfl
end
structure Ar.ok (A : Ar) (b : Int) : Prop where
  w : ∀ i, 0 ≤ A.w i ∧ A.w i < 18446744073709551616
  s : 0 ≤ A.s ∧ A.s ≤ b
  t : ∀ i, 0 ≤ A.t i ∧ A.t i ≤ A.s
theorem Ar.ok.s1 {b : Int} (h : A.ok b) (hb : b < 9223372036854775807) : IntKind.i64.wrap (A.s + 1) = A.s + 1 := IntWalk.i64_in _ (by have := h.s; omega)
theorem Ar.ok.by {b : Int} (h : A.ok b) : (A.by who).ok b := ⟨h.w, h.s, h.t⟩
theorem Ar.ok.load {b a : Int} (h : A.ok b) (hb : b < 9223372036854775807) : (A.load a).ok (b + 1) := by
  refine ⟨h.w, ?_, fun i => ?_⟩
  · rw [load_s, h.s1 hb]; have := h.s; omega
  · rw [load_s, h.s1 hb, load_t]; have := h.t i; omega
theorem upd_cases {f : Int → Int} {a v i : Int} {P : Int → Prop} (h1 : P v) (h2 : P (f i)) : P (upd f a v i) := by unfold upd; split <;> assumption
theorem Ar.ok.store {b a v : Int} (h : A.ok b) (hb : b < 9223372036854775807) (hv : 0 ≤ v ∧ v < 18446744073709551616) : (A.store a v).ok (b + 1) := by
  refine ⟨fun i => upd_cases (P := fun x => 0 ≤ x ∧ x < 18446744073709551616) hv (h.w i), ?_, fun i => ?_⟩
  · rw [store_s, h.s1 hb]; have := h.s; omega
  · rw [store_s, h.s1 hb, store_t]
    have := h.t i
    have := h.s
    split
    · rw [h.s1 hb]; exact upd_cases (P := fun x => 0 ≤ x ∧ x ≤ A.s + 1) (by omega) (by omega)
    · omega
theorem Ar.ok.cas {b a o v : Int} (h : A.ok b) (hb : b < 9223372036854775807) (hv : 0 ≤ v ∧ v < 18446744073709551616) : (A.cas a o v).ok (b + 1) := by
  by_cases hc : A.w a = o
  · rw [cas_yes hc]; exact h.store hb hv
  · rw [cas_no hc]; exact h.load hb
theorem wrap_in (n : Int) : 0 ≤ IntKind.u64.wrap n ∧ IntKind.u64.wrap n < 18446744073709551616 := by rw [IntKind.wrap_u64]; omega
theorem Ar.ok.add {b a d : Int} (h : A.ok b) (hb : b < 9223372036854775807) : (A.add a d).ok (b + 1) := h.store hb (wrap_in _)
def Cf.fr (c : Cf) (i : Int) (a : Int) : Int :=
  if c.slot 0 ≤ a ∧ a < c.slot i then (if (a - c.slot 0) % 2 = 0 then putSlot 0 0 1 0 else putTop ((a - c.slot 0) / 2 + 1) 0) else 0
def Cf.w0 (c : Cf) (a : Int) : Int := if a = 1 then putTop 0 0 else if a = c.slot (c.S - 1) + 1 then putTop (-1) 0 else c.fr c.S a
structure FrI (N : Nm) (C : Cf) (σ0 : Mem) (i : Int) (A : Ar) (σ : Mem) : Prop where
  i0 : 0 ≤ i
  i1 : i ≤ C.S
  n : A.n = C.len.toNat
  w : A.w = C.fr i
  s : A.s = 2 * i
  who : A.who = 0
  ok : A.ok (2 * i)
  isA : isA N A σ
  ext : Ext σ0 σ
  fr : N.fr σ0
theorem Ext.put {σ0 : Mem} (h : Ext σ0 σ) (f : N.fr σ0) : Ext σ0 (putA N A σ) := by
  intro i b hi
  rw [putA_ne (fun e => by rw [e, f.m] at hi; cases hi) (fun e => by rw [e, f.w] at hi; cases hi) (fun e => by rw [e, f.t] at hi; cases hi)]
  exact h i b hi
theorem len_eq : C.len = 6 + C.T + 2 * C.S + 3 * C.C + C.W * C.C := rfl
theorem len_bd (h : C.ok) : C.chunk C.C + 17 ≤ C.len ∧ C.len ≤ 200000 := by
  have hW := h.W
  have hC := h.C
  have hS := h.S
  have hT := h.T
  have h1 : 17 * 1 ≤ C.W * C.C := Int.mul_le_mul hW.1 hC.1 (by omega) (by omega)
  have h2 : C.W * C.C ≤ 256 * 64 := Int.mul_le_mul hW.2 hC.2 (by omega) (by omega)
  rw [len_eq]; unfold Cf.chunk
  omega
theorem xBuildSlotG {K : Value → Prop} {g : Int} : xF (fBuild [(0, 1), (1, 1), (2, 1), (3, 1)] [.int .i64 0, .int .i64 0, .int .i64 0, .int .i64 0] [2]) [.int .i64 g] K = K (.agg #[.int .i64 0, .int .i64 0, .int .i64 g, .int .i64 0]) := nr rfl
theorem c_Fresh_round (hC : C.ok) (hN : N.ok) {σ0 : Mem} {J1 R1 : List Value → List (List Value) → Mem → Prop} {i : Int} (h : FrI N C σ0 i A σ)
    (hj : i = C.S → J1 [N.p] [C.l] σ) (hr : i < C.S → ∀ A' τ, FrI N C σ0 (i + 1) A' τ → R1 [N.p, .int .i64 C.S, .int .i64 (i + 1)] [C.l] τ) :
    w_layout_Fresh_l8 K J1 R1 [N.p, .int .i64 C.S, .int .i64 i] [C.l] σ := by
  have hS := hC.S
  have hT := hC.T
  have hl := len_bd hC
  simp only [w_layout_Fresh_l8, w_layout_Fresh_l8b, ruS, Nat.reduceAdd, reduceIte, Int.reduceLT, Int.reduceLE, Int.reduceEq, Int.reduceNeg, Int.reduceAdd, Int.reduceSub, locP_e, gLoad_s, subC]
  by_cases hi : i < C.S
  · simp only [hi, ruS, Nat.reduceAdd, reduceIte, Int.reduceLT, Int.reduceLE, Int.reduceEq, Int.reduceNeg, Int.reduceAdd, Int.reduceSub]
    have hn : C.slot i + 1 < A.n := by rw [h.n]; unfold Cf.slot; unfold Cf.chunk at hl; have := hC.C; omega
    have hs0 : 0 ≤ C.slot i := by unfold Cf.slot; have := h.i0; omega
    have i0 := h.i0
    rw [c_Slot hC h.i0 (by omega)]
    rw [xBuildSlotG, c_PutSlot, h.isA.eq, c_mStore hN hs0 (by omega), c_Slot hC h.i0 (by omega)]
    simp only [xAdd]
    rw [IntWalk.i64_in (i + 1) (by omega), c_PutTop (by omega), IntWalk.i64_in (C.slot i + 1) (by unfold Cf.slot; omega), c_mStore hN (by omega) (by rw [store_n]; omega)]
    have ok1 := h.ok.store (a := C.slot i) (by omega) (putSlot_in 0 0 1 0)
    have ok2 := ok1.store (a := C.slot i + 1) (by omega) (putTop_in (i + 1) 0)
    have s1 := h.ok.s1 (by omega)
    have s2 := ok1.s1 (by omega)
    refine hr hi ((A.store (C.slot i) (putSlot 0 0 1 0)).store (C.slot i + 1) (putTop (i + 1) 0)) _ ⟨by omega, by omega, h.n, ?_, ?_, h.who, ?_, isA_put hN, h.ext.put h.fr, h.fr⟩
    · funext a
      rw [store_w, store_w, h.w]
      unfold upd Cf.fr Cf.slot
      have := hC.C
      by_cases e1 : a = 6 + C.T + 2 * i + 1
      · subst e1
        rw [if_pos rfl, if_pos (by omega), if_neg (by omega)]
        congr 1; omega
      · rw [if_neg e1]
        by_cases e2 : a = 6 + C.T + 2 * i
        · subst e2
          rw [if_pos rfl, if_pos (by omega), if_pos (by omega)]
        · rw [if_neg e2]
          by_cases e3 : 6 + C.T + 2 * 0 ≤ a ∧ a < 6 + C.T + 2 * i
          · rw [if_pos e3, if_pos (show 6 + C.T + 2 * 0 ≤ a ∧ a < 6 + C.T + 2 * (i + 1) by omega)]
          · rw [if_neg e3, if_neg (show ¬ (6 + C.T + 2 * 0 ≤ a ∧ a < 6 + C.T + 2 * (i + 1)) by omega)]
    · rw [store_s, s2, store_s, s1, h.s]; omega
    · rw [show 2 * (i + 1) = 2 * i + 1 + 1 by omega]; exact ok2
  · rw [if_neg hi]
    exact hj (by have := h.i1; omega)
structure Frsh (N : Nm) (C : Cf) (A : Ar) : Prop where
  ok : A.ok (2 * C.S + 2)
  n : A.n = C.len.toNat
  w : A.w = C.w0
  s : A.s = 2 * C.S + 2
  who : A.who = 0
  la : A.la = 1
theorem Ar.new_ok {n : Nat} : (Ar.new n).ok (2 * 0) := ⟨fun _ => ⟨Int.le_refl 0, (by decide : (0 : Int) < 18446744073709551616)⟩, ⟨Int.le_refl 0, Int.le_refl 0⟩, fun _ => ⟨Int.le_refl 0, Int.le_refl 0⟩⟩
theorem c_Fresh (hC : C.ok) (hk : ∀ N A τ, N.ok → Frsh N C A → isA N A τ → Ext σ τ → N.fr σ → K (.tuple #[N.p, .int .i64 0]) τ) : s_layout_Fresh [C.v] K σ := by
  have hl := len_bd hC
  have hS := hC.S
  have hT := hC.T
  have hCC := hC.C
  have hch : C.chunk C.C = 6 + C.T + 2 * C.S + 3 * C.C := rfl
  have hok : C.okB = true := Cf.okB_iff.2 hC
  simp only [s_layout_Fresh, w_layout_Fresh, ruS, Nat.reduceAdd, reduceIte, Int.reduceLT, Int.reduceLE, Int.reduceEq, Int.reduceNeg, Int.reduceAdd, Int.reduceSub, locP_e, gBoxC, gLoad_s, subC, subC1, c_Check, hok, c_lLen hC]
  refine c_New (by omega) (by omega) fun N τ hN hA hE hf => ?_
  simp only [ruS, Nat.reduceAdd, reduceIte, Int.reduceLT, Int.reduceLE, Int.reduceEq, Int.reduceNeg, Int.reduceAdd, Int.reduceSub]
  refine xLoop_inv (fun k ts ls τ => ∃ i A, k = (C.S - i).toNat ∧ ts = [N.p, .int .i64 C.S, .int .i64 i] ∧ ls = [C.l] ∧ FrI N C σ i A τ) ?_ (n := (C.S - 0).toNat)
    ⟨0, _, rfl, rfl, rfl, ⟨by omega, by omega, rfl, ?_, rfl, rfl, Ar.new_ok, hA, hE, hf⟩⟩
  · rintro k ts ls τ ⟨i, A, rfl, rfl, rfl, h⟩
    refine c_Fresh_round hC hN h (fun e => ?_) fun hi A' τ' h' => ⟨_, by have := h.i0; omega, i + 1, A', rfl, rfl, rfl, h'⟩
    subst e
    simp only [w_layout_Fresh_j1, w_layout_Fresh_j1b, ruS, Nat.reduceAdd, reduceIte, Int.reduceLT, Int.reduceLE, Int.reduceEq, Int.reduceNeg, Int.reduceAdd, Int.reduceSub, locP_e, gLoad_s, subC, subC1]
    have n2 : C.slot (C.S - 1) + 1 < A.n := by rw [h.n]; unfold Cf.slot; omega
    have hs0 : 0 ≤ C.slot (C.S - 1) := by unfold Cf.slot; omega
    rw [IntWalk.i64_in (C.S - 1) (by omega), c_Slot hC (by omega) (by omega)]
    simp only [xAdd]
    rw [IntWalk.i64_in (C.slot (C.S - 1) + 1) (by unfold Cf.slot; omega), c_PutTop (by omega), h.isA.eq, c_mStore hN (by omega) n2, c_lTop, c_PutTop (by omega), c_mStore hN (by omega) (by rw [store_n]; omega)]
    have ok1 := h.ok.store (a := C.slot (C.S - 1) + 1) (by omega) (putTop_in (-1) 0)
    have ok2 := ok1.store (a := 1) (by omega) (putTop_in 0 0)
    have s1 := h.ok.s1 (by omega)
    have s2 := ok1.s1 (by omega)
    refine hk N ((A.store (C.slot (C.S - 1) + 1) (putTop (-1) 0)).store 1 (putTop 0 0)) _ hN ⟨by rw [show 2 * C.S + 2 = 2 * C.S + 1 + 1 by omega]; exact ok2, h.n, ?_, ?_, h.who, rfl⟩ (isA_put hN) (h.ext.put h.fr) h.fr
    · rw [store_w, store_w, h.w]; rfl
    · rw [store_s, s2, store_s, s1, h.s]; omega
  · funext a
    unfold Cf.fr
    rw [if_neg (by omega)]; rfl
theorem c_Arena (hC : C.ok) (hG : C.G = 100) (hP : C.P = 600) (hR : C.R = 3) (hk : ∀ N A τ, N.ok → Frsh N C A → isA N A τ → Ext σ τ → N.fr σ → K (.tuple #[N.env C 0, .bool true]) τ) :
    s_law04_Arena [.int .i64 C.T, .int .i64 C.S, .int .i64 C.C, .int .i64 C.W] K σ := by
  simp only [s_law04_Arena, w_law04_Arena, ruS, Nat.reduceAdd, reduceIte, Int.reduceLT, Int.reduceLE, Int.reduceEq, Int.reduceNeg, Int.reduceAdd, Int.reduceSub]
  have b1 : ∀ K : Value → Prop, xF (fBuild [(0, 1), (1, 1), (2, 1), (3, 1), (4, 1), (5, 1), (6, 1)] [.int .i64 0, .int .i64 0, .int .i64 0, .int .i64 0, .int .i64 0, .int .i64 0, .int .i64 0] [0, 1, 2, 3, 4, 5, 6])
      [.int .i64 C.T, .int .i64 C.S, .int .i64 C.C, .int .i64 C.W, .int .i64 100, .int .i64 600, .int .i64 3] K = K C.v := by
    intro K; unfold Cf.v; rw [hG, hP, hR]; exact nr rfl
  have b2 : ∀ K : List Value → Prop, xC (gStore 7 [locP 10, C.v] [.int .i64 0, .int .i64 0, .int .i64 0, .int .i64 0, .int .i64 0, .int .i64 0, .int .i64 0]) K = K C.l := fun K => nr rfl
  rw [b1, b2]
  simp only [locP_e, gLoad_s, subC, xOs]
  refine c_Fresh hC fun N A τ hN hF hA hE hf => ?_
  simp only [ruS, Nat.reduceAdd, reduceIte, Int.reduceLT, Int.reduceLE, Int.reduceEq, Int.reduceNeg, Int.reduceAdd, Int.reduceSub, locP_e, gLoad_s, subC]
  exact hk N A τ hN hF hA hE hf
theorem ruE : type_of% ((And.intro (And.intro (And.intro (And.intro @Nat.lt_irrefl @Nat.zero_lt_one) (And.intro @gBoxE (And.intro @gBoxC @subE))) (And.intro (And.intro @subEC (And.intro @subE0 @subE1)) (And.intro @subE2 (And.intro @subE3 @subE4)))) (And.intro (And.intro (And.intro @subE6 @subE7) (And.intro @subE8 (And.intro @subC @subC0))) (And.intro (And.intro @subC1 (And.intro @subC2 @subC3)) (And.intro @subC4 (And.intro @subC5 @subC6)))))) := (And.intro (And.intro (And.intro (And.intro @Nat.lt_irrefl @Nat.zero_lt_one) (And.intro @gBoxE (And.intro @gBoxC @subE))) (And.intro (And.intro @subEC (And.intro @subE0 @subE1)) (And.intro @subE2 (And.intro @subE3 @subE4)))) (And.intro (And.intro (And.intro @subE6 @subE7) (And.intro @subE8 (And.intro @subC @subC0))) (And.intro (And.intro @subC1 (And.intro @subC2 @subC3)) (And.intro @subC4 (And.intro @subC5 @subC6)))))
end Go.Fl
namespace Go.Fl
open Go
set_option linter.unusedVariables false
set_option linter.unusedSimpArgs false
variable {N : Nm} {A B : Ar} {σ : Mem} {K : Value → Mem → Prop} {C : Cf} {who : Int}
theorem notin {p : Nat} (h : p ∉ N.l) : p ≠ N.m ∧ p ≠ N.w ∧ p ≠ N.t := by simpa [Nm.l] using h
theorem putA_get {p : Nat} (h : p ∉ N.l) : (putA N A σ).get p = σ.get p := putA_ne (notin h).1 (notin h).2.1 (notin h).2.2
theorem putA_setP {p : Nat} {c : Blk} (h : p ∉ N.l) : (putA N A σ).set p c = putA N A (σ.set p c) := putA_set (notin h).1 (notin h).2.1 (notin h).2.2
theorem isA.obj {p : Nat} {c : Blk} (h : isA N A σ) (hp : σ.get p = some c) : σ = putA N A (σ.set p c) := by rw [Mem.set_self hp]; exact h.eq
section
variable {p o k sz : Nat} {pre L post : List Value} {ag : Bool}
theorem sub_app (hz : 0 < sz) (hk : k + sz ≤ L.length) : sub (pre ++ L ++ post) (pre.length + k) sz ag = sub L k sz ag := by
  have h1 : pre.length + k + sz ≤ (pre ++ L ++ post).length := by simp; omega
  simp only [sub, if_pos h1, if_pos hk]
  cases ag
  · simp only [Bool.false_eq_true, if_false]
    rw [List.append_assoc, List.getElem?_append_right (by omega), Nat.add_sub_cancel_left, List.getElem?_append_left (by omega)]
  · simp only [if_true]
    rw [List.append_assoc, List.drop_append, List.drop_of_length_le (by omega), List.nil_append, Nat.add_sub_cancel_left, List.drop_append_of_le_length (by omega), List.take_append_of_le_length (by simp; omega)]
theorem lay_app {vs : List Value} (hk : k + vs.length ≤ L.length) : lay (pre ++ L ++ post) (pre.length + k) vs = pre ++ lay L k vs ++ post := by
  have e : pre.length + k + vs.length = pre.length + (k + vs.length) := by omega
  simp only [lay, e]
  rw [List.append_assoc pre, List.take_append, List.take_of_length_le (by omega), Nat.add_sub_cancel_left, List.take_append_of_le_length (by omega),
    List.drop_append, List.drop_of_length_le (by omega), List.nil_append, Nat.add_sub_cancel_left, List.drop_append_of_le_length (by omega)]
  simp only [List.append_assoc]
theorem ldO (hd : p ∉ N.l) (hz : 0 < sz) (hk : k + sz ≤ L.length) : hLoad sz ag [.pointer (some ⟨p, pre.length + k, none⟩)] K (putA N A (σ.set p ⟨pre ++ L ++ post, true⟩)) =
    xO (sub L k sz ag) (fun v => K v (putA N A (σ.set p ⟨pre ++ L ++ post, true⟩))) := by
  rw [hLoad_eq ((putA_get hd).trans (Mem.get_set_same _ _ _)), sub_app hz hk]
theorem stO (hd : p ∉ N.l) {x : Value} {c : List Value} (hc : cellsOf x sz = some c) (hl : c.length = sz) (hk : k + sz ≤ L.length) (ho : c.all oneB = true) :
    hStore sz [.pointer (some ⟨p, pre.length + k, none⟩), x] K (putA N A (σ.set p ⟨pre ++ L ++ post, true⟩)) = K undef (putA N A (σ.set p ⟨pre ++ lay L k c ++ post, true⟩)) := by
  rw [hStore_eq ((putA_get hd).trans (Mem.get_set_same _ _ _)) hc (by simp; omega) ho, putA_setP hd, Mem.set_set, lay_app (by omega)]
theorem stOi (hd : p ∉ N.l) {kd : IntKind} {n : Int} (hk : k + 1 ≤ L.length) :
    hStore 1 [.pointer (some ⟨p, pre.length + k, none⟩), .int kd n] K (putA N A (σ.set p ⟨pre ++ L ++ post, true⟩)) = K undef (putA N A (σ.set p ⟨pre ++ lay L k [.int kd n] ++ post, true⟩)) := stO hd rfl rfl hk rfl
theorem stOb (hd : p ∉ N.l) {b : Bool} (hk : k + 1 ≤ L.length) :
    hStore 1 [.pointer (some ⟨p, pre.length + k, none⟩), .bool b] K (putA N A (σ.set p ⟨pre ++ L ++ post, true⟩)) = K undef (putA N A (σ.set p ⟨pre ++ lay L k [.bool b] ++ post, true⟩)) := stO hd rfl rfl hk rfl
theorem stOp (hd : p ∉ N.l) {b : Option Addr} (hk : k + 1 ≤ L.length) :
    hStore 1 [.pointer (some ⟨p, pre.length + k, none⟩), .pointer b] K (putA N A (σ.set p ⟨pre ++ L ++ post, true⟩)) = K undef (putA N A (σ.set p ⟨pre ++ lay L k [.pointer b] ++ post, true⟩)) := stO hd rfl rfl hk rfl
theorem stOa (hd : p ∉ N.l) {c : List Value} (hl : c.length = sz) (hk : k + sz ≤ L.length) (ho : c.all oneB = true) :
    hStore sz [.pointer (some ⟨p, pre.length + k, none⟩), .agg c.toArray] K (putA N A (σ.set p ⟨pre ++ L ++ post, true⟩)) = K undef (putA N A (σ.set p ⟨pre ++ lay L k c ++ post, true⟩)) :=
  stO hd (by subst hl; simp [cellsOf]) hl hk ho
theorem behind (hN : N.ok) (hd : p ∉ N.l) {c : Blk} {v : Value} (hk : ∀ τ, isA N A τ → τ.get p = some c → Keep (p :: N.l) σ τ → K v τ) : K v (putA N A (σ.set p c)) := by
  refine hk _ (isA_put hN) ((putA_get hd).trans (Mem.get_set_same _ _ _)) fun i b hi hn => ?_
  simp only [List.mem_cons, not_or] at hn
  rw [putA_get hn.2, Mem.get_set_ne _ _ hn.1]
  exact hi
end
structure Tk where
  pc : Int
  top : Int
  next : Int
  slot : Int
  ok : Bool
def Tk.l (t : Tk) : List Value := [.int .i64 t.pc, .int .u64 t.top, .int .i64 t.next, .int .i64 t.slot, .bool t.ok]
def Tk.new : Tk := ⟨0, 0, 0, 0, false⟩
def Tk.step (C : Cf) (who : Int) (A : Ar) (t : Tk) : Bool × Tk × Ar :=
  if t.pc = 0 then (decide (topS (A.w 1) < 0), ⟨1, A.w 1, t.next, topS (A.w 1), t.ok⟩, (A.by who).load 1)
  else if t.pc = 1 then (t.ok, ⟨2, t.top, topS (A.w (C.slot t.slot + 1)), t.slot, t.ok⟩, (A.by who).load (C.slot t.slot + 1))
  else (decide (A.w 1 = t.top), ⟨0, t.top, t.next, t.slot, decide (A.w 1 = t.top)⟩, (A.by who).cas 1 t.top (putTop t.next (topN t.top + 1)))
theorem c_Take_Step (hN : N.ok) (hC : C.ok) (hA : isA N A σ) {p : Nat} {pre post : List Value} {t : Tk} (hp : σ.get p = some ⟨pre ++ t.l ++ post, true⟩) (hd : p ∉ N.l)
    (hw : ∀ i, 0 ≤ A.w i ∧ A.w i < 18446744073709551616) (hn : C.len ≤ A.n) (h0 : 0 ≤ t.top ∧ t.top < 18446744073709551616) (h1 : t.pc = 1 → 0 ≤ t.slot ∧ t.slot < C.S) (h2 : 0 ≤ t.next + 1)
    (hk : ∀ τ, isA N (t.step C who A).2.2 τ → τ.get p = some ⟨pre ++ (t.step C who A).2.1.l ++ post, true⟩ → Keep (p :: N.l) σ τ → K (.bool (t.step C who A).1) τ) :
    s_slot_Take_Step [.pointer (some ⟨p, pre.length, none⟩), N.env C who] K σ := by
  rw [hA.obj hp]
  have hl := len_bd hC
  have hT := hC.T
  have hS := hC.S
  have hCC := hC.C
  have hch : C.chunk C.C = 6 + C.T + 2 * C.S + 3 * C.C := rfl
  simp only [s_slot_Take_Step, w_slot_Take_Step, w_slot_Take_Step_j1, w_slot_Take_Step_j1b, Tk.l, ldO hd, c_lTop, ruS, ruL, ruE, Nat.reduceAdd, reduceIte, Int.reduceLT, Int.reduceLE, Int.reduceEq, Int.reduceNeg, Int.reduceAdd, Int.reduceSub, Nat.reduceLeDiff, Nat.reduceLT]
  by_cases c0 : t.pc = 0
  · rw [if_pos c0, c_Load hN (by omega) (by omega)]
    simp only [stOi hd, ldO hd, ruS, ruL, ruE, Nat.reduceAdd, reduceIte, Int.reduceLT, Int.reduceLE, Int.reduceEq, Int.reduceNeg, Int.reduceAdd, Int.reduceSub, Nat.reduceLeDiff, Nat.reduceLT]
    rw [c_Top (hw 1).1 (hw 1).2]
    simp only [stOi hd, ldO hd, ruS, ruL, ruE, Nat.reduceAdd, reduceIte, Int.reduceLT, Int.reduceLE, Int.reduceEq, Int.reduceNeg, Int.reduceAdd, Int.reduceSub, Nat.reduceLeDiff, Nat.reduceLT]
    simp only [Tk.step, if_pos c0] at hk
    exact behind hN hd hk
  · by_cases c1 : t.pc = 1
    · have := h1 c1
      have ha : 0 ≤ C.slot t.slot + 1 ∧ C.slot t.slot + 1 < A.n := by unfold Cf.slot; unfold Cf.chunk at hl; have := hC.C; omega
      rw [if_neg c0, if_pos c1, c_Slot hC (by omega) (by omega)]
      simp only [xAdd]
      rw [IntWalk.i64_in (C.slot t.slot + 1) (by unfold Cf.slot; omega), c_Load hN ha.1 ha.2, c_Top (hw _).1 (hw _).2]
      simp only [stOi hd, ldO hd, ruS, ruL, ruE, Nat.reduceAdd, reduceIte, Int.reduceLT, Int.reduceLE, Int.reduceEq, Int.reduceNeg, Int.reduceAdd, Int.reduceSub, Nat.reduceLeDiff, Nat.reduceLT]
      simp only [Tk.step, if_neg c0, if_pos c1] at hk
      exact behind hN hd hk
    · rw [if_neg c0, if_neg c1, c_Top h0.1 h0.2]
      simp only [stOi hd, ldO hd, c_lTop, ruS, ruL, ruE, Nat.reduceAdd, reduceIte, Int.reduceLT, Int.reduceLE, Int.reduceEq, Int.reduceNeg, Int.reduceAdd, Int.reduceSub, Nat.reduceLeDiff, Nat.reduceLT]
      have hN2 : 0 ≤ topN t.top ∧ topN t.top < 68719476736 := by unfold topN; omega
      rw [IntWalk.i64_in (topN t.top + 1) (by omega), c_PutTop (by omega), c_Cas hN (by omega) (by omega)]
      simp only [stOb hd, ldO hd, ruS, ruL, ruE, Nat.reduceAdd, reduceIte, Int.reduceLT, Int.reduceLE, Int.reduceEq, Int.reduceNeg, Int.reduceAdd, Int.reduceSub, Nat.reduceLeDiff, Nat.reduceLT]
      simp only [Tk.step, if_neg c0, if_neg c1] at hk
      exact behind hN hd hk
theorem c_Take_Slot (hA : isA N A σ) {p : Nat} {pre post : List Value} {t : Tk} (hp : σ.get p = some ⟨pre ++ t.l ++ post, true⟩) (hd : p ∉ N.l)
    (hk : K (.tuple #[.int .i64 (if t.ok = true then t.slot else 0), .bool t.ok]) σ) : s_slot_Take_Slot [.pointer (some ⟨p, pre.length, none⟩)] K σ := by
  have e := hA.obj hp
  generalize hq : σ = υ at *
  rw [e] at hk ⊢
  simp only [s_slot_Take_Slot, w_slot_Take_Slot, w_slot_Take_Slot_j1, w_slot_Take_Slot_j1b, Tk.l, ldO hd, ruS, ruL, ruE, Nat.reduceAdd, reduceIte, Int.reduceLT, Int.reduceLE, Int.reduceEq, Int.reduceNeg, Int.reduceAdd, Int.reduceSub, Nat.reduceLeDiff, Nat.reduceLT] at hk ⊢
  cases h : t.ok <;> simp only [h, xIfB, ldO hd, ruS, ruL, ruE, Nat.reduceAdd, reduceIte, Int.reduceLT, Int.reduceLE, Int.reduceEq, Int.reduceNeg, Int.reduceAdd, Int.reduceSub, Nat.reduceLeDiff, Nat.reduceLT] at hk ⊢ <;> exact hk
structure Gv where
  pc : Int
  slot : Int
  top : Int
def Gv.l (g : Gv) : List Value := [.int .i64 g.pc, .int .i64 g.slot, .int .u64 g.top]
def Gv.step (C : Cf) (who : Int) (A : Ar) (g : Gv) : Bool × Gv × Ar :=
  if g.pc = 0 then (false, ⟨1, g.slot, A.w 1⟩, (A.by who).load 1)
  else if g.pc = 1 then (false, ⟨2, g.slot, g.top⟩, (A.by who).store (C.slot g.slot + 1) (putTop (topS g.top) 0))
  else (decide (A.w 1 = g.top), ⟨0, g.slot, g.top⟩, (A.by who).cas 1 g.top (putTop g.slot (topN g.top + 1)))
theorem c_Give_Step (hN : N.ok) (hC : C.ok) (hA : isA N A σ) {p : Nat} {pre post : List Value} {t : Gv} (hp : σ.get p = some ⟨pre ++ t.l ++ post, true⟩) (hd : p ∉ N.l)
    (hw : ∀ i, 0 ≤ A.w i ∧ A.w i < 18446744073709551616) (hn : C.len ≤ A.n) (h0 : 0 ≤ t.top ∧ t.top < 18446744073709551616) (h1 : 0 ≤ t.slot ∧ t.slot < C.S)
    (hk : ∀ τ, isA N (t.step C who A).2.2 τ → τ.get p = some ⟨pre ++ (t.step C who A).2.1.l ++ post, true⟩ → Keep (p :: N.l) σ τ → K (.bool (t.step C who A).1) τ) :
    s_slot_Give_Step [.pointer (some ⟨p, pre.length, none⟩), N.env C who] K σ := by
  rw [hA.obj hp]
  have hl := len_bd hC
  have hT := hC.T
  have hS := hC.S
  have hCC := hC.C
  have hch : C.chunk C.C = 6 + C.T + 2 * C.S + 3 * C.C := rfl
  simp only [s_slot_Give_Step, w_slot_Give_Step, w_slot_Give_Step_j1, w_slot_Give_Step_j1b, Gv.l, ldO hd, c_lTop, ruS, ruL, ruE, Nat.reduceAdd, reduceIte, Int.reduceLT, Int.reduceLE, Int.reduceEq, Int.reduceNeg, Int.reduceAdd, Int.reduceSub, Nat.reduceLeDiff, Nat.reduceLT]
  rw [c_Top h0.1 h0.2]
  simp only [ldO hd, c_lTop, ruS, ruL, ruE, Nat.reduceAdd, reduceIte, Int.reduceLT, Int.reduceLE, Int.reduceEq, Int.reduceNeg, Int.reduceAdd, Int.reduceSub, Nat.reduceLeDiff, Nat.reduceLT]
  by_cases c0 : t.pc = 0
  · rw [if_pos c0, c_Load hN (by omega) (by omega)]
    simp only [stOi hd, ldO hd, ruS, ruL, ruE, Nat.reduceAdd, reduceIte, Int.reduceLT, Int.reduceLE, Int.reduceEq, Int.reduceNeg, Int.reduceAdd, Int.reduceSub, Nat.reduceLeDiff, Nat.reduceLT]
    simp only [Gv.step, if_pos c0] at hk
    exact behind hN hd hk
  · by_cases c1 : t.pc = 1
    · have ha : 0 ≤ C.slot t.slot + 1 ∧ C.slot t.slot + 1 < A.n := by unfold Cf.slot; omega
      have hN1 : -1 ≤ topS t.top := by unfold topS; omega
      rw [if_neg c0, if_pos c1, c_Slot hC (by omega) (by omega)]
      simp only [xAdd]
      rw [IntWalk.i64_in (C.slot t.slot + 1) (by unfold Cf.slot; omega), c_PutTop (by omega), c_Store hN ha.1 ha.2]
      simp only [stOi hd, ldO hd, ruS, ruL, ruE, Nat.reduceAdd, reduceIte, Int.reduceLT, Int.reduceLE, Int.reduceEq, Int.reduceNeg, Int.reduceAdd, Int.reduceSub, Nat.reduceLeDiff, Nat.reduceLT]
      simp only [Gv.step, if_neg c0, if_pos c1] at hk
      exact behind hN hd hk
    · rw [if_neg c0, if_neg c1]
      simp only [stOi hd, ldO hd, c_lTop, ruS, ruL, ruE, Nat.reduceAdd, reduceIte, Int.reduceLT, Int.reduceLE, Int.reduceEq, Int.reduceNeg, Int.reduceAdd, Int.reduceSub, Nat.reduceLeDiff, Nat.reduceLT]
      have hN2 : 0 ≤ topN t.top ∧ topN t.top < 68719476736 := by unfold topN; omega
      rw [IntWalk.i64_in (topN t.top + 1) (by omega), c_PutTop (by omega), c_Cas hN (by omega) (by omega)]
      simp only [Gv.step, if_neg c0, if_neg c1] at hk
      exact behind hN hd hk
theorem hBox_i {cs : List Value} {sz : Nat} {K : Value → Mem → Prop} {σ : Mem} (h : cs.length = sz) (hk : ∀ id τ, σ.get id = none → τ.get id = some ⟨cs, true⟩ → Ext σ τ → K (.pointer (some ⟨id, 0, none⟩)) τ) :
    hBox sz [.agg cs.toArray] K σ := by
  rw [hBox_a h]
  exact fun id hid => hk id _ hid (Mem.get_set_same _ _ _) (Ext.fresh hid)
theorem Keep.fresh {L : List Nat} {τ υ : Mem} {id : Nat} (h : σ.get id = none) (e : Ext σ τ) (k : Keep (id :: L) τ υ) : Keep L σ υ := by
  intro i b hi hn
  refine k i b (e i b hi) ?_
  simp only [List.mem_cons, not_or]
  exact ⟨fun e' => (by rw [e', h] at hi; cases hi), hn⟩
theorem isA.new (h : isA N A σ) {id : Nat} (hid : σ.get id = none) : id ∉ N.l := by
  have := h.fresh hid
  simpa [Nm.l] using this
theorem c_NewGive {s : Int} (hk : ∀ id τ, σ.get id = none → τ.get id = some ⟨(Gv.mk 0 s 0).l, true⟩ → Ext σ τ → K (.pointer (some ⟨id, 0, none⟩)) τ) : s_slot_NewGive [.int .i64 s] K σ := by
  have b : ∀ K : Value → Prop, xF (fBuild [(0, 1), (1, 1), (2, 1)] [.int .i64 0, .int .i64 0, .int .u64 0] [1]) [.int .i64 s] K = K (.agg #[.int .i64 0, .int .i64 s, .int .u64 0]) := fun K => nr rfl
  simp only [s_slot_NewGive, w_slot_NewGive, b, ruS, Nat.reduceAdd, reduceIte, Int.reduceLT, Int.reduceLE, Int.reduceEq, Int.reduceNeg, Int.reduceAdd, Int.reduceSub]
  exact hBox_i (cs := [_, _, _]) rfl hk
theorem newB_i {c : List Value} {v : Nat → Value} {K : Value → Mem → Prop} {σ : Mem} (h : ∀ id τ, σ.get id = none → τ.get id = some ⟨c, true⟩ → Ext σ τ → K (v id) τ) : newB c v K σ :=
  fun id hid => h id _ hid (Mem.get_set_same _ _ _) (Ext.fresh hid)
theorem hBuildS_i {es len : Nat} {z : List Value} {idx : List Nat} {args : List Value} {K : Value → Mem → Prop} {σ : Mem} (c : List Value) (hc : fillL (fun i => some (i * es, es)) (List.replicate len z).flatten idx args = some c)
    (h : ∀ id τ, σ.get id = none → τ.get id = some ⟨c, true⟩ → Ext σ τ → K (.slice (some ⟨id, 0, none⟩) len es) τ) : hBuildS es len z idx args K σ := by
  simp only [hBuildS, hc]
  exact newB_i h
theorem xLoop_i {F : (List Value → List (List Value) → Mem → Prop) → List Value → List (List Value) → Mem → Prop} (enc : Int → List Value) (ls : List (List Value)) (m : Int) (I : Int → Mem → Prop)
    (hr : ∀ i σ, I i σ → ∀ R : List Value → List (List Value) → Mem → Prop, (∀ τ, i < m → I (i + 1) τ → R (enc (i + 1)) ls τ) → F R (enc i) ls σ) {i : Int} {σ : Mem} (h0 : I i σ) : xLoop F (enc i) ls σ := by
  refine xLoop_inv (fun k ts l τ => ∃ i, k = (m - i).toNat ∧ ts = enc i ∧ l = ls ∧ I i τ) ?_ (n := (m - i).toNat) ⟨i, rfl, rfl, rfl, h0⟩
  rintro k ts l τ ⟨i, rfl, rfl, rfl, h⟩
  exact hr i τ h _ fun υ hi h' => ⟨_, by omega, i + 1, rfl, rfl, rfl, h'⟩
theorem xLoop_r {F : (List Value → List (List Value) → Mem → Prop) → List Value → List (List Value) → Mem → Prop} (I : Nat → List Value → List (List Value) → Mem → Prop)
    (hr : ∀ n ts ls σ, I n ts ls σ → ∀ R : List Value → List (List Value) → Mem → Prop, (∀ m ts' ls' σ', m < n → I m ts' ls' σ' → R ts' ls' σ') → F R ts ls σ)
    {n : Nat} {ts : List Value} {ls : List (List Value)} {σ : Mem} (h0 : I n ts ls σ) : xLoop F ts ls σ :=
  xLoop_inv I (fun n ts ls σ h => hr n ts ls σ h _ fun m ts' ls' σ' hm h' => ⟨m, hm, h'⟩) h0
theorem xAndI {K : Value → Prop} {Q : EqK} {k : Nat} {a : Int} (hk : k ≤ 62) : xF (fBin .and Q) [.int .i64 a, .int .i64 (2 ^ k - 1)] K = K (.int .i64 (a % 2 ^ k)) := by
  have e : ((2 : Int) ^ k - 1) = ((2 ^ k - 1 : Nat) : Int) := by
    push_cast [Nat.one_le_two_pow]
    rfl
  have hp : 0 < 2 ^ k := Nat.two_pow_pos k
  have e2 : ((2 ^ k : Nat) : Int) = 2 ^ k := by push_cast; rfl
  have hb : 2 ^ k ≤ 2 ^ 62 := Nat.pow_le_pow_right (by decide) hk
  have hd : (2 ^ k : Nat) ∣ 2 ^ 64 := Nat.pow_dvd_pow 2 (by omega)
  have q : ((BitVec.ofInt 64 a &&& BitVec.ofInt 64 ((2 ^ k - 1 : Nat) : Int)).toNat : Int) = a % 2 ^ k := by
    rw [BitVec.toNat_and, BitVec.toNat_ofInt, BitVec.toNat_ofInt]
    have h4 : (((2 ^ k - 1 : Nat) : Int) % ((2 ^ 64 : Nat) : Int)).toNat = 2 ^ k - 1 := by omega
    rw [h4, Nat.and_two_pow_sub_one_eq_mod, Int.natCast_emod, Int.toNat_of_nonneg (by omega), Int.emod_emod_of_dvd a (Int.natCast_dvd_natCast.2 hd), e2]
  simp only [xF, fBin, isSh, binI, Bool.false_eq_true, if_false, if_true]
  show K (.int .i64 (IntKind.i64.wrap ((BitVec.ofInt 64 a &&& BitVec.ofInt 64 (2 ^ k - 1)).toNat : Int))) = _
  rw [e, q]
  have h1 : 0 ≤ a % 2 ^ k := by rw [← e2]; exact Int.emod_nonneg _ (by omega)
  have h2 : a % 2 ^ k < 2 ^ k := by rw [← e2]; exact Int.emod_lt_of_pos _ (by omega)
  have h3 : (2 : Int) ^ k ≤ 4611686018427387904 := by rw [← e2]; omega
  rw [IntWalk.i64_in _ (by omega)]
theorem andI15 {K : Value → Prop} {Q : EqK} {a : Int} : xF (fBin .and Q) [.int .i64 a, .int .i64 15] K = K (.int .i64 (a % 16)) := by simpa using xAndI (K := K) (Q := Q) (k := 4) (a := a) (by decide)
theorem gStoreE {k : Nat} : gStore 9 [.pointer (some ⟨k, 0, some 0⟩), N.env C who] [.int .i64 0, .int .i64 0, .int .i64 0, .int .i64 0, .int .i64 0, .int .i64 0, .int .i64 0, .pointer none, .int .i64 0] = some (N.el C who) := nr rfl
theorem c_PeekA (hN : N.ok) (hA : isA N A σ) {a : Int} (h0 : 0 ≤ a) (h1 : a < A.n) : s_mem_Mem_Peek [N.p, .int .i64 a] K σ = K (.int .u64 (A.w a)) σ := by
  have := c_mPeek (N := N) (A := A) (σ := σ) (K := K) hN h0 h1
  rwa [← hA.eq] at this
def cA (T S Ch W : Int) : Cf := ⟨T, S, Ch, W, 100, 600, 3⟩
theorem cA_ok {T S Ch W : Int} (h1 : 1 ≤ T ∧ T ≤ 8) (h2 : 1 ≤ S ∧ S ≤ 65536) (h3 : 1 ≤ Ch ∧ Ch ≤ 64) (h4 : 17 ≤ W ∧ W ≤ 256) : (cA T S Ch W).ok :=
  ⟨h1, h2, h3, h4, ⟨by show (1 : Int) ≤ 100; decide, by show (100 : Int) ≤ 65535; decide⟩, ⟨by show (0 : Int) ≤ 600; decide, by show (600 : Int) ≤ 1000; decide⟩, ⟨by show (1 : Int) ≤ 3; decide, by show (3 : Int) ≤ 16; decide⟩⟩
theorem Keep.get {L : List Nat} {τ : Mem} {i : Nat} {b : Blk} (k : Keep L σ τ) (h : σ.get i = some b) (hn : i ∉ L) : τ.get i = some b := k i b h hn
theorem c_NowA (hA : isA N A σ) : s_layout_Env_Now [N.env C who] K σ = K (.int .i64 A.s) σ := by
  have := c_Now (N := N) (A := A) (σ := σ) (K := K) (C := C) (who := who)
  rwa [← hA.eq] at this
structure Aft (A A' : Ar) (k : Int) (w : Int → Int) : Prop where
  n : A'.n = A.n
  w : A'.w = w
  s : A'.s = A.s + k
  t : ∀ i, A'.t i = A.t i ∨ A.s < A'.t i ∧ A'.t i ≤ A'.s
theorem Aft.ok {A' : Ar} {k b : Int} {w : Int → Int} (h : Aft A A' k w) (hk : 0 ≤ k) (ho : A.ok b) (hw : ∀ i, 0 ≤ w i ∧ w i < 18446744073709551616) : A'.ok (b + k) := by
  refine ⟨fun i => by rw [h.w]; exact hw i, ?_, fun i => ?_⟩
  · have := ho.s; have := h.s; omega
  · have := ho.s; have := h.s; have := ho.t i
    rcases h.t i with e | e <;> omega
theorem Aft.trans {A' A'' : Ar} {k k' : Int} {w w' : Int → Int} (h : Aft A A' k w) (h' : Aft A' A'' k' w') (hk : 0 ≤ k) (hk' : 0 ≤ k') : Aft A A'' (k + k') w' := by
  refine ⟨h'.n.trans h.n, h'.w, by rw [h'.s, h.s]; omega, fun i => ?_⟩
  have := h.s; have := h'.s
  rcases h'.t i with e | e
  · rw [e]
    rcases h.t i with e | e <;> omega
  · omega
theorem aft_load {b a : Int} (h : A.ok b) (hb : b < 9223372036854775807) : Aft A ((A.by who).load a) 1 A.w :=
  ⟨rfl, rfl, by rw [load_s, by_s, h.s1 hb], fun i => .inl rfl⟩
theorem aft_store {b a v : Int} (h : A.ok b) (hb : b < 9223372036854775807) : Aft A ((A.by who).store a v) 1 (upd A.w a v) := by
  refine ⟨rfl, rfl, by rw [store_s, by_s, h.s1 hb], fun i => ?_⟩
  rw [store_t, by_s, h.s1 hb, store_s, by_s, h.s1 hb]
  split
  · unfold upd; split
    · right; omega
    · left; rfl
  · left; rfl
theorem aft_cas {b a o v : Int} (h : A.ok b) (hb : b < 9223372036854775807) : Aft A ((A.by who).cas a o v) 1 (if A.w a = o then upd A.w a v else A.w) := by
  by_cases hc : A.w a = o
  · rw [if_pos hc, cas_yes (by exact hc)]; exact aft_store h hb
  · rw [if_neg hc, cas_no (by exact hc)]; exact aft_load h hb
end Go.Fl
namespace Go.Fl
open Go
set_option linter.unusedVariables false
set_option linter.unusedSimpArgs false
variable {N : Nm} {A B : Ar} {σ : Mem} {K : Value → Mem → Prop} {C : Cf} {who : Int}
theorem Ext.keep' {σ0 τ : Mem} {L : List Nat} (h : Ext σ0 σ) (k : Keep L σ τ) (hL : ∀ i ∈ L, σ0.get i = none) : Ext σ0 τ := by
  intro i b hi
  refine k i b (h i b hi) fun hm => ?_
  rw [hL i hm] at hi; cases hi
theorem Ext.none {τ : Mem} (h : Ext σ τ) {i : Nat} (hi : τ.get i = none) : σ.get i = none := by
  cases e : σ.get i with
  | none => rfl
  | some b => rw [h i b e] at hi; cases hi
theorem Nm.fr.all (h : N.fr σ) : ∀ i ∈ N.l, σ.get i = none := by
  intro i hi
  simp only [Nm.l, List.mem_cons, List.not_mem_nil, or_false] at hi
  rcases hi with rfl | rfl | rfl
  · exact h.m
  · exact h.w
  · exact h.t
theorem FlatL.split : ∀ {ks ls : List (Option IntKind)} {cs : List Value}, FlatL (ks ++ ls) cs → FlatL ks (cs.take ks.length) ∧ FlatL ls (cs.drop ks.length)
  | [], ls, cs, h => ⟨.nil, h⟩
  | k :: ks, ls, cs, h => by
    cases h with
    | cons h1 h2 =>
      obtain ⟨a, b⟩ := FlatL.split h2
      exact ⟨.cons h1 a, b⟩
theorem FlatL.elem {ks : List (Option IntKind)} : ∀ {n : Nat} {cs : List Value}, FlatL (List.replicate n ks).flatten cs → ∀ {i : Nat}, i < n → FlatL ks ((cs.drop (i * ks.length)).take ks.length)
  | 0, cs, h, i, hi => by omega
  | n + 1, cs, h, i, hi => by
    have e : (List.replicate (n + 1) ks).flatten = ks ++ (List.replicate n ks).flatten := by simp [List.replicate_succ]
    rw [e] at h
    obtain ⟨a, b⟩ := h.split
    cases i with
    | zero => simpa using a
    | succ i =>
      have := b.elem (i := i) (by omega)
      rw [List.drop_drop] at this
      rwa [show (i + 1) * ks.length = ks.length + i * ks.length by rw [Nat.succ_mul, Nat.add_comm]]
def ArgS (es : Nat) (σ : Mem) (s : Value) (n : Nat) (cs : List Value) : Prop := cs.length = n * es ∧ ∃ a c, s = .slice a n c ∧ (0 < n → ∃ b rw, a = some ⟨b, 0, none⟩ ∧ σ.get b = some ⟨cs, rw⟩)
theorem Sl.argS {es : Nat} {s : Value} {n : Nat} {cs : List Value} (h : Sl σ es n cs s) : ArgS es σ s n cs := by
  cases h with
  | nil => exact ⟨by simp, none, 0, rfl, fun h => absurd h (Nat.lt_irrefl 0)⟩
  | mk hl hg =>
    rename_i b
    refine ⟨hl, some ⟨b, 0, none⟩, es, rfl, fun h => ?_⟩
    rcases hg with hg | ⟨rw, hg⟩
    · omega
    · exact ⟨b, rw, rfl, hg⟩
theorem ArgS.keep {es : Nat} {s : Value} {n : Nat} {cs : List Value} {τ : Mem} (h : ArgS es σ s n cs) (k : Ext σ τ) : ArgS es τ s n cs := by
  obtain ⟨l, a, c, rfl, h⟩ := h
  refine ⟨l, a, c, rfl, fun hn => ?_⟩
  obtain ⟨b, rw, e, h⟩ := h hn
  exact ⟨b, rw, e, k _ _ h⟩
theorem ArgS.len {es : Nat} {s : Value} {n : Nat} {cs : List Value} (h : ArgS es σ s n cs) {K : Value → Prop} : xF fLen [s] K = K (.int .i64 n) := by
  obtain ⟨_, a, c, rfl, _⟩ := h; exact xLen
theorem ArgS.ix {es : Nat} {s : Value} {n : Nat} {cs : List Value} (h : ArgS es σ s n cs) {i : Int} (h0 : 0 ≤ i) (h1 : i < n) {kd : IntKind} :
    (xF (fIxS es) [s, .int kd i] fun v => hLoad es true [v] K σ) = K (.agg ((cs.drop (i.toNat * es)).take es).toArray) σ := by
  obtain ⟨l, a, c, rfl, h⟩ := h
  obtain ⟨b, rw, rfl, h'⟩ := h (by omega)
  have hle : i.toNat * es + es ≤ cs.length := by
    rw [l]
    calc i.toNat * es + es = (i.toNat + 1) * es := by rw [Nat.succ_mul]
      _ ≤ n * es := Nat.mul_le_mul_right _ (by omega)
  rw [xIxS h0 h1]
  simp only [Nat.zero_add]
  rw [hLoad_eq h', sub_l, if_pos hle, xOs]
section
variable {b o : Nat} {pre L post : List Value} {rw : Bool}
end
end Go.Fl
namespace Go.Fl
open Go
set_option linter.unusedVariables false
set_option linter.unusedSimpArgs false
variable {N : Nm} {A B : Ar} {σ : Mem} {K : Value → Mem → Prop} {C : Cf} {who : Int}
def slS (w : Int) : Int := w % 8
def slA (w : Int) : Int := w / 8 % 1048576
def slG (w : Int) : Int := w / 8388608 % 65536
def slV (w : Int) : Int := w / 549755813888 % 4194304
theorem c_wSlot {w : Int} (h0 : 0 ≤ w) (h1 : w < 18446744073709551616) : s_word_Slot [.int .u64 w] K σ = K (.agg #[.int .i64 (slS w), .int .i64 (slA w), .int .i64 (slG w), .int .i64 (slV w)]) σ := by
  have b : ∀ (a b c d : Int) (K : Value → Prop), xF (fBuild [(0, 1), (1, 1), (2, 1), (3, 1)] [.int .i64 0, .int .i64 0, .int .i64 0, .int .i64 0] [0, 1, 2, 3]) [.int .i64 a, .int .i64 b, .int .i64 c, .int .i64 d] K =
      K (.agg #[.int .i64 a, .int .i64 b, .int .i64 c, .int .i64 d]) := fun _ _ _ _ K => nr rfl
  simp only [s_word_Slot, w_word_Slot, gAlloc_s, xCs, ruS, Nat.reduceAdd, reduceIte, Int.reduceLT, Int.reduceLE, Int.reduceEq, Int.reduceNeg, Int.reduceAdd, Int.reduceSub]
  rw [and3 h0 h1]
  simp only [ruS, Nat.reduceAdd, reduceIte, Int.reduceLT, Int.reduceLE, Int.reduceEq, Int.reduceNeg, Int.reduceAdd, Int.reduceSub]
  rw [shr3 h0, and20 (by omega) (by omega)]
  simp only [ruS, Nat.reduceAdd, reduceIte, Int.reduceLT, Int.reduceLE, Int.reduceEq, Int.reduceNeg, Int.reduceAdd, Int.reduceSub]
  rw [shr23 h0, and16 (by omega) (by omega)]
  simp only [ruS, Nat.reduceAdd, reduceIte, Int.reduceLT, Int.reduceLE, Int.reduceEq, Int.reduceNeg, Int.reduceAdd, Int.reduceSub]
  rw [shr39 h0, and22 (by omega) (by omega)]
  simp only [ruS, Nat.reduceAdd, reduceIte, Int.reduceLT, Int.reduceLE, Int.reduceEq, Int.reduceNeg, Int.reduceAdd, Int.reduceSub]
  rw [IntWalk.i64_in (w % 8) (by omega), IntWalk.i64_in (w / 8 % 1048576) (by omega), IntWalk.i64_in (w / 8388608 % 65536) (by omega), IntWalk.i64_in (w / 549755813888 % 4194304) (by omega), b]
  simp only [ruS, ruL, ruX, Nat.reduceAdd, reduceIte, Int.reduceLT, Int.reduceLE, Int.reduceEq, Int.reduceNeg, Int.reduceAdd, Int.reduceSub, Nat.reduceLeDiff]
  rfl
theorem slA_bd (w : Int) : 0 ≤ slA w ∧ slA w ≤ 1048575 := by unfold slA; omega
theorem slG_bd (w : Int) : 0 ≤ slG w ∧ slG w ≤ 65535 := by unfold slG; omega
theorem slV_bd (w : Int) : 0 ≤ slV w ∧ slV w ≤ 4194303 := by unfold slV; omega
theorem sl_put {st ad ge ve : Int} (h1 : 0 ≤ st ∧ st ≤ 7) (h2 : 0 ≤ ad ∧ ad ≤ 1048575) (h3 : 0 ≤ ge ∧ ge ≤ 65535) (h4 : 0 ≤ ve ∧ ve ≤ 4194303) :
    slS (putSlot st ad ge ve) = st ∧ slA (putSlot st ad ge ve) = ad ∧ slG (putSlot st ad ge ve) = ge ∧ slV (putSlot st ad ge ve) = ve := by
  have e : putSlot st ad ge ve = st + ad * 8 + ge * 8388608 + ve * 549755813888 := by unfold putSlot; rw [cl_in h1.1 h1.2, cl_in h2.1 h2.2, cl_in h3.1 h3.2, cl_in h4.1 h4.2]
  rw [e]; unfold slS slA slG slV; omega
def bI (b : Bool) : Int := if b = true then 1 else 0
def putHead (k s t g : Int) (o : Bool) : Int := cl k 3 + cl s 65535 * 4 + cl t 65535 * 262144 + cl g 65535 * 17179869184 + bI o * 1125899906842624
theorem bI_bd (b : Bool) : 0 ≤ bI b ∧ bI b ≤ 1 := by cases b <;> decide
theorem putHead_in (k s t g : Int) (o : Bool) : 0 ≤ putHead k s t g o ∧ putHead k s t g o < 18446744073709551616 := by have := bI_bd o; unfold putHead cl; omega
def hdK (w : Int) : Int := w % 4
def hdS (w : Int) : Int := w / 4 % 65536
def hdT (w : Int) : Int := w / 262144 % 65536
def hdG (w : Int) : Int := w / 17179869184 % 65536
def hdO (w : Int) : Bool := decide (w / 1125899906842624 % 2 = 1)
theorem hd_put {k s t g : Int} {o : Bool} (h1 : 0 ≤ k ∧ k ≤ 3) (h2 : 0 ≤ s ∧ s ≤ 65535) (h3 : 0 ≤ t ∧ t ≤ 65535) (h4 : 0 ≤ g ∧ g ≤ 65535) :
    hdK (putHead k s t g o) = k ∧ hdS (putHead k s t g o) = s ∧ hdT (putHead k s t g o) = t ∧ hdG (putHead k s t g o) = g ∧ hdO (putHead k s t g o) = o := by
  have e : putHead k s t g o = k + s * 4 + t * 262144 + g * 17179869184 + bI o * 1125899906842624 := by unfold putHead; rw [cl_in h1.1 h1.2, cl_in h2.1 h2.2, cl_in h3.1 h3.2, cl_in h4.1 h4.2]
  have hb := bI_bd o
  rw [e]; unfold hdK hdS hdT hdG hdO
  refine ⟨by omega, by omega, by omega, by omega, ?_⟩
  have : (k + s * 4 + t * 262144 + g * 17179869184 + bI o * 1125899906842624) / 1125899906842624 % 2 = bI o := by omega
  rw [this]; cases o <;> rfl
theorem c_PutHead {k s t g : Int} {o : Bool} : s_word_PutHead [.agg #[.int .i64 k, .int .i64 s, .int .i64 t, .int .i64 g, .bool o]] K σ = K (.int .u64 (putHead k s t g o)) σ := by
  simp only [s_word_PutHead, w_word_PutHead, w_word_PutHead_j1, w_word_PutHead_j1b, ruS, ruL, ruX, Nat.reduceAdd, reduceIte, Int.reduceLT, Int.reduceLE, Int.reduceEq, Int.reduceNeg, Int.reduceAdd, Int.reduceSub, Nat.reduceLeDiff]
  have h1 := @cl_le k 3
  have h2 := @cl_nn k 3 (by decide)
  have h3 := @cl_le s 65535
  have h4 := @cl_nn s 65535 (by decide)
  have h5 := @cl_le t 65535
  have h6 := @cl_nn t 65535 (by decide)
  have h7 := @cl_le g 65535
  have h8 := @cl_nn g 65535 (by decide)
  rw [c_fit (by decide) (by decide), c_fit (by decide) (by decide), shl2 h4 (by omega), or2 h2 (by omega) h4 (by omega), c_fit (by decide) (by decide), shl18 h6 (by omega), or18 (by omega) (by omega) h6 (by omega),
    c_fit (by decide) (by decide), shl34 h8 (by omega), or34 (by omega) (by omega) h8 (by omega)]
  have o50 : ∀ K : Value → Prop, xF (fBin .or .no) [.int .u64 (cl k 3 + cl s 65535 * 4 + cl t 65535 * 262144 + cl g 65535 * 17179869184), .int .u64 1125899906842624] K = K (.int .u64 (cl k 3 + cl s 65535 * 4 + cl t 65535 * 262144 + cl g 65535 * 17179869184 + 1 * 1125899906842624)) :=
    fun K => or50 (c := 1) (by omega) (by omega) (by decide) (by omega)
  cases o
  · simp only [xIfB, ruS, ruL, ruX, Nat.reduceAdd, reduceIte, Int.reduceLT, Int.reduceLE, Int.reduceEq, Int.reduceNeg, Int.reduceAdd, Int.reduceSub, Nat.reduceLeDiff]
    unfold putHead bI; simp
  · simp only [xIfB, o50, ruS, ruL, ruX, Nat.reduceAdd, reduceIte, Int.reduceLT, Int.reduceLE, Int.reduceEq, Int.reduceNeg, Int.reduceAdd, Int.reduceSub, Nat.reduceLeDiff]
    unfold putHead bI; simp
theorem c_wHead {w : Int} (h0 : 0 ≤ w) (h1 : w < 18446744073709551616) : s_word_Head [.int .u64 w] K σ = K (.agg #[.int .i64 (hdK w), .int .i64 (hdS w), .int .i64 (hdT w), .int .i64 (hdG w), .bool (hdO w)]) σ := by
  have b : ∀ (a b c d : Int) (e : Bool) (K : Value → Prop), xF (fBuild [(0, 1), (1, 1), (2, 1), (3, 1), (4, 1)] [.int .i64 0, .int .i64 0, .int .i64 0, .int .i64 0, .bool false] [0, 1, 2, 3, 4]) [.int .i64 a, .int .i64 b, .int .i64 c, .int .i64 d, .bool e] K =
      K (.agg #[.int .i64 a, .int .i64 b, .int .i64 c, .int .i64 d, .bool e]) := fun _ _ _ _ _ K => nr rfl
  simp only [s_word_Head, w_word_Head, gAlloc_s, xCs, ruS, Nat.reduceAdd, reduceIte, Int.reduceLT, Int.reduceLE, Int.reduceEq, Int.reduceNeg, Int.reduceAdd, Int.reduceSub]
  rw [and2 h0 h1]
  simp only [ruS, Nat.reduceAdd, reduceIte, Int.reduceLT, Int.reduceLE, Int.reduceEq, Int.reduceNeg, Int.reduceAdd, Int.reduceSub]
  rw [shr2 h0, and16 (by omega) (by omega)]
  simp only [ruS, Nat.reduceAdd, reduceIte, Int.reduceLT, Int.reduceLE, Int.reduceEq, Int.reduceNeg, Int.reduceAdd, Int.reduceSub]
  rw [shr18 h0, and16 (by omega) (by omega)]
  simp only [ruS, Nat.reduceAdd, reduceIte, Int.reduceLT, Int.reduceLE, Int.reduceEq, Int.reduceNeg, Int.reduceAdd, Int.reduceSub]
  rw [shr34 h0, and16 (by omega) (by omega)]
  simp only [ruS, Nat.reduceAdd, reduceIte, Int.reduceLT, Int.reduceLE, Int.reduceEq, Int.reduceNeg, Int.reduceAdd, Int.reduceSub]
  rw [shr50 h0, and1 (by omega) (by omega)]
  simp only [ruS, Nat.reduceAdd, reduceIte, Int.reduceLT, Int.reduceLE, Int.reduceEq, Int.reduceNeg, Int.reduceAdd, Int.reduceSub]
  rw [IntWalk.i64_in (w % 4) (by omega), IntWalk.i64_in (w / 4 % 65536) (by omega), IntWalk.i64_in (w / 262144 % 65536) (by omega), IntWalk.i64_in (w / 17179869184 % 65536) (by omega), b]
  simp only [ruS, ruL, ruX, Nat.reduceAdd, reduceIte, Int.reduceLT, Int.reduceLE, Int.reduceEq, Int.reduceNeg, Int.reduceAdd, Int.reduceSub, Nat.reduceLeDiff]
  rfl
def putHandle (s g : Int) : Int := cl s 65535 + cl g 65535 * 65536
theorem c_PutHandle {s g : Int} : s_word_PutHandle [.agg #[.int .i64 s, .int .i64 g]] K σ = K (.int .u64 (putHandle s g)) σ := by
  simp only [s_word_PutHandle, w_word_PutHandle, ruS, ruL, ruX, Nat.reduceAdd, reduceIte, Int.reduceLT, Int.reduceLE, Int.reduceEq, Int.reduceNeg, Int.reduceAdd, Int.reduceSub, Nat.reduceLeDiff]
  have h1 := @cl_le s 65535
  have h2 := @cl_nn s 65535 (by decide)
  have h3 := @cl_le g 65535
  have h4 := @cl_nn g 65535 (by decide)
  rw [c_fit (by decide) (by decide), c_fit (by decide) (by decide), shl16 h4 (by omega), or16 h2 (by omega) h4 (by omega)]
  rfl
theorem c_wHandle {w : Int} (h0 : 0 ≤ w) (h1 : w < 4294967296) (h2 : 65536 ≤ w) : s_word_Handle [.int .u64 w] K σ = K (.tuple #[.agg #[.int .i64 (w % 65536), .int .i64 (w / 65536)], .bool true]) σ := by
  have b : ∀ (a b : Int) (K : Value → Prop), xF (fBuild [(0, 1), (1, 1)] [.int .i64 0, .int .i64 0] [0, 1]) [.int .i64 a, .int .i64 b] K = K (.agg #[.int .i64 a, .int .i64 b]) := fun _ _ K => nr rfl
  simp only [s_word_Handle, w_word_Handle, w_word_Handle_j1, w_word_Handle_j1b, gAlloc_s, xCs, ruS, Nat.reduceAdd, reduceIte, Int.reduceLT, Int.reduceLE, Int.reduceEq, Int.reduceNeg, Int.reduceAdd, Int.reduceSub]
  have e1 : w / 4294967296 = 0 := by omega
  have e2 : ¬ w / 65536 = 0 := by omega
  rw [shr32 h0, e1]
  simp only [ruS, Nat.reduceAdd, reduceIte, Int.reduceLT, Int.reduceLE, Int.reduceEq, Int.reduceNeg, Int.reduceAdd, Int.reduceSub]
  rw [shr16 h0]
  simp only [e2, ruS, Nat.reduceAdd, reduceIte, Int.reduceLT, Int.reduceLE, Int.reduceEq, Int.reduceNeg, Int.reduceAdd, Int.reduceSub]
  rw [and16 h0 (by omega)]
  simp only [ruS, Nat.reduceAdd, reduceIte, Int.reduceLT, Int.reduceLE, Int.reduceEq, Int.reduceNeg, Int.reduceAdd, Int.reduceSub]
  rw [shr16 h0]
  simp only [ruS, Nat.reduceAdd, reduceIte, Int.reduceLT, Int.reduceLE, Int.reduceEq, Int.reduceNeg, Int.reduceAdd, Int.reduceSub]
  rw [IntWalk.i64_in (w % 65536) (by omega), IntWalk.i64_in (w / 65536) (by omega), b]
  simp only [ruS, ruL, ruX, Nat.reduceAdd, reduceIte, Int.reduceLT, Int.reduceLE, Int.reduceEq, Int.reduceNeg, Int.reduceAdd, Int.reduceSub, Nat.reduceLeDiff]
end Go.Fl
namespace Go.Fl
open Go
set_option linter.unusedVariables false
set_option linter.unusedSimpArgs false
variable {N : Nm} {A B : Ar} {σ : Mem} {K : Value → Mem → Prop} {C : Cf} {who : Int}
def chS (w : Int) : Int := w % 4
def chC (w : Int) : Int := w / 4 % 64
def chU (w : Int) : Int := w / 256 % 1048576
def chN (w : Int) : Int := w / 268435456 % 68719476736
def putChunk (st c us sp : Int) : Int := cl st 3 + cl c 63 * 4 + cl us 1048575 * 256 + cl sp 68719476735 * 268435456
theorem putChunk_in (st c us sp : Int) : 0 ≤ putChunk st c us sp ∧ putChunk st c us sp < 18446744073709551616 := by unfold putChunk cl; omega
theorem c_PutChunk {st c us sp : Int} : s_word_PutChunk [.agg #[.int .i64 st, .int .i64 c, .int .i64 us, .int .i64 sp]] K σ = K (.int .u64 (putChunk st c us sp)) σ := by
  simp only [s_word_PutChunk, w_word_PutChunk, ruS, ruL, ruX, Nat.reduceAdd, reduceIte, Int.reduceLT, Int.reduceLE, Int.reduceEq, Int.reduceNeg, Int.reduceAdd, Int.reduceSub, Nat.reduceLeDiff]
  have h1 := @cl_le st 3
  have h2 := @cl_nn st 3 (by decide)
  have h3 := @cl_le c 63
  have h4 := @cl_nn c 63 (by decide)
  have h5 := @cl_le us 1048575
  have h6 := @cl_nn us 1048575 (by decide)
  have h7 := @cl_le sp 68719476735
  have h8 := @cl_nn sp 68719476735 (by decide)
  rw [c_fit (by decide) (by decide), c_fit (by decide) (by decide), shl2 h4 (by omega), or2 h2 (by omega) h4 (by omega), c_fit (by decide) (by decide), shl8 h6 (by omega), or8 (by omega) (by omega) h6 (by omega),
    c_fit (by decide) (by decide), shl28 h8 (by omega), or28 (by omega) (by omega) h8 (by omega)]
  rfl
theorem c_wChunk {w : Int} (h0 : 0 ≤ w) (h1 : w < 18446744073709551616) : s_word_Chunk [.int .u64 w] K σ = K (.agg #[.int .i64 (chS w), .int .i64 (chC w), .int .i64 (chU w), .int .i64 (chN w)]) σ := by
  have b : ∀ (a b c d : Int) (K : Value → Prop), xF (fBuild [(0, 1), (1, 1), (2, 1), (3, 1)] [.int .i64 0, .int .i64 0, .int .i64 0, .int .i64 0] [0, 1, 2, 3]) [.int .i64 a, .int .i64 b, .int .i64 c, .int .i64 d] K =
      K (.agg #[.int .i64 a, .int .i64 b, .int .i64 c, .int .i64 d]) := fun _ _ _ _ K => nr rfl
  simp only [s_word_Chunk, w_word_Chunk, gAlloc_s, xCs, ruS, Nat.reduceAdd, reduceIte, Int.reduceLT, Int.reduceLE, Int.reduceEq, Int.reduceNeg, Int.reduceAdd, Int.reduceSub]
  rw [and2 h0 h1]
  simp only [ruS, Nat.reduceAdd, reduceIte, Int.reduceLT, Int.reduceLE, Int.reduceEq, Int.reduceNeg, Int.reduceAdd, Int.reduceSub]
  rw [shr2 h0, and6 (by omega) (by omega)]
  simp only [ruS, Nat.reduceAdd, reduceIte, Int.reduceLT, Int.reduceLE, Int.reduceEq, Int.reduceNeg, Int.reduceAdd, Int.reduceSub]
  rw [shr8 h0, and20 (by omega) (by omega)]
  simp only [ruS, Nat.reduceAdd, reduceIte, Int.reduceLT, Int.reduceLE, Int.reduceEq, Int.reduceNeg, Int.reduceAdd, Int.reduceSub]
  rw [shr28 h0, and36 (by omega) (by omega)]
  simp only [ruS, Nat.reduceAdd, reduceIte, Int.reduceLT, Int.reduceLE, Int.reduceEq, Int.reduceNeg, Int.reduceAdd, Int.reduceSub]
  rw [IntWalk.i64_in (w % 4) (by omega), IntWalk.i64_in (w / 4 % 64) (by omega), IntWalk.i64_in (w / 256 % 1048576) (by omega), IntWalk.i64_in (w / 268435456 % 68719476736) (by omega), b]
  simp only [ruS, ruL, ruX, Nat.reduceAdd, reduceIte, Int.reduceLT, Int.reduceLE, Int.reduceEq, Int.reduceNeg, Int.reduceAdd, Int.reduceSub, Nat.reduceLeDiff]
  rfl
theorem chS_bd (w : Int) : 0 ≤ chS w ∧ chS w ≤ 3 := by unfold chS; omega
theorem chC_bd (w : Int) : 0 ≤ chC w ∧ chC w ≤ 63 := by unfold chC; omega
theorem chU_bd (w : Int) : 0 ≤ chU w ∧ chU w ≤ 1048575 := by unfold chU; omega
theorem chN_bd (w : Int) : 0 ≤ chN w ∧ chN w ≤ 68719476735 := by unfold chN; omega
theorem ch_put {st c us sp : Int} (h1 : 0 ≤ st ∧ st ≤ 3) (h2 : 0 ≤ c ∧ c ≤ 63) (h3 : 0 ≤ us ∧ us ≤ 1048575) (h4 : 0 ≤ sp ∧ sp ≤ 68719476735) :
    chS (putChunk st c us sp) = st ∧ chC (putChunk st c us sp) = c ∧ chU (putChunk st c us sp) = us ∧ chN (putChunk st c us sp) = sp := by
  have e : putChunk st c us sp = st + c * 4 + us * 256 + sp * 268435456 := by unfold putChunk; rw [cl_in h1.1 h1.2, cl_in h2.1 h2.2, cl_in h3.1 h3.2, cl_in h4.1 h4.2]
  rw [e]; unfold chS chC chU chN; omega
structure Pl where
  cls : Int
  pc : Int
  opn : Int
  at' : Int
  w : Int
  sa : Int
  sc : Int
  ok : Bool
def Pl.l (p : Pl) : List Value := [.int .i64 p.cls, .int .i64 p.pc, .int .u64 p.opn, .int .i64 p.at', .int .u64 p.w, .int .i64 p.sa, .int .i64 p.sc, .bool p.ok]
def Pl.new (c : Int) : Pl := ⟨c, 0, 0, 0, 0, 0, 0, false⟩
def Pl.fresh (p : Pl) : Int := putChunk 1 p.cls 0 (chN p.w + 1)
def Pl.next (C : Cf) (p : Pl) : Bool × Pl := (decide (C.C ≤ p.at' + 1), { p with at' := p.at' + 1, pc := 3 })
def Pl.step (C : Cf) (who : Int) (A : Ar) (p : Pl) : Bool × Pl × Ar :=
  if p.pc = 0 then
    let w := A.w (2 + p.cls)
    (false, (if IntKind.i64.wrap w - 1 < 0 then { p with opn := w, at' := 0, pc := 3 } else { p with opn := w, at' := IntKind.i64.wrap w - 1, pc := 1 }), (A.by who).load (2 + p.cls))
  else if p.pc = 1 then
    let w := A.w (C.chunk p.at')
    (false, (if chS w ≠ 1 ∨ chC w ≠ p.cls ∨ C.W < chU w + roomOf p.cls then { p with w := w, at' := 0, pc := 3 } else { p with w := w, pc := 2 }), (A.by who).load (C.chunk p.at'))
  else if p.pc = 2 then
    let good := A.w (C.chunk p.at') = p.w
    (decide good, (if good then { p with pc := 0, sa := C.base p.at' + chU p.w, sc := p.at', ok := true } else { p with pc := 0 }), (A.by who).cas (C.chunk p.at') p.w (putChunk (chS p.w) (chC p.w) (chU p.w + roomOf p.cls) (chN p.w)))
  else if p.pc = 3 then
    let w := A.w (C.chunk p.at')
    let q : Pl := { p with w := w }
    if chS w ≠ 0 then ((q.next C).1, (q.next C).2, (A.by who).load (C.chunk p.at')) else (false, { q with pc := 4 }, (A.by who).load (C.chunk p.at'))
  else if p.pc = 4 then
    if A.w (C.chunk p.at') = p.w then (false, { p with pc := 5 }, (A.by who).cas (C.chunk p.at') p.w p.fresh) else ((p.next C).1, (p.next C).2, (A.by who).cas (C.chunk p.at') p.w p.fresh)
  else if p.pc = 5 then
    (false, (if A.w (2 + p.cls) = p.opn then { p with pc := 0 } else { p with pc := 6 }), (A.by who).cas (2 + p.cls) p.opn (p.at' + 1))
  else (false, { p with pc := 0 }, (A.by who).cas (C.chunk p.at') p.fresh (putChunk 0 0 0 (chN p.w + 2)))
structure Pl.fit (C : Cf) (p : Pl) : Prop where
  cls : 0 ≤ p.cls ∧ p.cls ≤ 3
  opn : 0 ≤ p.opn ∧ p.opn < 18446744073709551616
  at' : 0 ≤ p.at' ∧ p.at' < C.C
  w : 0 ≤ p.w ∧ p.w < 18446744073709551616
theorem c_PlaceNew {c : Int} (hk : ∀ id τ, σ.get id = none → τ.get id = some ⟨(Pl.new c).l, true⟩ → Ext σ τ → K (.pointer (some ⟨id, 0, none⟩)) τ) : s_place_New [.int .i64 c] K σ := by
  have b : ∀ K : Value → Prop, xF (fBuild [(0, 1), (1, 1), (2, 1), (3, 1), (4, 1), (5, 2), (7, 1)] [.int .i64 0, .int .i64 0, .int .u64 0, .int .i64 0, .int .u64 0, .int .i64 0, .int .i64 0, .bool false] [0]) [.int .i64 c] K =
      K (.agg #[.int .i64 c, .int .i64 0, .int .u64 0, .int .i64 0, .int .u64 0, .int .i64 0, .int .i64 0, .bool false]) := fun K => nr rfl
  simp only [s_place_New, w_place_New, b, ruS, Nat.reduceAdd, reduceIte, Int.reduceLT, Int.reduceLE, Int.reduceEq, Int.reduceNeg, Int.reduceAdd, Int.reduceSub]
  exact hBox_i (cs := [_, _, _, _, _, _, _, _]) rfl hk
theorem c_Place_Spot (hA : isA N A σ) {p : Nat} {pre post : List Value} {t : Pl} (hp : σ.get p = some ⟨pre ++ t.l ++ post, true⟩) (hd : p ∉ N.l)
    (hk : K (.tuple #[if t.ok = true then .agg #[.int .i64 t.sa, .int .i64 t.sc] else .agg #[.int .i64 0, .int .i64 0], .bool t.ok]) σ) : s_place_Place_Spot [.pointer (some ⟨p, pre.length, none⟩)] K σ := by
  have b : ∀ K : Value → Prop, xF (fBuild [(0, 1), (1, 1)] [.int .i64 0, .int .i64 0] []) [] K = K (.agg #[.int .i64 0, .int .i64 0]) := fun K => nr rfl
  have e := hA.obj hp
  generalize hq : σ = υ at *
  rw [e] at hk ⊢
  simp only [s_place_Place_Spot, w_place_Place_Spot, w_place_Place_Spot_j1, w_place_Place_Spot_j1b, Pl.l, ldO hd, b, ruS, ruL, ruE, Nat.reduceAdd, reduceIte, Int.reduceLT, Int.reduceLE, Int.reduceEq, Int.reduceNeg, Int.reduceAdd, Int.reduceSub, Nat.reduceLeDiff, Nat.reduceLT] at hk ⊢
  cases h : t.ok <;> simp only [h, xIfB, ldO hd, ruS, ruL, ruE, Nat.reduceAdd, reduceIte, Int.reduceLT, Int.reduceLE, Int.reduceEq, Int.reduceNeg, Int.reduceAdd, Int.reduceSub, Nat.reduceLeDiff, Nat.reduceLT, sub_l] at hk ⊢ <;> exact hk
theorem c_fresh {p : Nat} {pre post : List Value} {t : Pl} (hd : p ∉ N.l) (hw : 0 ≤ t.w ∧ t.w < 18446744073709551616) :
    s_place_Place_fresh [.pointer (some ⟨p, pre.length, none⟩)] K (putA N A (σ.set p ⟨pre ++ t.l ++ post, true⟩)) = K (.int .u64 t.fresh) (putA N A (σ.set p ⟨pre ++ t.l ++ post, true⟩)) := by
  have b : ∀ (a b c : Int) (K : Value → Prop), xF (fBuild [(0, 1), (1, 1), (2, 1), (3, 1)] [.int .i64 0, .int .i64 0, .int .i64 0, .int .i64 0] [0, 1, 3]) [.int .i64 a, .int .i64 b, .int .i64 c] K = K (.agg #[.int .i64 a, .int .i64 b, .int .i64 0, .int .i64 c]) := fun _ _ _ K => nr rfl
  have hN := chN_bd t.w
  simp only [s_place_Place_fresh, w_place_Place_fresh, Pl.l, ldO hd, ruS, ruL, ruE, Nat.reduceAdd, reduceIte, Int.reduceLT, Int.reduceLE, Int.reduceEq, Int.reduceNeg, Int.reduceAdd, Int.reduceSub, Nat.reduceLeDiff, Nat.reduceLT]
  rw [c_wChunk hw.1 hw.2]
  simp only [ruS, ruL, ruE, Nat.reduceAdd, reduceIte, Int.reduceLT, Int.reduceLE, Int.reduceEq, Int.reduceNeg, Int.reduceAdd, Int.reduceSub, Nat.reduceLeDiff, Nat.reduceLT]
  rw [IntWalk.i64_in (chN t.w + 1) (by omega), b, c_PutChunk]
  rfl
theorem c_on {p : Nat} {pre post : List Value} {t : Pl} (hd : p ∉ N.l) (ha : 0 ≤ t.at' ∧ t.at' < 1000) :
    s_place_Place_on [.pointer (some ⟨p, pre.length, none⟩), N.env C who] K (putA N A (σ.set p ⟨pre ++ t.l ++ post, true⟩)) = K (.bool (t.next C).1) (putA N A (σ.set p ⟨pre ++ (t.next C).2.l ++ post, true⟩)) := by
  simp only [s_place_Place_on, w_place_Place_on, Pl.l, stOi hd, ldO hd, ruS, ruL, ruE, Nat.reduceAdd, reduceIte, Int.reduceLT, Int.reduceLE, Int.reduceEq, Int.reduceNeg, Int.reduceAdd, Int.reduceSub, Nat.reduceLeDiff, Nat.reduceLT]
  rw [IntWalk.i64_in (t.at' + 1) (by omega)]
  rfl
end Go.Fl
namespace Go.Fl
open Go
set_option linter.unusedVariables false
set_option linter.unusedSimpArgs false
variable {N : Nm} {A B : Ar} {σ : Mem} {K : Value → Mem → Prop} {C : Cf} {who : Int}
theorem room_bd {k : Int} (h0 : 0 ≤ k) (h1 : k ≤ 3) : 3 ≤ roomOf k ∧ roomOf k ≤ 17 := by
  rcases (show k = 0 ∨ k = 1 ∨ k = 2 ∨ k = 3 by omega) with rfl | rfl | rfl | rfl <;> decide
theorem chunk_bd (h : C.ok) {a : Int} (h0 : 0 ≤ a) (h1 : a < C.C) (hn : C.len ≤ A.n) : 0 ≤ C.chunk a ∧ C.chunk a < A.n := by
  have := len_bd h; have := h.T; have := h.S; have := h.C
  unfold Cf.chunk at *; omega
theorem base_bd (h : C.ok) {a : Int} (h0 : 0 ≤ a) (h1 : a < 65536) : 0 ≤ C.base a ∧ C.base a ≤ 1000000000 := by
  have := h.T; have := h.S; have := h.C
  have := mulW h h0 (by omega)
  unfold Cf.base; omega
theorem gStoreH {a b c d w x y z : Int} : gStore 4 [.pointer (some ⟨5, 0, none⟩), .agg #[.int .i64 a, .int .i64 b, .int .i64 c, .int .i64 d]] [.int .i64 w, .int .i64 x, .int .i64 y, .int .i64 z] = some [.int .i64 a, .int .i64 b, .int .i64 c, .int .i64 d] := rfl
theorem sub4 {a b c d : Value} : sub [a, b, c, d] 0 4 true = some (.agg #[a, b, c, d]) := rfl
theorem c_Place_Step (hN : N.ok) (hC : C.ok) (hA : isA N A σ) {p : Nat} {pre post : List Value} {t : Pl} (hp : σ.get p = some ⟨pre ++ t.l ++ post, true⟩) (hd : p ∉ N.l)
    (hw : ∀ i, 0 ≤ A.w i ∧ A.w i < 18446744073709551616) (hn : C.len ≤ A.n) (hf : t.fit C) (ho : A.w (2 + t.cls) ≤ C.C)
    (hk : ∀ τ, isA N (t.step C who A).2.2 τ → τ.get p = some ⟨pre ++ (t.step C who A).2.1.l ++ post, true⟩ → Keep (p :: N.l) σ τ → K (.bool (t.step C who A).1) τ) :
    s_place_Place_Step [.pointer (some ⟨p, pre.length, none⟩), N.env C who] K σ := by
  rw [hA.obj hp]
  have hl := len_bd hC
  have hT := hC.T
  have hS := hC.S
  have hCC := hC.C
  have hW := hC.W
  obtain ⟨f1, f2, f3, f4⟩ := hf
  have hch : C.chunk C.C = 6 + C.T + 2 * C.S + 3 * C.C := rfl
  have hcb := chunk_bd hC f3.1 f3.2 hn
  have hbb := base_bd hC f3.1 (by omega)
  have hrb := room_bd f1.1 f1.2
  have hwo := hw (2 + t.cls)
  have hwc := hw (C.chunk t.at')
  have hwr : IntKind.i64.wrap (A.w (2 + t.cls)) = A.w (2 + t.cls) := IntWalk.i64_in _ (by omega)
  simp only [s_place_Place_Step, w_place_Place_Step, w_place_Place_Step_j1, w_place_Place_Step_j1b, w_place_Place_Step_j2, w_place_Place_Step_j2b, Pl.l, ldO hd, ruS, ruL, ruE, Nat.reduceAdd, reduceIte, Int.reduceLT, Int.reduceLE, Int.reduceEq, Int.reduceNeg, Int.reduceAdd, Int.reduceSub, Nat.reduceLeDiff, Nat.reduceLT]
  by_cases c0 : t.pc = 0
  · rw [if_pos c0, c_Open f1.1 (by omega), c_Load hN (by omega) (by omega)]
    simp only [stOi hd, stOb hd, ldO hd, ruS, ruL, ruE, Nat.reduceAdd, reduceIte, Int.reduceLT, Int.reduceLE, Int.reduceEq, Int.reduceNeg, Int.reduceAdd, Int.reduceSub, Nat.reduceLeDiff, Nat.reduceLT]
    rw [hwr, IntWalk.i64_in (A.w (2 + t.cls) - 1) (by omega)]
    simp only [Pl.step, if_pos c0, hwr] at hk
    by_cases q : A.w (2 + t.cls) - 1 < 0
    · rw [if_pos q] at hk ⊢
      exact behind hN hd hk
    · rw [if_neg q] at hk ⊢
      exact behind hN hd hk
  · by_cases c1 : t.pc = 1
    · rw [if_neg c0, if_pos c1, c_Chunk hC f3.1 (by omega), c_Load hN hcb.1 hcb.2]
      simp only [stOi hd, stOb hd, ldO hd, ruS, ruL, ruE, Nat.reduceAdd, reduceIte, Int.reduceLT, Int.reduceLE, Int.reduceEq, Int.reduceNeg, Int.reduceAdd, Int.reduceSub, Nat.reduceLeDiff, Nat.reduceLT]
      rw [c_wChunk hwc.1 hwc.2]
      simp only [stOi hd, ldO hd, gStoreH, Cf.v, Cf.l, ruS, ruL, ruE, Nat.reduceAdd, reduceIte, Int.reduceLT, Int.reduceLE, Int.reduceEq, Int.reduceNeg, Int.reduceAdd, Int.reduceSub, Nat.reduceLeDiff, Nat.reduceLT]
      simp only [Pl.step, if_neg c0, if_pos c1] at hk
      have hu := chU_bd (A.w (C.chunk t.at'))
      by_cases q1 : chS (A.w (C.chunk t.at')) = 1
      · by_cases q2 : chC (A.w (C.chunk t.at')) = t.cls
        · simp only [q1, q2, ruS, ruL, ruE, Nat.reduceAdd, reduceIte, Int.reduceLT, Int.reduceLE, Int.reduceEq, Int.reduceNeg, Int.reduceAdd, Int.reduceSub, Nat.reduceLeDiff, Nat.reduceLT]
          rw [c_Room f1.1 f1.2]
          simp only [ruS, ruL, ruE, Nat.reduceAdd, reduceIte, Int.reduceLT, Int.reduceLE, Int.reduceEq, Int.reduceNeg, Int.reduceAdd, Int.reduceSub, Nat.reduceLeDiff, Nat.reduceLT]
          rw [IntWalk.i64_in (chU (A.w (C.chunk t.at')) + roomOf t.cls) (by omega)]
          by_cases q3 : C.W < chU (A.w (C.chunk t.at')) + roomOf t.cls
          · simp only [q3, stOi hd, ruS, ruL, ruE, Nat.reduceAdd, reduceIte, Int.reduceLT, Int.reduceLE, Int.reduceEq, Int.reduceNeg, Int.reduceAdd, Int.reduceSub, Nat.reduceLeDiff, Nat.reduceLT]
            rw [if_pos (.inr (.inr q3))] at hk
            exact behind hN hd hk
          · simp only [q3, ruS, ruL, ruE, Nat.reduceAdd, reduceIte, Int.reduceLT, Int.reduceLE, Int.reduceEq, Int.reduceNeg, Int.reduceAdd, Int.reduceSub, Nat.reduceLeDiff, Nat.reduceLT]
            rw [if_neg (by rintro (h | h | h) <;> contradiction)] at hk
            exact behind hN hd hk
        · simp only [q1, q2, ruS, ruL, ruE, Nat.reduceAdd, reduceIte, Int.reduceLT, Int.reduceLE, Int.reduceEq, Int.reduceNeg, Int.reduceAdd, Int.reduceSub, Nat.reduceLeDiff, Nat.reduceLT]
          rw [if_pos (.inr (.inl q2))] at hk
          exact behind hN hd hk
      · simp only [q1, ruS, ruL, ruE, Nat.reduceAdd, reduceIte, Int.reduceLT, Int.reduceLE, Int.reduceEq, Int.reduceNeg, Int.reduceAdd, Int.reduceSub, Nat.reduceLeDiff, Nat.reduceLT]
        rw [if_pos (.inl q1)] at hk
        exact behind hN hd hk
    · by_cases c2 : t.pc = 2
      · rw [if_neg c0, if_neg c1, if_pos c2]
        simp only [Pl.step, if_neg c0, if_neg c1, if_pos c2] at hk
        simp only [s_place_Place_get, w_place_Place_get, ldO hd, ruS, ruL, ruE, Nat.reduceAdd, reduceIte, Int.reduceLT, Int.reduceLE, Int.reduceEq, Int.reduceNeg, Int.reduceAdd, Int.reduceSub, Nat.reduceLeDiff, Nat.reduceLT]
        rw [c_wChunk f4.1 f4.2]
        have hu := chU_bd t.w
        simp only [stOi hd, ldO hd, gStoreH, ruS, ruL, ruE, Nat.reduceAdd, reduceIte, Int.reduceLT, Int.reduceLE, Int.reduceEq, Int.reduceNeg, Int.reduceAdd, Int.reduceSub, Nat.reduceLeDiff, Nat.reduceLT]
        rw [c_Room f1.1 f1.2]
        simp only [ruS, ruL, ruE, Nat.reduceAdd, reduceIte, Int.reduceLT, Int.reduceLE, Int.reduceEq, Int.reduceNeg, Int.reduceAdd, Int.reduceSub, Nat.reduceLeDiff, Nat.reduceLT]
        rw [IntWalk.i64_in (chU t.w + roomOf t.cls) (by omega)]
        simp only [stOi hd, ldO hd, ruS, ruL, ruE, Nat.reduceAdd, reduceIte, Int.reduceLT, Int.reduceLE, Int.reduceEq, Int.reduceNeg, Int.reduceAdd, Int.reduceSub, Nat.reduceLeDiff, Nat.reduceLT]
        rw [c_Chunk hC f3.1 (by omega)]
        simp only [stOi hd, ldO hd, sub4, ruS, ruL, ruE, Nat.reduceAdd, reduceIte, Int.reduceLT, Int.reduceLE, Int.reduceEq, Int.reduceNeg, Int.reduceAdd, Int.reduceSub, Nat.reduceLeDiff, Nat.reduceLT]
        rw [c_PutChunk, c_Cas hN hcb.1 hcb.2]
        by_cases q : A.w (C.chunk t.at') = t.w
        · have b : ∀ (a c : Int) (K : Value → Prop), xF (fBuild [(0, 1), (1, 1)] [.int .i64 0, .int .i64 0] [0, 1]) [.int .i64 a, .int .i64 c] K = K (.agg #[.int .i64 a, .int .i64 c]) := fun _ _ K => nr rfl
          simp only [q, ldO hd, ruS, ruL, ruE, Nat.reduceAdd, reduceIte, Int.reduceLT, Int.reduceLE, Int.reduceEq, Int.reduceNeg, Int.reduceAdd, Int.reduceSub, Nat.reduceLeDiff, Nat.reduceLT]
          rw [c_Base hC f3.1 (by omega)]
          simp only [ldO hd, ruS, ruL, ruE, Nat.reduceAdd, reduceIte, Int.reduceLT, Int.reduceLE, Int.reduceEq, Int.reduceNeg, Int.reduceAdd, Int.reduceSub, Nat.reduceLeDiff, Nat.reduceLT]
          rw [IntWalk.i64_in (C.base t.at' + chU t.w) (by omega), b]
          simp only [stOa hd, stOb hd, q, ruS, ruL, ruE, Nat.reduceAdd, reduceIte, Int.reduceLT, Int.reduceLE, Int.reduceEq, Int.reduceNeg, Int.reduceAdd, Int.reduceSub, Nat.reduceLeDiff, Nat.reduceLT] at hk ⊢
          exact behind hN hd hk
        · simp only [q, ruS, ruL, ruE, Nat.reduceAdd, reduceIte, Int.reduceLT, Int.reduceLE, Int.reduceEq, Int.reduceNeg, Int.reduceAdd, Int.reduceSub, Nat.reduceLeDiff, Nat.reduceLT] at hk ⊢
          exact behind hN hd hk
      · by_cases c3 : t.pc = 3
        · rw [if_neg c0, if_neg c1, if_neg c2, if_pos c3, c_Chunk hC f3.1 (by omega), c_Load hN hcb.1 hcb.2]
          simp only [Pl.step, if_neg c0, if_neg c1, if_neg c2, if_pos c3] at hk
          simp only [stOi hd, stOb hd, ldO hd, ruS, ruL, ruE, Nat.reduceAdd, reduceIte, Int.reduceLT, Int.reduceLE, Int.reduceEq, Int.reduceNeg, Int.reduceAdd, Int.reduceSub, Nat.reduceLeDiff, Nat.reduceLT]
          rw [c_wChunk hwc.1 hwc.2]
          simp only [stOi hd, ldO hd, ruS, ruL, ruE, Nat.reduceAdd, reduceIte, Int.reduceLT, Int.reduceLE, Int.reduceEq, Int.reduceNeg, Int.reduceAdd, Int.reduceSub, Nat.reduceLeDiff, Nat.reduceLT]
          by_cases q : chS (A.w (C.chunk t.at')) = 0
          · simp only [q, ruS, ruL, ruE, Nat.reduceAdd, reduceIte, Int.reduceLT, Int.reduceLE, Int.reduceEq, Int.reduceNeg, Int.reduceAdd, Int.reduceSub, Nat.reduceLeDiff, Nat.reduceLT]
            rw [if_neg (fun h => h q)] at hk
            exact behind hN hd hk
          · simp only [q, ruS, ruL, ruE, Nat.reduceAdd, reduceIte, Int.reduceLT, Int.reduceLE, Int.reduceEq, Int.reduceNeg, Int.reduceAdd, Int.reduceSub, Nat.reduceLeDiff, Nat.reduceLT]
            rw [if_pos q] at hk
            exact Eq.mpr (c_on (K := K) (t := ⟨t.cls, t.pc, t.opn, t.at', A.w (C.chunk t.at'), t.sa, t.sc, t.ok⟩) hd ⟨f3.1, by dsimp only; omega⟩) (behind hN hd hk)
        · by_cases c4 : t.pc = 4
          · rw [if_neg c0, if_neg c1, if_neg c2, if_neg c3, if_pos c4, c_Chunk hC f3.1 (by omega)]
            simp only [Pl.step, if_neg c0, if_neg c1, if_neg c2, if_neg c3, if_pos c4] at hk
            simp only [stOi hd, stOb hd, ldO hd, ruS, ruL, ruE, Nat.reduceAdd, reduceIte, Int.reduceLT, Int.reduceLE, Int.reduceEq, Int.reduceNeg, Int.reduceAdd, Int.reduceSub, Nat.reduceLeDiff, Nat.reduceLT]
            refine Eq.mpr (c_fresh (t := t) hd f4) ?_
            rw [c_Cas hN hcb.1 hcb.2]
            by_cases q : A.w (C.chunk t.at') = t.w
            · simp only [q, stOi hd, ldO hd, Pl.l, ruS, ruL, ruE, Nat.reduceAdd, reduceIte, Int.reduceLT, Int.reduceLE, Int.reduceEq, Int.reduceNeg, Int.reduceAdd, Int.reduceSub, Nat.reduceLeDiff, Nat.reduceLT] at hk ⊢
              exact behind hN hd hk
            · simp only [q, ruS, ruL, ruE, Nat.reduceAdd, reduceIte, Int.reduceLT, Int.reduceLE, Int.reduceEq, Int.reduceNeg, Int.reduceAdd, Int.reduceSub, Nat.reduceLeDiff, Nat.reduceLT] at hk ⊢
              exact Eq.mpr (c_on (K := K) (t := t) hd ⟨f3.1, by omega⟩) (behind hN hd hk)
          · by_cases c5 : t.pc = 5
            · rw [if_neg c0, if_neg c1, if_neg c2, if_neg c3, if_neg c4, if_pos c5]
              simp only [Pl.step, if_neg c0, if_neg c1, if_neg c2, if_neg c3, if_neg c4, if_pos c5] at hk
              simp only [stOi hd, ldO hd, ruS, ruL, ruE, Nat.reduceAdd, reduceIte, Int.reduceLT, Int.reduceLE, Int.reduceEq, Int.reduceNeg, Int.reduceAdd, Int.reduceSub, Nat.reduceLeDiff, Nat.reduceLT]
              rw [c_Open f1.1 (by omega)]
              simp only [stOi hd, ldO hd, ruS, ruL, ruE, Nat.reduceAdd, reduceIte, Int.reduceLT, Int.reduceLE, Int.reduceEq, Int.reduceNeg, Int.reduceAdd, Int.reduceSub, Nat.reduceLeDiff, Nat.reduceLT]
              rw [IntWalk.i64_in (t.at' + 1) (by omega), show IntKind.u64.wrap (t.at' + 1) = t.at' + 1 from IntWalk.u64_in _ (by omega), c_Cas hN (by omega) (by omega)]
              by_cases q : A.w (2 + t.cls) = t.opn
              · simp only [q, stOi hd, ldO hd, ruS, ruL, ruE, Nat.reduceAdd, reduceIte, Int.reduceLT, Int.reduceLE, Int.reduceEq, Int.reduceNeg, Int.reduceAdd, Int.reduceSub, Nat.reduceLeDiff, Nat.reduceLT] at hk ⊢
                exact behind hN hd hk
              · simp only [q, ruS, ruL, ruE, Nat.reduceAdd, reduceIte, Int.reduceLT, Int.reduceLE, Int.reduceEq, Int.reduceNeg, Int.reduceAdd, Int.reduceSub, Nat.reduceLeDiff, Nat.reduceLT] at hk ⊢
                exact behind hN hd hk
            · rw [if_neg c0, if_neg c1, if_neg c2, if_neg c3, if_neg c4, if_neg c5, c_wChunk f4.1 f4.2]
              simp only [Pl.step, if_neg c0, if_neg c1, if_neg c2, if_neg c3, if_neg c4, if_neg c5] at hk
              have hN := chN_bd t.w
              have b : ∀ (a : Int) (K : Value → Prop), xF (fBuild [(0, 1), (1, 1), (2, 1), (3, 1)] [.int .i64 0, .int .i64 0, .int .i64 0, .int .i64 0] [3]) [.int .i64 a] K = K (.agg #[.int .i64 0, .int .i64 0, .int .i64 0, .int .i64 a]) := fun _ K => nr rfl
              simp only [ruS, ruL, ruE, Nat.reduceAdd, reduceIte, Int.reduceLT, Int.reduceLE, Int.reduceEq, Int.reduceNeg, Int.reduceAdd, Int.reduceSub, Nat.reduceLeDiff, Nat.reduceLT]
              rw [IntWalk.i64_in (chN t.w + 2) (by omega), b, c_PutChunk]
              simp only [stOi hd, ldO hd, ruS, ruL, ruE, Nat.reduceAdd, reduceIte, Int.reduceLT, Int.reduceLE, Int.reduceEq, Int.reduceNeg, Int.reduceAdd, Int.reduceSub, Nat.reduceLeDiff, Nat.reduceLT]
              rw [c_Chunk hC f3.1 (by omega)]
              refine Eq.mpr (c_fresh (t := t) hd f4) ?_
              rw [c_Cas ‹N.ok› hcb.1 hcb.2]
              simp only [stOi hd, ldO hd, Pl.l, ruS, ruL, ruE, Nat.reduceAdd, reduceIte, Int.reduceLT, Int.reduceLE, Int.reduceEq, Int.reduceNeg, Int.reduceAdd, Int.reduceSub, Nat.reduceLeDiff, Nat.reduceLT] at hk ⊢
              exact behind ‹N.ok› hd hk
end Go.Fl
namespace Go.Fl
open Go
set_option linter.unusedVariables false
set_option linter.unusedSimpArgs false
variable {N : Nm} {A B : Ar} {σ : Mem} {K : Value → Mem → Prop} {C : Cf} {who : Int}
def ceV (w : Int) : Int := w % 1099511627776
def ceF (w : Int) : Bool := decide (w / 9223372036854775808 = 1)
def ceN (w : Int) : Int := if ceF w = true then w / 1099511627776 % 4194304 else 0
def putCell (v : Int) (f : Bool) (n : Int) : Int := if f = true then cl v 1099511627775 + (8388608 + cl n 4194303) * 1099511627776 else cl v 1099511627775
theorem putCell_in (v : Int) (f : Bool) (n : Int) : 0 ≤ putCell v f n ∧ putCell v f n < 18446744073709551616 := by unfold putCell cl; split <;> omega
theorem or63c {K : Value → Prop} {Q : EqK} {a : Int} (h0 : 0 ≤ a) (h1 : a < 9223372036854775808) : xF (fBin .or Q) [.int .u64 9223372036854775808, .int .u64 a] K = K (.int .u64 (a + 9223372036854775808)) := by
  have := xOrG (K := K) (Q := Q) (s := 63) (a := a) (c := 1) h0 (by simpa using h1) (by decide) (by simp; omega)
  have e : xF (fBin .or Q) [.int .u64 9223372036854775808, .int .u64 a] K = xF (fBin .or Q) [.int .u64 a, .int .u64 (1 * 2 ^ 63)] K := by
    simp only [xF, fBin, isSh, binI, Bool.false_eq_true, if_false, if_true]
    rw [BitVec.or_comm]; rfl
  rw [e, this]; rfl
theorem c_PutCell {v n : Int} {f : Bool} : s_word_PutCell [.agg #[.int .i64 v, .bool f, .int .i64 n]] K σ = K (.int .u64 (putCell v f n)) σ := by
  simp only [s_word_PutCell, w_word_PutCell, w_word_PutCell_j1, w_word_PutCell_j1b, ruS, ruL, ruX, Nat.reduceAdd, reduceIte, Int.reduceLT, Int.reduceLE, Int.reduceEq, Int.reduceNeg, Int.reduceAdd, Int.reduceSub, Nat.reduceLeDiff]
  have h1 := @cl_le v 1099511627775
  have h2 := @cl_nn v 1099511627775 (by decide)
  have h3 := @cl_le n 4194303
  have h4 := @cl_nn n 4194303 (by decide)
  rw [c_fit (by decide) (by decide)]
  cases f
  · simp only [xIfB, ruS, ruL, ruX, Nat.reduceAdd, reduceIte, Int.reduceLT, Int.reduceLE, Int.reduceEq, Int.reduceNeg, Int.reduceAdd, Int.reduceSub, Nat.reduceLeDiff]
    unfold putCell; simp
  · simp only [xIfB, ruS, ruL, ruX, Nat.reduceAdd, reduceIte, Int.reduceLT, Int.reduceLE, Int.reduceEq, Int.reduceNeg, Int.reduceAdd, Int.reduceSub, Nat.reduceLeDiff]
    rw [c_fit (by decide) (by decide), shl40 h4 (by omega), or63c (by omega) (by omega), show cl n 4194303 * 1099511627776 + 9223372036854775808 = (8388608 + cl n 4194303) * 1099511627776 by omega, or40 h2 (by omega) (by omega) (by omega)]
    unfold putCell; simp
theorem c_wCell {w : Int} (h0 : 0 ≤ w) (h1 : w < 18446744073709551616) : s_word_Cell [.int .u64 w] K σ = K (.agg #[.int .i64 (ceV w), .bool (ceF w), .int .i64 (ceN w)]) σ := by
  have b : ∀ (a : Int) (e : Bool) (K : Value → Prop), xF (fBuild [(0, 1), (1, 1), (2, 1)] [.int .i64 0, .bool false, .int .i64 0] [0, 1]) [.int .i64 a, .bool e] K = K (.agg #[.int .i64 a, .bool e, .int .i64 0]) := fun _ _ K => nr rfl
  simp only [s_word_Cell, w_word_Cell, w_word_Cell_j1, w_word_Cell_j1b, gAlloc_s, xCs, ruS, Nat.reduceAdd, reduceIte, Int.reduceLT, Int.reduceLE, Int.reduceEq, Int.reduceNeg, Int.reduceAdd, Int.reduceSub]
  rw [and40 h0 h1]
  simp only [ruS, Nat.reduceAdd, reduceIte, Int.reduceLT, Int.reduceLE, Int.reduceEq, Int.reduceNeg, Int.reduceAdd, Int.reduceSub]
  rw [shr63 h0]
  simp only [ruS, Nat.reduceAdd, reduceIte, Int.reduceLT, Int.reduceLE, Int.reduceEq, Int.reduceNeg, Int.reduceAdd, Int.reduceSub]
  rw [IntWalk.i64_in (w % 1099511627776) (by omega), b]
  by_cases e : w / 9223372036854775808 = 1
  · have hF : ceF w = true := decide_eq_true e
    simp only [e, ruS, ruL, ruX, Nat.reduceAdd, reduceIte, Int.reduceLT, Int.reduceLE, Int.reduceEq, Int.reduceNeg, Int.reduceAdd, Int.reduceSub, Nat.reduceLeDiff]
    rw [shr40 h0, and22 (by omega) (by omega)]
    simp only [ruS, ruL, ruX, Nat.reduceAdd, reduceIte, Int.reduceLT, Int.reduceLE, Int.reduceEq, Int.reduceNeg, Int.reduceAdd, Int.reduceSub, Nat.reduceLeDiff]
    rw [IntWalk.i64_in (w / 1099511627776 % 4194304) (by omega), hF]
    unfold ceN ceV; rw [hF]; rfl
  · have hF : ceF w = false := decide_eq_false e
    simp only [e, ruS, ruL, ruX, Nat.reduceAdd, reduceIte, Int.reduceLT, Int.reduceLE, Int.reduceEq, Int.reduceNeg, Int.reduceAdd, Int.reduceSub, Nat.reduceLeDiff]
    rw [hF]
    unfold ceN ceV; rw [hF]; rfl
def hdOk (h : Int) : Bool := decide (h / 4294967296 = 0 ∧ h / 65536 ≠ 0)
def hdSl (h : Int) : Int := if hdOk h = true then h % 65536 else 0
def hdGe (h : Int) : Int := if hdOk h = true then h / 65536 else 0
theorem hdSl_bd {h : Int} (h0 : 0 ≤ h) : (0 ≤ hdSl h ∧ hdSl h ≤ 65535) ∧ 0 ≤ hdGe h ∧ hdGe h ≤ 65535 := by
  unfold hdSl hdGe hdOk
  by_cases e : h / 4294967296 = 0 ∧ h / 65536 ≠ 0
  · simp only [e, ne_eq, not_false_eq_true, and_self, decide_true, if_true]; omega
  · simp [e]
theorem c_wHandleG {w : Int} (h0 : 0 ≤ w) (h1 : w < 18446744073709551616) : s_word_Handle [.int .u64 w] K σ = K (.tuple #[.agg #[.int .i64 (hdSl w), .int .i64 (hdGe w)], .bool (hdOk w)]) σ := by
  by_cases e1 : w / 4294967296 = 0
  · by_cases e2 : w / 65536 = 0
    · have hO : hdOk w = false := decide_eq_false (by simp [e2])
      have b : ∀ (K : Value → Prop), xF (fBuild [(0, 1), (1, 1)] [.int .i64 0, .int .i64 0] []) [] K = K (.agg #[.int .i64 0, .int .i64 0]) := fun K => nr rfl
      simp only [s_word_Handle, w_word_Handle, w_word_Handle_j1, w_word_Handle_j1b, gAlloc_s, xCs, ruS, Nat.reduceAdd, reduceIte, Int.reduceLT, Int.reduceLE, Int.reduceEq, Int.reduceNeg, Int.reduceAdd, Int.reduceSub]
      rw [shr32 h0, e1]
      simp only [ruS, Nat.reduceAdd, reduceIte, Int.reduceLT, Int.reduceLE, Int.reduceEq, Int.reduceNeg, Int.reduceAdd, Int.reduceSub]
      rw [shr16 h0]
      simp only [e2, b, ruS, ruL, ruX, Nat.reduceAdd, reduceIte, Int.reduceLT, Int.reduceLE, Int.reduceEq, Int.reduceNeg, Int.reduceAdd, Int.reduceSub, Nat.reduceLeDiff]
      unfold hdSl hdGe; rw [hO]; rfl
    · have hO : hdOk w = true := decide_eq_true ⟨e1, e2⟩
      rw [c_wHandle h0 (by omega) (by omega)]
      unfold hdSl hdGe; rw [hO]; rfl
  · have hO : hdOk w = false := decide_eq_false (by simp [e1])
    have b : ∀ (K : Value → Prop), xF (fBuild [(0, 1), (1, 1)] [.int .i64 0, .int .i64 0] []) [] K = K (.agg #[.int .i64 0, .int .i64 0]) := fun K => nr rfl
    simp only [s_word_Handle, w_word_Handle, w_word_Handle_j1, w_word_Handle_j1b, gAlloc_s, xCs, ruS, Nat.reduceAdd, reduceIte, Int.reduceLT, Int.reduceLE, Int.reduceEq, Int.reduceNeg, Int.reduceAdd, Int.reduceSub]
    rw [shr32 h0]
    simp only [e1, b, ne_eq, not_false_eq_true, ruS, ruL, ruX, Nat.reduceAdd, reduceIte, Int.reduceLT, Int.reduceLE, Int.reduceEq, Int.reduceNeg, Int.reduceAdd, Int.reduceSub, Nat.reduceLeDiff]
    unfold hdSl hdGe; rw [hO]; rfl
structure Hl where
  slot : Int
  w : Int
  size : Int
  i : Int
  cell : Int
  read : Bool
  won : Bool
def Hl.l (h : Hl) : List Value := [.int .i64 h.slot, .int .u64 h.w, .int .i64 h.size, .int .i64 h.i, .int .u64 h.cell, .bool h.read, .bool h.won]
def Hl.new (s w z : Int) : Hl := ⟨s, w, z, 0, 0, false, false⟩
def Hl.a (h : Hl) : Int := slA h.w + 1 + h.i
def Hl.next (C : Cf) (h : Hl) : Int := if C.G ≤ slG h.w then putSlot 3 0 (slG h.w) 0 else putSlot 0 0 (slG h.w + 1) 0
def Hl.step (C : Cf) (who : Int) (A : Ar) (h : Hl) : Bool × Hl × Ar :=
  if h.size ≤ h.i then (true, { h with won := decide (A.w (C.slot h.slot) = h.w) }, (A.by who).cas (C.slot h.slot) h.w (h.next C))
  else if h.read = false then
    if ceF (A.w h.a) = true ∧ ceN (A.w h.a) = slV h.w then (false, { h with cell := A.w h.a, read := false, i := h.i + 1 }, (A.by who).load h.a)
    else (false, { h with cell := A.w h.a, read := true }, (A.by who).load h.a)
  else if A.w h.a = h.cell then (false, { h with read := false, i := h.i + 1 }, (A.by who).cas h.a h.cell (putCell (ceV h.cell) true (slV h.w)))
  else (false, { h with read := false }, (A.by who).cas h.a h.cell (putCell (ceV h.cell) true (slV h.w)))
structure Hl.fit (C : Cf) (h : Hl) : Prop where
  slot : 0 ≤ h.slot ∧ h.slot < C.S
  w : 0 ≤ h.w ∧ h.w < 18446744073709551616
  cell : 0 ≤ h.cell ∧ h.cell < 18446744073709551616
  size : h.size ≤ 65535
  i : 0 ≤ h.i ∧ h.i ≤ 65536
  at' : h.i < h.size → slA h.w + 1 + h.i < C.len
theorem c_NewHelp {s w z : Int} (hk : ∀ id τ, σ.get id = none → τ.get id = some ⟨(Hl.new s w z).l, true⟩ → Ext σ τ → K (.pointer (some ⟨id, 0, none⟩)) τ) : s_drop_NewHelp [.int .i64 s, .int .u64 w, .int .i64 z] K σ := by
  have b : ∀ K : Value → Prop, xF (fBuild [(0, 1), (1, 1), (2, 1), (3, 1), (4, 1), (5, 1), (6, 1)] [.int .i64 0, .int .u64 0, .int .i64 0, .int .i64 0, .int .u64 0, .bool false, .bool false] [0, 1, 2]) [.int .i64 s, .int .u64 w, .int .i64 z] K =
      K (.agg #[.int .i64 s, .int .u64 w, .int .i64 z, .int .i64 0, .int .u64 0, .bool false, .bool false]) := fun K => nr rfl
  simp only [s_drop_NewHelp, w_drop_NewHelp, b, ruS, Nat.reduceAdd, reduceIte, Int.reduceLT, Int.reduceLE, Int.reduceEq, Int.reduceNeg, Int.reduceAdd, Int.reduceSub]
  exact hBox_i (cs := [_, _, _, _, _, _, _]) rfl hk
theorem c_Help_Step (hN : N.ok) (hC : C.ok) (hA : isA N A σ) {p : Nat} {pre post : List Value} {t : Hl} (hp : σ.get p = some ⟨pre ++ t.l ++ post, true⟩) (hd : p ∉ N.l)
    (hw : ∀ i, 0 ≤ A.w i ∧ A.w i < 18446744073709551616) (hn : C.len ≤ A.n) (hf : t.fit C)
    (hk : ∀ τ, isA N (t.step C who A).2.2 τ → τ.get p = some ⟨pre ++ (t.step C who A).2.1.l ++ post, true⟩ → Keep (p :: N.l) σ τ → K (.bool (t.step C who A).1) τ) :
    s_drop_Help_Step [.pointer (some ⟨p, pre.length, none⟩), N.env C who] K σ := by
  rw [hA.obj hp]
  have hl := len_bd hC
  have hT := hC.T
  have hS := hC.S
  have hCC := hC.C
  obtain ⟨f1, f2, f3, f4, f5, f6⟩ := hf
  have hch : C.chunk C.C = 6 + C.T + 2 * C.S + 3 * C.C := rfl
  have hsb : 0 ≤ C.slot t.slot ∧ C.slot t.slot < A.n := by unfold Cf.slot; omega
  have hA1 := slA_bd t.w
  have hG1 := slG_bd t.w
  have hV1 := slV_bd t.w
  have g4 : ∀ (k : Nat) (x y z w x' y' z' w' : Int), gStore 4 [.pointer (some ⟨k, 0, some 0⟩), .agg #[.int .i64 x, .int .i64 y, .int .i64 z, .int .i64 w]] [.int .i64 x', .int .i64 y', .int .i64 z', .int .i64 w'] = some [.int .i64 x, .int .i64 y, .int .i64 z, .int .i64 w] := fun _ _ _ _ _ _ _ _ _ => rfl
  have g3 : ∀ (k : Nat) (x z : Int) (y : Bool) (x' z' : Int) (y' : Bool), gStore 3 [.pointer (some ⟨k, 0, some 0⟩), .agg #[.int .i64 x, .bool y, .int .i64 z]] [.int .i64 x', .bool y', .int .i64 z'] = some [.int .i64 x, .bool y, .int .i64 z] := fun _ _ _ _ _ _ _ => rfl
  have b02 : ∀ (x y : Int) (K : Value → Prop), xF (fBuild [(0, 1), (1, 1), (2, 1), (3, 1)] [.int .i64 0, .int .i64 0, .int .i64 0, .int .i64 0] [0, 2]) [.int .i64 x, .int .i64 y] K = K (.agg #[.int .i64 x, .int .i64 0, .int .i64 y, .int .i64 0]) := fun _ _ K => nr rfl
  have b3 : ∀ (x y : Int) (z : Bool) (K : Value → Prop), xF (fBuild [(0, 1), (1, 1), (2, 1)] [.int .i64 0, .bool false, .int .i64 0] [0, 1, 2]) [.int .i64 x, .bool z, .int .i64 y] K = K (.agg #[.int .i64 x, .bool z, .int .i64 y]) := fun _ _ _ K => nr rfl
  simp only [s_drop_Help_Step, w_drop_Help_Step, w_drop_Help_Step_j1, w_drop_Help_Step_j1b, Hl.l, ldO hd, ruS, ruL, ruE, Nat.reduceAdd, reduceIte, Int.reduceLT, Int.reduceLE, Int.reduceEq, Int.reduceNeg, Int.reduceAdd, Int.reduceSub, Nat.reduceLeDiff, Nat.reduceLT]
  rw [c_wSlot f2.1 f2.2]
  simp only [g4, ldO hd, ruS, ruL, ruE, Nat.reduceAdd, reduceIte, Int.reduceLT, Int.reduceLE, Int.reduceEq, Int.reduceNeg, Int.reduceAdd, Int.reduceSub, Nat.reduceLeDiff, Nat.reduceLT]
  rw [IntWalk.i64_in (slA t.w + 1) (by omega), IntWalk.i64_in (slA t.w + 1 + t.i) (by omega), c_wCell f3.1 f3.2]
  simp only [g3, ldO hd, ruS, ruL, ruE, Nat.reduceAdd, reduceIte, Int.reduceLT, Int.reduceLE, Int.reduceEq, Int.reduceNeg, Int.reduceAdd, Int.reduceSub, Nat.reduceLeDiff, Nat.reduceLT]
  unfold Hl.step at hk
  by_cases c0 : t.size ≤ t.i
  · rw [if_pos c0] at hk
    simp only [c0, b02, g4, ruS, ruL, ruE, Nat.reduceAdd, reduceIte, Int.reduceLT, Int.reduceLE, Int.reduceEq, Int.reduceNeg, Int.reduceAdd, Int.reduceSub, Nat.reduceLeDiff, Nat.reduceLT]
    rw [IntWalk.i64_in (slG t.w + 1) (by omega)]
    have e : ∀ v, t.next C = v → (K (.bool true) (putA N ((A.by who).cas (C.slot t.slot) t.w v) (σ.set p ⟨pre ++ ({ t with won := decide (A.w (C.slot t.slot) = t.w) } : Hl).l ++ post, true⟩))) := by
      rintro v rfl; exact behind hN hd hk
    by_cases q : C.G ≤ slG t.w
    · have := e _ (if_pos q)
      simp only [q, b02, g4, w_drop_Help_Step_j2, w_drop_Help_Step_j2b, ldO hd, ruS, ruL, ruE, Nat.reduceAdd, reduceIte, Int.reduceLT, Int.reduceLE, Int.reduceEq, Int.reduceNeg, Int.reduceAdd, Int.reduceSub, Nat.reduceLeDiff, Nat.reduceLT]
      rw [c_Slot hC f1.1 (by omega)]
      simp only [ldO hd, sub4, ruS, ruL, ruE, Nat.reduceAdd, reduceIte, Int.reduceLT, Int.reduceLE, Int.reduceEq, Int.reduceNeg, Int.reduceAdd, Int.reduceSub, Nat.reduceLeDiff, Nat.reduceLT]
      rw [c_PutSlot, c_Cas hN hsb.1 hsb.2]
      simp only [stOb hd, ruS, ruL, ruE, Nat.reduceAdd, reduceIte, Int.reduceLT, Int.reduceLE, Int.reduceEq, Int.reduceNeg, Int.reduceAdd, Int.reduceSub, Nat.reduceLeDiff, Nat.reduceLT]
      exact this
    · have := e _ (if_neg q)
      simp only [q, w_drop_Help_Step_j2, w_drop_Help_Step_j2b, ldO hd, ruS, ruL, ruE, Nat.reduceAdd, reduceIte, Int.reduceLT, Int.reduceLE, Int.reduceEq, Int.reduceNeg, Int.reduceAdd, Int.reduceSub, Nat.reduceLeDiff, Nat.reduceLT]
      rw [c_Slot hC f1.1 (by omega)]
      simp only [ldO hd, sub4, ruS, ruL, ruE, Nat.reduceAdd, reduceIte, Int.reduceLT, Int.reduceLE, Int.reduceEq, Int.reduceNeg, Int.reduceAdd, Int.reduceSub, Nat.reduceLeDiff, Nat.reduceLT]
      rw [c_PutSlot, c_Cas hN hsb.1 hsb.2]
      simp only [stOb hd, ruS, ruL, ruE, Nat.reduceAdd, reduceIte, Int.reduceLT, Int.reduceLE, Int.reduceEq, Int.reduceNeg, Int.reduceAdd, Int.reduceSub, Nat.reduceLeDiff, Nat.reduceLT]
      exact this
  · rw [if_neg c0] at hk
    have hat := f6 (by omega)
    have hwa := hw (slA t.w + 1 + t.i)
    cases c1 : t.read with
    | false =>
      rw [if_pos c1] at hk
      simp only [c0, c1, ldO hd, ruS, ruL, ruE, Nat.reduceAdd, reduceIte, Int.reduceLT, Int.reduceLE, Int.reduceEq, Int.reduceNeg, Int.reduceAdd, Int.reduceSub, Nat.reduceLeDiff, Nat.reduceLT]
      rw [c_Load hN (by omega) (by omega)]
      simp only [stOi hd, ldO hd, ruS, ruL, ruE, Nat.reduceAdd, reduceIte, Int.reduceLT, Int.reduceLE, Int.reduceEq, Int.reduceNeg, Int.reduceAdd, Int.reduceSub, Nat.reduceLeDiff, Nat.reduceLT]
      rw [c_wCell hwa.1 hwa.2]
      simp only [g3, ruS, ruL, ruE, Nat.reduceAdd, reduceIte, Int.reduceLT, Int.reduceLE, Int.reduceEq, Int.reduceNeg, Int.reduceAdd, Int.reduceSub, Nat.reduceLeDiff, Nat.reduceLT]
      change ∀ τ, _ at hk
      by_cases q1 : ceF (A.w t.a) = true
      · by_cases q2 : ceN (A.w t.a) = slV t.w
        · rw [if_pos ⟨q1, q2⟩] at hk
          have q1' : ceF (A.w (slA t.w + 1 + t.i)) = true := q1
          have q2' : ceN (A.w (slA t.w + 1 + t.i)) = slV t.w := q2
          simp only [q1', q2', ne_eq, not_true_eq_false, w_drop_Help_Step_j1, w_drop_Help_Step_j1b, w_drop_Help_Step_j3, w_drop_Help_Step_j3b, stOb hd, stOi hd, ldO hd, ruS, ruL, ruE, Nat.reduceAdd, reduceIte, Int.reduceLT, Int.reduceLE, Int.reduceEq, Int.reduceNeg, Int.reduceAdd, Int.reduceSub, Nat.reduceLeDiff, Nat.reduceLT]
          rw [IntWalk.i64_in (t.i + 1) (by omega)]
          exact behind hN hd hk
        · rw [if_neg (fun h => q2 h.2)] at hk
          have q1' : ceF (A.w (slA t.w + 1 + t.i)) = true := q1
          have q2' : ¬ ceN (A.w (slA t.w + 1 + t.i)) = slV t.w := q2
          simp only [q1', q2', ne_eq, not_false_eq_true, w_drop_Help_Step_j1, w_drop_Help_Step_j1b, w_drop_Help_Step_j3, w_drop_Help_Step_j3b, stOb hd, stOi hd, ldO hd, ruS, ruL, ruE, Nat.reduceAdd, reduceIte, Int.reduceLT, Int.reduceLE, Int.reduceEq, Int.reduceNeg, Int.reduceAdd, Int.reduceSub, Nat.reduceLeDiff, Nat.reduceLT]
          exact behind hN hd hk
      · rw [if_neg (fun h => q1 h.1)] at hk
        have q1' : ceF (A.w (slA t.w + 1 + t.i)) = false := by simpa [Hl.a] using q1
        simp only [q1', w_drop_Help_Step_j1, w_drop_Help_Step_j1b, w_drop_Help_Step_j3, w_drop_Help_Step_j3b, stOb hd, stOi hd, ldO hd, ruS, ruL, ruE, Nat.reduceAdd, reduceIte, Int.reduceLT, Int.reduceLE, Int.reduceEq, Int.reduceNeg, Int.reduceAdd, Int.reduceSub, Nat.reduceLeDiff, Nat.reduceLT]
        exact behind hN hd hk
    | true =>
      rw [if_neg (by rw [c1]; decide)] at hk
      simp only [c0, c1, stOb hd, ldO hd, b3, ruS, ruL, ruE, Nat.reduceAdd, reduceIte, Int.reduceLT, Int.reduceLE, Int.reduceEq, Int.reduceNeg, Int.reduceAdd, Int.reduceSub, Nat.reduceLeDiff, Nat.reduceLT]
      rw [c_PutCell, c_Cas hN (by omega) (by omega)]
      by_cases q : A.w t.a = t.cell
      · rw [if_pos q] at hk
        have q' : A.w (slA t.w + 1 + t.i) = t.cell := q
        simp only [q', w_drop_Help_Step_j1, w_drop_Help_Step_j1b, stOi hd, ldO hd, ruS, ruL, ruE, Nat.reduceAdd, reduceIte, Int.reduceLT, Int.reduceLE, Int.reduceEq, Int.reduceNeg, Int.reduceAdd, Int.reduceSub, Nat.reduceLeDiff, Nat.reduceLT]
        rw [IntWalk.i64_in (t.i + 1) (by omega)]
        exact behind hN hd hk
      · rw [if_neg q] at hk
        have q' : ¬ A.w (slA t.w + 1 + t.i) = t.cell := q
        simp only [q', w_drop_Help_Step_j1, w_drop_Help_Step_j1b, ruS, ruL, ruE, Nat.reduceAdd, reduceIte, Int.reduceLT, Int.reduceLE, Int.reduceEq, Int.reduceNeg, Int.reduceAdd, Int.reduceSub, Nat.reduceLeDiff, Nat.reduceLT]
        exact behind hN hd hk
end Go.Fl
namespace Go.Fl
open Go
set_option linter.unusedVariables false
set_option linter.unusedSimpArgs false
variable {N : Nm} {A B : Ar} {σ : Mem} {K : Value → Mem → Prop} {C : Cf} {who : Int}
def resK (C : Cf) (i x : Int) : Int × Int × Int := if i = 4 then (4 + x % 2, x / 2, 0) else if i = 5 then (6 + x % 3, x / 3, 0) else if i = 6 then (9, x / C.W, x % C.W) else (i, x, 0)
def kindOf (C : Cf) (a : Int) : Int × Int × Int :=
  if a < 0 then (-1, 0, 0) else if a < 1 then (0, a, 0) else if a < 2 then (1, a - 1, 0) else if a < 6 then (2, a - 2, 0) else if a < 6 + C.T then (3, a - 6, 0)
  else if a < 6 + C.T + 2 * C.S then resK C 4 (a - 6 - C.T) else if a < 6 + C.T + 2 * C.S + 3 * C.C then resK C 5 (a - 6 - C.T - 2 * C.S)
  else if a < C.len then resK C 6 (a - 6 - C.T - 2 * C.S - 3 * C.C) else (-1, 0, 0)
def trip (x : Int × Int × Int) : Value := .tuple #[.int .i64 x.1, .int .i64 x.2.1, .int .i64 x.2.2]
theorem kind_round (hC : C.ok) {J1 R1 : List Value → List (List Value) → Mem → Prop} {b : Nat} {L : List Value} {i : Nat} {x r : Int} (hi : i < 7) (hx : 0 ≤ x ∧ x < 9223372036854775808) (hr : 0 ≤ r ∧ r < 9223372036854775808) (g : σ.get b = some ⟨L, true⟩)
    (e : L[i]? = some (.int .i64 r)) (hk : if r ≤ x then R1 [.int .i64 (x - r), .slice (some ⟨b, 0, none⟩) 7 1, .int .i64 ((i + 1 : Nat) : Int)] [C.l] σ else K (trip (resK C i x)) σ) :
    w_ref04_Kind_l6 K J1 R1 [.int .i64 x, .slice (some ⟨b, 0, none⟩) 7 1, .int .i64 (i : Int)] [C.l] σ := by
  have h0 : (0 : Int) ≤ (i : Int) := by omega
  have h1 : (i : Int) < ((7 : Nat) : Int) := by omega
  have q : sub L i 1 false = some (.int .i64 r) := sub_one e
  have hW := hC.W
  simp only [w_ref04_Kind_l6, w_ref04_Kind_l6b, ruS, Nat.reduceAdd, reduceIte, Int.reduceLT, Int.reduceLE, Int.reduceEq, Int.reduceNeg, Int.reduceAdd, Int.reduceSub, xIxS h0 h1, Int.toNat_natCast, Nat.mul_one, hLoad_eq g, q, locP_e, gLoad_s, subC3]
  rw [if_pos (by omega)]
  by_cases c : r ≤ x
  · rw [if_pos c] at hk ⊢
    rw [IntWalk.i64_in (x - r) (by omega), IntWalk.i64_in _ (by omega)]
    exact hk
  · rw [if_neg c] at hk ⊢
    simp only [xRem (show (2 : Int) ≠ 0 by decide), xRem (show (3 : Int) ≠ 0 by decide), xQuo (show (2 : Int) ≠ 0 by decide), xQuo (show (3 : Int) ≠ 0 by decide), xRem (show C.W ≠ 0 by omega), xQuo (show C.W ≠ 0 by omega), ruS, Nat.reduceAdd, reduceIte, Int.reduceLT, Int.reduceLE, Int.reduceEq, Int.reduceNeg, Int.reduceAdd, Int.reduceSub]
    unfold resK trip at hk
    by_cases c4 : (i : Int) = 4
    · rw [if_pos c4] at hk ⊢
      rw [Int.tmod_eq_emod_of_nonneg hx.1, Int.tdiv_eq_ediv_of_nonneg hx.1, IntWalk.i64_in _ (by omega), IntWalk.i64_in _ (by omega)]; exact hk
    · rw [if_neg c4] at hk ⊢
      by_cases c5 : (i : Int) = 5
      · rw [if_pos c5] at hk ⊢
        rw [Int.tmod_eq_emod_of_nonneg hx.1, Int.tdiv_eq_ediv_of_nonneg hx.1, IntWalk.i64_in _ (by omega), IntWalk.i64_in _ (by omega)]; exact hk
      · rw [if_neg c5] at hk ⊢
        by_cases c6 : (i : Int) = 6
        · rw [if_pos c6] at hk ⊢
          have hd : x / C.W ≤ x := Int.ediv_le_self _ hx.1
          have hd0 : 0 ≤ x / C.W := Int.ediv_nonneg hx.1 (by omega)
          rw [Int.tmod_eq_emod_of_nonneg hx.1, Int.tdiv_eq_ediv_of_nonneg hx.1, IntWalk.i64_in (x / C.W) (by omega)]; exact hk
        · rw [if_neg c6] at hk ⊢; exact hk
theorem c_Kind (hC : C.ok) {a : Int} (ha : a < 9223372036854775808) (hk : ∀ τ, Ext σ τ → K (trip (kindOf C a)) τ) : s_ref04_Kind [C.v, .int .i64 a] K σ := by
  have hT := hC.T
  have hS := hC.S
  have hCC := hC.C
  have hW := hC.W
  have hm : 0 ≤ C.C * C.W ∧ C.C * C.W ≤ 268435456 := by rw [Int.mul_comm]; exact mulW hC (by omega) (by omega)
  simp only [s_ref04_Kind, w_ref04_Kind, ruS, Nat.reduceAdd, reduceIte, Int.reduceLT, Int.reduceLE, Int.reduceEq, Int.reduceNeg, Int.reduceAdd, Int.reduceSub, locP_e, gBoxC, gLoad_s, subC0, subC1, subC2, subC3]
  rw [IntWalk.i64_in (2 * C.S) (by omega), IntWalk.i64_in (3 * C.C) (by omega), IntWalk.i64_in (C.C * C.W) (by omega)]
  unfold kindOf at hk
  by_cases c : a < 0
  · rw [if_pos c] at hk ⊢
    exact hk σ Ext.refl
  rw [if_neg c] at hk ⊢
  refine hBuildS_i [.int .i64 1, .int .i64 1, .int .i64 4, .int .i64 C.T, .int .i64 (2 * C.S), .int .i64 (3 * C.C), .int .i64 (C.C * C.W)] rfl fun b τ _ g x => ?_
  replace hk := hk τ x
  refine xLoop_fold (kind_round hC (i := 0) (by decide) ⟨by omega, by omega⟩ ⟨by decide, by decide⟩ g rfl ?_)
  by_cases c0 : a < 1
  · rw [if_pos c0] at hk
    rw [if_neg (by omega)]; exact hk
  rw [if_neg c0] at hk
  rw [if_pos (by omega)]
  refine xLoop_fold (kind_round hC (i := 1) (by decide) ⟨by omega, by omega⟩ ⟨by decide, by decide⟩ g rfl ?_)
  by_cases c0 : a < 2
  · rw [if_pos c0] at hk
    rw [if_neg (by omega)]; exact hk
  rw [if_neg c0] at hk
  rw [if_pos (by omega), show a - 1 - 1 = a - 2 by omega]
  refine xLoop_fold (kind_round hC (i := 2) (by decide) ⟨by omega, by omega⟩ ⟨by decide, by decide⟩ g rfl ?_)
  by_cases c0 : a < 6
  · rw [if_pos c0] at hk
    rw [if_neg (by omega)]; exact hk
  rw [if_neg c0] at hk
  rw [if_pos (by omega), show a - 2 - 4 = a - 6 by omega]
  refine xLoop_fold (kind_round hC (i := 3) (by decide) ⟨by omega, by omega⟩ ⟨by omega, by omega⟩ g rfl ?_)
  by_cases c0 : a < 6 + C.T
  · rw [if_pos c0] at hk
    rw [if_neg (by omega)]; exact hk
  rw [if_neg c0] at hk
  rw [if_pos (by omega)]
  refine xLoop_fold (kind_round hC (i := 4) (by decide) ⟨by omega, by omega⟩ ⟨by omega, by omega⟩ g rfl ?_)
  by_cases c0 : a < 6 + C.T + 2 * C.S
  · rw [if_pos c0] at hk
    rw [if_neg (by omega)]; exact hk
  rw [if_neg c0] at hk
  rw [if_pos (by omega)]
  refine xLoop_fold (kind_round hC (i := 5) (by decide) ⟨by omega, by omega⟩ ⟨by omega, by omega⟩ g rfl ?_)
  by_cases c0 : a < 6 + C.T + 2 * C.S + 3 * C.C
  · rw [if_pos c0] at hk
    rw [if_neg (by omega)]; exact hk
  rw [if_neg c0] at hk
  rw [if_pos (by omega)]
  have el : C.len = 6 + C.T + 2 * C.S + 3 * C.C + C.C * C.W := by rw [len_eq, Int.mul_comm C.W]
  refine xLoop_fold (kind_round hC (i := 6) (by decide) ⟨by omega, by omega⟩ ⟨by omega, by omega⟩ g rfl ?_)
  by_cases c0 : a < C.len
  · rw [if_pos c0] at hk
    rw [if_neg (by omega)]; exact hk
  rw [if_neg c0] at hk
  rw [if_pos (by omega)]
  refine xLoop_fold ?_
  simp only [w_ref04_Kind_l6, w_ref04_Kind_l6b, w_ref04_Kind_j1, w_ref04_Kind_j1b, ruS, Nat.reduceAdd, reduceIte, Int.reduceLT, Int.reduceLE, Int.reduceEq, Int.reduceNeg, Int.reduceAdd, Int.reduceSub]
  exact hk
inductive At (C : Cf) (a : Int) : Prop where
  | epoch (h : kindOf C a = (0, 0, 0)) (e : a = 0)
  | top (h : kindOf C a = (1, 0, 0)) (e : a = 1)
  | open (j : Int) (h : kindOf C a = (2, j, 0)) (e : a = 2 + j) (h0 : 0 ≤ j) (h1 : j < 4)
  | pin (j : Int) (h : kindOf C a = (3, j, 0)) (e : a = 6 + j) (h0 : 0 ≤ j) (h1 : j < C.T)
  | slot (j : Int) (h : kindOf C a = (4, j, 0)) (e : a = C.slot j) (h0 : 0 ≤ j) (h1 : j < C.S)
  | link (j : Int) (h : kindOf C a = (5, j, 0)) (e : a = C.slot j + 1) (h0 : 0 ≤ j) (h1 : j < C.S)
  | chunk (j : Int) (h : kindOf C a = (6, j, 0)) (e : a = C.chunk j) (h0 : 0 ≤ j) (h1 : j < C.C)
  | live (j : Int) (h : kindOf C a = (7, j, 0)) (e : a = C.chunk j + 1) (h0 : 0 ≤ j) (h1 : j < C.C)
  | since (j : Int) (h : kindOf C a = (8, j, 0)) (e : a = C.chunk j + 2) (h0 : 0 ≤ j) (h1 : j < C.C)
  | word (j k : Int) (h : kindOf C a = (9, j, k)) (e : a = C.base j + k) (h0 : 0 ≤ j) (h1 : j < C.C) (k0 : 0 ≤ k) (k1 : k < C.W)
theorem kind_at (hC : C.ok) {a : Int} (h0 : 0 ≤ a) (h1 : a < C.len) : At C a := by
  have hW := hC.W
  have hT := hC.T
  have hS := hC.S
  have hCC := hC.C
  have e : kindOf C a = kindOf C a := rfl
  conv at e => rhs; unfold kindOf
  rw [if_neg (by omega)] at e
  by_cases c0 : a < 1
  · rw [if_pos c0] at e; exact .epoch (e.trans (by rw [show a = 0 by omega])) (by omega)
  rw [if_neg c0] at e
  by_cases c1 : a < 2
  · rw [if_pos c1] at e; exact .top (e.trans (by rw [show a - 1 = 0 by omega])) (by omega)
  rw [if_neg c1] at e
  by_cases c2 : a < 6
  · rw [if_pos c2] at e; exact .open _ e (by omega) (by omega) (by omega)
  rw [if_neg c2] at e
  by_cases c3 : a < 6 + C.T
  · rw [if_pos c3] at e; exact .pin _ e (by omega) (by omega) (by omega)
  rw [if_neg c3] at e
  by_cases c4 : a < 6 + C.T + 2 * C.S
  · rw [if_pos c4] at e; unfold resK at e; rw [if_pos rfl] at e
    rcases (show (a - 6 - C.T) % 2 = 0 ∨ (a - 6 - C.T) % 2 = 1 by omega) with q | q
    · rw [q] at e; exact .slot _ e (by unfold Cf.slot; omega) (by omega) (by omega)
    · rw [q] at e; exact .link _ e (by unfold Cf.slot; omega) (by omega) (by omega)
  rw [if_neg c4] at e
  by_cases c5 : a < 6 + C.T + 2 * C.S + 3 * C.C
  · rw [if_pos c5] at e; unfold resK at e; rw [if_neg (by decide), if_pos rfl] at e
    rcases (show (a - 6 - C.T - 2 * C.S) % 3 = 0 ∨ (a - 6 - C.T - 2 * C.S) % 3 = 1 ∨ (a - 6 - C.T - 2 * C.S) % 3 = 2 by omega) with q | q | q
    · rw [q] at e; exact .chunk _ e (by unfold Cf.chunk; omega) (by omega) (by omega)
    · rw [q] at e; exact .live _ e (by unfold Cf.chunk; omega) (by omega) (by omega)
    · rw [q] at e; exact .since _ e (by unfold Cf.chunk; omega) (by omega) (by omega)
  rw [if_neg c5, if_pos h1] at e
  unfold resK at e; rw [if_neg (by decide), if_neg (by decide), if_pos rfl] at e
  have x0 : 0 ≤ a - 6 - C.T - 2 * C.S - 3 * C.C := by omega
  have x1 : a - 6 - C.T - 2 * C.S - 3 * C.C < C.C * C.W := by rw [len_eq] at h1; have := Int.mul_comm C.C C.W; omega
  have x2 : a = 6 + C.T + 2 * C.S + 3 * C.C + (a - 6 - C.T - 2 * C.S - 3 * C.C) := by omega
  generalize a - 6 - C.T - 2 * C.S - 3 * C.C = x at *
  have em := Int.mul_ediv_add_emod x C.W
  have m0 := Int.emod_nonneg x (show C.W ≠ 0 by omega)
  have m1 := Int.emod_lt_of_pos x (show 0 < C.W by omega)
  have d0 := Int.ediv_nonneg x0 (show 0 ≤ C.W by omega)
  have d1 : x / C.W < C.C := Int.ediv_lt_of_lt_mul (by omega) x1
  have eb : C.base (x / C.W) = 6 + C.T + 2 * C.S + 3 * C.C + C.W * (x / C.W) := rfl
  exact .word _ _ e (by omega) d0 d1 m0 m1
def ofC (C : Cf) (a : Int) : Int := if C.base 0 ≤ a ∧ a < C.len then (a - C.base 0) / C.W else -1
theorem c_Of (hC : C.ok) {a : Int} (ha : a < 9223372036854775808) : s_layout_Of [C.v, .int .i64 a] K σ = K (.int .i64 (ofC C a)) σ := by
  have hW := hC.W
  have hl := len_bd hC
  have hT := hC.T
  have hS := hC.S
  have hCC := hC.C
  have hb : C.base 0 = 6 + C.T + 2 * C.S + 3 * C.C := by unfold Cf.base; omega
  simp only [s_layout_Of, w_layout_Of, w_layout_Of_j1, w_layout_Of_j1b, c_Base hC (Int.le_refl 0) (by decide : (0 : Int) ≤ 65536), c_lLen hC, ruS, ruL, ruE, Nat.reduceAdd, reduceIte, Int.reduceLT, Int.reduceLE, Int.reduceEq, Int.reduceNeg, Int.reduceAdd, Int.reduceSub, Nat.reduceLeDiff, Nat.reduceLT]
  unfold ofC
  by_cases c1 : a < C.base 0
  · simp only [c1, ruS, ruL, ruE, Nat.reduceAdd, reduceIte, Int.reduceLT, Int.reduceLE, Int.reduceEq, Int.reduceNeg, Int.reduceAdd, Int.reduceSub, Nat.reduceLeDiff, Nat.reduceLT]
    rw [if_neg (by omega)]
  · by_cases c2 : C.len ≤ a
    · simp only [c1, c2, ruS, ruL, ruE, Nat.reduceAdd, reduceIte, Int.reduceLT, Int.reduceLE, Int.reduceEq, Int.reduceNeg, Int.reduceAdd, Int.reduceSub, Nat.reduceLeDiff, Nat.reduceLT]
      rw [if_neg (by omega)]
    · simp only [c1, c2, xQuo (show C.W ≠ 0 by omega), ruS, ruL, ruE, Nat.reduceAdd, reduceIte, Int.reduceLT, Int.reduceLE, Int.reduceEq, Int.reduceNeg, Int.reduceAdd, Int.reduceSub, Nat.reduceLeDiff, Nat.reduceLT]
      rw [if_pos (by omega), IntWalk.i64_in (a - C.base 0) (by omega), Int.tdiv_eq_ediv_of_nonneg (by omega)]
      have := Int.ediv_le_self C.W (show 0 ≤ a - C.base 0 by omega)
      have := Int.ediv_nonneg (show 0 ≤ a - C.base 0 by omega) (show 0 ≤ C.W by omega)
      rw [IntWalk.i64_in _ (by omega)]
end Go.Fl
namespace Go.Fl
open Go
set_option linter.unusedVariables false
set_option linter.unusedSimpArgs false
variable {N : Nm} {A B : Ar} {σ : Mem} {K : Value → Mem → Prop} {C : Cf} {who : Int}
theorem w0_open (hC : C.ok) {c : Int} (h0 : 0 ≤ c) (h1 : c ≤ 3) : C.w0 (2 + c) = 0 := by
  have := hC.T; have := hC.S
  unfold Cf.w0 Cf.fr Cf.slot
  rw [if_neg (by omega), if_neg (by omega), if_neg (by omega)]
theorem w0_chunk (hC : C.ok) {j : Int} (h0 : 0 ≤ j) : C.w0 (C.chunk j) = 0 := by
  have := hC.T; have := hC.S
  unfold Cf.w0 Cf.fr Cf.slot Cf.chunk
  rw [if_neg (by omega), if_neg (by omega), if_neg (by omega)]
theorem c_LastA (hA : isA N A σ) : s_mem_Mem_Last [N.p] K σ = K (.agg #[.int .i64 A.la, .int .i64 A.lw, .bool A.lc]) σ := by
  have := c_mLast (N := N) (A := A) (σ := σ) (K := K)
  rwa [← hA.eq] at this
structure Pa (C : Cf) (A : Ar) (b : Int) : Prop where
  ok : A.ok b
  n : C.len ≤ A.n
  op : ∀ c, 0 ≤ c → c ≤ 3 → A.w (2 + c) ≤ C.C
theorem Pa.mono {b b' : Int} (h : Pa C A b) (hb : b ≤ b') : Pa C A b' := ⟨⟨h.ok.w, ⟨h.ok.s.1, by have := h.ok.s.2; omega⟩, h.ok.t⟩, h.n, h.op⟩
structure Go1 (C : Cf) (A : Ar) (p : Pl) (r : Bool × Pl × Ar) (a : Int) : Prop where
  wh : a = 2 + p.cls ∨ a = C.chunk p.at'
  la : r.2.2.la = a
  s : r.2.2.s = A.s + 1
  n : r.2.2.n = A.n
  w : ∀ i, i ≠ a → r.2.2.w i = A.w i
  cls : r.2.1.cls = p.cls
theorem aw {w : Int → Int} {a v i : Int} {c : Prop} [Decidable c] (h : i ≠ a) : (if c then upd w a v else w) i = w i := by
  split
  · exact upd_ne _ _ h
  · rfl
theorem Pl.go (hC : C.ok) {b : Int} (hb : b < 4611686018427387904) (h : Pa C A b) {p : Pl} (hf : p.fit C) :
    Pa C (p.step C who A).2.2 (b + 1) ∧ ((p.step C who A).1 = false → (p.step C who A).2.1.fit C) ∧ ∃ a, Go1 C A p (p.step C who A) a := by
  obtain ⟨ok, n, op⟩ := h
  obtain ⟨f1, f2, f3, f4⟩ := hf
  have hC3 := hC.C
  have hT := hC.T
  have hS := hC.S
  have hcb := chunk_bd hC f3.1 f3.2 n
  have hwo := ok.w (2 + p.cls)
  have hwc := ok.w (C.chunk p.at')
  have hoo := op p.cls f1.1 f1.2
  have hwr : IntKind.i64.wrap (A.w (2 + p.cls)) = A.w (2 + p.cls) := IntWalk.i64_in _ (by omega)
  have hne : ∀ c, 0 ≤ c → c ≤ 3 → 2 + c ≠ C.chunk p.at' := fun c c0 c3 => by unfold Cf.chunk; omega
  have L : ∀ a, Pa C ((A.by who).load a) (b + 1) := fun a =>
    ⟨(aft_load ok (by omega)).ok (by decide) ok ok.w, n, op⟩
  have Cs : ∀ o v, 0 ≤ v ∧ v < 18446744073709551616 → Pa C ((A.by who).cas (C.chunk p.at') o v) (b + 1) := by
    intro o v hv
    have a1 := aft_cas (who := who) (a := C.chunk p.at') (o := o) (v := v) ok (by omega)
    refine ⟨a1.ok (by decide) ok (fun i => ?_), by rw [a1.n]; exact n, fun c c0 c3 => ?_⟩
    · split
      · exact upd_cases (P := fun x => 0 ≤ x ∧ x < 18446744073709551616) hv (ok.w i)
      · exact ok.w i
    · rw [a1.w, aw (hne c c0 c3)]; exact op c c0 c3
  have nx : ∀ q : Pl, 0 ≤ q.cls ∧ q.cls ≤ 3 → 0 ≤ q.opn ∧ q.opn < 18446744073709551616 → 0 ≤ q.at' → 0 ≤ q.w ∧ q.w < 18446744073709551616 → (q.next C).1 = false → (q.next C).2.fit C := by
    intro q a b c d e
    have e' : ¬ C.C ≤ q.at' + 1 := of_decide_eq_false e
    exact ⟨a, b, ⟨by show 0 ≤ q.at' + 1; omega, by show q.at' + 1 < C.C; omega⟩, d⟩
  unfold Pl.step
  by_cases c0 : p.pc = 0
  · rw [if_pos c0]
    dsimp only
    rw [hwr]
    refine ⟨L _, fun _ => ?_, 2 + p.cls, ⟨.inl rfl, rfl, (aft_load (who := who) (a := 2 + p.cls) ok (by omega)).s, rfl, fun _ _ => rfl, ?_⟩⟩
    · split
      · exact ⟨f1, hwo, ⟨Int.le_refl 0, by show (0 : Int) < C.C; omega⟩, f4⟩
      · exact ⟨f1, hwo, ⟨by dsimp only; omega, by dsimp only; omega⟩, f4⟩
    · split <;> rfl
  rw [if_neg c0]
  by_cases c1 : p.pc = 1
  · rw [if_pos c1]
    refine ⟨L _, fun _ => ?_, C.chunk p.at', ⟨.inr rfl, rfl, (aft_load (who := who) (a := C.chunk p.at') ok (by omega)).s, rfl, fun _ _ => rfl, ?_⟩⟩
    · dsimp only
      split
      · exact ⟨f1, f2, ⟨Int.le_refl 0, by show (0 : Int) < C.C; omega⟩, hwc⟩
      · exact ⟨f1, f2, f3, hwc⟩
    · dsimp only; split <;> rfl
  rw [if_neg c1]
  by_cases c2 : p.pc = 2
  · rw [if_pos c2]
    have a1 := fun v => aft_cas (who := who) (a := C.chunk p.at') (o := p.w) (v := v) ok (by omega)
    refine ⟨Cs _ _ (putChunk_in _ _ _ _), fun _ => ?_, C.chunk p.at', ⟨.inr rfl, cas_la, (a1 _).s, (a1 _).n, fun i hi => by rw [(a1 _).w, aw hi], ?_⟩⟩
    · dsimp only; split <;> exact ⟨f1, f2, f3, f4⟩
    · dsimp only; split <;> rfl
  rw [if_neg c2]
  by_cases c3 : p.pc = 3
  · rw [if_pos c3]
    dsimp only
    split
    · exact ⟨L _, nx _ f1 f2 f3.1 hwc, C.chunk p.at', ⟨.inr rfl, rfl, (aft_load (who := who) (a := C.chunk p.at') ok (by omega)).s, rfl, fun _ _ => rfl, rfl⟩⟩
    · exact ⟨L _, fun _ => ⟨f1, f2, f3, hwc⟩, C.chunk p.at', ⟨.inr rfl, rfl, (aft_load (who := who) (a := C.chunk p.at') ok (by omega)).s, rfl, fun _ _ => rfl, rfl⟩⟩
  rw [if_neg c3]
  by_cases c4 : p.pc = 4
  · rw [if_pos c4]
    have a1 := fun v => aft_cas (who := who) (a := C.chunk p.at') (o := p.w) (v := v) ok (by omega)
    split
    · exact ⟨Cs _ _ (putChunk_in _ _ _ _), fun _ => ⟨f1, f2, f3, f4⟩, C.chunk p.at', ⟨.inr rfl, cas_la, (a1 _).s, (a1 _).n, fun i hi => by rw [(a1 _).w, aw hi], rfl⟩⟩
    · exact ⟨Cs _ _ (putChunk_in _ _ _ _), nx _ f1 f2 f3.1 f4, C.chunk p.at', ⟨.inr rfl, cas_la, (a1 _).s, (a1 _).n, fun i hi => by rw [(a1 _).w, aw hi], rfl⟩⟩
  rw [if_neg c4]
  by_cases c5 : p.pc = 5
  · rw [if_pos c5]
    have a1 := fun v => aft_cas (who := who) (a := 2 + p.cls) (o := p.opn) (v := v) ok (by omega)
    refine ⟨⟨(a1 _).ok (by decide) ok (fun i => ?_), by rw [(a1 _).n]; exact n, fun c c0 c3 => ?_⟩, fun _ => ?_, 2 + p.cls, ⟨.inl rfl, cas_la, (a1 _).s, (a1 _).n, fun i hi => by rw [(a1 _).w, aw hi], ?_⟩⟩
    · split
      · exact upd_cases (P := fun x => 0 ≤ x ∧ x < 18446744073709551616) (by omega) (ok.w i)
      · exact ok.w i
    · rw [(a1 _).w]
      split
      · exact upd_cases (P := fun x => x ≤ C.C) (by omega) (op c c0 c3)
      · exact op c c0 c3
    · dsimp only; split <;> exact ⟨f1, f2, f3, f4⟩
    · dsimp only; split <;> rfl
  · rw [if_neg c5]
    have a1 := fun v => aft_cas (who := who) (a := C.chunk p.at') (o := p.fresh) (v := v) ok (by omega)
    exact ⟨Cs _ _ (putChunk_in _ _ _ _), fun _ => ⟨f1, f2, f3, f4⟩, C.chunk p.at', ⟨.inr rfl, cas_la, (a1 _).s, (a1 _).n, fun i hi => by rw [(a1 _).w, aw hi], rfl⟩⟩
theorem Pl.new_fit (hC : C.ok) {c : Int} (h0 : 0 ≤ c) (h1 : c ≤ 3) : (Pl.new c).fit C := by
  have := hC.C
  exact ⟨⟨h0, h1⟩, ⟨Int.le_refl 0, by show (0 : Int) < 18446744073709551616; decide⟩, ⟨Int.le_refl 0, by show (0 : Int) < C.C; omega⟩, ⟨Int.le_refl 0, by show (0 : Int) < 18446744073709551616; decide⟩⟩
def Pl.spot (p : Pl) : Value := .tuple #[if p.ok = true then .agg #[.int .i64 p.sa, .int .i64 p.sc] else .agg #[.int .i64 0, .int .i64 0], .bool p.ok]
end Go.Fl
namespace Go.Fl
open Go
set_option linter.unusedVariables false
set_option linter.unusedSimpArgs false
variable {N : Nm} {A B : Ar} {σ : Mem} {K : Value → Mem → Prop} {C : Cf} {who : Int}
theorem chunk_inj {i j : Int} (h : C.chunk i = C.chunk j) : i = j := by unfold Cf.chunk at h; omega
theorem chunk_ne (hC : C.ok) {i c : Int} (h0 : 0 ≤ i) (h1 : c ≤ 3) : C.chunk i ≠ 2 + c := by have := hC.T; have := hC.S; unfold Cf.chunk; omega
section
variable {p : Pl}
theorem Pl.s0a (h : p.pc = 0) (hn : IntKind.i64.wrap (A.w (2 + p.cls)) - 1 < 0) : p.step C who A = (false, { p with opn := A.w (2 + p.cls), at' := 0, pc := 3 }, (A.by who).load (2 + p.cls)) := by
  unfold Pl.step; rw [if_pos h]; dsimp only; rw [if_pos hn]
theorem Pl.s0b (h : p.pc = 0) (hn : ¬ IntKind.i64.wrap (A.w (2 + p.cls)) - 1 < 0) : p.step C who A = (false, { p with opn := A.w (2 + p.cls), at' := IntKind.i64.wrap (A.w (2 + p.cls)) - 1, pc := 1 }, (A.by who).load (2 + p.cls)) := by
  unfold Pl.step; rw [if_pos h]; dsimp only; rw [if_neg hn]
theorem Pl.s1a (h : p.pc = 1) (hn : chS (A.w (C.chunk p.at')) ≠ 1 ∨ chC (A.w (C.chunk p.at')) ≠ p.cls ∨ C.W < chU (A.w (C.chunk p.at')) + roomOf p.cls) :
    p.step C who A = (false, { p with w := A.w (C.chunk p.at'), at' := 0, pc := 3 }, (A.by who).load (C.chunk p.at')) := by
  unfold Pl.step; rw [if_neg (by omega), if_pos h]; dsimp only; rw [if_pos hn]
theorem Pl.s1b (h : p.pc = 1) (hn : ¬ (chS (A.w (C.chunk p.at')) ≠ 1 ∨ chC (A.w (C.chunk p.at')) ≠ p.cls ∨ C.W < chU (A.w (C.chunk p.at')) + roomOf p.cls)) :
    p.step C who A = (false, { p with w := A.w (C.chunk p.at'), pc := 2 }, (A.by who).load (C.chunk p.at')) := by
  unfold Pl.step; rw [if_neg (by omega), if_pos h]; dsimp only; rw [if_neg hn]
theorem Pl.s2a (h : p.pc = 2) (hn : A.w (C.chunk p.at') = p.w) :
    p.step C who A = (true, { p with pc := 0, sa := C.base p.at' + chU p.w, sc := p.at', ok := true }, (A.by who).cas (C.chunk p.at') p.w (putChunk (chS p.w) (chC p.w) (chU p.w + roomOf p.cls) (chN p.w))) := by
  unfold Pl.step; rw [if_neg (by omega), if_neg (by omega), if_pos h]; dsimp only; rw [if_pos hn, decide_eq_true hn]
theorem Pl.s3a (h : p.pc = 3) (hn : chS (A.w (C.chunk p.at')) ≠ 0) :
    p.step C who A = (decide (C.C ≤ p.at' + 1), { p with w := A.w (C.chunk p.at'), at' := p.at' + 1, pc := 3 }, (A.by who).load (C.chunk p.at')) := by
  unfold Pl.step; rw [if_neg (by omega), if_neg (by omega), if_neg (by omega), if_pos h]; dsimp only; rw [if_pos hn]; rfl
theorem Pl.s3b (h : p.pc = 3) (hn : chS (A.w (C.chunk p.at')) = 0) :
    p.step C who A = (false, { p with w := A.w (C.chunk p.at'), pc := 4 }, (A.by who).load (C.chunk p.at')) := by
  unfold Pl.step; rw [if_neg (by omega), if_neg (by omega), if_neg (by omega), if_pos h]; dsimp only; rw [if_neg (fun q => q hn)]
theorem Pl.s4a (h : p.pc = 4) (hn : A.w (C.chunk p.at') = p.w) :
    p.step C who A = (false, { p with pc := 5 }, (A.by who).cas (C.chunk p.at') p.w p.fresh) := by
  unfold Pl.step; rw [if_neg (by omega), if_neg (by omega), if_neg (by omega), if_neg (by omega), if_pos h, if_pos hn]
theorem Pl.s5a (h : p.pc = 5) (hn : A.w (2 + p.cls) = p.opn) :
    p.step C who A = (false, { p with pc := 0 }, (A.by who).cas (2 + p.cls) p.opn (p.at' + 1)) := by
  unfold Pl.step; rw [if_neg (by omega), if_neg (by omega), if_neg (by omega), if_neg (by omega), if_neg (by omega), if_pos h, if_pos hn]
end
theorem stFl {P Q : Prop} (q : Q) : if (false : Bool) = true then P else Q := by rw [if_neg Bool.false_ne_true]; exact q
theorem stTr {P Q : Prop} (q : P) : if (true : Bool) = true then P else Q := by rw [if_pos rfl]; exact q
end Go.Fl
namespace Go.Fl
open Go
set_option linter.unusedVariables false
set_option linter.unusedSimpArgs false
variable {N : Nm} {A B : Ar} {σ : Mem} {K : Value → Mem → Prop} {C : Cf} {who : Int}
structure Al where
  size : Int
  own : Bool
  pc : Int
  tk : Tk
  at' : Int
  gen : Int
  p : Option Nat
  sa : Int
  sc : Int
  g : Option Nat
  oE : Int
  oH : Int
  oV : Int
  oS : Int
def obP (p : Option Nat) : Value := .pointer (p.map fun i => ⟨i, 0, none⟩)
theorem obP_s {i : Nat} : obP (some i) = .pointer (some ⟨i, 0, none⟩) := rfl
def Al.l (a : Al) : List Value := [.int .i64 a.size, .bool a.own, .int .i64 a.pc] ++ a.tk.l ++ [.int .i64 a.at', .int .i64 a.gen, obP a.p, .int .i64 a.sa, .int .i64 a.sc, obP a.g, .int .i64 a.oE, .int .u64 a.oH, .int .i64 a.oV, .int .i64 a.oS]
def Al.new (size : Int) (own : Bool) : Al := ⟨size, own, 0, Tk.new, 0, 0, none, 0, 0, none, 0, 0, 0, 0⟩
theorem c_AllocNew {s : Int} {o : Bool} (hk : ∀ id τ, σ.get id = none → τ.get id = some ⟨(Al.new s o).l, true⟩ → Ext σ τ → K (.pointer (some ⟨id, 0, none⟩)) τ) : s_alloc_New [.int .i64 s, .bool o] K σ := by
  have b : ∀ K : Value → Prop, xF (fBuild [(0, 1), (1, 1), (2, 1), (3, 5), (8, 1), (9, 1), (10, 1), (11, 2), (13, 1), (14, 4)] [(.int .i64 0), (.bool false), (.int .i64 0), (.int .i64 0), (.int .u64 0), (.int .i64 0), (.int .i64 0), (.bool false), (.int .i64 0), (.int .i64 0), (.pointer none), (.int .i64 0), (.int .i64 0), (.pointer none), (.int .i64 0), (.int .u64 0), (.int .i64 0), (.int .i64 0)] [0, 1]) [.int .i64 s, .bool o] K =
      K (.agg (Al.new s o).l.toArray) := fun K => nr rfl
  simp only [s_alloc_New, w_alloc_New, b, ruS, Nat.reduceAdd, reduceIte, Int.reduceLT, Int.reduceLE, Int.reduceEq, Int.reduceNeg, Int.reduceAdd, Int.reduceSub]
  exact hBox_i (cs := (Al.new s o).l) rfl hk
theorem c_AllocDone (hA : isA N A σ) {p : Nat} {a : Al} (hp : σ.get p = some ⟨a.l, true⟩) (hd : p ∉ N.l)
    (hk : K (.agg #[.int .i64 a.oE, .int .u64 a.oH, .int .i64 a.oV, .int .i64 a.oS]) σ) : s_alloc_Alloc_Done [.pointer (some ⟨p, 0, none⟩)] K σ := by
  have gs : ∀ x y z w : Int, gStore 4 [.pointer (some ⟨2, 0, some 0⟩), .agg #[.int .i64 x, .int .u64 y, .int .i64 z, .int .i64 w]] [.int .i64 0, .int .u64 0, .int .i64 0, .int .i64 0] = some [.int .i64 x, .int .u64 y, .int .i64 z, .int .i64 w] := fun _ _ _ _ => rfl
  have l := @hLoad_eq
  have e : hLoad 4 true [.pointer (some ⟨p, 14, none⟩)] = fun K σ' => hLoad 4 true [.pointer (some ⟨p, 14, none⟩)] K σ' := rfl
  simp only [s_alloc_Alloc_Done, w_alloc_Alloc_Done, ruS, ruL, ruE, Nat.reduceAdd, reduceIte, Int.reduceLT, Int.reduceLE, Int.reduceEq, Int.reduceNeg, Int.reduceAdd, Int.reduceSub, Nat.reduceLeDiff, Nat.reduceLT]
  rw [hLoad_eq hp]
  have sb : sub a.l 14 4 true = some (.agg #[.int .i64 a.oE, .int .u64 a.oH, .int .i64 a.oV, .int .i64 a.oS]) := rfl
  rw [sb]
  simp only [gs, sub4, ruS, ruL, ruE, Nat.reduceAdd, reduceIte, Int.reduceLT, Int.reduceLE, Int.reduceEq, Int.reduceNeg, Int.reduceAdd, Int.reduceSub, Nat.reduceLeDiff, Nat.reduceLT]
  exact hk
theorem c_head {p : Nat} {a : Al} {k : Int} (hd : p ∉ N.l) : s_alloc_Alloc_head [.pointer (some ⟨p, 0, none⟩), .int .i64 k] K (putA N A (σ.set p ⟨a.l, true⟩)) = K (.int .u64 (putHead k a.size a.at' a.gen a.own)) (putA N A (σ.set p ⟨a.l, true⟩)) := by
  have b : ∀ (a b c d : Int) (e : Bool) (K : Value → Prop), xF (fBuild [(0, 1), (1, 1), (2, 1), (3, 1), (4, 1)] [.int .i64 0, .int .i64 0, .int .i64 0, .int .i64 0, .bool false] [0, 1, 2, 3, 4]) [.int .i64 a, .int .i64 b, .int .i64 c, .int .i64 d, .bool e] K =
      K (.agg #[.int .i64 a, .int .i64 b, .int .i64 c, .int .i64 d, .bool e]) := fun _ _ _ _ _ K => nr rfl
  have ld : ∀ (k : Nat) (v : Value) (K : Value → Mem → Prop), sub a.l k 1 false = some v → hLoad 1 false [.pointer (some ⟨p, k, none⟩)] K (putA N A (σ.set p ⟨a.l, true⟩)) = K v (putA N A (σ.set p ⟨a.l, true⟩)) := fun k v K h => by
    rw [hLoad_eq ((putA_get hd).trans (Mem.get_set_same _ _ _)), h, xOs]
  simp only [s_alloc_Alloc_head, w_alloc_Alloc_head, ruS, Nat.reduceAdd, reduceIte, Int.reduceLT, Int.reduceLE, Int.reduceEq, Int.reduceNeg, Int.reduceAdd, Int.reduceSub]
  rw [ld 0 (.int .i64 a.size) _ rfl, ld 8 (.int .i64 a.at') _ rfl, ld 9 (.int .i64 a.gen) _ rfl, ld 1 (.bool a.own) _ rfl, b, c_PutHead]
theorem c_end {p : Nat} {a : Al} {x : Int} (hd : p ∉ N.l) : s_alloc_Alloc_end [.pointer (some ⟨p, 0, none⟩), N.env C who, .int .i64 x] K (putA N A (σ.set p ⟨a.l, true⟩)) =
    K (.tuple #[]) (putA N A (σ.set p ⟨({ a with oE := x, oH := 0, oV := 0, oS := A.s } : Al).l, true⟩)) := by
  have b : ∀ (a c : Int) (K : Value → Prop), xF (fBuild [(0, 1), (1, 1), (2, 1), (3, 1)] [.int .i64 0, .int .u64 0, .int .i64 0, .int .i64 0] [0, 3]) [.int .i64 a, .int .i64 c] K = K (.agg #[.int .i64 a, .int .u64 0, .int .i64 0, .int .i64 c]) := fun _ _ K => nr rfl
  simp only [s_alloc_Alloc_end, w_alloc_Alloc_end, ruS, ruL, ruE, Nat.reduceAdd, reduceIte, Int.reduceLT, Int.reduceLE, Int.reduceEq, Int.reduceNeg, Int.reduceAdd, Int.reduceSub, Nat.reduceLeDiff, Nat.reduceLT]
  rw [c_Now, b]
  have := stOa (K := fun _ σ => K (.tuple #[]) σ) (N := N) (A := A) (σ := σ) (p := p) (pre := []) (L := a.l) (post := []) (k := 14) (sz := 4) (c := [.int .i64 x, .int .u64 0, .int .i64 0, .int .i64 A.s]) hd rfl (Nat.le_refl 18) rfl
  refine Eq.trans this ?_
  rfl
theorem ldA {p k sz : Nat} {ag : Bool} {a : Al} {v : Value} (hd : p ∉ N.l) (h : sub a.l k sz ag = some v) : hLoad sz ag [.pointer (some ⟨p, k, none⟩)] K (putA N A (σ.set p ⟨a.l, true⟩)) = K v (putA N A (σ.set p ⟨a.l, true⟩)) := by
  rw [hLoad_eq ((putA_get hd).trans (Mem.get_set_same _ _ _)), h, xOs]
theorem stA {p k : Nat} {a : Al} (a' : Al) {kd : IntKind} {n : Int} (hd : p ∉ N.l) (hk : k + 1 ≤ 18) (e : lay a.l k [.int kd n] = a'.l) : hStore 1 [.pointer (some ⟨p, k, none⟩), .int kd n] K (putA N A (σ.set p ⟨a.l, true⟩)) = K undef (putA N A (σ.set p ⟨a'.l, true⟩)) := by
  have := stOi (N := N) (A := A) (σ := σ) (K := K) (p := p) (pre := []) (L := a.l) (post := []) (k := k) (kd := kd) (n := n) hd hk
  rw [e] at this
  simpa only [List.nil_append, List.append_nil, List.length_nil, Nat.zero_add] using this
theorem c_Al3 (hN : N.ok) (hC : C.ok) (hA : isA N A σ) {p : Nat} {a : Al} (hp : σ.get p = some ⟨a.l, true⟩) (hd : p ∉ N.l) (hn : C.len ≤ A.n) (h : a.pc = 3) (hsc : 0 ≤ a.sc ∧ a.sc < C.C) (hcl : 0 ≤ classOf a.size)
    (hk : ∀ τ, isA N ((A.by who).add (C.chunk a.sc + 1) (roomOf (classOf a.size))) τ → τ.get p = some ⟨({ a with pc := 4 } : Al).l, true⟩ → Keep (p :: N.l) σ τ → K (.bool false) τ) : s_alloc_Alloc_Step [.pointer (some ⟨p, 0, none⟩), N.env C who] K σ := by
  rw [hA.obj hp]
  have hcb := chunk_bd hC hsc.1 hsc.2 hn
  have hT := hC.T; have hS := hC.S; have hC3 := hC.C; have hl := len_bd hC
  have hch : C.chunk C.C = 6 + C.T + 2 * C.S + 3 * C.C := rfl
  have hcj : C.chunk a.sc = 6 + C.T + 2 * C.S + 3 * a.sc := rfl
  have hc3 : classOf a.size ≤ 3 := by unfold classOf; split <;> (try split) <;> (try split) <;> (try split) <;> (try split) <;> omega
  have hr := room_bd hcl hc3
  have e0 : ¬ (3 : Int) = 0 := by decide
  simp only [s_alloc_Alloc_Step, w_alloc_Alloc_Step, w_alloc_Alloc_Step_j1, w_alloc_Alloc_Step_j1b, ruS, ruL, ruE, Nat.reduceAdd, reduceIte, Int.reduceLT, Int.reduceLE, Int.reduceEq, Int.reduceNeg, Int.reduceAdd, Int.reduceSub, Nat.reduceLeDiff, Nat.reduceLT]
  rw [ldA hd (show sub _ 2 1 false = some (.int .i64 a.pc) from rfl)]
  simp only [h, ruS, ruL, ruE, Nat.reduceAdd, reduceIte, Int.reduceLT, Int.reduceLE, Int.reduceEq, Int.reduceNeg, Int.reduceAdd, Int.reduceSub, Nat.reduceLeDiff, Nat.reduceLT]
  rw [ldA hd (show sub _ 12 1 false = some (.int .i64 a.sc) from rfl), c_Chunk hC hsc.1 (by omega)]
  simp only [ruS, ruL, ruE, Nat.reduceAdd, reduceIte, Int.reduceLT, Int.reduceLE, Int.reduceEq, Int.reduceNeg, Int.reduceAdd, Int.reduceSub, Nat.reduceLeDiff, Nat.reduceLT]
  rw [IntWalk.i64_in (C.chunk a.sc + 1) (by omega), ldA hd (show sub _ 0 1 false = some (.int .i64 a.size) from rfl)]
  refine c_Class ?_
  rw [c_Room hcl hc3, c_Add hN (by omega) (by omega), stA { a with pc := 4 } hd (by decide) rfl, show IntKind.u64.wrap (roomOf (classOf a.size)) = roomOf (classOf a.size) from IntWalk.u64_in _ (by omega)]
  exact behind hN hd hk
theorem c_Al4 (hN : N.ok) (hA : isA N A σ) {p : Nat} {a : Al} (hp : σ.get p = some ⟨a.l, true⟩) (hd : p ∉ N.l) (h : a.pc = 4) (hsa : 0 ≤ a.sa ∧ a.sa < A.n)
    (hk : ∀ τ, isA N ((A.by who).store a.sa (putHead 1 a.size a.at' a.gen a.own)) τ → τ.get p = some ⟨({ a with pc := 5 } : Al).l, true⟩ → Keep (p :: N.l) σ τ → K (.bool false) τ) : s_alloc_Alloc_Step [.pointer (some ⟨p, 0, none⟩), N.env C who] K σ := by
  rw [hA.obj hp]
  simp only [s_alloc_Alloc_Step, w_alloc_Alloc_Step, w_alloc_Alloc_Step_j1, w_alloc_Alloc_Step_j1b, ruS, ruL, ruE, Nat.reduceAdd, reduceIte, Int.reduceLT, Int.reduceLE, Int.reduceEq, Int.reduceNeg, Int.reduceAdd, Int.reduceSub, Nat.reduceLeDiff, Nat.reduceLT]
  rw [ldA hd (show sub _ 2 1 false = some (.int .i64 a.pc) from rfl)]
  simp only [h, ruS, ruL, ruE, Nat.reduceAdd, reduceIte, Int.reduceLT, Int.reduceLE, Int.reduceEq, Int.reduceNeg, Int.reduceAdd, Int.reduceSub, Nat.reduceLeDiff, Nat.reduceLT]
  rw [ldA hd (show sub _ 11 1 false = some (.int .i64 a.sa) from rfl), c_head hd, c_Store hN hsa.1 hsa.2, stA { a with pc := 5 } hd (by decide) rfl]
  exact behind hN hd hk
theorem c_Al6 (hN : N.ok) (hA : isA N A σ) {p : Nat} {a : Al} (hp : σ.get p = some ⟨a.l, true⟩) (hd : p ∉ N.l) (h : a.pc = 6) (hsa : 0 ≤ a.sa ∧ a.sa < A.n)
    (hk : ∀ τ, isA N ((A.by who).store a.sa (putHead 2 a.size a.at' a.gen a.own)) τ → τ.get p = some ⟨a.l, true⟩ → Keep (p :: N.l) σ τ → K (.bool true) τ) : s_alloc_Alloc_Step [.pointer (some ⟨p, 0, none⟩), N.env C who] K σ := by
  rw [hA.obj hp]
  simp only [s_alloc_Alloc_Step, w_alloc_Alloc_Step, w_alloc_Alloc_Step_j1, w_alloc_Alloc_Step_j1b, ruS, ruL, ruE, Nat.reduceAdd, reduceIte, Int.reduceLT, Int.reduceLE, Int.reduceEq, Int.reduceNeg, Int.reduceAdd, Int.reduceSub, Nat.reduceLeDiff, Nat.reduceLT]
  rw [ldA hd (show sub _ 2 1 false = some (.int .i64 a.pc) from rfl)]
  simp only [h, ruS, ruL, ruE, Nat.reduceAdd, reduceIte, Int.reduceLT, Int.reduceLE, Int.reduceEq, Int.reduceNeg, Int.reduceAdd, Int.reduceSub, Nat.reduceLeDiff, Nat.reduceLT]
  rw [ldA hd (show sub _ 11 1 false = some (.int .i64 a.sa) from rfl), c_head hd, c_Store hN hsa.1 hsa.2]
  exact behind hN hd hk
theorem c_Al5 (hN : N.ok) (hC : C.ok) (hA : isA N A σ) {p : Nat} {a : Al} (hp : σ.get p = some ⟨a.l, true⟩) (hd : p ∉ N.l) (hn : C.len ≤ A.n) (h : a.pc = 5) (hat : 0 ≤ a.at' ∧ a.at' < C.S)
    (hk : ∀ τ, isA N ((A.by who).store (C.slot a.at') (putSlot 1 a.sa a.gen 0)) τ → τ.get p = some ⟨({ a with pc := 6, oE := 0, oH := putHandle a.at' a.gen, oV := 0, oS := ((A.by who).store (C.slot a.at') (putSlot 1 a.sa a.gen 0)).s } : Al).l, true⟩ → Keep (p :: N.l) σ τ → K (.bool false) τ) :
    s_alloc_Alloc_Step [.pointer (some ⟨p, 0, none⟩), N.env C who] K σ := by
  rw [hA.obj hp]
  have b1 : ∀ (a b c : Int) (K : Value → Prop), xF (fBuild [(0, 1), (1, 1), (2, 1), (3, 1)] [.int .i64 0, .int .i64 0, .int .i64 0, .int .i64 0] [0, 1, 2]) [.int .i64 a, .int .i64 b, .int .i64 c] K = K (.agg #[.int .i64 a, .int .i64 b, .int .i64 c, .int .i64 0]) := fun _ _ _ K => nr rfl
  have b2 : ∀ (a b : Int) (K : Value → Prop), xF (fBuild [(0, 1), (1, 1)] [.int .i64 0, .int .i64 0] [0, 1]) [.int .i64 a, .int .i64 b] K = K (.agg #[.int .i64 a, .int .i64 b]) := fun _ _ K => nr rfl
  have b3 : ∀ (a b : Int) (K : Value → Prop), xF (fBuild [(0, 1), (1, 1), (2, 1), (3, 1)] [.int .i64 0, .int .u64 0, .int .i64 0, .int .i64 0] [1, 3]) [.int .u64 a, .int .i64 b] K = K (.agg #[.int .i64 0, .int .u64 a, .int .i64 0, .int .i64 b]) := fun _ _ K => nr rfl
  have hT := hC.T; have hS := hC.S; have hC3 := hC.C; have hl := len_bd hC
  have hch : C.chunk C.C = 6 + C.T + 2 * C.S + 3 * C.C := rfl
  have hsl : C.slot a.at' = 6 + C.T + 2 * a.at' := rfl
  simp only [s_alloc_Alloc_Step, w_alloc_Alloc_Step, w_alloc_Alloc_Step_j1, w_alloc_Alloc_Step_j1b, ruS, ruL, ruE, Nat.reduceAdd, reduceIte, Int.reduceLT, Int.reduceLE, Int.reduceEq, Int.reduceNeg, Int.reduceAdd, Int.reduceSub, Nat.reduceLeDiff, Nat.reduceLT]
  rw [ldA hd (show sub _ 2 1 false = some (.int .i64 a.pc) from rfl)]
  simp only [h, ruS, ruL, ruE, Nat.reduceAdd, reduceIte, Int.reduceLT, Int.reduceLE, Int.reduceEq, Int.reduceNeg, Int.reduceAdd, Int.reduceSub, Nat.reduceLeDiff, Nat.reduceLT]
  rw [ldA hd (show sub _ 8 1 false = some (.int .i64 a.at') from rfl), c_Slot hC hat.1 (by omega), ldA hd (show sub _ 11 1 false = some (.int .i64 a.sa) from rfl), ldA hd (show sub _ 9 1 false = some (.int .i64 a.gen) from rfl), b1, c_PutSlot,
    c_Store hN (by omega) (by omega), ldA hd (show sub _ 8 1 false = some (.int .i64 a.at') from rfl), ldA hd (show sub _ 9 1 false = some (.int .i64 a.gen) from rfl), b2, c_PutHandle, c_Now, b3]
  generalize hA' : (A.by who).store (C.slot a.at') (putSlot 1 a.sa a.gen 0) = A' at *
  have st : ∀ K : Value → Mem → Prop, hStore 4 [.pointer (some ⟨p, 14, none⟩), .agg #[.int .i64 0, .int .u64 (putHandle a.at' a.gen), .int .i64 0, .int .i64 A'.s]] K (putA N A' (σ.set p ⟨a.l, true⟩)) = K undef (putA N A' (σ.set p ⟨({ a with oE := 0, oH := putHandle a.at' a.gen, oV := 0, oS := A'.s } : Al).l, true⟩)) := by
    intro K
    have := stOa (K := K) (N := N) (A := A') (σ := σ) (p := p) (pre := []) (L := a.l) (post := []) (k := 14) (sz := 4) (c := [.int .i64 0, .int .u64 (putHandle a.at' a.gen), .int .i64 0, .int .i64 A'.s]) hd rfl (Nat.le_refl 18) rfl
    exact this
  rw [st, stA { a with pc := 6, oE := 0, oH := putHandle a.at' a.gen, oV := 0, oS := A'.s } hd (by decide) rfl]
  exact behind hN hd hk
theorem ldB {p k sz : Nat} {ag : Bool} {a : Al} {v : Value} (hp : σ.get p = some ⟨a.l, true⟩) (h : sub a.l k sz ag = some v) : hLoad sz ag [.pointer (some ⟨p, k, none⟩)] K σ = K v σ := by
  rw [hLoad_eq hp, h, xOs]
theorem c_Al7 (hN : N.ok) (hC : C.ok) (hA : isA N A σ) {p q : Nat} {a : Al} {g : Gv} (hp : σ.get p = some ⟨a.l, true⟩) (hq : σ.get q = some ⟨[] ++ g.l ++ [], true⟩) (hd : q ∉ N.l) (hw : ∀ i, 0 ≤ A.w i ∧ A.w i < 18446744073709551616) (hn : C.len ≤ A.n)
    (h : a.pc = 7) (hg : a.g = some q) (h0 : 0 ≤ g.top ∧ g.top < 18446744073709551616) (h1 : 0 ≤ g.slot ∧ g.slot < C.S)
    (hk : ∀ τ, isA N (g.step C who A).2.2 τ → τ.get q = some ⟨[] ++ (g.step C who A).2.1.l ++ [], true⟩ → Keep (q :: N.l) σ τ → K (.bool (g.step C who A).1) τ) : s_alloc_Alloc_Step [.pointer (some ⟨p, 0, none⟩), N.env C who] K σ := by
  simp only [s_alloc_Alloc_Step, w_alloc_Alloc_Step, w_alloc_Alloc_Step_j1, w_alloc_Alloc_Step_j1b, ruS, ruL, ruE, Nat.reduceAdd, reduceIte, Int.reduceLT, Int.reduceLE, Int.reduceEq, Int.reduceNeg, Int.reduceAdd, Int.reduceSub, Nat.reduceLeDiff, Nat.reduceLT]
  rw [ldB hp (show sub _ 2 1 false = some (.int .i64 a.pc) from rfl)]
  simp only [h, ruS, ruL, ruE, Nat.reduceAdd, reduceIte, Int.reduceLT, Int.reduceLE, Int.reduceEq, Int.reduceNeg, Int.reduceAdd, Int.reduceSub, Nat.reduceLeDiff, Nat.reduceLT]
  rw [ldB hp (show sub _ 13 1 false = some (obP a.g) from rfl), hg, obP_s]
  exact c_Give_Step hN hC hA (t := g) (pre := []) (post := []) hq hd hw hn h0 h1 hk
theorem c_Al0 (hN : N.ok) (hC : C.ok) (hA : isA N A σ) {p : Nat} {a : Al} (hp : σ.get p = some ⟨a.l, true⟩) (hd : p ∉ N.l) (hw : ∀ i, 0 ≤ A.w i ∧ A.w i < 18446744073709551616) (hn : C.len ≤ A.n) (h : a.pc = 0)
    (h0 : 0 ≤ a.tk.top ∧ a.tk.top < 18446744073709551616) (h1 : a.tk.pc = 1 → 0 ≤ a.tk.slot ∧ a.tk.slot < C.S) (h2 : 0 ≤ a.tk.next + 1)
    (k0 : classOf a.size < 0 → ∀ τ, isA N A τ → τ.get p = some ⟨({ a with oE := 5, oH := 0, oV := 0, oS := A.s } : Al).l, true⟩ → Keep (p :: N.l) σ τ → K (.bool true) τ)
    (k1 : 0 ≤ classOf a.size → (a.tk.step C who A).1 = false → ∀ τ, isA N (a.tk.step C who A).2.2 τ → τ.get p = some ⟨({ a with tk := (a.tk.step C who A).2.1 } : Al).l, true⟩ → Keep (p :: N.l) σ τ → K (.bool false) τ)
    (k2 : 0 ≤ classOf a.size → (a.tk.step C who A).1 = true → (a.tk.step C who A).2.1.ok = true → ∀ τ, isA N (a.tk.step C who A).2.2 τ → τ.get p = some ⟨({ a with tk := (a.tk.step C who A).2.1, at' := (a.tk.step C who A).2.1.slot, pc := 1 } : Al).l, true⟩ → Keep (p :: N.l) σ τ → K (.bool false) τ)
    (k3 : 0 ≤ classOf a.size → (a.tk.step C who A).1 = true → (a.tk.step C who A).2.1.ok = false → ∀ τ, isA N (a.tk.step C who A).2.2 τ → τ.get p = some ⟨({ a with tk := (a.tk.step C who A).2.1, at' := 0, pc := 1, oE := 7, oH := 0, oV := 0, oS := (a.tk.step C who A).2.2.s } : Al).l, true⟩ → Keep (p :: N.l) σ τ → K (.bool true) τ) :
    s_alloc_Alloc_Step [.pointer (some ⟨p, 0, none⟩), N.env C who] K σ := by
  simp only [s_alloc_Alloc_Step, w_alloc_Alloc_Step, w_alloc_Alloc_Step_j1, w_alloc_Alloc_Step_j1b, ruS, ruL, ruE, Nat.reduceAdd, reduceIte, Int.reduceLT, Int.reduceLE, Int.reduceEq, Int.reduceNeg, Int.reduceAdd, Int.reduceSub, Nat.reduceLeDiff, Nat.reduceLT]
  rw [ldB hp (show sub _ 2 1 false = some (.int .i64 a.pc) from rfl)]
  simp only [h, ruS, ruL, ruE, Nat.reduceAdd, reduceIte, Int.reduceLT, Int.reduceLE, Int.reduceEq, Int.reduceNeg, Int.reduceAdd, Int.reduceSub, Nat.reduceLeDiff, Nat.reduceLT]
  rw [ldB hp (show sub _ 0 1 false = some (.int .i64 a.size) from rfl)]
  refine c_Class ?_
  by_cases c : classOf a.size < 0
  · simp only [c, ruS, ruL, ruE, Nat.reduceAdd, reduceIte, Int.reduceLT, Int.reduceLE, Int.reduceEq, Int.reduceNeg, Int.reduceAdd, Int.reduceSub, Nat.reduceLeDiff, Nat.reduceLT]
    rw [hA.obj hp, c_end hd]
    exact behind hN hd (k0 c)
  · simp only [c, ruS, ruL, ruE, Nat.reduceAdd, reduceIte, Int.reduceLT, Int.reduceLE, Int.reduceEq, Int.reduceNeg, Int.reduceAdd, Int.reduceSub, Nat.reduceLeDiff, Nat.reduceLT]
    have c' : 0 ≤ classOf a.size := by omega
    refine c_Take_Step hN hC hA (t := a.tk) (pre := [.int .i64 a.size, .bool a.own, .int .i64 a.pc]) (post := [.int .i64 a.at', .int .i64 a.gen, obP a.p, .int .i64 a.sa, .int .i64 a.sc, obP a.g, .int .i64 a.oE, .int .u64 a.oH, .int .i64 a.oV, .int .i64 a.oS]) hp hd hw hn h0 h1 h2 fun τ hA' hg' hK => ?_
    replace k1 := k1 c'
    replace k2 := k2 c'
    replace k3 := k3 c'
    generalize a.tk.step C who A = r at *
    obtain ⟨d, t', A'⟩ := r
    dsimp only at *
    have hg2 : τ.get p = some ⟨({ a with tk := t' } : Al).l, true⟩ := hg'
    cases d with
    | false => simp only [ruS, ruL, ruE, Nat.reduceAdd, reduceIte, Int.reduceLT, Int.reduceLE, Int.reduceEq, Int.reduceNeg, Int.reduceAdd, Int.reduceSub, Nat.reduceLeDiff, Nat.reduceLT]; exact k1 rfl τ hA' hg2 hK
    | true =>
      simp only [ruS, ruL, ruE, Nat.reduceAdd, reduceIte, Int.reduceLT, Int.reduceLE, Int.reduceEq, Int.reduceNeg, Int.reduceAdd, Int.reduceSub, Nat.reduceLeDiff, Nat.reduceLT]
      refine c_Take_Slot hA' (pre := [.int .i64 a.size, .bool a.own, .int .i64 a.pc]) (post := [.int .i64 a.at', .int .i64 a.gen, obP a.p, .int .i64 a.sa, .int .i64 a.sc, obP a.g, .int .i64 a.oE, .int .u64 a.oH, .int .i64 a.oV, .int .i64 a.oS]) hg' hd ?_
      simp only [ruS, ruL, ruE, Nat.reduceAdd, reduceIte, Int.reduceLT, Int.reduceLE, Int.reduceEq, Int.reduceNeg, Int.reduceAdd, Int.reduceSub, Nat.reduceLeDiff, Nat.reduceLT]
      rw [hA'.obj hg2, stA { a with tk := t', at' := if t'.ok = true then t'.slot else 0 } hd (by decide) rfl, stA { a with tk := t', at' := if t'.ok = true then t'.slot else 0, pc := 1 } hd (by decide) rfl]
      cases o : t'.ok with
      | true =>
        simp only [o, ruS, ruL, ruE, Nat.reduceAdd, reduceIte, Int.reduceLT, Int.reduceLE, Int.reduceEq, Int.reduceNeg, Int.reduceAdd, Int.reduceSub, Nat.reduceLeDiff, Nat.reduceLT]
        exact behind hN hd fun υ u1 u2 u3 => k2 rfl o υ u1 (by simpa [o] using u2) (hK.trans u3)
      | false =>
        simp only [o, ruS, ruL, ruE, Nat.reduceAdd, reduceIte, Int.reduceLT, Int.reduceLE, Int.reduceEq, Int.reduceNeg, Int.reduceAdd, Int.reduceSub, Nat.reduceLeDiff, Nat.reduceLT]
        rw [c_end hd]
        exact behind hN hd fun υ u1 u2 u3 => k3 rfl o υ u1 (by simpa [o] using u2) (hK.trans u3)
theorem stAp {p k : Nat} {a : Al} (a' : Al) {b : Option Addr} (hd : p ∉ N.l) (hk : k + 1 ≤ 18) (e : lay a.l k [.pointer b] = a'.l) : hStore 1 [.pointer (some ⟨p, k, none⟩), .pointer b] K (putA N A (σ.set p ⟨a.l, true⟩)) = K undef (putA N A (σ.set p ⟨a'.l, true⟩)) := by
  have := stOp (N := N) (A := A) (σ := σ) (K := K) (p := p) (pre := []) (L := a.l) (post := []) (k := k) (b := b) hd hk
  rw [e] at this
  simpa only [List.nil_append, List.append_nil, List.length_nil, Nat.zero_add] using this
theorem c_Al1 (hN : N.ok) (hC : C.ok) (hA : isA N A σ) {p : Nat} {a : Al} (hp : σ.get p = some ⟨a.l, true⟩) (hd : p ∉ N.l) (hw : ∀ i, 0 ≤ A.w i ∧ A.w i < 18446744073709551616) (hn : C.len ≤ A.n) (h : a.pc = 1) (hat : 0 ≤ a.at' ∧ a.at' < C.S) (hp0 : σ.get p = some ⟨a.l, true⟩)
    (hk : ∀ q τ, σ.get q = none → q ≠ p → isA N ((A.by who).load (C.slot a.at')) τ → τ.get p = some ⟨({ a with gen := slG (A.w (C.slot a.at')), pc := 2, p := some q } : Al).l, true⟩ → τ.get q = some ⟨(Pl.new (classOf a.size)).l, true⟩ → Keep (p :: N.l) σ τ → K (.bool false) τ) :
    s_alloc_Alloc_Step [.pointer (some ⟨p, 0, none⟩), N.env C who] K σ := by
  have hT := hC.T; have hS := hC.S; have hC3 := hC.C; have hl := len_bd hC
  have hch : C.chunk C.C = 6 + C.T + 2 * C.S + 3 * C.C := rfl
  have hsl : C.slot a.at' = 6 + C.T + 2 * a.at' := rfl
  have hsd : ∀ (w : Int) (K : Value → Prop), xF (fFldV 2 1 false) [.agg #[.int .i64 (slS w), .int .i64 (slA w), .int .i64 (slG w), .int .i64 (slV w)]] K = K (.int .i64 (slG w)) := fun w K => nr rfl
  rw [hA.obj hp]
  simp only [s_alloc_Alloc_Step, w_alloc_Alloc_Step, w_alloc_Alloc_Step_j1, w_alloc_Alloc_Step_j1b, ruS, ruL, ruE, Nat.reduceAdd, reduceIte, Int.reduceLT, Int.reduceLE, Int.reduceEq, Int.reduceNeg, Int.reduceAdd, Int.reduceSub, Nat.reduceLeDiff, Nat.reduceLT]
  rw [ldA hd (show sub _ 2 1 false = some (.int .i64 a.pc) from rfl)]
  simp only [h, ruS, ruL, ruE, Nat.reduceAdd, reduceIte, Int.reduceLT, Int.reduceLE, Int.reduceEq, Int.reduceNeg, Int.reduceAdd, Int.reduceSub, Nat.reduceLeDiff, Nat.reduceLT]
  rw [ldA hd (show sub _ 8 1 false = some (.int .i64 a.at') from rfl), c_Slot hC hat.1 (by omega), c_Load hN (by omega) (by omega), c_wSlot (hw _).1 (hw _).2]
  simp only [subE2, List.toList_toArray, ruS, ruL, ruE, Nat.reduceAdd, reduceIte, Int.reduceLT, Int.reduceLE, Int.reduceEq, Int.reduceNeg, Int.reduceAdd, Int.reduceSub, Nat.reduceLeDiff, Nat.reduceLT]
  rw [stA { a with gen := slG (A.w (C.slot a.at')) } hd (by decide) rfl, stA { a with gen := slG (A.w (C.slot a.at')), pc := 2 } hd (by decide) rfl, ldA (a := { a with gen := slG (A.w (C.slot a.at')), pc := 2 }) hd (show sub _ 0 1 false = some (.int .i64 a.size) from rfl)]
  refine c_Class ?_
  refine c_PlaceNew fun q τ hq gq x => ?_
  have isU : isA N ((A.by who).load (C.slot a.at')) (putA N ((A.by who).load (C.slot a.at')) (σ.set p ⟨({ a with gen := slG (A.w (C.slot a.at')), pc := 2 } : Al).l, true⟩)) := isA_put hN
  have gU : (putA N ((A.by who).load (C.slot a.at')) (σ.set p ⟨({ a with gen := slG (A.w (C.slot a.at')), pc := 2 } : Al).l, true⟩)).get p = some ⟨({ a with gen := slG (A.w (C.slot a.at')), pc := 2 } : Al).l, true⟩ := (putA_get hd).trans (Mem.get_set_same _ _ _)
  have kU : Keep (p :: N.l) σ (putA N ((A.by who).load (C.slot a.at')) (σ.set p ⟨({ a with gen := slG (A.w (C.slot a.at')), pc := 2 } : Al).l, true⟩)) := fun i b hi hn => by
    simp only [List.mem_cons, not_or] at hn
    rw [putA_get hn.2, Mem.get_set_ne _ _ hn.1]; exact hi
  generalize putA N ((A.by who).load (C.slot a.at')) (σ.set p ⟨({ a with gen := slG (A.w (C.slot a.at')), pc := 2 } : Al).l, true⟩) = υ at *
  have qp : q ≠ p := by rintro rfl; rw [gU] at hq; cases hq
  have qn := isU.new hq
  have hqs : σ.get q = none := by
    cases e : σ.get q with
    | none => rfl
    | some b => rw [kU q b e (by simp only [List.mem_cons, not_or]; exact ⟨qp, qn⟩)] at hq; cases hq
  have isT := isU.ext x
  have gT := x _ _ gU
  rw [isT.obj gT, stAp { a with gen := slG (A.w (C.slot a.at')), pc := 2, p := some q } hd (by decide) rfl]
  refine behind hN hd fun ω o1 o2 o3 => hk q ω hqs qp o1 o2 ?_ ?_
  · exact o3 q _ gq (by simp only [List.mem_cons, not_or]; exact ⟨qp, qn⟩)
  · exact (kU.trans x.keep).trans o3
theorem c_Al2 (hN : N.ok) (hC : C.ok) (hA : isA N A σ) {p q : Nat} {a : Al} {t : Pl} (hp : σ.get p = some ⟨a.l, true⟩) (hd : p ∉ N.l) (hq : σ.get q = some ⟨[] ++ t.l ++ [], true⟩) (hqd : q ∉ N.l) (hqp : q ≠ p)
    (hw : ∀ i, 0 ≤ A.w i ∧ A.w i < 18446744073709551616) (hn : C.len ≤ A.n) (h : a.pc = 2) (ha : a.p = some q) (hf : t.fit C) (ho : A.w (2 + t.cls) ≤ C.C)
    (k0 : (t.step C who A).1 = false → ∀ τ, isA N (t.step C who A).2.2 τ → τ.get p = some ⟨a.l, true⟩ → τ.get q = some ⟨[] ++ (t.step C who A).2.1.l ++ [], true⟩ → Keep (q :: p :: N.l) σ τ → K (.bool false) τ)
    (k1 : (t.step C who A).1 = true → (t.step C who A).2.1.ok = true → ∀ τ, isA N (t.step C who A).2.2 τ → τ.get p = some ⟨({ a with sa := (t.step C who A).2.1.sa, sc := (t.step C who A).2.1.sc, pc := 3 } : Al).l, true⟩ → Keep (q :: p :: N.l) σ τ → K (.bool false) τ)
    (k2 : (t.step C who A).1 = true → (t.step C who A).2.1.ok = false → ∀ id τ, σ.get id = none → id ∉ N.l → id ≠ p → isA N (t.step C who A).2.2 τ →
      τ.get p = some ⟨({ a with sa := 0, sc := 0, pc := 7, oE := 6, oH := 0, oV := 0, oS := (t.step C who A).2.2.s, g := some id } : Al).l, true⟩ → τ.get id = some ⟨(Gv.mk 0 a.at' 0).l, true⟩ → Keep (q :: p :: N.l) σ τ → K (.bool false) τ) :
    s_alloc_Alloc_Step [.pointer (some ⟨p, 0, none⟩), N.env C who] K σ := by
  have gs : ∀ x y : Int, gStore 2 [.pointer (some ⟨7, 0, some 0⟩), .agg #[.int .i64 x, .int .i64 y]] [.int .i64 0, .int .i64 0] = some [.int .i64 x, .int .i64 y] := fun _ _ => rfl
  have sb2 : ∀ x y : Value, sub [x, y] 0 2 true = some (.agg #[x, y]) := fun _ _ => rfl
  simp only [s_alloc_Alloc_Step, w_alloc_Alloc_Step, w_alloc_Alloc_Step_j1, w_alloc_Alloc_Step_j1b, ruS, ruL, ruE, Nat.reduceAdd, reduceIte, Int.reduceLT, Int.reduceLE, Int.reduceEq, Int.reduceNeg, Int.reduceAdd, Int.reduceSub, Nat.reduceLeDiff, Nat.reduceLT]
  rw [ldB hp (show sub _ 2 1 false = some (.int .i64 a.pc) from rfl)]
  simp only [h, ruS, ruL, ruE, Nat.reduceAdd, reduceIte, Int.reduceLT, Int.reduceLE, Int.reduceEq, Int.reduceNeg, Int.reduceAdd, Int.reduceSub, Nat.reduceLeDiff, Nat.reduceLT]
  rw [ldB hp (show sub _ 10 1 false = some (obP a.p) from rfl), ha, obP_s]
  refine c_Place_Step hN hC hA (t := t) (pre := []) (post := []) hq hqd hw hn hf ho fun τ hA' hq' hK => ?_
  generalize t.step C who A = r at *
  obtain ⟨d, t', A'⟩ := r
  dsimp only at *
  have hp' : τ.get p = some ⟨a.l, true⟩ := hK.get hp (by simp only [List.mem_cons, not_or]; exact ⟨fun e => hqp e.symm, hd⟩)
  have hK2 : Keep (q :: p :: N.l) σ τ := hK.mono (by intro i hi; rcases List.mem_cons.1 hi with rfl | hi <;> simp [*])
  have hpL : ∀ i ∈ p :: N.l, i ∈ q :: p :: N.l := fun i hi => List.mem_cons_of_mem _ hi
  cases d with
  | false => simp only [ruS, ruL, ruE, Nat.reduceAdd, reduceIte, Int.reduceLT, Int.reduceLE, Int.reduceEq, Int.reduceNeg, Int.reduceAdd, Int.reduceSub, Nat.reduceLeDiff, Nat.reduceLT]; exact k0 rfl τ hA' hp' hq' hK2
  | true =>
    simp only [ruS, ruL, ruE, Nat.reduceAdd, reduceIte, Int.reduceLT, Int.reduceLE, Int.reduceEq, Int.reduceNeg, Int.reduceAdd, Int.reduceSub, Nat.reduceLeDiff, Nat.reduceLT]
    rw [ldB hp' (show sub _ 10 1 false = some (obP a.p) from rfl), ha, obP_s]
    refine c_Place_Spot hA' (pre := []) (post := []) hq' hqd ?_
    have st : ∀ (x y : Int) (K : Value → Mem → Prop), hStore 2 [.pointer (some ⟨p, 11, none⟩), .agg #[.int .i64 x, .int .i64 y]] K (putA N A' (τ.set p ⟨a.l, true⟩)) = K undef (putA N A' (τ.set p ⟨({ a with sa := x, sc := y } : Al).l, true⟩)) := by
      intro x y K
      have := stOa (K := K) (N := N) (A := A') (σ := τ) (p := p) (pre := []) (L := a.l) (post := []) (k := 11) (sz := 2) (c := [.int .i64 x, .int .i64 y]) hd rfl (by show 13 ≤ 18; decide) rfl
      exact this
    rw [hA'.obj hp']
    cases o : t'.ok with
    | true =>
      simp only [o, gs, sb2, ruS, ruL, ruE, Nat.reduceAdd, reduceIte, Int.reduceLT, Int.reduceLE, Int.reduceEq, Int.reduceNeg, Int.reduceAdd, Int.reduceSub, Nat.reduceLeDiff, Nat.reduceLT]
      rw [st, stA { a with sa := t'.sa, sc := t'.sc, pc := 3 } hd (by decide) rfl]
      exact behind hN hd fun υ u1 u2 u3 => k1 rfl o υ u1 u2 (hK2.trans (u3.mono hpL))
    | false =>
      simp only [o, gs, sb2, ruS, ruL, ruE, Nat.reduceAdd, reduceIte, Int.reduceLT, Int.reduceLE, Int.reduceEq, Int.reduceNeg, Int.reduceAdd, Int.reduceSub, Nat.reduceLeDiff, Nat.reduceLT]
      rw [st, stA { a with sa := 0, sc := 0, pc := 3 } hd (by decide) rfl, c_end hd]
      rw [ldA (a := { a with sa := 0, sc := 0, pc := 3, oE := 6, oH := 0, oV := 0, oS := A'.s }) hd (show sub _ 8 1 false = some (.int .i64 a.at') from rfl)]
      refine behind (K := fun _ σ => s_slot_NewGive [.int .i64 a.at'] _ σ) (v := undef) hN hd fun υ u1 u2 u3 => ?_
      refine c_NewGive fun id ω hid gid x => ?_
      have hx1 := u1.ext x
      have hx2 := x _ _ u2
      have ip : id ≠ p := by rintro rfl; rw [u2] at hid; cases hid
      have inn := u1.new hid
      rw [hx1.obj hx2, stAp { a with sa := 0, sc := 0, pc := 3, oE := 6, oH := 0, oV := 0, oS := A'.s, g := some id } hd (by decide) rfl, stA { a with sa := 0, sc := 0, pc := 7, oE := 6, oH := 0, oV := 0, oS := A'.s, g := some id } hd (by decide) rfl]
      have kall : Keep (q :: p :: N.l) σ υ := hK2.trans (u3.mono hpL)
      have iq : id ≠ q := by
        rintro rfl
        rw [u3 _ _ hq' (by simp only [List.mem_cons, not_or]; exact ⟨hqp, hqd⟩)] at hid; cases hid
      have ids : σ.get id = none := by
        cases e : σ.get id with
        | none => rfl
        | some b => rw [kall id b e (by simp only [List.mem_cons, not_or]; exact ⟨iq, ip, inn⟩)] at hid; cases hid
      refine behind hN hd fun ρ r1 r2 r3 => k2 rfl o id ρ ids inn ip r1 r2 ?_ ((kall.trans x.keep).trans (r3.mono hpL))
      exact r3 id _ gid (by simp only [List.mem_cons, not_or]; exact ⟨ip, inn⟩)
end Go.Fl
