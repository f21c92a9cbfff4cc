/- What each Go function that the law reaches does, read off its text by a program; that this is the function; the same for the closed evaluator. No condition. -/
import Derived.Test.YthibiempfkcinaaG2
namespace Go.Fl
open Go Go.Proofs
set_option linter.unusedVariables false
set_option maxRecDepth 10000000

/-! ### /law08.AllocShares -/
def w_law08_AllocShares_j3b (K : Value → Mem → Prop) (v7 v13 : Value) (σ : Mem) : Prop :=
xF fMove [v13] fun v161 =>
xF fLen [v161] fun v162 =>
xF fMove [v7] fun v163 =>
xF (fBin .leq .no) [v162, v163] fun v164 =>
xF fMove [v164] fun v6 =>
K v6 σ

def w_law08_AllocShares_j3 (K : Value → Mem → Prop) (ts : List Value) (ls : List (List Value)) (σ : Mem) : Prop := w_law08_AllocShares_j3b K (ts.getD 0 poison) (ts.getD 1 poison) σ

def w_law08_AllocShares_j4b (K : Value → Mem → Prop) (J3 : List Value → List (List Value) → Mem → Prop) (R1 : List Value → List (List Value) → Mem → Prop) (v7 v13 v17 : Value) (c8 : List Value) (σ : Mem) : Prop :=
xF fMove [v17] fun v130 =>
xF (fBin .add .no) [v130, (.int .i64 1)] fun v131 =>
xF fMove [v131] fun v17 =>
R1 [v7, v13, v17] [c8] σ

def w_law08_AllocShares_j4 (K : Value → Mem → Prop) (J3 : List Value → List (List Value) → Mem → Prop) (R1 : List Value → List (List Value) → Mem → Prop) (ts : List Value) (ls : List (List Value)) (σ : Mem) : Prop := w_law08_AllocShares_j4b K J3 R1 (ts.getD 0 poison) (ts.getD 1 poison) (ts.getD 2 poison) (ls.getD 0 []) σ

def w_law08_AllocShares_l32b (K : Value → Mem → Prop) (J3 : List Value → List (List Value) → Mem → Prop) (R1 : List Value → List (List Value) → Mem → Prop) (J4 : List Value → List (List Value) → Mem → Prop) (R3 : List Value → List (List Value) → Mem → Prop) (v7 v13 v17 v18 : Value) (c8 : List Value) (σ : Mem) : Prop :=
xF fMove [v18] fun v145 =>
xF fMove [v17] fun v146 =>
xF (fBin .lss .no) [v145, v146] fun v147 =>
xIf v147
 (xF fMove [v13] fun v150 =>
xF fMove [v18] fun v151 =>
xF (fIxS 2) [v150, v151] fun v152 =>
xF (fFld 0) [v152] fun v153 =>
hLoad 1 false [v153] (fun v154 σ =>
xF fMove [v13] fun v155 =>
xF fMove [v17] fun v156 =>
xF (fIxS 2) [v155, v156] fun v157 =>
xF (fFld 0) [v157] fun v158 =>
hLoad 1 false [v158] (fun v159 σ =>
xF (fBin .eql .no) [v154, v159] fun v160 =>
xIf v160
 (xF fMove [(.bool false)] fun v6 =>
K v6 σ)
 (xF fMove [v18] fun v148 =>
xF (fBin .add .no) [v148, (.int .i64 1)] fun v149 =>
xF fMove [v149] fun v18 =>
R3 [v7, v13, v17, v18] [c8] σ)) σ) σ)
 (J4 [v7, v13, v17] [c8] σ)

def w_law08_AllocShares_l32 (K : Value → Mem → Prop) (J3 : List Value → List (List Value) → Mem → Prop) (R1 : List Value → List (List Value) → Mem → Prop) (J4 : List Value → List (List Value) → Mem → Prop) (R3 : List Value → List (List Value) → Mem → Prop) (ts : List Value) (ls : List (List Value)) (σ : Mem) : Prop := w_law08_AllocShares_l32b K J3 R1 J4 R3 (ts.getD 0 poison) (ts.getD 1 poison) (ts.getD 2 poison) (ts.getD 3 poison) (ls.getD 0 []) σ

def w_law08_AllocShares_l27b (K : Value → Mem → Prop) (J3 : List Value → List (List Value) → Mem → Prop) (R1 : List Value → List (List Value) → Mem → Prop) (v7 v13 v17 : Value) (c8 : List Value) (σ : Mem) : Prop :=
xF fMove [v17] fun v126 =>
xF fMove [v13] fun v127 =>
xF fLen [v127] fun v128 =>
xF (fBin .lss .no) [v126, v128] fun v129 =>
xIf v129
 (xJoin (w_law08_AllocShares_j4 K J3 R1) fun J4 =>
xO (gLoad 9 true [(locP 8)] c8) fun v132 =>
xF fMove [v13] fun v133 =>
xF fMove [v17] fun v134 =>
xF (fIxS 2) [v133, v134] fun v135 =>
xF (fFld 0) [v135] fun v136 =>
hLoad 1 false [v136] (fun v137 σ =>
xF fMove [v13] fun v138 =>
xF fMove [v17] fun v139 =>
xF (fIxS 2) [v138, v139] fun v140 =>
xF (fFld 1) [v140] fun v141 =>
hLoad 1 false [v141] (fun v142 σ =>
s_law08_sound [v132, v137, v142, (.bool false)] (fun v143 σ =>
xF (fUn .not) [v143] fun v144 =>
xIf v144
 (xF fMove [(.bool false)] fun v6 =>
K v6 σ)
 (xF fMove [(.int .i64 0)] fun v18 =>
xLoop (w_law08_AllocShares_l32 K J3 R1 J4) [v7, v13, v17, v18] [c8] σ)) σ) σ) σ)
 (J3 [v7, v13] [] σ)

def w_law08_AllocShares_l27 (K : Value → Mem → Prop) (J3 : List Value → List (List Value) → Mem → Prop) (R1 : List Value → List (List Value) → Mem → Prop) (ts : List Value) (ls : List (List Value)) (σ : Mem) : Prop := w_law08_AllocShares_l27b K J3 R1 (ts.getD 0 poison) (ts.getD 1 poison) (ts.getD 2 poison) (ls.getD 0 []) σ

def w_law08_AllocShares_j2b (K : Value → Mem → Prop) (v7 v13 : Value) (c8 : List Value) (σ : Mem) : Prop :=
xJoin (w_law08_AllocShares_j3 K) fun J3 =>
xF fMove [(.int .i64 0)] fun v17 =>
xLoop (w_law08_AllocShares_l27 K J3) [v7, v13, v17] [c8] σ

def w_law08_AllocShares_j2 (K : Value → Mem → Prop) (ts : List Value) (ls : List (List Value)) (σ : Mem) : Prop := w_law08_AllocShares_j2b K (ts.getD 0 poison) (ts.getD 1 poison) (ls.getD 0 []) σ

def w_law08_AllocShares_j6b (K : Value → Mem → Prop) (J2 : List Value → List (List Value) → Mem → Prop) (R1 : List Value → List (List Value) → Mem → Prop) (v1 v2 v7 v12 v13 v14 : Value) (c8 c10 c11 : List Value) (σ : Mem) : Prop :=
xF fMove [v14] fun v45 =>
xF (fBin .add .no) [v45, (.int .i64 1)] fun v46 =>
xF fMove [v46] fun v14 =>
R1 [v1, v2, v7, v12, v13, v14] [c8, c10, c11] σ

def w_law08_AllocShares_j6 (K : Value → Mem → Prop) (J2 : List Value → List (List Value) → Mem → Prop) (R1 : List Value → List (List Value) → Mem → Prop) (ts : List Value) (ls : List (List Value)) (σ : Mem) : Prop := w_law08_AllocShares_j6b K J2 R1 (ts.getD 0 poison) (ts.getD 1 poison) (ts.getD 2 poison) (ts.getD 3 poison) (ts.getD 4 poison) (ts.getD 5 poison) (ls.getD 0 []) (ls.getD 1 []) (ls.getD 2 []) σ

def w_law08_AllocShares_j9b (K : Value → Mem → Prop) (J2 : List Value → List (List Value) → Mem → Prop) (R1 : List Value → List (List Value) → Mem → Prop) (J6 : List Value → List (List Value) → Mem → Prop) (v1 v2 v7 v12 v13 v14 v125 : Value) (c8 c10 c11 : List Value) (σ : Mem) : Prop :=
xIf v125
 (xF fMove [(.bool false)] fun v6 =>
K v6 σ)
 (J6 [v1, v2, v7, v12, v13, v14] [c8, c10, c11] σ)

def w_law08_AllocShares_j9 (K : Value → Mem → Prop) (J2 : List Value → List (List Value) → Mem → Prop) (R1 : List Value → List (List Value) → Mem → Prop) (J6 : List Value → List (List Value) → Mem → Prop) (ts : List Value) (ls : List (List Value)) (σ : Mem) : Prop := w_law08_AllocShares_j9b K J2 R1 J6 (ts.getD 0 poison) (ts.getD 1 poison) (ts.getD 2 poison) (ts.getD 3 poison) (ts.getD 4 poison) (ts.getD 5 poison) (ts.getD 6 poison) (ls.getD 0 []) (ls.getD 1 []) (ls.getD 2 []) σ

def w_law08_AllocShares_j8b (K : Value → Mem → Prop) (J2 : List Value → List (List Value) → Mem → Prop) (R1 : List Value → List (List Value) → Mem → Prop) (J6 : List Value → List (List Value) → Mem → Prop) (v1 v2 v7 v12 v13 v14 v15 : Value) (c8 c10 c11 : List Value) (σ : Mem) : Prop :=
xF fMove [v15] fun v94 =>
xF (fIxA 3 1) [(locP 10), v94] fun v95 =>
xO (gLoad 1 false [v95] c10) fun v96 =>
xO (gLoad 9 true [(locP 8)] c8) fun v97 =>
s_alloc_Alloc_Step [v96, v97] (fun v98 σ =>
xF (fUn .not) [v98] fun v99 =>
xIf v99
 (J6 [v1, v2, v7, v12, v13, v14] [c8, c10, c11] σ)
 (xF fMove [v15] fun v100 =>
xF (fIxA 3 1) [(locP 10), v100] fun v101 =>
xO (gLoad 1 false [v101] c10) fun v102 =>
s_alloc_Alloc_Done [v102] (fun v103 σ =>
xC (gStore 4 [(locP 16), v103] [(.int .i64 0), (.int .u64 0), (.int .i64 0), (.int .i64 0)]) fun c16 =>
xF fMove [v15] fun v104 =>
xF (fIxA 3 1) [(locP 10), v104] fun v105 =>
xC (gStore 1 [v105, (.pointer none)] c10) fun c10 =>
xF (fFld 0) [(locP 16)] fun v106 =>
xO (gLoad 1 false [v106] c16) fun v107 =>
xF (fBin .eql .no) [v107, (.int .i64 0)] fun v108 =>
xIf v108
 (xF fMove [v13] fun v109 =>
xF (fFld 1) [(locP 16)] fun v110 =>
xO (gLoad 1 false [v110] c16) fun v111 =>
xF fMove [v15] fun v112 =>
xF (fIxA 3 1) [(locP 11), v112] fun v113 =>
xO (gLoad 1 false [v113] c11) fun v114 =>
xF (fBuild [(0, 1), (1, 1)] [(.int .u64 0), (.int .i64 0)] [0, 1]) [v111, v114] fun v115 =>
xC (gBuildS 2 1 [(.int .u64 0), (.int .i64 0)] [0] [v115] []) fun c116 =>
hAppendL 2 16 c116 [v109, (locS 116 1 2)] (fun v117 σ =>
xF fMove [v117] fun v13 =>
J6 [v1, v2, v7, v12, v13, v14] [c8, c10, c11] σ) σ)
 (xJoin (w_law08_AllocShares_j9 K J2 R1 J6) fun J9 =>
xF (fFld 0) [(locP 16)] fun v118 =>
xO (gLoad 1 false [v118] c16) fun v119 =>
xF (fBin .neq .no) [v119, (.int .i64 7)] fun v120 =>
xF fMove [v120] fun v121 =>
xIf v121
 (xF (fFld 0) [(locP 16)] fun v122 =>
xO (gLoad 1 false [v122] c16) fun v123 =>
xF (fBin .neq .no) [v123, (.int .i64 6)] fun v124 =>
xF fPick [(.bool true), v124, (.bool false)] fun v125 =>
J9 [v1, v2, v7, v12, v13, v14, v125] [c8, c10, c11] σ)
 (xF fPick [(.bool false), undef, (.bool false)] fun v125 =>
J9 [v1, v2, v7, v12, v13, v14, v125] [c8, c10, c11] σ))) σ)) σ

def w_law08_AllocShares_j8 (K : Value → Mem → Prop) (J2 : List Value → List (List Value) → Mem → Prop) (R1 : List Value → List (List Value) → Mem → Prop) (J6 : List Value → List (List Value) → Mem → Prop) (ts : List Value) (ls : List (List Value)) (σ : Mem) : Prop := w_law08_AllocShares_j8b K J2 R1 J6 (ts.getD 0 poison) (ts.getD 1 poison) (ts.getD 2 poison) (ts.getD 3 poison) (ts.getD 4 poison) (ts.getD 5 poison) (ts.getD 6 poison) (ls.getD 0 []) (ls.getD 1 []) (ls.getD 2 []) σ

def w_law08_AllocShares_j10b (K : Value → Mem → Prop) (J2 : List Value → List (List Value) → Mem → Prop) (R1 : List Value → List (List Value) → Mem → Prop) (J6 : List Value → List (List Value) → Mem → Prop) (J8 : List Value → List (List Value) → Mem → Prop) (v1 v2 v7 v12 v13 v14 v15 : Value) (c8 c10 c11 : List Value) (σ : Mem) : Prop :=
xF fMove [v15] fun v78 =>
xF fMove [v1] fun v79 =>
xF fMove [v12] fun v80 =>
xF (fIxS 1) [v79, v80] fun v81 =>
hLoad 1 false [v81] (fun v82 σ =>
xF (fBin .and .no) [v82, (.int .i64 15)] fun v83 =>
xF (fBin .add .no) [(.int .i64 1), v83] fun v84 =>
xF (fIxA 3 1) [(locP 11), v78] fun v85 =>
xC (gStore 1 [v85, v84] c11) fun c11 =>
xF fMove [v15] fun v86 =>
xF fMove [v15] fun v87 =>
xF (fIxA 3 1) [(locP 11), v87] fun v88 =>
xO (gLoad 1 false [v88] c11) fun v89 =>
s_alloc_New [v89, (.bool false)] (fun v90 σ =>
xF (fIxA 3 1) [(locP 10), v86] fun v91 =>
xC (gStore 1 [v91, v90] c10) fun c10 =>
xF fMove [v12] fun v92 =>
xF (fBin .add .no) [v92, (.int .i64 1)] fun v93 =>
xF fMove [v93] fun v12 =>
J8 [v1, v2, v7, v12, v13, v14, v15] [c8, c10, c11] σ) σ) σ

def w_law08_AllocShares_j10 (K : Value → Mem → Prop) (J2 : List Value → List (List Value) → Mem → Prop) (R1 : List Value → List (List Value) → Mem → Prop) (J6 : List Value → List (List Value) → Mem → Prop) (J8 : List Value → List (List Value) → Mem → Prop) (ts : List Value) (ls : List (List Value)) (σ : Mem) : Prop := w_law08_AllocShares_j10b K J2 R1 J6 J8 (ts.getD 0 poison) (ts.getD 1 poison) (ts.getD 2 poison) (ts.getD 3 poison) (ts.getD 4 poison) (ts.getD 5 poison) (ts.getD 6 poison) (ls.getD 0 []) (ls.getD 1 []) (ls.getD 2 []) σ

def w_law08_AllocShares_j7b (K : Value → Mem → Prop) (J2 : List Value → List (List Value) → Mem → Prop) (R1 : List Value → List (List Value) → Mem → Prop) (J6 : List Value → List (List Value) → Mem → Prop) (v1 v2 v7 v12 v13 v14 v15 : Value) (c8 c10 c11 : List Value) (σ : Mem) : Prop :=
xJoin (w_law08_AllocShares_j8 K J2 R1 J6) fun J8 =>
xF fMove [v15] fun v64 =>
xF (fIxA 3 1) [(locP 10), v64] fun v65 =>
xO (gLoad 1 false [v65] c10) fun v66 =>
xF (fBin .eql .ptr) [v66, (.pointer none)] fun v67 =>
xIf v67
 (xJoin (w_law08_AllocShares_j10 K J2 R1 J6 J8) fun J10 =>
xF fMove [v12] fun v68 =>
xF fMove [v1] fun v69 =>
xF fLen [v69] fun v70 =>
xF (fBin .geq .no) [v68, v70] fun v71 =>
xF fMove [v71] fun v72 =>
xIf v72
 (xF fPick [(.bool true), (.bool true), undef] fun v77 =>
xIf v77
 (J6 [v1, v2, v7, v12, v13, v14] [c8, c10, c11] σ)
 (J10 [v1, v2, v7, v12, v13, v14, v15] [c8, c10, c11] σ))
 (xF fMove [v14] fun v73 =>
xF fMove [v2] fun v74 =>
xF fLen [v74] fun v75 =>
xF (fBin .geq .no) [v73, v75] fun v76 =>
xF fPick [(.bool false), (.bool true), v76] fun v77 =>
xIf v77
 (J6 [v1, v2, v7, v12, v13, v14] [c8, c10, c11] σ)
 (J10 [v1, v2, v7, v12, v13, v14, v15] [c8, c10, c11] σ)))
 (J8 [v1, v2, v7, v12, v13, v14, v15] [c8, c10, c11] σ)

def w_law08_AllocShares_j7 (K : Value → Mem → Prop) (J2 : List Value → List (List Value) → Mem → Prop) (R1 : List Value → List (List Value) → Mem → Prop) (J6 : List Value → List (List Value) → Mem → Prop) (ts : List Value) (ls : List (List Value)) (σ : Mem) : Prop := w_law08_AllocShares_j7b K J2 R1 J6 (ts.getD 0 poison) (ts.getD 1 poison) (ts.getD 2 poison) (ts.getD 3 poison) (ts.getD 4 poison) (ts.getD 5 poison) (ts.getD 6 poison) (ls.getD 0 []) (ls.getD 1 []) (ls.getD 2 []) σ

def w_law08_AllocShares_j11b (K : Value → Mem → Prop) (J2 : List Value → List (List Value) → Mem → Prop) (R1 : List Value → List (List Value) → Mem → Prop) (J6 : List Value → List (List Value) → Mem → Prop) (J7 : List Value → List (List Value) → Mem → Prop) (v1 v2 v7 v12 v13 v14 v15 v56 : Value) (c8 c10 c11 : List Value) (σ : Mem) : Prop :=
xIf v56
 (xF fMove [v2] fun v57 =>
xF fMove [v14] fun v58 =>
xF (fIxS 1) [v57, v58] fun v59 =>
hLoad 1 false [v59] (fun v60 σ =>
xF (fBin .rem .no) [v60, (.int .i64 3)] fun v61 =>
xF (fBin .add .no) [v61, (.int .i64 3)] fun v62 =>
xF (fBin .rem .no) [v62, (.int .i64 3)] fun v63 =>
xF fMove [v63] fun v15 =>
J7 [v1, v2, v7, v12, v13, v14, v15] [c8, c10, c11] σ) σ)
 (J7 [v1, v2, v7, v12, v13, v14, v15] [c8, c10, c11] σ)

def w_law08_AllocShares_j11 (K : Value → Mem → Prop) (J2 : List Value → List (List Value) → Mem → Prop) (R1 : List Value → List (List Value) → Mem → Prop) (J6 : List Value → List (List Value) → Mem → Prop) (J7 : List Value → List (List Value) → Mem → Prop) (ts : List Value) (ls : List (List Value)) (σ : Mem) : Prop := w_law08_AllocShares_j11b K J2 R1 J6 J7 (ts.getD 0 poison) (ts.getD 1 poison) (ts.getD 2 poison) (ts.getD 3 poison) (ts.getD 4 poison) (ts.getD 5 poison) (ts.getD 6 poison) (ts.getD 7 poison) (ls.getD 0 []) (ls.getD 1 []) (ls.getD 2 []) σ

def w_law08_AllocShares_j5b (K : Value → Mem → Prop) (J2 : List Value → List (List Value) → Mem → Prop) (R1 : List Value → List (List Value) → Mem → Prop) (v1 v2 v7 v12 v13 v14 : Value) (c8 c10 c11 : List Value) (σ : Mem) : Prop :=
xJoin (w_law08_AllocShares_j6 K J2 R1) fun J6 =>
xF fMove [v14] fun v47 =>
xF (fBin .rem .no) [v47, (.int .i64 3)] fun v48 =>
xF fMove [v48] fun v15 =>
xJoin (w_law08_AllocShares_j7 K J2 R1 J6) fun J7 =>
xJoin (w_law08_AllocShares_j11 K J2 R1 J6 J7) fun J11 =>
xF fMove [v14] fun v49 =>
xF fMove [v2] fun v50 =>
xF fLen [v50] fun v51 =>
xF (fBin .lss .no) [v49, v51] fun v52 =>
xF fMove [v52] fun v53 =>
xIf v53
 (xF fMove [v14] fun v54 =>
xF (fBin .lss .no) [v54, (.int .i64 400)] fun v55 =>
xF fPick [(.bool true), v55, (.bool false)] fun v56 =>
J11 [v1, v2, v7, v12, v13, v14, v15, v56] [c8, c10, c11] σ)
 (xF fPick [(.bool false), undef, (.bool false)] fun v56 =>
J11 [v1, v2, v7, v12, v13, v14, v15, v56] [c8, c10, c11] σ)

def w_law08_AllocShares_j5 (K : Value → Mem → Prop) (J2 : List Value → List (List Value) → Mem → Prop) (R1 : List Value → List (List Value) → Mem → Prop) (ts : List Value) (ls : List (List Value)) (σ : Mem) : Prop := w_law08_AllocShares_j5b K J2 R1 (ts.getD 0 poison) (ts.getD 1 poison) (ts.getD 2 poison) (ts.getD 3 poison) (ts.getD 4 poison) (ts.getD 5 poison) (ls.getD 0 []) (ls.getD 1 []) (ls.getD 2 []) σ

def w_law08_AllocShares_l9b (K : Value → Mem → Prop) (J2 : List Value → List (List Value) → Mem → Prop) (R1 : List Value → List (List Value) → Mem → Prop) (v1 v2 v7 v12 v13 v14 : Value) (c8 c10 c11 : List Value) (σ : Mem) : Prop :=
xJoin (w_law08_AllocShares_j5 K J2 R1) fun J5 =>
xF fMove [v14] fun v36 =>
xF fMove [v2] fun v37 =>
xF fLen [v37] fun v38 =>
xF (fBin .add .no) [v38, (.int .i64 200)] fun v39 =>
xF (fBin .lss .no) [v36, v39] fun v40 =>
xF fMove [v40] fun v41 =>
xIf v41
 (xF fMove [v14] fun v42 =>
xF (fBin .lss .no) [v42, (.int .i64 700)] fun v43 =>
xF fPick [(.bool true), v43, (.bool false)] fun v44 =>
xIf v44
 (J5 [v1, v2, v7, v12, v13, v14] [c8, c10, c11] σ)
 (J2 [v7, v13] [c8] σ))
 (xF fPick [(.bool false), undef, (.bool false)] fun v44 =>
xIf v44
 (J5 [v1, v2, v7, v12, v13, v14] [c8, c10, c11] σ)
 (J2 [v7, v13] [c8] σ))

def w_law08_AllocShares_l9 (K : Value → Mem → Prop) (J2 : List Value → List (List Value) → Mem → Prop) (R1 : List Value → List (List Value) → Mem → Prop) (ts : List Value) (ls : List (List Value)) (σ : Mem) : Prop := w_law08_AllocShares_l9b K J2 R1 (ts.getD 0 poison) (ts.getD 1 poison) (ts.getD 2 poison) (ts.getD 3 poison) (ts.getD 4 poison) (ts.getD 5 poison) (ls.getD 0 []) (ls.getD 1 []) (ls.getD 2 []) σ

def w_law08_AllocShares_j1b (K : Value → Mem → Prop) (v1 v2 v7 v32 : Value) (c8 : List Value) (σ : Mem) : Prop :=
xIf v32
 (xF fMove [(.bool false)] fun v6 =>
K v6 σ)
 (xF (fBuild [(0, 1), (1, 1), (2, 1)] [(.pointer none), (.pointer none), (.pointer none)] []) [] fun v33 =>
xF (fBuild [(0, 1), (1, 1), (2, 1)] [(.int .i64 0), (.int .i64 0), (.int .i64 0)] []) [] fun v34 =>
xC (gStore 3 [(locP 10), v33] [(.pointer none), (.pointer none), (.pointer none)]) fun c10 =>
xC (gStore 3 [(locP 11), v34] [(.int .i64 0), (.int .i64 0), (.int .i64 0)]) fun c11 =>
hBuildS 2 0 [(.int .u64 0), (.int .i64 0)] [] [] (fun v35 σ =>
xF fMove [(.int .i64 0)] fun v12 =>
xF fMove [v35] fun v13 =>
xJoin (w_law08_AllocShares_j2 K) fun J2 =>
xF fMove [(.int .i64 0)] fun v14 =>
xLoop (w_law08_AllocShares_l9 K J2) [v1, v2, v7, v12, v13, v14] [c8, c10, c11] σ) σ)

def w_law08_AllocShares_j1 (K : Value → Mem → Prop) (ts : List Value) (ls : List (List Value)) (σ : Mem) : Prop := w_law08_AllocShares_j1b K (ts.getD 0 poison) (ts.getD 1 poison) (ts.getD 2 poison) (ts.getD 3 poison) (ls.getD 0 []) σ

def w_law08_AllocShares (a0 a1 a2 : Value) (K : Value → Mem → Prop) (σ : Mem) : Prop :=
xF fMove [(.bool false)] fun v6 =>
xF fMove [a0] fun v19 =>
xF (fBin .and .no) [v19, (.int .i64 7)] fun v20 =>
xF (fBin .add .no) [(.int .i64 1), v20] fun v21 =>
xF fMove [v21] fun v7 =>
xF fMove [v7] fun v23 =>
s_law04_Arena [(.int .i64 4), v23, (.int .i64 6), (.int .i64 20)] (fun v24 σ =>
xF fMove [v24] fun v22 =>
xF (fExt 0) [v22] fun v25 =>
xF (fExt 1) [v22] fun v26 =>
xC (gStore 9 [(locP 8), v25] [(.int .i64 0), (.int .i64 0), (.int .i64 0), (.int .i64 0), (.int .i64 0), (.int .i64 0), (.int .i64 0), (.pointer none), (.int .i64 0)]) fun c8 =>
xF fMove [v26] fun v9 =>
xJoin (w_law08_AllocShares_j1 K) fun J1 =>
s_law08_awake [] (fun v27 σ =>
xF (fUn .not) [v27] fun v28 =>
xF fMove [v28] fun v29 =>
xIf v29
 (xF fPick [(.bool true), (.bool true), undef] fun v32 =>
J1 [a1, a2, v7, v32] [c8] σ)
 (xF fMove [v9] fun v30 =>
xF (fUn .not) [v30] fun v31 =>
xF fPick [(.bool false), (.bool true), v31] fun v32 =>
J1 [a1, a2, v7, v32] [c8] σ)) σ) σ

def s_law08_AllocShares : Spec := fun args K σ => match args with
  | [a0, a1, a2] => w_law08_AllocShares a0 a1 a2 K σ
  | _ => False

noncomputable def cx_law08_AllocShares : Cx := { P := Try.prog, T := [(13, .write, s_law04_Arena), (31, .none, s_law08_awake), (34, .write, s_alloc_New), (35, .write, s_alloc_Alloc_Step), (33, .read, s_alloc_Alloc_Done), (39, .write, s_law08_sound)], loc := [(8, 8), (10, 10), (11, 11), (16, 16), (65, 10), (85, 11), (88, 11), (91, 10), (95, 10), (101, 10), (105, 10), (106, 16), (110, 16), (113, 11), (116, 116), (118, 16), (122, 16)], eqt := [(66, .ptr)], n := 165, keep := [(9, [1, 2, 7, 12, 13, 14], [8, 10, 11]), (27, [7, 13, 17], [8]), (32, [7, 13, 17, 18], [8]), (1000005, [1, 2, 7, 32], [8]), (1000010, [1, 2, 7, 12, 13, 14], [8, 10, 11]), (1000011, [1, 2, 7, 12, 13, 14], [8, 10, 11]), (1000013, [1, 2, 7, 12, 13, 14, 15, 56], [8, 10, 11]), (1000014, [1, 2, 7, 12, 13, 14, 15], [8, 10, 11]), (1000016, [1, 2, 7, 12, 13, 14, 15], [8, 10, 11]), (1000019, [1, 2, 7, 12, 13, 14, 15], [8, 10, 11]), (1000025, [1, 2, 7, 12, 13, 14, 125], [8, 10, 11]), (1000026, [7, 13], [8]), (1000028, [7, 13, 17], [8]), (1000036, [7, 13], [])] }
theorem q_law08_AllocShares : FnS cx_law08_AllocShares Try.f12 (bodyOf Try.f12) 3 = s_law08_AllocShares := by
  funext args K σ
  rcases args with _ | ⟨a0, _ | ⟨a1, _ | ⟨a2, _ | ⟨b, r⟩⟩⟩⟩ <;> kernel_rfl
theorem e_law08_AllocShares : Entry Try.prog 12 .write s_law08_AllocShares :=
  entry (C := cx_law08_AllocShares) (TOk.cons e_law04_Arena (TOk.cons e_law08_awake (TOk.cons e_alloc_New (TOk.cons e_alloc_Alloc_Step (TOk.cons e_alloc_Alloc_Done (TOk.cons e_law08_sound TOk.nil)))))) mixedOk Try.func12 (by kernel_rfl) (by kernel_rfl) (by kernel_rfl) q_law08_AllocShares


attribute [irreducible] w_law08_AllocShares_j3b w_law08_AllocShares_j3 w_law08_AllocShares_j4b w_law08_AllocShares_j4 w_law08_AllocShares_l32b w_law08_AllocShares_l32 w_law08_AllocShares_l27b w_law08_AllocShares_l27 w_law08_AllocShares_j2b w_law08_AllocShares_j2 w_law08_AllocShares_j6b w_law08_AllocShares_j6 w_law08_AllocShares_j9b w_law08_AllocShares_j9 w_law08_AllocShares_j8b w_law08_AllocShares_j8 w_law08_AllocShares_j10b w_law08_AllocShares_j10 w_law08_AllocShares_j7b w_law08_AllocShares_j7 w_law08_AllocShares_j11b w_law08_AllocShares_j11 w_law08_AllocShares_j5b w_law08_AllocShares_j5 w_law08_AllocShares_l9b w_law08_AllocShares_l9 w_law08_AllocShares_j1b w_law08_AllocShares_j1 w_law08_AllocShares s_law08_AllocShares

end Go.Fl
