/- What the claim leans on, part 2: own readings of the program's functions, what they come to, laws of them. No condition. -/
import Derived.Test.YtnigcfbenalehaaZMoveDrops1
namespace Go.Fl
open Go Go.Proofs
set_option linter.unusedVariables false
set_option maxRecDepth 10000000
def w_cj (a0 a1 : Value) (K : Value → Mem → Prop) (σ : Mem) : Prop :=
xC (gBox 9 [a1] []) fun c3 =>
xF fMove [.bool false] fun v4 =>
xF fMove [a0] fun v5 =>
xF fMove [a0] fun v6 =>
xF fMove [a0] fun v7 =>
xF fNil [v7] fun v8 =>
xF (fFld 3) [v8] fun v9 =>
hLoad 1 false [v9] (fun v10 σ =>
xF (fBin .add .no) [v10, .int .i64 1] fun v11 =>
xF fNil [v5] fun v12 =>
xF (fFld 3) [v12] fun v13 =>
hStore 1 [v13, v11] (fun _v σ =>
xF fNil [v6] fun v14 =>
xF (fFld 1) [v14] fun v15 =>
hStore 1 [v15, .int .i64 3] (fun _v σ =>
xF fMove [a0] fun v16 =>
xF fNil [v16] fun v17 =>
xF (fFld 3) [v17] fun v18 =>
hLoad 1 false [v18] (fun v19 σ =>
xF (fFld 0) [(locP 3)] fun v20 =>
xF (fFld 2) [v20] fun v21 =>
xO (gLoad 1 false [v21] c3) fun v22 =>
xF (fBin .geq .no) [v19, v22] fun v23 =>
xF fMove [v23] fun v4 =>
K v4 σ) σ) σ) σ) σ
def s_cj : Spec := fun args K σ => match args with
  | [a0, a1] => w_cj a0 a1 K σ
  | _ => False
noncomputable def cx_cj : Cx := { P := Try.prog, T := [], loc := [(3, 3), (20, 3), (21, 3)], eqt := [], n := 24, keep := [] }
theorem q_cj : FnS cx_cj Try.f79 (bodyOf Try.f79) 2 = s_cj := by
  funext args K σ
  rcases args with _ | ⟨a0, _ | ⟨a1, _ | ⟨b, r⟩⟩⟩ <;> kernel_rfl
theorem e_cj : Entry Try.prog 79 .write s_cj :=
  entry (C := cx_cj) TOk.nil mixedOk Try.func79 (by kernel_rfl) (by kernel_rfl) (by kernel_rfl) q_cj
def xl_cj : List (Nat × Nat) := [(3, 3), (20, 3), (21, 3)]
noncomputable def xc_cj : XC XN :=
(.seq none
 (.reg [zy xl_cj (.lb 3 9) 3 [.tmp 1],
  zc 4 (.bool false)])
 (.seq none
 (.reg [zM 5 0,
  zM 6 0,
  zM 7 0,
  zN 8 7,
  zF 3 9 8,
  zL 10 9,
  zb .add rAdd 11 [.tmp 10, .const (.int .i64 1)],
  zN 12 5,
  zF 3 13 12,
  zS [.tmp 13, .tmp 11],
  zN 14 6,
  zF 1 15 14,
  zS [.tmp 15, .const (.int .i64 3)]])
 (.seq none
 (.reg [zM 16 0,
  zN 17 16,
  zF 3 18 17,
  zL 19 18,
  zF 0 20 3,
  zF 2 21 20,
  zr 3 22 21,
  zb .geq rGeq 23 [.tmp 19, .tmp 22],
  zM 4 23])
 .ret)))
noncomputable def v_cj : EvF := evFn 2 xc_cj [.t 4]
theorem xt_cj : toC cx_cj (bodyOf Try.f79) = some (xc_cj.map XN.sm) := by kernel_rfl
theorem xr_cj : toR cx_cj Try.f79.results.toList = some [.t 4] := by kernel_rfl
theorem xo_cj : xc_cj.ok xl_cj := ⟨⟨rAny_ok (trivial), rMove_ok, trivial⟩, ⟨⟨rMove_ok, rMove_ok, rMove_ok, rNil_ok, rFld_ok _, rLoad1_ok, rAdd_ok, rNil_ok, rFld_ok _, rStore1_ok, rNil_ok, rFld_ok _, rStore1_ok, trivial⟩, ⟨⟨rMove_ok, rNil_ok, rFld_ok _, rLoad1_ok, rFld_ok _, rFld_ok _, rLr1_ok _, rGeq_ok, rMove_ok, trivial⟩, trivial⟩⟩⟩
theorem ve_cj : EvOk s_cj v_cj := EvOk.of (evFn_sound (C := cx_cj) xt_cj xr_cj xo_cj) q_cj
attribute [irreducible] w_cj s_cj
def w_ch (a0 : Value) (K : Value → Mem → Prop) (σ : Mem) : Prop :=
xF fMove [.int .u64 0] fun v2 =>
xF fMove [a0] fun v3 =>
xF fNil [v3] fun v4 =>
xF (fFld 0) [v4] fun v5 =>
hLoad 1 false [v5] (fun v6 σ =>
xF fMove [a0] fun v7 =>
xF fNil [v7] fun v8 =>
xF (fFld 4) [v8] fun v9 =>
hLoad 1 false [v9] (fun v10 σ =>
s_cq [v10] (fun v11 σ =>
xF (fFldV 3 1 false) [v11] fun v12 =>
xF (fBin .add .no) [v12, .int .i64 1] fun v13 =>
xF (fBuild [(0, 1), (1, 1), (2, 1), (3, 1)] [.int .i64 0, .int .i64 0, .int .i64 0, .int .i64 0] [0, 1, 3]) [.int .i64 1, v6, v13] fun v14 =>
s_cu [v14] (fun v15 σ =>
xF fMove [v15] fun v2 =>
K v2 σ) σ) σ) σ) σ
def s_ch : Spec := fun args K σ => match args with
  | [a0] => w_ch a0 K σ
  | _ => False
noncomputable def cx_ch : Cx := { P := Try.prog, T := [(23, .none, s_cq), (26, .none, s_cu)], loc := [], eqt := [], n := 16, keep := [] }
theorem q_ch : FnS cx_ch Try.f80 (bodyOf Try.f80) 1 = s_ch := by
  funext args K σ
  rcases args with _ | ⟨a0, _ | ⟨b, r⟩⟩ <;> kernel_rfl
theorem e_ch : Entry Try.prog 80 .read s_ch :=
  entry (C := cx_ch) (TOk.cons e_cq (TOk.cons e_cu TOk.nil)) mixedOk Try.func80 (by kernel_rfl) (by kernel_rfl) (by kernel_rfl) q_ch
def xl_ch : List (Nat × Nat) := []
noncomputable def xc_ch : XC XN :=
(.seq none
 (.reg [zc 2 (.int .u64 0)])
 (.seq none
 (.reg [zM 3 0,
  zN 4 3,
  zF 0 5 4,
  zL 6 5,
  zM 7 0,
  zN 8 7,
  zF 4 9 8,
  zL 10 9,
  zk .none s_cq v_cq 11 [.tmp 10],
  zy xl_ch (.f (fFldV 3 1 false)) 12 [.tmp 11],
  zb .add rAdd 13 [.tmp 12, .const (.int .i64 1)],
  zy xl_ch (.f (fBuild [(0, 1), (1, 1), (2, 1), (3, 1)] [.int .i64 0, .int .i64 0, .int .i64 0, .int .i64 0] [0, 1, 3])) 14 [.const (.int .i64 1), .tmp 6, .tmp 13],
  zk .none s_cu v_cu 15 [.tmp 14],
  zM 2 15])
 .ret))
noncomputable def v_ch : EvF := evFn 1 xc_ch [.t 2]
theorem xt_ch : toC cx_ch (bodyOf Try.f80) = some (xc_ch.map XN.sm) := by kernel_rfl
theorem xr_ch : toR cx_ch Try.f80.results.toList = some [.t 2] := by kernel_rfl
theorem xo_ch : xc_ch.ok xl_ch := ⟨⟨rMove_ok, trivial⟩, ⟨⟨rMove_ok, rNil_ok, rFld_ok _, rLoad1_ok, rMove_ok, rNil_ok, rFld_ok _, rLoad1_ok, rCall_ok ve_cq, rAny_ok (eqv_fldV _ _ _), rAdd_ok, rAny_ok (eqv_build _ rfl _), rCall_ok ve_cu, rMove_ok, trivial⟩, trivial⟩⟩
theorem ve_ch : EvOk s_ch v_ch := EvOk.of (evFn_sound (C := cx_ch) xt_ch xr_ch xo_ch) q_ch
attribute [irreducible] w_ch s_ch
def w_cg_j1b (K : Value → Mem → Prop) (σ : Mem) : Prop :=
xF fMove [.bool false] fun v4 =>
K v4 σ
def w_cg_j1 (K : Value → Mem → Prop) (ts : List Value) (ls : List (List Value)) (σ : Mem) : Prop := w_cg_j1b K σ
def w_cg_j2b (K : Value → Mem → Prop) (J1 : List Value → List (List Value) → Mem → Prop) (v0 v117 : Value) (σ : Mem) : Prop :=
xIf v117
 (xF fMove [v0] fun v118 =>
xF fMove [v0] fun v119 =>
xF fNil [v118] fun v120 =>
xF (fFld 3) [v120] fun v121 =>
hStore 1 [v121, .int .i64 0] (fun _v σ =>
xF fNil [v119] fun v122 =>
xF (fFld 1) [v122] fun v123 =>
hStore 1 [v123, .int .i64 3] (fun _v σ =>
J1 [] [] σ) σ) σ)
 (J1 [] [] σ)
def w_cg_j2 (K : Value → Mem → Prop) (J1 : List Value → List (List Value) → Mem → Prop) (ts : List Value) (ls : List (List Value)) (σ : Mem) : Prop := w_cg_j2b K J1 (ts.getD 0 poison) (ts.getD 1 poison) σ
def w_cg (a0 a1 : Value) (K : Value → Mem → Prop) (σ : Mem) : Prop :=
xC (gBox 9 [a1] []) fun c3 =>
xF fMove [.bool false] fun v4 =>
xJoin (w_cg_j1 K) fun J1 =>
xF fMove [a0] fun v7 =>
xF fNil [v7] fun v8 =>
xF (fFld 1) [v8] fun v9 =>
hLoad 1 false [v9] (fun v10 σ =>
xF (fBin .eql .no) [v10, .int .i64 0] fun v36 =>
xF fMove [v36] fun v35 =>
xIf v35
 (xF fMove [a0] fun v37 =>
xO (gLoad 9 true [(locP 3)] c3) fun v38 =>
xF fMove [a0] fun v39 =>
xF fNil [v39] fun v40 =>
xF (fFld 0) [v40] fun v41 =>
hLoad 1 false [v41] (fun v42 σ =>
s_bn [v42] (fun v43 σ =>
s_bh [v38, v43] (fun v44 σ =>
xF fNil [v37] fun v45 =>
xF (fFld 2) [v45] fun v46 =>
hStore 1 [v46, v44] (fun _v σ =>
xF fMove [a0] fun v47 =>
xF fMove [a0] fun v48 =>
xF fMove [a0] fun v49 =>
xF fNil [v49] fun v50 =>
xF (fFld 2) [v50] fun v51 =>
hLoad 1 false [v51] (fun v52 σ =>
xF (fConv .i64) [v52] fun v53 =>
xF (fBin .sub .no) [v53, .int .i64 1] fun v54 =>
xF fNil [v47] fun v55 =>
xF (fFld 3) [v55] fun v56 =>
hStore 1 [v56, v54] (fun _v σ =>
xF fNil [v48] fun v57 =>
xF (fFld 1) [v57] fun v58 =>
hStore 1 [v58, .int .i64 1] (fun _v σ =>
xF fMove [a0] fun v59 =>
xF fNil [v59] fun v60 =>
xF (fFld 3) [v60] fun v61 =>
hLoad 1 false [v61] (fun v62 σ =>
xF (fBin .lss .no) [v62, .int .i64 0] fun v63 =>
xIf v63
 (xF fMove [a0] fun v64 =>
xF fMove [a0] fun v65 =>
xF fNil [v64] fun v66 =>
xF (fFld 3) [v66] fun v67 =>
hStore 1 [v67, .int .i64 0] (fun _v σ =>
xF fNil [v65] fun v68 =>
xF (fFld 1) [v68] fun v69 =>
hStore 1 [v69, .int .i64 3] (fun _v σ =>
J1 [] [] σ) σ) σ)
 (J1 [] [] σ)) σ) σ) σ) σ) σ) σ) σ) σ)
 (xF (fBin .eql .no) [v10, .int .i64 1] fun v71 =>
xF fMove [v71] fun v70 =>
xIf v70
 (xF fMove [a0] fun v72 =>
xO (gLoad 9 true [(locP 3)] c3) fun v73 =>
xF (fFld 0) [(locP 3)] fun v74 =>
xO (gLoad 7 true [v74] c3) fun v75 =>
xF fMove [a0] fun v76 =>
xF fNil [v76] fun v77 =>
xF (fFld 3) [v77] fun v78 =>
hLoad 1 false [v78] (fun v79 σ =>
s_bd [v75, v79] (fun v80 σ =>
s_bh [v73, v80] (fun v81 σ =>
xF fNil [v72] fun v82 =>
xF (fFld 4) [v82] fun v83 =>
hStore 1 [v83, v81] (fun _v σ =>
xF fMove [a0] fun v84 =>
xF fNil [v84] fun v85 =>
xF (fFld 4) [v85] fun v86 =>
hLoad 1 false [v86] (fun v87 σ =>
s_cq [v87] (fun v88 σ =>
xC (gStore 4 [(locP 5), v88] [.int .i64 0, .int .i64 0, .int .i64 0, .int .i64 0]) fun c5 =>
xF fMove [a0] fun v89 =>
xF fNil [v89] fun v90 =>
xF (fFld 1) [v90] fun v91 =>
hStore 1 [v91, .int .i64 2] (fun _v σ =>
xJoin (w_cg_j2 K J1) fun J2 =>
xF (fFld 0) [(locP 5)] fun v92 =>
xO (gLoad 1 false [v92] c5) fun v93 =>
xF (fBin .neq .no) [v93, .int .i64 1] fun v94 =>
xF fMove [v94] fun v95 =>
xIf v95
 (xF fPick [.bool true, .bool true, undef] fun v103 =>
xF fMove [v103] fun v104 =>
xIf v104
 (xF fPick [.bool true, .bool true, undef] fun v117 =>
J2 [a0, v117] [] σ)
 (xF (fFld 2) [(locP 5)] fun v105 =>
xO (gLoad 1 false [v105] c5) fun v106 =>
xF fMove [a0] fun v107 =>
xF fNil [v107] fun v108 =>
xF (fFld 0) [v108] fun v109 =>
hLoad 1 false [v109] (fun v110 σ =>
s_bo [v110] (fun v111 σ =>
xF (fBin .add .no) [v106, v111] fun v112 =>
xF (fFld 0) [(locP 3)] fun v113 =>
xF (fFld 3) [v113] fun v114 =>
xO (gLoad 1 false [v114] c3) fun v115 =>
xF (fBin .gtr .no) [v112, v115] fun v116 =>
xF fPick [.bool false, .bool true, v116] fun v117 =>
J2 [a0, v117] [] σ) σ) σ))
 (xF (fFld 1) [(locP 5)] fun v96 =>
xO (gLoad 1 false [v96] c5) fun v97 =>
xF fMove [a0] fun v98 =>
xF fNil [v98] fun v99 =>
xF (fFld 0) [v99] fun v100 =>
hLoad 1 false [v100] (fun v101 σ =>
xF (fBin .neq .no) [v97, v101] fun v102 =>
xF fPick [.bool false, .bool true, v102] fun v103 =>
xF fMove [v103] fun v104 =>
xIf v104
 (xF fPick [.bool true, .bool true, undef] fun v117 =>
J2 [a0, v117] [] σ)
 (xF (fFld 2) [(locP 5)] fun v105 =>
xO (gLoad 1 false [v105] c5) fun v106 =>
xF fMove [a0] fun v107 =>
xF fNil [v107] fun v108 =>
xF (fFld 0) [v108] fun v109 =>
hLoad 1 false [v109] (fun v110 σ =>
s_bo [v110] (fun v111 σ =>
xF (fBin .add .no) [v106, v111] fun v112 =>
xF (fFld 0) [(locP 3)] fun v113 =>
xF (fFld 3) [v113] fun v114 =>
xO (gLoad 1 false [v114] c3) fun v115 =>
xF (fBin .gtr .no) [v112, v115] fun v116 =>
xF fPick [.bool false, .bool true, v116] fun v117 =>
J2 [a0, v117] [] σ) σ) σ)) σ)) σ) σ) σ) σ) σ) σ) σ)
 (xF (fBin .eql .no) [v10, .int .i64 2] fun v125 =>
xF fMove [v125] fun v124 =>
xIf v124
 (xF fMove [a0] fun v126 =>
xO (gLoad 9 true [(locP 3)] c3) fun v127 =>
s_ci [v126, v127] (fun v128 σ =>
xF fMove [v128] fun v4 =>
K v4 σ) σ)
 (xF (fBin .eql .no) [v10, .int .i64 3] fun v130 =>
xF fMove [v130] fun v129 =>
xIf v129
 (xF fMove [a0] fun v131 =>
xO (gLoad 9 true [(locP 3)] c3) fun v132 =>
xF (fFld 0) [(locP 3)] fun v133 =>
xO (gLoad 7 true [v133] c3) fun v134 =>
xF fMove [a0] fun v135 =>
xF fNil [v135] fun v136 =>
xF (fFld 3) [v136] fun v137 =>
hLoad 1 false [v137] (fun v138 σ =>
s_bd [v134, v138] (fun v139 σ =>
s_bh [v132, v139] (fun v140 σ =>
xF fNil [v131] fun v141 =>
xF (fFld 4) [v141] fun v142 =>
hStore 1 [v142, v140] (fun _v σ =>
xF fMove [a0] fun v143 =>
xF fNil [v143] fun v144 =>
xF (fFld 4) [v144] fun v145 =>
hLoad 1 false [v145] (fun v146 σ =>
s_cq [v146] (fun v147 σ =>
xF (fFldV 0 1 false) [v147] fun v148 =>
xF (fBin .neq .no) [v148, .int .i64 0] fun v149 =>
xIf v149
 (xF fMove [a0] fun v150 =>
xO (gLoad 9 true [(locP 3)] c3) fun v151 =>
s_cj [v150, v151] (fun v152 σ =>
xF fMove [v152] fun v4 =>
K v4 σ) σ)
 (xF fMove [a0] fun v153 =>
xF fNil [v153] fun v154 =>
xF (fFld 1) [v154] fun v155 =>
hStore 1 [v155, .int .i64 4] (fun _v σ =>
J1 [] [] σ) σ)) σ) σ) σ) σ) σ) σ)
 (xF (fBin .eql .no) [v10, .int .i64 4] fun v157 =>
xF fMove [v157] fun v156 =>
xIf v156
 (xO (gLoad 9 true [(locP 3)] c3) fun v158 =>
xF (fFld 0) [(locP 3)] fun v159 =>
xO (gLoad 7 true [v159] c3) fun v160 =>
xF fMove [a0] fun v161 =>
xF fNil [v161] fun v162 =>
xF (fFld 3) [v162] fun v163 =>
hLoad 1 false [v163] (fun v164 σ =>
s_bd [v160, v164] (fun v165 σ =>
xF fMove [a0] fun v166 =>
xF fNil [v166] fun v167 =>
xF (fFld 4) [v167] fun v168 =>
hLoad 1 false [v168] (fun v169 σ =>
xF fMove [a0] fun v170 =>
s_ch [v170] (fun v171 σ =>
s_bg [v158, v165, v169, v171] (fun v172 σ =>
xF (fUn .not) [v172] fun v173 =>
xIf v173
 (xF fMove [a0] fun v174 =>
xO (gLoad 9 true [(locP 3)] c3) fun v175 =>
s_cj [v174, v175] (fun v176 σ =>
xF fMove [v176] fun v4 =>
K v4 σ) σ)
 (xF fMove [a0] fun v177 =>
xF fNil [v177] fun v178 =>
xF (fFld 1) [v178] fun v179 =>
hStore 1 [v179, .int .i64 5] (fun _v σ =>
J1 [] [] σ) σ)) σ) σ) σ) σ) σ)
 (xF (fBin .eql .no) [v10, .int .i64 5] fun v181 =>
xF fMove [v181] fun v180 =>
xIf v180
 (xF fMove [a0] fun v182 =>
xF fNil [v182] fun v183 =>
xF (fFld 1) [v183] fun v184 =>
hStore 1 [v184, .int .i64 6] (fun _v σ =>
xO (gLoad 9 true [(locP 3)] c3) fun v185 =>
xF fMove [a0] fun v186 =>
xF fNil [v186] fun v187 =>
xF (fFld 0) [v187] fun v188 =>
hLoad 1 false [v188] (fun v189 σ =>
s_bn [v189] (fun v190 σ =>
xF fMove [a0] fun v191 =>
xF fNil [v191] fun v192 =>
xF (fFld 2) [v192] fun v193 =>
hLoad 1 false [v193] (fun v194 σ =>
xF fMove [a0] fun v195 =>
xF fNil [v195] fun v196 =>
xF (fFld 3) [v196] fun v197 =>
hLoad 1 false [v197] (fun v198 σ =>
xF (fBin .add .no) [v198, .int .i64 1] fun v199 =>
xF (fConv .u64) [v199] fun v200 =>
s_bg [v185, v190, v194, v200] (fun v201 σ =>
xIf v201
 (xF fMove [a0] fun v202 =>
xF fNil [v202] fun v203 =>
xF (fFld 1) [v203] fun v204 =>
hStore 1 [v204, .int .i64 0] (fun _v σ =>
J1 [] [] σ) σ)
 (J1 [] [] σ)) σ) σ) σ) σ) σ) σ)
 (xF fMove [a0] fun v11 =>
xF fNil [v11] fun v12 =>
xF (fFld 4) [v12] fun v13 =>
hLoad 1 false [v13] (fun v14 σ =>
s_cq [v14] (fun v15 σ =>
xF (fFldV 3 1 false) [v15] fun v16 =>
xF (fBin .add .no) [v16, .int .i64 2] fun v17 =>
xF (fBuild [(0, 1), (1, 1), (2, 1), (3, 1)] [.int .i64 0, .int .i64 0, .int .i64 0, .int .i64 0] [3]) [v17] fun v18 =>
s_cu [v18] (fun v19 σ =>
xF fMove [v19] fun v6 =>
xO (gLoad 9 true [(locP 3)] c3) fun v20 =>
xF (fFld 0) [(locP 3)] fun v21 =>
xO (gLoad 7 true [v21] c3) fun v22 =>
xF fMove [a0] fun v23 =>
xF fNil [v23] fun v24 =>
xF (fFld 3) [v24] fun v25 =>
hLoad 1 false [v25] (fun v26 σ =>
s_bd [v22, v26] (fun v27 σ =>
xF fMove [a0] fun v28 =>
s_ch [v28] (fun v29 σ =>
xF fMove [v6] fun v30 =>
s_bg [v20, v27, v29, v30] (fun v31 σ =>
xF fMove [a0] fun v32 =>
xF fNil [v32] fun v33 =>
xF (fFld 1) [v33] fun v34 =>
hStore 1 [v34, .int .i64 0] (fun _v σ =>
J1 [] [] σ) σ) σ) σ) σ) σ) σ) σ) σ))))))) σ
def s_cg : Spec := fun args K σ => match args with
  | [a0, a1] => w_cg a0 a1 K σ
  | _ => False
noncomputable def cx_cg : Cx := { P := Try.prog, T := [(77, .none, s_bn), (51, .write, s_bh), (21, .none, s_bd), (23, .none, s_cq), (30, .none, s_bo), (78, .write, s_ci), (79, .write, s_cj), (80, .read, s_ch), (48, .write, s_bg), (26, .none, s_cu)], loc := [(3, 3), (5, 5), (21, 3), (74, 3), (92, 5), (96, 5), (105, 5), (113, 3), (114, 3), (133, 3), (159, 3)], eqt := [], n := 205, keep := [(1000016, [0, 117], []), (1000032, [], [])] }
theorem q_cg : FnS cx_cg Try.f43 (bodyOf Try.f43) 2 = s_cg := by
  funext args K σ
  rcases args with _ | ⟨a0, _ | ⟨a1, _ | ⟨b, r⟩⟩⟩ <;> kernel_rfl
theorem e_cg : Entry Try.prog 43 .write s_cg :=
  entry (C := cx_cg) (TOk.cons e_bn (TOk.cons e_bh (TOk.cons e_bd (TOk.cons e_cq (TOk.cons e_bo (TOk.cons e_ci (TOk.cons e_cj (TOk.cons e_ch (TOk.cons e_bg (TOk.cons e_cu TOk.nil)))))))))) mixedOk Try.func43 (by kernel_rfl) (by kernel_rfl) (by kernel_rfl) q_cg
def xl_cg : List (Nat × Nat) := [(3, 3), (5, 5), (21, 3), (74, 3), (92, 5), (96, 5), (105, 5), (113, 3), (114, 3), (133, 3), (159, 3)]
noncomputable def xc_cg : XC XN :=
(.seq none
 (.reg [zy xl_cg (.lb 3 9) 3 [.tmp 1],
  zc 4 (.bool false)])
 (.seq (some ([], []))
 (.seq none
 (.reg [zM 7 0,
  zN 8 7,
  zF 1 9 8,
  zL 10 9])
 (.block 0
 (.seq none
 (.reg [zb .eql rEql 36 [.tmp 10, .const (.int .i64 0)],
  zM 35 36])
 (.cond (.tmp 35)
 (.seq none
 (.reg [zM 37 0,
  zy xl_cg (.lr 3 9 true) 38 [.tmp 3],
  zM 39 0,
  zN 40 39,
  zF 0 41 40,
  zL 42 41,
  zk .none s_bn v_bn 43 [.tmp 42],
  zk .write s_bh v_bh 44 [.tmp 38, .tmp 43],
  zN 45 37,
  zF 2 46 45,
  zS [.tmp 46, .tmp 44]])
 (.seq none
 (.reg [zM 47 0,
  zM 48 0,
  zM 49 0,
  zN 50 49,
  zF 2 51 50,
  zL 52 51,
  zz (.f (fConv .i64)) (rConv .i64) (some 53) [.tmp 52],
  zb .sub rSub 54 [.tmp 53, .const (.int .i64 1)],
  zN 55 47,
  zF 3 56 55,
  zS [.tmp 56, .tmp 54],
  zN 57 48,
  zF 1 58 57,
  zS [.tmp 58, .const (.int .i64 1)]])
 (.seq none
 (.reg [zM 59 0,
  zN 60 59,
  zF 3 61 60,
  zL 62 61,
  zb .lss rLss 63 [.tmp 62, .const (.int .i64 0)]])
 (.cond (.tmp 63)
 (.reg [zM 64 0,
  zM 65 0,
  zN 66 64,
  zF 3 67 66,
  zS [.tmp 67, .const (.int .i64 0)],
  zN 68 65,
  zF 1 69 68,
  zS [.tmp 69, .const (.int .i64 3)]])
 .skip))))
 (.seq none
 (.reg [zb .eql rEql 71 [.tmp 10, .const (.int .i64 1)],
  zM 70 71])
 (.cond (.tmp 70)
 (.seq none
 (.reg [zM 72 0,
  zy xl_cg (.lr 3 9 true) 73 [.tmp 3],
  zF 0 74 3,
  zy xl_cg (.lr 3 7 true) 75 [.tmp 74],
  zM 76 0,
  zN 77 76,
  zF 3 78 77,
  zL 79 78,
  zk .none s_bd v_bd 80 [.tmp 75, .tmp 79],
  zk .write s_bh v_bh 81 [.tmp 73, .tmp 80],
  zN 82 72,
  zF 4 83 82,
  zS [.tmp 83, .tmp 81]])
 (.seq none
 (.reg [zM 84 0,
  zN 85 84,
  zF 4 86 85,
  zL 87 86,
  zk .none s_cq v_cq 88 [.tmp 87],
  zy xl_cg (.la 5 [.int .i64 0, .int .i64 0, .int .i64 0, .int .i64 0]) 5 [],
  zY xl_cg (.ls 5 4) [.tmp 5, .tmp 88]])
 (.seq none
 (.reg [zM 89 0,
  zN 90 89,
  zF 1 91 90,
  zS [.tmp 91, .const (.int .i64 2)]])
 (.seq (some ([0, 117], []))
 (.reg [zF 0 92 5,
  zr 5 93 92,
  zb .neq rNeq 94 [.tmp 93, .const (.int .i64 1)],
  zM 95 94,
  ⟨(some (4, 3, false, some 95)), some 96, [.tmp 5], ⟨.f (fFld 1), rFld 1⟩⟩,
  ⟨(some (5, 3, false, some 95)), some 97, [.tmp 96], ⟨.lr 5 1 false, rLr1 5⟩⟩,
  ⟨(some (6, 3, false, some 95)), some 98, [.tmp 0], ⟨.f fMove, rMove⟩⟩,
  ⟨(some (7, 3, false, some 95)), some 99, [.tmp 98], ⟨.f fNil, rNil⟩⟩,
  ⟨(some (8, 3, false, some 95)), some 100, [.tmp 99], ⟨.f (fFld 0), rFld 0⟩⟩,
  ⟨(some (9, 3, false, some 95)), some 101, [.tmp 100], ⟨.load 1 false, rLoad1⟩⟩,
  ⟨(some (10, 3, false, some 95)), some 102, [.tmp 97, .tmp 101], ⟨.f (fBin .neq .no), rNeq⟩⟩,
  zz (.f fPick) rPick (some 103) [.tmp 95, .const (.bool true), .tmp 102],
  zM 104 103,
  ⟨(some (13, 12, false, some 104)), some 105, [.tmp 5], ⟨.f (fFld 2), rFld 2⟩⟩,
  ⟨(some (14, 12, false, some 104)), some 106, [.tmp 105], ⟨.lr 5 1 false, rLr1 5⟩⟩,
  ⟨(some (15, 12, false, some 104)), some 107, [.tmp 0], ⟨.f fMove, rMove⟩⟩,
  ⟨(some (16, 12, false, some 104)), some 108, [.tmp 107], ⟨.f fNil, rNil⟩⟩,
  ⟨(some (17, 12, false, some 104)), some 109, [.tmp 108], ⟨.f (fFld 0), rFld 0⟩⟩,
  ⟨(some (18, 12, false, some 104)), some 110, [.tmp 109], ⟨.load 1 false, rLoad1⟩⟩,
  ⟨(some (19, 12, false, some 104)), some 111, [.tmp 110], ⟨.call .none s_bo v_bo, rCall v_bo⟩⟩,
  ⟨(some (20, 12, false, some 104)), some 112, [.tmp 106, .tmp 111], ⟨.f (fBin .add .no), rAdd⟩⟩,
  ⟨(some (21, 12, false, some 104)), some 113, [.tmp 3], ⟨.f (fFld 0), rFld 0⟩⟩,
  ⟨(some (22, 12, false, some 104)), some 114, [.tmp 113], ⟨.f (fFld 3), rFld 3⟩⟩,
  ⟨(some (23, 12, false, some 104)), some 115, [.tmp 114], ⟨.lr 3 1 false, rLr1 3⟩⟩,
  ⟨(some (24, 12, false, some 104)), some 116, [.tmp 112, .tmp 115], ⟨.f (fBin .gtr .no), rGtr⟩⟩,
  zz (.f fPick) rPick (some 117) [.tmp 104, .const (.bool true), .tmp 116]])
 (.cond (.tmp 117)
 (.reg [zM 118 0,
  zM 119 0,
  zN 120 118,
  zF 3 121 120,
  zS [.tmp 121, .const (.int .i64 0)],
  zN 122 119,
  zF 1 123 122,
  zS [.tmp 123, .const (.int .i64 3)]])
 .skip)))))
 (.seq none
 (.reg [zb .eql rEql 125 [.tmp 10, .const (.int .i64 2)],
  zM 124 125])
 (.cond (.tmp 124)
 (.seq none
 (.reg [zM 126 0,
  zy xl_cg (.lr 3 9 true) 127 [.tmp 3],
  zk .write s_ci v_ci 128 [.tmp 126, .tmp 127],
  zM 4 128])
 .ret)
 (.seq none
 (.reg [zb .eql rEql 130 [.tmp 10, .const (.int .i64 3)],
  zM 129 130])
 (.cond (.tmp 129)
 (.seq none
 (.reg [zM 131 0,
  zy xl_cg (.lr 3 9 true) 132 [.tmp 3],
  zF 0 133 3,
  zy xl_cg (.lr 3 7 true) 134 [.tmp 133],
  zM 135 0,
  zN 136 135,
  zF 3 137 136,
  zL 138 137,
  zk .none s_bd v_bd 139 [.tmp 134, .tmp 138],
  zk .write s_bh v_bh 140 [.tmp 132, .tmp 139],
  zN 141 131,
  zF 4 142 141,
  zS [.tmp 142, .tmp 140]])
 (.seq none
 (.seq none
 (.reg [zM 143 0,
  zN 144 143,
  zF 4 145 144,
  zL 146 145,
  zk .none s_cq v_cq 147 [.tmp 146],
  zy xl_cg (.f (fFldV 0 1 false)) 148 [.tmp 147],
  zb .neq rNeq 149 [.tmp 148, .const (.int .i64 0)]])
 (.cond (.tmp 149)
 (.seq none
 (.reg [zM 150 0,
  zy xl_cg (.lr 3 9 true) 151 [.tmp 3],
  zk .write s_cj v_cj 152 [.tmp 150, .tmp 151],
  zM 4 152])
 .ret)
 .skip))
 (.reg [zM 153 0,
  zN 154 153,
  zF 1 155 154,
  zS [.tmp 155, .const (.int .i64 4)]])))
 (.seq none
 (.reg [zb .eql rEql 157 [.tmp 10, .const (.int .i64 4)],
  zM 156 157])
 (.cond (.tmp 156)
 (.seq none
 (.seq none
 (.reg [zy xl_cg (.lr 3 9 true) 158 [.tmp 3],
  zF 0 159 3,
  zy xl_cg (.lr 3 7 true) 160 [.tmp 159],
  zM 161 0,
  zN 162 161,
  zF 3 163 162,
  zL 164 163,
  zk .none s_bd v_bd 165 [.tmp 160, .tmp 164],
  zM 166 0,
  zN 167 166,
  zF 4 168 167,
  zL 169 168,
  zM 170 0,
  zk .read s_ch v_ch 171 [.tmp 170],
  zk .write s_bg v_bg 172 [.tmp 158, .tmp 165, .tmp 169, .tmp 171],
  zz (.f (fUn .not)) rNot (some 173) [.tmp 172]])
 (.cond (.tmp 173)
 (.seq none
 (.reg [zM 174 0,
  zy xl_cg (.lr 3 9 true) 175 [.tmp 3],
  zk .write s_cj v_cj 176 [.tmp 174, .tmp 175],
  zM 4 176])
 .ret)
 .skip))
 (.reg [zM 177 0,
  zN 178 177,
  zF 1 179 178,
  zS [.tmp 179, .const (.int .i64 5)]]))
 (.seq none
 (.reg [zb .eql rEql 181 [.tmp 10, .const (.int .i64 5)],
  zM 180 181])
 (.cond (.tmp 180)
 (.seq none
 (.reg [zM 182 0,
  zN 183 182,
  zF 1 184 183,
  zS [.tmp 184, .const (.int .i64 6)]])
 (.seq none
 (.reg [zy xl_cg (.lr 3 9 true) 185 [.tmp 3],
  zM 186 0,
  zN 187 186,
  zF 0 188 187,
  zL 189 188,
  zk .none s_bn v_bn 190 [.tmp 189],
  zM 191 0,
  zN 192 191,
  zF 2 193 192,
  zL 194 193,
  zM 195 0,
  zN 196 195,
  zF 3 197 196,
  zL 198 197,
  zb .add rAdd 199 [.tmp 198, .const (.int .i64 1)],
  zz (.f (fConv .u64)) (rConv .u64) (some 200) [.tmp 199],
  zk .write s_bg v_bg 201 [.tmp 185, .tmp 190, .tmp 194, .tmp 200]])
 (.cond (.tmp 201)
 (.reg [zM 202 0,
  zN 203 202,
  zF 1 204 203,
  zS [.tmp 204, .const (.int .i64 0)]])
 .skip)))
 (.seq none
 (.reg [zM 11 0,
  zN 12 11,
  zF 4 13 12,
  zL 14 13,
  zk .none s_cq v_cq 15 [.tmp 14],
  zy xl_cg (.f (fFldV 3 1 false)) 16 [.tmp 15],
  zb .add rAdd 17 [.tmp 16, .const (.int .i64 2)],
  zy xl_cg (.f (fBuild [(0, 1), (1, 1), (2, 1), (3, 1)] [.int .i64 0, .int .i64 0, .int .i64 0, .int .i64 0] [3])) 18 [.tmp 17],
  zk .none s_cu v_cu 19 [.tmp 18],
  zM 6 19])
 (.seq none
 (.reg [zy xl_cg (.lr 3 9 true) 20 [.tmp 3],
  zF 0 21 3,
  zy xl_cg (.lr 3 7 true) 22 [.tmp 21],
  zM 23 0,
  zN 24 23,
  zF 3 25 24,
  zL 26 25,
  zk .none s_bd v_bd 27 [.tmp 22, .tmp 26],
  zM 28 0,
  zk .read s_ch v_ch 29 [.tmp 28],
  zM 30 6,
  zk .write s_bg v_bg 31 [.tmp 20, .tmp 27, .tmp 29, .tmp 30]])
 (.reg [zM 32 0,
  zN 33 32,
  zF 1 34 33,
  zS [.tmp 34, .const (.int .i64 0)]])))))))))))))))))
 (.seq none
 (.reg [zc 4 (.bool false)])
 .ret)))
noncomputable def v_cg : EvF := evFn 2 xc_cg [.t 4]
theorem xt_cg : toC cx_cg (bodyOf Try.f43) = some (xc_cg.map XN.sm) := by kernel_rfl
theorem xr_cg : toR cx_cg Try.f43.results.toList = some [.t 4] := by kernel_rfl
theorem xo_cg : xc_cg.ok xl_cg := ⟨⟨rAny_ok (trivial), rMove_ok, trivial⟩, ⟨⟨⟨rMove_ok, rNil_ok, rFld_ok _, rLoad1_ok, trivial⟩, ⟨⟨rEql_ok, rMove_ok, trivial⟩, ⟨⟨⟨rMove_ok, rAny_ok (trivial), rMove_ok, rNil_ok, rFld_ok _, rLoad1_ok, rCall_ok ve_bn, rCall_ok ve_bh, rNil_ok, rFld_ok _, rStore1_ok, trivial⟩, ⟨⟨rMove_ok, rMove_ok, rMove_ok, rNil_ok, rFld_ok _, rLoad1_ok, rConv_ok _, rSub_ok, rNil_ok, rFld_ok _, rStore1_ok, rNil_ok, rFld_ok _, rStore1_ok, trivial⟩, ⟨⟨rMove_ok, rNil_ok, rFld_ok _, rLoad1_ok, rLss_ok, trivial⟩, ⟨⟨rMove_ok, rMove_ok, rNil_ok, rFld_ok _, rStore1_ok, rNil_ok, rFld_ok _, rStore1_ok, trivial⟩, trivial⟩⟩⟩⟩, ⟨⟨rEql_ok, rMove_ok, trivial⟩, ⟨⟨⟨rMove_ok, rAny_ok (trivial), rFld_ok _, rAny_ok (trivial), rMove_ok, rNil_ok, rFld_ok _, rLoad1_ok, rCall_ok ve_bd, rCall_ok ve_bh, rNil_ok, rFld_ok _, rStore1_ok, trivial⟩, ⟨⟨rMove_ok, rNil_ok, rFld_ok _, rLoad1_ok, rCall_ok ve_cq, rAny_ok (trivial), rAny_ok (trivial), trivial⟩, ⟨⟨rMove_ok, rNil_ok, rFld_ok _, rStore1_ok, trivial⟩, ⟨⟨rFld_ok _, rLr1_ok _, rNeq_ok, rMove_ok, rFld_ok _, rLr1_ok _, rMove_ok, rNil_ok, rFld_ok _, rLoad1_ok, rNeq_ok, rPick_ok, rMove_ok, rFld_ok _, rLr1_ok _, rMove_ok, rNil_ok, rFld_ok _, rLoad1_ok, rCall_ok ve_bo, rAdd_ok, rFld_ok _, rFld_ok _, rLr1_ok _, rGtr_ok, rPick_ok, trivial⟩, ⟨⟨rMove_ok, rMove_ok, rNil_ok, rFld_ok _, rStore1_ok, rNil_ok, rFld_ok _, rStore1_ok, trivial⟩, trivial⟩⟩⟩⟩⟩, ⟨⟨rEql_ok, rMove_ok, trivial⟩, ⟨⟨⟨rMove_ok, rAny_ok (trivial), rCall_ok ve_ci, rMove_ok, trivial⟩, trivial⟩, ⟨⟨rEql_ok, rMove_ok, trivial⟩, ⟨⟨⟨rMove_ok, rAny_ok (trivial), rFld_ok _, rAny_ok (trivial), rMove_ok, rNil_ok, rFld_ok _, rLoad1_ok, rCall_ok ve_bd, rCall_ok ve_bh, rNil_ok, rFld_ok _, rStore1_ok, trivial⟩, ⟨⟨⟨rMove_ok, rNil_ok, rFld_ok _, rLoad1_ok, rCall_ok ve_cq, rAny_ok (eqv_fldV _ _ _), rNeq_ok, trivial⟩, ⟨⟨⟨rMove_ok, rAny_ok (trivial), rCall_ok ve_cj, rMove_ok, trivial⟩, trivial⟩, trivial⟩⟩, ⟨rMove_ok, rNil_ok, rFld_ok _, rStore1_ok, trivial⟩⟩⟩, ⟨⟨rEql_ok, rMove_ok, trivial⟩, ⟨⟨⟨⟨rAny_ok (trivial), rFld_ok _, rAny_ok (trivial), rMove_ok, rNil_ok, rFld_ok _, rLoad1_ok, rCall_ok ve_bd, rMove_ok, rNil_ok, rFld_ok _, rLoad1_ok, rMove_ok, rCall_ok ve_ch, rCall_ok ve_bg, rNot_ok, trivial⟩, ⟨⟨⟨rMove_ok, rAny_ok (trivial), rCall_ok ve_cj, rMove_ok, trivial⟩, trivial⟩, trivial⟩⟩, ⟨rMove_ok, rNil_ok, rFld_ok _, rStore1_ok, trivial⟩⟩, ⟨⟨rEql_ok, rMove_ok, trivial⟩, ⟨⟨⟨rMove_ok, rNil_ok, rFld_ok _, rStore1_ok, trivial⟩, ⟨⟨rAny_ok (trivial), rMove_ok, rNil_ok, rFld_ok _, rLoad1_ok, rCall_ok ve_bn, rMove_ok, rNil_ok, rFld_ok _, rLoad1_ok, rMove_ok, rNil_ok, rFld_ok _, rLoad1_ok, rAdd_ok, rConv_ok _, rCall_ok ve_bg, trivial⟩, ⟨⟨rMove_ok, rNil_ok, rFld_ok _, rStore1_ok, trivial⟩, trivial⟩⟩⟩, ⟨⟨rMove_ok, rNil_ok, rFld_ok _, rLoad1_ok, rCall_ok ve_cq, rAny_ok (eqv_fldV _ _ _), rAdd_ok, rAny_ok (eqv_build _ rfl _), rCall_ok ve_cu, rMove_ok, trivial⟩, ⟨⟨rAny_ok (trivial), rFld_ok _, rAny_ok (trivial), rMove_ok, rNil_ok, rFld_ok _, rLoad1_ok, rCall_ok ve_bd, rMove_ok, rCall_ok ve_ch, rMove_ok, rCall_ok ve_bg, trivial⟩, ⟨rMove_ok, rNil_ok, rFld_ok _, rStore1_ok, trivial⟩⟩⟩⟩⟩⟩⟩⟩⟩⟩⟩⟩⟩⟩⟩⟩, ⟨⟨rMove_ok, trivial⟩, trivial⟩⟩⟩
theorem ve_cg : EvOk s_cg v_cg := EvOk.of (evFn_sound (C := cx_cg) xt_cg xr_cg xo_cg) q_cg
attribute [irreducible] w_cg_j1b w_cg_j1 w_cg_j2b w_cg_j2 w_cg s_cg
def w_cf_j1b (K : Value → Mem → Prop) (v0 v12 : Value) (c2 : List Value) (σ : Mem) : Prop :=
xIf v12
 (xF (fBuild [(0, 1), (1, 1)] [.int .i64 0, .int .i64 0] []) [] fun v13 =>
xC (gStore 2 [(locP 2), v13] c2) fun c2 =>
xF fMove [.bool false] fun v3 =>
xO (gLoad 2 true [(locP 2)] c2) fun r2 =>
K (.tuple #[r2, v3]) σ)
 (xF fMove [v0] fun v14 =>
xF fNil [v14] fun v15 =>
xF (fFld 5) [v15] fun v16 =>
hLoad 2 true [v16] (fun v17 σ =>
xC (gStore 2 [(locP 2), v17] c2) fun c2 =>
xF fMove [.bool true] fun v3 =>
xO (gLoad 2 true [(locP 2)] c2) fun r2 =>
K (.tuple #[r2, v3]) σ) σ)
def w_cf_j1 (K : Value → Mem → Prop) (ts : List Value) (ls : List (List Value)) (σ : Mem) : Prop := w_cf_j1b K (ts.getD 0 poison) (ts.getD 1 poison) (ls.getD 0 []) σ
def w_cf (a0 : Value) (K : Value → Mem → Prop) (σ : Mem) : Prop :=
xF fMove [.bool false] fun v3 =>
xJoin (w_cf_j1 K) fun J1 =>
xF fMove [a0] fun v4 =>
xF (fBin .eql .ptr) [v4, .pointer none] fun v5 =>
xF fMove [v5] fun v6 =>
xIf v6
 (xF fPick [.bool true, .bool true, undef] fun v12 =>
J1 [a0, v12] [[.int .i64 0, .int .i64 0]] σ)
 (xF fMove [a0] fun v7 =>
xF fNil [v7] fun v8 =>
xF (fFld 7) [v8] fun v9 =>
hLoad 1 false [v9] (fun v10 σ =>
xF (fUn .not) [v10] fun v11 =>
xF fPick [.bool false, .bool true, v11] fun v12 =>
J1 [a0, v12] [[.int .i64 0, .int .i64 0]] σ) σ)
def s_cf : Spec := fun args K σ => match args with
  | [a0] => w_cf a0 K σ
  | _ => False
noncomputable def cx_cf : Cx := { P := Try.prog, T := [], loc := [(2, 2)], eqt := [(84, .ptr)], n := 18, keep := [(1000003, [0, 12], [2])] }
theorem q_cf : FnS cx_cf Try.f44 (bodyOf Try.f44) 1 = s_cf := by
  funext args K σ
  rcases args with _ | ⟨a0, _ | ⟨b, r⟩⟩ <;> kernel_rfl
theorem e_cf : Entry Try.prog 44 .read s_cf :=
  entry (C := cx_cf) TOk.nil mixedOk Try.func44 (by kernel_rfl) (by kernel_rfl) (by kernel_rfl) q_cf
def xl_cf : List (Nat × Nat) := [(2, 2)]
noncomputable def xc_cf : XC XN :=
(.seq none
 (.reg [zy xl_cf (.la 2 [.int .i64 0, .int .i64 0]) 2 [],
  zc 3 (.bool false)])
 (.seq none
 (.seq (some ([0, 12], [2]))
 (.reg [zM 4 0,
  zy xl_cf (.f (fBin .eql .ptr)) 5 [.tmp 4, .const (.pointer none)],
  zM 6 5,
  ⟨(some (3, 2, false, some 6)), some 7, [.tmp 0], ⟨.f fMove, rMove⟩⟩,
  ⟨(some (4, 2, false, some 6)), some 8, [.tmp 7], ⟨.f fNil, rNil⟩⟩,
  ⟨(some (5, 2, false, some 6)), some 9, [.tmp 8], ⟨.f (fFld 7), rFld 7⟩⟩,
  ⟨(some (6, 2, false, some 6)), some 10, [.tmp 9], ⟨.load 1 false, rLoad1⟩⟩,
  ⟨(some (7, 2, false, some 6)), some 11, [.tmp 10], ⟨.f (fUn .not), rNot⟩⟩,
  zz (.f fPick) rPick (some 12) [.tmp 6, .const (.bool true), .tmp 11]])
 (.cond (.tmp 12)
 (.seq none
 (.reg [zy xl_cf (.f (fBuild [(0, 1), (1, 1)] [.int .i64 0, .int .i64 0] [])) 13 [],
  zY xl_cf (.ls 2 2) [.tmp 2, .tmp 13],
  zc 3 (.bool false)])
 .ret)
 .skip))
 (.seq none
 (.reg [zM 14 0,
  zN 15 14,
  zF 5 16 15,
  zy xl_cf (.load 2 true) 17 [.tmp 16],
  zY xl_cf (.ls 2 2) [.tmp 2, .tmp 17],
  zc 3 (.bool true)])
 .ret)))
noncomputable def v_cf : EvF := evFn 1 xc_cf [.c 2 2 2 true, .t 3]
theorem xt_cf : toC cx_cf (bodyOf Try.f44) = some (xc_cf.map XN.sm) := by kernel_rfl
theorem xr_cf : toR cx_cf Try.f44.results.toList = some [.c 2 2 2 true, .t 3] := by kernel_rfl
theorem xo_cf : xc_cf.ok xl_cf := ⟨⟨rAny_ok (trivial), rMove_ok, trivial⟩, ⟨⟨⟨rMove_ok, rAny_ok (eqv_bin _ _), rMove_ok, rMove_ok, rNil_ok, rFld_ok _, rLoad1_ok, rNot_ok, rPick_ok, trivial⟩, ⟨⟨⟨rAny_ok (eqv_build _ rfl _), rAny_ok (trivial), rMove_ok, trivial⟩, trivial⟩, trivial⟩⟩, ⟨⟨rMove_ok, rNil_ok, rFld_ok _, rAny_ok (trivial), rAny_ok (trivial), rMove_ok, trivial⟩, trivial⟩⟩⟩
theorem ve_cf : EvOk s_cf v_cf := EvOk.of (evFn_sound (C := cx_cf) xt_cf xr_cf xo_cf) q_cf
attribute [irreducible] w_cf_j1b w_cf_j1 w_cf s_cf
def w_cm (a0 : Value) (K : Value → Mem → Prop) (σ : Mem) : Prop :=
xF fMove [.pointer none] fun v2 =>
xF fMove [a0] fun v3 =>
xF (fBuild [(0, 1), (1, 1), (2, 1)] [.int .i64 0, .int .i64 0, .int .u64 0] [1]) [v3] fun v4 =>
hBox 3 [v4] (fun v5 σ =>
xF fMove [v5] fun v2 =>
K v2 σ) σ
def s_cm : Spec := fun args K σ => match args with
  | [a0] => w_cm a0 K σ
  | _ => False
noncomputable def cx_cm : Cx := { P := Try.prog, T := [], loc := [], eqt := [], n := 6, keep := [] }
theorem q_cm : FnS cx_cm Try.f90 (bodyOf Try.f90) 1 = s_cm := by
  funext args K σ
  rcases args with _ | ⟨a0, _ | ⟨b, r⟩⟩ <;> kernel_rfl
theorem e_cm : Entry Try.prog 90 .write s_cm :=
  entry (C := cx_cm) TOk.nil mixedOk Try.func90 (by kernel_rfl) (by kernel_rfl) (by kernel_rfl) q_cm
def xl_cm : List (Nat × Nat) := []
noncomputable def xc_cm : XC XN :=
(.seq none
 (.reg [zc 2 (.pointer none)])
 (.seq none
 (.reg [zM 3 0,
  zy xl_cm (.f (fBuild [(0, 1), (1, 1), (2, 1)] [.int .i64 0, .int .i64 0, .int .u64 0] [1])) 4 [.tmp 3],
  zy xl_cm (.box 3) 5 [.tmp 4],
  zM 2 5])
 .ret))
noncomputable def v_cm : EvF := evFn 1 xc_cm [.t 2]
theorem xt_cm : toC cx_cm (bodyOf Try.f90) = some (xc_cm.map XN.sm) := by kernel_rfl
theorem xr_cm : toR cx_cm Try.f90.results.toList = some [.t 2] := by kernel_rfl
theorem xo_cm : xc_cm.ok xl_cm := ⟨⟨rMove_ok, trivial⟩, ⟨⟨rMove_ok, rAny_ok (eqv_build _ rfl _), rAny_ok (trivial), rMove_ok, trivial⟩, trivial⟩⟩
theorem ve_cm : EvOk s_cm v_cm := EvOk.of (evFn_sound (C := cx_cm) xt_cm xr_cm xo_cm) q_cm
attribute [irreducible] w_cm s_cm
def w_br (a0 a1 a2 : Value) (K : Value → Mem → Prop) (σ : Mem) : Prop :=
xF fMove [.int .u64 0] fun v6 =>
xF fMove [.int .i64 0] fun v7 =>
xF fMove [a0] fun v9 =>
xF fMove [a1] fun v10 =>
s_b1 [v9, v10] (fun v11 σ =>
xF (fUn .not) [v11] fun v12 =>
xIf v12
 (xF fMove [.int .u64 0] fun v6 =>
xF fMove [.int .i64 2] fun v7 =>
K (.tuple #[v6, v7]) σ)
 (xF fMove [a0] fun v13 =>
xF fNil [v13] fun v14 =>
xF (fFld 0) [v14] fun v15 =>
hLoad 1 false [v15] (fun v16 σ =>
xF fMove [a1] fun v17 =>
xF (fIxS 1) [v16, v17] fun v18 =>
hLoad 1 false [v18] (fun v19 σ =>
xF fMove [v19] fun v8 =>
xF fMove [a0] fun v20 =>
xF fMove [a1] fun v21 =>
xF fMove [v8] fun v22 =>
xF fMove [a2] fun v23 =>
xF (fBin .add .no) [v22, v23] fun v24 =>
s_b0 [v20, v21, v24] (fun v25 σ =>
xF fMove [v8] fun v26 =>
xF fMove [v26] fun v6 =>
xF fMove [.int .i64 0] fun v7 =>
K (.tuple #[v6, v7]) σ) σ) σ) σ)) σ
def s_br : Spec := fun args K σ => match args with
  | [a0, a1, a2] => w_br a0 a1 a2 K σ
  | _ => False
noncomputable def cx_br : Cx := { P := Try.prog, T := [(65, .write, s_b1), (66, .write, s_b0)], loc := [], eqt := [], n := 27, keep := [] }
theorem q_br : FnS cx_br Try.f101 (bodyOf Try.f101) 3 = s_br := by
  funext args K σ
  rcases args with _ | ⟨a0, _ | ⟨a1, _ | ⟨a2, _ | ⟨b, r⟩⟩⟩⟩ <;> kernel_rfl
theorem e_br : Entry Try.prog 101 .write s_br :=
  entry (C := cx_br) (TOk.cons e_b1 (TOk.cons e_b0 TOk.nil)) mixedOk Try.func101 (by kernel_rfl) (by kernel_rfl) (by kernel_rfl) q_br
def xl_br : List (Nat × Nat) := []
noncomputable def xc_br : XC XN :=
(.seq none
 (.reg [zc 6 (.int .u64 0),
  zc 7 (.int .i64 0)])
 (.seq none
 (.seq none
 (.reg [zM 9 0,
  zM 10 1,
  zk .write s_b1 v_b1 11 [.tmp 9, .tmp 10],
  zz (.f (fUn .not)) rNot (some 12) [.tmp 11]])
 (.cond (.tmp 12)
 (.seq none
 (.reg [zc 6 (.int .u64 0),
  zc 7 (.int .i64 2)])
 .ret)
 .skip))
 (.seq none
 (.reg [zM 13 0,
  zN 14 13,
  zF 0 15 14,
  zL 16 15,
  zM 17 1,
  zz (.f (fIxS 1)) (rIxS 1) (some 18) [.tmp 16, .tmp 17],
  zL 19 18,
  zM 8 19])
 (.seq none
 (.reg [zM 20 0,
  zM 21 1,
  zM 22 8,
  zM 23 2,
  zb .add rAdd 24 [.tmp 22, .tmp 23],
  zk .write s_b0 v_b0 25 [.tmp 20, .tmp 21, .tmp 24]])
 (.seq none
 (.reg [zM 26 8,
  zM 6 26,
  zc 7 (.int .i64 0)])
 .ret)))))
noncomputable def v_br : EvF := evFn 3 xc_br [.t 6, .t 7]
theorem xt_br : toC cx_br (bodyOf Try.f101) = some (xc_br.map XN.sm) := by kernel_rfl
theorem xr_br : toR cx_br Try.f101.results.toList = some [.t 6, .t 7] := by kernel_rfl
theorem xo_br : xc_br.ok xl_br := ⟨⟨rMove_ok, rMove_ok, trivial⟩, ⟨⟨⟨rMove_ok, rMove_ok, rCall_ok ve_b1, rNot_ok, trivial⟩, ⟨⟨⟨rMove_ok, rMove_ok, trivial⟩, trivial⟩, trivial⟩⟩, ⟨⟨rMove_ok, rNil_ok, rFld_ok _, rLoad1_ok, rMove_ok, rIxS_ok _, rLoad1_ok, rMove_ok, trivial⟩, ⟨⟨rMove_ok, rMove_ok, rMove_ok, rMove_ok, rAdd_ok, rCall_ok ve_b0, trivial⟩, ⟨⟨rMove_ok, rMove_ok, rMove_ok, trivial⟩, trivial⟩⟩⟩⟩⟩
theorem ve_br : EvOk s_br v_br := EvOk.of (evFn_sound (C := cx_br) xt_br xr_br xo_br) q_br
attribute [irreducible] w_br s_br
def w_bf (a0 a1 a2 : Value) (K : Value → Mem → Prop) (σ : Mem) : Prop :=
xC (gBox 9 [a0] []) fun c3 =>
xF (fFld 7) [(locP 3)] fun v6 =>
xO (gLoad 1 false [v6] c3) fun v7 =>
xF (fFld 8) [(locP 3)] fun v8 =>
xO (gLoad 1 false [v8] c3) fun v9 =>
s_bs [v7, v9] (fun v10 σ =>
xF (fFld 7) [(locP 3)] fun v11 =>
xO (gLoad 1 false [v11] c3) fun v12 =>
xF fMove [a1] fun v13 =>
xF fMove [a2] fun v14 =>
xF (fConv .u64) [v14] fun v15 =>
s_br [v12, v13, v15] (fun v16 σ =>
K (.tuple #[]) σ) σ) σ
def s_bf : Spec := fun args K σ => match args with
  | [a0, a1, a2] => w_bf a0 a1 a2 K σ
  | _ => False
noncomputable def cx_bf : Cx := { P := Try.prog, T := [(81, .write, s_bs), (101, .write, s_br)], loc := [(3, 3), (6, 3), (8, 3), (11, 3)], eqt := [], n := 17, keep := [] }
theorem q_bf : FnS cx_bf Try.f85 (bodyOf Try.f85) 3 = s_bf := by
  funext args K σ
  rcases args with _ | ⟨a0, _ | ⟨a1, _ | ⟨a2, _ | ⟨b, r⟩⟩⟩⟩ <;> kernel_rfl
theorem e_bf : Entry Try.prog 85 .write s_bf :=
  entry (C := cx_bf) (TOk.cons e_bs (TOk.cons e_br TOk.nil)) mixedOk Try.func85 (by kernel_rfl) (by kernel_rfl) (by kernel_rfl) q_bf
def xl_bf : List (Nat × Nat) := [(3, 3), (6, 3), (8, 3), (11, 3)]
noncomputable def xc_bf : XC XN :=
(.seq none
 (.reg [zy xl_bf (.lb 3 9) 3 [.tmp 0]])
 (.seq none
 (.reg [zF 7 6 3,
  zr 3 7 6,
  zF 8 8 3,
  zr 3 9 8,
  zk .write s_bs v_bs 10 [.tmp 7, .tmp 9]])
 (.reg [zF 7 11 3,
  zr 3 12 11,
  zM 13 1,
  zM 14 2,
  zz (.f (fConv .u64)) (rConv .u64) (some 15) [.tmp 14],
  zk .write s_br v_br 16 [.tmp 12, .tmp 13, .tmp 15]])))
noncomputable def v_bf : EvF := evFn 3 xc_bf []
theorem xt_bf : toC cx_bf (bodyOf Try.f85) = some (xc_bf.map XN.sm) := by kernel_rfl
theorem xr_bf : toR cx_bf Try.f85.results.toList = some [] := by kernel_rfl
theorem xo_bf : xc_bf.ok xl_bf := ⟨⟨rAny_ok (trivial), trivial⟩, ⟨⟨rFld_ok _, rLr1_ok _, rFld_ok _, rLr1_ok _, rCall_ok ve_bs, trivial⟩, ⟨rFld_ok _, rLr1_ok _, rMove_ok, rMove_ok, rConv_ok _, rCall_ok ve_br, trivial⟩⟩⟩
theorem ve_bf : EvOk s_bf v_bf := EvOk.of (evFn_sound (C := cx_bf) xt_bf xr_bf xo_bf) q_bf
attribute [irreducible] w_bf s_bf
def w_cw_j1b (K : Value → Mem → Prop) (v3 : Value) (σ : Mem) : Prop :=
xF fMove [v3] fun v26 =>
xF fMove [v26] fun v2 =>
K v2 σ
def w_cw_j1 (K : Value → Mem → Prop) (ts : List Value) (ls : List (List Value)) (σ : Mem) : Prop := w_cw_j1b K (ts.getD 0 poison) σ
def w_cw (a0 : Value) (K : Value → Mem → Prop) (σ : Mem) : Prop :=
xC (gBox 5 [a0] []) fun c1 =>
xF fMove [.int .u64 0] fun v2 =>
xF (fFld 0) [(locP 1)] fun v4 =>
xO (gLoad 1 false [v4] c1) fun v5 =>
s_c1 [v5, .int .i64 3] (fun v6 σ =>
xF (fFld 1) [(locP 1)] fun v7 =>
xO (gLoad 1 false [v7] c1) fun v8 =>
s_c1 [v8, .int .i64 65535] (fun v9 σ =>
xF (fBin .shl .no) [v9, .int .u64 2] fun v10 =>
xF (fBin .or .no) [v6, v10] fun v11 =>
xF (fFld 2) [(locP 1)] fun v12 =>
xO (gLoad 1 false [v12] c1) fun v13 =>
s_c1 [v13, .int .i64 65535] (fun v14 σ =>
xF (fBin .shl .no) [v14, .int .u64 18] fun v15 =>
xF (fBin .or .no) [v11, v15] fun v16 =>
xF (fFld 3) [(locP 1)] fun v17 =>
xO (gLoad 1 false [v17] c1) fun v18 =>
s_c1 [v18, .int .i64 65535] (fun v19 σ =>
xF (fBin .shl .no) [v19, .int .u64 34] fun v20 =>
xF (fBin .or .no) [v16, v20] fun v21 =>
xF fMove [v21] fun v3 =>
xJoin (w_cw_j1 K) fun J1 =>
xF (fFld 4) [(locP 1)] fun v22 =>
xO (gLoad 1 false [v22] c1) fun v23 =>
xIf v23
 (xF fMove [v3] fun v24 =>
xF (fBin .or .no) [v24, .int .u64 1125899906842624] fun v25 =>
xF fMove [v25] fun v3 =>
J1 [v3] [] σ)
 (J1 [v3] [] σ)) σ) σ) σ) σ
def s_cw : Spec := fun args K σ => match args with
  | [a0] => w_cw a0 K σ
  | _ => False
noncomputable def cx_cw : Cx := { P := Try.prog, T := [(67, .none, s_c1)], loc := [(1, 1), (4, 1), (7, 1), (12, 1), (17, 1), (22, 1)], eqt := [], n := 27, keep := [(1000005, [3], [])] }
theorem q_cw : FnS cx_cw Try.f82 (bodyOf Try.f82) 1 = s_cw := by
  funext args K σ
  rcases args with _ | ⟨a0, _ | ⟨b, r⟩⟩ <;> kernel_rfl
theorem e_cw : Entry Try.prog 82 .none s_cw :=
  entry (C := cx_cw) (TOk.cons e_c1 TOk.nil) mixedOk Try.func82 (by kernel_rfl) (by kernel_rfl) (by kernel_rfl) q_cw
def xl_cw : List (Nat × Nat) := [(1, 1), (4, 1), (7, 1), (12, 1), (17, 1), (22, 1)]
noncomputable def xc_cw : XC XN :=
(.seq none
 (.reg [zy xl_cw (.lb 1 5) 1 [.tmp 0],
  zc 2 (.int .u64 0)])
 (.seq none
 (.reg [zF 0 4 1,
  zr 1 5 4,
  zk .none s_c1 v_c1 6 [.tmp 5, .const (.int .i64 3)],
  zF 1 7 1,
  zr 1 8 7,
  zk .none s_c1 v_c1 9 [.tmp 8, .const (.int .i64 65535)],
  zy xl_cw (.f (fBin .shl .no)) 10 [.tmp 9, .const (.int .u64 2)],
  zy xl_cw (.f (fBin .or .no)) 11 [.tmp 6, .tmp 10],
  zF 2 12 1,
  zr 1 13 12,
  zk .none s_c1 v_c1 14 [.tmp 13, .const (.int .i64 65535)],
  zy xl_cw (.f (fBin .shl .no)) 15 [.tmp 14, .const (.int .u64 18)],
  zy xl_cw (.f (fBin .or .no)) 16 [.tmp 11, .tmp 15],
  zF 3 17 1,
  zr 1 18 17,
  zk .none s_c1 v_c1 19 [.tmp 18, .const (.int .i64 65535)],
  zy xl_cw (.f (fBin .shl .no)) 20 [.tmp 19, .const (.int .u64 34)],
  zy xl_cw (.f (fBin .or .no)) 21 [.tmp 16, .tmp 20],
  zM 3 21])
 (.seq (some ([3], []))
 (.seq none
 (.reg [zF 4 22 1,
  zr 1 23 22])
 (.cond (.tmp 23)
 (.reg [zM 24 3,
  zy xl_cw (.f (fBin .or .no)) 25 [.tmp 24, .const (.int .u64 1125899906842624)],
  zM 3 25])
 .skip))
 (.seq none
 (.reg [zM 26 3,
  zM 2 26])
 .ret))))
noncomputable def v_cw : EvF := evFn 1 xc_cw [.t 2]
theorem xt_cw : toC cx_cw (bodyOf Try.f82) = some (xc_cw.map XN.sm) := by kernel_rfl
theorem xr_cw : toR cx_cw Try.f82.results.toList = some [.t 2] := by kernel_rfl
theorem xo_cw : xc_cw.ok xl_cw := ⟨⟨rAny_ok (trivial), rMove_ok, trivial⟩, ⟨⟨rFld_ok _, rLr1_ok _, rCall_ok ve_c1, rFld_ok _, rLr1_ok _, rCall_ok ve_c1, rAny_ok (eqv_bin _ _), rAny_ok (eqv_bin _ _), rFld_ok _, rLr1_ok _, rCall_ok ve_c1, rAny_ok (eqv_bin _ _), rAny_ok (eqv_bin _ _), rFld_ok _, rLr1_ok _, rCall_ok ve_c1, rAny_ok (eqv_bin _ _), rAny_ok (eqv_bin _ _), rMove_ok, trivial⟩, ⟨⟨⟨rFld_ok _, rLr1_ok _, trivial⟩, ⟨⟨rMove_ok, rAny_ok (eqv_bin _ _), rMove_ok, trivial⟩, trivial⟩⟩, ⟨⟨rMove_ok, rMove_ok, trivial⟩, trivial⟩⟩⟩⟩
theorem ve_cw : EvOk s_cw v_cw := EvOk.of (evFn_sound (C := cx_cw) xt_cw xr_cw xo_cw) q_cw
attribute [irreducible] w_cw_j1b w_cw_j1 w_cw s_cw
def w_ak (a0 a1 : Value) (K : Value → Mem → Prop) (σ : Mem) : Prop :=
xF fMove [.int .u64 0] fun v4 =>
xF fMove [a1] fun v5 =>
xF fMove [a0] fun v6 =>
xF fNil [v6] fun v7 =>
xF (fFld 0) [v7] fun v8 =>
hLoad 1 false [v8] (fun v9 σ =>
xF fMove [a0] fun v10 =>
xF fNil [v10] fun v11 =>
xF (fFld 8) [v11] fun v12 =>
hLoad 1 false [v12] (fun v13 σ =>
xF fMove [a0] fun v14 =>
xF fNil [v14] fun v15 =>
xF (fFld 9) [v15] fun v16 =>
hLoad 1 false [v16] (fun v17 σ =>
xF fMove [a0] fun v18 =>
xF fNil [v18] fun v19 =>
xF (fFld 1) [v19] fun v20 =>
hLoad 1 false [v20] (fun v21 σ =>
xF (fBuild [(0, 1), (1, 1), (2, 1), (3, 1), (4, 1)] [.int .i64 0, .int .i64 0, .int .i64 0, .int .i64 0, .bool false] [0, 1, 2, 3, 4]) [v5, v9, v13, v17, v21] fun v22 =>
s_cw [v22] (fun v23 σ =>
xF fMove [v23] fun v4 =>
K v4 σ) σ) σ) σ) σ) σ
def s_ak : Spec := fun args K σ => match args with
  | [a0, a1] => w_ak a0 a1 K σ
  | _ => False
noncomputable def cx_ak : Cx := { P := Try.prog, T := [(82, .none, s_cw)], loc := [], eqt := [], n := 24, keep := [] }
theorem q_ak : FnS cx_ak Try.f99 (bodyOf Try.f99) 2 = s_ak := by
  funext args K σ
  rcases args with _ | ⟨a0, _ | ⟨a1, _ | ⟨b, r⟩⟩⟩ <;> kernel_rfl
theorem e_ak : Entry Try.prog 99 .read s_ak :=
  entry (C := cx_ak) (TOk.cons e_cw TOk.nil) mixedOk Try.func99 (by kernel_rfl) (by kernel_rfl) (by kernel_rfl) q_ak
def xl_ak : List (Nat × Nat) := []
noncomputable def xc_ak : XC XN :=
(.seq none
 (.reg [zc 4 (.int .u64 0)])
 (.seq none
 (.reg [zM 5 1,
  zM 6 0,
  zN 7 6,
  zF 0 8 7,
  zL 9 8,
  zM 10 0,
  zN 11 10,
  zF 8 12 11,
  zL 13 12,
  zM 14 0,
  zN 15 14,
  zF 9 16 15,
  zL 17 16,
  zM 18 0,
  zN 19 18,
  zF 1 20 19,
  zL 21 20,
  zy xl_ak (.f (fBuild [(0, 1), (1, 1), (2, 1), (3, 1), (4, 1)] [.int .i64 0, .int .i64 0, .int .i64 0, .int .i64 0, .bool false] [0, 1, 2, 3, 4])) 22 [.tmp 5, .tmp 9, .tmp 13, .tmp 17, .tmp 21],
  zk .none s_cw v_cw 23 [.tmp 22],
  zM 4 23])
 .ret))
noncomputable def v_ak : EvF := evFn 2 xc_ak [.t 4]
theorem xt_ak : toC cx_ak (bodyOf Try.f99) = some (xc_ak.map XN.sm) := by kernel_rfl
theorem xr_ak : toR cx_ak Try.f99.results.toList = some [.t 4] := by kernel_rfl
theorem xo_ak : xc_ak.ok xl_ak := ⟨⟨rMove_ok, trivial⟩, ⟨⟨rMove_ok, rMove_ok, rNil_ok, rFld_ok _, rLoad1_ok, rMove_ok, rNil_ok, rFld_ok _, rLoad1_ok, rMove_ok, rNil_ok, rFld_ok _, rLoad1_ok, rMove_ok, rNil_ok, rFld_ok _, rLoad1_ok, rAny_ok (eqv_build _ rfl _), rCall_ok ve_cw, rMove_ok, trivial⟩, trivial⟩⟩
theorem ve_ak : EvOk s_ak v_ak := EvOk.of (evFn_sound (C := cx_ak) xt_ak xr_ak xo_ak) q_ak
attribute [irreducible] w_ak s_ak
def w_bj (a0 a1 a2 : Value) (K : Value → Mem → Prop) (σ : Mem) : Prop :=
xC (gBox 9 [a0] []) fun c3 =>
xF (fFld 7) [(locP 3)] fun v6 =>
xO (gLoad 1 false [v6] c3) fun v7 =>
xF (fFld 8) [(locP 3)] fun v8 =>
xO (gLoad 1 false [v8] c3) fun v9 =>
s_bs [v7, v9] (fun v10 σ =>
xF (fFld 7) [(locP 3)] fun v11 =>
xO (gLoad 1 false [v11] c3) fun v12 =>
xF fMove [a1] fun v13 =>
xF fMove [a2] fun v14 =>
s_by [v12, v13, v14] (fun v15 σ =>
K (.tuple #[]) σ) σ) σ
def s_bj : Spec := fun args K σ => match args with
  | [a0, a1, a2] => w_bj a0 a1 a2 K σ
  | _ => False
noncomputable def cx_bj : Cx := { P := Try.prog, T := [(81, .write, s_bs), (25, .write, s_by)], loc := [(3, 3), (6, 3), (8, 3), (11, 3)], eqt := [], n := 16, keep := [] }
theorem q_bj : FnS cx_bj Try.f46 (bodyOf Try.f46) 3 = s_bj := by
  funext args K σ
  rcases args with _ | ⟨a0, _ | ⟨a1, _ | ⟨a2, _ | ⟨b, r⟩⟩⟩⟩ <;> kernel_rfl
theorem e_bj : Entry Try.prog 46 .write s_bj :=
  entry (C := cx_bj) (TOk.cons e_bs (TOk.cons e_by TOk.nil)) mixedOk Try.func46 (by kernel_rfl) (by kernel_rfl) (by kernel_rfl) q_bj
def xl_bj : List (Nat × Nat) := [(3, 3), (6, 3), (8, 3), (11, 3)]
noncomputable def xc_bj : XC XN :=
(.seq none
 (.reg [zy xl_bj (.lb 3 9) 3 [.tmp 0]])
 (.seq none
 (.reg [zF 7 6 3,
  zr 3 7 6,
  zF 8 8 3,
  zr 3 9 8,
  zk .write s_bs v_bs 10 [.tmp 7, .tmp 9]])
 (.reg [zF 7 11 3,
  zr 3 12 11,
  zM 13 1,
  zM 14 2,
  zk .write s_by v_by 15 [.tmp 12, .tmp 13, .tmp 14]])))
noncomputable def v_bj : EvF := evFn 3 xc_bj []
theorem xt_bj : toC cx_bj (bodyOf Try.f46) = some (xc_bj.map XN.sm) := by kernel_rfl
theorem xr_bj : toR cx_bj Try.f46.results.toList = some [] := by kernel_rfl
theorem xo_bj : xc_bj.ok xl_bj := ⟨⟨rAny_ok (trivial), trivial⟩, ⟨⟨rFld_ok _, rLr1_ok _, rFld_ok _, rLr1_ok _, rCall_ok ve_bs, trivial⟩, ⟨rFld_ok _, rLr1_ok _, rMove_ok, rMove_ok, rCall_ok ve_by, trivial⟩⟩⟩
theorem ve_bj : EvOk s_bj v_bj := EvOk.of (evFn_sound (C := cx_bj) xt_bj xr_bj xo_bj) q_bj
attribute [irreducible] w_bj s_bj
def w_cv (a0 : Value) (K : Value → Mem → Prop) (σ : Mem) : Prop :=
xC (gBox 2 [a0] []) fun c1 =>
xF fMove [.int .u64 0] fun v2 =>
xF (fFld 0) [(locP 1)] fun v3 =>
xO (gLoad 1 false [v3] c1) fun v4 =>
s_c1 [v4, .int .i64 65535] (fun v5 σ =>
xF (fFld 1) [(locP 1)] fun v6 =>
xO (gLoad 1 false [v6] c1) fun v7 =>
s_c1 [v7, .int .i64 65535] (fun v8 σ =>
xF (fBin .shl .no) [v8, .int .u64 16] fun v9 =>
xF (fBin .or .no) [v5, v9] fun v10 =>
xF fMove [v10] fun v2 =>
K v2 σ) σ) σ
def s_cv : Spec := fun args K σ => match args with
  | [a0] => w_cv a0 K σ
  | _ => False
noncomputable def cx_cv : Cx := { P := Try.prog, T := [(67, .none, s_c1)], loc := [(1, 1), (3, 1), (6, 1)], eqt := [], n := 11, keep := [] }
theorem q_cv : FnS cx_cv Try.f100 (bodyOf Try.f100) 1 = s_cv := by
  funext args K σ
  rcases args with _ | ⟨a0, _ | ⟨b, r⟩⟩ <;> kernel_rfl
theorem e_cv : Entry Try.prog 100 .none s_cv :=
  entry (C := cx_cv) (TOk.cons e_c1 TOk.nil) mixedOk Try.func100 (by kernel_rfl) (by kernel_rfl) (by kernel_rfl) q_cv
def xl_cv : List (Nat × Nat) := [(1, 1), (3, 1), (6, 1)]
noncomputable def xc_cv : XC XN :=
(.seq none
 (.reg [zy xl_cv (.lb 1 2) 1 [.tmp 0],
  zc 2 (.int .u64 0)])
 (.seq none
 (.reg [zF 0 3 1,
  zr 1 4 3,
  zk .none s_c1 v_c1 5 [.tmp 4, .const (.int .i64 65535)],
  zF 1 6 1,
  zr 1 7 6,
  zk .none s_c1 v_c1 8 [.tmp 7, .const (.int .i64 65535)],
  zy xl_cv (.f (fBin .shl .no)) 9 [.tmp 8, .const (.int .u64 16)],
  zy xl_cv (.f (fBin .or .no)) 10 [.tmp 5, .tmp 9],
  zM 2 10])
 .ret))
noncomputable def v_cv : EvF := evFn 1 xc_cv [.t 2]
theorem xt_cv : toC cx_cv (bodyOf Try.f100) = some (xc_cv.map XN.sm) := by kernel_rfl
theorem xr_cv : toR cx_cv Try.f100.results.toList = some [.t 2] := by kernel_rfl
theorem xo_cv : xc_cv.ok xl_cv := ⟨⟨rAny_ok (trivial), rMove_ok, trivial⟩, ⟨⟨rFld_ok _, rLr1_ok _, rCall_ok ve_c1, rFld_ok _, rLr1_ok _, rCall_ok ve_c1, rAny_ok (eqv_bin _ _), rAny_ok (eqv_bin _ _), rMove_ok, trivial⟩, trivial⟩⟩
theorem ve_cv : EvOk s_cv v_cv := EvOk.of (evFn_sound (C := cx_cv) xt_cv xr_cv xo_cv) q_cv
attribute [irreducible] w_cv s_cv
def w_cl_j1b (K : Value → Mem → Prop) (σ : Mem) : Prop :=
xF fMove [.bool false] fun v4 =>
K v4 σ
def w_cl_j1 (K : Value → Mem → Prop) (ts : List Value) (ls : List (List Value)) (σ : Mem) : Prop := w_cl_j1b K σ
def w_cl (a0 a1 : Value) (K : Value → Mem → Prop) (σ : Mem) : Prop :=
xC (gBox 9 [a1] []) fun c3 =>
xF fMove [.bool false] fun v4 =>
xF fMove [a0] fun v8 =>
xF fNil [v8] fun v9 =>
xF (fFld 2) [v9] fun v10 =>
hLoad 1 false [v10] (fun v11 σ =>
s_c0 [v11] (fun v12 σ =>
xF fMove [v12] fun v7 =>
xF (fExt 0) [v7] fun v13 =>
xF (fExt 1) [v7] fun v14 =>
xF fMove [v13] fun v5 =>
xF fMove [v14] fun v6 =>
xJoin (w_cl_j1 K) fun J1 =>
xF fMove [a0] fun v15 =>
xF fNil [v15] fun v16 =>
xF (fFld 0) [v16] fun v17 =>
hLoad 1 false [v17] (fun v18 σ =>
xF (fBin .eql .no) [v18, .int .i64 0] fun v37 =>
xF fMove [v37] fun v36 =>
xIf v36
 (xF fMove [a0] fun v38 =>
xF fMove [a0] fun v39 =>
xO (gLoad 9 true [(locP 3)] c3) fun v40 =>
s_bq [] (fun v41 σ =>
s_bh [v40, v41] (fun v42 σ =>
xF fNil [v38] fun v43 =>
xF (fFld 2) [v43] fun v44 =>
hStore 1 [v44, v42] (fun _v σ =>
xF fNil [v39] fun v45 =>
xF (fFld 0) [v45] fun v46 =>
hStore 1 [v46, .int .i64 1] (fun _v σ =>
J1 [] [] σ) σ) σ) σ) σ)
 (xF (fBin .eql .no) [v18, .int .i64 1] fun v48 =>
xF fMove [v48] fun v47 =>
xIf v47
 (xO (gLoad 9 true [(locP 3)] c3) fun v49 =>
xF (fFld 0) [(locP 3)] fun v50 =>
xO (gLoad 7 true [v50] c3) fun v51 =>
xF fMove [a0] fun v52 =>
xF fNil [v52] fun v53 =>
xF (fFld 1) [v53] fun v54 =>
hLoad 1 false [v54] (fun v55 σ =>
s_bp [v51, v55] (fun v56 σ =>
xF (fBin .add .no) [v56, .int .i64 1] fun v57 =>
xF fMove [v5] fun v58 =>
s_cy [v58, .int .i64 0] (fun v59 σ =>
s_bj [v49, v57, v59] (fun v60 σ =>
xF fMove [a0] fun v61 =>
xF fNil [v61] fun v62 =>
xF (fFld 0) [v62] fun v63 =>
hStore 1 [v63, .int .i64 2] (fun _v σ =>
J1 [] [] σ) σ) σ) σ) σ) σ)
 (xF fMove [a0] fun v19 =>
xF fNil [v19] fun v20 =>
xF (fFld 0) [v20] fun v21 =>
hStore 1 [v21, .int .i64 0] (fun _v σ =>
xO (gLoad 9 true [(locP 3)] c3) fun v22 =>
s_bq [] (fun v23 σ =>
xF fMove [a0] fun v24 =>
xF fNil [v24] fun v25 =>
xF (fFld 2) [v25] fun v26 =>
hLoad 1 false [v26] (fun v27 σ =>
xF fMove [a0] fun v28 =>
xF fNil [v28] fun v29 =>
xF (fFld 1) [v29] fun v30 =>
hLoad 1 false [v30] (fun v31 σ =>
xF fMove [v6] fun v32 =>
xF (fBin .add .no) [v32, .int .i64 1] fun v33 =>
s_cy [v31, v33] (fun v34 σ =>
s_bg [v22, v23, v27, v34] (fun v35 σ =>
xF fMove [v35] fun v4 =>
K v4 σ) σ) σ) σ) σ) σ) σ))) σ) σ) σ
def s_cl : Spec := fun args K σ => match args with
  | [a0, a1] => w_cl a0 a1 K σ
  | _ => False
noncomputable def cx_cl : Cx := { P := Try.prog, T := [(102, .none, s_c0), (95, .none, s_bq), (51, .write, s_bh), (27, .none, s_bp), (94, .none, s_cy), (46, .write, s_bj), (48, .write, s_bg)], loc := [(3, 3), (50, 3)], eqt := [], n := 64, keep := [(1000011, [], [])] }
theorem q_cl : FnS cx_cl Try.f91 (bodyOf Try.f91) 2 = s_cl := by
  funext args K σ
  rcases args with _ | ⟨a0, _ | ⟨a1, _ | ⟨b, r⟩⟩⟩ <;> kernel_rfl
theorem e_cl : Entry Try.prog 91 .write s_cl :=
  entry (C := cx_cl) (TOk.cons e_c0 (TOk.cons e_bq (TOk.cons e_bh (TOk.cons e_bp (TOk.cons e_cy (TOk.cons e_bj (TOk.cons e_bg TOk.nil))))))) mixedOk Try.func91 (by kernel_rfl) (by kernel_rfl) (by kernel_rfl) q_cl
def xl_cl : List (Nat × Nat) := [(3, 3), (50, 3)]
noncomputable def xc_cl : XC XN :=
(.seq none
 (.reg [zy xl_cl (.lb 3 9) 3 [.tmp 1],
  zc 4 (.bool false)])
 (.seq none
 (.reg [zM 8 0,
  zN 9 8,
  zF 2 10 9,
  zL 11 10,
  zk .none s_c0 v_c0 12 [.tmp 11],
  zM 7 12,
  zy xl_cl (.f (fExt 0)) 13 [.tmp 7],
  zy xl_cl (.f (fExt 1)) 14 [.tmp 7],
  zM 5 13,
  zM 6 14])
 (.seq (some ([], []))
 (.seq none
 (.reg [zM 15 0,
  zN 16 15,
  zF 0 17 16,
  zL 18 17])
 (.block 0
 (.seq none
 (.reg [zb .eql rEql 37 [.tmp 18, .const (.int .i64 0)],
  zM 36 37])
 (.cond (.tmp 36)
 (.reg [zM 38 0,
  zM 39 0,
  zy xl_cl (.lr 3 9 true) 40 [.tmp 3],
  zk .none s_bq v_bq 41 [],
  zk .write s_bh v_bh 42 [.tmp 40, .tmp 41],
  zN 43 38,
  zF 2 44 43,
  zS [.tmp 44, .tmp 42],
  zN 45 39,
  zF 0 46 45,
  zS [.tmp 46, .const (.int .i64 1)]])
 (.seq none
 (.reg [zb .eql rEql 48 [.tmp 18, .const (.int .i64 1)],
  zM 47 48])
 (.cond (.tmp 47)
 (.seq none
 (.reg [zy xl_cl (.lr 3 9 true) 49 [.tmp 3],
  zF 0 50 3,
  zy xl_cl (.lr 3 7 true) 51 [.tmp 50],
  zM 52 0,
  zN 53 52,
  zF 1 54 53,
  zL 55 54,
  zk .none s_bp v_bp 56 [.tmp 51, .tmp 55],
  zb .add rAdd 57 [.tmp 56, .const (.int .i64 1)],
  zM 58 5,
  zk .none s_cy v_cy 59 [.tmp 58, .const (.int .i64 0)],
  zk .write s_bj v_bj 60 [.tmp 49, .tmp 57, .tmp 59]])
 (.reg [zM 61 0,
  zN 62 61,
  zF 0 63 62,
  zS [.tmp 63, .const (.int .i64 2)]]))
 (.seq none
 (.reg [zM 19 0,
  zN 20 19,
  zF 0 21 20,
  zS [.tmp 21, .const (.int .i64 0)]])
 (.seq none
 (.reg [zy xl_cl (.lr 3 9 true) 22 [.tmp 3],
  zk .none s_bq v_bq 23 [],
  zM 24 0,
  zN 25 24,
  zF 2 26 25,
  zL 27 26,
  zM 28 0,
  zN 29 28,
  zF 1 30 29,
  zL 31 30,
  zM 32 6,
  zb .add rAdd 33 [.tmp 32, .const (.int .i64 1)],
  zk .none s_cy v_cy 34 [.tmp 31, .tmp 33],
  zk .write s_bg v_bg 35 [.tmp 22, .tmp 23, .tmp 27, .tmp 34],
  zM 4 35])
 .ret))))))))
 (.seq none
 (.reg [zc 4 (.bool false)])
 .ret))))
noncomputable def v_cl : EvF := evFn 2 xc_cl [.t 4]
theorem xt_cl : toC cx_cl (bodyOf Try.f91) = some (xc_cl.map XN.sm) := by kernel_rfl
theorem xr_cl : toR cx_cl Try.f91.results.toList = some [.t 4] := by kernel_rfl
theorem xo_cl : xc_cl.ok xl_cl := ⟨⟨rAny_ok (trivial), rMove_ok, trivial⟩, ⟨⟨rMove_ok, rNil_ok, rFld_ok _, rLoad1_ok, rCall_ok ve_c0, rMove_ok, rAny_ok (eqv_ext _), rAny_ok (eqv_ext _), rMove_ok, rMove_ok, trivial⟩, ⟨⟨⟨rMove_ok, rNil_ok, rFld_ok _, rLoad1_ok, trivial⟩, ⟨⟨rEql_ok, rMove_ok, trivial⟩, ⟨⟨rMove_ok, rMove_ok, rAny_ok (trivial), rCall_ok ve_bq, rCall_ok ve_bh, rNil_ok, rFld_ok _, rStore1_ok, rNil_ok, rFld_ok _, rStore1_ok, trivial⟩, ⟨⟨rEql_ok, rMove_ok, trivial⟩, ⟨⟨⟨rAny_ok (trivial), rFld_ok _, rAny_ok (trivial), rMove_ok, rNil_ok, rFld_ok _, rLoad1_ok, rCall_ok ve_bp, rAdd_ok, rMove_ok, rCall_ok ve_cy, rCall_ok ve_bj, trivial⟩, ⟨rMove_ok, rNil_ok, rFld_ok _, rStore1_ok, trivial⟩⟩, ⟨⟨rMove_ok, rNil_ok, rFld_ok _, rStore1_ok, trivial⟩, ⟨⟨rAny_ok (trivial), rCall_ok ve_bq, rMove_ok, rNil_ok, rFld_ok _, rLoad1_ok, rMove_ok, rNil_ok, rFld_ok _, rLoad1_ok, rMove_ok, rAdd_ok, rCall_ok ve_cy, rCall_ok ve_bg, rMove_ok, trivial⟩, trivial⟩⟩⟩⟩⟩⟩⟩, ⟨⟨rMove_ok, trivial⟩, trivial⟩⟩⟩⟩
theorem ve_cl : EvOk s_cl v_cl := EvOk.of (evFn_sound (C := cx_cl) xt_cl xr_cl xo_cl) q_cl
attribute [irreducible] w_cl_j1b w_cl_j1 w_cl s_cl
def w_ai_j1b (K : Value → Mem → Prop) (σ : Mem) : Prop :=
xF fMove [.bool false] fun v4 =>
K v4 σ
def w_ai_j1 (K : Value → Mem → Prop) (ts : List Value) (ls : List (List Value)) (σ : Mem) : Prop := w_ai_j1b K σ
def w_ai (a0 a1 : Value) (K : Value → Mem → Prop) (σ : Mem) : Prop :=
xC (gBox 9 [a1] []) fun c3 =>
xF fMove [.bool false] fun v4 =>
xJoin (w_ai_j1 K) fun J1 =>
xF fMove [a0] fun v9 =>
xF fNil [v9] fun v10 =>
xF (fFld 2) [v10] fun v11 =>
hLoad 1 false [v11] (fun v12 σ =>
xF (fBin .eql .no) [v12, .int .i64 0] fun v20 =>
xF fMove [v20] fun v19 =>
xIf v19
 (xF fMove [a0] fun v21 =>
xF fNil [v21] fun v22 =>
xF (fFld 0) [v22] fun v23 =>
hLoad 1 false [v23] (fun v24 σ =>
s_be [v24] (fun v25 σ =>
xF (fBin .lss .no) [v25, .int .i64 0] fun v26 =>
xIf v26
 (xF fMove [a0] fun v27 =>
xO (gLoad 9 true [(locP 3)] c3) fun v28 =>
s_aj [v27, v28, .int .i64 5] (fun v29 σ =>
xF fMove [.bool true] fun v4 =>
K v4 σ) σ)
 (xF fMove [a0] fun v30 =>
xF fNil [v30] fun v31 =>
xF (fFld 3) [v31] fun v32 =>
xO (gLoad 9 true [(locP 3)] c3) fun v33 =>
s_co [v32, v33] (fun v34 σ =>
xIf v34
 (xF fMove [a0] fun v36 =>
xF fNil [v36] fun v37 =>
xF (fFld 3) [v37] fun v38 =>
s_cn [v38] (fun v39 σ =>
xF fMove [v39] fun v35 =>
xF (fExt 0) [v35] fun v40 =>
xF (fExt 1) [v35] fun v41 =>
xF fMove [v40] fun v5 =>
xF fMove [v41] fun v6 =>
xF fMove [a0] fun v42 =>
xF fMove [a0] fun v43 =>
xF fMove [v5] fun v44 =>
xF fNil [v42] fun v45 =>
xF (fFld 8) [v45] fun v46 =>
hStore 1 [v46, v44] (fun _v σ =>
xF fNil [v43] fun v47 =>
xF (fFld 2) [v47] fun v48 =>
hStore 1 [v48, .int .i64 1] (fun _v σ =>
xF fMove [v6] fun v49 =>
xF (fUn .not) [v49] fun v50 =>
xIf v50
 (xF fMove [a0] fun v51 =>
xO (gLoad 9 true [(locP 3)] c3) fun v52 =>
s_aj [v51, v52, .int .i64 7] (fun v53 σ =>
xF fMove [.bool true] fun v4 =>
K v4 σ) σ)
 (J1 [] [] σ)) σ) σ) σ)
 (J1 [] [] σ)) σ)) σ) σ)
 (xF (fBin .eql .no) [v12, .int .i64 1] fun v55 =>
xF fMove [v55] fun v54 =>
xIf v54
 (xF fMove [a0] fun v56 =>
xF fMove [a0] fun v57 =>
xO (gLoad 9 true [(locP 3)] c3) fun v58 =>
xF (fFld 0) [(locP 3)] fun v59 =>
xO (gLoad 7 true [v59] c3) fun v60 =>
xF fMove [a0] fun v61 =>
xF fNil [v61] fun v62 =>
xF (fFld 8) [v62] fun v63 =>
hLoad 1 false [v63] (fun v64 σ =>
s_bp [v60, v64] (fun v65 σ =>
s_bh [v58, v65] (fun v66 σ =>
s_cz [v66] (fun v67 σ =>
xF (fFldV 2 1 false) [v67] fun v68 =>
xF fNil [v56] fun v69 =>
xF (fFld 9) [v69] fun v70 =>
hStore 1 [v70, v68] (fun _v σ =>
xF fNil [v57] fun v71 =>
xF (fFld 2) [v71] fun v72 =>
hStore 1 [v72, .int .i64 2] (fun _v σ =>
xF fMove [a0] fun v73 =>
xF fMove [a0] fun v74 =>
xF fNil [v74] fun v75 =>
xF (fFld 0) [v75] fun v76 =>
hLoad 1 false [v76] (fun v77 σ =>
s_be [v77] (fun v78 σ =>
s_ce [v78] (fun v79 σ =>
xF fNil [v73] fun v80 =>
xF (fFld 10) [v80] fun v81 =>
hStore 1 [v81, v79] (fun _v σ =>
J1 [] [] σ) σ) σ) σ) σ) σ) σ) σ) σ) σ) σ)
 (xF (fBin .eql .no) [v12, .int .i64 2] fun v83 =>
xF fMove [v83] fun v82 =>
xIf v82
 (xF fMove [a0] fun v84 =>
xF fNil [v84] fun v85 =>
xF (fFld 10) [v85] fun v86 =>
hLoad 1 false [v86] (fun v87 σ =>
xO (gLoad 9 true [(locP 3)] c3) fun v88 =>
s_cg [v87, v88] (fun v89 σ =>
xIf v89
 (xF fMove [a0] fun v91 =>
xF fNil [v91] fun v92 =>
xF (fFld 10) [v92] fun v93 =>
hLoad 1 false [v93] (fun v94 σ =>
s_cf [v94] (fun v95 σ =>
xF fMove [v95] fun v90 =>
xF (fExt 0) [v90] fun v96 =>
xF (fExt 1) [v90] fun v97 =>
xC (gStore 2 [(locP 7), v96] [.int .i64 0, .int .i64 0]) fun c7 =>
xF fMove [v97] fun v8 =>
xF fMove [a0] fun v98 =>
xF fMove [a0] fun v99 =>
xO (gLoad 2 true [(locP 7)] c7) fun v100 =>
xF fNil [v98] fun v101 =>
xF (fFld 11) [v101] fun v102 =>
hStore 2 [v102, v100] (fun _v σ =>
xF fNil [v99] fun v103 =>
xF (fFld 2) [v103] fun v104 =>
hStore 1 [v104, .int .i64 3] (fun _v σ =>
xF fMove [v8] fun v105 =>
xF (fUn .not) [v105] fun v106 =>
xIf v106
 (xF fMove [a0] fun v107 =>
xO (gLoad 9 true [(locP 3)] c3) fun v108 =>
s_aj [v107, v108, .int .i64 6] (fun v109 σ =>
xF fMove [a0] fun v110 =>
xF fMove [a0] fun v111 =>
xF fMove [a0] fun v112 =>
xF fNil [v112] fun v113 =>
xF (fFld 8) [v113] fun v114 =>
hLoad 1 false [v114] (fun v115 σ =>
s_cm [v115] (fun v116 σ =>
xF fNil [v110] fun v117 =>
xF (fFld 13) [v117] fun v118 =>
hStore 1 [v118, v116] (fun _v σ =>
xF fNil [v111] fun v119 =>
xF (fFld 2) [v119] fun v120 =>
hStore 1 [v120, .int .i64 7] (fun _v σ =>
J1 [] [] σ) σ) σ) σ) σ) σ)
 (J1 [] [] σ)) σ) σ) σ) σ)
 (J1 [] [] σ)) σ) σ)
 (xF (fBin .eql .no) [v12, .int .i64 3] fun v122 =>
xF fMove [v122] fun v121 =>
xIf v121
 (xO (gLoad 9 true [(locP 3)] c3) fun v123 =>
xF (fFld 0) [(locP 3)] fun v124 =>
xO (gLoad 7 true [v124] c3) fun v125 =>
xF fMove [a0] fun v126 =>
xF fNil [v126] fun v127 =>
xF (fFld 11) [v127] fun v128 =>
xF (fFld 1) [v128] fun v129 =>
hLoad 1 false [v129] (fun v130 σ =>
s_bd [v125, v130] (fun v131 σ =>
xF (fBin .add .no) [v131, .int .i64 1] fun v132 =>
xF fMove [a0] fun v133 =>
xF fNil [v133] fun v134 =>
xF (fFld 0) [v134] fun v135 =>
hLoad 1 false [v135] (fun v136 σ =>
s_be [v136] (fun v137 σ =>
s_bo [v137] (fun v138 σ =>
s_bf [v123, v132, v138] (fun v139 σ =>
xF fMove [a0] fun v140 =>
xF fNil [v140] fun v141 =>
xF (fFld 2) [v141] fun v142 =>
hStore 1 [v142, .int .i64 4] (fun _v σ =>
J1 [] [] σ) σ) σ) σ) σ) σ) σ) σ)
 (xF (fBin .eql .no) [v12, .int .i64 4] fun v144 =>
xF fMove [v144] fun v143 =>
xIf v143
 (xO (gLoad 9 true [(locP 3)] c3) fun v145 =>
xF fMove [a0] fun v146 =>
xF fNil [v146] fun v147 =>
xF (fFld 11) [v147] fun v148 =>
xF (fFld 0) [v148] fun v149 =>
hLoad 1 false [v149] (fun v150 σ =>
xF fMove [a0] fun v151 =>
s_ak [v151, .int .i64 1] (fun v152 σ =>
s_bj [v145, v150, v152] (fun v153 σ =>
xF fMove [a0] fun v154 =>
xF fNil [v154] fun v155 =>
xF (fFld 2) [v155] fun v156 =>
hStore 1 [v156, .int .i64 5] (fun _v σ =>
J1 [] [] σ) σ) σ) σ) σ)
 (xF (fBin .eql .no) [v12, .int .i64 5] fun v158 =>
xF fMove [v158] fun v157 =>
xIf v157
 (xO (gLoad 9 true [(locP 3)] c3) fun v159 =>
xF (fFld 0) [(locP 3)] fun v160 =>
xO (gLoad 7 true [v160] c3) fun v161 =>
xF fMove [a0] fun v162 =>
xF fNil [v162] fun v163 =>
xF (fFld 8) [v163] fun v164 =>
hLoad 1 false [v164] (fun v165 σ =>
s_bp [v161, v165] (fun v166 σ =>
xF fMove [a0] fun v167 =>
xF fNil [v167] fun v168 =>
xF (fFld 11) [v168] fun v169 =>
xF (fFld 0) [v169] fun v170 =>
hLoad 1 false [v170] (fun v171 σ =>
xF fMove [a0] fun v172 =>
xF fNil [v172] fun v173 =>
xF (fFld 9) [v173] fun v174 =>
hLoad 1 false [v174] (fun v175 σ =>
xF (fBuild [(0, 1), (1, 1), (2, 1), (3, 1)] [.int .i64 0, .int .i64 0, .int .i64 0, .int .i64 0] [0, 1, 2]) [.int .i64 1, v171, v175] fun v176 =>
s_cx [v176] (fun v177 σ =>
s_bj [v159, v166, v177] (fun v178 σ =>
xF fMove [a0] fun v179 =>
xF fMove [a0] fun v180 =>
xF fNil [v180] fun v181 =>
xF (fFld 8) [v181] fun v182 =>
hLoad 1 false [v182] (fun v183 σ =>
xF fMove [a0] fun v184 =>
xF fNil [v184] fun v185 =>
xF (fFld 9) [v185] fun v186 =>
hLoad 1 false [v186] (fun v187 σ =>
xF (fBuild [(0, 1), (1, 1)] [.int .i64 0, .int .i64 0] [0, 1]) [v183, v187] fun v188 =>
s_cv [v188] (fun v189 σ =>
xO (gLoad 9 true [(locP 3)] c3) fun v190 =>
s_bi [v190] (fun v191 σ =>
xF (fBuild [(0, 1), (1, 1), (2, 1), (3, 1)] [.int .i64 0, .int .u64 0, .int .i64 0, .int .i64 0] [1, 3]) [v189, v191] fun v192 =>
xF fNil [v179] fun v193 =>
xF (fFld 14) [v193] fun v194 =>
hStore 4 [v194, v192] (fun _v σ =>
xF fMove [a0] fun v195 =>
xF fNil [v195] fun v196 =>
xF (fFld 2) [v196] fun v197 =>
hStore 1 [v197, .int .i64 6] (fun _v σ =>
J1 [] [] σ) σ) σ) σ) σ) σ) σ) σ) σ) σ) σ) σ) σ)
 (xF (fBin .eql .no) [v12, .int .i64 6] fun v199 =>
xF fMove [v199] fun v198 =>
xIf v198
 (xO (gLoad 9 true [(locP 3)] c3) fun v200 =>
xF fMove [a0] fun v201 =>
xF fNil [v201] fun v202 =>
xF (fFld 11) [v202] fun v203 =>
xF (fFld 0) [v203] fun v204 =>
hLoad 1 false [v204] (fun v205 σ =>
xF fMove [a0] fun v206 =>
s_ak [v206, .int .i64 2] (fun v207 σ =>
s_bj [v200, v205, v207] (fun v208 σ =>
xF fMove [.bool true] fun v4 =>
K v4 σ) σ) σ) σ)
 (xF fMove [a0] fun v13 =>
xF fNil [v13] fun v14 =>
xF (fFld 13) [v14] fun v15 =>
hLoad 1 false [v15] (fun v16 σ =>
xO (gLoad 9 true [(locP 3)] c3) fun v17 =>
s_cl [v16, v17] (fun v18 σ =>
xF fMove [v18] fun v4 =>
K v4 σ) σ) σ)))))))) σ
def s_ai : Spec := fun args K σ => match args with
  | [a0, a1] => w_ai a0 a1 K σ
  | _ => False
noncomputable def cx_ai : Cx := { P := Try.prog, T := [(31, .write, s_be), (96, .write, s_aj), (97, .write, s_co), (98, .read, s_cn), (27, .none, s_bp), (51, .write, s_bh), (41, .none, s_cz), (76, .write, s_ce), (43, .write, s_cg), (44, .read, s_cf), (90, .write, s_cm), (21, .none, s_bd), (30, .none, s_bo), (85, .write, s_bf), (99, .read, s_ak), (46, .write, s_bj), (28, .none, s_cx), (100, .none, s_cv), (33, .read, s_bi), (91, .write, s_cl)], loc := [(3, 3), (7, 7), (59, 3), (124, 3), (160, 3)], eqt := [], n := 209, keep := [(1000037, [], [])] }
theorem q_ai : FnS cx_ai Try.f74 (bodyOf Try.f74) 2 = s_ai := by
  funext args K σ
  rcases args with _ | ⟨a0, _ | ⟨a1, _ | ⟨b, r⟩⟩⟩ <;> kernel_rfl
theorem e_ai : Entry Try.prog 74 .write s_ai :=
  entry (C := cx_ai) (TOk.cons e_be (TOk.cons e_aj (TOk.cons e_co (TOk.cons e_cn (TOk.cons e_bp (TOk.cons e_bh (TOk.cons e_cz (TOk.cons e_ce (TOk.cons e_cg (TOk.cons e_cf (TOk.cons e_cm (TOk.cons e_bd (TOk.cons e_bo (TOk.cons e_bf (TOk.cons e_ak (TOk.cons e_bj (TOk.cons e_cx (TOk.cons e_cv (TOk.cons e_bi (TOk.cons e_cl TOk.nil)))))))))))))))))))) mixedOk Try.func74 (by kernel_rfl) (by kernel_rfl) (by kernel_rfl) q_ai
def xl_ai : List (Nat × Nat) := [(3, 3), (7, 7), (59, 3), (124, 3), (160, 3)]
noncomputable def xc_ai : XC XN :=
(.seq none
 (.reg [zy xl_ai (.lb 3 9) 3 [.tmp 1],
  zc 4 (.bool false)])
 (.seq (some ([], []))
 (.seq none
 (.reg [zM 9 0,
  zN 10 9,
  zF 2 11 10,
  zL 12 11])
 (.block 0
 (.seq none
 (.reg [zb .eql rEql 20 [.tmp 12, .const (.int .i64 0)],
  zM 19 20])
 (.cond (.tmp 19)
 (.seq none
 (.seq none
 (.reg [zM 21 0,
  zN 22 21,
  zF 0 23 22,
  zL 24 23,
  zk .write s_be v_be 25 [.tmp 24],
  zb .lss rLss 26 [.tmp 25, .const (.int .i64 0)]])
 (.cond (.tmp 26)
 (.seq none
 (.reg [zM 27 0,
  zy xl_ai (.lr 3 9 true) 28 [.tmp 3],
  zk .write s_aj v_aj 29 [.tmp 27, .tmp 28, .const (.int .i64 5)]])
 (.seq none
 (.reg [zc 4 (.bool true)])
 .ret))
 .skip))
 (.seq none
 (.reg [zM 30 0,
  zN 31 30,
  zF 3 32 31,
  zy xl_ai (.lr 3 9 true) 33 [.tmp 3],
  zk .write s_co v_co 34 [.tmp 32, .tmp 33]])
 (.cond (.tmp 34)
 (.seq none
 (.reg [zM 36 0,
  zN 37 36,
  zF 3 38 37,
  zk .read s_cn v_cn 39 [.tmp 38],
  zM 35 39,
  zy xl_ai (.f (fExt 0)) 40 [.tmp 35],
  zy xl_ai (.f (fExt 1)) 41 [.tmp 35],
  zM 5 40,
  zM 6 41])
 (.seq none
 (.reg [zM 42 0,
  zM 43 0,
  zM 44 5,
  zN 45 42,
  zF 8 46 45,
  zS [.tmp 46, .tmp 44],
  zN 47 43,
  zF 2 48 47,
  zS [.tmp 48, .const (.int .i64 1)]])
 (.seq none
 (.reg [zM 49 6,
  zz (.f (fUn .not)) rNot (some 50) [.tmp 49]])
 (.cond (.tmp 50)
 (.seq none
 (.reg [zM 51 0,
  zy xl_ai (.lr 3 9 true) 52 [.tmp 3],
  zk .write s_aj v_aj 53 [.tmp 51, .tmp 52, .const (.int .i64 7)]])
 (.seq none
 (.reg [zc 4 (.bool true)])
 .ret))
 .skip))))
 .skip)))
 (.seq none
 (.reg [zb .eql rEql 55 [.tmp 12, .const (.int .i64 1)],
  zM 54 55])
 (.cond (.tmp 54)
 (.seq none
 (.reg [zM 56 0,
  zM 57 0,
  zy xl_ai (.lr 3 9 true) 58 [.tmp 3],
  zF 0 59 3,
  zy xl_ai (.lr 3 7 true) 60 [.tmp 59],
  zM 61 0,
  zN 62 61,
  zF 8 63 62,
  zL 64 63,
  zk .none s_bp v_bp 65 [.tmp 60, .tmp 64],
  zk .write s_bh v_bh 66 [.tmp 58, .tmp 65],
  zk .none s_cz v_cz 67 [.tmp 66],
  zy xl_ai (.f (fFldV 2 1 false)) 68 [.tmp 67],
  zN 69 56,
  zF 9 70 69,
  zS [.tmp 70, .tmp 68],
  zN 71 57,
  zF 2 72 71,
  zS [.tmp 72, .const (.int .i64 2)]])
 (.reg [zM 73 0,
  zM 74 0,
  zN 75 74,
  zF 0 76 75,
  zL 77 76,
  zk .write s_be v_be 78 [.tmp 77],
  zk .write s_ce v_ce 79 [.tmp 78],
  zN 80 73,
  zF 10 81 80,
  zS [.tmp 81, .tmp 79]]))
 (.seq none
 (.reg [zb .eql rEql 83 [.tmp 12, .const (.int .i64 2)],
  zM 82 83])
 (.cond (.tmp 82)
 (.seq none
 (.reg [zM 84 0,
  zN 85 84,
  zF 10 86 85,
  zL 87 86,
  zy xl_ai (.lr 3 9 true) 88 [.tmp 3],
  zk .write s_cg v_cg 89 [.tmp 87, .tmp 88]])
 (.cond (.tmp 89)
 (.seq none
 (.reg [zM 91 0,
  zN 92 91,
  zF 10 93 92,
  zL 94 93,
  zk .read s_cf v_cf 95 [.tmp 94],
  zM 90 95,
  zy xl_ai (.f (fExt 0)) 96 [.tmp 90],
  zy xl_ai (.f (fExt 1)) 97 [.tmp 90],
  zy xl_ai (.la 7 [.int .i64 0, .int .i64 0]) 7 [],
  zY xl_ai (.ls 7 2) [.tmp 7, .tmp 96],
  zM 8 97])
 (.seq none
 (.reg [zM 98 0,
  zM 99 0,
  zy xl_ai (.lr 7 2 true) 100 [.tmp 7],
  zN 101 98,
  zF 11 102 101,
  zY xl_ai (.store 2) [.tmp 102, .tmp 100],
  zN 103 99,
  zF 2 104 103,
  zS [.tmp 104, .const (.int .i64 3)]])
 (.seq none
 (.reg [zM 105 8,
  zz (.f (fUn .not)) rNot (some 106) [.tmp 105]])
 (.cond (.tmp 106)
 (.seq none
 (.reg [zM 107 0,
  zy xl_ai (.lr 3 9 true) 108 [.tmp 3],
  zk .write s_aj v_aj 109 [.tmp 107, .tmp 108, .const (.int .i64 6)]])
 (.reg [zM 110 0,
  zM 111 0,
  zM 112 0,
  zN 113 112,
  zF 8 114 113,
  zL 115 114,
  zk .write s_cm v_cm 116 [.tmp 115],
  zN 117 110,
  zF 13 118 117,
  zS [.tmp 118, .tmp 116],
  zN 119 111,
  zF 2 120 119,
  zS [.tmp 120, .const (.int .i64 7)]]))
 .skip))))
 .skip))
 (.seq none
 (.reg [zb .eql rEql 122 [.tmp 12, .const (.int .i64 3)],
  zM 121 122])
 (.cond (.tmp 121)
 (.seq none
 (.reg [zy xl_ai (.lr 3 9 true) 123 [.tmp 3],
  zF 0 124 3,
  zy xl_ai (.lr 3 7 true) 125 [.tmp 124],
  zM 126 0,
  zN 127 126,
  zF 11 128 127,
  zF 1 129 128,
  zL 130 129,
  zk .none s_bd v_bd 131 [.tmp 125, .tmp 130],
  zb .add rAdd 132 [.tmp 131, .const (.int .i64 1)],
  zM 133 0,
  zN 134 133,
  zF 0 135 134,
  zL 136 135,
  zk .write s_be v_be 137 [.tmp 136],
  zk .none s_bo v_bo 138 [.tmp 137],
  zk .write s_bf v_bf 139 [.tmp 123, .tmp 132, .tmp 138]])
 (.reg [zM 140 0,
  zN 141 140,
  zF 2 142 141,
  zS [.tmp 142, .const (.int .i64 4)]]))
 (.seq none
 (.reg [zb .eql rEql 144 [.tmp 12, .const (.int .i64 4)],
  zM 143 144])
 (.cond (.tmp 143)
 (.seq none
 (.reg [zy xl_ai (.lr 3 9 true) 145 [.tmp 3],
  zM 146 0,
  zN 147 146,
  zF 11 148 147,
  zF 0 149 148,
  zL 150 149,
  zM 151 0,
  zk .read s_ak v_ak 152 [.tmp 151, .const (.int .i64 1)],
  zk .write s_bj v_bj 153 [.tmp 145, .tmp 150, .tmp 152]])
 (.reg [zM 154 0,
  zN 155 154,
  zF 2 156 155,
  zS [.tmp 156, .const (.int .i64 5)]]))
 (.seq none
 (.reg [zb .eql rEql 158 [.tmp 12, .const (.int .i64 5)],
  zM 157 158])
 (.cond (.tmp 157)
 (.seq none
 (.reg [zy xl_ai (.lr 3 9 true) 159 [.tmp 3],
  zF 0 160 3,
  zy xl_ai (.lr 3 7 true) 161 [.tmp 160],
  zM 162 0,
  zN 163 162,
  zF 8 164 163,
  zL 165 164,
  zk .none s_bp v_bp 166 [.tmp 161, .tmp 165],
  zM 167 0,
  zN 168 167,
  zF 11 169 168,
  zF 0 170 169,
  zL 171 170,
  zM 172 0,
  zN 173 172,
  zF 9 174 173,
  zL 175 174,
  zy xl_ai (.f (fBuild [(0, 1), (1, 1), (2, 1), (3, 1)] [.int .i64 0, .int .i64 0, .int .i64 0, .int .i64 0] [0, 1, 2])) 176 [.const (.int .i64 1), .tmp 171, .tmp 175],
  zk .none s_cx v_cx 177 [.tmp 176],
  zk .write s_bj v_bj 178 [.tmp 159, .tmp 166, .tmp 177]])
 (.seq none
 (.reg [zM 179 0,
  zM 180 0,
  zN 181 180,
  zF 8 182 181,
  zL 183 182,
  zM 184 0,
  zN 185 184,
  zF 9 186 185,
  zL 187 186,
  zy xl_ai (.f (fBuild [(0, 1), (1, 1)] [.int .i64 0, .int .i64 0] [0, 1])) 188 [.tmp 183, .tmp 187],
  zk .none s_cv v_cv 189 [.tmp 188],
  zy xl_ai (.lr 3 9 true) 190 [.tmp 3],
  zk .read s_bi v_bi 191 [.tmp 190],
  zy xl_ai (.f (fBuild [(0, 1), (1, 1), (2, 1), (3, 1)] [.int .i64 0, .int .u64 0, .int .i64 0, .int .i64 0] [1, 3])) 192 [.tmp 189, .tmp 191],
  zN 193 179,
  zF 14 194 193,
  zY xl_ai (.store 4) [.tmp 194, .tmp 192]])
 (.reg [zM 195 0,
  zN 196 195,
  zF 2 197 196,
  zS [.tmp 197, .const (.int .i64 6)]])))
 (.seq none
 (.reg [zb .eql rEql 199 [.tmp 12, .const (.int .i64 6)],
  zM 198 199])
 (.cond (.tmp 198)
 (.seq none
 (.reg [zy xl_ai (.lr 3 9 true) 200 [.tmp 3],
  zM 201 0,
  zN 202 201,
  zF 11 203 202,
  zF 0 204 203,
  zL 205 204,
  zM 206 0,
  zk .read s_ak v_ak 207 [.tmp 206, .const (.int .i64 2)],
  zk .write s_bj v_bj 208 [.tmp 200, .tmp 205, .tmp 207]])
 (.seq none
 (.reg [zc 4 (.bool true)])
 .ret))
 (.seq none
 (.reg [zM 13 0,
  zN 14 13,
  zF 13 15 14,
  zL 16 15,
  zy xl_ai (.lr 3 9 true) 17 [.tmp 3],
  zk .write s_cl v_cl 18 [.tmp 16, .tmp 17],
  zM 4 18])
 .ret)))))))))))))))))
 (.seq none
 (.reg [zc 4 (.bool false)])
 .ret)))
noncomputable def v_ai : EvF := evFn 2 xc_ai [.t 4]
theorem xt_ai : toC cx_ai (bodyOf Try.f74) = some (xc_ai.map XN.sm) := by kernel_rfl
theorem xr_ai : toR cx_ai Try.f74.results.toList = some [.t 4] := by kernel_rfl
theorem xo_ai : xc_ai.ok xl_ai := ⟨⟨rAny_ok (trivial), rMove_ok, trivial⟩, ⟨⟨⟨rMove_ok, rNil_ok, rFld_ok _, rLoad1_ok, trivial⟩, ⟨⟨rEql_ok, rMove_ok, trivial⟩, ⟨⟨⟨⟨rMove_ok, rNil_ok, rFld_ok _, rLoad1_ok, rCall_ok ve_be, rLss_ok, trivial⟩, ⟨⟨⟨rMove_ok, rAny_ok (trivial), rCall_ok ve_aj, trivial⟩, ⟨⟨rMove_ok, trivial⟩, trivial⟩⟩, trivial⟩⟩, ⟨⟨rMove_ok, rNil_ok, rFld_ok _, rAny_ok (trivial), rCall_ok ve_co, trivial⟩, ⟨⟨⟨rMove_ok, rNil_ok, rFld_ok _, rCall_ok ve_cn, rMove_ok, rAny_ok (eqv_ext _), rAny_ok (eqv_ext _), rMove_ok, rMove_ok, trivial⟩, ⟨⟨rMove_ok, rMove_ok, rMove_ok, rNil_ok, rFld_ok _, rStore1_ok, rNil_ok, rFld_ok _, rStore1_ok, trivial⟩, ⟨⟨rMove_ok, rNot_ok, trivial⟩, ⟨⟨⟨rMove_ok, rAny_ok (trivial), rCall_ok ve_aj, trivial⟩, ⟨⟨rMove_ok, trivial⟩, trivial⟩⟩, trivial⟩⟩⟩⟩, trivial⟩⟩⟩, ⟨⟨rEql_ok, rMove_ok, trivial⟩, ⟨⟨⟨rMove_ok, rMove_ok, rAny_ok (trivial), rFld_ok _, rAny_ok (trivial), rMove_ok, rNil_ok, rFld_ok _, rLoad1_ok, rCall_ok ve_bp, rCall_ok ve_bh, rCall_ok ve_cz, rAny_ok (eqv_fldV _ _ _), rNil_ok, rFld_ok _, rStore1_ok, rNil_ok, rFld_ok _, rStore1_ok, trivial⟩, ⟨rMove_ok, rMove_ok, rNil_ok, rFld_ok _, rLoad1_ok, rCall_ok ve_be, rCall_ok ve_ce, rNil_ok, rFld_ok _, rStore1_ok, trivial⟩⟩, ⟨⟨rEql_ok, rMove_ok, trivial⟩, ⟨⟨⟨rMove_ok, rNil_ok, rFld_ok _, rLoad1_ok, rAny_ok (trivial), rCall_ok ve_cg, trivial⟩, ⟨⟨⟨rMove_ok, rNil_ok, rFld_ok _, rLoad1_ok, rCall_ok ve_cf, rMove_ok, rAny_ok (eqv_ext _), rAny_ok (eqv_ext _), rAny_ok (trivial), rAny_ok (trivial), rMove_ok, trivial⟩, ⟨⟨rMove_ok, rMove_ok, rAny_ok (trivial), rNil_ok, rFld_ok _, rAny_ok (trivial), rNil_ok, rFld_ok _, rStore1_ok, trivial⟩, ⟨⟨rMove_ok, rNot_ok, trivial⟩, ⟨⟨⟨rMove_ok, rAny_ok (trivial), rCall_ok ve_aj, trivial⟩, ⟨rMove_ok, rMove_ok, rMove_ok, rNil_ok, rFld_ok _, rLoad1_ok, rCall_ok ve_cm, rNil_ok, rFld_ok _, rStore1_ok, rNil_ok, rFld_ok _, rStore1_ok, trivial⟩⟩, trivial⟩⟩⟩⟩, trivial⟩⟩, ⟨⟨rEql_ok, rMove_ok, trivial⟩, ⟨⟨⟨rAny_ok (trivial), rFld_ok _, rAny_ok (trivial), rMove_ok, rNil_ok, rFld_ok _, rFld_ok _, rLoad1_ok, rCall_ok ve_bd, rAdd_ok, rMove_ok, rNil_ok, rFld_ok _, rLoad1_ok, rCall_ok ve_be, rCall_ok ve_bo, rCall_ok ve_bf, trivial⟩, ⟨rMove_ok, rNil_ok, rFld_ok _, rStore1_ok, trivial⟩⟩, ⟨⟨rEql_ok, rMove_ok, trivial⟩, ⟨⟨⟨rAny_ok (trivial), rMove_ok, rNil_ok, rFld_ok _, rFld_ok _, rLoad1_ok, rMove_ok, rCall_ok ve_ak, rCall_ok ve_bj, trivial⟩, ⟨rMove_ok, rNil_ok, rFld_ok _, rStore1_ok, trivial⟩⟩, ⟨⟨rEql_ok, rMove_ok, trivial⟩, ⟨⟨⟨rAny_ok (trivial), rFld_ok _, rAny_ok (trivial), rMove_ok, rNil_ok, rFld_ok _, rLoad1_ok, rCall_ok ve_bp, rMove_ok, rNil_ok, rFld_ok _, rFld_ok _, rLoad1_ok, rMove_ok, rNil_ok, rFld_ok _, rLoad1_ok, rAny_ok (eqv_build _ rfl _), rCall_ok ve_cx, rCall_ok ve_bj, trivial⟩, ⟨⟨rMove_ok, rMove_ok, rNil_ok, rFld_ok _, rLoad1_ok, rMove_ok, rNil_ok, rFld_ok _, rLoad1_ok, rAny_ok (eqv_build _ rfl _), rCall_ok ve_cv, rAny_ok (trivial), rCall_ok ve_bi, rAny_ok (eqv_build _ rfl _), rNil_ok, rFld_ok _, rAny_ok (trivial), trivial⟩, ⟨rMove_ok, rNil_ok, rFld_ok _, rStore1_ok, trivial⟩⟩⟩, ⟨⟨rEql_ok, rMove_ok, trivial⟩, ⟨⟨⟨rAny_ok (trivial), rMove_ok, rNil_ok, rFld_ok _, rFld_ok _, rLoad1_ok, rMove_ok, rCall_ok ve_ak, rCall_ok ve_bj, trivial⟩, ⟨⟨rMove_ok, trivial⟩, trivial⟩⟩, ⟨⟨rMove_ok, rNil_ok, rFld_ok _, rLoad1_ok, rAny_ok (trivial), rCall_ok ve_cl, rMove_ok, trivial⟩, trivial⟩⟩⟩⟩⟩⟩⟩⟩⟩⟩⟩⟩⟩⟩⟩⟩, ⟨⟨rMove_ok, trivial⟩, trivial⟩⟩⟩
theorem ve_ai : EvOk s_ai v_ai := EvOk.of (evFn_sound (C := cx_ai) xt_ai xr_ai xo_ai) q_ai
attribute [irreducible] w_ai_j1b w_ai_j1 w_ai s_ai
def w_ah (a0 : Value) (K : Value → Mem → Prop) (σ : Mem) : Prop :=
xF fMove [a0] fun v3 =>
xF (fBin .eql .ptr) [v3, .pointer none] fun v4 =>
xIf v4
 (xF (fBuild [(0, 1), (1, 1), (2, 1), (3, 1)] [.int .i64 0, .int .u64 0, .int .i64 0, .int .i64 0] [0]) [.int .i64 1] fun v5 =>
xC (gStore 4 [(locP 2), v5] [.int .i64 0, .int .u64 0, .int .i64 0, .int .i64 0]) fun c2 =>
xO (gLoad 4 true [(locP 2)] c2) fun r2 =>
K r2 σ)
 (xF fMove [a0] fun v6 =>
xF fNil [v6] fun v7 =>
xF (fFld 14) [v7] fun v8 =>
hLoad 4 true [v8] (fun v9 σ =>
xC (gStore 4 [(locP 2), v9] [.int .i64 0, .int .u64 0, .int .i64 0, .int .i64 0]) fun c2 =>
xO (gLoad 4 true [(locP 2)] c2) fun r2 =>
K r2 σ) σ)
def s_ah : Spec := fun args K σ => match args with
  | [a0] => w_ah a0 K σ
  | _ => False
noncomputable def cx_ah : Cx := { P := Try.prog, T := [], loc := [(2, 2)], eqt := [(112, .ptr)], n := 10, keep := [] }
theorem q_ah : FnS cx_ah Try.f75 (bodyOf Try.f75) 1 = s_ah := by
  funext args K σ
  rcases args with _ | ⟨a0, _ | ⟨b, r⟩⟩ <;> kernel_rfl
theorem e_ah : Entry Try.prog 75 .read s_ah :=
  entry (C := cx_ah) TOk.nil mixedOk Try.func75 (by kernel_rfl) (by kernel_rfl) (by kernel_rfl) q_ah
def xl_ah : List (Nat × Nat) := [(2, 2)]
noncomputable def xc_ah : XC XN :=
(.seq none
 (.reg [zy xl_ah (.la 2 [.int .i64 0, .int .u64 0, .int .i64 0, .int .i64 0]) 2 []])
 (.seq none
 (.seq none
 (.reg [zM 3 0,
  zy xl_ah (.f (fBin .eql .ptr)) 4 [.tmp 3, .const (.pointer none)]])
 (.cond (.tmp 4)
 (.seq none
 (.reg [zy xl_ah (.f (fBuild [(0, 1), (1, 1), (2, 1), (3, 1)] [.int .i64 0, .int .u64 0, .int .i64 0, .int .i64 0] [0])) 5 [.const (.int .i64 1)],
  zY xl_ah (.ls 2 4) [.tmp 2, .tmp 5]])
 .ret)
 .skip))
 (.seq none
 (.reg [zM 6 0,
  zN 7 6,
  zF 14 8 7,
  zy xl_ah (.load 4 true) 9 [.tmp 8],
  zY xl_ah (.ls 2 4) [.tmp 2, .tmp 9]])
 .ret)))
noncomputable def v_ah : EvF := evFn 1 xc_ah [.c 2 2 4 true]
theorem xt_ah : toC cx_ah (bodyOf Try.f75) = some (xc_ah.map XN.sm) := by kernel_rfl
theorem xr_ah : toR cx_ah Try.f75.results.toList = some [.c 2 2 4 true] := by kernel_rfl
theorem xo_ah : xc_ah.ok xl_ah := ⟨⟨rAny_ok (trivial), trivial⟩, ⟨⟨⟨rMove_ok, rAny_ok (eqv_bin _ _), trivial⟩, ⟨⟨⟨rAny_ok (eqv_build _ rfl _), rAny_ok (trivial), trivial⟩, trivial⟩, trivial⟩⟩, ⟨⟨rMove_ok, rNil_ok, rFld_ok _, rAny_ok (trivial), rAny_ok (trivial), trivial⟩, trivial⟩⟩⟩
theorem ve_ah : EvOk s_ah v_ah := EvOk.of (evFn_sound (C := cx_ah) xt_ah xr_ah xo_ah) q_ah
attribute [irreducible] w_ah s_ah
def w_aw_j1b (K : Value → Mem → Prop) (v7 : Value) (c6 : List Value) (σ : Mem) : Prop :=
xF fMove [v7] fun v19 =>
s_ah [v19] (fun v20 σ =>
xC (gStore 4 [(locP 6), v20] c6) fun c6 =>
xO (gLoad 4 true [(locP 6)] c6) fun r6 =>
K r6 σ) σ
def w_aw_j1 (K : Value → Mem → Prop) (ts : List Value) (ls : List (List Value)) (σ : Mem) : Prop := w_aw_j1b K (ts.getD 0 poison) (ls.getD 0 []) σ
def w_law08_Make_l4b (K : Value → Mem → Prop) (J1 : List Value → List (List Value) → Mem → Prop) (R1 : List Value → List (List Value) → Mem → Prop) (v7 v8 : Value) (c3 c6 : List Value) (σ : Mem) : Prop :=
xF fMove [v8] fun v12 =>
xF (fBin .lss .no) [v12, .int .i64 400] fun v13 =>
xIf v13
 (xF fMove [v7] fun v16 =>
xO (gLoad 9 true [(locP 3)] c3) fun v17 =>
s_ai [v16, v17] (fun v18 σ =>
xIf v18
 (J1 [v7] [c6] σ)
 (xF fMove [v8] fun v14 =>
xF (fBin .add .no) [v14, .int .i64 1] fun v15 =>
xF fMove [v15] fun v8 =>
R1 [v7, v8] [c3, c6] σ)) σ)
 (J1 [v7] [c6] σ)
def w_law08_Make_l4 (K : Value → Mem → Prop) (J1 : List Value → List (List Value) → Mem → Prop) (R1 : List Value → List (List Value) → Mem → Prop) (ts : List Value) (ls : List (List Value)) (σ : Mem) : Prop := w_law08_Make_l4b K J1 R1 (ts.getD 0 poison) (ts.getD 1 poison) (ls.getD 0 []) (ls.getD 1 []) σ
def w_aw (a0 a1 a2 : Value) (K : Value → Mem → Prop) (σ : Mem) : Prop :=
xC (gBox 9 [a0] []) fun c3 =>
xF fMove [a1] fun v9 =>
xF fMove [a2] fun v10 =>
s_al [v9, v10] (fun v11 σ =>
xF fMove [v11] fun v7 =>
xJoin (w_aw_j1 K) fun J1 =>
xF fMove [.int .i64 0] fun v8 =>
xLoop (w_law08_Make_l4 K J1) [v7, v8] [c3, [.int .i64 0, .int .u64 0, .int .i64 0, .int .i64 0]] σ) σ
def s_aw : Spec := fun args K σ => match args with
  | [a0, a1, a2] => w_aw a0 a1 a2 K σ
  | _ => False
noncomputable def cx_aw : Cx := { P := Try.prog, T := [(73, .write, s_al), (74, .write, s_ai), (75, .read, s_ah)], loc := [(3, 3), (6, 6)], eqt := [], n := 21, keep := [(4, [7, 8], [3, 6]), (1000007, [7], [6])] }
theorem q_aw : FnS cx_aw Try.f38 (bodyOf Try.f38) 3 = s_aw := by
  funext args K σ
  rcases args with _ | ⟨a0, _ | ⟨a1, _ | ⟨a2, _ | ⟨b, r⟩⟩⟩⟩ <;> kernel_rfl
theorem e_aw : Entry Try.prog 38 .write s_aw :=
  entry (C := cx_aw) (TOk.cons e_al (TOk.cons e_ai (TOk.cons e_ah TOk.nil))) mixedOk Try.func38 (by kernel_rfl) (by kernel_rfl) (by kernel_rfl) q_aw
def xl_aw : List (Nat × Nat) := [(3, 3), (6, 6)]
noncomputable def xc_aw : XC XN :=
(.seq none
 (.reg [zy xl_aw (.lb 3 9) 3 [.tmp 0],
  zy xl_aw (.la 6 [.int .i64 0, .int .u64 0, .int .i64 0, .int .i64 0]) 6 []])
 (.seq none
 (.reg [zM 9 1,
  zM 10 2,
  zk .write s_al v_al 11 [.tmp 9, .tmp 10],
  zM 7 11])
 (.seq (some ([7], [6]))
 (.seq none
 (.reg [zc 8 (.int .i64 0)])
 (.block 0
 (.loop ([7, 8], [3, 6])
 (.seq none
 (.seq none
 (.reg [zM 12 8,
  zb .lss rLss 13 [.tmp 12, .const (.int .i64 400)]])
 (.cond (.tmp 13)
 .skip
 (.exit 0)))
 (.seq none
 (.block 1
 (.seq none
 (.reg [zM 16 7,
  zy xl_aw (.lr 3 9 true) 17 [.tmp 3],
  zk .write s_ai v_ai 18 [.tmp 16, .tmp 17]])
 (.cond (.tmp 18)
 (.exit 0)
 .skip)))
 (.reg [zM 14 8,
  zb .add rAdd 15 [.tmp 14, .const (.int .i64 1)],
  zM 8 15]))))))
 (.seq none
 (.reg [zM 19 7,
  zk .read s_ah v_ah 20 [.tmp 19],
  zY xl_aw (.ls 6 4) [.tmp 6, .tmp 20]])
 .ret))))
noncomputable def v_aw : EvF := evFn 3 xc_aw [.c 6 6 4 true]
theorem xt_aw : toC cx_aw (bodyOf Try.f38) = some (xc_aw.map XN.sm) := by kernel_rfl
theorem xr_aw : toR cx_aw Try.f38.results.toList = some [.c 6 6 4 true] := by kernel_rfl
theorem xo_aw : xc_aw.ok xl_aw := ⟨⟨rAny_ok (trivial), rAny_ok (trivial), trivial⟩, ⟨⟨rMove_ok, rMove_ok, rCall_ok ve_al, rMove_ok, trivial⟩, ⟨⟨⟨rMove_ok, trivial⟩, ⟨⟨⟨rMove_ok, rLss_ok, trivial⟩, ⟨trivial, trivial⟩⟩, ⟨⟨⟨rMove_ok, rAny_ok (trivial), rCall_ok ve_ai, trivial⟩, ⟨trivial, trivial⟩⟩, ⟨rMove_ok, rAdd_ok, rMove_ok, trivial⟩⟩⟩⟩, ⟨⟨rMove_ok, rCall_ok ve_ah, rAny_ok (trivial), trivial⟩, trivial⟩⟩⟩⟩
theorem ve_aw : EvOk s_aw v_aw := EvOk.of (evFn_sound (C := cx_aw) xt_aw xr_aw xo_aw) q_aw
attribute [irreducible] w_aw_j1b w_aw_j1 w_law08_Make_l4b w_law08_Make_l4 w_aw s_aw
def w_ag (a0 a1 : Value) (K : Value → Mem → Prop) (σ : Mem) : Prop :=
xC (gBox 5 [a0] []) fun c2 =>
xF fMove [.pointer none] fun v4 =>
xO (gLoad 5 true [(locP 2)] c2) fun v5 =>
xF fMove [a1] fun v6 =>
xF (fBuild [(0, 5), (5, 1), (6, 2), (8, 1), (9, 1), (10, 1), (11, 1), (12, 1), (13, 1), (14, 1), (15, 4)] [.int .i64 0, .int .u64 0, .int .i64 0, .int .i64 0, .int .i64 0, .bool false, .int .i64 0, .int .i64 0, .int .i64 0, .int .u64 0, .int .u64 0, .int .i64 0, .int .i64 0, .int .i64 0, .pointer none, .int .i64 0, .int .u64 0, .int .i64 0, .int .i64 0] [0, 1]) [v5, v6] fun v7 =>
hBox 19 [v7] (fun v8 σ =>
xF fMove [v8] fun v4 =>
K v4 σ) σ
def s_ag : Spec := fun args K σ => match args with
  | [a0, a1] => w_ag a0 a1 K σ
  | _ => False
noncomputable def cx_ag : Cx := { P := Try.prog, T := [], loc := [(2, 2)], eqt := [], n := 9, keep := [] }
theorem q_ag : FnS cx_ag Try.f15 (bodyOf Try.f15) 2 = s_ag := by
  funext args K σ
  rcases args with _ | ⟨a0, _ | ⟨a1, _ | ⟨b, r⟩⟩⟩ <;> kernel_rfl
theorem e_ag : Entry Try.prog 15 .write s_ag :=
  entry (C := cx_ag) TOk.nil mixedOk Try.func15 (by kernel_rfl) (by kernel_rfl) (by kernel_rfl) q_ag
def xl_ag : List (Nat × Nat) := [(2, 2)]
noncomputable def xc_ag : XC XN :=
(.seq none
 (.reg [zy xl_ag (.lb 2 5) 2 [.tmp 0],
  zc 4 (.pointer none)])
 (.seq none
 (.reg [zy xl_ag (.lr 2 5 true) 5 [.tmp 2],
  zM 6 1,
  zy xl_ag (.f (fBuild [(0, 5), (5, 1), (6, 2), (8, 1), (9, 1), (10, 1), (11, 1), (12, 1), (13, 1), (14, 1), (15, 4)] [.int .i64 0, .int .u64 0, .int .i64 0, .int .i64 0, .int .i64 0, .bool false, .int .i64 0, .int .i64 0, .int .i64 0, .int .u64 0, .int .u64 0, .int .i64 0, .int .i64 0, .int .i64 0, .pointer none, .int .i64 0, .int .u64 0, .int .i64 0, .int .i64 0] [0, 1])) 7 [.tmp 5, .tmp 6],
  zy xl_ag (.box 19) 8 [.tmp 7],
  zM 4 8])
 .ret))
noncomputable def v_ag : EvF := evFn 2 xc_ag [.t 4]
theorem xt_ag : toC cx_ag (bodyOf Try.f15) = some (xc_ag.map XN.sm) := by kernel_rfl
theorem xr_ag : toR cx_ag Try.f15.results.toList = some [.t 4] := by kernel_rfl
theorem xo_ag : xc_ag.ok xl_ag := ⟨⟨rAny_ok (trivial), rMove_ok, trivial⟩, ⟨⟨rAny_ok (trivial), rMove_ok, rAny_ok (eqv_build _ rfl _), rAny_ok (trivial), rMove_ok, trivial⟩, trivial⟩⟩
theorem ve_ag : EvOk s_ag v_ag := EvOk.of (evFn_sound (C := cx_ag) xt_ag xr_ag xo_ag) q_ag
attribute [irreducible] w_ag s_ag
def w_cr_j1b (K : Value → Mem → Prop) (v0 v11 : Value) (c2 : List Value) (σ : Mem) : Prop :=
xIf v11
 (xF (fBuild [(0, 1), (1, 1)] [.int .i64 0, .int .i64 0] []) [] fun v12 =>
xC (gStore 2 [(locP 2), v12] c2) fun c2 =>
xF fMove [.bool false] fun v3 =>
xO (gLoad 2 true [(locP 2)] c2) fun r2 =>
K (.tuple #[r2, v3]) σ)
 (xF fMove [v0] fun v13 =>
xF (fBin .and .no) [v13, .int .u64 65535] fun v14 =>
xF (fConv .i64) [v14] fun v15 =>
xF fMove [v0] fun v16 =>
xF (fBin .shr .no) [v16, .int .u64 16] fun v17 =>
xF (fConv .i64) [v17] fun v18 =>
xF (fBuild [(0, 1), (1, 1)] [.int .i64 0, .int .i64 0] [0, 1]) [v15, v18] fun v19 =>
xC (gStore 2 [(locP 2), v19] c2) fun c2 =>
xF fMove [.bool true] fun v3 =>
xO (gLoad 2 true [(locP 2)] c2) fun r2 =>
K (.tuple #[r2, v3]) σ)
def w_cr_j1 (K : Value → Mem → Prop) (ts : List Value) (ls : List (List Value)) (σ : Mem) : Prop := w_cr_j1b K (ts.getD 0 poison) (ts.getD 1 poison) (ls.getD 0 []) σ
def w_cr (a0 : Value) (K : Value → Mem → Prop) (σ : Mem) : Prop :=
if true = true then (xC (gAlloc [.int .i64 0, .int .i64 0] [] []) fun c2 =>
xF fMove [.bool false] fun v3 =>
xJoin (w_cr_j1 K) fun J1 =>
xF fMove [a0] fun v4 =>
xF (fBin .shr .no) [v4, .int .u64 32] fun v5 =>
xF (fBin .neq .no) [v5, .int .u64 0] fun v6 =>
xF fMove [v6] fun v7 =>
xIf v7
 (xF fPick [.bool true, .bool true, undef] fun v11 =>
J1 [a0, v11] [c2] σ)
 (xF fMove [a0] fun v8 =>
xF (fBin .shr .no) [v8, .int .u64 16] fun v9 =>
xF (fBin .eql .no) [v9, .int .u64 0] fun v10 =>
xF fPick [.bool false, .bool true, v10] fun v11 =>
J1 [a0, v11] [c2] σ)) else False
def s_cr : Spec := fun args K σ => match args with
  | [a0] => w_cr a0 K σ
  | _ => False
noncomputable def cx_cr : Cx := { P := Try.prog, T := [], loc := [(2, 2)], eqt := [], n := 20, keep := [(1000003, [0, 11], [2])] }
theorem q_cr : FnS cx_cr Try.f40 (bodyOf Try.f40) 1 = s_cr := by
  funext args K σ
  rcases args with _ | ⟨a0, _ | ⟨b, r⟩⟩ <;> kernel_rfl
theorem e_cr : Entry Try.prog 40 .none s_cr :=
  entry (C := cx_cr) TOk.nil mixedOk Try.func40 (by kernel_rfl) (by kernel_rfl) (by kernel_rfl) q_cr
def xl_cr : List (Nat × Nat) := [(2, 2)]
noncomputable def xc_cr : XC XN :=
(.seq none
 (.reg [zy xl_cr (.la 2 [.int .i64 0, .int .i64 0]) 2 [],
  zc 3 (.bool false)])
 (.seq none
 (.seq (some ([0, 11], [2]))
 (.reg [zM 4 0,
  zy xl_cr (.f (fBin .shr .no)) 5 [.tmp 4, .const (.int .u64 32)],
  zb .neq rNeq 6 [.tmp 5, .const (.int .u64 0)],
  zM 7 6,
  ⟨(some (4, 3, false, some 7)), some 8, [.tmp 0], ⟨.f fMove, rMove⟩⟩,
  ⟨(some (5, 3, false, some 7)), some 9, [.tmp 8, (.const (.int .u64 16))], ⟨.f (fBin .shr .no), rAny xl_cr (.f (fBin .shr .no))⟩⟩,
  ⟨(some (6, 3, false, some 7)), some 10, [.tmp 9, (.const (.int .u64 0))], ⟨.f (fBin .eql .no), rEql⟩⟩,
  zz (.f fPick) rPick (some 11) [.tmp 7, .const (.bool true), .tmp 10]])
 (.cond (.tmp 11)
 (.seq none
 (.reg [zy xl_cr (.f (fBuild [(0, 1), (1, 1)] [.int .i64 0, .int .i64 0] [])) 12 [],
  zY xl_cr (.ls 2 2) [.tmp 2, .tmp 12],
  zc 3 (.bool false)])
 .ret)
 .skip))
 (.seq none
 (.reg [zM 13 0,
  zy xl_cr (.band .no) 14 [.tmp 13, .const (.int .u64 65535)],
  zz (.f (fConv .i64)) (rConv .i64) (some 15) [.tmp 14],
  zM 16 0,
  zy xl_cr (.f (fBin .shr .no)) 17 [.tmp 16, .const (.int .u64 16)],
  zz (.f (fConv .i64)) (rConv .i64) (some 18) [.tmp 17],
  zy xl_cr (.f (fBuild [(0, 1), (1, 1)] [.int .i64 0, .int .i64 0] [0, 1])) 19 [.tmp 15, .tmp 18],
  zY xl_cr (.ls 2 2) [.tmp 2, .tmp 19],
  zc 3 (.bool true)])
 .ret)))
noncomputable def v_cr : EvF := evFn 1 xc_cr [.c 2 2 2 true, .t 3]
theorem xt_cr : toC cx_cr (bodyOf Try.f40) = some (xc_cr.map XN.sm) := by kernel_rfl
theorem xr_cr : toR cx_cr Try.f40.results.toList = some [.c 2 2 2 true, .t 3] := by kernel_rfl
theorem xo_cr : xc_cr.ok xl_cr := ⟨⟨rAny_ok (trivial), rMove_ok, trivial⟩, ⟨⟨⟨rMove_ok, rAny_ok (eqv_bin _ _), rNeq_ok, rMove_ok, rMove_ok, rAny_ok (eqv_bin _ _), rEql_ok, rPick_ok, trivial⟩, ⟨⟨⟨rAny_ok (eqv_build _ rfl _), rAny_ok (trivial), rMove_ok, trivial⟩, trivial⟩, trivial⟩⟩, ⟨⟨rMove_ok, rAny_ok (trivial), rConv_ok _, rMove_ok, rAny_ok (eqv_bin _ _), rConv_ok _, rAny_ok (eqv_build _ rfl _), rAny_ok (trivial), rMove_ok, trivial⟩, trivial⟩⟩⟩
theorem ve_cr : EvOk s_cr v_cr := EvOk.of (evFn_sound (C := cx_cr) xt_cr xr_cr xo_cr) q_cr
attribute [irreducible] w_cr_j1b w_cr_j1 w_cr s_cr
def w_ae (a0 a1 a2 a3 : Value) (K : Value → Mem → Prop) (σ : Mem) : Prop :=
xF fMove [.bool false] fun v8 =>
xF fMove [a0] fun v9 =>
xF fMove [a1] fun v10 =>
xF fMove [a2] fun v11 =>
xF fMove [a3] fun v12 =>
xF (fBuild [(0, 1), (1, 1), (2, 1), (3, 1)] [.int .i64 0, .int .u64 0, .int .i64 0, .int .i64 0] [0, 2, 3]) [v10, v11, v12] fun v13 =>
xF fNil [v9] fun v14 =>
xF (fFld 15) [v14] fun v15 =>
hStore 4 [v15, v13] (fun _v σ =>
xF fMove [.bool true] fun v8 =>
K v8 σ) σ
def s_ae : Spec := fun args K σ => match args with
  | [a0, a1, a2, a3] => w_ae a0 a1 a2 a3 K σ
  | _ => False
noncomputable def cx_ae : Cx := { P := Try.prog, T := [], loc := [], eqt := [], n := 16, keep := [] }
theorem q_ae : FnS cx_ae Try.f56 (bodyOf Try.f56) 4 = s_ae := by
  funext args K σ
  rcases args with _ | ⟨a0, _ | ⟨a1, _ | ⟨a2, _ | ⟨a3, _ | ⟨b, r⟩⟩⟩⟩⟩ <;> kernel_rfl
theorem e_ae : Entry Try.prog 56 .write s_ae :=
  entry (C := cx_ae) TOk.nil mixedOk Try.func56 (by kernel_rfl) (by kernel_rfl) (by kernel_rfl) q_ae
def xl_ae : List (Nat × Nat) := []
noncomputable def xc_ae : XC XN :=
(.seq none
 (.reg [zc 8 (.bool false)])
 (.seq none
 (.reg [zM 9 0,
  zM 10 1,
  zM 11 2,
  zM 12 3,
  zy xl_ae (.f (fBuild [(0, 1), (1, 1), (2, 1), (3, 1)] [.int .i64 0, .int .u64 0, .int .i64 0, .int .i64 0] [0, 2, 3])) 13 [.tmp 10, .tmp 11, .tmp 12],
  zN 14 9,
  zF 15 15 14,
  zY xl_ae (.store 4) [.tmp 15, .tmp 13]])
 (.seq none
 (.reg [zc 8 (.bool true)])
 .ret)))
noncomputable def v_ae : EvF := evFn 4 xc_ae [.t 8]
theorem xt_ae : toC cx_ae (bodyOf Try.f56) = some (xc_ae.map XN.sm) := by kernel_rfl
theorem xr_ae : toR cx_ae Try.f56.results.toList = some [.t 8] := by kernel_rfl
theorem xo_ae : xc_ae.ok xl_ae := ⟨⟨rMove_ok, trivial⟩, ⟨⟨rMove_ok, rMove_ok, rMove_ok, rMove_ok, rAny_ok (eqv_build _ rfl _), rNil_ok, rFld_ok _, rAny_ok (trivial), trivial⟩, ⟨⟨rMove_ok, trivial⟩, trivial⟩⟩⟩
theorem ve_ae : EvOk s_ae v_ae := EvOk.of (evFn_sound (C := cx_ae) xt_ae xr_ae xo_ae) q_ae
attribute [irreducible] w_ae s_ae
def w_as (a0 a1 : Value) (K : Value → Mem → Prop) (σ : Mem) : Prop :=
xC (gBox 4 [a0] []) fun c2 =>
xC (gBox 2 [a1] []) fun c3 =>
xF fMove [.bool false] fun v4 =>
xF (fFld 0) [(locP 2)] fun v5 =>
xO (gLoad 1 false [v5] c2) fun v6 =>
xF (fBin .eql .no) [v6, .int .i64 1] fun v7 =>
xF fMove [v7] fun v8 =>
xIf v8
 (xF fPick [.bool true, .bool true, undef] fun v12 =>
xF fMove [v12] fun v13 =>
xIf v13
 (xF fPick [.bool true, .bool true, undef] fun v17 =>
xF fMove [v17] fun v18 =>
xIf v18
 (xF (fFld 2) [(locP 2)] fun v19 =>
xO (gLoad 1 false [v19] c2) fun v20 =>
xF (fFld 1) [(locP 3)] fun v21 =>
xO (gLoad 1 false [v21] c3) fun v22 =>
xF (fBin .eql .no) [v20, v22] fun v23 =>
xF fPick [.bool true, v23, .bool false] fun v24 =>
xF fMove [v24] fun v4 =>
K v4 σ)
 (xF fPick [.bool false, undef, .bool false] fun v24 =>
xF fMove [v24] fun v4 =>
K v4 σ))
 (xF (fFld 0) [(locP 2)] fun v14 =>
xO (gLoad 1 false [v14] c2) fun v15 =>
xF (fBin .eql .no) [v15, .int .i64 4] fun v16 =>
xF fPick [.bool false, .bool true, v16] fun v17 =>
xF fMove [v17] fun v18 =>
xIf v18
 (xF (fFld 2) [(locP 2)] fun v19 =>
xO (gLoad 1 false [v19] c2) fun v20 =>
xF (fFld 1) [(locP 3)] fun v21 =>
xO (gLoad 1 false [v21] c3) fun v22 =>
xF (fBin .eql .no) [v20, v22] fun v23 =>
xF fPick [.bool true, v23, .bool false] fun v24 =>
xF fMove [v24] fun v4 =>
K v4 σ)
 (xF fPick [.bool false, undef, .bool false] fun v24 =>
xF fMove [v24] fun v4 =>
K v4 σ)))
 (xF (fFld 0) [(locP 2)] fun v9 =>
xO (gLoad 1 false [v9] c2) fun v10 =>
xF (fBin .eql .no) [v10, .int .i64 2] fun v11 =>
xF fPick [.bool false, .bool true, v11] fun v12 =>
xF fMove [v12] fun v13 =>
xIf v13
 (xF fPick [.bool true, .bool true, undef] fun v17 =>
xF fMove [v17] fun v18 =>
xIf v18
 (xF (fFld 2) [(locP 2)] fun v19 =>
xO (gLoad 1 false [v19] c2) fun v20 =>
xF (fFld 1) [(locP 3)] fun v21 =>
xO (gLoad 1 false [v21] c3) fun v22 =>
xF (fBin .eql .no) [v20, v22] fun v23 =>
xF fPick [.bool true, v23, .bool false] fun v24 =>
xF fMove [v24] fun v4 =>
K v4 σ)
 (xF fPick [.bool false, undef, .bool false] fun v24 =>
xF fMove [v24] fun v4 =>
K v4 σ))
 (xF (fFld 0) [(locP 2)] fun v14 =>
xO (gLoad 1 false [v14] c2) fun v15 =>
xF (fBin .eql .no) [v15, .int .i64 4] fun v16 =>
xF fPick [.bool false, .bool true, v16] fun v17 =>
xF fMove [v17] fun v18 =>
xIf v18
 (xF (fFld 2) [(locP 2)] fun v19 =>
xO (gLoad 1 false [v19] c2) fun v20 =>
xF (fFld 1) [(locP 3)] fun v21 =>
xO (gLoad 1 false [v21] c3) fun v22 =>
xF (fBin .eql .no) [v20, v22] fun v23 =>
xF fPick [.bool true, v23, .bool false] fun v24 =>
xF fMove [v24] fun v4 =>
K v4 σ)
 (xF fPick [.bool false, undef, .bool false] fun v24 =>
xF fMove [v24] fun v4 =>
K v4 σ)))
def s_as : Spec := fun args K σ => match args with
  | [a0, a1] => w_as a0 a1 K σ
  | _ => False
noncomputable def cx_as : Cx := { P := Try.prog, T := [], loc := [(2, 2), (3, 3), (5, 2), (9, 2), (14, 2), (19, 2), (21, 3)], eqt := [], n := 25, keep := [] }
theorem q_as : FnS cx_as Try.f57 (bodyOf Try.f57) 2 = s_as := by
  funext args K σ
  rcases args with _ | ⟨a0, _ | ⟨a1, _ | ⟨b, r⟩⟩⟩ <;> kernel_rfl
theorem e_as : Entry Try.prog 57 .none s_as :=
  entry (C := cx_as) TOk.nil mixedOk Try.func57 (by kernel_rfl) (by kernel_rfl) (by kernel_rfl) q_as
def xl_as : List (Nat × Nat) := [(2, 2), (3, 3), (5, 2), (9, 2), (14, 2), (19, 2), (21, 3)]
noncomputable def xc_as : XC XN :=
(.seq none
 (.reg [zy xl_as (.lb 2 4) 2 [.tmp 0],
  zy xl_as (.lb 3 2) 3 [.tmp 1],
  zc 4 (.bool false)])
 (.seq none
 (.reg [zF 0 5 2,
  zr 2 6 5,
  zb .eql rEql 7 [.tmp 6, .const (.int .i64 1)],
  zM 8 7,
  ⟨(some (4, 3, false, some 8)), some 9, [.tmp 2], ⟨.f (fFld 0), rFld 0⟩⟩,
  ⟨(some (5, 3, false, some 8)), some 10, [.tmp 9], ⟨.lr 2 1 false, rLr1 2⟩⟩,
  ⟨(some (6, 3, false, some 8)), some 11, [.tmp 10, (.const (.int .i64 2))], ⟨.f (fBin .eql .no), rEql⟩⟩,
  zz (.f fPick) rPick (some 12) [.tmp 8, .const (.bool true), .tmp 11],
  zM 13 12,
  ⟨(some (9, 8, false, some 13)), some 14, [.tmp 2], ⟨.f (fFld 0), rFld 0⟩⟩,
  ⟨(some (10, 8, false, some 13)), some 15, [.tmp 14], ⟨.lr 2 1 false, rLr1 2⟩⟩,
  ⟨(some (11, 8, false, some 13)), some 16, [.tmp 15, (.const (.int .i64 4))], ⟨.f (fBin .eql .no), rEql⟩⟩,
  zz (.f fPick) rPick (some 17) [.tmp 13, .const (.bool true), .tmp 16],
  zM 18 17,
  ⟨(some (14, 13, true, some 18)), some 19, [.tmp 2], ⟨.f (fFld 2), rFld 2⟩⟩,
  ⟨(some (15, 13, true, some 18)), some 20, [.tmp 19], ⟨.lr 2 1 false, rLr1 2⟩⟩,
  ⟨(some (16, 13, true, some 18)), some 21, [.tmp 3], ⟨.f (fFld 1), rFld 1⟩⟩,
  ⟨(some (17, 13, true, some 18)), some 22, [.tmp 21], ⟨.lr 3 1 false, rLr1 3⟩⟩,
  ⟨(some (18, 13, true, some 18)), some 23, [.tmp 20, .tmp 22], ⟨.f (fBin .eql .no), rEql⟩⟩,
  zz (.f fPick) rPick (some 24) [.tmp 18, .tmp 23, .const (.bool false)],
  zM 4 24])
 .ret))
noncomputable def v_as : EvF := evFn 2 xc_as [.t 4]
theorem xt_as : toC cx_as (bodyOf Try.f57) = some (xc_as.map XN.sm) := by kernel_rfl
theorem xr_as : toR cx_as Try.f57.results.toList = some [.t 4] := by kernel_rfl
theorem xo_as : xc_as.ok xl_as := ⟨⟨rAny_ok (trivial), rAny_ok (trivial), rMove_ok, trivial⟩, ⟨⟨rFld_ok _, rLr1_ok _, rEql_ok, rMove_ok, rFld_ok _, rLr1_ok _, rEql_ok, rPick_ok, rMove_ok, rFld_ok _, rLr1_ok _, rEql_ok, rPick_ok, rMove_ok, rFld_ok _, rLr1_ok _, rFld_ok _, rLr1_ok _, rEql_ok, rPick_ok, rMove_ok, trivial⟩, trivial⟩⟩
theorem ve_as : EvOk s_as v_as := EvOk.of (evFn_sound (C := cx_as) xt_as xr_as xo_as) q_as
attribute [irreducible] w_as s_as
def w_cs (a0 : Value) (K : Value → Mem → Prop) (σ : Mem) : Prop :=
if true = true then (xC (gAlloc [.int .i64 0, .int .i64 0, .int .i64 0, .int .i64 0, .bool false] [] []) fun c2 =>
xF fMove [a0] fun v3 =>
xF (fBin .and .no) [v3, .int .u64 3] fun v4 =>
xF (fConv .i64) [v4] fun v5 =>
xF fMove [a0] fun v6 =>
xF (fBin .shr .no) [v6, .int .u64 2] fun v7 =>
xF (fBin .and .no) [v7, .int .u64 65535] fun v8 =>
xF (fConv .i64) [v8] fun v9 =>
xF fMove [a0] fun v10 =>
xF (fBin .shr .no) [v10, .int .u64 18] fun v11 =>
xF (fBin .and .no) [v11, .int .u64 65535] fun v12 =>
xF (fConv .i64) [v12] fun v13 =>
xF fMove [a0] fun v14 =>
xF (fBin .shr .no) [v14, .int .u64 34] fun v15 =>
xF (fBin .and .no) [v15, .int .u64 65535] fun v16 =>
xF (fConv .i64) [v16] fun v17 =>
xF fMove [a0] fun v18 =>
xF (fBin .shr .no) [v18, .int .u64 50] fun v19 =>
xF (fBin .and .no) [v19, .int .u64 1] fun v20 =>
xF (fBin .eql .no) [v20, .int .u64 1] fun v21 =>
xF (fBuild [(0, 1), (1, 1), (2, 1), (3, 1), (4, 1)] [.int .i64 0, .int .i64 0, .int .i64 0, .int .i64 0, .bool false] [0, 1, 2, 3, 4]) [v5, v9, v13, v17, v21] fun v22 =>
xC (gStore 5 [(locP 2), v22] c2) fun c2 =>
xO (gLoad 5 true [(locP 2)] c2) fun r2 =>
K r2 σ) else False
def s_cs : Spec := fun args K σ => match args with
  | [a0] => w_cs a0 K σ
  | _ => False
noncomputable def cx_cs : Cx := { P := Try.prog, T := [], loc := [(2, 2)], eqt := [], n := 23, keep := [] }
theorem q_cs : FnS cx_cs Try.f32 (bodyOf Try.f32) 1 = s_cs := by
  funext args K σ
  rcases args with _ | ⟨a0, _ | ⟨b, r⟩⟩ <;> kernel_rfl
theorem e_cs : Entry Try.prog 32 .none s_cs :=
  entry (C := cx_cs) TOk.nil mixedOk Try.func32 (by kernel_rfl) (by kernel_rfl) (by kernel_rfl) q_cs
def xl_cs : List (Nat × Nat) := [(2, 2)]
noncomputable def xc_cs : XC XN :=
(.seq none
 (.reg [zy xl_cs (.la 2 [.int .i64 0, .int .i64 0, .int .i64 0, .int .i64 0, .bool false]) 2 []])
 (.seq none
 (.reg [zM 3 0,
  zy xl_cs (.band .no) 4 [.tmp 3, .const (.int .u64 3)],
  zz (.f (fConv .i64)) (rConv .i64) (some 5) [.tmp 4],
  zM 6 0,
  zy xl_cs (.f (fBin .shr .no)) 7 [.tmp 6, .const (.int .u64 2)],
  zy xl_cs (.band .no) 8 [.tmp 7, .const (.int .u64 65535)],
  zz (.f (fConv .i64)) (rConv .i64) (some 9) [.tmp 8],
  zM 10 0,
  zy xl_cs (.f (fBin .shr .no)) 11 [.tmp 10, .const (.int .u64 18)],
  zy xl_cs (.band .no) 12 [.tmp 11, .const (.int .u64 65535)],
  zz (.f (fConv .i64)) (rConv .i64) (some 13) [.tmp 12],
  zM 14 0,
  zy xl_cs (.f (fBin .shr .no)) 15 [.tmp 14, .const (.int .u64 34)],
  zy xl_cs (.band .no) 16 [.tmp 15, .const (.int .u64 65535)],
  zz (.f (fConv .i64)) (rConv .i64) (some 17) [.tmp 16],
  zM 18 0,
  zy xl_cs (.f (fBin .shr .no)) 19 [.tmp 18, .const (.int .u64 50)],
  zy xl_cs (.band .no) 20 [.tmp 19, .const (.int .u64 1)],
  zb .eql rEql 21 [.tmp 20, .const (.int .u64 1)],
  zy xl_cs (.f (fBuild [(0, 1), (1, 1), (2, 1), (3, 1), (4, 1)] [.int .i64 0, .int .i64 0, .int .i64 0, .int .i64 0, .bool false] [0, 1, 2, 3, 4])) 22 [.tmp 5, .tmp 9, .tmp 13, .tmp 17, .tmp 21],
  zY xl_cs (.ls 2 5) [.tmp 2, .tmp 22]])
 .ret))
noncomputable def v_cs : EvF := evFn 1 xc_cs [.c 2 2 5 true]
theorem xt_cs : toC cx_cs (bodyOf Try.f32) = some (xc_cs.map XN.sm) := by kernel_rfl
theorem xr_cs : toR cx_cs Try.f32.results.toList = some [.c 2 2 5 true] := by kernel_rfl
theorem xo_cs : xc_cs.ok xl_cs := ⟨⟨rAny_ok (trivial), trivial⟩, ⟨⟨rMove_ok, rAny_ok (trivial), rConv_ok _, rMove_ok, rAny_ok (eqv_bin _ _), rAny_ok (trivial), rConv_ok _, rMove_ok, rAny_ok (eqv_bin _ _), rAny_ok (trivial), rConv_ok _, rMove_ok, rAny_ok (eqv_bin _ _), rAny_ok (trivial), rConv_ok _, rMove_ok, rAny_ok (eqv_bin _ _), rAny_ok (trivial), rEql_ok, rAny_ok (eqv_build _ rfl _), rAny_ok (trivial), trivial⟩, trivial⟩⟩
theorem ve_cs : EvOk s_cs v_cs := EvOk.of (evFn_sound (C := cx_cs) xt_cs xr_cs xo_cs) q_cs
attribute [irreducible] w_cs s_cs
def w_ac (a0 : Value) (K : Value → Mem → Prop) (σ : Mem) : Prop :=
xF fMove [.int .i64 0] fun v2 =>
xF fMove [a0] fun v3 =>
xF fNil [v3] fun v4 =>
xF (fFld 9) [v4] fun v5 =>
hLoad 1 false [v5] (fun v6 σ =>
s_cz [v6] (fun v7 σ =>
xF (fFldV 1 1 false) [v7] fun v8 =>
xF (fBin .add .no) [v8, .int .i64 1] fun v9 =>
xF fMove [a0] fun v10 =>
xF fNil [v10] fun v11 =>
xF (fFld 0) [v11] fun v12 =>
xF (fFld 2) [v12] fun v13 =>
hLoad 1 false [v13] (fun v14 σ =>
xF (fBin .add .no) [v9, v14] fun v15 =>
xF fMove [v15] fun v2 =>
K v2 σ) σ) σ) σ
def s_ac : Spec := fun args K σ => match args with
  | [a0] => w_ac a0 K σ
  | _ => False
noncomputable def cx_ac : Cx := { P := Try.prog, T := [(41, .none, s_cz)], loc := [], eqt := [], n := 16, keep := [] }
theorem q_ac : FnS cx_ac Try.f58 (bodyOf Try.f58) 1 = s_ac := by
  funext args K σ
  rcases args with _ | ⟨a0, _ | ⟨b, r⟩⟩ <;> kernel_rfl
theorem e_ac : Entry Try.prog 58 .read s_ac :=
  entry (C := cx_ac) (TOk.cons e_cz TOk.nil) mixedOk Try.func58 (by kernel_rfl) (by kernel_rfl) (by kernel_rfl) q_ac
def xl_ac : List (Nat × Nat) := []
noncomputable def xc_ac : XC XN :=
(.seq none
 (.reg [zc 2 (.int .i64 0)])
 (.seq none
 (.reg [zM 3 0,
  zN 4 3,
  zF 9 5 4,
  zL 6 5,
  zk .none s_cz v_cz 7 [.tmp 6],
  zy xl_ac (.f (fFldV 1 1 false)) 8 [.tmp 7],
  zb .add rAdd 9 [.tmp 8, .const (.int .i64 1)],
  zM 10 0,
  zN 11 10,
  zF 0 12 11,
  zF 2 13 12,
  zL 14 13,
  zb .add rAdd 15 [.tmp 9, .tmp 14],
  zM 2 15])
 .ret))
noncomputable def v_ac : EvF := evFn 1 xc_ac [.t 2]
theorem xt_ac : toC cx_ac (bodyOf Try.f58) = some (xc_ac.map XN.sm) := by kernel_rfl
theorem xr_ac : toR cx_ac Try.f58.results.toList = some [.t 2] := by kernel_rfl
theorem xo_ac : xc_ac.ok xl_ac := ⟨⟨rMove_ok, trivial⟩, ⟨⟨rMove_ok, rNil_ok, rFld_ok _, rLoad1_ok, rCall_ok ve_cz, rAny_ok (eqv_fldV _ _ _), rAdd_ok, rMove_ok, rNil_ok, rFld_ok _, rFld_ok _, rLoad1_ok, rAdd_ok, rMove_ok, trivial⟩, trivial⟩⟩
theorem ve_ac : EvOk s_ac v_ac := EvOk.of (evFn_sound (C := cx_ac) xt_ac xr_ac xo_ac) q_ac
attribute [irreducible] w_ac s_ac
def w_cp_j1b (K : Value → Mem → Prop) (c2 c3 : List Value) (σ : Mem) : Prop :=
xO (gLoad 3 true [(locP 3)] c3) fun v18 =>
xC (gStore 3 [(locP 2), v18] c2) fun c2 =>
xO (gLoad 3 true [(locP 2)] c2) fun r2 =>
K r2 σ
def w_cp_j1 (K : Value → Mem → Prop) (ts : List Value) (ls : List (List Value)) (σ : Mem) : Prop := w_cp_j1b K (ls.getD 0 []) (ls.getD 1 []) σ
def w_cp (a0 : Value) (K : Value → Mem → Prop) (σ : Mem) : Prop :=
if true = true then (xC (gAlloc [.int .i64 0, .bool false, .int .i64 0] [] []) fun c2 =>
xF fMove [a0] fun v4 =>
xF (fBin .and .no) [v4, .int .u64 1099511627775] fun v5 =>
xF (fConv .i64) [v5] fun v6 =>
xF fMove [a0] fun v7 =>
xF (fBin .shr .no) [v7, .int .u64 63] fun v8 =>
xF (fBin .eql .no) [v8, .int .u64 1] fun v9 =>
xF (fBuild [(0, 1), (1, 1), (2, 1)] [.int .i64 0, .bool false, .int .i64 0] [0, 1]) [v6, v9] fun v10 =>
if true = true then (xC (gAlloc [.int .i64 0, .bool false, .int .i64 0] [] []) fun c3 =>
xC (gStore 3 [(locP 3), v10] c3) fun c3 =>
xJoin (w_cp_j1 K) fun J1 =>
xF (fFld 1) [(locP 3)] fun v11 =>
xO (gLoad 1 false [v11] c3) fun v12 =>
xIf v12
 (xF fMove [a0] fun v13 =>
xF (fBin .shr .no) [v13, .int .u64 40] fun v14 =>
xF (fBin .and .no) [v14, .int .u64 4194303] fun v15 =>
xF (fConv .i64) [v15] fun v16 =>
xF (fFld 2) [(locP 3)] fun v17 =>
xC (gStore 1 [v17, v16] c3) fun c3 =>
J1 [] [c2, c3] σ)
 (J1 [] [c2, c3] σ)) else False) else False
def s_cp : Spec := fun args K σ => match args with
  | [a0] => w_cp a0 K σ
  | _ => False
noncomputable def cx_cp : Cx := { P := Try.prog, T := [], loc := [(2, 2), (3, 3), (11, 3), (17, 3)], eqt := [], n := 19, keep := [(1000005, [], [2, 3])] }
theorem q_cp : FnS cx_cp Try.f52 (bodyOf Try.f52) 1 = s_cp := by
  funext args K σ
  rcases args with _ | ⟨a0, _ | ⟨b, r⟩⟩ <;> kernel_rfl
theorem e_cp : Entry Try.prog 52 .none s_cp :=
  entry (C := cx_cp) TOk.nil mixedOk Try.func52 (by kernel_rfl) (by kernel_rfl) (by kernel_rfl) q_cp
def xl_cp : List (Nat × Nat) := [(2, 2), (3, 3), (11, 3), (17, 3)]
noncomputable def xc_cp : XC XN :=
(.seq none
 (.reg [zy xl_cp (.la 2 [.int .i64 0, .bool false, .int .i64 0]) 2 []])
 (.seq none
 (.reg [zM 4 0,
  zy xl_cp (.band .no) 5 [.tmp 4, .const (.int .u64 1099511627775)],
  zz (.f (fConv .i64)) (rConv .i64) (some 6) [.tmp 5],
  zM 7 0,
  zy xl_cp (.f (fBin .shr .no)) 8 [.tmp 7, .const (.int .u64 63)],
  zb .eql rEql 9 [.tmp 8, .const (.int .u64 1)],
  zy xl_cp (.f (fBuild [(0, 1), (1, 1), (2, 1)] [.int .i64 0, .bool false, .int .i64 0] [0, 1])) 10 [.tmp 6, .tmp 9],
  zy xl_cp (.la 3 [.int .i64 0, .bool false, .int .i64 0]) 3 [],
  zY xl_cp (.ls 3 3) [.tmp 3, .tmp 10]])
 (.seq (some ([], [2, 3]))
 (.seq none
 (.reg [zF 1 11 3,
  zr 3 12 11])
 (.cond (.tmp 12)
 (.reg [zM 13 0,
  zy xl_cp (.f (fBin .shr .no)) 14 [.tmp 13, .const (.int .u64 40)],
  zy xl_cp (.band .no) 15 [.tmp 14, .const (.int .u64 4194303)],
  zz (.f (fConv .i64)) (rConv .i64) (some 16) [.tmp 15],
  zF 2 17 3,
  zz (.ls 3 1) (rLs1 3) none [.tmp 17, .tmp 16]])
 .skip))
 (.seq none
 (.reg [zy xl_cp (.lr 3 3 true) 18 [.tmp 3],
  zY xl_cp (.ls 2 3) [.tmp 2, .tmp 18]])
 .ret))))
noncomputable def v_cp : EvF := evFn 1 xc_cp [.c 2 2 3 true]
theorem xt_cp : toC cx_cp (bodyOf Try.f52) = some (xc_cp.map XN.sm) := by kernel_rfl
theorem xr_cp : toR cx_cp Try.f52.results.toList = some [.c 2 2 3 true] := by kernel_rfl
theorem xo_cp : xc_cp.ok xl_cp := ⟨⟨rAny_ok (trivial), trivial⟩, ⟨⟨rMove_ok, rAny_ok (trivial), rConv_ok _, rMove_ok, rAny_ok (eqv_bin _ _), rEql_ok, rAny_ok (eqv_build _ rfl _), rAny_ok (trivial), rAny_ok (trivial), trivial⟩, ⟨⟨⟨rFld_ok _, rLr1_ok _, trivial⟩, ⟨⟨rMove_ok, rAny_ok (eqv_bin _ _), rAny_ok (trivial), rConv_ok _, rFld_ok _, rLs1_ok _, trivial⟩, trivial⟩⟩, ⟨⟨rAny_ok (trivial), rAny_ok (trivial), trivial⟩, trivial⟩⟩⟩⟩
theorem ve_cp : EvOk s_cp v_cp := EvOk.of (evFn_sound (C := cx_cp) xt_cp xr_cp xo_cp) q_cp
attribute [irreducible] w_cp_j1b w_cp_j1 w_cp s_cp
def w_af_j3b (K : Value → Mem → Prop) (v53 : Value) (σ : Mem) : Prop :=
xIf v53
 (xF fMove [.int .i64 3] fun v2 =>
K v2 σ)
 (xF fMove [.int .i64 0] fun v2 =>
K v2 σ)
def w_af_j3 (K : Value → Mem → Prop) (ts : List Value) (ls : List (List Value)) (σ : Mem) : Prop := w_af_j3b K (ts.getD 0 poison) σ
def w_af_j2b (K : Value → Mem → Prop) (v42 : Value) (c3 c4 : List Value) (σ : Mem) : Prop :=
xIf v42
 (xF fMove [.int .i64 5] fun v2 =>
K v2 σ)
 (xJoin (w_af_j3 K) fun J3 =>
xF (fFld 2) [(locP 3)] fun v54 =>
xO (gLoad 1 false [v54] c3) fun v55 =>
xF (fFld 3) [(locP 4)] fun v56 =>
xO (gLoad 1 false [v56] c4) fun v57 =>
xF (fBin .eql .no) [v55, v57] fun v58 =>
xF fMove [v58] fun v59 =>
xIf v59
 (xF (fFld 0) [(locP 4)] fun v60 =>
xO (gLoad 1 false [v60] c4) fun v61 =>
xF (fBin .eql .no) [v61, .int .i64 2] fun v62 =>
xF fPick [.bool true, v62, .bool false] fun v63 =>
xF fMove [v63] fun v53 =>
J3 [v53] [] σ)
 (xF fPick [.bool false, undef, .bool false] fun v63 =>
xF fMove [v63] fun v53 =>
J3 [v53] [] σ))
def w_af_j2 (K : Value → Mem → Prop) (ts : List Value) (ls : List (List Value)) (σ : Mem) : Prop := w_af_j2b K (ts.getD 0 poison) (ls.getD 0 []) (ls.getD 1 []) σ
def w_af_j1b (K : Value → Mem → Prop) (v15 : Value) (c3 c4 : List Value) (σ : Mem) : Prop :=
xIf v15
 (xF fMove [.int .i64 6] fun v2 =>
K v2 σ)
 (xF (fFld 0) [(locP 4)] fun v39 =>
xO (gLoad 1 false [v39] c4) fun v40 =>
xF (fBin .eql .no) [v40, .int .i64 4] fun v41 =>
xF fMove [v41] fun v38 =>
xIf v38
 (xF fMove [.int .i64 4] fun v2 =>
K v2 σ)
 (xJoin (w_af_j2 K) fun J2 =>
xF (fFld 1) [(locP 3)] fun v43 =>
xO (gLoad 1 false [v43] c3) fun v44 =>
xF (fUn .not) [v44] fun v45 =>
xF fMove [v45] fun v46 =>
xIf v46
 (xF fPick [.bool true, .bool true, undef] fun v52 =>
xF fMove [v52] fun v42 =>
J2 [v42] [c3, c4] σ)
 (xF (fFld 2) [(locP 3)] fun v47 =>
xO (gLoad 1 false [v47] c3) fun v48 =>
xF (fFld 3) [(locP 4)] fun v49 =>
xO (gLoad 1 false [v49] c4) fun v50 =>
xF (fBin .lss .no) [v48, v50] fun v51 =>
xF fPick [.bool false, .bool true, v51] fun v52 =>
xF fMove [v52] fun v42 =>
J2 [v42] [c3, c4] σ)))
def w_af_j1 (K : Value → Mem → Prop) (ts : List Value) (ls : List (List Value)) (σ : Mem) : Prop := w_af_j1b K (ts.getD 0 poison) (ls.getD 0 []) (ls.getD 1 []) σ
def w_af (a0 : Value) (K : Value → Mem → Prop) (σ : Mem) : Prop :=
xF fMove [.int .i64 0] fun v2 =>
xF fMove [a0] fun v5 =>
xF fNil [v5] fun v6 =>
xF (fFld 10) [v6] fun v7 =>
hLoad 1 false [v7] (fun v8 σ =>
s_cp [v8] (fun v9 σ =>
xF fMove [a0] fun v10 =>
xF fNil [v10] fun v11 =>
xF (fFld 9) [v11] fun v12 =>
hLoad 1 false [v12] (fun v13 σ =>
s_cz [v13] (fun v14 σ =>
xC (gStore 3 [(locP 3), v9] [.int .i64 0, .bool false, .int .i64 0]) fun c3 =>
xC (gStore 4 [(locP 4), v14] [.int .i64 0, .int .i64 0, .int .i64 0, .int .i64 0]) fun c4 =>
xJoin (w_af_j1 K) fun J1 =>
xF fMove [a0] fun v16 =>
xF fNil [v16] fun v17 =>
xF (fFld 0) [v17] fun v18 =>
xF (fFld 0) [v18] fun v19 =>
hLoad 1 false [v19] (fun v20 σ =>
xF (fBin .eql .no) [v20, .int .i64 1] fun v21 =>
xF fMove [v21] fun v15 =>
xIf v15
 (J1 [v15] [c3, c4] σ)
 (xF fMove [a0] fun v22 =>
xF fNil [v22] fun v23 =>
xF (fFld 0) [v23] fun v24 =>
xF (fFld 0) [v24] fun v25 =>
hLoad 1 false [v25] (fun v26 σ =>
xF (fBin .eql .no) [v26, .int .i64 3] fun v27 =>
xF fMove [v27] fun v28 =>
xIf v28
 (xF (fFld 0) [(locP 3)] fun v29 =>
xO (gLoad 1 false [v29] c3) fun v30 =>
xF fMove [a0] fun v31 =>
xF fNil [v31] fun v32 =>
xF (fFld 0) [v32] fun v33 =>
xF (fFld 4) [v33] fun v34 =>
hLoad 1 false [v34] (fun v35 σ =>
xF (fBin .neq .no) [v30, v35] fun v36 =>
xF fPick [.bool true, v36, .bool false] fun v37 =>
xF fMove [v37] fun v15 =>
J1 [v15] [c3, c4] σ) σ)
 (xF fPick [.bool false, undef, .bool false] fun v37 =>
xF fMove [v37] fun v15 =>
J1 [v15] [c3, c4] σ)) σ)) σ) σ) σ) σ) σ
def s_af : Spec := fun args K σ => match args with
  | [a0] => w_af a0 K σ
  | _ => False
noncomputable def cx_af : Cx := { P := Try.prog, T := [(52, .none, s_cp), (41, .none, s_cz)], loc := [(3, 3), (4, 4), (29, 3), (39, 4), (43, 3), (47, 3), (49, 4), (54, 3), (56, 4), (60, 4)], eqt := [], n := 64, keep := [(1000005, [15], [3, 4]), (1000009, [42], [3, 4]), (1000011, [53], [])] }
theorem q_af : FnS cx_af Try.f59 (bodyOf Try.f59) 1 = s_af := by
  funext args K σ
  rcases args with _ | ⟨a0, _ | ⟨b, r⟩⟩ <;> kernel_rfl
theorem e_af : Entry Try.prog 59 .read s_af :=
  entry (C := cx_af) (TOk.cons e_cp (TOk.cons e_cz TOk.nil)) mixedOk Try.func59 (by kernel_rfl) (by kernel_rfl) (by kernel_rfl) q_af
def xl_af : List (Nat × Nat) := [(3, 3), (4, 4), (29, 3), (39, 4), (43, 3), (47, 3), (49, 4), (54, 3), (56, 4), (60, 4)]
noncomputable def xc_af : XC XN :=
(.seq none
 (.reg [zc 2 (.int .i64 0)])
 (.seq none
 (.reg [zM 5 0,
  zN 6 5,
  zF 10 7 6,
  zL 8 7,
  zk .none s_cp v_cp 9 [.tmp 8],
  zM 10 0,
  zN 11 10,
  zF 9 12 11,
  zL 13 12,
  zk .none s_cz v_cz 14 [.tmp 13],
  zy xl_af (.la 3 [.int .i64 0, .bool false, .int .i64 0]) 3 [],
  zy xl_af (.la 4 [.int .i64 0, .int .i64 0, .int .i64 0, .int .i64 0]) 4 [],
  zY xl_af (.ls 3 3) [.tmp 3, .tmp 9],
  zY xl_af (.ls 4 4) [.tmp 4, .tmp 14]])
 (.seq none
 (.block 0
 (.seq (some ([15], [3, 4]))
 (.seq none
 (.reg [zM 16 0,
  zN 17 16,
  zF 0 18 17,
  zF 0 19 18,
  zL 20 19,
  zb .eql rEql 21 [.tmp 20, .const (.int .i64 1)],
  zM 15 21])
 (.cond (.tmp 15)
 .skip
 (.reg [zM 22 0,
  zN 23 22,
  zF 0 24 23,
  zF 0 25 24,
  zL 26 25,
  zb .eql rEql 27 [.tmp 26, .const (.int .i64 3)],
  zM 28 27,
  ⟨(some (7, 6, true, some 28)), some 29, [.tmp 3], ⟨.f (fFld 0), rFld 0⟩⟩,
  ⟨(some (8, 6, true, some 28)), some 30, [.tmp 29], ⟨.lr 3 1 false, rLr1 3⟩⟩,
  ⟨(some (9, 6, true, some 28)), some 31, [.tmp 0], ⟨.f fMove, rMove⟩⟩,
  ⟨(some (10, 6, true, some 28)), some 32, [.tmp 31], ⟨.f fNil, rNil⟩⟩,
  ⟨(some (11, 6, true, some 28)), some 33, [.tmp 32], ⟨.f (fFld 0), rFld 0⟩⟩,
  ⟨(some (12, 6, true, some 28)), some 34, [.tmp 33], ⟨.f (fFld 4), rFld 4⟩⟩,
  ⟨(some (13, 6, true, some 28)), some 35, [.tmp 34], ⟨.load 1 false, rLoad1⟩⟩,
  ⟨(some (14, 6, true, some 28)), some 36, [.tmp 30, .tmp 35], ⟨.f (fBin .neq .no), rNeq⟩⟩,
  zz (.f fPick) rPick (some 37) [.tmp 28, .tmp 36, .const (.bool false)],
  zM 15 37])))
 (.cond (.tmp 15)
 (.seq none
 (.reg [zc 2 (.int .i64 6)])
 .ret)
 (.seq none
 (.reg [zF 0 39 4,
  zr 4 40 39,
  zb .eql rEql 41 [.tmp 40, .const (.int .i64 4)],
  zM 38 41])
 (.cond (.tmp 38)
 (.seq none
 (.reg [zc 2 (.int .i64 4)])
 .ret)
 (.seq (some ([42], [3, 4]))
 (.reg [zF 1 43 3,
  zr 3 44 43,
  zz (.f (fUn .not)) rNot (some 45) [.tmp 44],
  zM 46 45,
  ⟨(some (4, 3, false, some 46)), some 47, [.tmp 3], ⟨.f (fFld 2), rFld 2⟩⟩,
  ⟨(some (5, 3, false, some 46)), some 48, [.tmp 47], ⟨.lr 3 1 false, rLr1 3⟩⟩,
  ⟨(some (6, 3, false, some 46)), some 49, [.tmp 4], ⟨.f (fFld 3), rFld 3⟩⟩,
  ⟨(some (7, 3, false, some 46)), some 50, [.tmp 49], ⟨.lr 4 1 false, rLr1 4⟩⟩,
  ⟨(some (8, 3, false, some 46)), some 51, [.tmp 48, .tmp 50], ⟨.f (fBin .lss .no), rLss⟩⟩,
  zz (.f fPick) rPick (some 52) [.tmp 46, .const (.bool true), .tmp 51],
  zM 42 52])
 (.cond (.tmp 42)
 (.seq none
 (.reg [zc 2 (.int .i64 5)])
 .ret)
 (.seq (some ([53], []))
 (.reg [zF 2 54 3,
  zr 3 55 54,
  zF 3 56 4,
  zr 4 57 56,
  zb .eql rEql 58 [.tmp 55, .tmp 57],
  zM 59 58,
  ⟨(some (6, 5, true, some 59)), some 60, [.tmp 4], ⟨.f (fFld 0), rFld 0⟩⟩,
  ⟨(some (7, 5, true, some 59)), some 61, [.tmp 60], ⟨.lr 4 1 false, rLr1 4⟩⟩,
  ⟨(some (8, 5, true, some 59)), some 62, [.tmp 61, (.const (.int .i64 2))], ⟨.f (fBin .eql .no), rEql⟩⟩,
  zz (.f fPick) rPick (some 63) [.tmp 59, .tmp 62, .const (.bool false)],
  zM 53 63])
 (.cond (.tmp 53)
 (.seq none
 (.reg [zc 2 (.int .i64 3)])
 .ret)
 .skip)))))))))
 (.seq none
 (.reg [zc 2 (.int .i64 0)])
 .ret))))
noncomputable def v_af : EvF := evFn 1 xc_af [.t 2]
theorem xt_af : toC cx_af (bodyOf Try.f59) = some (xc_af.map XN.sm) := by kernel_rfl
theorem xr_af : toR cx_af Try.f59.results.toList = some [.t 2] := by kernel_rfl
theorem xo_af : xc_af.ok xl_af := ⟨⟨rMove_ok, trivial⟩, ⟨⟨rMove_ok, rNil_ok, rFld_ok _, rLoad1_ok, rCall_ok ve_cp, rMove_ok, rNil_ok, rFld_ok _, rLoad1_ok, rCall_ok ve_cz, rAny_ok (trivial), rAny_ok (trivial), rAny_ok (trivial), rAny_ok (trivial), trivial⟩, ⟨⟨⟨⟨rMove_ok, rNil_ok, rFld_ok _, rFld_ok _, rLoad1_ok, rEql_ok, rMove_ok, trivial⟩, ⟨trivial, ⟨rMove_ok, rNil_ok, rFld_ok _, rFld_ok _, rLoad1_ok, rEql_ok, rMove_ok, rFld_ok _, rLr1_ok _, rMove_ok, rNil_ok, rFld_ok _, rFld_ok _, rLoad1_ok, rNeq_ok, rPick_ok, rMove_ok, trivial⟩⟩⟩, ⟨⟨⟨rMove_ok, trivial⟩, trivial⟩, ⟨⟨rFld_ok _, rLr1_ok _, rEql_ok, rMove_ok, trivial⟩, ⟨⟨⟨rMove_ok, trivial⟩, trivial⟩, ⟨⟨rFld_ok _, rLr1_ok _, rNot_ok, rMove_ok, rFld_ok _, rLr1_ok _, rFld_ok _, rLr1_ok _, rLss_ok, rPick_ok, rMove_ok, trivial⟩, ⟨⟨⟨rMove_ok, trivial⟩, trivial⟩, ⟨⟨rFld_ok _, rLr1_ok _, rFld_ok _, rLr1_ok _, rEql_ok, rMove_ok, rFld_ok _, rLr1_ok _, rEql_ok, rPick_ok, rMove_ok, trivial⟩, ⟨⟨⟨rMove_ok, trivial⟩, trivial⟩, trivial⟩⟩⟩⟩⟩⟩⟩⟩, ⟨⟨rMove_ok, trivial⟩, trivial⟩⟩⟩⟩
theorem ve_af : EvOk s_af v_af := EvOk.of (evFn_sound (C := cx_af) xt_af xr_af xo_af) q_af
attribute [irreducible] w_af_j3b w_af_j3 w_af_j2b w_af_j2 w_af_j1b w_af_j1 w_af s_af
def w_au (a0 a1 a2 : Value) (K : Value → Mem → Prop) (σ : Mem) : Prop :=
xF fMove [.pointer none] fun v6 =>
xF fMove [a0] fun v7 =>
xF fMove [a1] fun v8 =>
xF fMove [a2] fun v9 =>
xF (fBuild [(0, 1), (1, 1), (2, 1), (3, 1), (4, 1), (5, 1), (6, 1)] [.int .i64 0, .int .u64 0, .int .i64 0, .int .i64 0, .int .u64 0, .bool false, .bool false] [0, 1, 2]) [v7, v8, v9] fun v10 =>
hBox 7 [v10] (fun v11 σ =>
xF fMove [v11] fun v6 =>
K v6 σ) σ
def s_au : Spec := fun args K σ => match args with
  | [a0, a1, a2] => w_au a0 a1 a2 K σ
  | _ => False
noncomputable def cx_au : Cx := { P := Try.prog, T := [], loc := [], eqt := [], n := 12, keep := [] }
theorem q_au : FnS cx_au Try.f60 (bodyOf Try.f60) 3 = s_au := by
  funext args K σ
  rcases args with _ | ⟨a0, _ | ⟨a1, _ | ⟨a2, _ | ⟨b, r⟩⟩⟩⟩ <;> kernel_rfl
theorem e_au : Entry Try.prog 60 .write s_au :=
  entry (C := cx_au) TOk.nil mixedOk Try.func60 (by kernel_rfl) (by kernel_rfl) (by kernel_rfl) q_au
def xl_au : List (Nat × Nat) := []
noncomputable def xc_au : XC XN :=
(.seq none
 (.reg [zc 6 (.pointer none)])
 (.seq none
 (.reg [zM 7 0,
  zM 8 1,
  zM 9 2,
  zy xl_au (.f (fBuild [(0, 1), (1, 1), (2, 1), (3, 1), (4, 1), (5, 1), (6, 1)] [.int .i64 0, .int .u64 0, .int .i64 0, .int .i64 0, .int .u64 0, .bool false, .bool false] [0, 1, 2])) 10 [.tmp 7, .tmp 8, .tmp 9],
  zy xl_au (.box 7) 11 [.tmp 10],
  zM 6 11])
 .ret))
noncomputable def v_au : EvF := evFn 3 xc_au [.t 6]
theorem xt_au : toC cx_au (bodyOf Try.f60) = some (xc_au.map XN.sm) := by kernel_rfl
theorem xr_au : toR cx_au Try.f60.results.toList = some [.t 6] := by kernel_rfl
theorem xo_au : xc_au.ok xl_au := ⟨⟨rMove_ok, trivial⟩, ⟨⟨rMove_ok, rMove_ok, rMove_ok, rAny_ok (eqv_build _ rfl _), rAny_ok (trivial), rMove_ok, trivial⟩, trivial⟩⟩
theorem ve_au : EvOk s_au v_au := EvOk.of (evFn_sound (C := cx_au) xt_au xr_au xo_au) q_au
attribute [irreducible] w_au s_au
end Go.Fl
namespace Go.Fl
open Go Go.Proofs
set_option linter.unusedVariables false
set_option maxRecDepth 10000000
def w_ct_j1b (K : Value → Mem → Prop) (v3 : Value) (σ : Mem) : Prop :=
xF fMove [v3] fun v16 =>
xF fMove [v16] fun v2 =>
K v2 σ
def w_ct_j1 (K : Value → Mem → Prop) (ts : List Value) (ls : List (List Value)) (σ : Mem) : Prop := w_ct_j1b K (ts.getD 0 poison) σ
def w_ct (a0 : Value) (K : Value → Mem → Prop) (σ : Mem) : Prop :=
xC (gBox 3 [a0] []) fun c1 =>
xF fMove [.int .u64 0] fun v2 =>
xF (fFld 0) [(locP 1)] fun v4 =>
xO (gLoad 1 false [v4] c1) fun v5 =>
s_c1 [v5, .int .i64 1099511627775] (fun v6 σ =>
xF fMove [v6] fun v3 =>
xJoin (w_ct_j1 K) fun J1 =>
xF (fFld 1) [(locP 1)] fun v7 =>
xO (gLoad 1 false [v7] c1) fun v8 =>
xIf v8
 (xF fMove [v3] fun v9 =>
xF (fFld 2) [(locP 1)] fun v10 =>
xO (gLoad 1 false [v10] c1) fun v11 =>
s_c1 [v11, .int .i64 4194303] (fun v12 σ =>
xF (fBin .shl .no) [v12, .int .u64 40] fun v13 =>
xF (fBin .or .no) [.int .u64 9223372036854775808, v13] fun v14 =>
xF (fBin .or .no) [v9, v14] fun v15 =>
xF fMove [v15] fun v3 =>
J1 [v3] [] σ) σ)
 (J1 [v3] [] σ)) σ
def s_ct : Spec := fun args K σ => match args with
  | [a0] => w_ct a0 K σ
  | _ => False
noncomputable def cx_ct : Cx := { P := Try.prog, T := [(67, .none, s_c1)], loc := [(1, 1), (4, 1), (7, 1), (10, 1)], eqt := [], n := 17, keep := [(1000005, [3], [])] }
theorem q_ct : FnS cx_ct Try.f53 (bodyOf Try.f53) 1 = s_ct := by
  funext args K σ
  rcases args with _ | ⟨a0, _ | ⟨b, r⟩⟩ <;> kernel_rfl
theorem e_ct : Entry Try.prog 53 .none s_ct :=
  entry (C := cx_ct) (TOk.cons e_c1 TOk.nil) mixedOk Try.func53 (by kernel_rfl) (by kernel_rfl) (by kernel_rfl) q_ct
def xl_ct : List (Nat × Nat) := [(1, 1), (4, 1), (7, 1), (10, 1)]
noncomputable def xc_ct : XC XN :=
(.seq none
 (.reg [zy xl_ct (.lb 1 3) 1 [.tmp 0],
  zc 2 (.int .u64 0)])
 (.seq none
 (.reg [zF 0 4 1,
  zr 1 5 4,
  zk .none s_c1 v_c1 6 [.tmp 5, .const (.int .i64 1099511627775)],
  zM 3 6])
 (.seq (some ([3], []))
 (.seq none
 (.reg [zF 1 7 1,
  zr 1 8 7])
 (.cond (.tmp 8)
 (.reg [zM 9 3,
  zF 2 10 1,
  zr 1 11 10,
  zk .none s_c1 v_c1 12 [.tmp 11, .const (.int .i64 4194303)],
  zy xl_ct (.f (fBin .shl .no)) 13 [.tmp 12, .const (.int .u64 40)],
  zy xl_ct (.f (fBin .or .no)) 14 [.const (.int .u64 9223372036854775808), .tmp 13],
  zy xl_ct (.f (fBin .or .no)) 15 [.tmp 9, .tmp 14],
  zM 3 15])
 .skip))
 (.seq none
 (.reg [zM 16 3,
  zM 2 16])
 .ret))))
noncomputable def v_ct : EvF := evFn 1 xc_ct [.t 2]
theorem xt_ct : toC cx_ct (bodyOf Try.f53) = some (xc_ct.map XN.sm) := by kernel_rfl
theorem xr_ct : toR cx_ct Try.f53.results.toList = some [.t 2] := by kernel_rfl
theorem xo_ct : xc_ct.ok xl_ct := ⟨⟨rAny_ok (trivial), rMove_ok, trivial⟩, ⟨⟨rFld_ok _, rLr1_ok _, rCall_ok ve_c1, rMove_ok, trivial⟩, ⟨⟨⟨rFld_ok _, rLr1_ok _, trivial⟩, ⟨⟨rMove_ok, rFld_ok _, rLr1_ok _, rCall_ok ve_c1, rAny_ok (eqv_bin _ _), rAny_ok (eqv_bin _ _), rAny_ok (eqv_bin _ _), rMove_ok, trivial⟩, trivial⟩⟩, ⟨⟨rMove_ok, rMove_ok, trivial⟩, trivial⟩⟩⟩⟩
theorem ve_ct : EvOk s_ct v_ct := EvOk.of (evFn_sound (C := cx_ct) xt_ct xr_ct xo_ct) q_ct
attribute [irreducible] w_ct_j1b w_ct_j1 w_ct s_ct
def w_ar_j1b (K : Value → Mem → Prop) (σ : Mem) : Prop :=
xF fMove [.bool false] fun v4 =>
K v4 σ
def w_ar_j1 (K : Value → Mem → Prop) (ts : List Value) (ls : List (List Value)) (σ : Mem) : Prop := w_ar_j1b K σ
def w_ar_j2b (K : Value → Mem → Prop) (J1 : List Value → List (List Value) → Mem → Prop) (v0 : Value) (c3 c8 : List Value) (σ : Mem) : Prop :=
xF fMove [v0] fun v73 =>
xO (gLoad 9 true [(locP 3)] c3) fun v74 =>
xF (fFld 0) [(locP 3)] fun v75 =>
xO (gLoad 7 true [v75] c3) fun v76 =>
xF fMove [v0] fun v77 =>
xF fNil [v77] fun v78 =>
xF (fFld 0) [v78] fun v79 =>
hLoad 1 false [v79] (fun v80 σ =>
s_bp [v76, v80] (fun v81 σ =>
xF fMove [v0] fun v82 =>
xF fNil [v82] fun v83 =>
xF (fFld 1) [v83] fun v84 =>
hLoad 1 false [v84] (fun v85 σ =>
xO (gLoad 4 true [(locP 8)] c8) fun v86 =>
s_cx [v86] (fun v87 σ =>
s_bg [v74, v81, v85, v87] (fun v88 σ =>
xF fNil [v73] fun v89 =>
xF (fFld 6) [v89] fun v90 =>
hStore 1 [v90, v88] (fun _v σ =>
xF fMove [.bool true] fun v4 =>
K v4 σ) σ) σ) σ) σ) σ) σ
def w_ar_j2 (K : Value → Mem → Prop) (J1 : List Value → List (List Value) → Mem → Prop) (ts : List Value) (ls : List (List Value)) (σ : Mem) : Prop := w_ar_j2b K J1 (ts.getD 0 poison) (ls.getD 0 []) (ls.getD 1 []) σ
def w_ar_j3b (K : Value → Mem → Prop) (J1 : List Value → List (List Value) → Mem → Prop) (v0 : Value) (σ : Mem) : Prop :=
xF fMove [v0] fun v121 =>
xF fNil [v121] fun v122 =>
xF (fFld 5) [v122] fun v123 =>
hLoad 1 false [v123] (fun v124 σ =>
xF (fUn .not) [v124] fun v125 =>
xIf v125
 (xF fMove [v0] fun v126 =>
xF fNil [v126] fun v127 =>
xF (fFld 3) [v127] fun v128 =>
hLoad 1 false [v128] (fun v129 σ =>
xF (fBin .add .no) [v129, .int .i64 1] fun v130 =>
xF fNil [v126] fun v131 =>
xF (fFld 3) [v131] fun v132 =>
hStore 1 [v132, v130] (fun _v σ =>
J1 [] [] σ) σ) σ)
 (J1 [] [] σ)) σ
def w_ar_j3 (K : Value → Mem → Prop) (J1 : List Value → List (List Value) → Mem → Prop) (ts : List Value) (ls : List (List Value)) (σ : Mem) : Prop := w_ar_j3b K J1 (ts.getD 0 poison) σ
def w_ar (a0 a1 : Value) (K : Value → Mem → Prop) (σ : Mem) : Prop :=
xC (gBox 9 [a1] []) fun c3 =>
xF fMove [.bool false] fun v4 =>
xF fMove [a0] fun v9 =>
xF fNil [v9] fun v10 =>
xF (fFld 1) [v10] fun v11 =>
hLoad 1 false [v11] (fun v12 σ =>
s_cz [v12] (fun v13 σ =>
xC (gStore 4 [(locP 5), v13] [.int .i64 0, .int .i64 0, .int .i64 0, .int .i64 0]) fun c5 =>
xF (fFld 1) [(locP 5)] fun v14 =>
xO (gLoad 1 false [v14] c5) fun v15 =>
xF (fBin .add .no) [v15, .int .i64 1] fun v16 =>
xF fMove [a0] fun v17 =>
xF fNil [v17] fun v18 =>
xF (fFld 3) [v18] fun v19 =>
hLoad 1 false [v19] (fun v20 σ =>
xF (fBin .add .no) [v16, v20] fun v21 =>
xF fMove [v21] fun v6 =>
xF fMove [a0] fun v22 =>
xF fNil [v22] fun v23 =>
xF (fFld 4) [v23] fun v24 =>
hLoad 1 false [v24] (fun v25 σ =>
s_cp [v25] (fun v26 σ =>
xC (gStore 3 [(locP 7), v26] [.int .i64 0, .bool false, .int .i64 0]) fun c7 =>
xJoin (w_ar_j1 K) fun J1 =>
xF fMove [a0] fun v51 =>
xF fNil [v51] fun v52 =>
xF (fFld 3) [v52] fun v53 =>
hLoad 1 false [v53] (fun v54 σ =>
xF fMove [a0] fun v55 =>
xF fNil [v55] fun v56 =>
xF (fFld 2) [v56] fun v57 =>
hLoad 1 false [v57] (fun v58 σ =>
xF (fBin .geq .no) [v54, v58] fun v59 =>
xF fMove [v59] fun v50 =>
xIf v50
 (xF (fFld 2) [(locP 5)] fun v60 =>
xO (gLoad 1 false [v60] c5) fun v61 =>
xF (fBin .add .no) [v61, .int .i64 1] fun v62 =>
xF (fBuild [(0, 1), (1, 1), (2, 1), (3, 1)] [.int .i64 0, .int .i64 0, .int .i64 0, .int .i64 0] [0, 2]) [.int .i64 0, v62] fun v63 =>
xC (gStore 4 [(locP 8), v63] [.int .i64 0, .int .i64 0, .int .i64 0, .int .i64 0]) fun c8 =>
xJoin (w_ar_j2 K J1) fun J2 =>
xF (fFld 2) [(locP 5)] fun v64 =>
xO (gLoad 1 false [v64] c5) fun v65 =>
xF (fFld 0) [(locP 3)] fun v66 =>
xF (fFld 4) [v66] fun v67 =>
xO (gLoad 1 false [v67] c3) fun v68 =>
xF (fBin .geq .no) [v65, v68] fun v69 =>
xIf v69
 (xF (fFld 2) [(locP 5)] fun v70 =>
xO (gLoad 1 false [v70] c5) fun v71 =>
xF (fBuild [(0, 1), (1, 1), (2, 1), (3, 1)] [.int .i64 0, .int .i64 0, .int .i64 0, .int .i64 0] [0, 2]) [.int .i64 3, v71] fun v72 =>
xC (gStore 4 [(locP 8), v72] c8) fun c8 =>
J2 [a0] [c3, c8] σ)
 (J2 [a0] [c3, c8] σ))
 (xF fMove [a0] fun v92 =>
xF fNil [v92] fun v93 =>
xF (fFld 5) [v93] fun v94 =>
hLoad 1 false [v94] (fun v95 σ =>
xF (fUn .not) [v95] fun v96 =>
xF fMove [v96] fun v91 =>
xIf v91
 (xF fMove [a0] fun v97 =>
xO (gLoad 9 true [(locP 3)] c3) fun v98 =>
xF fMove [v6] fun v99 =>
s_bh [v98, v99] (fun v100 σ =>
xF fNil [v97] fun v101 =>
xF (fFld 4) [v101] fun v102 =>
hStore 1 [v102, v100] (fun _v σ =>
xF fMove [a0] fun v103 =>
xF fNil [v103] fun v104 =>
xF (fFld 4) [v104] fun v105 =>
hLoad 1 false [v105] (fun v106 σ =>
s_cp [v106] (fun v107 σ =>
xC (gStore 3 [(locP 7), v107] c7) fun c7 =>
xJoin (w_ar_j3 K J1) fun J3 =>
xF fMove [a0] fun v108 =>
xF (fFld 1) [(locP 7)] fun v109 =>
xO (gLoad 1 false [v109] c7) fun v110 =>
xF (fUn .not) [v110] fun v111 =>
xF fMove [v111] fun v112 =>
xIf v112
 (xF fPick [.bool true, .bool true, undef] fun v118 =>
xF fNil [v108] fun v119 =>
xF (fFld 5) [v119] fun v120 =>
hStore 1 [v120, v118] (fun _v σ =>
J3 [a0] [] σ) σ)
 (xF (fFld 2) [(locP 7)] fun v113 =>
xO (gLoad 1 false [v113] c7) fun v114 =>
xF (fFld 3) [(locP 5)] fun v115 =>
xO (gLoad 1 false [v115] c5) fun v116 =>
xF (fBin .neq .no) [v114, v116] fun v117 =>
xF fPick [.bool false, .bool true, v117] fun v118 =>
xF fNil [v108] fun v119 =>
xF (fFld 5) [v119] fun v120 =>
hStore 1 [v120, v118] (fun _v σ =>
J3 [a0] [] σ) σ)) σ) σ) σ) σ)
 (xF fMove [a0] fun v27 =>
xF fNil [v27] fun v28 =>
xF (fFld 5) [v28] fun v29 =>
hStore 1 [v29, .bool false] (fun _v σ =>
xO (gLoad 9 true [(locP 3)] c3) fun v30 =>
xF fMove [v6] fun v31 =>
xF fMove [a0] fun v32 =>
xF fNil [v32] fun v33 =>
xF (fFld 4) [v33] fun v34 =>
hLoad 1 false [v34] (fun v35 σ =>
xF (fFld 0) [(locP 7)] fun v36 =>
xO (gLoad 1 false [v36] c7) fun v37 =>
xF (fFld 3) [(locP 5)] fun v38 =>
xO (gLoad 1 false [v38] c5) fun v39 =>
xF (fBuild [(0, 1), (1, 1), (2, 1)] [.int .i64 0, .bool false, .int .i64 0] [0, 1, 2]) [v37, .bool true, v39] fun v40 =>
s_ct [v40] (fun v41 σ =>
s_bg [v30, v31, v35, v41] (fun v42 σ =>
xIf v42
 (xF fMove [a0] fun v43 =>
xF fNil [v43] fun v44 =>
xF (fFld 3) [v44] fun v45 =>
hLoad 1 false [v45] (fun v46 σ =>
xF (fBin .add .no) [v46, .int .i64 1] fun v47 =>
xF fNil [v43] fun v48 =>
xF (fFld 3) [v48] fun v49 =>
hStore 1 [v49, v47] (fun _v σ =>
J1 [] [] σ) σ) σ)
 (J1 [] [] σ)) σ) σ) σ) σ)) σ)) σ) σ) σ) σ) σ) σ) σ
def s_ar : Spec := fun args K σ => match args with
  | [a0, a1] => w_ar a0 a1 K σ
  | _ => False
noncomputable def cx_ar : Cx := { P := Try.prog, T := [(41, .none, s_cz), (52, .none, s_cp), (27, .none, s_bp), (28, .none, s_cx), (48, .write, s_bg), (51, .write, s_bh), (53, .none, s_ct)], loc := [(3, 3), (5, 5), (7, 7), (8, 8), (14, 5), (36, 7), (38, 5), (60, 5), (64, 5), (66, 3), (67, 3), (70, 5), (75, 3), (109, 7), (113, 7), (115, 5)], eqt := [], n := 133, keep := [(1000012, [0], [3, 8]), (1000018, [0], []), (1000020, [], [])] }
theorem q_ar : FnS cx_ar Try.f61 (bodyOf Try.f61) 2 = s_ar := by
  funext args K σ
  rcases args with _ | ⟨a0, _ | ⟨a1, _ | ⟨b, r⟩⟩⟩ <;> kernel_rfl
theorem e_ar : Entry Try.prog 61 .write s_ar :=
  entry (C := cx_ar) (TOk.cons e_cz (TOk.cons e_cp (TOk.cons e_bp (TOk.cons e_cx (TOk.cons e_bg (TOk.cons e_bh (TOk.cons e_ct TOk.nil))))))) mixedOk Try.func61 (by kernel_rfl) (by kernel_rfl) (by kernel_rfl) q_ar
def xl_ar : List (Nat × Nat) := [(3, 3), (5, 5), (7, 7), (8, 8), (14, 5), (36, 7), (38, 5), (60, 5), (64, 5), (66, 3), (67, 3), (70, 5), (75, 3), (109, 7), (113, 7), (115, 5)]
noncomputable def xc_ar : XC XN :=
(.seq none
 (.reg [zy xl_ar (.lb 3 9) 3 [.tmp 1],
  zc 4 (.bool false)])
 (.seq none
 (.reg [zM 9 0,
  zN 10 9,
  zF 1 11 10,
  zL 12 11,
  zk .none s_cz v_cz 13 [.tmp 12],
  zy xl_ar (.la 5 [.int .i64 0, .int .i64 0, .int .i64 0, .int .i64 0]) 5 [],
  zY xl_ar (.ls 5 4) [.tmp 5, .tmp 13]])
 (.seq none
 (.reg [zF 1 14 5,
  zr 5 15 14,
  zb .add rAdd 16 [.tmp 15, .const (.int .i64 1)],
  zM 17 0,
  zN 18 17,
  zF 3 19 18,
  zL 20 19,
  zb .add rAdd 21 [.tmp 16, .tmp 20],
  zM 6 21])
 (.seq none
 (.reg [zM 22 0,
  zN 23 22,
  zF 4 24 23,
  zL 25 24,
  zk .none s_cp v_cp 26 [.tmp 25],
  zy xl_ar (.la 7 [.int .i64 0, .bool false, .int .i64 0]) 7 [],
  zY xl_ar (.ls 7 3) [.tmp 7, .tmp 26]])
 (.seq (some ([], []))
 (.block 0
 (.seq none
 (.reg [zM 51 0,
  zN 52 51,
  zF 3 53 52,
  zL 54 53,
  zM 55 0,
  zN 56 55,
  zF 2 57 56,
  zL 58 57,
  zb .geq rGeq 59 [.tmp 54, .tmp 58],
  zM 50 59])
 (.cond (.tmp 50)
 (.seq none
 (.reg [zF 2 60 5,
  zr 5 61 60,
  zb .add rAdd 62 [.tmp 61, .const (.int .i64 1)],
  zy xl_ar (.f (fBuild [(0, 1), (1, 1), (2, 1), (3, 1)] [.int .i64 0, .int .i64 0, .int .i64 0, .int .i64 0] [0, 2])) 63 [.const (.int .i64 0), .tmp 62],
  zy xl_ar (.la 8 [.int .i64 0, .int .i64 0, .int .i64 0, .int .i64 0]) 8 [],
  zY xl_ar (.ls 8 4) [.tmp 8, .tmp 63]])
 (.seq (some ([0], [3, 8]))
 (.seq none
 (.reg [zF 2 64 5,
  zr 5 65 64,
  zF 0 66 3,
  zF 4 67 66,
  zr 3 68 67,
  zb .geq rGeq 69 [.tmp 65, .tmp 68]])
 (.cond (.tmp 69)
 (.reg [zF 2 70 5,
  zr 5 71 70,
  zy xl_ar (.f (fBuild [(0, 1), (1, 1), (2, 1), (3, 1)] [.int .i64 0, .int .i64 0, .int .i64 0, .int .i64 0] [0, 2])) 72 [.const (.int .i64 3), .tmp 71],
  zY xl_ar (.ls 8 4) [.tmp 8, .tmp 72]])
 .skip))
 (.seq none
 (.reg [zM 73 0,
  zy xl_ar (.lr 3 9 true) 74 [.tmp 3],
  zF 0 75 3,
  zy xl_ar (.lr 3 7 true) 76 [.tmp 75],
  zM 77 0,
  zN 78 77,
  zF 0 79 78,
  zL 80 79,
  zk .none s_bp v_bp 81 [.tmp 76, .tmp 80],
  zM 82 0,
  zN 83 82,
  zF 1 84 83,
  zL 85 84,
  zy xl_ar (.lr 8 4 true) 86 [.tmp 8],
  zk .none s_cx v_cx 87 [.tmp 86],
  zk .write s_bg v_bg 88 [.tmp 74, .tmp 81, .tmp 85, .tmp 87],
  zN 89 73,
  zF 6 90 89,
  zS [.tmp 90, .tmp 88]])
 (.seq none
 (.reg [zc 4 (.bool true)])
 .ret))))
 (.seq none
 (.reg [zM 92 0,
  zN 93 92,
  zF 5 94 93,
  zL 95 94,
  zz (.f (fUn .not)) rNot (some 96) [.tmp 95],
  zM 91 96])
 (.cond (.tmp 91)
 (.seq none
 (.reg [zM 97 0,
  zy xl_ar (.lr 3 9 true) 98 [.tmp 3],
  zM 99 6,
  zk .write s_bh v_bh 100 [.tmp 98, .tmp 99],
  zN 101 97,
  zF 4 102 101,
  zS [.tmp 102, .tmp 100]])
 (.seq none
 (.reg [zM 103 0,
  zN 104 103,
  zF 4 105 104,
  zL 106 105,
  zk .none s_cp v_cp 107 [.tmp 106],
  zY xl_ar (.ls 7 3) [.tmp 7, .tmp 107]])
 (.seq (some ([0], []))
 (.reg [zM 108 0,
  zF 1 109 7,
  zr 7 110 109,
  zz (.f (fUn .not)) rNot (some 111) [.tmp 110],
  zM 112 111,
  ⟨(some (5, 4, false, some 112)), some 113, [.tmp 7], ⟨.f (fFld 2), rFld 2⟩⟩,
  ⟨(some (6, 4, false, some 112)), some 114, [.tmp 113], ⟨.lr 7 1 false, rLr1 7⟩⟩,
  ⟨(some (7, 4, false, some 112)), some 115, [.tmp 5], ⟨.f (fFld 3), rFld 3⟩⟩,
  ⟨(some (8, 4, false, some 112)), some 116, [.tmp 115], ⟨.lr 5 1 false, rLr1 5⟩⟩,
  ⟨(some (9, 4, false, some 112)), some 117, [.tmp 114, .tmp 116], ⟨.f (fBin .neq .no), rNeq⟩⟩,
  zz (.f fPick) rPick (some 118) [.tmp 112, .const (.bool true), .tmp 117],
  zN 119 108,
  zF 5 120 119,
  zS [.tmp 120, .tmp 118]])
 (.seq none
 (.reg [zM 121 0,
  zN 122 121,
  zF 5 123 122,
  zL 124 123,
  zz (.f (fUn .not)) rNot (some 125) [.tmp 124]])
 (.cond (.tmp 125)
 (.reg [zM 126 0,
  zN 127 126,
  zF 3 128 127,
  zL 129 128,
  zb .add rAdd 130 [.tmp 129, .const (.int .i64 1)],
  zN 131 126,
  zF 3 132 131,
  zS [.tmp 132, .tmp 130]])
 .skip)))))
 (.seq none
 (.reg [zM 27 0,
  zN 28 27,
  zF 5 29 28,
  zS [.tmp 29, .const (.bool false)]])
 (.seq none
 (.reg [zy xl_ar (.lr 3 9 true) 30 [.tmp 3],
  zM 31 6,
  zM 32 0,
  zN 33 32,
  zF 4 34 33,
  zL 35 34,
  zF 0 36 7,
  zr 7 37 36,
  zF 3 38 5,
  zr 5 39 38,
  zy xl_ar (.f (fBuild [(0, 1), (1, 1), (2, 1)] [.int .i64 0, .bool false, .int .i64 0] [0, 1, 2])) 40 [.tmp 37, .const (.bool true), .tmp 39],
  zk .none s_ct v_ct 41 [.tmp 40],
  zk .write s_bg v_bg 42 [.tmp 30, .tmp 31, .tmp 35, .tmp 41]])
 (.cond (.tmp 42)
 (.reg [zM 43 0,
  zN 44 43,
  zF 3 45 44,
  zL 46 45,
  zb .add rAdd 47 [.tmp 46, .const (.int .i64 1)],
  zN 48 43,
  zF 3 49 48,
  zS [.tmp 49, .tmp 47]])
 .skip))))))))
 (.seq none
 (.reg [zc 4 (.bool false)])
 .ret))))))
noncomputable def v_ar : EvF := evFn 2 xc_ar [.t 4]
theorem xt_ar : toC cx_ar (bodyOf Try.f61) = some (xc_ar.map XN.sm) := by kernel_rfl
theorem xr_ar : toR cx_ar Try.f61.results.toList = some [.t 4] := by kernel_rfl
theorem xo_ar : xc_ar.ok xl_ar := ⟨⟨rAny_ok (trivial), rMove_ok, trivial⟩, ⟨⟨rMove_ok, rNil_ok, rFld_ok _, rLoad1_ok, rCall_ok ve_cz, rAny_ok (trivial), rAny_ok (trivial), trivial⟩, ⟨⟨rFld_ok _, rLr1_ok _, rAdd_ok, rMove_ok, rNil_ok, rFld_ok _, rLoad1_ok, rAdd_ok, rMove_ok, trivial⟩, ⟨⟨rMove_ok, rNil_ok, rFld_ok _, rLoad1_ok, rCall_ok ve_cp, rAny_ok (trivial), rAny_ok (trivial), trivial⟩, ⟨⟨⟨rMove_ok, rNil_ok, rFld_ok _, rLoad1_ok, rMove_ok, rNil_ok, rFld_ok _, rLoad1_ok, rGeq_ok, rMove_ok, trivial⟩, ⟨⟨⟨rFld_ok _, rLr1_ok _, rAdd_ok, rAny_ok (eqv_build _ rfl _), rAny_ok (trivial), rAny_ok (trivial), trivial⟩, ⟨⟨⟨rFld_ok _, rLr1_ok _, rFld_ok _, rFld_ok _, rLr1_ok _, rGeq_ok, trivial⟩, ⟨⟨rFld_ok _, rLr1_ok _, rAny_ok (eqv_build _ rfl _), rAny_ok (trivial), trivial⟩, trivial⟩⟩, ⟨⟨rMove_ok, rAny_ok (trivial), rFld_ok _, rAny_ok (trivial), rMove_ok, rNil_ok, rFld_ok _, rLoad1_ok, rCall_ok ve_bp, rMove_ok, rNil_ok, rFld_ok _, rLoad1_ok, rAny_ok (trivial), rCall_ok ve_cx, rCall_ok ve_bg, rNil_ok, rFld_ok _, rStore1_ok, trivial⟩, ⟨⟨rMove_ok, trivial⟩, trivial⟩⟩⟩⟩, ⟨⟨rMove_ok, rNil_ok, rFld_ok _, rLoad1_ok, rNot_ok, rMove_ok, trivial⟩, ⟨⟨⟨rMove_ok, rAny_ok (trivial), rMove_ok, rCall_ok ve_bh, rNil_ok, rFld_ok _, rStore1_ok, trivial⟩, ⟨⟨rMove_ok, rNil_ok, rFld_ok _, rLoad1_ok, rCall_ok ve_cp, rAny_ok (trivial), trivial⟩, ⟨⟨rMove_ok, rFld_ok _, rLr1_ok _, rNot_ok, rMove_ok, rFld_ok _, rLr1_ok _, rFld_ok _, rLr1_ok _, rNeq_ok, rPick_ok, rNil_ok, rFld_ok _, rStore1_ok, trivial⟩, ⟨⟨rMove_ok, rNil_ok, rFld_ok _, rLoad1_ok, rNot_ok, trivial⟩, ⟨⟨rMove_ok, rNil_ok, rFld_ok _, rLoad1_ok, rAdd_ok, rNil_ok, rFld_ok _, rStore1_ok, trivial⟩, trivial⟩⟩⟩⟩⟩, ⟨⟨rMove_ok, rNil_ok, rFld_ok _, rStore1_ok, trivial⟩, ⟨⟨rAny_ok (trivial), rMove_ok, rMove_ok, rNil_ok, rFld_ok _, rLoad1_ok, rFld_ok _, rLr1_ok _, rFld_ok _, rLr1_ok _, rAny_ok (eqv_build _ rfl _), rCall_ok ve_ct, rCall_ok ve_bg, trivial⟩, ⟨⟨rMove_ok, rNil_ok, rFld_ok _, rLoad1_ok, rAdd_ok, rNil_ok, rFld_ok _, rStore1_ok, trivial⟩, trivial⟩⟩⟩⟩⟩⟩⟩, ⟨⟨rMove_ok, trivial⟩, trivial⟩⟩⟩⟩⟩⟩
theorem ve_ar : EvOk s_ar v_ar := EvOk.of (evFn_sound (C := cx_ar) xt_ar xr_ar xo_ar) q_ar
attribute [irreducible] w_ar_j1b w_ar_j1 w_ar_j2b w_ar_j2 w_ar_j3b w_ar_j3 w_ar s_ar
def w_ad (a0 a1 : Value) (K : Value → Mem → Prop) (σ : Mem) : Prop :=
xC (gBox 9 [a1] []) fun c3 =>
xF fMove [.bool false] fun v4 =>
xO (gLoad 9 true [(locP 3)] c3) fun v7 =>
xF (fFld 0) [(locP 3)] fun v8 =>
xO (gLoad 7 true [v8] c3) fun v9 =>
xF fMove [a0] fun v10 =>
xF fNil [v10] fun v11 =>
xF (fFld 6) [v11] fun v12 =>
xF (fFld 0) [v12] fun v13 =>
hLoad 1 false [v13] (fun v14 σ =>
s_bp [v9, v14] (fun v15 σ =>
s_bh [v7, v15] (fun v16 σ =>
s_cz [v16] (fun v17 σ =>
xC (gStore 4 [(locP 5), v17] [.int .i64 0, .int .i64 0, .int .i64 0, .int .i64 0]) fun c5 =>
xF fMove [a0] fun v18 =>
xF fNil [v18] fun v19 =>
xF (fFld 10) [v19] fun v20 =>
hLoad 1 false [v20] (fun v21 σ =>
s_cp [v21] (fun v22 σ =>
xF (fFldV 0 1 false) [v22] fun v23 =>
xF fMove [v23] fun v6 =>
xO (gLoad 4 true [(locP 5)] c5) fun v25 =>
xF fMove [a0] fun v26 =>
xF fNil [v26] fun v27 =>
xF (fFld 6) [v27] fun v28 =>
hLoad 2 true [v28] (fun v29 σ =>
s_as [v25, v29] (fun v30 σ =>
xF (fUn .not) [v30] fun v31 =>
xF fMove [v31] fun v24 =>
xIf v24
 (xF fMove [a0] fun v32 =>
xO (gLoad 9 true [(locP 3)] c3) fun v33 =>
s_bi [v33] (fun v34 σ =>
s_ae [v32, .int .i64 3, .int .i64 0, v34] (fun v35 σ =>
xF fMove [v35] fun v4 =>
K v4 σ) σ) σ)
 (xF (fFld 1) [(locP 5)] fun v37 =>
xO (gLoad 1 false [v37] c5) fun v38 =>
xF fMove [a0] fun v39 =>
xF fNil [v39] fun v40 =>
xF (fFld 9) [v40] fun v41 =>
hLoad 1 false [v41] (fun v42 σ =>
s_cz [v42] (fun v43 σ =>
xF (fFldV 1 1 false) [v43] fun v44 =>
xF (fBin .neq .no) [v38, v44] fun v45 =>
xF fMove [v45] fun v36 =>
xIf v36
 (xF fMove [a0] fun v46 =>
xF fNil [v46] fun v47 =>
xF (fFld 8) [v47] fun v48 =>
hStore 1 [v48, .int .i64 0] (fun _v σ =>
xF fMove [.bool false] fun v4 =>
K v4 σ) σ)
 (xF fMove [a0] fun v50 =>
xF fNil [v50] fun v51 =>
xF (fFld 0) [v51] fun v52 =>
xF (fFld 0) [v52] fun v53 =>
hLoad 1 false [v53] (fun v54 σ =>
xF (fBin .eql .no) [v54, .int .i64 3] fun v55 =>
xF fMove [v55] fun v49 =>
xIf v49
 (xF fMove [a0] fun v56 =>
xF fMove [v6] fun v57 =>
xF fMove [a0] fun v58 =>
xF fNil [v58] fun v59 =>
xF (fFld 12) [v59] fun v60 =>
hLoad 1 false [v60] (fun v61 σ =>
s_ae [v56, .int .i64 8, v57, v61] (fun v62 σ =>
xF fMove [v62] fun v4 =>
K v4 σ) σ) σ)
 (xF fMove [a0] fun v63 =>
xF fMove [v6] fun v64 =>
xF fMove [a0] fun v65 =>
xF fNil [v65] fun v66 =>
xF (fFld 12) [v66] fun v67 =>
hLoad 1 false [v67] (fun v68 σ =>
s_ae [v63, .int .i64 0, v64, v68] (fun v69 σ =>
xF fMove [v69] fun v4 =>
K v4 σ) σ) σ)) σ)) σ) σ)) σ) σ) σ) σ) σ) σ) σ) σ
def s_ad : Spec := fun args K σ => match args with
  | [a0, a1] => w_ad a0 a1 K σ
  | _ => False
noncomputable def cx_ad : Cx := { P := Try.prog, T := [(27, .none, s_bp), (51, .write, s_bh), (41, .none, s_cz), (52, .none, s_cp), (57, .none, s_as), (33, .read, s_bi), (56, .write, s_ae)], loc := [(3, 3), (5, 5), (8, 3), (37, 5)], eqt := [], n := 70, keep := [] }
theorem q_ad : FnS cx_ad Try.f62 (bodyOf Try.f62) 2 = s_ad := by
  funext args K σ
  rcases args with _ | ⟨a0, _ | ⟨a1, _ | ⟨b, r⟩⟩⟩ <;> kernel_rfl
theorem e_ad : Entry Try.prog 62 .write s_ad :=
  entry (C := cx_ad) (TOk.cons e_bp (TOk.cons e_bh (TOk.cons e_cz (TOk.cons e_cp (TOk.cons e_as (TOk.cons e_bi (TOk.cons e_ae TOk.nil))))))) mixedOk Try.func62 (by kernel_rfl) (by kernel_rfl) (by kernel_rfl) q_ad
def xl_ad : List (Nat × Nat) := [(3, 3), (5, 5), (8, 3), (37, 5)]
noncomputable def xc_ad : XC XN :=
(.seq none
 (.reg [zy xl_ad (.lb 3 9) 3 [.tmp 1],
  zc 4 (.bool false)])
 (.seq none
 (.reg [zy xl_ad (.lr 3 9 true) 7 [.tmp 3],
  zF 0 8 3,
  zy xl_ad (.lr 3 7 true) 9 [.tmp 8],
  zM 10 0,
  zN 11 10,
  zF 6 12 11,
  zF 0 13 12,
  zL 14 13,
  zk .none s_bp v_bp 15 [.tmp 9, .tmp 14],
  zk .write s_bh v_bh 16 [.tmp 7, .tmp 15],
  zk .none s_cz v_cz 17 [.tmp 16],
  zy xl_ad (.la 5 [.int .i64 0, .int .i64 0, .int .i64 0, .int .i64 0]) 5 [],
  zY xl_ad (.ls 5 4) [.tmp 5, .tmp 17]])
 (.seq none
 (.reg [zM 18 0,
  zN 19 18,
  zF 10 20 19,
  zL 21 20,
  zk .none s_cp v_cp 22 [.tmp 21],
  zy xl_ad (.f (fFldV 0 1 false)) 23 [.tmp 22],
  zM 6 23])
 (.seq none
 (.block 0
 (.seq none
 (.reg [zy xl_ad (.lr 5 4 true) 25 [.tmp 5],
  zM 26 0,
  zN 27 26,
  zF 6 28 27,
  zy xl_ad (.load 2 true) 29 [.tmp 28],
  zk .none s_as v_as 30 [.tmp 25, .tmp 29],
  zz (.f (fUn .not)) rNot (some 31) [.tmp 30],
  zM 24 31])
 (.cond (.tmp 24)
 (.seq none
 (.reg [zM 32 0,
  zy xl_ad (.lr 3 9 true) 33 [.tmp 3],
  zk .read s_bi v_bi 34 [.tmp 33],
  zk .write s_ae v_ae 35 [.tmp 32, .const (.int .i64 3), .const (.int .i64 0), .tmp 34],
  zM 4 35])
 .ret)
 (.seq none
 (.reg [zF 1 37 5,
  zr 5 38 37,
  zM 39 0,
  zN 40 39,
  zF 9 41 40,
  zL 42 41,
  zk .none s_cz v_cz 43 [.tmp 42],
  zy xl_ad (.f (fFldV 1 1 false)) 44 [.tmp 43],
  zb .neq rNeq 45 [.tmp 38, .tmp 44],
  zM 36 45])
 (.cond (.tmp 36)
 (.seq none
 (.reg [zM 46 0,
  zN 47 46,
  zF 8 48 47,
  zS [.tmp 48, .const (.int .i64 0)]])
 (.seq none
 (.reg [zc 4 (.bool false)])
 .ret))
 (.seq none
 (.reg [zM 50 0,
  zN 51 50,
  zF 0 52 51,
  zF 0 53 52,
  zL 54 53,
  zb .eql rEql 55 [.tmp 54, .const (.int .i64 3)],
  zM 49 55])
 (.cond (.tmp 49)
 (.seq none
 (.reg [zM 56 0,
  zM 57 6,
  zM 58 0,
  zN 59 58,
  zF 12 60 59,
  zL 61 60,
  zk .write s_ae v_ae 62 [.tmp 56, .const (.int .i64 8), .tmp 57, .tmp 61],
  zM 4 62])
 .ret)
 .skip)))))))
 (.seq none
 (.reg [zM 63 0,
  zM 64 6,
  zM 65 0,
  zN 66 65,
  zF 12 67 66,
  zL 68 67,
  zk .write s_ae v_ae 69 [.tmp 63, .const (.int .i64 0), .tmp 64, .tmp 68],
  zM 4 69])
 .ret)))))
noncomputable def v_ad : EvF := evFn 2 xc_ad [.t 4]
theorem xt_ad : toC cx_ad (bodyOf Try.f62) = some (xc_ad.map XN.sm) := by kernel_rfl
theorem xr_ad : toR cx_ad Try.f62.results.toList = some [.t 4] := by kernel_rfl
theorem xo_ad : xc_ad.ok xl_ad := ⟨⟨rAny_ok (trivial), rMove_ok, trivial⟩, ⟨⟨rAny_ok (trivial), rFld_ok _, rAny_ok (trivial), rMove_ok, rNil_ok, rFld_ok _, rFld_ok _, rLoad1_ok, rCall_ok ve_bp, rCall_ok ve_bh, rCall_ok ve_cz, rAny_ok (trivial), rAny_ok (trivial), trivial⟩, ⟨⟨rMove_ok, rNil_ok, rFld_ok _, rLoad1_ok, rCall_ok ve_cp, rAny_ok (eqv_fldV _ _ _), rMove_ok, trivial⟩, ⟨⟨⟨rAny_ok (trivial), rMove_ok, rNil_ok, rFld_ok _, rAny_ok (trivial), rCall_ok ve_as, rNot_ok, rMove_ok, trivial⟩, ⟨⟨⟨rMove_ok, rAny_ok (trivial), rCall_ok ve_bi, rCall_ok ve_ae, rMove_ok, trivial⟩, trivial⟩, ⟨⟨rFld_ok _, rLr1_ok _, rMove_ok, rNil_ok, rFld_ok _, rLoad1_ok, rCall_ok ve_cz, rAny_ok (eqv_fldV _ _ _), rNeq_ok, rMove_ok, trivial⟩, ⟨⟨⟨rMove_ok, rNil_ok, rFld_ok _, rStore1_ok, trivial⟩, ⟨⟨rMove_ok, trivial⟩, trivial⟩⟩, ⟨⟨rMove_ok, rNil_ok, rFld_ok _, rFld_ok _, rLoad1_ok, rEql_ok, rMove_ok, trivial⟩, ⟨⟨⟨rMove_ok, rMove_ok, rMove_ok, rNil_ok, rFld_ok _, rLoad1_ok, rCall_ok ve_ae, rMove_ok, trivial⟩, trivial⟩, trivial⟩⟩⟩⟩⟩⟩, ⟨⟨rMove_ok, rMove_ok, rMove_ok, rNil_ok, rFld_ok _, rLoad1_ok, rCall_ok ve_ae, rMove_ok, trivial⟩, trivial⟩⟩⟩⟩⟩
theorem ve_ad : EvOk s_ad v_ad := EvOk.of (evFn_sound (C := cx_ad) xt_ad xr_ad xo_ad) q_ad
attribute [irreducible] w_ad s_ad
def w_ab_j1b (K : Value → Mem → Prop) (σ : Mem) : Prop :=
xF fMove [.bool false] fun v4 =>
K v4 σ
def w_ab_j1 (K : Value → Mem → Prop) (ts : List Value) (ls : List (List Value)) (σ : Mem) : Prop := w_ab_j1b K σ
def w_ab_j2b (K : Value → Mem → Prop) (J1 : List Value → List (List Value) → Mem → Prop) (v0 v40 : Value) (c3 c5 : List Value) (σ : Mem) : Prop :=
xIf v40
 (xF fMove [v0] fun v41 =>
xO (gLoad 9 true [(locP 3)] c3) fun v42 =>
s_bi [v42] (fun v43 σ =>
s_ae [v41, .int .i64 3, .int .i64 0, v43] (fun v44 σ =>
xF fMove [v44] fun v4 =>
K v4 σ) σ) σ)
 (xF fMove [v0] fun v45 =>
xO (gLoad 9 true [(locP 3)] c3) fun v46 =>
xF (fFld 0) [(locP 3)] fun v47 =>
xO (gLoad 7 true [v47] c3) fun v48 =>
xF (fFld 0) [(locP 5)] fun v49 =>
xO (gLoad 1 false [v49] c5) fun v50 =>
s_bp [v48, v50] (fun v51 σ =>
s_bh [v46, v51] (fun v52 σ =>
xF fNil [v45] fun v53 =>
xF (fFld 9) [v53] fun v54 =>
hStore 1 [v54, v52] (fun _v σ =>
xF fMove [v0] fun v55 =>
xF fMove [v0] fun v56 =>
xO (gLoad 9 true [(locP 3)] c3) fun v57 =>
s_bi [v57] (fun v58 σ =>
xF fNil [v55] fun v59 =>
xF (fFld 11) [v59] fun v60 =>
hStore 1 [v60, v58] (fun _v σ =>
xF fNil [v56] fun v61 =>
xF (fFld 8) [v61] fun v62 =>
hStore 1 [v62, .int .i64 1] (fun _v σ =>
xF fMove [v0] fun v63 =>
xF fNil [v63] fun v64 =>
xF (fFld 9) [v64] fun v65 =>
hLoad 1 false [v65] (fun v66 σ =>
s_cz [v66] (fun v67 σ =>
xO (gLoad 2 true [(locP 5)] c5) fun v68 =>
s_as [v67, v68] (fun v69 σ =>
xF (fUn .not) [v69] fun v70 =>
xIf v70
 (xF fMove [v0] fun v71 =>
xO (gLoad 9 true [(locP 3)] c3) fun v72 =>
s_bi [v72] (fun v73 σ =>
s_ae [v71, .int .i64 3, .int .i64 0, v73] (fun v74 σ =>
xF fMove [v74] fun v4 =>
K v4 σ) σ) σ)
 (J1 [] [] σ)) σ) σ) σ) σ) σ) σ) σ) σ) σ)
def w_ab_j2 (K : Value → Mem → Prop) (J1 : List Value → List (List Value) → Mem → Prop) (ts : List Value) (ls : List (List Value)) (σ : Mem) : Prop := w_ab_j2b K J1 (ts.getD 0 poison) (ts.getD 1 poison) (ls.getD 0 []) (ls.getD 1 []) σ
def w_ab_j3b (K : Value → Mem → Prop) (J1 : List Value → List (List Value) → Mem → Prop) (v0 v106 : Value) (σ : Mem) : Prop :=
xIf v106
 (xF fMove [v0] fun v123 =>
xF fMove [v0] fun v124 =>
xF fNil [v124] fun v125 =>
xF (fFld 11) [v125] fun v126 =>
hLoad 1 false [v126] (fun v127 σ =>
s_ae [v123, .int .i64 4, .int .i64 0, v127] (fun v128 σ =>
xF fMove [v128] fun v4 =>
K v4 σ) σ) σ)
 (J1 [] [] σ)
def w_ab_j3 (K : Value → Mem → Prop) (J1 : List Value → List (List Value) → Mem → Prop) (ts : List Value) (ls : List (List Value)) (σ : Mem) : Prop := w_ab_j3b K J1 (ts.getD 0 poison) (ts.getD 1 poison) σ
def w_ab (a0 a1 : Value) (K : Value → Mem → Prop) (σ : Mem) : Prop :=
xC (gBox 9 [a1] []) fun c3 =>
xF fMove [.bool false] fun v4 =>
xJoin (w_ab_j1 K) fun J1 =>
xF fMove [a0] fun v9 =>
xF fNil [v9] fun v10 =>
xF (fFld 8) [v10] fun v11 =>
hLoad 1 false [v11] (fun v12 σ =>
xF (fBin .eql .no) [v12, .int .i64 0] fun v17 =>
xF fMove [v17] fun v16 =>
xIf v16
 (xF fMove [a0] fun v19 =>
xF fNil [v19] fun v20 =>
xF (fFld 0) [v20] fun v21 =>
xF (fFld 1) [v21] fun v22 =>
hLoad 1 false [v22] (fun v23 σ =>
s_cr [v23] (fun v24 σ =>
xF fMove [v24] fun v18 =>
xF (fExt 0) [v18] fun v25 =>
xF (fExt 1) [v18] fun v26 =>
xC (gStore 2 [(locP 5), v25] [.int .i64 0, .int .i64 0]) fun c5 =>
xF fMove [v26] fun v6 =>
xF fMove [a0] fun v27 =>
xO (gLoad 2 true [(locP 5)] c5) fun v28 =>
xF fNil [v27] fun v29 =>
xF (fFld 6) [v29] fun v30 =>
hStore 2 [v30, v28] (fun _v σ =>
xJoin (w_ab_j2 K J1) fun J2 =>
xF fMove [v6] fun v31 =>
xF (fUn .not) [v31] fun v32 =>
xF fMove [v32] fun v33 =>
xIf v33
 (xF fPick [.bool true, .bool true, undef] fun v40 =>
J2 [a0, v40] [c3, c5] σ)
 (xF (fFld 0) [(locP 5)] fun v34 =>
xO (gLoad 1 false [v34] c5) fun v35 =>
xF (fFld 0) [(locP 3)] fun v36 =>
xF (fFld 1) [v36] fun v37 =>
xO (gLoad 1 false [v37] c3) fun v38 =>
xF (fBin .geq .no) [v35, v38] fun v39 =>
xF fPick [.bool false, .bool true, v39] fun v40 =>
J2 [a0, v40] [c3, c5] σ)) σ) σ) σ)
 (xF (fBin .eql .no) [v12, .int .i64 1] fun v76 =>
xF fMove [v76] fun v75 =>
xIf v75
 (xO (gLoad 9 true [(locP 3)] c3) fun v77 =>
xF fMove [a0] fun v78 =>
xF fNil [v78] fun v79 =>
xF (fFld 9) [v79] fun v80 =>
hLoad 1 false [v80] (fun v81 σ =>
s_cz [v81] (fun v82 σ =>
xF (fFldV 1 1 false) [v82] fun v83 =>
s_bh [v77, v83] (fun v84 σ =>
s_cs [v84] (fun v85 σ =>
xC (gStore 5 [(locP 7), v85] [.int .i64 0, .int .i64 0, .int .i64 0, .int .i64 0, .bool false]) fun c7 =>
xF fMove [a0] fun v86 =>
xF fMove [a0] fun v87 =>
xF (fFld 1) [(locP 7)] fun v88 =>
xO (gLoad 1 false [v88] c7) fun v89 =>
xF fNil [v86] fun v90 =>
xF (fFld 13) [v90] fun v91 =>
hStore 1 [v91, v89] (fun _v σ =>
xF fNil [v87] fun v92 =>
xF (fFld 8) [v92] fun v93 =>
hStore 1 [v93, .int .i64 2] (fun _v σ =>
xF (fFld 4) [(locP 7)] fun v95 =>
xO (gLoad 1 false [v95] c7) fun v96 =>
xF fMove [a0] fun v97 =>
xF fNil [v97] fun v98 =>
xF (fFld 5) [v98] fun v99 =>
hLoad 1 false [v99] (fun v100 σ =>
xF (fBin .neq .bool) [v96, v100] fun v101 =>
xF fMove [v101] fun v94 =>
xIf v94
 (xF fMove [a0] fun v102 =>
xO (gLoad 9 true [(locP 3)] c3) fun v103 =>
s_bi [v103] (fun v104 σ =>
s_ae [v102, .int .i64 3, .int .i64 0, v104] (fun v105 σ =>
xF fMove [v105] fun v4 =>
K v4 σ) σ) σ)
 (xJoin (w_ab_j3 K J1) fun J3 =>
xF fMove [a0] fun v107 =>
xF fNil [v107] fun v108 =>
xF (fFld 0) [v108] fun v109 =>
xF (fFld 2) [v109] fun v110 =>
hLoad 1 false [v110] (fun v111 σ =>
xF (fBin .lss .no) [v111, .int .i64 0] fun v112 =>
xF fMove [v112] fun v113 =>
xIf v113
 (xF fPick [.bool true, .bool true, undef] fun v122 =>
xF fMove [v122] fun v106 =>
J3 [a0, v106] [] σ)
 (xF fMove [a0] fun v114 =>
xF fNil [v114] fun v115 =>
xF (fFld 0) [v115] fun v116 =>
xF (fFld 2) [v116] fun v117 =>
hLoad 1 false [v117] (fun v118 σ =>
xF (fFld 1) [(locP 7)] fun v119 =>
xO (gLoad 1 false [v119] c7) fun v120 =>
xF (fBin .geq .no) [v118, v120] fun v121 =>
xF fPick [.bool false, .bool true, v121] fun v122 =>
xF fMove [v122] fun v106 =>
J3 [a0, v106] [] σ) σ)) σ)) σ) σ) σ) σ) σ) σ) σ)
 (xF (fBin .eql .no) [v12, .int .i64 2] fun v130 =>
xF fMove [v130] fun v129 =>
xIf v129
 (xF fMove [a0] fun v131 =>
xO (gLoad 9 true [(locP 3)] c3) fun v132 =>
xF fMove [a0] fun v133 =>
s_ac [v133] (fun v134 σ =>
s_bh [v132, v134] (fun v135 σ =>
xF fNil [v131] fun v136 =>
xF (fFld 10) [v136] fun v137 =>
hStore 1 [v137, v135] (fun _v σ =>
xF fMove [a0] fun v138 =>
xF fMove [a0] fun v139 =>
xO (gLoad 9 true [(locP 3)] c3) fun v140 =>
s_bi [v140] (fun v141 σ =>
xF fMove [a0] fun v142 =>
s_af [v142] (fun v143 σ =>
xF fNil [v138] fun v144 =>
xF (fFld 12) [v144] fun v145 =>
hStore 1 [v145, v141] (fun _v σ =>
xF fNil [v139] fun v146 =>
xF (fFld 8) [v146] fun v147 =>
hStore 1 [v147, v143] (fun _v σ =>
xF fMove [a0] fun v148 =>
xF fNil [v148] fun v149 =>
xF (fFld 8) [v149] fun v150 =>
hLoad 1 false [v150] (fun v151 σ =>
xF (fBin .eql .no) [v151, .int .i64 4] fun v152 =>
xIf v152
 (xF fMove [a0] fun v153 =>
xF fMove [a0] fun v154 =>
xF fNil [v154] fun v155 =>
xF (fFld 6) [v155] fun v156 =>
xF (fFld 0) [v156] fun v157 =>
hLoad 1 false [v157] (fun v158 σ =>
xF fMove [a0] fun v159 =>
xF fNil [v159] fun v160 =>
xF (fFld 9) [v160] fun v161 =>
hLoad 1 false [v161] (fun v162 σ =>
xF fMove [a0] fun v163 =>
xF fNil [v163] fun v164 =>
xF (fFld 13) [v164] fun v165 =>
hLoad 1 false [v165] (fun v166 σ =>
s_au [v158, v162, v166] (fun v167 σ =>
xF fNil [v153] fun v168 =>
xF (fFld 14) [v168] fun v169 =>
hStore 1 [v169, v167] (fun _v σ =>
J1 [] [] σ) σ) σ) σ) σ) σ)
 (J1 [] [] σ)) σ) σ) σ) σ) σ) σ) σ) σ)
 (xF (fBin .eql .no) [v12, .int .i64 3] fun v171 =>
xF fMove [v171] fun v170 =>
xIf v170
 (xF fMove [a0] fun v172 =>
xF fNil [v172] fun v173 =>
xF (fFld 9) [v173] fun v174 =>
hLoad 1 false [v174] (fun v175 σ =>
s_cz [v175] (fun v176 σ =>
xC (gStore 4 [(locP 8), v176] [.int .i64 0, .int .i64 0, .int .i64 0, .int .i64 0]) fun c8 =>
xF (fFld 3) [(locP 8)] fun v177 =>
xO (gLoad 1 false [v177] c8) fun v178 =>
xF (fBin .add .no) [v178, .int .i64 1] fun v179 =>
xF (fFld 0) [(locP 8)] fun v180 =>
xC (gStore 1 [v180, .int .i64 1] c8) fun c8 =>
xF (fFld 3) [(locP 8)] fun v181 =>
xC (gStore 1 [v181, v179] c8) fun c8 =>
xO (gLoad 9 true [(locP 3)] c3) fun v182 =>
xF (fFld 0) [(locP 3)] fun v183 =>
xO (gLoad 7 true [v183] c3) fun v184 =>
xF fMove [a0] fun v185 =>
xF fNil [v185] fun v186 =>
xF (fFld 6) [v186] fun v187 =>
xF (fFld 0) [v187] fun v188 =>
hLoad 1 false [v188] (fun v189 σ =>
s_bp [v184, v189] (fun v190 σ =>
xF fMove [a0] fun v191 =>
xF fNil [v191] fun v192 =>
xF (fFld 9) [v192] fun v193 =>
hLoad 1 false [v193] (fun v194 σ =>
xO (gLoad 4 true [(locP 8)] c8) fun v195 =>
s_cx [v195] (fun v196 σ =>
s_bg [v182, v190, v194, v196] (fun v197 σ =>
xF fMove [a0] fun v198 =>
xF fNil [v198] fun v199 =>
xF (fFld 8) [v199] fun v200 =>
hStore 1 [v200, .int .i64 0] (fun _v σ =>
J1 [] [] σ) σ) σ) σ) σ) σ) σ) σ) σ)
 (xF (fBin .eql .no) [v12, .int .i64 4] fun v202 =>
xF fMove [v202] fun v201 =>
xIf v201
 (xF fMove [a0] fun v203 =>
xF fNil [v203] fun v204 =>
xF (fFld 14) [v204] fun v205 =>
hLoad 1 false [v205] (fun v206 σ =>
xO (gLoad 9 true [(locP 3)] c3) fun v207 =>
s_ar [v206, v207] (fun v208 σ =>
xIf v208
 (xF fMove [a0] fun v209 =>
xF fNil [v209] fun v210 =>
xF (fFld 8) [v210] fun v211 =>
hStore 1 [v211, .int .i64 0] (fun _v σ =>
J1 [] [] σ) σ)
 (J1 [] [] σ)) σ) σ)
 (xF (fBin .eql .no) [v12, .int .i64 5] fun v213 =>
xF fMove [v213] fun v212 =>
xIf v212
 (xF fMove [a0] fun v214 =>
xF fNil [v214] fun v215 =>
xF (fFld 8) [v215] fun v216 =>
hStore 1 [v216, .int .i64 0] (fun _v σ =>
xO (gLoad 9 true [(locP 3)] c3) fun v217 =>
xF fMove [a0] fun v218 =>
s_ac [v218] (fun v219 σ =>
xF fMove [a0] fun v220 =>
xF fNil [v220] fun v221 =>
xF (fFld 10) [v221] fun v222 =>
hLoad 1 false [v222] (fun v223 σ =>
xF fMove [a0] fun v224 =>
xF fNil [v224] fun v225 =>
xF (fFld 0) [v225] fun v226 =>
xF (fFld 3) [v226] fun v227 =>
hLoad 1 false [v227] (fun v228 σ =>
xF (fBuild [(0, 1), (1, 1), (2, 1)] [.int .i64 0, .bool false, .int .i64 0] [0]) [v228] fun v229 =>
s_ct [v229] (fun v230 σ =>
s_bg [v217, v219, v223, v230] (fun v231 σ =>
xIf v231
 (xF fMove [a0] fun v232 =>
xF fMove [a0] fun v233 =>
xF fNil [v233] fun v234 =>
xF (fFld 10) [v234] fun v235 =>
hLoad 1 false [v235] (fun v236 σ =>
s_cp [v236] (fun v237 σ =>
xF (fFldV 0 1 false) [v237] fun v238 =>
xO (gLoad 9 true [(locP 3)] c3) fun v239 =>
s_bi [v239] (fun v240 σ =>
s_ae [v232, .int .i64 0, v238, v240] (fun v241 σ =>
xF fMove [v241] fun v4 =>
K v4 σ) σ) σ) σ) σ)
 (J1 [] [] σ)) σ) σ) σ) σ) σ) σ)
 (xF fMove [a0] fun v13 =>
xO (gLoad 9 true [(locP 3)] c3) fun v14 =>
s_ad [v13, v14] (fun v15 σ =>
xF fMove [v15] fun v4 =>
K v4 σ) σ))))))) σ
def s_ab : Spec := fun args K σ => match args with
  | [a0, a1] => w_ab a0 a1 K σ
  | _ => False
noncomputable def cx_ab : Cx := { P := Try.prog, T := [(40, .none, s_cr), (33, .read, s_bi), (56, .write, s_ae), (27, .none, s_bp), (51, .write, s_bh), (41, .none, s_cz), (57, .none, s_as), (32, .none, s_cs), (58, .read, s_ac), (59, .read, s_af), (60, .write, s_au), (28, .none, s_cx), (48, .write, s_bg), (61, .write, s_ar), (53, .none, s_ct), (52, .none, s_cp), (62, .write, s_ad)], loc := [(3, 3), (5, 5), (7, 7), (8, 8), (34, 5), (36, 3), (37, 3), (47, 3), (49, 5), (88, 7), (95, 7), (119, 7), (177, 8), (180, 8), (181, 8), (183, 3)], eqt := [(4, .bool)], n := 242, keep := [(1000008, [0, 40], [3, 5]), (1000019, [0, 106], []), (1000037, [], [])] }
theorem q_ab : FnS cx_ab Try.f16 (bodyOf Try.f16) 2 = s_ab := by
  funext args K σ
  rcases args with _ | ⟨a0, _ | ⟨a1, _ | ⟨b, r⟩⟩⟩ <;> kernel_rfl
theorem e_ab : Entry Try.prog 16 .write s_ab :=
  entry (C := cx_ab) (TOk.cons e_cr (TOk.cons e_bi (TOk.cons e_ae (TOk.cons e_bp (TOk.cons e_bh (TOk.cons e_cz (TOk.cons e_as (TOk.cons e_cs (TOk.cons e_ac (TOk.cons e_af (TOk.cons e_au (TOk.cons e_cx (TOk.cons e_bg (TOk.cons e_ar (TOk.cons e_ct (TOk.cons e_cp (TOk.cons e_ad TOk.nil))))))))))))))))) mixedOk Try.func16 (by kernel_rfl) (by kernel_rfl) (by kernel_rfl) q_ab
def xl_ab : List (Nat × Nat) := [(3, 3), (5, 5), (7, 7), (8, 8), (34, 5), (36, 3), (37, 3), (47, 3), (49, 5), (88, 7), (95, 7), (119, 7), (177, 8), (180, 8), (181, 8), (183, 3)]
noncomputable def xc_ab : XC XN :=
(.seq none
 (.reg [zy xl_ab (.lb 3 9) 3 [.tmp 1],
  zc 4 (.bool false)])
 (.seq (some ([], []))
 (.seq none
 (.reg [zM 9 0,
  zN 10 9,
  zF 8 11 10,
  zL 12 11])
 (.block 0
 (.seq none
 (.reg [zb .eql rEql 17 [.tmp 12, .const (.int .i64 0)],
  zM 16 17])
 (.cond (.tmp 16)
 (.seq none
 (.reg [zM 19 0,
  zN 20 19,
  zF 0 21 20,
  zF 1 22 21,
  zL 23 22,
  zk .none s_cr v_cr 24 [.tmp 23],
  zM 18 24,
  zy xl_ab (.f (fExt 0)) 25 [.tmp 18],
  zy xl_ab (.f (fExt 1)) 26 [.tmp 18],
  zy xl_ab (.la 5 [.int .i64 0, .int .i64 0]) 5 [],
  zY xl_ab (.ls 5 2) [.tmp 5, .tmp 25],
  zM 6 26])
 (.seq none
 (.seq none
 (.reg [zM 27 0,
  zy xl_ab (.lr 5 2 true) 28 [.tmp 5],
  zN 29 27,
  zF 6 30 29,
  zY xl_ab (.store 2) [.tmp 30, .tmp 28]])
 (.seq (some ([0, 40], [3, 5]))
 (.reg [zM 31 6,
  zz (.f (fUn .not)) rNot (some 32) [.tmp 31],
  zM 33 32,
  ⟨(some (3, 2, false, some 33)), some 34, [.tmp 5], ⟨.f (fFld 0), rFld 0⟩⟩,
  ⟨(some (4, 2, false, some 33)), some 35, [.tmp 34], ⟨.lr 5 1 false, rLr1 5⟩⟩,
  ⟨(some (5, 2, false, some 33)), some 36, [.tmp 3], ⟨.f (fFld 0), rFld 0⟩⟩,
  ⟨(some (6, 2, false, some 33)), some 37, [.tmp 36], ⟨.f (fFld 1), rFld 1⟩⟩,
  ⟨(some (7, 2, false, some 33)), some 38, [.tmp 37], ⟨.lr 3 1 false, rLr1 3⟩⟩,
  ⟨(some (8, 2, false, some 33)), some 39, [.tmp 35, .tmp 38], ⟨.f (fBin .geq .no), rGeq⟩⟩,
  zz (.f fPick) rPick (some 40) [.tmp 33, .const (.bool true), .tmp 39]])
 (.cond (.tmp 40)
 (.seq none
 (.reg [zM 41 0,
  zy xl_ab (.lr 3 9 true) 42 [.tmp 3],
  zk .read s_bi v_bi 43 [.tmp 42],
  zk .write s_ae v_ae 44 [.tmp 41, .const (.int .i64 3), .const (.int .i64 0), .tmp 43],
  zM 4 44])
 .ret)
 .skip)))
 (.seq none
 (.reg [zM 45 0,
  zy xl_ab (.lr 3 9 true) 46 [.tmp 3],
  zF 0 47 3,
  zy xl_ab (.lr 3 7 true) 48 [.tmp 47],
  zF 0 49 5,
  zr 5 50 49,
  zk .none s_bp v_bp 51 [.tmp 48, .tmp 50],
  zk .write s_bh v_bh 52 [.tmp 46, .tmp 51],
  zN 53 45,
  zF 9 54 53,
  zS [.tmp 54, .tmp 52]])
 (.seq none
 (.reg [zM 55 0,
  zM 56 0,
  zy xl_ab (.lr 3 9 true) 57 [.tmp 3],
  zk .read s_bi v_bi 58 [.tmp 57],
  zN 59 55,
  zF 11 60 59,
  zS [.tmp 60, .tmp 58],
  zN 61 56,
  zF 8 62 61,
  zS [.tmp 62, .const (.int .i64 1)]])
 (.seq none
 (.reg [zM 63 0,
  zN 64 63,
  zF 9 65 64,
  zL 66 65,
  zk .none s_cz v_cz 67 [.tmp 66],
  zy xl_ab (.lr 5 2 true) 68 [.tmp 5],
  zk .none s_as v_as 69 [.tmp 67, .tmp 68],
  zz (.f (fUn .not)) rNot (some 70) [.tmp 69]])
 (.cond (.tmp 70)
 (.seq none
 (.reg [zM 71 0,
  zy xl_ab (.lr 3 9 true) 72 [.tmp 3],
  zk .read s_bi v_bi 73 [.tmp 72],
  zk .write s_ae v_ae 74 [.tmp 71, .const (.int .i64 3), .const (.int .i64 0), .tmp 73],
  zM 4 74])
 .ret)
 .skip))))))
 (.seq none
 (.reg [zb .eql rEql 76 [.tmp 12, .const (.int .i64 1)],
  zM 75 76])
 (.cond (.tmp 75)
 (.seq none
 (.reg [zy xl_ab (.lr 3 9 true) 77 [.tmp 3],
  zM 78 0,
  zN 79 78,
  zF 9 80 79,
  zL 81 80,
  zk .none s_cz v_cz 82 [.tmp 81],
  zy xl_ab (.f (fFldV 1 1 false)) 83 [.tmp 82],
  zk .write s_bh v_bh 84 [.tmp 77, .tmp 83],
  zk .none s_cs v_cs 85 [.tmp 84],
  zy xl_ab (.la 7 [.int .i64 0, .int .i64 0, .int .i64 0, .int .i64 0, .bool false]) 7 [],
  zY xl_ab (.ls 7 5) [.tmp 7, .tmp 85]])
 (.seq none
 (.reg [zM 86 0,
  zM 87 0,
  zF 1 88 7,
  zr 7 89 88,
  zN 90 86,
  zF 13 91 90,
  zS [.tmp 91, .tmp 89],
  zN 92 87,
  zF 8 93 92,
  zS [.tmp 93, .const (.int .i64 2)]])
 (.block 1
 (.seq none
 (.reg [zF 4 95 7,
  zr 7 96 95,
  zM 97 0,
  zN 98 97,
  zF 5 99 98,
  zL 100 99,
  zy xl_ab (.f (fBin .neq .bool)) 101 [.tmp 96, .tmp 100],
  zM 94 101])
 (.cond (.tmp 94)
 (.seq none
 (.reg [zM 102 0,
  zy xl_ab (.lr 3 9 true) 103 [.tmp 3],
  zk .read s_bi v_bi 104 [.tmp 103],
  zk .write s_ae v_ae 105 [.tmp 102, .const (.int .i64 3), .const (.int .i64 0), .tmp 104],
  zM 4 105])
 .ret)
 (.seq (some ([0, 106], []))
 (.reg [zM 107 0,
  zN 108 107,
  zF 0 109 108,
  zF 2 110 109,
  zL 111 110,
  zb .lss rLss 112 [.tmp 111, .const (.int .i64 0)],
  zM 113 112,
  ⟨(some (7, 6, false, some 113)), some 114, [.tmp 0], ⟨.f fMove, rMove⟩⟩,
  ⟨(some (8, 6, false, some 113)), some 115, [.tmp 114], ⟨.f fNil, rNil⟩⟩,
  ⟨(some (9, 6, false, some 113)), some 116, [.tmp 115], ⟨.f (fFld 0), rFld 0⟩⟩,
  ⟨(some (10, 6, false, some 113)), some 117, [.tmp 116], ⟨.f (fFld 2), rFld 2⟩⟩,
  ⟨(some (11, 6, false, some 113)), some 118, [.tmp 117], ⟨.load 1 false, rLoad1⟩⟩,
  ⟨(some (12, 6, false, some 113)), some 119, [.tmp 7], ⟨.f (fFld 1), rFld 1⟩⟩,
  ⟨(some (13, 6, false, some 113)), some 120, [.tmp 119], ⟨.lr 7 1 false, rLr1 7⟩⟩,
  ⟨(some (14, 6, false, some 113)), some 121, [.tmp 118, .tmp 120], ⟨.f (fBin .geq .no), rGeq⟩⟩,
  zz (.f fPick) rPick (some 122) [.tmp 113, .const (.bool true), .tmp 121],
  zM 106 122])
 (.cond (.tmp 106)
 (.seq none
 (.reg [zM 123 0,
  zM 124 0,
  zN 125 124,
  zF 11 126 125,
  zL 127 126,
  zk .write s_ae v_ae 128 [.tmp 123, .const (.int .i64 4), .const (.int .i64 0), .tmp 127],
  zM 4 128])
 .ret)
 .skip)))))))
 (.seq none
 (.reg [zb .eql rEql 130 [.tmp 12, .const (.int .i64 2)],
  zM 129 130])
 (.cond (.tmp 129)
 (.seq none
 (.reg [zM 131 0,
  zy xl_ab (.lr 3 9 true) 132 [.tmp 3],
  zM 133 0,
  zk .read s_ac v_ac 134 [.tmp 133],
  zk .write s_bh v_bh 135 [.tmp 132, .tmp 134],
  zN 136 131,
  zF 10 137 136,
  zS [.tmp 137, .tmp 135]])
 (.seq none
 (.reg [zM 138 0,
  zM 139 0,
  zy xl_ab (.lr 3 9 true) 140 [.tmp 3],
  zk .read s_bi v_bi 141 [.tmp 140],
  zM 142 0,
  zk .read s_af v_af 143 [.tmp 142],
  zN 144 138,
  zF 12 145 144,
  zS [.tmp 145, .tmp 141],
  zN 146 139,
  zF 8 147 146,
  zS [.tmp 147, .tmp 143]])
 (.seq none
 (.reg [zM 148 0,
  zN 149 148,
  zF 8 150 149,
  zL 151 150,
  zb .eql rEql 152 [.tmp 151, .const (.int .i64 4)]])
 (.cond (.tmp 152)
 (.reg [zM 153 0,
  zM 154 0,
  zN 155 154,
  zF 6 156 155,
  zF 0 157 156,
  zL 158 157,
  zM 159 0,
  zN 160 159,
  zF 9 161 160,
  zL 162 161,
  zM 163 0,
  zN 164 163,
  zF 13 165 164,
  zL 166 165,
  zk .write s_au v_au 167 [.tmp 158, .tmp 162, .tmp 166],
  zN 168 153,
  zF 14 169 168,
  zS [.tmp 169, .tmp 167]])
 .skip))))
 (.seq none
 (.reg [zb .eql rEql 171 [.tmp 12, .const (.int .i64 3)],
  zM 170 171])
 (.cond (.tmp 170)
 (.seq none
 (.reg [zM 172 0,
  zN 173 172,
  zF 9 174 173,
  zL 175 174,
  zk .none s_cz v_cz 176 [.tmp 175],
  zy xl_ab (.la 8 [.int .i64 0, .int .i64 0, .int .i64 0, .int .i64 0]) 8 [],
  zY xl_ab (.ls 8 4) [.tmp 8, .tmp 176]])
 (.seq none
 (.reg [zF 3 177 8,
  zr 8 178 177,
  zb .add rAdd 179 [.tmp 178, .const (.int .i64 1)],
  zF 0 180 8,
  zz (.ls 8 1) (rLs1 8) none [.tmp 180, .const (.int .i64 1)],
  zF 3 181 8,
  zz (.ls 8 1) (rLs1 8) none [.tmp 181, .tmp 179]])
 (.seq none
 (.reg [zy xl_ab (.lr 3 9 true) 182 [.tmp 3],
  zF 0 183 3,
  zy xl_ab (.lr 3 7 true) 184 [.tmp 183],
  zM 185 0,
  zN 186 185,
  zF 6 187 186,
  zF 0 188 187,
  zL 189 188,
  zk .none s_bp v_bp 190 [.tmp 184, .tmp 189],
  zM 191 0,
  zN 192 191,
  zF 9 193 192,
  zL 194 193,
  zy xl_ab (.lr 8 4 true) 195 [.tmp 8],
  zk .none s_cx v_cx 196 [.tmp 195],
  zk .write s_bg v_bg 197 [.tmp 182, .tmp 190, .tmp 194, .tmp 196]])
 (.reg [zM 198 0,
  zN 199 198,
  zF 8 200 199,
  zS [.tmp 200, .const (.int .i64 0)]]))))
 (.seq none
 (.reg [zb .eql rEql 202 [.tmp 12, .const (.int .i64 4)],
  zM 201 202])
 (.cond (.tmp 201)
 (.seq none
 (.reg [zM 203 0,
  zN 204 203,
  zF 14 205 204,
  zL 206 205,
  zy xl_ab (.lr 3 9 true) 207 [.tmp 3],
  zk .write s_ar v_ar 208 [.tmp 206, .tmp 207]])
 (.cond (.tmp 208)
 (.reg [zM 209 0,
  zN 210 209,
  zF 8 211 210,
  zS [.tmp 211, .const (.int .i64 0)]])
 .skip))
 (.seq none
 (.reg [zb .eql rEql 213 [.tmp 12, .const (.int .i64 5)],
  zM 212 213])
 (.cond (.tmp 212)
 (.seq none
 (.reg [zM 214 0,
  zN 215 214,
  zF 8 216 215,
  zS [.tmp 216, .const (.int .i64 0)]])
 (.seq none
 (.reg [zy xl_ab (.lr 3 9 true) 217 [.tmp 3],
  zM 218 0,
  zk .read s_ac v_ac 219 [.tmp 218],
  zM 220 0,
  zN 221 220,
  zF 10 222 221,
  zL 223 222,
  zM 224 0,
  zN 225 224,
  zF 0 226 225,
  zF 3 227 226,
  zL 228 227,
  zy xl_ab (.f (fBuild [(0, 1), (1, 1), (2, 1)] [.int .i64 0, .bool false, .int .i64 0] [0])) 229 [.tmp 228],
  zk .none s_ct v_ct 230 [.tmp 229],
  zk .write s_bg v_bg 231 [.tmp 217, .tmp 219, .tmp 223, .tmp 230]])
 (.cond (.tmp 231)
 (.seq none
 (.reg [zM 232 0,
  zM 233 0,
  zN 234 233,
  zF 10 235 234,
  zL 236 235,
  zk .none s_cp v_cp 237 [.tmp 236],
  zy xl_ab (.f (fFldV 0 1 false)) 238 [.tmp 237],
  zy xl_ab (.lr 3 9 true) 239 [.tmp 3],
  zk .read s_bi v_bi 240 [.tmp 239],
  zk .write s_ae v_ae 241 [.tmp 232, .const (.int .i64 0), .tmp 238, .tmp 240],
  zM 4 241])
 .ret)
 .skip)))
 (.seq none
 (.reg [zM 13 0,
  zy xl_ab (.lr 3 9 true) 14 [.tmp 3],
  zk .write s_ad v_ad 15 [.tmp 13, .tmp 14],
  zM 4 15])
 .ret)))))))))))))))
 (.seq none
 (.reg [zc 4 (.bool false)])
 .ret)))
noncomputable def v_ab : EvF := evFn 2 xc_ab [.t 4]
theorem xt_ab : toC cx_ab (bodyOf Try.f16) = some (xc_ab.map XN.sm) := by kernel_rfl
theorem xr_ab : toR cx_ab Try.f16.results.toList = some [.t 4] := by kernel_rfl
theorem xo_ab : xc_ab.ok xl_ab := ⟨⟨rAny_ok (trivial), rMove_ok, trivial⟩, ⟨⟨⟨rMove_ok, rNil_ok, rFld_ok _, rLoad1_ok, trivial⟩, ⟨⟨rEql_ok, rMove_ok, trivial⟩, ⟨⟨⟨rMove_ok, rNil_ok, rFld_ok _, rFld_ok _, rLoad1_ok, rCall_ok ve_cr, rMove_ok, rAny_ok (eqv_ext _), rAny_ok (eqv_ext _), rAny_ok (trivial), rAny_ok (trivial), rMove_ok, trivial⟩, ⟨⟨⟨rMove_ok, rAny_ok (trivial), rNil_ok, rFld_ok _, rAny_ok (trivial), trivial⟩, ⟨⟨rMove_ok, rNot_ok, rMove_ok, rFld_ok _, rLr1_ok _, rFld_ok _, rFld_ok _, rLr1_ok _, rGeq_ok, rPick_ok, trivial⟩, ⟨⟨⟨rMove_ok, rAny_ok (trivial), rCall_ok ve_bi, rCall_ok ve_ae, rMove_ok, trivial⟩, trivial⟩, trivial⟩⟩⟩, ⟨⟨rMove_ok, rAny_ok (trivial), rFld_ok _, rAny_ok (trivial), rFld_ok _, rLr1_ok _, rCall_ok ve_bp, rCall_ok ve_bh, rNil_ok, rFld_ok _, rStore1_ok, trivial⟩, ⟨⟨rMove_ok, rMove_ok, rAny_ok (trivial), rCall_ok ve_bi, rNil_ok, rFld_ok _, rStore1_ok, rNil_ok, rFld_ok _, rStore1_ok, trivial⟩, ⟨⟨rMove_ok, rNil_ok, rFld_ok _, rLoad1_ok, rCall_ok ve_cz, rAny_ok (trivial), rCall_ok ve_as, rNot_ok, trivial⟩, ⟨⟨⟨rMove_ok, rAny_ok (trivial), rCall_ok ve_bi, rCall_ok ve_ae, rMove_ok, trivial⟩, trivial⟩, trivial⟩⟩⟩⟩⟩⟩, ⟨⟨rEql_ok, rMove_ok, trivial⟩, ⟨⟨⟨rAny_ok (trivial), rMove_ok, rNil_ok, rFld_ok _, rLoad1_ok, rCall_ok ve_cz, rAny_ok (eqv_fldV _ _ _), rCall_ok ve_bh, rCall_ok ve_cs, rAny_ok (trivial), rAny_ok (trivial), trivial⟩, ⟨⟨rMove_ok, rMove_ok, rFld_ok _, rLr1_ok _, rNil_ok, rFld_ok _, rStore1_ok, rNil_ok, rFld_ok _, rStore1_ok, trivial⟩, ⟨⟨rFld_ok _, rLr1_ok _, rMove_ok, rNil_ok, rFld_ok _, rLoad1_ok, rAny_ok (eqv_bin _ _), rMove_ok, trivial⟩, ⟨⟨⟨rMove_ok, rAny_ok (trivial), rCall_ok ve_bi, rCall_ok ve_ae, rMove_ok, trivial⟩, trivial⟩, ⟨⟨rMove_ok, rNil_ok, rFld_ok _, rFld_ok _, rLoad1_ok, rLss_ok, rMove_ok, rMove_ok, rNil_ok, rFld_ok _, rFld_ok _, rLoad1_ok, rFld_ok _, rLr1_ok _, rGeq_ok, rPick_ok, rMove_ok, trivial⟩, ⟨⟨⟨rMove_ok, rMove_ok, rNil_ok, rFld_ok _, rLoad1_ok, rCall_ok ve_ae, rMove_ok, trivial⟩, trivial⟩, trivial⟩⟩⟩⟩⟩⟩, ⟨⟨rEql_ok, rMove_ok, trivial⟩, ⟨⟨⟨rMove_ok, rAny_ok (trivial), rMove_ok, rCall_ok ve_ac, rCall_ok ve_bh, rNil_ok, rFld_ok _, rStore1_ok, trivial⟩, ⟨⟨rMove_ok, rMove_ok, rAny_ok (trivial), rCall_ok ve_bi, rMove_ok, rCall_ok ve_af, rNil_ok, rFld_ok _, rStore1_ok, rNil_ok, rFld_ok _, rStore1_ok, trivial⟩, ⟨⟨rMove_ok, rNil_ok, rFld_ok _, rLoad1_ok, rEql_ok, trivial⟩, ⟨⟨rMove_ok, rMove_ok, rNil_ok, rFld_ok _, rFld_ok _, rLoad1_ok, rMove_ok, rNil_ok, rFld_ok _, rLoad1_ok, rMove_ok, rNil_ok, rFld_ok _, rLoad1_ok, rCall_ok ve_au, rNil_ok, rFld_ok _, rStore1_ok, trivial⟩, trivial⟩⟩⟩⟩, ⟨⟨rEql_ok, rMove_ok, trivial⟩, ⟨⟨⟨rMove_ok, rNil_ok, rFld_ok _, rLoad1_ok, rCall_ok ve_cz, rAny_ok (trivial), rAny_ok (trivial), trivial⟩, ⟨⟨rFld_ok _, rLr1_ok _, rAdd_ok, rFld_ok _, rLs1_ok _, rFld_ok _, rLs1_ok _, trivial⟩, ⟨⟨rAny_ok (trivial), rFld_ok _, rAny_ok (trivial), rMove_ok, rNil_ok, rFld_ok _, rFld_ok _, rLoad1_ok, rCall_ok ve_bp, rMove_ok, rNil_ok, rFld_ok _, rLoad1_ok, rAny_ok (trivial), rCall_ok ve_cx, rCall_ok ve_bg, trivial⟩, ⟨rMove_ok, rNil_ok, rFld_ok _, rStore1_ok, trivial⟩⟩⟩⟩, ⟨⟨rEql_ok, rMove_ok, trivial⟩, ⟨⟨⟨rMove_ok, rNil_ok, rFld_ok _, rLoad1_ok, rAny_ok (trivial), rCall_ok ve_ar, trivial⟩, ⟨⟨rMove_ok, rNil_ok, rFld_ok _, rStore1_ok, trivial⟩, trivial⟩⟩, ⟨⟨rEql_ok, rMove_ok, trivial⟩, ⟨⟨⟨rMove_ok, rNil_ok, rFld_ok _, rStore1_ok, trivial⟩, ⟨⟨rAny_ok (trivial), rMove_ok, rCall_ok ve_ac, rMove_ok, rNil_ok, rFld_ok _, rLoad1_ok, rMove_ok, rNil_ok, rFld_ok _, rFld_ok _, rLoad1_ok, rAny_ok (eqv_build _ rfl _), rCall_ok ve_ct, rCall_ok ve_bg, trivial⟩, ⟨⟨⟨rMove_ok, rMove_ok, rNil_ok, rFld_ok _, rLoad1_ok, rCall_ok ve_cp, rAny_ok (eqv_fldV _ _ _), rAny_ok (trivial), rCall_ok ve_bi, rCall_ok ve_ae, rMove_ok, trivial⟩, trivial⟩, trivial⟩⟩⟩, ⟨⟨rMove_ok, rAny_ok (trivial), rCall_ok ve_ad, rMove_ok, trivial⟩, trivial⟩⟩⟩⟩⟩⟩⟩⟩⟩⟩⟩⟩⟩⟩, ⟨⟨rMove_ok, trivial⟩, trivial⟩⟩⟩
theorem ve_ab : EvOk s_ab v_ab := EvOk.of (evFn_sound (C := cx_ab) xt_ab xr_ab xo_ab) q_ab
attribute [irreducible] w_ab_j1b w_ab_j1 w_ab_j2b w_ab_j2 w_ab_j3b w_ab_j3 w_ab s_ab
def w_aa (a0 : Value) (K : Value → Mem → Prop) (σ : Mem) : Prop :=
xF fMove [a0] fun v3 =>
xF (fBin .eql .ptr) [v3, .pointer none] fun v4 =>
xIf v4
 (xF (fBuild [(0, 1), (1, 1), (2, 1), (3, 1)] [.int .i64 0, .int .u64 0, .int .i64 0, .int .i64 0] [0]) [.int .i64 1] fun v5 =>
xC (gStore 4 [(locP 2), v5] [.int .i64 0, .int .u64 0, .int .i64 0, .int .i64 0]) fun c2 =>
xO (gLoad 4 true [(locP 2)] c2) fun r2 =>
K r2 σ)
 (xF fMove [a0] fun v6 =>
xF fNil [v6] fun v7 =>
xF (fFld 15) [v7] fun v8 =>
hLoad 4 true [v8] (fun v9 σ =>
xC (gStore 4 [(locP 2), v9] [.int .i64 0, .int .u64 0, .int .i64 0, .int .i64 0]) fun c2 =>
xO (gLoad 4 true [(locP 2)] c2) fun r2 =>
K r2 σ) σ)
def s_aa : Spec := fun args K σ => match args with
  | [a0] => w_aa a0 K σ
  | _ => False
noncomputable def cx_aa : Cx := { P := Try.prog, T := [], loc := [(2, 2)], eqt := [(36, .ptr)], n := 10, keep := [] }
theorem q_aa : FnS cx_aa Try.f17 (bodyOf Try.f17) 1 = s_aa := by
  funext args K σ
  rcases args with _ | ⟨a0, _ | ⟨b, r⟩⟩ <;> kernel_rfl
theorem e_aa : Entry Try.prog 17 .read s_aa :=
  entry (C := cx_aa) TOk.nil mixedOk Try.func17 (by kernel_rfl) (by kernel_rfl) (by kernel_rfl) q_aa
def xl_aa : List (Nat × Nat) := [(2, 2)]
noncomputable def xc_aa : XC XN :=
(.seq none
 (.reg [zy xl_aa (.la 2 [.int .i64 0, .int .u64 0, .int .i64 0, .int .i64 0]) 2 []])
 (.seq none
 (.seq none
 (.reg [zM 3 0,
  zy xl_aa (.f (fBin .eql .ptr)) 4 [.tmp 3, .const (.pointer none)]])
 (.cond (.tmp 4)
 (.seq none
 (.reg [zy xl_aa (.f (fBuild [(0, 1), (1, 1), (2, 1), (3, 1)] [.int .i64 0, .int .u64 0, .int .i64 0, .int .i64 0] [0])) 5 [.const (.int .i64 1)],
  zY xl_aa (.ls 2 4) [.tmp 2, .tmp 5]])
 .ret)
 .skip))
 (.seq none
 (.reg [zM 6 0,
  zN 7 6,
  zF 15 8 7,
  zy xl_aa (.load 4 true) 9 [.tmp 8],
  zY xl_aa (.ls 2 4) [.tmp 2, .tmp 9]])
 .ret)))
noncomputable def v_aa : EvF := evFn 1 xc_aa [.c 2 2 4 true]
theorem xt_aa : toC cx_aa (bodyOf Try.f17) = some (xc_aa.map XN.sm) := by kernel_rfl
theorem xr_aa : toR cx_aa Try.f17.results.toList = some [.c 2 2 4 true] := by kernel_rfl
theorem xo_aa : xc_aa.ok xl_aa := ⟨⟨rAny_ok (trivial), trivial⟩, ⟨⟨⟨rMove_ok, rAny_ok (eqv_bin _ _), trivial⟩, ⟨⟨⟨rAny_ok (eqv_build _ rfl _), rAny_ok (trivial), trivial⟩, trivial⟩, trivial⟩⟩, ⟨⟨rMove_ok, rNil_ok, rFld_ok _, rAny_ok (trivial), rAny_ok (trivial), trivial⟩, trivial⟩⟩⟩
theorem ve_aa : EvOk s_aa v_aa := EvOk.of (evFn_sound (C := cx_aa) xt_aa xr_aa xo_aa) q_aa
attribute [irreducible] w_aa s_aa
def w_ay_j1b (K : Value → Mem → Prop) (v7 : Value) (c6 : List Value) (σ : Mem) : Prop :=
xF fMove [v7] fun v19 =>
s_aa [v19] (fun v20 σ =>
xC (gStore 4 [(locP 6), v20] c6) fun c6 =>
xO (gLoad 4 true [(locP 6)] c6) fun r6 =>
K r6 σ) σ
def w_ay_j1 (K : Value → Mem → Prop) (ts : List Value) (ls : List (List Value)) (σ : Mem) : Prop := w_ay_j1b K (ts.getD 0 poison) (ls.getD 0 []) σ
def w_law10_Do_l4b (K : Value → Mem → Prop) (J1 : List Value → List (List Value) → Mem → Prop) (R1 : List Value → List (List Value) → Mem → Prop) (v7 v8 : Value) (c3 c6 : List Value) (σ : Mem) : Prop :=
xF fMove [v8] fun v12 =>
xF (fBin .lss .no) [v12, .int .i64 200] fun v13 =>
xIf v13
 (xF fMove [v7] fun v16 =>
xO (gLoad 9 true [(locP 3)] c3) fun v17 =>
s_ab [v16, v17] (fun v18 σ =>
xIf v18
 (J1 [v7] [c6] σ)
 (xF fMove [v8] fun v14 =>
xF (fBin .add .no) [v14, .int .i64 1] fun v15 =>
xF fMove [v15] fun v8 =>
R1 [v7, v8] [c3, c6] σ)) σ)
 (J1 [v7] [c6] σ)
def w_law10_Do_l4 (K : Value → Mem → Prop) (J1 : List Value → List (List Value) → Mem → Prop) (R1 : List Value → List (List Value) → Mem → Prop) (ts : List Value) (ls : List (List Value)) (σ : Mem) : Prop := w_law10_Do_l4b K J1 R1 (ts.getD 0 poison) (ts.getD 1 poison) (ls.getD 0 []) (ls.getD 1 []) σ
def w_ay (a0 a1 a2 : Value) (K : Value → Mem → Prop) (σ : Mem) : Prop :=
xC (gBox 9 [a0] []) fun c3 =>
xC (gBox 5 [a1] []) fun c4 =>
xO (gLoad 5 true [(locP 4)] c4) fun v9 =>
xF fMove [a2] fun v10 =>
s_ag [v9, v10] (fun v11 σ =>
xF fMove [v11] fun v7 =>
xJoin (w_ay_j1 K) fun J1 =>
xF fMove [.int .i64 0] fun v8 =>
xLoop (w_law10_Do_l4 K J1) [v7, v8] [c3, [.int .i64 0, .int .u64 0, .int .i64 0, .int .i64 0]] σ) σ
def s_ay : Spec := fun args K σ => match args with
  | [a0, a1, a2] => w_ay a0 a1 a2 K σ
  | _ => False
noncomputable def cx_ay : Cx := { P := Try.prog, T := [(15, .write, s_ag), (16, .write, s_ab), (17, .read, s_aa)], loc := [(3, 3), (4, 4), (6, 6)], eqt := [], n := 21, keep := [(4, [7, 8], [3, 6]), (1000007, [7], [6])] }
theorem q_ay : FnS cx_ay Try.f39 (bodyOf Try.f39) 3 = s_ay := by
  funext args K σ
  rcases args with _ | ⟨a0, _ | ⟨a1, _ | ⟨a2, _ | ⟨b, r⟩⟩⟩⟩ <;> kernel_rfl
theorem e_ay : Entry Try.prog 39 .write s_ay :=
  entry (C := cx_ay) (TOk.cons e_ag (TOk.cons e_ab (TOk.cons e_aa TOk.nil))) mixedOk Try.func39 (by kernel_rfl) (by kernel_rfl) (by kernel_rfl) q_ay
def xl_ay : List (Nat × Nat) := [(3, 3), (4, 4), (6, 6)]
noncomputable def xc_ay : XC XN :=
(.seq none
 (.reg [zy xl_ay (.lb 3 9) 3 [.tmp 0],
  zy xl_ay (.lb 4 5) 4 [.tmp 1],
  zy xl_ay (.la 6 [.int .i64 0, .int .u64 0, .int .i64 0, .int .i64 0]) 6 []])
 (.seq none
 (.reg [zy xl_ay (.lr 4 5 true) 9 [.tmp 4],
  zM 10 2,
  zk .write s_ag v_ag 11 [.tmp 9, .tmp 10],
  zM 7 11])
 (.seq (some ([7], [6]))
 (.seq none
 (.reg [zc 8 (.int .i64 0)])
 (.block 0
 (.loop ([7, 8], [3, 6])
 (.seq none
 (.seq none
 (.reg [zM 12 8,
  zb .lss rLss 13 [.tmp 12, .const (.int .i64 200)]])
 (.cond (.tmp 13)
 .skip
 (.exit 0)))
 (.seq none
 (.block 1
 (.seq none
 (.reg [zM 16 7,
  zy xl_ay (.lr 3 9 true) 17 [.tmp 3],
  zk .write s_ab v_ab 18 [.tmp 16, .tmp 17]])
 (.cond (.tmp 18)
 (.exit 0)
 .skip)))
 (.reg [zM 14 8,
  zb .add rAdd 15 [.tmp 14, .const (.int .i64 1)],
  zM 8 15]))))))
 (.seq none
 (.reg [zM 19 7,
  zk .read s_aa v_aa 20 [.tmp 19],
  zY xl_ay (.ls 6 4) [.tmp 6, .tmp 20]])
 .ret))))
noncomputable def v_ay : EvF := evFn 3 xc_ay [.c 6 6 4 true]
theorem xt_ay : toC cx_ay (bodyOf Try.f39) = some (xc_ay.map XN.sm) := by kernel_rfl
theorem xr_ay : toR cx_ay Try.f39.results.toList = some [.c 6 6 4 true] := by kernel_rfl
theorem xo_ay : xc_ay.ok xl_ay := ⟨⟨rAny_ok (trivial), rAny_ok (trivial), rAny_ok (trivial), trivial⟩, ⟨⟨rAny_ok (trivial), rMove_ok, rCall_ok ve_ag, rMove_ok, trivial⟩, ⟨⟨⟨rMove_ok, trivial⟩, ⟨⟨⟨rMove_ok, rLss_ok, trivial⟩, ⟨trivial, trivial⟩⟩, ⟨⟨⟨rMove_ok, rAny_ok (trivial), rCall_ok ve_ab, trivial⟩, ⟨trivial, trivial⟩⟩, ⟨rMove_ok, rAdd_ok, rMove_ok, trivial⟩⟩⟩⟩, ⟨⟨rMove_ok, rCall_ok ve_aa, rAny_ok (trivial), trivial⟩, trivial⟩⟩⟩⟩
theorem ve_ay : EvOk s_ay v_ay := EvOk.of (evFn_sound (C := cx_ay) xt_ay xr_ay xo_ay) q_ay
attribute [irreducible] w_ay_j1b w_ay_j1 w_law10_Do_l4b w_law10_Do_l4 w_ay s_ay
def w_bw_j1b (K : Value → Mem → Prop) (v0 v1 v19 : Value) (σ : Mem) : Prop :=
xIf v19
 (xF fMove [.int .u64 0] fun v4 =>
K v4 σ)
 (xF fMove [v0] fun v20 =>
xF fNil [v20] fun v21 =>
xF (fFld 0) [v21] fun v22 =>
hLoad 1 false [v22] (fun v23 σ =>
xF fMove [v1] fun v24 =>
xF (fIxS 1) [v23, v24] fun v25 =>
hLoad 1 false [v25] (fun v26 σ =>
xF fMove [v26] fun v4 =>
K v4 σ) σ) σ)
def w_bw_j1 (K : Value → Mem → Prop) (ts : List Value) (ls : List (List Value)) (σ : Mem) : Prop := w_bw_j1b K (ts.getD 0 poison) (ts.getD 1 poison) (ts.getD 2 poison) σ
def w_bw (a0 a1 : Value) (K : Value → Mem → Prop) (σ : Mem) : Prop :=
xF fMove [.int .u64 0] fun v4 =>
xJoin (w_bw_j1 K) fun J1 =>
xF fMove [a0] fun v5 =>
xF (fBin .eql .ptr) [v5, .pointer none] fun v6 =>
xF fMove [v6] fun v7 =>
xIf v7
 (xF fPick [.bool true, .bool true, undef] fun v10 =>
xF fMove [v10] fun v11 =>
xIf v11
 (xF fPick [.bool true, .bool true, undef] fun v19 =>
J1 [a0, a1, v19] [] σ)
 (xF fMove [a1] fun v12 =>
xF fMove [a0] fun v13 =>
xF fNil [v13] fun v14 =>
xF (fFld 0) [v14] fun v15 =>
hLoad 1 false [v15] (fun v16 σ =>
xF fLen [v16] fun v17 =>
xF (fBin .geq .no) [v12, v17] fun v18 =>
xF fPick [.bool false, .bool true, v18] fun v19 =>
J1 [a0, a1, v19] [] σ) σ))
 (xF fMove [a1] fun v8 =>
xF (fBin .lss .no) [v8, .int .i64 0] fun v9 =>
xF fPick [.bool false, .bool true, v9] fun v10 =>
xF fMove [v10] fun v11 =>
xIf v11
 (xF fPick [.bool true, .bool true, undef] fun v19 =>
J1 [a0, a1, v19] [] σ)
 (xF fMove [a1] fun v12 =>
xF fMove [a0] fun v13 =>
xF fNil [v13] fun v14 =>
xF (fFld 0) [v14] fun v15 =>
hLoad 1 false [v15] (fun v16 σ =>
xF fLen [v16] fun v17 =>
xF (fBin .geq .no) [v12, v17] fun v18 =>
xF fPick [.bool false, .bool true, v18] fun v19 =>
J1 [a0, a1, v19] [] σ) σ))
def s_bw : Spec := fun args K σ => match args with
  | [a0, a1] => w_bw a0 a1 K σ
  | _ => False
noncomputable def cx_bw : Cx := { P := Try.prog, T := [], loc := [], eqt := [(25, .ptr)], n := 27, keep := [(1000003, [0, 1, 19], [])] }
theorem q_bw : FnS cx_bw Try.f24 (bodyOf Try.f24) 2 = s_bw := by
  funext args K σ
  rcases args with _ | ⟨a0, _ | ⟨a1, _ | ⟨b, r⟩⟩⟩ <;> kernel_rfl
theorem e_bw : Entry Try.prog 24 .read s_bw :=
  entry (C := cx_bw) TOk.nil mixedOk Try.func24 (by kernel_rfl) (by kernel_rfl) (by kernel_rfl) q_bw
def xl_bw : List (Nat × Nat) := []
noncomputable def xc_bw : XC XN :=
(.seq none
 (.reg [zc 4 (.int .u64 0)])
 (.seq none
 (.seq (some ([0, 1, 19], []))
 (.reg [zM 5 0,
  zy xl_bw (.f (fBin .eql .ptr)) 6 [.tmp 5, .const (.pointer none)],
  zM 7 6,
  ⟨(some (3, 2, false, some 7)), some 8, [.tmp 1], ⟨.f fMove, rMove⟩⟩,
  ⟨(some (4, 2, false, some 7)), some 9, [.tmp 8, (.const (.int .i64 0))], ⟨.f (fBin .lss .no), rLss⟩⟩,
  zz (.f fPick) rPick (some 10) [.tmp 7, .const (.bool true), .tmp 9],
  zM 11 10,
  ⟨(some (7, 6, false, some 11)), some 12, [.tmp 1], ⟨.f fMove, rMove⟩⟩,
  ⟨(some (8, 6, false, some 11)), some 13, [.tmp 0], ⟨.f fMove, rMove⟩⟩,
  ⟨(some (9, 6, false, some 11)), some 14, [.tmp 13], ⟨.f fNil, rNil⟩⟩,
  ⟨(some (10, 6, false, some 11)), some 15, [.tmp 14], ⟨.f (fFld 0), rFld 0⟩⟩,
  ⟨(some (11, 6, false, some 11)), some 16, [.tmp 15], ⟨.load 1 false, rLoad1⟩⟩,
  ⟨(some (12, 6, false, some 11)), some 17, [.tmp 16], ⟨.f fLen, rAny xl_bw (.f fLen)⟩⟩,
  ⟨(some (13, 6, false, some 11)), some 18, [.tmp 12, .tmp 17], ⟨.f (fBin .geq .no), rGeq⟩⟩,
  zz (.f fPick) rPick (some 19) [.tmp 11, .const (.bool true), .tmp 18]])
 (.cond (.tmp 19)
 (.seq none
 (.reg [zc 4 (.int .u64 0)])
 .ret)
 .skip))
 (.seq none
 (.reg [zM 20 0,
  zN 21 20,
  zF 0 22 21,
  zL 23 22,
  zM 24 1,
  zz (.f (fIxS 1)) (rIxS 1) (some 25) [.tmp 23, .tmp 24],
  zL 26 25,
  zM 4 26])
 .ret)))
noncomputable def v_bw : EvF := evFn 2 xc_bw [.t 4]
theorem xt_bw : toC cx_bw (bodyOf Try.f24) = some (xc_bw.map XN.sm) := by kernel_rfl
theorem xr_bw : toR cx_bw Try.f24.results.toList = some [.t 4] := by kernel_rfl
theorem xo_bw : xc_bw.ok xl_bw := ⟨⟨rMove_ok, trivial⟩, ⟨⟨⟨rMove_ok, rAny_ok (eqv_bin _ _), rMove_ok, rMove_ok, rLss_ok, rPick_ok, rMove_ok, rMove_ok, rMove_ok, rNil_ok, rFld_ok _, rLoad1_ok, rAny_ok (eqv_len), rGeq_ok, rPick_ok, trivial⟩, ⟨⟨⟨rMove_ok, trivial⟩, trivial⟩, trivial⟩⟩, ⟨⟨rMove_ok, rNil_ok, rFld_ok _, rLoad1_ok, rMove_ok, rIxS_ok _, rLoad1_ok, rMove_ok, trivial⟩, trivial⟩⟩⟩
theorem ve_bw : EvOk s_bw v_bw := EvOk.of (evFn_sound (C := cx_bw) xt_bw xr_bw xo_bw) q_bw
attribute [irreducible] w_bw_j1b w_bw_j1 w_bw s_bw
def w_bm_j1b (K : Value → Mem → Prop) (v1 v5 v16 : Value) (c2 : List Value) (σ : Mem) : Prop :=
xIf v16
 (xF fMove [(.int .i64 (-1))] fun v4 =>
K v4 σ)
 (xF fMove [v1] fun v17 =>
xF fMove [v5] fun v18 =>
xF (fBin .sub .no) [v17, v18] fun v19 =>
xF (fFld 3) [(locP 2)] fun v20 =>
xO (gLoad 1 false [v20] c2) fun v21 =>
xF (fBin .quo .no) [v19, v21] fun v22 =>
xF fMove [v22] fun v4 =>
K v4 σ)
def w_bm_j1 (K : Value → Mem → Prop) (ts : List Value) (ls : List (List Value)) (σ : Mem) : Prop := w_bm_j1b K (ts.getD 0 poison) (ts.getD 1 poison) (ts.getD 2 poison) (ls.getD 0 []) σ
def w_bm (a0 a1 : Value) (K : Value → Mem → Prop) (σ : Mem) : Prop :=
xC (gBox 7 [a0] []) fun c2 =>
xF fMove [.int .i64 0] fun v4 =>
xO (gLoad 7 true [(locP 2)] c2) fun v6 =>
s_bb [v6, .int .i64 0] (fun v7 σ =>
xF fMove [v7] fun v5 =>
xJoin (w_bm_j1 K) fun J1 =>
xF fMove [a1] fun v8 =>
xF fMove [v5] fun v9 =>
xF (fBin .lss .no) [v8, v9] fun v10 =>
xF fMove [v10] fun v11 =>
xIf v11
 (xF fPick [.bool true, .bool true, undef] fun v16 =>
J1 [a1, v5, v16] [c2] σ)
 (xF fMove [a1] fun v12 =>
xO (gLoad 7 true [(locP 2)] c2) fun v13 =>
s_bl [v13] (fun v14 σ =>
xF (fBin .geq .no) [v12, v14] fun v15 =>
xF fPick [.bool false, .bool true, v15] fun v16 =>
J1 [a1, v5, v16] [c2] σ) σ)) σ
def s_bm : Spec := fun args K σ => match args with
  | [a0, a1] => w_bm a0 a1 K σ
  | _ => False
noncomputable def cx_bm : Cx := { P := Try.prog, T := [(63, .none, s_bb), (64, .none, s_bl)], loc := [(2, 2), (20, 2)], eqt := [], n := 23, keep := [(1000004, [1, 5, 16], [2])] }
theorem q_bm : FnS cx_bm Try.f22 (bodyOf Try.f22) 2 = s_bm := by
  funext args K σ
  rcases args with _ | ⟨a0, _ | ⟨a1, _ | ⟨b, r⟩⟩⟩ <;> kernel_rfl
theorem e_bm : Entry Try.prog 22 .none s_bm :=
  entry (C := cx_bm) (TOk.cons e_bb (TOk.cons e_bl TOk.nil)) mixedOk Try.func22 (by kernel_rfl) (by kernel_rfl) (by kernel_rfl) q_bm
def xl_bm : List (Nat × Nat) := [(2, 2), (20, 2)]
noncomputable def xc_bm : XC XN :=
(.seq none
 (.reg [zy xl_bm (.lb 2 7) 2 [.tmp 0],
  zc 4 (.int .i64 0)])
 (.seq none
 (.reg [zy xl_bm (.lr 2 7 true) 6 [.tmp 2],
  zk .none s_bb v_bb 7 [.tmp 6, .const (.int .i64 0)],
  zM 5 7])
 (.seq none
 (.seq (some ([1, 5, 16], [2]))
 (.reg [zM 8 1,
  zM 9 5,
  zb .lss rLss 10 [.tmp 8, .tmp 9],
  zM 11 10,
  ⟨(some (4, 3, false, some 11)), some 12, [.tmp 1], ⟨.f fMove, rMove⟩⟩,
  ⟨(some (5, 3, false, some 11)), some 13, [.tmp 2], ⟨.lr 2 7 true, rAny xl_bm (.lr 2 7 true)⟩⟩,
  ⟨(some (6, 3, false, some 11)), some 14, [.tmp 13], ⟨.call .none s_bl v_bl, rCall v_bl⟩⟩,
  ⟨(some (7, 3, false, some 11)), some 15, [.tmp 12, .tmp 14], ⟨.f (fBin .geq .no), rGeq⟩⟩,
  zz (.f fPick) rPick (some 16) [.tmp 11, .const (.bool true), .tmp 15]])
 (.cond (.tmp 16)
 (.seq none
 (.reg [zc 4 (.int .i64 (-1))])
 .ret)
 .skip))
 (.seq none
 (.reg [zM 17 1,
  zM 18 5,
  zb .sub rSub 19 [.tmp 17, .tmp 18],
  zF 3 20 2,
  zr 2 21 20,
  zy xl_bm (.f (fBin .quo .no)) 22 [.tmp 19, .tmp 21],
  zM 4 22])
 .ret))))
noncomputable def v_bm : EvF := evFn 2 xc_bm [.t 4]
theorem xt_bm : toC cx_bm (bodyOf Try.f22) = some (xc_bm.map XN.sm) := by kernel_rfl
theorem xr_bm : toR cx_bm Try.f22.results.toList = some [.t 4] := by kernel_rfl
theorem xo_bm : xc_bm.ok xl_bm := ⟨⟨rAny_ok (trivial), rMove_ok, trivial⟩, ⟨⟨rAny_ok (trivial), rCall_ok ve_bb, rMove_ok, trivial⟩, ⟨⟨⟨rMove_ok, rMove_ok, rLss_ok, rMove_ok, rMove_ok, rAny_ok (trivial), rCall_ok ve_bl, rGeq_ok, rPick_ok, trivial⟩, ⟨⟨⟨rMove_ok, trivial⟩, trivial⟩, trivial⟩⟩, ⟨⟨rMove_ok, rMove_ok, rSub_ok, rFld_ok _, rLr1_ok _, rAny_ok (eqv_bin _ _), rMove_ok, trivial⟩, trivial⟩⟩⟩⟩
theorem ve_bm : EvOk s_bm v_bm := EvOk.of (evFn_sound (C := cx_bm) xt_bm xr_bm xo_bm) q_bm
attribute [irreducible] w_bm_j1b w_bm_j1 w_bm s_bm
def w_a8_j2b (K : Value → Mem → Prop) (c4 c7 c10 : List Value) (σ : Mem) : Prop :=
xF (fFld 1) [(locP 10)] fun v58 =>
xO (gLoad 1 false [v58] c10) fun v59 =>
s_cr [v59] (fun v60 σ =>
xF fMove [v60] fun v57 =>
xF (fExt 0) [v57] fun v61 =>
xF (fExt 1) [v57] fun v62 =>
xC (gStore 2 [(locP 12), v61] [.int .i64 0, .int .i64 0]) fun c12 =>
xF fMove [v62] fun v13 =>
xF (fFld 7) [(locP 4)] fun v63 =>
xO (gLoad 1 false [v63] c4) fun v64 =>
xF (fFld 0) [(locP 4)] fun v65 =>
xO (gLoad 7 true [v65] c4) fun v66 =>
xF (fFld 0) [(locP 12)] fun v67 =>
xO (gLoad 1 false [v67] c12) fun v68 =>
s_bp [v66, v68] (fun v69 σ =>
s_bw [v64, v69] (fun v70 σ =>
s_cz [v70] (fun v71 σ =>
xF (fFldV 1 1 false) [v71] fun v72 =>
xF fMove [v72] fun v6 =>
xF (fFld 0) [(locP 4)] fun v73 =>
xO (gLoad 7 true [v73] c4) fun v74 =>
xF (fFld 0) [(locP 4)] fun v75 =>
xO (gLoad 7 true [v75] c4) fun v76 =>
xF fMove [v6] fun v77 =>
s_bm [v76, v77] (fun v78 σ =>
s_bd [v74, v78] (fun v79 σ =>
xF fMove [v79] fun v14 =>
xF (fFld 7) [(locP 4)] fun v80 =>
xO (gLoad 1 false [v80] c4) fun v81 =>
xF fMove [v14] fun v82 =>
s_bw [v81, v82] (fun v83 σ =>
s_cq [v83] (fun v84 σ =>
xC (gStore 4 [(locP 15), v84] [.int .i64 0, .int .i64 0, .int .i64 0, .int .i64 0]) fun c15 =>
xF (fFld 3) [(locP 15)] fun v85 =>
xO (gLoad 1 false [v85] c15) fun v86 =>
xF (fBin .add .no) [v86, .int .i64 1] fun v87 =>
xF (fFld 0) [(locP 15)] fun v88 =>
xC (gStore 1 [v88, .int .i64 2] c15) fun c15 =>
xF (fFld 3) [(locP 15)] fun v89 =>
xC (gStore 1 [v89, v87] c15) fun c15 =>
xF (fFld 7) [(locP 4)] fun v90 =>
xO (gLoad 1 false [v90] c4) fun v91 =>
xF fMove [v14] fun v92 =>
xO (gLoad 4 true [(locP 15)] c15) fun v93 =>
s_cu [v93] (fun v94 σ =>
s_by [v91, v92, v94] (fun v95 σ =>
xO (gLoad 9 true [(locP 4)] c4) fun v96 =>
xF (fFld 1) [(locP 10)] fun v97 =>
xO (gLoad 1 false [v97] c10) fun v98 =>
xF fMove [v6] fun v99 =>
xF (fFld 7) [(locP 4)] fun v100 =>
xO (gLoad 1 false [v100] c4) fun v101 =>
xF fMove [v6] fun v102 =>
s_bw [v101, v102] (fun v103 σ =>
s_cs [v103] (fun v104 σ =>
xC (gStore 9 [(locP 4), v96] c4) fun c4 =>
xF fMove [v98] fun v5 =>
xF fMove [v99] fun v6 =>
xC (gStore 5 [(locP 7), v104] c7) fun c7 =>
xF fMove [.bool true] fun v8 =>
xO (gLoad 9 true [(locP 4)] c4) fun r4 =>
xO (gLoad 5 true [(locP 7)] c7) fun r7 =>
K (.tuple #[r4, v5, v6, r7, v8]) σ) σ) σ) σ) σ) σ) σ) σ) σ) σ) σ) σ) σ
def w_a8_j2 (K : Value → Mem → Prop) (ts : List Value) (ls : List (List Value)) (σ : Mem) : Prop := w_a8_j2b K (ls.getD 0 []) (ls.getD 1 []) (ls.getD 2 []) σ
def w_a8_j3b (K : Value → Mem → Prop) (J2 : List Value → List (List Value) → Mem → Prop) (R1 : List Value → List (List Value) → Mem → Prop) (v1 v9 v11 : Value) (c4 c7 c10 : List Value) (σ : Mem) : Prop :=
xO (gLoad 9 true [(locP 4)] c4) fun v46 =>
xF (fFld 1) [(locP 10)] fun v47 =>
xO (gLoad 1 false [v47] c10) fun v48 =>
xF fMove [v11] fun v49 =>
xF fMove [v1] fun v50 =>
xF fMove [v11] fun v51 =>
xF (fIxS 1) [v50, v51] fun v52 =>
hLoad 1 false [v52] (fun v53 σ =>
xF (fBin .and .no) [v53, .int .i64 65535] fun v54 =>
xF (fBuild [(0, 1), (1, 1), (2, 1), (3, 1), (4, 1)] [.int .i64 0, .int .u64 0, .int .i64 0, .int .i64 0, .int .i64 0] [0, 1, 2, 3]) [.int .i64 2, v48, v49, v54] fun v55 =>
s_ay [v46, v55, .bool false] (fun v56 σ =>
xF fMove [v11] fun v44 =>
xF (fBin .add .no) [v44, .int .i64 1] fun v45 =>
xF fMove [v45] fun v11 =>
R1 [v1, v9, v11] [c4, c7, c10] σ) σ) σ
def w_a8_j3 (K : Value → Mem → Prop) (J2 : List Value → List (List Value) → Mem → Prop) (R1 : List Value → List (List Value) → Mem → Prop) (ts : List Value) (ls : List (List Value)) (σ : Mem) : Prop := w_a8_j3b K J2 R1 (ts.getD 0 poison) (ts.getD 1 poison) (ts.getD 2 poison) (ls.getD 0 []) (ls.getD 1 []) (ls.getD 2 []) σ
def w_law11_begun_l8b (K : Value → Mem → Prop) (J2 : List Value → List (List Value) → Mem → Prop) (R1 : List Value → List (List Value) → Mem → Prop) (v1 v9 v11 : Value) (c4 c7 c10 : List Value) (σ : Mem) : Prop :=
xJoin (w_a8_j3 K J2 R1) fun J3 =>
xF fMove [v11] fun v35 =>
xF fMove [v9] fun v36 =>
xF (fBin .lss .no) [v35, v36] fun v37 =>
xF fMove [v37] fun v38 =>
xIf v38
 (xF fMove [v11] fun v39 =>
xF fMove [v1] fun v40 =>
xF fLen [v40] fun v41 =>
xF (fBin .lss .no) [v39, v41] fun v42 =>
xF fPick [.bool true, v42, .bool false] fun v43 =>
xIf v43
 (J3 [v1, v9, v11] [c4, c7, c10] σ)
 (J2 [] [c4, c7, c10] σ))
 (xF fPick [.bool false, undef, .bool false] fun v43 =>
xIf v43
 (J3 [v1, v9, v11] [c4, c7, c10] σ)
 (J2 [] [c4, c7, c10] σ))
def w_law11_begun_l8 (K : Value → Mem → Prop) (J2 : List Value → List (List Value) → Mem → Prop) (R1 : List Value → List (List Value) → Mem → Prop) (ts : List Value) (ls : List (List Value)) (σ : Mem) : Prop := w_law11_begun_l8b K J2 R1 (ts.getD 0 poison) (ts.getD 1 poison) (ts.getD 2 poison) (ls.getD 0 []) (ls.getD 1 []) (ls.getD 2 []) σ
def w_a8_j1b (K : Value → Mem → Prop) (v1 v9 v32 : Value) (c4 c7 c10 : List Value) (σ : Mem) : Prop :=
xIf v32
 (xO (gLoad 9 true [(locP 4)] c4) fun v33 =>
xF (fBuild [(0, 1), (1, 1), (2, 1), (3, 1), (4, 1)] [.int .i64 0, .int .i64 0, .int .i64 0, .int .i64 0, .bool false] []) [] fun v34 =>
xC (gStore 9 [(locP 4), v33] c4) fun c4 =>
xF fMove [.int .u64 0] fun v5 =>
xF fMove [.int .i64 0] fun v6 =>
xC (gStore 5 [(locP 7), v34] c7) fun c7 =>
xF fMove [.bool false] fun v8 =>
xO (gLoad 9 true [(locP 4)] c4) fun r4 =>
xO (gLoad 5 true [(locP 7)] c7) fun r7 =>
K (.tuple #[r4, v5, v6, r7, v8]) σ)
 (xJoin (w_a8_j2 K) fun J2 =>
xF fMove [.int .i64 0] fun v11 =>
xLoop (w_law11_begun_l8 K J2) [v1, v9, v11] [c4, c7, c10] σ)
def w_a8_j1 (K : Value → Mem → Prop) (ts : List Value) (ls : List (List Value)) (σ : Mem) : Prop := w_a8_j1b K (ts.getD 0 poison) (ts.getD 1 poison) (ts.getD 2 poison) (ls.getD 0 []) (ls.getD 1 []) (ls.getD 2 []) σ
def w_a8 (a0 a1 : Value) (K : Value → Mem → Prop) (σ : Mem) : Prop :=
xF fMove [.int .u64 0] fun v5 =>
xF fMove [.int .i64 0] fun v6 =>
xF fMove [.bool false] fun v8 =>
s_av [.int .i64 4, .int .i64 8, .int .i64 4, .int .i64 20] (fun v17 σ =>
xF fMove [v17] fun v16 =>
xF (fExt 0) [v16] fun v18 =>
xF (fExt 1) [v16] fun v19 =>
xC (gStore 9 [(locP 4), v18] [.int .i64 0, .int .i64 0, .int .i64 0, .int .i64 0, .int .i64 0, .int .i64 0, .int .i64 0, .pointer none, .int .i64 0]) fun c4 =>
xF fMove [v19] fun v8 =>
xF fMove [a0] fun v20 =>
xF (fBin .and .no) [v20, .int .i64 15] fun v21 =>
xF (fBin .add .no) [.int .i64 1, v21] fun v22 =>
xF fMove [v22] fun v9 =>
xO (gLoad 9 true [(locP 4)] c4) fun v23 =>
xF fMove [v9] fun v24 =>
s_aw [v23, v24, .bool false] (fun v25 σ =>
xC (gStore 4 [(locP 10), v25] [.int .i64 0, .int .u64 0, .int .i64 0, .int .i64 0]) fun c10 =>
xJoin (w_a8_j1 K) fun J1 =>
xF fMove [v8] fun v26 =>
xF (fUn .not) [v26] fun v27 =>
xF fMove [v27] fun v28 =>
xIf v28
 (xF fPick [.bool true, .bool true, undef] fun v32 =>
J1 [a1, v9, v32] [c4, [.int .i64 0, .int .i64 0, .int .i64 0, .int .i64 0, .bool false], c10] σ)
 (xF (fFld 0) [(locP 10)] fun v29 =>
xO (gLoad 1 false [v29] c10) fun v30 =>
xF (fBin .neq .no) [v30, .int .i64 0] fun v31 =>
xF fPick [.bool false, .bool true, v31] fun v32 =>
J1 [a1, v9, v32] [c4, [.int .i64 0, .int .i64 0, .int .i64 0, .int .i64 0, .bool false], c10] σ)) σ) σ
def s_a8 : Spec := fun args K σ => match args with
  | [a0, a1] => w_a8 a0 a1 K σ
  | _ => False
noncomputable def cx_a8 : Cx := { P := Try.prog, T := [(37, .write, s_av), (38, .write, s_aw), (39, .write, s_ay), (40, .none, s_cr), (27, .none, s_bp), (24, .read, s_bw), (41, .none, s_cz), (22, .none, s_bm), (21, .none, s_bd), (23, .none, s_cq), (26, .none, s_cu), (25, .write, s_by), (32, .none, s_cs)], loc := [(4, 4), (7, 7), (10, 10), (12, 12), (15, 15), (29, 10), (47, 10), (58, 10), (63, 4), (65, 4), (67, 12), (73, 4), (75, 4), (80, 4), (85, 15), (88, 15), (89, 15), (90, 4), (97, 10), (100, 4)], eqt := [], n := 105, keep := [(8, [1, 9, 11], [4, 7, 10]), (1000006, [1, 9, 32], [4, 7, 10]), (1000010, [1, 9, 11], [4, 7, 10]), (1000011, [], [4, 7, 10])] }
theorem q_a8 : FnS cx_a8 Try.f11 (bodyOf Try.f11) 2 = s_a8 := by
  funext args K σ
  rcases args with _ | ⟨a0, _ | ⟨a1, _ | ⟨b, r⟩⟩⟩ <;> kernel_rfl
theorem e_a8 : Entry Try.prog 11 .write s_a8 :=
  entry (C := cx_a8) (TOk.cons e_av (TOk.cons e_aw (TOk.cons e_ay (TOk.cons e_cr (TOk.cons e_bp (TOk.cons e_bw (TOk.cons e_cz (TOk.cons e_bm (TOk.cons e_bd (TOk.cons e_cq (TOk.cons e_cu (TOk.cons e_by (TOk.cons e_cs TOk.nil))))))))))))) mixedOk Try.func11 (by kernel_rfl) (by kernel_rfl) (by kernel_rfl) q_a8
def xl_a8 : List (Nat × Nat) := [(4, 4), (7, 7), (10, 10), (12, 12), (15, 15), (29, 10), (47, 10), (58, 10), (63, 4), (65, 4), (67, 12), (73, 4), (75, 4), (80, 4), (85, 15), (88, 15), (89, 15), (90, 4), (97, 10), (100, 4)]
noncomputable def xc_a8 : XC XN :=
(.seq none
 (.reg [zy xl_a8 (.la 4 [.int .i64 0, .int .i64 0, .int .i64 0, .int .i64 0, .int .i64 0, .int .i64 0, .int .i64 0, .pointer none, .int .i64 0]) 4 [],
  zc 5 (.int .u64 0),
  zc 6 (.int .i64 0),
  zy xl_a8 (.la 7 [.int .i64 0, .int .i64 0, .int .i64 0, .int .i64 0, .bool false]) 7 [],
  zc 8 (.bool false)])
 (.seq none
 (.reg [zk .write s_av v_av 17 [.const (.int .i64 4), .const (.int .i64 8), .const (.int .i64 4), .const (.int .i64 20)],
  zM 16 17,
  zy xl_a8 (.f (fExt 0)) 18 [.tmp 16],
  zy xl_a8 (.f (fExt 1)) 19 [.tmp 16],
  zY xl_a8 (.ls 4 9) [.tmp 4, .tmp 18],
  zM 8 19])
 (.seq none
 (.reg [zM 20 0,
  zy xl_a8 (.band .no) 21 [.tmp 20, .const (.int .i64 15)],
  zb .add rAdd 22 [.const (.int .i64 1), .tmp 21],
  zM 9 22])
 (.seq none
 (.reg [zy xl_a8 (.lr 4 9 true) 23 [.tmp 4],
  zM 24 9,
  zk .write s_aw v_aw 25 [.tmp 23, .tmp 24, .const (.bool false)],
  zy xl_a8 (.la 10 [.int .i64 0, .int .u64 0, .int .i64 0, .int .i64 0]) 10 [],
  zY xl_a8 (.ls 10 4) [.tmp 10, .tmp 25]])
 (.seq none
 (.seq (some ([1, 9, 32], [4, 7, 10]))
 (.reg [zM 26 8,
  zz (.f (fUn .not)) rNot (some 27) [.tmp 26],
  zM 28 27,
  ⟨(some (3, 2, false, some 28)), some 29, [.tmp 10], ⟨.f (fFld 0), rFld 0⟩⟩,
  ⟨(some (4, 2, false, some 28)), some 30, [.tmp 29], ⟨.lr 10 1 false, rLr1 10⟩⟩,
  ⟨(some (5, 2, false, some 28)), some 31, [.tmp 30, (.const (.int .i64 0))], ⟨.f (fBin .neq .no), rNeq⟩⟩,
  zz (.f fPick) rPick (some 32) [.tmp 28, .const (.bool true), .tmp 31]])
 (.cond (.tmp 32)
 (.seq none
 (.reg [zy xl_a8 (.lr 4 9 true) 33 [.tmp 4],
  zy xl_a8 (.f (fBuild [(0, 1), (1, 1), (2, 1), (3, 1), (4, 1)] [.int .i64 0, .int .i64 0, .int .i64 0, .int .i64 0, .bool false] [])) 34 [],
  zY xl_a8 (.ls 4 9) [.tmp 4, .tmp 33],
  zc 5 (.int .u64 0),
  zc 6 (.int .i64 0),
  zY xl_a8 (.ls 7 5) [.tmp 7, .tmp 34],
  zc 8 (.bool false)])
 .ret)
 .skip))
 (.seq (some ([], [4, 7, 10]))
 (.seq none
 (.reg [zc 11 (.int .i64 0)])
 (.block 0
 (.loop ([1, 9, 11], [4, 7, 10])
 (.seq (some ([1, 9, 11], [4, 7, 10]))
 (.seq none
 (.reg [zM 35 11,
  zM 36 9,
  zb .lss rLss 37 [.tmp 35, .tmp 36],
  zM 38 37,
  ⟨(some (4, 3, true, some 38)), some 39, [.tmp 11], ⟨.f fMove, rMove⟩⟩,
  ⟨(some (5, 3, true, some 38)), some 40, [.tmp 1], ⟨.f fMove, rMove⟩⟩,
  ⟨(some (6, 3, true, some 38)), some 41, [.tmp 40], ⟨.f fLen, rAny xl_a8 (.f fLen)⟩⟩,
  ⟨(some (7, 3, true, some 38)), some 42, [.tmp 39, .tmp 41], ⟨.f (fBin .lss .no), rLss⟩⟩,
  zz (.f fPick) rPick (some 43) [.tmp 38, .tmp 42, .const (.bool false)]])
 (.cond (.tmp 43)
 .skip
 (.exit 0)))
 (.seq none
 (.block 1
 (.reg [zy xl_a8 (.lr 4 9 true) 46 [.tmp 4],
  zF 1 47 10,
  zr 10 48 47,
  zM 49 11,
  zM 50 1,
  zM 51 11,
  zz (.f (fIxS 1)) (rIxS 1) (some 52) [.tmp 50, .tmp 51],
  zL 53 52,
  zy xl_a8 (.band .no) 54 [.tmp 53, .const (.int .i64 65535)],
  zy xl_a8 (.f (fBuild [(0, 1), (1, 1), (2, 1), (3, 1), (4, 1)] [.int .i64 0, .int .u64 0, .int .i64 0, .int .i64 0, .int .i64 0] [0, 1, 2, 3])) 55 [.const (.int .i64 2), .tmp 48, .tmp 49, .tmp 54],
  zk .write s_ay v_ay 56 [.tmp 46, .tmp 55, .const (.bool false)]]))
 (.reg [zM 44 11,
  zb .add rAdd 45 [.tmp 44, .const (.int .i64 1)],
  zM 11 45]))))))
 (.seq none
 (.reg [zF 1 58 10,
  zr 10 59 58,
  zk .none s_cr v_cr 60 [.tmp 59],
  zM 57 60,
  zy xl_a8 (.f (fExt 0)) 61 [.tmp 57],
  zy xl_a8 (.f (fExt 1)) 62 [.tmp 57],
  zy xl_a8 (.la 12 [.int .i64 0, .int .i64 0]) 12 [],
  zY xl_a8 (.ls 12 2) [.tmp 12, .tmp 61],
  zM 13 62])
 (.seq none
 (.reg [zF 7 63 4,
  zr 4 64 63,
  zF 0 65 4,
  zy xl_a8 (.lr 4 7 true) 66 [.tmp 65],
  zF 0 67 12,
  zr 12 68 67,
  zk .none s_bp v_bp 69 [.tmp 66, .tmp 68],
  zk .read s_bw v_bw 70 [.tmp 64, .tmp 69],
  zk .none s_cz v_cz 71 [.tmp 70],
  zy xl_a8 (.f (fFldV 1 1 false)) 72 [.tmp 71],
  zM 6 72])
 (.seq none
 (.reg [zF 0 73 4,
  zy xl_a8 (.lr 4 7 true) 74 [.tmp 73],
  zF 0 75 4,
  zy xl_a8 (.lr 4 7 true) 76 [.tmp 75],
  zM 77 6,
  zk .none s_bm v_bm 78 [.tmp 76, .tmp 77],
  zk .none s_bd v_bd 79 [.tmp 74, .tmp 78],
  zM 14 79])
 (.seq none
 (.reg [zF 7 80 4,
  zr 4 81 80,
  zM 82 14,
  zk .read s_bw v_bw 83 [.tmp 81, .tmp 82],
  zk .none s_cq v_cq 84 [.tmp 83],
  zy xl_a8 (.la 15 [.int .i64 0, .int .i64 0, .int .i64 0, .int .i64 0]) 15 [],
  zY xl_a8 (.ls 15 4) [.tmp 15, .tmp 84]])
 (.seq none
 (.reg [zF 3 85 15,
  zr 15 86 85,
  zb .add rAdd 87 [.tmp 86, .const (.int .i64 1)],
  zF 0 88 15,
  zz (.ls 15 1) (rLs1 15) none [.tmp 88, .const (.int .i64 2)],
  zF 3 89 15,
  zz (.ls 15 1) (rLs1 15) none [.tmp 89, .tmp 87]])
 (.seq none
 (.reg [zF 7 90 4,
  zr 4 91 90,
  zM 92 14,
  zy xl_a8 (.lr 15 4 true) 93 [.tmp 15],
  zk .none s_cu v_cu 94 [.tmp 93],
  zk .write s_by v_by 95 [.tmp 91, .tmp 92, .tmp 94]])
 (.seq none
 (.reg [zy xl_a8 (.lr 4 9 true) 96 [.tmp 4],
  zF 1 97 10,
  zr 10 98 97,
  zM 99 6,
  zF 7 100 4,
  zr 4 101 100,
  zM 102 6,
  zk .read s_bw v_bw 103 [.tmp 101, .tmp 102],
  zk .none s_cs v_cs 104 [.tmp 103],
  zY xl_a8 (.ls 4 9) [.tmp 4, .tmp 96],
  zM 5 98,
  zM 6 99,
  zY xl_a8 (.ls 7 5) [.tmp 7, .tmp 104],
  zc 8 (.bool true)])
 .ret)))))))))))))
noncomputable def v_a8 : EvF := evFn 2 xc_a8 [.c 4 4 9 true, .t 5, .t 6, .c 7 7 5 true, .t 8]
theorem xt_a8 : toC cx_a8 (bodyOf Try.f11) = some (xc_a8.map XN.sm) := by kernel_rfl
theorem xr_a8 : toR cx_a8 Try.f11.results.toList = some [.c 4 4 9 true, .t 5, .t 6, .c 7 7 5 true, .t 8] := by kernel_rfl
theorem xo_a8 : xc_a8.ok xl_a8 := ⟨⟨rAny_ok (trivial), rMove_ok, rMove_ok, rAny_ok (trivial), rMove_ok, trivial⟩, ⟨⟨rCall_ok ve_av, rMove_ok, rAny_ok (eqv_ext _), rAny_ok (eqv_ext _), rAny_ok (trivial), rMove_ok, trivial⟩, ⟨⟨rMove_ok, rAny_ok (trivial), rAdd_ok, rMove_ok, trivial⟩, ⟨⟨rAny_ok (trivial), rMove_ok, rCall_ok ve_aw, rAny_ok (trivial), rAny_ok (trivial), trivial⟩, ⟨⟨⟨rMove_ok, rNot_ok, rMove_ok, rFld_ok _, rLr1_ok _, rNeq_ok, rPick_ok, trivial⟩, ⟨⟨⟨rAny_ok (trivial), rAny_ok (eqv_build _ rfl _), rAny_ok (trivial), rMove_ok, rMove_ok, rAny_ok (trivial), rMove_ok, trivial⟩, trivial⟩, trivial⟩⟩, ⟨⟨⟨rMove_ok, trivial⟩, ⟨⟨⟨rMove_ok, rMove_ok, rLss_ok, rMove_ok, rMove_ok, rMove_ok, rAny_ok (eqv_len), rLss_ok, rPick_ok, trivial⟩, ⟨trivial, trivial⟩⟩, ⟨⟨rAny_ok (trivial), rFld_ok _, rLr1_ok _, rMove_ok, rMove_ok, rMove_ok, rIxS_ok _, rLoad1_ok, rAny_ok (trivial), rAny_ok (eqv_build _ rfl _), rCall_ok ve_ay, trivial⟩, ⟨rMove_ok, rAdd_ok, rMove_ok, trivial⟩⟩⟩⟩, ⟨⟨rFld_ok _, rLr1_ok _, rCall_ok ve_cr, rMove_ok, rAny_ok (eqv_ext _), rAny_ok (eqv_ext _), rAny_ok (trivial), rAny_ok (trivial), rMove_ok, trivial⟩, ⟨⟨rFld_ok _, rLr1_ok _, rFld_ok _, rAny_ok (trivial), rFld_ok _, rLr1_ok _, rCall_ok ve_bp, rCall_ok ve_bw, rCall_ok ve_cz, rAny_ok (eqv_fldV _ _ _), rMove_ok, trivial⟩, ⟨⟨rFld_ok _, rAny_ok (trivial), rFld_ok _, rAny_ok (trivial), rMove_ok, rCall_ok ve_bm, rCall_ok ve_bd, rMove_ok, trivial⟩, ⟨⟨rFld_ok _, rLr1_ok _, rMove_ok, rCall_ok ve_bw, rCall_ok ve_cq, rAny_ok (trivial), rAny_ok (trivial), trivial⟩, ⟨⟨rFld_ok _, rLr1_ok _, rAdd_ok, rFld_ok _, rLs1_ok _, rFld_ok _, rLs1_ok _, trivial⟩, ⟨⟨rFld_ok _, rLr1_ok _, rMove_ok, rAny_ok (trivial), rCall_ok ve_cu, rCall_ok ve_by, trivial⟩, ⟨⟨rAny_ok (trivial), rFld_ok _, rLr1_ok _, rMove_ok, rFld_ok _, rLr1_ok _, rMove_ok, rCall_ok ve_bw, rCall_ok ve_cs, rAny_ok (trivial), rMove_ok, rMove_ok, rAny_ok (trivial), rMove_ok, trivial⟩, trivial⟩⟩⟩⟩⟩⟩⟩⟩⟩⟩⟩⟩⟩
theorem ve_a8 : EvOk s_a8 v_a8 := EvOk.of (evFn_sound (C := cx_a8) xt_a8 xr_a8 xo_a8) q_a8
attribute [irreducible] w_a8_j2b w_a8_j2 w_a8_j3b w_a8_j3 w_law11_begun_l8b w_law11_begun_l8 w_a8_j1b w_a8_j1 w_a8 s_a8
def w_cd (a0 a1 : Value) (K : Value → Mem → Prop) (σ : Mem) : Prop :=
xC (gBox 5 [a1] []) fun c3 =>
xF fMove [.pointer none] fun v4 =>
xF fMove [a0] fun v5 =>
xO (gLoad 5 true [(locP 3)] c3) fun v6 =>
xF (fBuild [(0, 1), (1, 5), (6, 1), (7, 1), (8, 1), (9, 2), (11, 1), (12, 1), (13, 1), (14, 1), (15, 1)] [.int .i64 0, .int .i64 0, .int .i64 0, .int .i64 0, .int .i64 0, .bool false, .int .i64 0, .int .u64 0, .pointer none, .int .i64 0, .int .i64 0, .bool false, .int .i64 0, .int .u64 0, .int .i64 0, .int .i64 0] [0, 1]) [v5, v6] fun v7 =>
hBox 16 [v7] (fun v8 σ =>
xF fMove [v8] fun v4 =>
K v4 σ) σ
def s_cd : Spec := fun args K σ => match args with
  | [a0, a1] => w_cd a0 a1 K σ
  | _ => False
noncomputable def cx_cd : Cx := { P := Try.prog, T := [], loc := [(3, 3)], eqt := [], n := 9, keep := [] }
theorem q_cd : FnS cx_cd Try.f13 (bodyOf Try.f13) 2 = s_cd := by
  funext args K σ
  rcases args with _ | ⟨a0, _ | ⟨a1, _ | ⟨b, r⟩⟩⟩ <;> kernel_rfl
theorem e_cd : Entry Try.prog 13 .write s_cd :=
  entry (C := cx_cd) TOk.nil mixedOk Try.func13 (by kernel_rfl) (by kernel_rfl) (by kernel_rfl) q_cd
def xl_cd : List (Nat × Nat) := [(3, 3)]
noncomputable def xc_cd : XC XN :=
(.seq none
 (.reg [zy xl_cd (.lb 3 5) 3 [.tmp 1],
  zc 4 (.pointer none)])
 (.seq none
 (.reg [zM 5 0,
  zy xl_cd (.lr 3 5 true) 6 [.tmp 3],
  zy xl_cd (.f (fBuild [(0, 1), (1, 5), (6, 1), (7, 1), (8, 1), (9, 2), (11, 1), (12, 1), (13, 1), (14, 1), (15, 1)] [.int .i64 0, .int .i64 0, .int .i64 0, .int .i64 0, .int .i64 0, .bool false, .int .i64 0, .int .u64 0, .pointer none, .int .i64 0, .int .i64 0, .bool false, .int .i64 0, .int .u64 0, .int .i64 0, .int .i64 0] [0, 1])) 7 [.tmp 5, .tmp 6],
  zy xl_cd (.box 16) 8 [.tmp 7],
  zM 4 8])
 .ret))
noncomputable def v_cd : EvF := evFn 2 xc_cd [.t 4]
theorem xt_cd : toC cx_cd (bodyOf Try.f13) = some (xc_cd.map XN.sm) := by kernel_rfl
theorem xr_cd : toR cx_cd Try.f13.results.toList = some [.t 4] := by kernel_rfl
theorem xo_cd : xc_cd.ok xl_cd := ⟨⟨rAny_ok (trivial), rMove_ok, trivial⟩, ⟨⟨rMove_ok, rAny_ok (trivial), rAny_ok (eqv_build _ rfl _), rAny_ok (trivial), rMove_ok, trivial⟩, trivial⟩⟩
theorem ve_cd : EvOk s_cd v_cd := EvOk.of (evFn_sound (C := cx_cd) xt_cd xr_cd xo_cd) q_cd
attribute [irreducible] w_cd s_cd
def w_cc (a0 a1 : Value) (K : Value → Mem → Prop) (σ : Mem) : Prop :=
xC (gBox 9 [a1] []) fun c3 =>
xF fMove [.int .i64 0] fun v4 =>
xF (fFld 0) [(locP 3)] fun v5 =>
xO (gLoad 7 true [v5] c3) fun v6 =>
xF fMove [a0] fun v7 =>
xF fNil [v7] fun v8 =>
xF (fFld 1) [v8] fun v9 =>
xF (fFld 2) [v9] fun v10 =>
hLoad 1 false [v10] (fun v11 σ =>
s_bp [v6, v11] (fun v12 σ =>
xF fMove [v12] fun v4 =>
K v4 σ) σ) σ
def s_cc : Spec := fun args K σ => match args with
  | [a0, a1] => w_cc a0 a1 K σ
  | _ => False
noncomputable def cx_cc : Cx := { P := Try.prog, T := [(27, .none, s_bp)], loc := [(3, 3), (5, 3)], eqt := [], n := 13, keep := [] }
theorem q_cc : FnS cx_cc Try.f49 (bodyOf Try.f49) 2 = s_cc := by
  funext args K σ
  rcases args with _ | ⟨a0, _ | ⟨a1, _ | ⟨b, r⟩⟩⟩ <;> kernel_rfl
theorem e_cc : Entry Try.prog 49 .read s_cc :=
  entry (C := cx_cc) (TOk.cons e_bp TOk.nil) mixedOk Try.func49 (by kernel_rfl) (by kernel_rfl) (by kernel_rfl) q_cc
def xl_cc : List (Nat × Nat) := [(3, 3), (5, 3)]
noncomputable def xc_cc : XC XN :=
(.seq none
 (.reg [zy xl_cc (.lb 3 9) 3 [.tmp 1],
  zc 4 (.int .i64 0)])
 (.seq none
 (.reg [zF 0 5 3,
  zy xl_cc (.lr 3 7 true) 6 [.tmp 5],
  zM 7 0,
  zN 8 7,
  zF 1 9 8,
  zF 2 10 9,
  zL 11 10,
  zk .none s_bp v_bp 12 [.tmp 6, .tmp 11],
  zM 4 12])
 .ret))
noncomputable def v_cc : EvF := evFn 2 xc_cc [.t 4]
theorem xt_cc : toC cx_cc (bodyOf Try.f49) = some (xc_cc.map XN.sm) := by kernel_rfl
theorem xr_cc : toR cx_cc Try.f49.results.toList = some [.t 4] := by kernel_rfl
theorem xo_cc : xc_cc.ok xl_cc := ⟨⟨rAny_ok (trivial), rMove_ok, trivial⟩, ⟨⟨rFld_ok _, rAny_ok (trivial), rMove_ok, rNil_ok, rFld_ok _, rFld_ok _, rLoad1_ok, rCall_ok ve_bp, rMove_ok, trivial⟩, trivial⟩⟩
theorem ve_cc : EvOk s_cc v_cc := EvOk.of (evFn_sound (C := cx_cc) xt_cc xr_cc xo_cc) q_cc
attribute [irreducible] w_cc s_cc
def w_b9_j1b (K : Value → Mem → Prop) (v0 : Value) (σ : Mem) : Prop :=
xF fMove [v0] fun v16 =>
xF fNil [v16] fun v17 =>
xF (fFld 11) [v17] fun v18 =>
hLoad 1 false [v18] (fun v19 σ =>
xF (fUn .not) [v19] fun v20 =>
xF fMove [v20] fun v4 =>
K v4 σ) σ
def w_b9_j1 (K : Value → Mem → Prop) (ts : List Value) (ls : List (List Value)) (σ : Mem) : Prop := w_b9_j1b K (ts.getD 0 poison) σ
def w_b9 (a0 a1 : Value) (K : Value → Mem → Prop) (σ : Mem) : Prop :=
xF fMove [.bool false] fun v4 =>
xF fMove [a0] fun v5 =>
xF fMove [a1] fun v6 =>
xF fNil [v5] fun v7 =>
xF (fFld 15) [v7] fun v8 =>
hStore 1 [v8, v6] (fun _v σ =>
xJoin (w_b9_j1 K) fun J1 =>
xF fMove [a0] fun v9 =>
xF fNil [v9] fun v10 =>
xF (fFld 11) [v10] fun v11 =>
hLoad 1 false [v11] (fun v12 σ =>
xIf v12
 (xF fMove [a0] fun v13 =>
xF fNil [v13] fun v14 =>
xF (fFld 6) [v14] fun v15 =>
hStore 1 [v15, .int .i64 11] (fun _v σ =>
J1 [a0] [] σ) σ)
 (J1 [a0] [] σ)) σ) σ
def s_b9 : Spec := fun args K σ => match args with
  | [a0, a1] => w_b9 a0 a1 K σ
  | _ => False
noncomputable def cx_b9 : Cx := { P := Try.prog, T := [], loc := [], eqt := [], n := 21, keep := [(1000005, [0], [])] }
theorem q_b9 : FnS cx_b9 Try.f45 (bodyOf Try.f45) 2 = s_b9 := by
  funext args K σ
  rcases args with _ | ⟨a0, _ | ⟨a1, _ | ⟨b, r⟩⟩⟩ <;> kernel_rfl
theorem e_b9 : Entry Try.prog 45 .write s_b9 :=
  entry (C := cx_b9) TOk.nil mixedOk Try.func45 (by kernel_rfl) (by kernel_rfl) (by kernel_rfl) q_b9
def xl_b9 : List (Nat × Nat) := []
noncomputable def xc_b9 : XC XN :=
(.seq none
 (.reg [zc 4 (.bool false)])
 (.seq none
 (.reg [zM 5 0,
  zM 6 1,
  zN 7 5,
  zF 15 8 7,
  zS [.tmp 8, .tmp 6]])
 (.seq (some ([0], []))
 (.seq none
 (.reg [zM 9 0,
  zN 10 9,
  zF 11 11 10,
  zL 12 11])
 (.cond (.tmp 12)
 (.reg [zM 13 0,
  zN 14 13,
  zF 6 15 14,
  zS [.tmp 15, .const (.int .i64 11)]])
 .skip))
 (.seq none
 (.reg [zM 16 0,
  zN 17 16,
  zF 11 18 17,
  zL 19 18,
  zz (.f (fUn .not)) rNot (some 20) [.tmp 19],
  zM 4 20])
 .ret))))
noncomputable def v_b9 : EvF := evFn 2 xc_b9 [.t 4]
theorem xt_b9 : toC cx_b9 (bodyOf Try.f45) = some (xc_b9.map XN.sm) := by kernel_rfl
theorem xr_b9 : toR cx_b9 Try.f45.results.toList = some [.t 4] := by kernel_rfl
theorem xo_b9 : xc_b9.ok xl_b9 := ⟨⟨rMove_ok, trivial⟩, ⟨⟨rMove_ok, rMove_ok, rNil_ok, rFld_ok _, rStore1_ok, trivial⟩, ⟨⟨⟨rMove_ok, rNil_ok, rFld_ok _, rLoad1_ok, trivial⟩, ⟨⟨rMove_ok, rNil_ok, rFld_ok _, rStore1_ok, trivial⟩, trivial⟩⟩, ⟨⟨rMove_ok, rNil_ok, rFld_ok _, rLoad1_ok, rNot_ok, rMove_ok, trivial⟩, trivial⟩⟩⟩⟩
theorem ve_b9 : EvOk s_b9 v_b9 := EvOk.of (evFn_sound (C := cx_b9) xt_b9 xr_b9 xo_b9) q_b9
attribute [irreducible] w_b9_j1b w_b9_j1 w_b9 s_b9
def w_ca_j1b (K : Value → Mem → Prop) (σ : Mem) : Prop :=
xF fMove [.bool false] fun v4 =>
K v4 σ
def w_ca_j1 (K : Value → Mem → Prop) (ts : List Value) (ls : List (List Value)) (σ : Mem) : Prop := w_ca_j1b K σ
def w_ca_j3b (K : Value → Mem → Prop) (J1 : List Value → List (List Value) → Mem → Prop) (v0 v57 : Value) (c5 : List Value) (σ : Mem) : Prop :=
xIf v57
 (xF fMove [v0] fun v80 =>
s_b9 [v80, .int .i64 2] (fun v81 σ =>
xF fMove [v81] fun v4 =>
K v4 σ) σ)
 (xF (fFld 3) [(locP 5)] fun v83 =>
xO (gLoad 1 false [v83] c5) fun v84 =>
xF (fBin .geq .no) [v84, .int .i64 4194302] fun v85 =>
xF fMove [v85] fun v82 =>
xIf v82
 (xF fMove [v0] fun v86 =>
s_b9 [v86, .int .i64 3] (fun v87 σ =>
xF fMove [v87] fun v4 =>
K v4 σ) σ)
 (xF fMove [v0] fun v89 =>
xF fNil [v89] fun v90 =>
xF (fFld 11) [v90] fun v91 =>
hLoad 1 false [v91] (fun v92 σ =>
xF fMove [v92] fun v88 =>
xIf v88
 (xF fMove [v0] fun v93 =>
xF fNil [v93] fun v94 =>
xF (fFld 6) [v94] fun v95 =>
hStore 1 [v95, .int .i64 3] (fun _v σ =>
J1 [] [] σ) σ)
 (xF fMove [v0] fun v19 =>
xF fMove [v0] fun v20 =>
xF fMove [v0] fun v21 =>
xF fNil [v21] fun v22 =>
xF (fFld 1) [v22] fun v23 =>
xF (fFld 1) [v23] fun v24 =>
hLoad 1 false [v24] (fun v25 σ =>
s_be [v25] (fun v26 σ =>
s_ce [v26] (fun v27 σ =>
xF fNil [v19] fun v28 =>
xF (fFld 8) [v28] fun v29 =>
hStore 1 [v29, v27] (fun _v σ =>
xF fNil [v20] fun v30 =>
xF (fFld 6) [v30] fun v31 =>
hStore 1 [v31, .int .i64 1] (fun _v σ =>
J1 [] [] σ) σ) σ) σ) σ) σ)) σ))
def w_ca_j3 (K : Value → Mem → Prop) (J1 : List Value → List (List Value) → Mem → Prop) (ts : List Value) (ls : List (List Value)) (σ : Mem) : Prop := w_ca_j3b K J1 (ts.getD 0 poison) (ts.getD 1 poison) (ls.getD 0 []) σ
def w_ca_j2b (K : Value → Mem → Prop) (J1 : List Value → List (List Value) → Mem → Prop) (v0 v32 : Value) (c5 : List Value) (σ : Mem) : Prop :=
xIf v32
 (xF fMove [v0] fun v55 =>
s_b9 [v55, .int .i64 3] (fun v56 σ =>
xF fMove [v56] fun v4 =>
K v4 σ) σ)
 (xJoin (w_ca_j3 K J1) fun J3 =>
xF (fFld 0) [(locP 5)] fun v58 =>
xO (gLoad 1 false [v58] c5) fun v59 =>
xF (fBin .neq .no) [v59, .int .i64 1] fun v60 =>
xF fMove [v60] fun v61 =>
xIf v61
 (xF fPick [.bool true, .bool true, undef] fun v70 =>
xF fMove [v70] fun v71 =>
xIf v71
 (xF fPick [.bool true, .bool true, undef] fun v79 =>
xF fMove [v79] fun v57 =>
J3 [v0, v57] [c5] σ)
 (xF (fFld 1) [(locP 5)] fun v72 =>
xO (gLoad 1 false [v72] c5) fun v73 =>
xF fMove [v0] fun v74 =>
xF fNil [v74] fun v75 =>
xF (fFld 0) [v75] fun v76 =>
hLoad 1 false [v76] (fun v77 σ =>
xF (fBin .neq .no) [v73, v77] fun v78 =>
xF fPick [.bool false, .bool true, v78] fun v79 =>
xF fMove [v79] fun v57 =>
J3 [v0, v57] [c5] σ) σ))
 (xF (fFld 2) [(locP 5)] fun v62 =>
xO (gLoad 1 false [v62] c5) fun v63 =>
xF fMove [v0] fun v64 =>
xF fNil [v64] fun v65 =>
xF (fFld 1) [v65] fun v66 =>
xF (fFld 3) [v66] fun v67 =>
hLoad 1 false [v67] (fun v68 σ =>
xF (fBin .neq .no) [v63, v68] fun v69 =>
xF fPick [.bool false, .bool true, v69] fun v70 =>
xF fMove [v70] fun v71 =>
xIf v71
 (xF fPick [.bool true, .bool true, undef] fun v79 =>
xF fMove [v79] fun v57 =>
J3 [v0, v57] [c5] σ)
 (xF (fFld 1) [(locP 5)] fun v72 =>
xO (gLoad 1 false [v72] c5) fun v73 =>
xF fMove [v0] fun v74 =>
xF fNil [v74] fun v75 =>
xF (fFld 0) [v75] fun v76 =>
hLoad 1 false [v76] (fun v77 σ =>
xF (fBin .neq .no) [v73, v77] fun v78 =>
xF fPick [.bool false, .bool true, v78] fun v79 =>
xF fMove [v79] fun v57 =>
J3 [v0, v57] [c5] σ) σ)) σ))
def w_ca_j2 (K : Value → Mem → Prop) (J1 : List Value → List (List Value) → Mem → Prop) (ts : List Value) (ls : List (List Value)) (σ : Mem) : Prop := w_ca_j2b K J1 (ts.getD 0 poison) (ts.getD 1 poison) (ls.getD 0 []) σ
def w_ca (a0 a1 : Value) (K : Value → Mem → Prop) (σ : Mem) : Prop :=
xC (gBox 9 [a1] []) fun c3 =>
xF fMove [.bool false] fun v4 =>
xF fMove [a0] fun v6 =>
xO (gLoad 9 true [(locP 3)] c3) fun v7 =>
xF fMove [a0] fun v8 =>
xO (gLoad 9 true [(locP 3)] c3) fun v9 =>
s_cc [v8, v9] (fun v10 σ =>
s_bh [v7, v10] (fun v11 σ =>
xF fNil [v6] fun v12 =>
xF (fFld 7) [v12] fun v13 =>
hStore 1 [v13, v11] (fun _v σ =>
xF fMove [a0] fun v14 =>
xF fNil [v14] fun v15 =>
xF (fFld 7) [v15] fun v16 =>
hLoad 1 false [v16] (fun v17 σ =>
s_cz [v17] (fun v18 σ =>
xC (gStore 4 [(locP 5), v18] [.int .i64 0, .int .i64 0, .int .i64 0, .int .i64 0]) fun c5 =>
xJoin (w_ca_j1 K) fun J1 =>
xJoin (w_ca_j2 K J1) fun J2 =>
xF (fFld 0) [(locP 5)] fun v33 =>
xO (gLoad 1 false [v33] c5) fun v34 =>
xF (fBin .eql .no) [v34, .int .i64 4] fun v35 =>
xF fMove [v35] fun v36 =>
xIf v36
 (xF (fFld 2) [(locP 5)] fun v37 =>
xO (gLoad 1 false [v37] c5) fun v38 =>
xF fMove [a0] fun v39 =>
xF fNil [v39] fun v40 =>
xF (fFld 1) [v40] fun v41 =>
xF (fFld 3) [v41] fun v42 =>
hLoad 1 false [v42] (fun v43 σ =>
xF (fBin .eql .no) [v38, v43] fun v44 =>
xF fPick [.bool true, v44, .bool false] fun v45 =>
xF fMove [v45] fun v46 =>
xIf v46
 (xF (fFld 1) [(locP 5)] fun v47 =>
xO (gLoad 1 false [v47] c5) fun v48 =>
xF fMove [a0] fun v49 =>
xF fNil [v49] fun v50 =>
xF (fFld 0) [v50] fun v51 =>
hLoad 1 false [v51] (fun v52 σ =>
xF (fBin .eql .no) [v48, v52] fun v53 =>
xF fPick [.bool true, v53, .bool false] fun v54 =>
xF fMove [v54] fun v32 =>
J2 [a0, v32] [c5] σ) σ)
 (xF fPick [.bool false, undef, .bool false] fun v54 =>
xF fMove [v54] fun v32 =>
J2 [a0, v32] [c5] σ)) σ)
 (xF fPick [.bool false, undef, .bool false] fun v45 =>
xF fMove [v45] fun v46 =>
xIf v46
 (xF (fFld 1) [(locP 5)] fun v47 =>
xO (gLoad 1 false [v47] c5) fun v48 =>
xF fMove [a0] fun v49 =>
xF fNil [v49] fun v50 =>
xF (fFld 0) [v50] fun v51 =>
hLoad 1 false [v51] (fun v52 σ =>
xF (fBin .eql .no) [v48, v52] fun v53 =>
xF fPick [.bool true, v53, .bool false] fun v54 =>
xF fMove [v54] fun v32 =>
J2 [a0, v32] [c5] σ) σ)
 (xF fPick [.bool false, undef, .bool false] fun v54 =>
xF fMove [v54] fun v32 =>
J2 [a0, v32] [c5] σ))) σ) σ) σ) σ) σ
def s_ca : Spec := fun args K σ => match args with
  | [a0, a1] => w_ca a0 a1 K σ
  | _ => False
noncomputable def cx_ca : Cx := { P := Try.prog, T := [(49, .read, s_cc), (51, .write, s_bh), (41, .none, s_cz), (45, .write, s_b9), (31, .write, s_be), (76, .write, s_ce)], loc := [(3, 3), (5, 5), (33, 5), (37, 5), (47, 5), (58, 5), (62, 5), (72, 5), (83, 5)], eqt := [], n := 96, keep := [(1000006, [0, 32], [5]), (1000008, [0, 57], [5]), (1000013, [], [])] }
theorem q_ca : FnS cx_ca Try.f42 (bodyOf Try.f42) 2 = s_ca := by
  funext args K σ
  rcases args with _ | ⟨a0, _ | ⟨a1, _ | ⟨b, r⟩⟩⟩ <;> kernel_rfl
theorem e_ca : Entry Try.prog 42 .write s_ca :=
  entry (C := cx_ca) (TOk.cons e_cc (TOk.cons e_bh (TOk.cons e_cz (TOk.cons e_b9 (TOk.cons e_be (TOk.cons e_ce TOk.nil)))))) mixedOk Try.func42 (by kernel_rfl) (by kernel_rfl) (by kernel_rfl) q_ca
def xl_ca : List (Nat × Nat) := [(3, 3), (5, 5), (33, 5), (37, 5), (47, 5), (58, 5), (62, 5), (72, 5), (83, 5)]
noncomputable def xc_ca : XC XN :=
(.seq none
 (.reg [zy xl_ca (.lb 3 9) 3 [.tmp 1],
  zc 4 (.bool false)])
 (.seq none
 (.reg [zM 6 0,
  zy xl_ca (.lr 3 9 true) 7 [.tmp 3],
  zM 8 0,
  zy xl_ca (.lr 3 9 true) 9 [.tmp 3],
  zk .read s_cc v_cc 10 [.tmp 8, .tmp 9],
  zk .write s_bh v_bh 11 [.tmp 7, .tmp 10],
  zN 12 6,
  zF 7 13 12,
  zS [.tmp 13, .tmp 11]])
 (.seq none
 (.reg [zM 14 0,
  zN 15 14,
  zF 7 16 15,
  zL 17 16,
  zk .none s_cz v_cz 18 [.tmp 17],
  zy xl_ca (.la 5 [.int .i64 0, .int .i64 0, .int .i64 0, .int .i64 0]) 5 [],
  zY xl_ca (.ls 5 4) [.tmp 5, .tmp 18]])
 (.seq (some ([], []))
 (.block 0
 (.seq (some ([0, 32], [5]))
 (.reg [zF 0 33 5,
  zr 5 34 33,
  zb .eql rEql 35 [.tmp 34, .const (.int .i64 4)],
  zM 36 35,
  ⟨(some (4, 3, true, some 36)), some 37, [.tmp 5], ⟨.f (fFld 2), rFld 2⟩⟩,
  ⟨(some (5, 3, true, some 36)), some 38, [.tmp 37], ⟨.lr 5 1 false, rLr1 5⟩⟩,
  ⟨(some (6, 3, true, some 36)), some 39, [.tmp 0], ⟨.f fMove, rMove⟩⟩,
  ⟨(some (7, 3, true, some 36)), some 40, [.tmp 39], ⟨.f fNil, rNil⟩⟩,
  ⟨(some (8, 3, true, some 36)), some 41, [.tmp 40], ⟨.f (fFld 1), rFld 1⟩⟩,
  ⟨(some (9, 3, true, some 36)), some 42, [.tmp 41], ⟨.f (fFld 3), rFld 3⟩⟩,
  ⟨(some (10, 3, true, some 36)), some 43, [.tmp 42], ⟨.load 1 false, rLoad1⟩⟩,
  ⟨(some (11, 3, true, some 36)), some 44, [.tmp 38, .tmp 43], ⟨.f (fBin .eql .no), rEql⟩⟩,
  zz (.f fPick) rPick (some 45) [.tmp 36, .tmp 44, .const (.bool false)],
  zM 46 45,
  ⟨(some (14, 13, true, some 46)), some 47, [.tmp 5], ⟨.f (fFld 1), rFld 1⟩⟩,
  ⟨(some (15, 13, true, some 46)), some 48, [.tmp 47], ⟨.lr 5 1 false, rLr1 5⟩⟩,
  ⟨(some (16, 13, true, some 46)), some 49, [.tmp 0], ⟨.f fMove, rMove⟩⟩,
  ⟨(some (17, 13, true, some 46)), some 50, [.tmp 49], ⟨.f fNil, rNil⟩⟩,
  ⟨(some (18, 13, true, some 46)), some 51, [.tmp 50], ⟨.f (fFld 0), rFld 0⟩⟩,
  ⟨(some (19, 13, true, some 46)), some 52, [.tmp 51], ⟨.load 1 false, rLoad1⟩⟩,
  ⟨(some (20, 13, true, some 46)), some 53, [.tmp 48, .tmp 52], ⟨.f (fBin .eql .no), rEql⟩⟩,
  zz (.f fPick) rPick (some 54) [.tmp 46, .tmp 53, .const (.bool false)],
  zM 32 54])
 (.cond (.tmp 32)
 (.seq none
 (.reg [zM 55 0,
  zk .write s_b9 v_b9 56 [.tmp 55, .const (.int .i64 3)],
  zM 4 56])
 .ret)
 (.seq (some ([0, 57], [5]))
 (.reg [zF 0 58 5,
  zr 5 59 58,
  zb .neq rNeq 60 [.tmp 59, .const (.int .i64 1)],
  zM 61 60,
  ⟨(some (4, 3, false, some 61)), some 62, [.tmp 5], ⟨.f (fFld 2), rFld 2⟩⟩,
  ⟨(some (5, 3, false, some 61)), some 63, [.tmp 62], ⟨.lr 5 1 false, rLr1 5⟩⟩,
  ⟨(some (6, 3, false, some 61)), some 64, [.tmp 0], ⟨.f fMove, rMove⟩⟩,
  ⟨(some (7, 3, false, some 61)), some 65, [.tmp 64], ⟨.f fNil, rNil⟩⟩,
  ⟨(some (8, 3, false, some 61)), some 66, [.tmp 65], ⟨.f (fFld 1), rFld 1⟩⟩,
  ⟨(some (9, 3, false, some 61)), some 67, [.tmp 66], ⟨.f (fFld 3), rFld 3⟩⟩,
  ⟨(some (10, 3, false, some 61)), some 68, [.tmp 67], ⟨.load 1 false, rLoad1⟩⟩,
  ⟨(some (11, 3, false, some 61)), some 69, [.tmp 63, .tmp 68], ⟨.f (fBin .neq .no), rNeq⟩⟩,
  zz (.f fPick) rPick (some 70) [.tmp 61, .const (.bool true), .tmp 69],
  zM 71 70,
  ⟨(some (14, 13, false, some 71)), some 72, [.tmp 5], ⟨.f (fFld 1), rFld 1⟩⟩,
  ⟨(some (15, 13, false, some 71)), some 73, [.tmp 72], ⟨.lr 5 1 false, rLr1 5⟩⟩,
  ⟨(some (16, 13, false, some 71)), some 74, [.tmp 0], ⟨.f fMove, rMove⟩⟩,
  ⟨(some (17, 13, false, some 71)), some 75, [.tmp 74], ⟨.f fNil, rNil⟩⟩,
  ⟨(some (18, 13, false, some 71)), some 76, [.tmp 75], ⟨.f (fFld 0), rFld 0⟩⟩,
  ⟨(some (19, 13, false, some 71)), some 77, [.tmp 76], ⟨.load 1 false, rLoad1⟩⟩,
  ⟨(some (20, 13, false, some 71)), some 78, [.tmp 73, .tmp 77], ⟨.f (fBin .neq .no), rNeq⟩⟩,
  zz (.f fPick) rPick (some 79) [.tmp 71, .const (.bool true), .tmp 78],
  zM 57 79])
 (.cond (.tmp 57)
 (.seq none
 (.reg [zM 80 0,
  zk .write s_b9 v_b9 81 [.tmp 80, .const (.int .i64 2)],
  zM 4 81])
 .ret)
 (.seq none
 (.reg [zF 3 83 5,
  zr 5 84 83,
  zb .geq rGeq 85 [.tmp 84, .const (.int .i64 4194302)],
  zM 82 85])
 (.cond (.tmp 82)
 (.seq none
 (.reg [zM 86 0,
  zk .write s_b9 v_b9 87 [.tmp 86, .const (.int .i64 3)],
  zM 4 87])
 .ret)
 (.seq none
 (.reg [zM 89 0,
  zN 90 89,
  zF 11 91 90,
  zL 92 91,
  zM 88 92])
 (.cond (.tmp 88)
 (.reg [zM 93 0,
  zN 94 93,
  zF 6 95 94,
  zS [.tmp 95, .const (.int .i64 3)]])
 (.reg [zM 19 0,
  zM 20 0,
  zM 21 0,
  zN 22 21,
  zF 1 23 22,
  zF 1 24 23,
  zL 25 24,
  zk .write s_be v_be 26 [.tmp 25],
  zk .write s_ce v_ce 27 [.tmp 26],
  zN 28 19,
  zF 8 29 28,
  zS [.tmp 29, .tmp 27],
  zN 30 20,
  zF 6 31 30,
  zS [.tmp 31, .const (.int .i64 1)]]))))))))))
 (.seq none
 (.reg [zc 4 (.bool false)])
 .ret)))))
noncomputable def v_ca : EvF := evFn 2 xc_ca [.t 4]
theorem xt_ca : toC cx_ca (bodyOf Try.f42) = some (xc_ca.map XN.sm) := by kernel_rfl
theorem xr_ca : toR cx_ca Try.f42.results.toList = some [.t 4] := by kernel_rfl
theorem xo_ca : xc_ca.ok xl_ca := ⟨⟨rAny_ok (trivial), rMove_ok, trivial⟩, ⟨⟨rMove_ok, rAny_ok (trivial), rMove_ok, rAny_ok (trivial), rCall_ok ve_cc, rCall_ok ve_bh, rNil_ok, rFld_ok _, rStore1_ok, trivial⟩, ⟨⟨rMove_ok, rNil_ok, rFld_ok _, rLoad1_ok, rCall_ok ve_cz, rAny_ok (trivial), rAny_ok (trivial), trivial⟩, ⟨⟨⟨rFld_ok _, rLr1_ok _, rEql_ok, rMove_ok, rFld_ok _, rLr1_ok _, rMove_ok, rNil_ok, rFld_ok _, rFld_ok _, rLoad1_ok, rEql_ok, rPick_ok, rMove_ok, rFld_ok _, rLr1_ok _, rMove_ok, rNil_ok, rFld_ok _, rLoad1_ok, rEql_ok, rPick_ok, rMove_ok, trivial⟩, ⟨⟨⟨rMove_ok, rCall_ok ve_b9, rMove_ok, trivial⟩, trivial⟩, ⟨⟨rFld_ok _, rLr1_ok _, rNeq_ok, rMove_ok, rFld_ok _, rLr1_ok _, rMove_ok, rNil_ok, rFld_ok _, rFld_ok _, rLoad1_ok, rNeq_ok, rPick_ok, rMove_ok, rFld_ok _, rLr1_ok _, rMove_ok, rNil_ok, rFld_ok _, rLoad1_ok, rNeq_ok, rPick_ok, rMove_ok, trivial⟩, ⟨⟨⟨rMove_ok, rCall_ok ve_b9, rMove_ok, trivial⟩, trivial⟩, ⟨⟨rFld_ok _, rLr1_ok _, rGeq_ok, rMove_ok, trivial⟩, ⟨⟨⟨rMove_ok, rCall_ok ve_b9, rMove_ok, trivial⟩, trivial⟩, ⟨⟨rMove_ok, rNil_ok, rFld_ok _, rLoad1_ok, rMove_ok, trivial⟩, ⟨⟨rMove_ok, rNil_ok, rFld_ok _, rStore1_ok, trivial⟩, ⟨rMove_ok, rMove_ok, rMove_ok, rNil_ok, rFld_ok _, rFld_ok _, rLoad1_ok, rCall_ok ve_be, rCall_ok ve_ce, rNil_ok, rFld_ok _, rStore1_ok, rNil_ok, rFld_ok _, rStore1_ok, trivial⟩⟩⟩⟩⟩⟩⟩⟩⟩, ⟨⟨rMove_ok, trivial⟩, trivial⟩⟩⟩⟩⟩
theorem ve_ca : EvOk s_ca v_ca := EvOk.of (evFn_sound (C := cx_ca) xt_ca xr_ca xo_ca) q_ca
attribute [irreducible] w_ca_j1b w_ca_j1 w_ca_j3b w_ca_j3 w_ca_j2b w_ca_j2 w_ca s_ca
def w_b8 (a0 a1 : Value) (K : Value → Mem → Prop) (σ : Mem) : Prop :=
xF fMove [.int .u64 0] fun v4 =>
xF fMove [a0] fun v6 =>
xF fNil [v6] fun v7 =>
xF (fFld 1) [v7] fun v8 =>
hLoad 5 true [v8] (fun v9 σ =>
xC (gStore 5 [(locP 5), v9] [.int .i64 0, .int .i64 0, .int .i64 0, .int .i64 0, .bool false]) fun c5 =>
xF fMove [a1] fun v10 =>
xF (fFld 0) [(locP 5)] fun v11 =>
xC (gStore 1 [v11, v10] c5) fun c5 =>
xO (gLoad 5 true [(locP 5)] c5) fun v12 =>
s_cw [v12] (fun v13 σ =>
xF fMove [v13] fun v4 =>
K v4 σ) σ) σ
def s_b8 : Spec := fun args K σ => match args with
  | [a0, a1] => w_b8 a0 a1 K σ
  | _ => False
noncomputable def cx_b8 : Cx := { P := Try.prog, T := [(82, .none, s_cw)], loc := [(5, 5), (11, 5)], eqt := [], n := 14, keep := [] }
theorem q_b8 : FnS cx_b8 Try.f47 (bodyOf Try.f47) 2 = s_b8 := by
  funext args K σ
  rcases args with _ | ⟨a0, _ | ⟨a1, _ | ⟨b, r⟩⟩⟩ <;> kernel_rfl
theorem e_b8 : Entry Try.prog 47 .read s_b8 :=
  entry (C := cx_b8) (TOk.cons e_cw TOk.nil) mixedOk Try.func47 (by kernel_rfl) (by kernel_rfl) (by kernel_rfl) q_b8
def xl_b8 : List (Nat × Nat) := [(5, 5), (11, 5)]
noncomputable def xc_b8 : XC XN :=
(.seq none
 (.reg [zc 4 (.int .u64 0)])
 (.seq none
 (.reg [zM 6 0,
  zN 7 6,
  zF 1 8 7,
  zy xl_b8 (.load 5 true) 9 [.tmp 8],
  zy xl_b8 (.la 5 [.int .i64 0, .int .i64 0, .int .i64 0, .int .i64 0, .bool false]) 5 [],
  zY xl_b8 (.ls 5 5) [.tmp 5, .tmp 9]])
 (.seq none
 (.reg [zM 10 1,
  zF 0 11 5,
  zz (.ls 5 1) (rLs1 5) none [.tmp 11, .tmp 10]])
 (.seq none
 (.reg [zy xl_b8 (.lr 5 5 true) 12 [.tmp 5],
  zk .none s_cw v_cw 13 [.tmp 12],
  zM 4 13])
 .ret))))
noncomputable def v_b8 : EvF := evFn 2 xc_b8 [.t 4]
theorem xt_b8 : toC cx_b8 (bodyOf Try.f47) = some (xc_b8.map XN.sm) := by kernel_rfl
theorem xr_b8 : toR cx_b8 Try.f47.results.toList = some [.t 4] := by kernel_rfl
theorem xo_b8 : xc_b8.ok xl_b8 := ⟨⟨rMove_ok, trivial⟩, ⟨⟨rMove_ok, rNil_ok, rFld_ok _, rAny_ok (trivial), rAny_ok (trivial), rAny_ok (trivial), trivial⟩, ⟨⟨rMove_ok, rFld_ok _, rLs1_ok _, trivial⟩, ⟨⟨rAny_ok (trivial), rCall_ok ve_cw, rMove_ok, trivial⟩, trivial⟩⟩⟩⟩
theorem ve_b8 : EvOk s_b8 v_b8 := EvOk.of (evFn_sound (C := cx_b8) xt_b8 xr_b8 xo_b8) q_b8
attribute [irreducible] w_b8 s_b8
def w_b6 (a0 a1 a2 a3 : Value) (K : Value → Mem → Prop) (σ : Mem) : Prop :=
xF fMove [.int .u64 0] fun v8 =>
xF fMove [a0] fun v10 =>
xF fNil [v10] fun v11 =>
xF (fFld 7) [v11] fun v12 =>
hLoad 1 false [v12] (fun v13 σ =>
s_cz [v13] (fun v14 σ =>
xC (gStore 4 [(locP 9), v14] [.int .i64 0, .int .i64 0, .int .i64 0, .int .i64 0]) fun c9 =>
xF fMove [a1] fun v15 =>
xF fMove [a2] fun v16 =>
xF (fFld 2) [(locP 9)] fun v17 =>
xO (gLoad 1 false [v17] c9) fun v18 =>
xF (fFld 3) [(locP 9)] fun v19 =>
xO (gLoad 1 false [v19] c9) fun v20 =>
xF fMove [a3] fun v21 =>
xF (fBin .add .no) [v20, v21] fun v22 =>
xF (fBuild [(0, 1), (1, 1), (2, 1), (3, 1)] [.int .i64 0, .int .i64 0, .int .i64 0, .int .i64 0] [0, 1, 2, 3]) [v15, v16, v18, v22] fun v23 =>
s_cx [v23] (fun v24 σ =>
xF fMove [v24] fun v8 =>
K v8 σ) σ) σ) σ
def s_b6 : Spec := fun args K σ => match args with
  | [a0, a1, a2, a3] => w_b6 a0 a1 a2 a3 K σ
  | _ => False
noncomputable def cx_b6 : Cx := { P := Try.prog, T := [(41, .none, s_cz), (28, .none, s_cx)], loc := [(9, 9), (17, 9), (19, 9)], eqt := [], n := 25, keep := [] }
theorem q_b6 : FnS cx_b6 Try.f50 (bodyOf Try.f50) 4 = s_b6 := by
  funext args K σ
  rcases args with _ | ⟨a0, _ | ⟨a1, _ | ⟨a2, _ | ⟨a3, _ | ⟨b, r⟩⟩⟩⟩⟩ <;> kernel_rfl
theorem e_b6 : Entry Try.prog 50 .read s_b6 :=
  entry (C := cx_b6) (TOk.cons e_cz (TOk.cons e_cx TOk.nil)) mixedOk Try.func50 (by kernel_rfl) (by kernel_rfl) (by kernel_rfl) q_b6
def xl_b6 : List (Nat × Nat) := [(9, 9), (17, 9), (19, 9)]
noncomputable def xc_b6 : XC XN :=
(.seq none
 (.reg [zc 8 (.int .u64 0)])
 (.seq none
 (.reg [zM 10 0,
  zN 11 10,
  zF 7 12 11,
  zL 13 12,
  zk .none s_cz v_cz 14 [.tmp 13],
  zy xl_b6 (.la 9 [.int .i64 0, .int .i64 0, .int .i64 0, .int .i64 0]) 9 [],
  zY xl_b6 (.ls 9 4) [.tmp 9, .tmp 14]])
 (.seq none
 (.reg [zM 15 1,
  zM 16 2,
  zF 2 17 9,
  zr 9 18 17,
  zF 3 19 9,
  zr 9 20 19,
  zM 21 3,
  zb .add rAdd 22 [.tmp 20, .tmp 21],
  zy xl_b6 (.f (fBuild [(0, 1), (1, 1), (2, 1), (3, 1)] [.int .i64 0, .int .i64 0, .int .i64 0, .int .i64 0] [0, 1, 2, 3])) 23 [.tmp 15, .tmp 16, .tmp 18, .tmp 22],
  zk .none s_cx v_cx 24 [.tmp 23],
  zM 8 24])
 .ret)))
noncomputable def v_b6 : EvF := evFn 4 xc_b6 [.t 8]
theorem xt_b6 : toC cx_b6 (bodyOf Try.f50) = some (xc_b6.map XN.sm) := by kernel_rfl
theorem xr_b6 : toR cx_b6 Try.f50.results.toList = some [.t 8] := by kernel_rfl
theorem xo_b6 : xc_b6.ok xl_b6 := ⟨⟨rMove_ok, trivial⟩, ⟨⟨rMove_ok, rNil_ok, rFld_ok _, rLoad1_ok, rCall_ok ve_cz, rAny_ok (trivial), rAny_ok (trivial), trivial⟩, ⟨⟨rMove_ok, rMove_ok, rFld_ok _, rLr1_ok _, rFld_ok _, rLr1_ok _, rMove_ok, rAdd_ok, rAny_ok (eqv_build _ rfl _), rCall_ok ve_cx, rMove_ok, trivial⟩, trivial⟩⟩⟩
theorem ve_b6 : EvOk s_b6 v_b6 := EvOk.of (evFn_sound (C := cx_b6) xt_b6 xr_b6 xo_b6) q_b6
attribute [irreducible] w_b6 s_b6
def w_cb (a0 a1 : Value) (K : Value → Mem → Prop) (σ : Mem) : Prop :=
xC (gBox 9 [a1] []) fun c3 =>
xF fMove [.bool false] fun v4 =>
xO (gLoad 9 true [(locP 3)] c3) fun v5 =>
xF fMove [a0] fun v6 =>
xO (gLoad 9 true [(locP 3)] c3) fun v7 =>
s_cc [v6, v7] (fun v8 σ =>
xF fMove [a0] fun v9 =>
xF fMove [a0] fun v10 =>
xF fNil [v10] fun v11 =>
xF (fFld 0) [v11] fun v12 =>
hLoad 1 false [v12] (fun v13 σ =>
s_b6 [v9, .int .i64 2, v13, .int .i64 0] (fun v14 σ =>
xF fMove [a0] fun v15 =>
xF fMove [a0] fun v16 =>
xF fNil [v16] fun v17 =>
xF (fFld 9) [v17] fun v18 =>
xF (fFld 0) [v18] fun v19 =>
hLoad 1 false [v19] (fun v20 σ =>
s_b6 [v15, .int .i64 1, v20, .int .i64 1] (fun v21 σ =>
s_bg [v5, v8, v14, v21] (fun v22 σ =>
xIf v22
 (xF fMove [a0] fun v23 =>
xF fNil [v23] fun v24 =>
xF (fFld 6) [v24] fun v25 =>
hStore 1 [v25, .int .i64 8] (fun _v σ =>
xF fMove [.bool false] fun v4 =>
K v4 σ) σ)
 (xF fMove [a0] fun v26 =>
xF fNil [v26] fun v27 =>
xF (fFld 6) [v27] fun v28 =>
hStore 1 [v28, .int .i64 0] (fun _v σ =>
xF fMove [a0] fun v29 =>
xF fNil [v29] fun v30 =>
xF (fFld 14) [v30] fun v31 =>
hLoad 1 false [v31] (fun v32 σ =>
xF (fBin .add .no) [v32, .int .i64 1] fun v33 =>
xF fNil [v29] fun v34 =>
xF (fFld 14) [v34] fun v35 =>
hStore 1 [v35, v33] (fun _v σ =>
xF fMove [a0] fun v36 =>
xF fNil [v36] fun v37 =>
xF (fFld 14) [v37] fun v38 =>
hLoad 1 false [v38] (fun v39 σ =>
xF (fFld 0) [(locP 3)] fun v40 =>
xF (fFld 6) [v40] fun v41 =>
xO (gLoad 1 false [v41] c3) fun v42 =>
xF (fBin .geq .no) [v39, v42] fun v43 =>
xIf v43
 (xF fMove [a0] fun v44 =>
s_b9 [v44, .int .i64 3] (fun v45 σ =>
xF fMove [v45] fun v4 =>
K v4 σ) σ)
 (xF fMove [.bool false] fun v4 =>
K v4 σ)) σ) σ) σ) σ)) σ) σ) σ) σ) σ) σ
def s_cb : Spec := fun args K σ => match args with
  | [a0, a1] => w_cb a0 a1 K σ
  | _ => False
noncomputable def cx_cb : Cx := { P := Try.prog, T := [(49, .read, s_cc), (50, .read, s_b6), (48, .write, s_bg), (45, .write, s_b9)], loc := [(3, 3), (40, 3), (41, 3)], eqt := [], n := 46, keep := [] }
theorem q_cb : FnS cx_cb Try.f54 (bodyOf Try.f54) 2 = s_cb := by
  funext args K σ
  rcases args with _ | ⟨a0, _ | ⟨a1, _ | ⟨b, r⟩⟩⟩ <;> kernel_rfl
theorem e_cb : Entry Try.prog 54 .write s_cb :=
  entry (C := cx_cb) (TOk.cons e_cc (TOk.cons e_b6 (TOk.cons e_bg (TOk.cons e_b9 TOk.nil)))) mixedOk Try.func54 (by kernel_rfl) (by kernel_rfl) (by kernel_rfl) q_cb
def xl_cb : List (Nat × Nat) := [(3, 3), (40, 3), (41, 3)]
noncomputable def xc_cb : XC XN :=
(.seq none
 (.reg [zy xl_cb (.lb 3 9) 3 [.tmp 1],
  zc 4 (.bool false)])
 (.seq none
 (.seq none
 (.reg [zy xl_cb (.lr 3 9 true) 5 [.tmp 3],
  zM 6 0,
  zy xl_cb (.lr 3 9 true) 7 [.tmp 3],
  zk .read s_cc v_cc 8 [.tmp 6, .tmp 7],
  zM 9 0,
  zM 10 0,
  zN 11 10,
  zF 0 12 11,
  zL 13 12,
  zk .read s_b6 v_b6 14 [.tmp 9, .const (.int .i64 2), .tmp 13, .const (.int .i64 0)],
  zM 15 0,
  zM 16 0,
  zN 17 16,
  zF 9 18 17,
  zF 0 19 18,
  zL 20 19,
  zk .read s_b6 v_b6 21 [.tmp 15, .const (.int .i64 1), .tmp 20, .const (.int .i64 1)],
  zk .write s_bg v_bg 22 [.tmp 5, .tmp 8, .tmp 14, .tmp 21]])
 (.cond (.tmp 22)
 (.seq none
 (.reg [zM 23 0,
  zN 24 23,
  zF 6 25 24,
  zS [.tmp 25, .const (.int .i64 8)]])
 (.seq none
 (.reg [zc 4 (.bool false)])
 .ret))
 .skip))
 (.seq none
 (.reg [zM 26 0,
  zN 27 26,
  zF 6 28 27,
  zS [.tmp 28, .const (.int .i64 0)]])
 (.seq none
 (.seq none
 (.reg [zM 29 0,
  zN 30 29,
  zF 14 31 30,
  zL 32 31,
  zb .add rAdd 33 [.tmp 32, .const (.int .i64 1)],
  zN 34 29,
  zF 14 35 34,
  zS [.tmp 35, .tmp 33]])
 (.seq none
 (.reg [zM 36 0,
  zN 37 36,
  zF 14 38 37,
  zL 39 38,
  zF 0 40 3,
  zF 6 41 40,
  zr 3 42 41,
  zb .geq rGeq 43 [.tmp 39, .tmp 42]])
 (.cond (.tmp 43)
 (.seq none
 (.reg [zM 44 0,
  zk .write s_b9 v_b9 45 [.tmp 44, .const (.int .i64 3)],
  zM 4 45])
 .ret)
 .skip)))
 (.seq none
 (.reg [zc 4 (.bool false)])
 .ret)))))
noncomputable def v_cb : EvF := evFn 2 xc_cb [.t 4]
theorem xt_cb : toC cx_cb (bodyOf Try.f54) = some (xc_cb.map XN.sm) := by kernel_rfl
theorem xr_cb : toR cx_cb Try.f54.results.toList = some [.t 4] := by kernel_rfl
theorem xo_cb : xc_cb.ok xl_cb := ⟨⟨rAny_ok (trivial), rMove_ok, trivial⟩, ⟨⟨⟨rAny_ok (trivial), rMove_ok, rAny_ok (trivial), rCall_ok ve_cc, rMove_ok, rMove_ok, rNil_ok, rFld_ok _, rLoad1_ok, rCall_ok ve_b6, rMove_ok, rMove_ok, rNil_ok, rFld_ok _, rFld_ok _, rLoad1_ok, rCall_ok ve_b6, rCall_ok ve_bg, trivial⟩, ⟨⟨⟨rMove_ok, rNil_ok, rFld_ok _, rStore1_ok, trivial⟩, ⟨⟨rMove_ok, trivial⟩, trivial⟩⟩, trivial⟩⟩, ⟨⟨rMove_ok, rNil_ok, rFld_ok _, rStore1_ok, trivial⟩, ⟨⟨⟨rMove_ok, rNil_ok, rFld_ok _, rLoad1_ok, rAdd_ok, rNil_ok, rFld_ok _, rStore1_ok, trivial⟩, ⟨⟨rMove_ok, rNil_ok, rFld_ok _, rLoad1_ok, rFld_ok _, rFld_ok _, rLr1_ok _, rGeq_ok, trivial⟩, ⟨⟨⟨rMove_ok, rCall_ok ve_b9, rMove_ok, trivial⟩, trivial⟩, trivial⟩⟩⟩, ⟨⟨rMove_ok, trivial⟩, trivial⟩⟩⟩⟩⟩
theorem ve_cb : EvOk s_cb v_cb := EvOk.of (evFn_sound (C := cx_cb) xt_cb xr_cb xo_cb) q_cb
attribute [irreducible] w_cb s_cb
end Go.Fl
