/- What the claim leans on, part 3: own readings of the program's functions, what they come to, laws of them. No condition. -/
import Derived.Test.YtdpojblcjobaoaaZAccessDrops2
namespace Go.Fl
open Go Go.Proofs
set_option linter.unusedVariables false
set_option maxRecDepth 10000000
def w_place_Place_on (a0 a1 : Value) (K : Value → Mem → Prop) (σ : Mem) : Prop :=
xC (gBox 9 [a1] []) fun c3 =>
xF fMove [(.bool false)] fun v4 =>
xF fMove [a0] fun v5 =>
xF fMove [a0] fun v6 =>
xF fMove [a0] fun v7 =>
xF fNil [v7] fun v8 =>
xF (fFld 3) [v8] fun v9 =>
hLoad 1 false [v9] (fun v10 σ =>
xF (fBin .add .no) [v10, (.int .i64 1)] fun v11 =>
xF fNil [v5] fun v12 =>
xF (fFld 3) [v12] fun v13 =>
hStore 1 [v13, v11] (fun _v σ =>
xF fNil [v6] fun v14 =>
xF (fFld 1) [v14] fun v15 =>
hStore 1 [v15, (.int .i64 3)] (fun _v σ =>
xF fMove [a0] fun v16 =>
xF fNil [v16] fun v17 =>
xF (fFld 3) [v17] fun v18 =>
hLoad 1 false [v18] (fun v19 σ =>
xF (fFld 0) [(locP 3)] fun v20 =>
xF (fFld 2) [v20] fun v21 =>
xO (gLoad 1 false [v21] c3) fun v22 =>
xF (fBin .geq .no) [v19, v22] fun v23 =>
xF fMove [v23] fun v4 =>
K v4 σ) σ) σ) σ) σ
def s_place_Place_on : Spec := fun args K σ => match args with
  | [a0, a1] => w_place_Place_on a0 a1 K σ
  | _ => False
noncomputable def cx_place_Place_on : Cx := { P := Try.prog, T := [], loc := [(3, 3), (20, 3), (21, 3)], eqt := [], n := 24, keep := [] }
theorem q_place_Place_on : FnS cx_place_Place_on Try.f86 (bodyOf Try.f86) 2 = s_place_Place_on := by
  funext args K σ
  rcases args with _ | ⟨a0, _ | ⟨a1, _ | ⟨b, r⟩⟩⟩ <;> kernel_rfl
theorem e_place_Place_on : Entry Try.prog 86 .write s_place_Place_on :=
  entry (C := cx_place_Place_on) TOk.nil mixedOk Try.func86 (by kernel_rfl) (by kernel_rfl) (by kernel_rfl) q_place_Place_on
def xl_place_Place_on : List (Nat × Nat) := [(3, 3), (20, 3), (21, 3)]
noncomputable def xc_place_Place_on : XC XN :=
(.seq none
 (.reg [⟨none, some 3, [(.tmp 1)], ⟨.lb 3 9, rAny xl_place_Place_on (.lb 3 9)⟩⟩,
  ⟨none, some 4, [(.const (.bool false))], ⟨.f fMove, rMove⟩⟩])
 (.seq none
 (.reg [⟨none, some 5, [(.tmp 0)], ⟨.f fMove, rMove⟩⟩,
  ⟨none, some 6, [(.tmp 0)], ⟨.f fMove, rMove⟩⟩,
  ⟨none, some 7, [(.tmp 0)], ⟨.f fMove, rMove⟩⟩,
  ⟨none, some 8, [(.tmp 7)], ⟨.f fNil, rNil⟩⟩,
  ⟨none, some 9, [(.tmp 8)], ⟨.f (fFld 3), rFld 3⟩⟩,
  ⟨none, some 10, [(.tmp 9)], ⟨.load 1 false, rLoad1⟩⟩,
  ⟨none, some 11, [(.tmp 10), (.const (.int .i64 1))], ⟨.f (fBin .add .no), rAdd⟩⟩,
  ⟨none, some 12, [(.tmp 5)], ⟨.f fNil, rNil⟩⟩,
  ⟨none, some 13, [(.tmp 12)], ⟨.f (fFld 3), rFld 3⟩⟩,
  ⟨none, none, [(.tmp 13), (.tmp 11)], ⟨.store 1, rStore1⟩⟩,
  ⟨none, some 14, [(.tmp 6)], ⟨.f fNil, rNil⟩⟩,
  ⟨none, some 15, [(.tmp 14)], ⟨.f (fFld 1), rFld 1⟩⟩,
  ⟨none, none, [(.tmp 15), (.const (.int .i64 3))], ⟨.store 1, rStore1⟩⟩])
 (.seq none
 (.reg [⟨none, some 16, [(.tmp 0)], ⟨.f fMove, rMove⟩⟩,
  ⟨none, some 17, [(.tmp 16)], ⟨.f fNil, rNil⟩⟩,
  ⟨none, some 18, [(.tmp 17)], ⟨.f (fFld 3), rFld 3⟩⟩,
  ⟨none, some 19, [(.tmp 18)], ⟨.load 1 false, rLoad1⟩⟩,
  ⟨none, some 20, [(.tmp 3)], ⟨.f (fFld 0), rFld 0⟩⟩,
  ⟨none, some 21, [(.tmp 20)], ⟨.f (fFld 2), rFld 2⟩⟩,
  ⟨none, some 22, [(.tmp 21)], ⟨.lr 3 1 false, rLr1 3⟩⟩,
  ⟨none, some 23, [(.tmp 19), (.tmp 22)], ⟨.f (fBin .geq .no), rGeq⟩⟩,
  ⟨none, some 4, [(.tmp 23)], ⟨.f fMove, rMove⟩⟩])
 .ret)))
noncomputable def v_place_Place_on : EvF := evFn 2 xc_place_Place_on [.t 4]
theorem xt_place_Place_on : toC cx_place_Place_on (bodyOf Try.f86) = some (xc_place_Place_on.map XN.sm) := by kernel_rfl
theorem xr_place_Place_on : toR cx_place_Place_on Try.f86.results.toList = some [.t 4] := by kernel_rfl
theorem xo_place_Place_on : xc_place_Place_on.ok xl_place_Place_on := ⟨⟨rAny_ok (trivial), rMove_ok, trivial⟩, ⟨⟨rMove_ok, rMove_ok, rMove_ok, rNil_ok, rFld_ok _, rLoad1_ok, rAdd_ok, rNil_ok, rFld_ok _, rStore1_ok, rNil_ok, rFld_ok _, rStore1_ok, trivial⟩, ⟨⟨rMove_ok, rNil_ok, rFld_ok _, rLoad1_ok, rFld_ok _, rFld_ok _, rLr1_ok _, rGeq_ok, rMove_ok, trivial⟩, trivial⟩⟩⟩
theorem ve_place_Place_on : EvOk s_place_Place_on v_place_Place_on := EvOk.of (evFn_sound (C := cx_place_Place_on) xt_place_Place_on xr_place_Place_on xo_place_Place_on) q_place_Place_on
attribute [irreducible] w_place_Place_on s_place_Place_on
def w_place_Place_fresh (a0 : Value) (K : Value → Mem → Prop) (σ : Mem) : Prop :=
xF fMove [(.int .u64 0)] fun v2 =>
xF fMove [a0] fun v3 =>
xF fNil [v3] fun v4 =>
xF (fFld 0) [v4] fun v5 =>
hLoad 1 false [v5] (fun v6 σ =>
xF fMove [a0] fun v7 =>
xF fNil [v7] fun v8 =>
xF (fFld 4) [v8] fun v9 =>
hLoad 1 false [v9] (fun v10 σ =>
s_word_Chunk [v10] (fun v11 σ =>
xF (fFldV 3 1 false) [v11] fun v12 =>
xF (fBin .add .no) [v12, (.int .i64 1)] fun v13 =>
xF (fBuild [(0, 1), (1, 1), (2, 1), (3, 1)] [(.int .i64 0), (.int .i64 0), (.int .i64 0), (.int .i64 0)] [0, 1, 3]) [(.int .i64 1), v6, v13] fun v14 =>
s_word_PutChunk [v14] (fun v15 σ =>
xF fMove [v15] fun v2 =>
K v2 σ) σ) σ) σ) σ
def s_place_Place_fresh : Spec := fun args K σ => match args with
  | [a0] => w_place_Place_fresh a0 K σ
  | _ => False
noncomputable def cx_place_Place_fresh : Cx := { P := Try.prog, T := [(84, .none, s_word_Chunk), (88, .none, s_word_PutChunk)], loc := [], eqt := [], n := 16, keep := [] }
theorem q_place_Place_fresh : FnS cx_place_Place_fresh Try.f87 (bodyOf Try.f87) 1 = s_place_Place_fresh := by
  funext args K σ
  rcases args with _ | ⟨a0, _ | ⟨b, r⟩⟩ <;> kernel_rfl
theorem e_place_Place_fresh : Entry Try.prog 87 .read s_place_Place_fresh :=
  entry (C := cx_place_Place_fresh) (TOk.cons e_word_Chunk (TOk.cons e_word_PutChunk TOk.nil)) mixedOk Try.func87 (by kernel_rfl) (by kernel_rfl) (by kernel_rfl) q_place_Place_fresh
def xl_place_Place_fresh : List (Nat × Nat) := []
noncomputable def xc_place_Place_fresh : XC XN :=
(.seq none
 (.reg [⟨none, some 2, [(.const (.int .u64 0))], ⟨.f fMove, rMove⟩⟩])
 (.seq none
 (.reg [⟨none, some 3, [(.tmp 0)], ⟨.f fMove, rMove⟩⟩,
  ⟨none, some 4, [(.tmp 3)], ⟨.f fNil, rNil⟩⟩,
  ⟨none, some 5, [(.tmp 4)], ⟨.f (fFld 0), rFld 0⟩⟩,
  ⟨none, some 6, [(.tmp 5)], ⟨.load 1 false, rLoad1⟩⟩,
  ⟨none, some 7, [(.tmp 0)], ⟨.f fMove, rMove⟩⟩,
  ⟨none, some 8, [(.tmp 7)], ⟨.f fNil, rNil⟩⟩,
  ⟨none, some 9, [(.tmp 8)], ⟨.f (fFld 4), rFld 4⟩⟩,
  ⟨none, some 10, [(.tmp 9)], ⟨.load 1 false, rLoad1⟩⟩,
  ⟨none, some 11, [(.tmp 10)], ⟨.call .none s_word_Chunk v_word_Chunk, rCall v_word_Chunk⟩⟩,
  ⟨none, some 12, [(.tmp 11)], ⟨.f (fFldV 3 1 false), rAny xl_place_Place_fresh (.f (fFldV 3 1 false))⟩⟩,
  ⟨none, some 13, [(.tmp 12), (.const (.int .i64 1))], ⟨.f (fBin .add .no), rAdd⟩⟩,
  ⟨none, some 14, [(.const (.int .i64 1)), (.tmp 6), (.tmp 13)], ⟨.f (fBuild [(0, 1), (1, 1), (2, 1), (3, 1)] [(.int .i64 0), (.int .i64 0), (.int .i64 0), (.int .i64 0)] [0, 1, 3]), rAny xl_place_Place_fresh (.f (fBuild [(0, 1), (1, 1), (2, 1), (3, 1)] [(.int .i64 0), (.int .i64 0), (.int .i64 0), (.int .i64 0)] [0, 1, 3]))⟩⟩,
  ⟨none, some 15, [(.tmp 14)], ⟨.call .none s_word_PutChunk v_word_PutChunk, rCall v_word_PutChunk⟩⟩,
  ⟨none, some 2, [(.tmp 15)], ⟨.f fMove, rMove⟩⟩])
 .ret))
noncomputable def v_place_Place_fresh : EvF := evFn 1 xc_place_Place_fresh [.t 2]
theorem xt_place_Place_fresh : toC cx_place_Place_fresh (bodyOf Try.f87) = some (xc_place_Place_fresh.map XN.sm) := by kernel_rfl
theorem xr_place_Place_fresh : toR cx_place_Place_fresh Try.f87.results.toList = some [.t 2] := by kernel_rfl
theorem xo_place_Place_fresh : xc_place_Place_fresh.ok xl_place_Place_fresh := ⟨⟨rMove_ok, trivial⟩, ⟨⟨rMove_ok, rNil_ok, rFld_ok _, rLoad1_ok, rMove_ok, rNil_ok, rFld_ok _, rLoad1_ok, rCall_ok ve_word_Chunk, rAny_ok (eqv_fldV _ _ _), rAdd_ok, rAny_ok (eqv_build _ rfl _), rCall_ok ve_word_PutChunk, rMove_ok, trivial⟩, trivial⟩⟩
theorem ve_place_Place_fresh : EvOk s_place_Place_fresh v_place_Place_fresh := EvOk.of (evFn_sound (C := cx_place_Place_fresh) xt_place_Place_fresh xr_place_Place_fresh xo_place_Place_fresh) q_place_Place_fresh
attribute [irreducible] w_place_Place_fresh s_place_Place_fresh
def w_place_Place_Step_j1b (K : Value → Mem → Prop) (σ : Mem) : Prop :=
xF fMove [(.bool false)] fun v4 =>
K v4 σ
def w_place_Place_Step_j1 (K : Value → Mem → Prop) (ts : List Value) (ls : List (List Value)) (σ : Mem) : Prop := w_place_Place_Step_j1b K σ
def w_place_Place_Step_j2b (K : Value → Mem → Prop) (J1 : List Value → List (List Value) → Mem → Prop) (v0 v117 : Value) (σ : Mem) : Prop :=
xIf v117
 (xF fMove [v0] fun v118 =>
xF fMove [v0] fun v119 =>
xF fNil [v118] fun v120 =>
xF (fFld 3) [v120] fun v121 =>
hStore 1 [v121, (.int .i64 0)] (fun _v σ =>
xF fNil [v119] fun v122 =>
xF (fFld 1) [v122] fun v123 =>
hStore 1 [v123, (.int .i64 3)] (fun _v σ =>
J1 [] [] σ) σ) σ)
 (J1 [] [] σ)
def w_place_Place_Step_j2 (K : Value → Mem → Prop) (J1 : List Value → List (List Value) → Mem → Prop) (ts : List Value) (ls : List (List Value)) (σ : Mem) : Prop := w_place_Place_Step_j2b K J1 (ts.getD 0 poison) (ts.getD 1 poison) σ
def w_place_Place_Step (a0 a1 : Value) (K : Value → Mem → Prop) (σ : Mem) : Prop :=
xC (gBox 9 [a1] []) fun c3 =>
xF fMove [(.bool false)] fun v4 =>
xJoin (w_place_Place_Step_j1 K) fun J1 =>
xF fMove [a0] fun v7 =>
xF fNil [v7] fun v8 =>
xF (fFld 1) [v8] fun v9 =>
hLoad 1 false [v9] (fun v10 σ =>
xF (fBin .eql .no) [v10, (.int .i64 0)] fun v36 =>
xF fMove [v36] fun v35 =>
xIf v35
 (xF fMove [a0] fun v37 =>
xO (gLoad 9 true [(locP 3)] c3) fun v38 =>
xF fMove [a0] fun v39 =>
xF fNil [v39] fun v40 =>
xF (fFld 0) [v40] fun v41 =>
hLoad 1 false [v41] (fun v42 σ =>
s_layout_Open [v42] (fun v43 σ =>
s_layout_Env_Load [v38, v43] (fun v44 σ =>
xF fNil [v37] fun v45 =>
xF (fFld 2) [v45] fun v46 =>
hStore 1 [v46, v44] (fun _v σ =>
xF fMove [a0] fun v47 =>
xF fMove [a0] fun v48 =>
xF fMove [a0] fun v49 =>
xF fNil [v49] fun v50 =>
xF (fFld 2) [v50] fun v51 =>
hLoad 1 false [v51] (fun v52 σ =>
xF (fConv .i64) [v52] fun v53 =>
xF (fBin .sub .no) [v53, (.int .i64 1)] fun v54 =>
xF fNil [v47] fun v55 =>
xF (fFld 3) [v55] fun v56 =>
hStore 1 [v56, v54] (fun _v σ =>
xF fNil [v48] fun v57 =>
xF (fFld 1) [v57] fun v58 =>
hStore 1 [v58, (.int .i64 1)] (fun _v σ =>
xF fMove [a0] fun v59 =>
xF fNil [v59] fun v60 =>
xF (fFld 3) [v60] fun v61 =>
hLoad 1 false [v61] (fun v62 σ =>
xF (fBin .lss .no) [v62, (.int .i64 0)] fun v63 =>
xIf v63
 (xF fMove [a0] fun v64 =>
xF fMove [a0] fun v65 =>
xF fNil [v64] fun v66 =>
xF (fFld 3) [v66] fun v67 =>
hStore 1 [v67, (.int .i64 0)] (fun _v σ =>
xF fNil [v65] fun v68 =>
xF (fFld 1) [v68] fun v69 =>
hStore 1 [v69, (.int .i64 3)] (fun _v σ =>
J1 [] [] σ) σ) σ)
 (J1 [] [] σ)) σ) σ) σ) σ) σ) σ) σ) σ)
 (xF (fBin .eql .no) [v10, (.int .i64 1)] fun v71 =>
xF fMove [v71] fun v70 =>
xIf v70
 (xF fMove [a0] fun v72 =>
xO (gLoad 9 true [(locP 3)] c3) fun v73 =>
xF (fFld 0) [(locP 3)] fun v74 =>
xO (gLoad 7 true [v74] c3) fun v75 =>
xF fMove [a0] fun v76 =>
xF fNil [v76] fun v77 =>
xF (fFld 3) [v77] fun v78 =>
hLoad 1 false [v78] (fun v79 σ =>
s_layout_Chunk [v75, v79] (fun v80 σ =>
s_layout_Env_Load [v73, v80] (fun v81 σ =>
xF fNil [v72] fun v82 =>
xF (fFld 4) [v82] fun v83 =>
hStore 1 [v83, v81] (fun _v σ =>
xF fMove [a0] fun v84 =>
xF fNil [v84] fun v85 =>
xF (fFld 4) [v85] fun v86 =>
hLoad 1 false [v86] (fun v87 σ =>
s_word_Chunk [v87] (fun v88 σ =>
xC (gStore 4 [(locP 5), v88] [(.int .i64 0), (.int .i64 0), (.int .i64 0), (.int .i64 0)]) fun c5 =>
xF fMove [a0] fun v89 =>
xF fNil [v89] fun v90 =>
xF (fFld 1) [v90] fun v91 =>
hStore 1 [v91, (.int .i64 2)] (fun _v σ =>
xJoin (w_place_Place_Step_j2 K J1) fun J2 =>
xF (fFld 0) [(locP 5)] fun v92 =>
xO (gLoad 1 false [v92] c5) fun v93 =>
xF (fBin .neq .no) [v93, (.int .i64 1)] fun v94 =>
xF fMove [v94] fun v95 =>
xIf v95
 (xF fPick [(.bool true), (.bool true), undef] fun v103 =>
xF fMove [v103] fun v104 =>
xIf v104
 (xF fPick [(.bool true), (.bool true), undef] fun v117 =>
J2 [a0, v117] [] σ)
 (xF (fFld 2) [(locP 5)] fun v105 =>
xO (gLoad 1 false [v105] c5) fun v106 =>
xF fMove [a0] fun v107 =>
xF fNil [v107] fun v108 =>
xF (fFld 0) [v108] fun v109 =>
hLoad 1 false [v109] (fun v110 σ =>
s_layout_Room [v110] (fun v111 σ =>
xF (fBin .add .no) [v106, v111] fun v112 =>
xF (fFld 0) [(locP 3)] fun v113 =>
xF (fFld 3) [v113] fun v114 =>
xO (gLoad 1 false [v114] c3) fun v115 =>
xF (fBin .gtr .no) [v112, v115] fun v116 =>
xF fPick [(.bool false), (.bool true), v116] fun v117 =>
J2 [a0, v117] [] σ) σ) σ))
 (xF (fFld 1) [(locP 5)] fun v96 =>
xO (gLoad 1 false [v96] c5) fun v97 =>
xF fMove [a0] fun v98 =>
xF fNil [v98] fun v99 =>
xF (fFld 0) [v99] fun v100 =>
hLoad 1 false [v100] (fun v101 σ =>
xF (fBin .neq .no) [v97, v101] fun v102 =>
xF fPick [(.bool false), (.bool true), v102] fun v103 =>
xF fMove [v103] fun v104 =>
xIf v104
 (xF fPick [(.bool true), (.bool true), undef] fun v117 =>
J2 [a0, v117] [] σ)
 (xF (fFld 2) [(locP 5)] fun v105 =>
xO (gLoad 1 false [v105] c5) fun v106 =>
xF fMove [a0] fun v107 =>
xF fNil [v107] fun v108 =>
xF (fFld 0) [v108] fun v109 =>
hLoad 1 false [v109] (fun v110 σ =>
s_layout_Room [v110] (fun v111 σ =>
xF (fBin .add .no) [v106, v111] fun v112 =>
xF (fFld 0) [(locP 3)] fun v113 =>
xF (fFld 3) [v113] fun v114 =>
xO (gLoad 1 false [v114] c3) fun v115 =>
xF (fBin .gtr .no) [v112, v115] fun v116 =>
xF fPick [(.bool false), (.bool true), v116] fun v117 =>
J2 [a0, v117] [] σ) σ) σ)) σ)) σ) σ) σ) σ) σ) σ) σ)
 (xF (fBin .eql .no) [v10, (.int .i64 2)] fun v125 =>
xF fMove [v125] fun v124 =>
xIf v124
 (xF fMove [a0] fun v126 =>
xO (gLoad 9 true [(locP 3)] c3) fun v127 =>
s_place_Place_get [v126, v127] (fun v128 σ =>
xF fMove [v128] fun v4 =>
K v4 σ) σ)
 (xF (fBin .eql .no) [v10, (.int .i64 3)] fun v130 =>
xF fMove [v130] fun v129 =>
xIf v129
 (xF fMove [a0] fun v131 =>
xO (gLoad 9 true [(locP 3)] c3) fun v132 =>
xF (fFld 0) [(locP 3)] fun v133 =>
xO (gLoad 7 true [v133] c3) fun v134 =>
xF fMove [a0] fun v135 =>
xF fNil [v135] fun v136 =>
xF (fFld 3) [v136] fun v137 =>
hLoad 1 false [v137] (fun v138 σ =>
s_layout_Chunk [v134, v138] (fun v139 σ =>
s_layout_Env_Load [v132, v139] (fun v140 σ =>
xF fNil [v131] fun v141 =>
xF (fFld 4) [v141] fun v142 =>
hStore 1 [v142, v140] (fun _v σ =>
xF fMove [a0] fun v143 =>
xF fNil [v143] fun v144 =>
xF (fFld 4) [v144] fun v145 =>
hLoad 1 false [v145] (fun v146 σ =>
s_word_Chunk [v146] (fun v147 σ =>
xF (fFldV 0 1 false) [v147] fun v148 =>
xF (fBin .neq .no) [v148, (.int .i64 0)] fun v149 =>
xIf v149
 (xF fMove [a0] fun v150 =>
xO (gLoad 9 true [(locP 3)] c3) fun v151 =>
s_place_Place_on [v150, v151] (fun v152 σ =>
xF fMove [v152] fun v4 =>
K v4 σ) σ)
 (xF fMove [a0] fun v153 =>
xF fNil [v153] fun v154 =>
xF (fFld 1) [v154] fun v155 =>
hStore 1 [v155, (.int .i64 4)] (fun _v σ =>
J1 [] [] σ) σ)) σ) σ) σ) σ) σ) σ)
 (xF (fBin .eql .no) [v10, (.int .i64 4)] fun v157 =>
xF fMove [v157] fun v156 =>
xIf v156
 (xO (gLoad 9 true [(locP 3)] c3) fun v158 =>
xF (fFld 0) [(locP 3)] fun v159 =>
xO (gLoad 7 true [v159] c3) fun v160 =>
xF fMove [a0] fun v161 =>
xF fNil [v161] fun v162 =>
xF (fFld 3) [v162] fun v163 =>
hLoad 1 false [v163] (fun v164 σ =>
s_layout_Chunk [v160, v164] (fun v165 σ =>
xF fMove [a0] fun v166 =>
xF fNil [v166] fun v167 =>
xF (fFld 4) [v167] fun v168 =>
hLoad 1 false [v168] (fun v169 σ =>
xF fMove [a0] fun v170 =>
s_place_Place_fresh [v170] (fun v171 σ =>
s_layout_Env_Cas [v158, v165, v169, v171] (fun v172 σ =>
xF (fUn .not) [v172] fun v173 =>
xIf v173
 (xF fMove [a0] fun v174 =>
xO (gLoad 9 true [(locP 3)] c3) fun v175 =>
s_place_Place_on [v174, v175] (fun v176 σ =>
xF fMove [v176] fun v4 =>
K v4 σ) σ)
 (xF fMove [a0] fun v177 =>
xF fNil [v177] fun v178 =>
xF (fFld 1) [v178] fun v179 =>
hStore 1 [v179, (.int .i64 5)] (fun _v σ =>
J1 [] [] σ) σ)) σ) σ) σ) σ) σ)
 (xF (fBin .eql .no) [v10, (.int .i64 5)] fun v181 =>
xF fMove [v181] fun v180 =>
xIf v180
 (xF fMove [a0] fun v182 =>
xF fNil [v182] fun v183 =>
xF (fFld 1) [v183] fun v184 =>
hStore 1 [v184, (.int .i64 6)] (fun _v σ =>
xO (gLoad 9 true [(locP 3)] c3) fun v185 =>
xF fMove [a0] fun v186 =>
xF fNil [v186] fun v187 =>
xF (fFld 0) [v187] fun v188 =>
hLoad 1 false [v188] (fun v189 σ =>
s_layout_Open [v189] (fun v190 σ =>
xF fMove [a0] fun v191 =>
xF fNil [v191] fun v192 =>
xF (fFld 2) [v192] fun v193 =>
hLoad 1 false [v193] (fun v194 σ =>
xF fMove [a0] fun v195 =>
xF fNil [v195] fun v196 =>
xF (fFld 3) [v196] fun v197 =>
hLoad 1 false [v197] (fun v198 σ =>
xF (fBin .add .no) [v198, (.int .i64 1)] fun v199 =>
xF (fConv .u64) [v199] fun v200 =>
s_layout_Env_Cas [v185, v190, v194, v200] (fun v201 σ =>
xIf v201
 (xF fMove [a0] fun v202 =>
xF fNil [v202] fun v203 =>
xF (fFld 1) [v203] fun v204 =>
hStore 1 [v204, (.int .i64 0)] (fun _v σ =>
J1 [] [] σ) σ)
 (J1 [] [] σ)) σ) σ) σ) σ) σ) σ)
 (xF fMove [a0] fun v11 =>
xF fNil [v11] fun v12 =>
xF (fFld 4) [v12] fun v13 =>
hLoad 1 false [v13] (fun v14 σ =>
s_word_Chunk [v14] (fun v15 σ =>
xF (fFldV 3 1 false) [v15] fun v16 =>
xF (fBin .add .no) [v16, (.int .i64 2)] fun v17 =>
xF (fBuild [(0, 1), (1, 1), (2, 1), (3, 1)] [(.int .i64 0), (.int .i64 0), (.int .i64 0), (.int .i64 0)] [3]) [v17] fun v18 =>
s_word_PutChunk [v18] (fun v19 σ =>
xF fMove [v19] fun v6 =>
xO (gLoad 9 true [(locP 3)] c3) fun v20 =>
xF (fFld 0) [(locP 3)] fun v21 =>
xO (gLoad 7 true [v21] c3) fun v22 =>
xF fMove [a0] fun v23 =>
xF fNil [v23] fun v24 =>
xF (fFld 3) [v24] fun v25 =>
hLoad 1 false [v25] (fun v26 σ =>
s_layout_Chunk [v22, v26] (fun v27 σ =>
xF fMove [a0] fun v28 =>
s_place_Place_fresh [v28] (fun v29 σ =>
xF fMove [v6] fun v30 =>
s_layout_Env_Cas [v20, v27, v29, v30] (fun v31 σ =>
xF fMove [a0] fun v32 =>
xF fNil [v32] fun v33 =>
xF (fFld 1) [v33] fun v34 =>
hStore 1 [v34, (.int .i64 0)] (fun _v σ =>
J1 [] [] σ) σ) σ) σ) σ) σ) σ) σ) σ))))))) σ
def s_place_Place_Step : Spec := fun args K σ => match args with
  | [a0, a1] => w_place_Place_Step a0 a1 K σ
  | _ => False
noncomputable def cx_place_Place_Step : Cx := { P := Try.prog, T := [(83, .none, s_layout_Open), (37, .write, s_layout_Env_Load), (67, .none, s_layout_Chunk), (84, .none, s_word_Chunk), (68, .none, s_layout_Room), (85, .write, s_place_Place_get), (86, .write, s_place_Place_on), (87, .read, s_place_Place_fresh), (43, .write, s_layout_Env_Cas), (88, .none, s_word_PutChunk)], loc := [(3, 3), (5, 5), (21, 3), (74, 3), (92, 5), (96, 5), (105, 5), (113, 3), (114, 3), (133, 3), (159, 3)], eqt := [], n := 205, keep := [(1000016, [0, 117], []), (1000032, [], [])] }
theorem q_place_Place_Step : FnS cx_place_Place_Step Try.f63 (bodyOf Try.f63) 2 = s_place_Place_Step := by
  funext args K σ
  rcases args with _ | ⟨a0, _ | ⟨a1, _ | ⟨b, r⟩⟩⟩ <;> kernel_rfl
theorem e_place_Place_Step : Entry Try.prog 63 .write s_place_Place_Step :=
  entry (C := cx_place_Place_Step) (TOk.cons e_layout_Open (TOk.cons e_layout_Env_Load (TOk.cons e_layout_Chunk (TOk.cons e_word_Chunk (TOk.cons e_layout_Room (TOk.cons e_place_Place_get (TOk.cons e_place_Place_on (TOk.cons e_place_Place_fresh (TOk.cons e_layout_Env_Cas (TOk.cons e_word_PutChunk TOk.nil)))))))))) mixedOk Try.func63 (by kernel_rfl) (by kernel_rfl) (by kernel_rfl) q_place_Place_Step
def xl_place_Place_Step : List (Nat × Nat) := [(3, 3), (5, 5), (21, 3), (74, 3), (92, 5), (96, 5), (105, 5), (113, 3), (114, 3), (133, 3), (159, 3)]
noncomputable def xc_place_Place_Step : XC XN :=
(.seq none
 (.reg [⟨none, some 3, [(.tmp 1)], ⟨.lb 3 9, rAny xl_place_Place_Step (.lb 3 9)⟩⟩,
  ⟨none, some 4, [(.const (.bool false))], ⟨.f fMove, rMove⟩⟩])
 (.seq (some ([], []))
 (.seq none
 (.reg [⟨none, some 7, [(.tmp 0)], ⟨.f fMove, rMove⟩⟩,
  ⟨none, some 8, [(.tmp 7)], ⟨.f fNil, rNil⟩⟩,
  ⟨none, some 9, [(.tmp 8)], ⟨.f (fFld 1), rFld 1⟩⟩,
  ⟨none, some 10, [(.tmp 9)], ⟨.load 1 false, rLoad1⟩⟩])
 (.block 0
 (.seq none
 (.reg [⟨none, some 36, [(.tmp 10), (.const (.int .i64 0))], ⟨.f (fBin .eql .no), rEql⟩⟩,
  ⟨none, some 35, [(.tmp 36)], ⟨.f fMove, rMove⟩⟩])
 (.cond (.tmp 35)
 (.seq none
 (.reg [⟨none, some 37, [(.tmp 0)], ⟨.f fMove, rMove⟩⟩,
  ⟨none, some 38, [(.tmp 3)], ⟨.lr 3 9 true, rAny xl_place_Place_Step (.lr 3 9 true)⟩⟩,
  ⟨none, some 39, [(.tmp 0)], ⟨.f fMove, rMove⟩⟩,
  ⟨none, some 40, [(.tmp 39)], ⟨.f fNil, rNil⟩⟩,
  ⟨none, some 41, [(.tmp 40)], ⟨.f (fFld 0), rFld 0⟩⟩,
  ⟨none, some 42, [(.tmp 41)], ⟨.load 1 false, rLoad1⟩⟩,
  ⟨none, some 43, [(.tmp 42)], ⟨.call .none s_layout_Open v_layout_Open, rCall v_layout_Open⟩⟩,
  ⟨none, some 44, [(.tmp 38), (.tmp 43)], ⟨.call .write s_layout_Env_Load v_layout_Env_Load, rCall v_layout_Env_Load⟩⟩,
  ⟨none, some 45, [(.tmp 37)], ⟨.f fNil, rNil⟩⟩,
  ⟨none, some 46, [(.tmp 45)], ⟨.f (fFld 2), rFld 2⟩⟩,
  ⟨none, none, [(.tmp 46), (.tmp 44)], ⟨.store 1, rStore1⟩⟩])
 (.seq none
 (.reg [⟨none, some 47, [(.tmp 0)], ⟨.f fMove, rMove⟩⟩,
  ⟨none, some 48, [(.tmp 0)], ⟨.f fMove, rMove⟩⟩,
  ⟨none, some 49, [(.tmp 0)], ⟨.f fMove, rMove⟩⟩,
  ⟨none, some 50, [(.tmp 49)], ⟨.f fNil, rNil⟩⟩,
  ⟨none, some 51, [(.tmp 50)], ⟨.f (fFld 2), rFld 2⟩⟩,
  ⟨none, some 52, [(.tmp 51)], ⟨.load 1 false, rLoad1⟩⟩,
  ⟨none, some 53, [(.tmp 52)], ⟨.f (fConv .i64), rConv .i64⟩⟩,
  ⟨none, some 54, [(.tmp 53), (.const (.int .i64 1))], ⟨.f (fBin .sub .no), rSub⟩⟩,
  ⟨none, some 55, [(.tmp 47)], ⟨.f fNil, rNil⟩⟩,
  ⟨none, some 56, [(.tmp 55)], ⟨.f (fFld 3), rFld 3⟩⟩,
  ⟨none, none, [(.tmp 56), (.tmp 54)], ⟨.store 1, rStore1⟩⟩,
  ⟨none, some 57, [(.tmp 48)], ⟨.f fNil, rNil⟩⟩,
  ⟨none, some 58, [(.tmp 57)], ⟨.f (fFld 1), rFld 1⟩⟩,
  ⟨none, none, [(.tmp 58), (.const (.int .i64 1))], ⟨.store 1, rStore1⟩⟩])
 (.seq none
 (.reg [⟨none, some 59, [(.tmp 0)], ⟨.f fMove, rMove⟩⟩,
  ⟨none, some 60, [(.tmp 59)], ⟨.f fNil, rNil⟩⟩,
  ⟨none, some 61, [(.tmp 60)], ⟨.f (fFld 3), rFld 3⟩⟩,
  ⟨none, some 62, [(.tmp 61)], ⟨.load 1 false, rLoad1⟩⟩,
  ⟨none, some 63, [(.tmp 62), (.const (.int .i64 0))], ⟨.f (fBin .lss .no), rLss⟩⟩])
 (.cond (.tmp 63)
 (.reg [⟨none, some 64, [(.tmp 0)], ⟨.f fMove, rMove⟩⟩,
  ⟨none, some 65, [(.tmp 0)], ⟨.f fMove, rMove⟩⟩,
  ⟨none, some 66, [(.tmp 64)], ⟨.f fNil, rNil⟩⟩,
  ⟨none, some 67, [(.tmp 66)], ⟨.f (fFld 3), rFld 3⟩⟩,
  ⟨none, none, [(.tmp 67), (.const (.int .i64 0))], ⟨.store 1, rStore1⟩⟩,
  ⟨none, some 68, [(.tmp 65)], ⟨.f fNil, rNil⟩⟩,
  ⟨none, some 69, [(.tmp 68)], ⟨.f (fFld 1), rFld 1⟩⟩,
  ⟨none, none, [(.tmp 69), (.const (.int .i64 3))], ⟨.store 1, rStore1⟩⟩])
 .skip))))
 (.seq none
 (.reg [⟨none, some 71, [(.tmp 10), (.const (.int .i64 1))], ⟨.f (fBin .eql .no), rEql⟩⟩,
  ⟨none, some 70, [(.tmp 71)], ⟨.f fMove, rMove⟩⟩])
 (.cond (.tmp 70)
 (.seq none
 (.reg [⟨none, some 72, [(.tmp 0)], ⟨.f fMove, rMove⟩⟩,
  ⟨none, some 73, [(.tmp 3)], ⟨.lr 3 9 true, rAny xl_place_Place_Step (.lr 3 9 true)⟩⟩,
  ⟨none, some 74, [(.tmp 3)], ⟨.f (fFld 0), rFld 0⟩⟩,
  ⟨none, some 75, [(.tmp 74)], ⟨.lr 3 7 true, rAny xl_place_Place_Step (.lr 3 7 true)⟩⟩,
  ⟨none, some 76, [(.tmp 0)], ⟨.f fMove, rMove⟩⟩,
  ⟨none, some 77, [(.tmp 76)], ⟨.f fNil, rNil⟩⟩,
  ⟨none, some 78, [(.tmp 77)], ⟨.f (fFld 3), rFld 3⟩⟩,
  ⟨none, some 79, [(.tmp 78)], ⟨.load 1 false, rLoad1⟩⟩,
  ⟨none, some 80, [(.tmp 75), (.tmp 79)], ⟨.call .none s_layout_Chunk v_layout_Chunk, rCall v_layout_Chunk⟩⟩,
  ⟨none, some 81, [(.tmp 73), (.tmp 80)], ⟨.call .write s_layout_Env_Load v_layout_Env_Load, rCall v_layout_Env_Load⟩⟩,
  ⟨none, some 82, [(.tmp 72)], ⟨.f fNil, rNil⟩⟩,
  ⟨none, some 83, [(.tmp 82)], ⟨.f (fFld 4), rFld 4⟩⟩,
  ⟨none, none, [(.tmp 83), (.tmp 81)], ⟨.store 1, rStore1⟩⟩])
 (.seq none
 (.reg [⟨none, some 84, [(.tmp 0)], ⟨.f fMove, rMove⟩⟩,
  ⟨none, some 85, [(.tmp 84)], ⟨.f fNil, rNil⟩⟩,
  ⟨none, some 86, [(.tmp 85)], ⟨.f (fFld 4), rFld 4⟩⟩,
  ⟨none, some 87, [(.tmp 86)], ⟨.load 1 false, rLoad1⟩⟩,
  ⟨none, some 88, [(.tmp 87)], ⟨.call .none s_word_Chunk v_word_Chunk, rCall v_word_Chunk⟩⟩,
  ⟨none, some 5, [], ⟨.la 5 [(.int .i64 0), (.int .i64 0), (.int .i64 0), (.int .i64 0)], rAny xl_place_Place_Step (.la 5 [(.int .i64 0), (.int .i64 0), (.int .i64 0), (.int .i64 0)])⟩⟩,
  ⟨none, none, [(.tmp 5), (.tmp 88)], ⟨.ls 5 4, rAny xl_place_Place_Step (.ls 5 4)⟩⟩])
 (.seq none
 (.reg [⟨none, some 89, [(.tmp 0)], ⟨.f fMove, rMove⟩⟩,
  ⟨none, some 90, [(.tmp 89)], ⟨.f fNil, rNil⟩⟩,
  ⟨none, some 91, [(.tmp 90)], ⟨.f (fFld 1), rFld 1⟩⟩,
  ⟨none, none, [(.tmp 91), (.const (.int .i64 2))], ⟨.store 1, rStore1⟩⟩])
 (.seq (some ([0, 117], []))
 (.reg [⟨none, some 92, [(.tmp 5)], ⟨.f (fFld 0), rFld 0⟩⟩,
  ⟨none, some 93, [(.tmp 92)], ⟨.lr 5 1 false, rLr1 5⟩⟩,
  ⟨none, some 94, [(.tmp 93), (.const (.int .i64 1))], ⟨.f (fBin .neq .no), rNeq⟩⟩,
  ⟨none, some 95, [(.tmp 94)], ⟨.f fMove, rMove⟩⟩,
  ⟨(some (4, 3, false, some 95)), some 96, [(.tmp 5)], ⟨.f (fFld 1), rFld 1⟩⟩,
  ⟨(some (5, 3, false, some 95)), some 97, [(.tmp 96)], ⟨.lr 5 1 false, rLr1 5⟩⟩,
  ⟨(some (6, 3, false, some 95)), some 98, [(.tmp 0)], ⟨.f fMove, rMove⟩⟩,
  ⟨(some (7, 3, false, some 95)), some 99, [(.tmp 98)], ⟨.f fNil, rNil⟩⟩,
  ⟨(some (8, 3, false, some 95)), some 100, [(.tmp 99)], ⟨.f (fFld 0), rFld 0⟩⟩,
  ⟨(some (9, 3, false, some 95)), some 101, [(.tmp 100)], ⟨.load 1 false, rLoad1⟩⟩,
  ⟨(some (10, 3, false, some 95)), some 102, [(.tmp 97), (.tmp 101)], ⟨.f (fBin .neq .no), rNeq⟩⟩,
  ⟨none, some 103, [(.tmp 95), (.const (.bool true)), (.tmp 102)], ⟨.f fPick, rPick⟩⟩,
  ⟨none, some 104, [(.tmp 103)], ⟨.f fMove, rMove⟩⟩,
  ⟨(some (13, 12, false, some 104)), some 105, [(.tmp 5)], ⟨.f (fFld 2), rFld 2⟩⟩,
  ⟨(some (14, 12, false, some 104)), some 106, [(.tmp 105)], ⟨.lr 5 1 false, rLr1 5⟩⟩,
  ⟨(some (15, 12, false, some 104)), some 107, [(.tmp 0)], ⟨.f fMove, rMove⟩⟩,
  ⟨(some (16, 12, false, some 104)), some 108, [(.tmp 107)], ⟨.f fNil, rNil⟩⟩,
  ⟨(some (17, 12, false, some 104)), some 109, [(.tmp 108)], ⟨.f (fFld 0), rFld 0⟩⟩,
  ⟨(some (18, 12, false, some 104)), some 110, [(.tmp 109)], ⟨.load 1 false, rLoad1⟩⟩,
  ⟨(some (19, 12, false, some 104)), some 111, [(.tmp 110)], ⟨.call .none s_layout_Room v_layout_Room, rCall v_layout_Room⟩⟩,
  ⟨(some (20, 12, false, some 104)), some 112, [(.tmp 106), (.tmp 111)], ⟨.f (fBin .add .no), rAdd⟩⟩,
  ⟨(some (21, 12, false, some 104)), some 113, [(.tmp 3)], ⟨.f (fFld 0), rFld 0⟩⟩,
  ⟨(some (22, 12, false, some 104)), some 114, [(.tmp 113)], ⟨.f (fFld 3), rFld 3⟩⟩,
  ⟨(some (23, 12, false, some 104)), some 115, [(.tmp 114)], ⟨.lr 3 1 false, rLr1 3⟩⟩,
  ⟨(some (24, 12, false, some 104)), some 116, [(.tmp 112), (.tmp 115)], ⟨.f (fBin .gtr .no), rGtr⟩⟩,
  ⟨none, some 117, [(.tmp 104), (.const (.bool true)), (.tmp 116)], ⟨.f fPick, rPick⟩⟩])
 (.cond (.tmp 117)
 (.reg [⟨none, some 118, [(.tmp 0)], ⟨.f fMove, rMove⟩⟩,
  ⟨none, some 119, [(.tmp 0)], ⟨.f fMove, rMove⟩⟩,
  ⟨none, some 120, [(.tmp 118)], ⟨.f fNil, rNil⟩⟩,
  ⟨none, some 121, [(.tmp 120)], ⟨.f (fFld 3), rFld 3⟩⟩,
  ⟨none, none, [(.tmp 121), (.const (.int .i64 0))], ⟨.store 1, rStore1⟩⟩,
  ⟨none, some 122, [(.tmp 119)], ⟨.f fNil, rNil⟩⟩,
  ⟨none, some 123, [(.tmp 122)], ⟨.f (fFld 1), rFld 1⟩⟩,
  ⟨none, none, [(.tmp 123), (.const (.int .i64 3))], ⟨.store 1, rStore1⟩⟩])
 .skip)))))
 (.seq none
 (.reg [⟨none, some 125, [(.tmp 10), (.const (.int .i64 2))], ⟨.f (fBin .eql .no), rEql⟩⟩,
  ⟨none, some 124, [(.tmp 125)], ⟨.f fMove, rMove⟩⟩])
 (.cond (.tmp 124)
 (.seq none
 (.reg [⟨none, some 126, [(.tmp 0)], ⟨.f fMove, rMove⟩⟩,
  ⟨none, some 127, [(.tmp 3)], ⟨.lr 3 9 true, rAny xl_place_Place_Step (.lr 3 9 true)⟩⟩,
  ⟨none, some 128, [(.tmp 126), (.tmp 127)], ⟨.call .write s_place_Place_get v_place_Place_get, rCall v_place_Place_get⟩⟩,
  ⟨none, some 4, [(.tmp 128)], ⟨.f fMove, rMove⟩⟩])
 .ret)
 (.seq none
 (.reg [⟨none, some 130, [(.tmp 10), (.const (.int .i64 3))], ⟨.f (fBin .eql .no), rEql⟩⟩,
  ⟨none, some 129, [(.tmp 130)], ⟨.f fMove, rMove⟩⟩])
 (.cond (.tmp 129)
 (.seq none
 (.reg [⟨none, some 131, [(.tmp 0)], ⟨.f fMove, rMove⟩⟩,
  ⟨none, some 132, [(.tmp 3)], ⟨.lr 3 9 true, rAny xl_place_Place_Step (.lr 3 9 true)⟩⟩,
  ⟨none, some 133, [(.tmp 3)], ⟨.f (fFld 0), rFld 0⟩⟩,
  ⟨none, some 134, [(.tmp 133)], ⟨.lr 3 7 true, rAny xl_place_Place_Step (.lr 3 7 true)⟩⟩,
  ⟨none, some 135, [(.tmp 0)], ⟨.f fMove, rMove⟩⟩,
  ⟨none, some 136, [(.tmp 135)], ⟨.f fNil, rNil⟩⟩,
  ⟨none, some 137, [(.tmp 136)], ⟨.f (fFld 3), rFld 3⟩⟩,
  ⟨none, some 138, [(.tmp 137)], ⟨.load 1 false, rLoad1⟩⟩,
  ⟨none, some 139, [(.tmp 134), (.tmp 138)], ⟨.call .none s_layout_Chunk v_layout_Chunk, rCall v_layout_Chunk⟩⟩,
  ⟨none, some 140, [(.tmp 132), (.tmp 139)], ⟨.call .write s_layout_Env_Load v_layout_Env_Load, rCall v_layout_Env_Load⟩⟩,
  ⟨none, some 141, [(.tmp 131)], ⟨.f fNil, rNil⟩⟩,
  ⟨none, some 142, [(.tmp 141)], ⟨.f (fFld 4), rFld 4⟩⟩,
  ⟨none, none, [(.tmp 142), (.tmp 140)], ⟨.store 1, rStore1⟩⟩])
 (.seq none
 (.seq none
 (.reg [⟨none, some 143, [(.tmp 0)], ⟨.f fMove, rMove⟩⟩,
  ⟨none, some 144, [(.tmp 143)], ⟨.f fNil, rNil⟩⟩,
  ⟨none, some 145, [(.tmp 144)], ⟨.f (fFld 4), rFld 4⟩⟩,
  ⟨none, some 146, [(.tmp 145)], ⟨.load 1 false, rLoad1⟩⟩,
  ⟨none, some 147, [(.tmp 146)], ⟨.call .none s_word_Chunk v_word_Chunk, rCall v_word_Chunk⟩⟩,
  ⟨none, some 148, [(.tmp 147)], ⟨.f (fFldV 0 1 false), rAny xl_place_Place_Step (.f (fFldV 0 1 false))⟩⟩,
  ⟨none, some 149, [(.tmp 148), (.const (.int .i64 0))], ⟨.f (fBin .neq .no), rNeq⟩⟩])
 (.cond (.tmp 149)
 (.seq none
 (.reg [⟨none, some 150, [(.tmp 0)], ⟨.f fMove, rMove⟩⟩,
  ⟨none, some 151, [(.tmp 3)], ⟨.lr 3 9 true, rAny xl_place_Place_Step (.lr 3 9 true)⟩⟩,
  ⟨none, some 152, [(.tmp 150), (.tmp 151)], ⟨.call .write s_place_Place_on v_place_Place_on, rCall v_place_Place_on⟩⟩,
  ⟨none, some 4, [(.tmp 152)], ⟨.f fMove, rMove⟩⟩])
 .ret)
 .skip))
 (.reg [⟨none, some 153, [(.tmp 0)], ⟨.f fMove, rMove⟩⟩,
  ⟨none, some 154, [(.tmp 153)], ⟨.f fNil, rNil⟩⟩,
  ⟨none, some 155, [(.tmp 154)], ⟨.f (fFld 1), rFld 1⟩⟩,
  ⟨none, none, [(.tmp 155), (.const (.int .i64 4))], ⟨.store 1, rStore1⟩⟩])))
 (.seq none
 (.reg [⟨none, some 157, [(.tmp 10), (.const (.int .i64 4))], ⟨.f (fBin .eql .no), rEql⟩⟩,
  ⟨none, some 156, [(.tmp 157)], ⟨.f fMove, rMove⟩⟩])
 (.cond (.tmp 156)
 (.seq none
 (.seq none
 (.reg [⟨none, some 158, [(.tmp 3)], ⟨.lr 3 9 true, rAny xl_place_Place_Step (.lr 3 9 true)⟩⟩,
  ⟨none, some 159, [(.tmp 3)], ⟨.f (fFld 0), rFld 0⟩⟩,
  ⟨none, some 160, [(.tmp 159)], ⟨.lr 3 7 true, rAny xl_place_Place_Step (.lr 3 7 true)⟩⟩,
  ⟨none, some 161, [(.tmp 0)], ⟨.f fMove, rMove⟩⟩,
  ⟨none, some 162, [(.tmp 161)], ⟨.f fNil, rNil⟩⟩,
  ⟨none, some 163, [(.tmp 162)], ⟨.f (fFld 3), rFld 3⟩⟩,
  ⟨none, some 164, [(.tmp 163)], ⟨.load 1 false, rLoad1⟩⟩,
  ⟨none, some 165, [(.tmp 160), (.tmp 164)], ⟨.call .none s_layout_Chunk v_layout_Chunk, rCall v_layout_Chunk⟩⟩,
  ⟨none, some 166, [(.tmp 0)], ⟨.f fMove, rMove⟩⟩,
  ⟨none, some 167, [(.tmp 166)], ⟨.f fNil, rNil⟩⟩,
  ⟨none, some 168, [(.tmp 167)], ⟨.f (fFld 4), rFld 4⟩⟩,
  ⟨none, some 169, [(.tmp 168)], ⟨.load 1 false, rLoad1⟩⟩,
  ⟨none, some 170, [(.tmp 0)], ⟨.f fMove, rMove⟩⟩,
  ⟨none, some 171, [(.tmp 170)], ⟨.call .read s_place_Place_fresh v_place_Place_fresh, rCall v_place_Place_fresh⟩⟩,
  ⟨none, some 172, [(.tmp 158), (.tmp 165), (.tmp 169), (.tmp 171)], ⟨.call .write s_layout_Env_Cas v_layout_Env_Cas, rCall v_layout_Env_Cas⟩⟩,
  ⟨none, some 173, [(.tmp 172)], ⟨.f (fUn .not), rNot⟩⟩])
 (.cond (.tmp 173)
 (.seq none
 (.reg [⟨none, some 174, [(.tmp 0)], ⟨.f fMove, rMove⟩⟩,
  ⟨none, some 175, [(.tmp 3)], ⟨.lr 3 9 true, rAny xl_place_Place_Step (.lr 3 9 true)⟩⟩,
  ⟨none, some 176, [(.tmp 174), (.tmp 175)], ⟨.call .write s_place_Place_on v_place_Place_on, rCall v_place_Place_on⟩⟩,
  ⟨none, some 4, [(.tmp 176)], ⟨.f fMove, rMove⟩⟩])
 .ret)
 .skip))
 (.reg [⟨none, some 177, [(.tmp 0)], ⟨.f fMove, rMove⟩⟩,
  ⟨none, some 178, [(.tmp 177)], ⟨.f fNil, rNil⟩⟩,
  ⟨none, some 179, [(.tmp 178)], ⟨.f (fFld 1), rFld 1⟩⟩,
  ⟨none, none, [(.tmp 179), (.const (.int .i64 5))], ⟨.store 1, rStore1⟩⟩]))
 (.seq none
 (.reg [⟨none, some 181, [(.tmp 10), (.const (.int .i64 5))], ⟨.f (fBin .eql .no), rEql⟩⟩,
  ⟨none, some 180, [(.tmp 181)], ⟨.f fMove, rMove⟩⟩])
 (.cond (.tmp 180)
 (.seq none
 (.reg [⟨none, some 182, [(.tmp 0)], ⟨.f fMove, rMove⟩⟩,
  ⟨none, some 183, [(.tmp 182)], ⟨.f fNil, rNil⟩⟩,
  ⟨none, some 184, [(.tmp 183)], ⟨.f (fFld 1), rFld 1⟩⟩,
  ⟨none, none, [(.tmp 184), (.const (.int .i64 6))], ⟨.store 1, rStore1⟩⟩])
 (.seq none
 (.reg [⟨none, some 185, [(.tmp 3)], ⟨.lr 3 9 true, rAny xl_place_Place_Step (.lr 3 9 true)⟩⟩,
  ⟨none, some 186, [(.tmp 0)], ⟨.f fMove, rMove⟩⟩,
  ⟨none, some 187, [(.tmp 186)], ⟨.f fNil, rNil⟩⟩,
  ⟨none, some 188, [(.tmp 187)], ⟨.f (fFld 0), rFld 0⟩⟩,
  ⟨none, some 189, [(.tmp 188)], ⟨.load 1 false, rLoad1⟩⟩,
  ⟨none, some 190, [(.tmp 189)], ⟨.call .none s_layout_Open v_layout_Open, rCall v_layout_Open⟩⟩,
  ⟨none, some 191, [(.tmp 0)], ⟨.f fMove, rMove⟩⟩,
  ⟨none, some 192, [(.tmp 191)], ⟨.f fNil, rNil⟩⟩,
  ⟨none, some 193, [(.tmp 192)], ⟨.f (fFld 2), rFld 2⟩⟩,
  ⟨none, some 194, [(.tmp 193)], ⟨.load 1 false, rLoad1⟩⟩,
  ⟨none, some 195, [(.tmp 0)], ⟨.f fMove, rMove⟩⟩,
  ⟨none, some 196, [(.tmp 195)], ⟨.f fNil, rNil⟩⟩,
  ⟨none, some 197, [(.tmp 196)], ⟨.f (fFld 3), rFld 3⟩⟩,
  ⟨none, some 198, [(.tmp 197)], ⟨.load 1 false, rLoad1⟩⟩,
  ⟨none, some 199, [(.tmp 198), (.const (.int .i64 1))], ⟨.f (fBin .add .no), rAdd⟩⟩,
  ⟨none, some 200, [(.tmp 199)], ⟨.f (fConv .u64), rConv .u64⟩⟩,
  ⟨none, some 201, [(.tmp 185), (.tmp 190), (.tmp 194), (.tmp 200)], ⟨.call .write s_layout_Env_Cas v_layout_Env_Cas, rCall v_layout_Env_Cas⟩⟩])
 (.cond (.tmp 201)
 (.reg [⟨none, some 202, [(.tmp 0)], ⟨.f fMove, rMove⟩⟩,
  ⟨none, some 203, [(.tmp 202)], ⟨.f fNil, rNil⟩⟩,
  ⟨none, some 204, [(.tmp 203)], ⟨.f (fFld 1), rFld 1⟩⟩,
  ⟨none, none, [(.tmp 204), (.const (.int .i64 0))], ⟨.store 1, rStore1⟩⟩])
 .skip)))
 (.seq none
 (.reg [⟨none, some 11, [(.tmp 0)], ⟨.f fMove, rMove⟩⟩,
  ⟨none, some 12, [(.tmp 11)], ⟨.f fNil, rNil⟩⟩,
  ⟨none, some 13, [(.tmp 12)], ⟨.f (fFld 4), rFld 4⟩⟩,
  ⟨none, some 14, [(.tmp 13)], ⟨.load 1 false, rLoad1⟩⟩,
  ⟨none, some 15, [(.tmp 14)], ⟨.call .none s_word_Chunk v_word_Chunk, rCall v_word_Chunk⟩⟩,
  ⟨none, some 16, [(.tmp 15)], ⟨.f (fFldV 3 1 false), rAny xl_place_Place_Step (.f (fFldV 3 1 false))⟩⟩,
  ⟨none, some 17, [(.tmp 16), (.const (.int .i64 2))], ⟨.f (fBin .add .no), rAdd⟩⟩,
  ⟨none, some 18, [(.tmp 17)], ⟨.f (fBuild [(0, 1), (1, 1), (2, 1), (3, 1)] [(.int .i64 0), (.int .i64 0), (.int .i64 0), (.int .i64 0)] [3]), rAny xl_place_Place_Step (.f (fBuild [(0, 1), (1, 1), (2, 1), (3, 1)] [(.int .i64 0), (.int .i64 0), (.int .i64 0), (.int .i64 0)] [3]))⟩⟩,
  ⟨none, some 19, [(.tmp 18)], ⟨.call .none s_word_PutChunk v_word_PutChunk, rCall v_word_PutChunk⟩⟩,
  ⟨none, some 6, [(.tmp 19)], ⟨.f fMove, rMove⟩⟩])
 (.seq none
 (.reg [⟨none, some 20, [(.tmp 3)], ⟨.lr 3 9 true, rAny xl_place_Place_Step (.lr 3 9 true)⟩⟩,
  ⟨none, some 21, [(.tmp 3)], ⟨.f (fFld 0), rFld 0⟩⟩,
  ⟨none, some 22, [(.tmp 21)], ⟨.lr 3 7 true, rAny xl_place_Place_Step (.lr 3 7 true)⟩⟩,
  ⟨none, some 23, [(.tmp 0)], ⟨.f fMove, rMove⟩⟩,
  ⟨none, some 24, [(.tmp 23)], ⟨.f fNil, rNil⟩⟩,
  ⟨none, some 25, [(.tmp 24)], ⟨.f (fFld 3), rFld 3⟩⟩,
  ⟨none, some 26, [(.tmp 25)], ⟨.load 1 false, rLoad1⟩⟩,
  ⟨none, some 27, [(.tmp 22), (.tmp 26)], ⟨.call .none s_layout_Chunk v_layout_Chunk, rCall v_layout_Chunk⟩⟩,
  ⟨none, some 28, [(.tmp 0)], ⟨.f fMove, rMove⟩⟩,
  ⟨none, some 29, [(.tmp 28)], ⟨.call .read s_place_Place_fresh v_place_Place_fresh, rCall v_place_Place_fresh⟩⟩,
  ⟨none, some 30, [(.tmp 6)], ⟨.f fMove, rMove⟩⟩,
  ⟨none, some 31, [(.tmp 20), (.tmp 27), (.tmp 29), (.tmp 30)], ⟨.call .write s_layout_Env_Cas v_layout_Env_Cas, rCall v_layout_Env_Cas⟩⟩])
 (.reg [⟨none, some 32, [(.tmp 0)], ⟨.f fMove, rMove⟩⟩,
  ⟨none, some 33, [(.tmp 32)], ⟨.f fNil, rNil⟩⟩,
  ⟨none, some 34, [(.tmp 33)], ⟨.f (fFld 1), rFld 1⟩⟩,
  ⟨none, none, [(.tmp 34), (.const (.int .i64 0))], ⟨.store 1, rStore1⟩⟩])))))))))))))))))
 (.seq none
 (.reg [⟨none, some 4, [(.const (.bool false))], ⟨.f fMove, rMove⟩⟩])
 .ret)))
noncomputable def v_place_Place_Step : EvF := evFn 2 xc_place_Place_Step [.t 4]
theorem xt_place_Place_Step : toC cx_place_Place_Step (bodyOf Try.f63) = some (xc_place_Place_Step.map XN.sm) := by kernel_rfl
theorem xr_place_Place_Step : toR cx_place_Place_Step Try.f63.results.toList = some [.t 4] := by kernel_rfl
theorem xo_place_Place_Step : xc_place_Place_Step.ok xl_place_Place_Step := ⟨⟨rAny_ok (trivial), rMove_ok, trivial⟩, ⟨⟨⟨rMove_ok, rNil_ok, rFld_ok _, rLoad1_ok, trivial⟩, ⟨⟨rEql_ok, rMove_ok, trivial⟩, ⟨⟨⟨rMove_ok, rAny_ok (trivial), rMove_ok, rNil_ok, rFld_ok _, rLoad1_ok, rCall_ok ve_layout_Open, rCall_ok ve_layout_Env_Load, rNil_ok, rFld_ok _, rStore1_ok, trivial⟩, ⟨⟨rMove_ok, rMove_ok, rMove_ok, rNil_ok, rFld_ok _, rLoad1_ok, rConv_ok _, rSub_ok, rNil_ok, rFld_ok _, rStore1_ok, rNil_ok, rFld_ok _, rStore1_ok, trivial⟩, ⟨⟨rMove_ok, rNil_ok, rFld_ok _, rLoad1_ok, rLss_ok, trivial⟩, ⟨⟨rMove_ok, rMove_ok, rNil_ok, rFld_ok _, rStore1_ok, rNil_ok, rFld_ok _, rStore1_ok, trivial⟩, trivial⟩⟩⟩⟩, ⟨⟨rEql_ok, rMove_ok, trivial⟩, ⟨⟨⟨rMove_ok, rAny_ok (trivial), rFld_ok _, rAny_ok (trivial), rMove_ok, rNil_ok, rFld_ok _, rLoad1_ok, rCall_ok ve_layout_Chunk, rCall_ok ve_layout_Env_Load, rNil_ok, rFld_ok _, rStore1_ok, trivial⟩, ⟨⟨rMove_ok, rNil_ok, rFld_ok _, rLoad1_ok, rCall_ok ve_word_Chunk, rAny_ok (trivial), rAny_ok (trivial), trivial⟩, ⟨⟨rMove_ok, rNil_ok, rFld_ok _, rStore1_ok, trivial⟩, ⟨⟨rFld_ok _, rLr1_ok _, rNeq_ok, rMove_ok, rFld_ok _, rLr1_ok _, rMove_ok, rNil_ok, rFld_ok _, rLoad1_ok, rNeq_ok, rPick_ok, rMove_ok, rFld_ok _, rLr1_ok _, rMove_ok, rNil_ok, rFld_ok _, rLoad1_ok, rCall_ok ve_layout_Room, rAdd_ok, rFld_ok _, rFld_ok _, rLr1_ok _, rGtr_ok, rPick_ok, trivial⟩, ⟨⟨rMove_ok, rMove_ok, rNil_ok, rFld_ok _, rStore1_ok, rNil_ok, rFld_ok _, rStore1_ok, trivial⟩, trivial⟩⟩⟩⟩⟩, ⟨⟨rEql_ok, rMove_ok, trivial⟩, ⟨⟨⟨rMove_ok, rAny_ok (trivial), rCall_ok ve_place_Place_get, rMove_ok, trivial⟩, trivial⟩, ⟨⟨rEql_ok, rMove_ok, trivial⟩, ⟨⟨⟨rMove_ok, rAny_ok (trivial), rFld_ok _, rAny_ok (trivial), rMove_ok, rNil_ok, rFld_ok _, rLoad1_ok, rCall_ok ve_layout_Chunk, rCall_ok ve_layout_Env_Load, rNil_ok, rFld_ok _, rStore1_ok, trivial⟩, ⟨⟨⟨rMove_ok, rNil_ok, rFld_ok _, rLoad1_ok, rCall_ok ve_word_Chunk, rAny_ok (eqv_fldV _ _ _), rNeq_ok, trivial⟩, ⟨⟨⟨rMove_ok, rAny_ok (trivial), rCall_ok ve_place_Place_on, rMove_ok, trivial⟩, trivial⟩, trivial⟩⟩, ⟨rMove_ok, rNil_ok, rFld_ok _, rStore1_ok, trivial⟩⟩⟩, ⟨⟨rEql_ok, rMove_ok, trivial⟩, ⟨⟨⟨⟨rAny_ok (trivial), rFld_ok _, rAny_ok (trivial), rMove_ok, rNil_ok, rFld_ok _, rLoad1_ok, rCall_ok ve_layout_Chunk, rMove_ok, rNil_ok, rFld_ok _, rLoad1_ok, rMove_ok, rCall_ok ve_place_Place_fresh, rCall_ok ve_layout_Env_Cas, rNot_ok, trivial⟩, ⟨⟨⟨rMove_ok, rAny_ok (trivial), rCall_ok ve_place_Place_on, rMove_ok, trivial⟩, trivial⟩, trivial⟩⟩, ⟨rMove_ok, rNil_ok, rFld_ok _, rStore1_ok, trivial⟩⟩, ⟨⟨rEql_ok, rMove_ok, trivial⟩, ⟨⟨⟨rMove_ok, rNil_ok, rFld_ok _, rStore1_ok, trivial⟩, ⟨⟨rAny_ok (trivial), rMove_ok, rNil_ok, rFld_ok _, rLoad1_ok, rCall_ok ve_layout_Open, rMove_ok, rNil_ok, rFld_ok _, rLoad1_ok, rMove_ok, rNil_ok, rFld_ok _, rLoad1_ok, rAdd_ok, rConv_ok _, rCall_ok ve_layout_Env_Cas, trivial⟩, ⟨⟨rMove_ok, rNil_ok, rFld_ok _, rStore1_ok, trivial⟩, trivial⟩⟩⟩, ⟨⟨rMove_ok, rNil_ok, rFld_ok _, rLoad1_ok, rCall_ok ve_word_Chunk, rAny_ok (eqv_fldV _ _ _), rAdd_ok, rAny_ok (eqv_build _ rfl _), rCall_ok ve_word_PutChunk, rMove_ok, trivial⟩, ⟨⟨rAny_ok (trivial), rFld_ok _, rAny_ok (trivial), rMove_ok, rNil_ok, rFld_ok _, rLoad1_ok, rCall_ok ve_layout_Chunk, rMove_ok, rCall_ok ve_place_Place_fresh, rMove_ok, rCall_ok ve_layout_Env_Cas, trivial⟩, ⟨rMove_ok, rNil_ok, rFld_ok _, rStore1_ok, trivial⟩⟩⟩⟩⟩⟩⟩⟩⟩⟩⟩⟩⟩⟩⟩⟩, ⟨⟨rMove_ok, trivial⟩, trivial⟩⟩⟩
theorem ve_place_Place_Step : EvOk s_place_Place_Step v_place_Place_Step := EvOk.of (evFn_sound (C := cx_place_Place_Step) xt_place_Place_Step xr_place_Place_Step xo_place_Place_Step) q_place_Place_Step
attribute [irreducible] w_place_Place_Step_j1b w_place_Place_Step_j1 w_place_Place_Step_j2b w_place_Place_Step_j2 w_place_Place_Step s_place_Place_Step
def w_place_Place_Spot_j1b (K : Value → Mem → Prop) (v0 v12 : Value) (c2 : List Value) (σ : Mem) : Prop :=
xIf v12
 (xF (fBuild [(0, 1), (1, 1)] [(.int .i64 0), (.int .i64 0)] []) [] fun v13 =>
xC (gStore 2 [(locP 2), v13] c2) fun c2 =>
xF fMove [(.bool false)] fun v3 =>
xO (gLoad 2 true [(locP 2)] c2) fun r2 =>
K (.tuple #[r2, v3]) σ)
 (xF fMove [v0] fun v14 =>
xF fNil [v14] fun v15 =>
xF (fFld 5) [v15] fun v16 =>
hLoad 2 true [v16] (fun v17 σ =>
xC (gStore 2 [(locP 2), v17] c2) fun c2 =>
xF fMove [(.bool true)] fun v3 =>
xO (gLoad 2 true [(locP 2)] c2) fun r2 =>
K (.tuple #[r2, v3]) σ) σ)
def w_place_Place_Spot_j1 (K : Value → Mem → Prop) (ts : List Value) (ls : List (List Value)) (σ : Mem) : Prop := w_place_Place_Spot_j1b K (ts.getD 0 poison) (ts.getD 1 poison) (ls.getD 0 []) σ
def w_place_Place_Spot (a0 : Value) (K : Value → Mem → Prop) (σ : Mem) : Prop :=
xF fMove [(.bool false)] fun v3 =>
xJoin (w_place_Place_Spot_j1 K) fun J1 =>
xF fMove [a0] fun v4 =>
xF (fBin .eql .ptr) [v4, (.pointer none)] fun v5 =>
xF fMove [v5] fun v6 =>
xIf v6
 (xF fPick [(.bool true), (.bool true), undef] fun v12 =>
J1 [a0, v12] [[(.int .i64 0), (.int .i64 0)]] σ)
 (xF fMove [a0] fun v7 =>
xF fNil [v7] fun v8 =>
xF (fFld 7) [v8] fun v9 =>
hLoad 1 false [v9] (fun v10 σ =>
xF (fUn .not) [v10] fun v11 =>
xF fPick [(.bool false), (.bool true), v11] fun v12 =>
J1 [a0, v12] [[(.int .i64 0), (.int .i64 0)]] σ) σ)
def s_place_Place_Spot : Spec := fun args K σ => match args with
  | [a0] => w_place_Place_Spot a0 K σ
  | _ => False
noncomputable def cx_place_Place_Spot : Cx := { P := Try.prog, T := [], loc := [(2, 2)], eqt := [(105, .ptr)], n := 18, keep := [(1000003, [0, 12], [2])] }
theorem q_place_Place_Spot : FnS cx_place_Place_Spot Try.f64 (bodyOf Try.f64) 1 = s_place_Place_Spot := by
  funext args K σ
  rcases args with _ | ⟨a0, _ | ⟨b, r⟩⟩ <;> kernel_rfl
theorem e_place_Place_Spot : Entry Try.prog 64 .read s_place_Place_Spot :=
  entry (C := cx_place_Place_Spot) TOk.nil mixedOk Try.func64 (by kernel_rfl) (by kernel_rfl) (by kernel_rfl) q_place_Place_Spot
def xl_place_Place_Spot : List (Nat × Nat) := [(2, 2)]
noncomputable def xc_place_Place_Spot : XC XN :=
(.seq none
 (.reg [⟨none, some 2, [], ⟨.la 2 [(.int .i64 0), (.int .i64 0)], rAny xl_place_Place_Spot (.la 2 [(.int .i64 0), (.int .i64 0)])⟩⟩,
  ⟨none, some 3, [(.const (.bool false))], ⟨.f fMove, rMove⟩⟩])
 (.seq none
 (.seq (some ([0, 12], [2]))
 (.reg [⟨none, some 4, [(.tmp 0)], ⟨.f fMove, rMove⟩⟩,
  ⟨none, some 5, [(.tmp 4), (.const (.pointer none))], ⟨.f (fBin .eql .ptr), rAny xl_place_Place_Spot (.f (fBin .eql .ptr))⟩⟩,
  ⟨none, some 6, [(.tmp 5)], ⟨.f fMove, rMove⟩⟩,
  ⟨(some (3, 2, false, some 6)), some 7, [(.tmp 0)], ⟨.f fMove, rMove⟩⟩,
  ⟨(some (4, 2, false, some 6)), some 8, [(.tmp 7)], ⟨.f fNil, rNil⟩⟩,
  ⟨(some (5, 2, false, some 6)), some 9, [(.tmp 8)], ⟨.f (fFld 7), rFld 7⟩⟩,
  ⟨(some (6, 2, false, some 6)), some 10, [(.tmp 9)], ⟨.load 1 false, rLoad1⟩⟩,
  ⟨(some (7, 2, false, some 6)), some 11, [(.tmp 10)], ⟨.f (fUn .not), rNot⟩⟩,
  ⟨none, some 12, [(.tmp 6), (.const (.bool true)), (.tmp 11)], ⟨.f fPick, rPick⟩⟩])
 (.cond (.tmp 12)
 (.seq none
 (.reg [⟨none, some 13, [], ⟨.f (fBuild [(0, 1), (1, 1)] [(.int .i64 0), (.int .i64 0)] []), rAny xl_place_Place_Spot (.f (fBuild [(0, 1), (1, 1)] [(.int .i64 0), (.int .i64 0)] []))⟩⟩,
  ⟨none, none, [(.tmp 2), (.tmp 13)], ⟨.ls 2 2, rAny xl_place_Place_Spot (.ls 2 2)⟩⟩,
  ⟨none, some 3, [(.const (.bool false))], ⟨.f fMove, rMove⟩⟩])
 .ret)
 .skip))
 (.seq none
 (.reg [⟨none, some 14, [(.tmp 0)], ⟨.f fMove, rMove⟩⟩,
  ⟨none, some 15, [(.tmp 14)], ⟨.f fNil, rNil⟩⟩,
  ⟨none, some 16, [(.tmp 15)], ⟨.f (fFld 5), rFld 5⟩⟩,
  ⟨none, some 17, [(.tmp 16)], ⟨.load 2 true, rAny xl_place_Place_Spot (.load 2 true)⟩⟩,
  ⟨none, none, [(.tmp 2), (.tmp 17)], ⟨.ls 2 2, rAny xl_place_Place_Spot (.ls 2 2)⟩⟩,
  ⟨none, some 3, [(.const (.bool true))], ⟨.f fMove, rMove⟩⟩])
 .ret)))
noncomputable def v_place_Place_Spot : EvF := evFn 1 xc_place_Place_Spot [.c 2 2 2 true, .t 3]
theorem xt_place_Place_Spot : toC cx_place_Place_Spot (bodyOf Try.f64) = some (xc_place_Place_Spot.map XN.sm) := by kernel_rfl
theorem xr_place_Place_Spot : toR cx_place_Place_Spot Try.f64.results.toList = some [.c 2 2 2 true, .t 3] := by kernel_rfl
theorem xo_place_Place_Spot : xc_place_Place_Spot.ok xl_place_Place_Spot := ⟨⟨rAny_ok (trivial), rMove_ok, trivial⟩, ⟨⟨⟨rMove_ok, rAny_ok (eqv_bin _ _), rMove_ok, rMove_ok, rNil_ok, rFld_ok _, rLoad1_ok, rNot_ok, rPick_ok, trivial⟩, ⟨⟨⟨rAny_ok (eqv_build _ rfl _), rAny_ok (trivial), rMove_ok, trivial⟩, trivial⟩, trivial⟩⟩, ⟨⟨rMove_ok, rNil_ok, rFld_ok _, rAny_ok (trivial), rAny_ok (trivial), rMove_ok, trivial⟩, trivial⟩⟩⟩
theorem ve_place_Place_Spot : EvOk s_place_Place_Spot v_place_Place_Spot := EvOk.of (evFn_sound (C := cx_place_Place_Spot) xt_place_Place_Spot xr_place_Place_Spot xo_place_Place_Spot) q_place_Place_Spot
attribute [irreducible] w_place_Place_Spot_j1b w_place_Place_Spot_j1 w_place_Place_Spot s_place_Place_Spot
def w_slot_NewGive (a0 : Value) (K : Value → Mem → Prop) (σ : Mem) : Prop :=
xF fMove [(.pointer none)] fun v2 =>
xF fMove [a0] fun v3 =>
xF (fBuild [(0, 1), (1, 1), (2, 1)] [(.int .i64 0), (.int .i64 0), (.int .u64 0)] [1]) [v3] fun v4 =>
hBox 3 [v4] (fun v5 σ =>
xF fMove [v5] fun v2 =>
K v2 σ) σ
def s_slot_NewGive : Spec := fun args K σ => match args with
  | [a0] => w_slot_NewGive a0 K σ
  | _ => False
noncomputable def cx_slot_NewGive : Cx := { P := Try.prog, T := [], loc := [], eqt := [], n := 6, keep := [] }
theorem q_slot_NewGive : FnS cx_slot_NewGive Try.f65 (bodyOf Try.f65) 1 = s_slot_NewGive := by
  funext args K σ
  rcases args with _ | ⟨a0, _ | ⟨b, r⟩⟩ <;> kernel_rfl
theorem e_slot_NewGive : Entry Try.prog 65 .write s_slot_NewGive :=
  entry (C := cx_slot_NewGive) TOk.nil mixedOk Try.func65 (by kernel_rfl) (by kernel_rfl) (by kernel_rfl) q_slot_NewGive
def xl_slot_NewGive : List (Nat × Nat) := []
noncomputable def xc_slot_NewGive : XC XN :=
(.seq none
 (.reg [⟨none, some 2, [(.const (.pointer none))], ⟨.f fMove, rMove⟩⟩])
 (.seq none
 (.reg [⟨none, some 3, [(.tmp 0)], ⟨.f fMove, rMove⟩⟩,
  ⟨none, some 4, [(.tmp 3)], ⟨.f (fBuild [(0, 1), (1, 1), (2, 1)] [(.int .i64 0), (.int .i64 0), (.int .u64 0)] [1]), rAny xl_slot_NewGive (.f (fBuild [(0, 1), (1, 1), (2, 1)] [(.int .i64 0), (.int .i64 0), (.int .u64 0)] [1]))⟩⟩,
  ⟨none, some 5, [(.tmp 4)], ⟨.box 3, rAny xl_slot_NewGive (.box 3)⟩⟩,
  ⟨none, some 2, [(.tmp 5)], ⟨.f fMove, rMove⟩⟩])
 .ret))
noncomputable def v_slot_NewGive : EvF := evFn 1 xc_slot_NewGive [.t 2]
theorem xt_slot_NewGive : toC cx_slot_NewGive (bodyOf Try.f65) = some (xc_slot_NewGive.map XN.sm) := by kernel_rfl
theorem xr_slot_NewGive : toR cx_slot_NewGive Try.f65.results.toList = some [.t 2] := by kernel_rfl
theorem xo_slot_NewGive : xc_slot_NewGive.ok xl_slot_NewGive := ⟨⟨rMove_ok, trivial⟩, ⟨⟨rMove_ok, rAny_ok (eqv_build _ rfl _), rAny_ok (trivial), rMove_ok, trivial⟩, trivial⟩⟩
theorem ve_slot_NewGive : EvOk s_slot_NewGive v_slot_NewGive := EvOk.of (evFn_sound (C := cx_slot_NewGive) xt_slot_NewGive xr_slot_NewGive xo_slot_NewGive) q_slot_NewGive
attribute [irreducible] w_slot_NewGive s_slot_NewGive
def w_mem_Mem_Add (a0 a1 a2 : Value) (K : Value → Mem → Prop) (σ : Mem) : Prop :=
xF fMove [(.int .u64 0)] fun v6 =>
xF fMove [(.int .i64 0)] fun v7 =>
xF fMove [a0] fun v9 =>
xF fMove [a1] fun v10 =>
s_mem_Mem_step [v9, v10] (fun v11 σ =>
xF (fUn .not) [v11] fun v12 =>
xIf v12
 (xF fMove [(.int .u64 0)] fun v6 =>
xF fMove [(.int .i64 2)] fun v7 =>
K (.tuple #[v6, v7]) σ)
 (xF fMove [a0] fun v13 =>
xF fNil [v13] fun v14 =>
xF (fFld 0) [v14] fun v15 =>
hLoad 1 false [v15] (fun v16 σ =>
xF fMove [a1] fun v17 =>
xF (fIxS 1) [v16, v17] fun v18 =>
hLoad 1 false [v18] (fun v19 σ =>
xF fMove [v19] fun v8 =>
xF fMove [a0] fun v20 =>
xF fMove [a1] fun v21 =>
xF fMove [v8] fun v22 =>
xF fMove [a2] fun v23 =>
xF (fBin .add .no) [v22, v23] fun v24 =>
s_mem_Mem_set [v20, v21, v24] (fun v25 σ =>
xF fMove [v8] fun v26 =>
xF fMove [v26] fun v6 =>
xF fMove [(.int .i64 0)] fun v7 =>
K (.tuple #[v6, v7]) σ) σ) σ) σ)) σ
def s_mem_Mem_Add : Spec := fun args K σ => match args with
  | [a0, a1, a2] => w_mem_Mem_Add a0 a1 a2 K σ
  | _ => False
noncomputable def cx_mem_Mem_Add : Cx := { P := Try.prog, T := [(46, .write, s_mem_Mem_step), (47, .write, s_mem_Mem_set)], loc := [], eqt := [], n := 27, keep := [] }
theorem q_mem_Mem_Add : FnS cx_mem_Mem_Add Try.f89 (bodyOf Try.f89) 3 = s_mem_Mem_Add := by
  funext args K σ
  rcases args with _ | ⟨a0, _ | ⟨a1, _ | ⟨a2, _ | ⟨b, r⟩⟩⟩⟩ <;> kernel_rfl
theorem e_mem_Mem_Add : Entry Try.prog 89 .write s_mem_Mem_Add :=
  entry (C := cx_mem_Mem_Add) (TOk.cons e_mem_Mem_step (TOk.cons e_mem_Mem_set TOk.nil)) mixedOk Try.func89 (by kernel_rfl) (by kernel_rfl) (by kernel_rfl) q_mem_Mem_Add
def xl_mem_Mem_Add : List (Nat × Nat) := []
noncomputable def xc_mem_Mem_Add : XC XN :=
(.seq none
 (.reg [⟨none, some 6, [(.const (.int .u64 0))], ⟨.f fMove, rMove⟩⟩,
  ⟨none, some 7, [(.const (.int .i64 0))], ⟨.f fMove, rMove⟩⟩])
 (.seq none
 (.seq none
 (.reg [⟨none, some 9, [(.tmp 0)], ⟨.f fMove, rMove⟩⟩,
  ⟨none, some 10, [(.tmp 1)], ⟨.f fMove, rMove⟩⟩,
  ⟨none, some 11, [(.tmp 9), (.tmp 10)], ⟨.call .write s_mem_Mem_step v_mem_Mem_step, rCall v_mem_Mem_step⟩⟩,
  ⟨none, some 12, [(.tmp 11)], ⟨.f (fUn .not), rNot⟩⟩])
 (.cond (.tmp 12)
 (.seq none
 (.reg [⟨none, some 6, [(.const (.int .u64 0))], ⟨.f fMove, rMove⟩⟩,
  ⟨none, some 7, [(.const (.int .i64 2))], ⟨.f fMove, rMove⟩⟩])
 .ret)
 .skip))
 (.seq none
 (.reg [⟨none, some 13, [(.tmp 0)], ⟨.f fMove, rMove⟩⟩,
  ⟨none, some 14, [(.tmp 13)], ⟨.f fNil, rNil⟩⟩,
  ⟨none, some 15, [(.tmp 14)], ⟨.f (fFld 0), rFld 0⟩⟩,
  ⟨none, some 16, [(.tmp 15)], ⟨.load 1 false, rLoad1⟩⟩,
  ⟨none, some 17, [(.tmp 1)], ⟨.f fMove, rMove⟩⟩,
  ⟨none, some 18, [(.tmp 16), (.tmp 17)], ⟨.f (fIxS 1), rIxS 1⟩⟩,
  ⟨none, some 19, [(.tmp 18)], ⟨.load 1 false, rLoad1⟩⟩,
  ⟨none, some 8, [(.tmp 19)], ⟨.f fMove, rMove⟩⟩])
 (.seq none
 (.reg [⟨none, some 20, [(.tmp 0)], ⟨.f fMove, rMove⟩⟩,
  ⟨none, some 21, [(.tmp 1)], ⟨.f fMove, rMove⟩⟩,
  ⟨none, some 22, [(.tmp 8)], ⟨.f fMove, rMove⟩⟩,
  ⟨none, some 23, [(.tmp 2)], ⟨.f fMove, rMove⟩⟩,
  ⟨none, some 24, [(.tmp 22), (.tmp 23)], ⟨.f (fBin .add .no), rAdd⟩⟩,
  ⟨none, some 25, [(.tmp 20), (.tmp 21), (.tmp 24)], ⟨.call .write s_mem_Mem_set v_mem_Mem_set, rCall v_mem_Mem_set⟩⟩])
 (.seq none
 (.reg [⟨none, some 26, [(.tmp 8)], ⟨.f fMove, rMove⟩⟩,
  ⟨none, some 6, [(.tmp 26)], ⟨.f fMove, rMove⟩⟩,
  ⟨none, some 7, [(.const (.int .i64 0))], ⟨.f fMove, rMove⟩⟩])
 .ret)))))
noncomputable def v_mem_Mem_Add : EvF := evFn 3 xc_mem_Mem_Add [.t 6, .t 7]
theorem xt_mem_Mem_Add : toC cx_mem_Mem_Add (bodyOf Try.f89) = some (xc_mem_Mem_Add.map XN.sm) := by kernel_rfl
theorem xr_mem_Mem_Add : toR cx_mem_Mem_Add Try.f89.results.toList = some [.t 6, .t 7] := by kernel_rfl
theorem xo_mem_Mem_Add : xc_mem_Mem_Add.ok xl_mem_Mem_Add := ⟨⟨rMove_ok, rMove_ok, trivial⟩, ⟨⟨⟨rMove_ok, rMove_ok, rCall_ok ve_mem_Mem_step, rNot_ok, trivial⟩, ⟨⟨⟨rMove_ok, rMove_ok, trivial⟩, trivial⟩, trivial⟩⟩, ⟨⟨rMove_ok, rNil_ok, rFld_ok _, rLoad1_ok, rMove_ok, rIxS_ok _, rLoad1_ok, rMove_ok, trivial⟩, ⟨⟨rMove_ok, rMove_ok, rMove_ok, rMove_ok, rAdd_ok, rCall_ok ve_mem_Mem_set, trivial⟩, ⟨⟨rMove_ok, rMove_ok, rMove_ok, trivial⟩, trivial⟩⟩⟩⟩⟩
theorem ve_mem_Mem_Add : EvOk s_mem_Mem_Add v_mem_Mem_Add := EvOk.of (evFn_sound (C := cx_mem_Mem_Add) xt_mem_Mem_Add xr_mem_Mem_Add xo_mem_Mem_Add) q_mem_Mem_Add
attribute [irreducible] w_mem_Mem_Add s_mem_Mem_Add
def w_layout_Env_Add (a0 a1 a2 : Value) (K : Value → Mem → Prop) (σ : Mem) : Prop :=
xC (gBox 9 [a0] []) fun c3 =>
xF (fFld 7) [(locP 3)] fun v6 =>
xO (gLoad 1 false [v6] c3) fun v7 =>
xF (fFld 8) [(locP 3)] fun v8 =>
xO (gLoad 1 false [v8] c3) fun v9 =>
s_mem_Mem_By [v7, v9] (fun v10 σ =>
xF (fFld 7) [(locP 3)] fun v11 =>
xO (gLoad 1 false [v11] c3) fun v12 =>
xF fMove [a1] fun v13 =>
xF fMove [a2] fun v14 =>
xF (fConv .u64) [v14] fun v15 =>
s_mem_Mem_Add [v12, v13, v15] (fun v16 σ =>
K (.tuple #[]) σ) σ) σ
def s_layout_Env_Add : Spec := fun args K σ => match args with
  | [a0, a1, a2] => w_layout_Env_Add a0 a1 a2 K σ
  | _ => False
noncomputable def cx_layout_Env_Add : Cx := { P := Try.prog, T := [(73, .write, s_mem_Mem_By), (89, .write, s_mem_Mem_Add)], loc := [(3, 3), (6, 3), (8, 3), (11, 3)], eqt := [], n := 17, keep := [] }
theorem q_layout_Env_Add : FnS cx_layout_Env_Add Try.f66 (bodyOf Try.f66) 3 = s_layout_Env_Add := by
  funext args K σ
  rcases args with _ | ⟨a0, _ | ⟨a1, _ | ⟨a2, _ | ⟨b, r⟩⟩⟩⟩ <;> kernel_rfl
theorem e_layout_Env_Add : Entry Try.prog 66 .write s_layout_Env_Add :=
  entry (C := cx_layout_Env_Add) (TOk.cons e_mem_Mem_By (TOk.cons e_mem_Mem_Add TOk.nil)) mixedOk Try.func66 (by kernel_rfl) (by kernel_rfl) (by kernel_rfl) q_layout_Env_Add
def xl_layout_Env_Add : List (Nat × Nat) := [(3, 3), (6, 3), (8, 3), (11, 3)]
noncomputable def xc_layout_Env_Add : XC XN :=
(.seq none
 (.reg [⟨none, some 3, [(.tmp 0)], ⟨.lb 3 9, rAny xl_layout_Env_Add (.lb 3 9)⟩⟩])
 (.seq none
 (.reg [⟨none, some 6, [(.tmp 3)], ⟨.f (fFld 7), rFld 7⟩⟩,
  ⟨none, some 7, [(.tmp 6)], ⟨.lr 3 1 false, rLr1 3⟩⟩,
  ⟨none, some 8, [(.tmp 3)], ⟨.f (fFld 8), rFld 8⟩⟩,
  ⟨none, some 9, [(.tmp 8)], ⟨.lr 3 1 false, rLr1 3⟩⟩,
  ⟨none, some 10, [(.tmp 7), (.tmp 9)], ⟨.call .write s_mem_Mem_By v_mem_Mem_By, rCall v_mem_Mem_By⟩⟩])
 (.reg [⟨none, some 11, [(.tmp 3)], ⟨.f (fFld 7), rFld 7⟩⟩,
  ⟨none, some 12, [(.tmp 11)], ⟨.lr 3 1 false, rLr1 3⟩⟩,
  ⟨none, some 13, [(.tmp 1)], ⟨.f fMove, rMove⟩⟩,
  ⟨none, some 14, [(.tmp 2)], ⟨.f fMove, rMove⟩⟩,
  ⟨none, some 15, [(.tmp 14)], ⟨.f (fConv .u64), rConv .u64⟩⟩,
  ⟨none, some 16, [(.tmp 12), (.tmp 13), (.tmp 15)], ⟨.call .write s_mem_Mem_Add v_mem_Mem_Add, rCall v_mem_Mem_Add⟩⟩])))
noncomputable def v_layout_Env_Add : EvF := evFn 3 xc_layout_Env_Add []
theorem xt_layout_Env_Add : toC cx_layout_Env_Add (bodyOf Try.f66) = some (xc_layout_Env_Add.map XN.sm) := by kernel_rfl
theorem xr_layout_Env_Add : toR cx_layout_Env_Add Try.f66.results.toList = some [] := by kernel_rfl
theorem xo_layout_Env_Add : xc_layout_Env_Add.ok xl_layout_Env_Add := ⟨⟨rAny_ok (trivial), trivial⟩, ⟨⟨rFld_ok _, rLr1_ok _, rFld_ok _, rLr1_ok _, rCall_ok ve_mem_Mem_By, trivial⟩, ⟨rFld_ok _, rLr1_ok _, rMove_ok, rMove_ok, rConv_ok _, rCall_ok ve_mem_Mem_Add, trivial⟩⟩⟩
theorem ve_layout_Env_Add : EvOk s_layout_Env_Add v_layout_Env_Add := EvOk.of (evFn_sound (C := cx_layout_Env_Add) xt_layout_Env_Add xr_layout_Env_Add xo_layout_Env_Add) q_layout_Env_Add
attribute [irreducible] w_layout_Env_Add s_layout_Env_Add
def w_word_PutHead_j1b (K : Value → Mem → Prop) (v3 : Value) (σ : Mem) : Prop :=
xF fMove [v3] fun v26 =>
xF fMove [v26] fun v2 =>
K v2 σ
def w_word_PutHead_j1 (K : Value → Mem → Prop) (ts : List Value) (ls : List (List Value)) (σ : Mem) : Prop := w_word_PutHead_j1b K (ts.getD 0 poison) σ
def w_word_PutHead (a0 : Value) (K : Value → Mem → Prop) (σ : Mem) : Prop :=
xC (gBox 5 [a0] []) fun c1 =>
xF fMove [(.int .u64 0)] fun v2 =>
xF (fFld 0) [(locP 1)] fun v4 =>
xO (gLoad 1 false [v4] c1) fun v5 =>
s_word_fit [v5, (.int .i64 3)] (fun v6 σ =>
xF (fFld 1) [(locP 1)] fun v7 =>
xO (gLoad 1 false [v7] c1) fun v8 =>
s_word_fit [v8, (.int .i64 65535)] (fun v9 σ =>
xF (fBin .shl .no) [v9, (.int .u64 2)] fun v10 =>
xF (fBin .or .no) [v6, v10] fun v11 =>
xF (fFld 2) [(locP 1)] fun v12 =>
xO (gLoad 1 false [v12] c1) fun v13 =>
s_word_fit [v13, (.int .i64 65535)] (fun v14 σ =>
xF (fBin .shl .no) [v14, (.int .u64 18)] fun v15 =>
xF (fBin .or .no) [v11, v15] fun v16 =>
xF (fFld 3) [(locP 1)] fun v17 =>
xO (gLoad 1 false [v17] c1) fun v18 =>
s_word_fit [v18, (.int .i64 65535)] (fun v19 σ =>
xF (fBin .shl .no) [v19, (.int .u64 34)] fun v20 =>
xF (fBin .or .no) [v16, v20] fun v21 =>
xF fMove [v21] fun v3 =>
xJoin (w_word_PutHead_j1 K) fun J1 =>
xF (fFld 4) [(locP 1)] fun v22 =>
xO (gLoad 1 false [v22] c1) fun v23 =>
xIf v23
 (xF fMove [v3] fun v24 =>
xF (fBin .or .no) [v24, (.int .u64 1125899906842624)] fun v25 =>
xF fMove [v25] fun v3 =>
J1 [v3] [] σ)
 (J1 [v3] [] σ)) σ) σ) σ) σ
def s_word_PutHead : Spec := fun args K σ => match args with
  | [a0] => w_word_PutHead a0 K σ
  | _ => False
noncomputable def cx_word_PutHead : Cx := { P := Try.prog, T := [(48, .none, s_word_fit)], loc := [(1, 1), (4, 1), (7, 1), (12, 1), (17, 1), (22, 1)], eqt := [], n := 27, keep := [(1000005, [3], [])] }
theorem q_word_PutHead : FnS cx_word_PutHead Try.f90 (bodyOf Try.f90) 1 = s_word_PutHead := by
  funext args K σ
  rcases args with _ | ⟨a0, _ | ⟨b, r⟩⟩ <;> kernel_rfl
theorem e_word_PutHead : Entry Try.prog 90 .none s_word_PutHead :=
  entry (C := cx_word_PutHead) (TOk.cons e_word_fit TOk.nil) mixedOk Try.func90 (by kernel_rfl) (by kernel_rfl) (by kernel_rfl) q_word_PutHead
def xl_word_PutHead : List (Nat × Nat) := [(1, 1), (4, 1), (7, 1), (12, 1), (17, 1), (22, 1)]
noncomputable def xc_word_PutHead : XC XN :=
(.seq none
 (.reg [⟨none, some 1, [(.tmp 0)], ⟨.lb 1 5, rAny xl_word_PutHead (.lb 1 5)⟩⟩,
  ⟨none, some 2, [(.const (.int .u64 0))], ⟨.f fMove, rMove⟩⟩])
 (.seq none
 (.reg [⟨none, some 4, [(.tmp 1)], ⟨.f (fFld 0), rFld 0⟩⟩,
  ⟨none, some 5, [(.tmp 4)], ⟨.lr 1 1 false, rLr1 1⟩⟩,
  ⟨none, some 6, [(.tmp 5), (.const (.int .i64 3))], ⟨.call .none s_word_fit v_word_fit, rCall v_word_fit⟩⟩,
  ⟨none, some 7, [(.tmp 1)], ⟨.f (fFld 1), rFld 1⟩⟩,
  ⟨none, some 8, [(.tmp 7)], ⟨.lr 1 1 false, rLr1 1⟩⟩,
  ⟨none, some 9, [(.tmp 8), (.const (.int .i64 65535))], ⟨.call .none s_word_fit v_word_fit, rCall v_word_fit⟩⟩,
  ⟨none, some 10, [(.tmp 9), (.const (.int .u64 2))], ⟨.f (fBin .shl .no), rAny xl_word_PutHead (.f (fBin .shl .no))⟩⟩,
  ⟨none, some 11, [(.tmp 6), (.tmp 10)], ⟨.f (fBin .or .no), rAny xl_word_PutHead (.f (fBin .or .no))⟩⟩,
  ⟨none, some 12, [(.tmp 1)], ⟨.f (fFld 2), rFld 2⟩⟩,
  ⟨none, some 13, [(.tmp 12)], ⟨.lr 1 1 false, rLr1 1⟩⟩,
  ⟨none, some 14, [(.tmp 13), (.const (.int .i64 65535))], ⟨.call .none s_word_fit v_word_fit, rCall v_word_fit⟩⟩,
  ⟨none, some 15, [(.tmp 14), (.const (.int .u64 18))], ⟨.f (fBin .shl .no), rAny xl_word_PutHead (.f (fBin .shl .no))⟩⟩,
  ⟨none, some 16, [(.tmp 11), (.tmp 15)], ⟨.f (fBin .or .no), rAny xl_word_PutHead (.f (fBin .or .no))⟩⟩,
  ⟨none, some 17, [(.tmp 1)], ⟨.f (fFld 3), rFld 3⟩⟩,
  ⟨none, some 18, [(.tmp 17)], ⟨.lr 1 1 false, rLr1 1⟩⟩,
  ⟨none, some 19, [(.tmp 18), (.const (.int .i64 65535))], ⟨.call .none s_word_fit v_word_fit, rCall v_word_fit⟩⟩,
  ⟨none, some 20, [(.tmp 19), (.const (.int .u64 34))], ⟨.f (fBin .shl .no), rAny xl_word_PutHead (.f (fBin .shl .no))⟩⟩,
  ⟨none, some 21, [(.tmp 16), (.tmp 20)], ⟨.f (fBin .or .no), rAny xl_word_PutHead (.f (fBin .or .no))⟩⟩,
  ⟨none, some 3, [(.tmp 21)], ⟨.f fMove, rMove⟩⟩])
 (.seq (some ([3], []))
 (.seq none
 (.reg [⟨none, some 22, [(.tmp 1)], ⟨.f (fFld 4), rFld 4⟩⟩,
  ⟨none, some 23, [(.tmp 22)], ⟨.lr 1 1 false, rLr1 1⟩⟩])
 (.cond (.tmp 23)
 (.reg [⟨none, some 24, [(.tmp 3)], ⟨.f fMove, rMove⟩⟩,
  ⟨none, some 25, [(.tmp 24), (.const (.int .u64 1125899906842624))], ⟨.f (fBin .or .no), rAny xl_word_PutHead (.f (fBin .or .no))⟩⟩,
  ⟨none, some 3, [(.tmp 25)], ⟨.f fMove, rMove⟩⟩])
 .skip))
 (.seq none
 (.reg [⟨none, some 26, [(.tmp 3)], ⟨.f fMove, rMove⟩⟩,
  ⟨none, some 2, [(.tmp 26)], ⟨.f fMove, rMove⟩⟩])
 .ret))))
noncomputable def v_word_PutHead : EvF := evFn 1 xc_word_PutHead [.t 2]
theorem xt_word_PutHead : toC cx_word_PutHead (bodyOf Try.f90) = some (xc_word_PutHead.map XN.sm) := by kernel_rfl
theorem xr_word_PutHead : toR cx_word_PutHead Try.f90.results.toList = some [.t 2] := by kernel_rfl
theorem xo_word_PutHead : xc_word_PutHead.ok xl_word_PutHead := ⟨⟨rAny_ok (trivial), rMove_ok, trivial⟩, ⟨⟨rFld_ok _, rLr1_ok _, rCall_ok ve_word_fit, rFld_ok _, rLr1_ok _, rCall_ok ve_word_fit, rAny_ok (eqv_bin _ _), rAny_ok (eqv_bin _ _), rFld_ok _, rLr1_ok _, rCall_ok ve_word_fit, rAny_ok (eqv_bin _ _), rAny_ok (eqv_bin _ _), rFld_ok _, rLr1_ok _, rCall_ok ve_word_fit, rAny_ok (eqv_bin _ _), rAny_ok (eqv_bin _ _), rMove_ok, trivial⟩, ⟨⟨⟨rFld_ok _, rLr1_ok _, trivial⟩, ⟨⟨rMove_ok, rAny_ok (eqv_bin _ _), rMove_ok, trivial⟩, trivial⟩⟩, ⟨⟨rMove_ok, rMove_ok, trivial⟩, trivial⟩⟩⟩⟩
theorem ve_word_PutHead : EvOk s_word_PutHead v_word_PutHead := EvOk.of (evFn_sound (C := cx_word_PutHead) xt_word_PutHead xr_word_PutHead xo_word_PutHead) q_word_PutHead
attribute [irreducible] w_word_PutHead_j1b w_word_PutHead_j1 w_word_PutHead s_word_PutHead
def w_alloc_Alloc_head (a0 a1 : Value) (K : Value → Mem → Prop) (σ : Mem) : Prop :=
xF fMove [(.int .u64 0)] fun v4 =>
xF fMove [a1] fun v5 =>
xF fMove [a0] fun v6 =>
xF fNil [v6] fun v7 =>
xF (fFld 0) [v7] fun v8 =>
hLoad 1 false [v8] (fun v9 σ =>
xF fMove [a0] fun v10 =>
xF fNil [v10] fun v11 =>
xF (fFld 8) [v11] fun v12 =>
hLoad 1 false [v12] (fun v13 σ =>
xF fMove [a0] fun v14 =>
xF fNil [v14] fun v15 =>
xF (fFld 9) [v15] fun v16 =>
hLoad 1 false [v16] (fun v17 σ =>
xF fMove [a0] fun v18 =>
xF fNil [v18] fun v19 =>
xF (fFld 1) [v19] fun v20 =>
hLoad 1 false [v20] (fun v21 σ =>
xF (fBuild [(0, 1), (1, 1), (2, 1), (3, 1), (4, 1)] [(.int .i64 0), (.int .i64 0), (.int .i64 0), (.int .i64 0), (.bool false)] [0, 1, 2, 3, 4]) [v5, v9, v13, v17, v21] fun v22 =>
s_word_PutHead [v22] (fun v23 σ =>
xF fMove [v23] fun v4 =>
K v4 σ) σ) σ) σ) σ) σ
def s_alloc_Alloc_head : Spec := fun args K σ => match args with
  | [a0, a1] => w_alloc_Alloc_head a0 a1 K σ
  | _ => False
noncomputable def cx_alloc_Alloc_head : Cx := { P := Try.prog, T := [(90, .none, s_word_PutHead)], loc := [], eqt := [], n := 24, keep := [] }
theorem q_alloc_Alloc_head : FnS cx_alloc_Alloc_head Try.f70 (bodyOf Try.f70) 2 = s_alloc_Alloc_head := by
  funext args K σ
  rcases args with _ | ⟨a0, _ | ⟨a1, _ | ⟨b, r⟩⟩⟩ <;> kernel_rfl
theorem e_alloc_Alloc_head : Entry Try.prog 70 .read s_alloc_Alloc_head :=
  entry (C := cx_alloc_Alloc_head) (TOk.cons e_word_PutHead TOk.nil) mixedOk Try.func70 (by kernel_rfl) (by kernel_rfl) (by kernel_rfl) q_alloc_Alloc_head
def xl_alloc_Alloc_head : List (Nat × Nat) := []
noncomputable def xc_alloc_Alloc_head : XC XN :=
(.seq none
 (.reg [⟨none, some 4, [(.const (.int .u64 0))], ⟨.f fMove, rMove⟩⟩])
 (.seq none
 (.reg [⟨none, some 5, [(.tmp 1)], ⟨.f fMove, rMove⟩⟩,
  ⟨none, some 6, [(.tmp 0)], ⟨.f fMove, rMove⟩⟩,
  ⟨none, some 7, [(.tmp 6)], ⟨.f fNil, rNil⟩⟩,
  ⟨none, some 8, [(.tmp 7)], ⟨.f (fFld 0), rFld 0⟩⟩,
  ⟨none, some 9, [(.tmp 8)], ⟨.load 1 false, rLoad1⟩⟩,
  ⟨none, some 10, [(.tmp 0)], ⟨.f fMove, rMove⟩⟩,
  ⟨none, some 11, [(.tmp 10)], ⟨.f fNil, rNil⟩⟩,
  ⟨none, some 12, [(.tmp 11)], ⟨.f (fFld 8), rFld 8⟩⟩,
  ⟨none, some 13, [(.tmp 12)], ⟨.load 1 false, rLoad1⟩⟩,
  ⟨none, some 14, [(.tmp 0)], ⟨.f fMove, rMove⟩⟩,
  ⟨none, some 15, [(.tmp 14)], ⟨.f fNil, rNil⟩⟩,
  ⟨none, some 16, [(.tmp 15)], ⟨.f (fFld 9), rFld 9⟩⟩,
  ⟨none, some 17, [(.tmp 16)], ⟨.load 1 false, rLoad1⟩⟩,
  ⟨none, some 18, [(.tmp 0)], ⟨.f fMove, rMove⟩⟩,
  ⟨none, some 19, [(.tmp 18)], ⟨.f fNil, rNil⟩⟩,
  ⟨none, some 20, [(.tmp 19)], ⟨.f (fFld 1), rFld 1⟩⟩,
  ⟨none, some 21, [(.tmp 20)], ⟨.load 1 false, rLoad1⟩⟩,
  ⟨none, some 22, [(.tmp 5), (.tmp 9), (.tmp 13), (.tmp 17), (.tmp 21)], ⟨.f (fBuild [(0, 1), (1, 1), (2, 1), (3, 1), (4, 1)] [(.int .i64 0), (.int .i64 0), (.int .i64 0), (.int .i64 0), (.bool false)] [0, 1, 2, 3, 4]), rAny xl_alloc_Alloc_head (.f (fBuild [(0, 1), (1, 1), (2, 1), (3, 1), (4, 1)] [(.int .i64 0), (.int .i64 0), (.int .i64 0), (.int .i64 0), (.bool false)] [0, 1, 2, 3, 4]))⟩⟩,
  ⟨none, some 23, [(.tmp 22)], ⟨.call .none s_word_PutHead v_word_PutHead, rCall v_word_PutHead⟩⟩,
  ⟨none, some 4, [(.tmp 23)], ⟨.f fMove, rMove⟩⟩])
 .ret))
noncomputable def v_alloc_Alloc_head : EvF := evFn 2 xc_alloc_Alloc_head [.t 4]
theorem xt_alloc_Alloc_head : toC cx_alloc_Alloc_head (bodyOf Try.f70) = some (xc_alloc_Alloc_head.map XN.sm) := by kernel_rfl
theorem xr_alloc_Alloc_head : toR cx_alloc_Alloc_head Try.f70.results.toList = some [.t 4] := by kernel_rfl
theorem xo_alloc_Alloc_head : xc_alloc_Alloc_head.ok xl_alloc_Alloc_head := ⟨⟨rMove_ok, trivial⟩, ⟨⟨rMove_ok, rMove_ok, rNil_ok, rFld_ok _, rLoad1_ok, rMove_ok, rNil_ok, rFld_ok _, rLoad1_ok, rMove_ok, rNil_ok, rFld_ok _, rLoad1_ok, rMove_ok, rNil_ok, rFld_ok _, rLoad1_ok, rAny_ok (eqv_build _ rfl _), rCall_ok ve_word_PutHead, rMove_ok, trivial⟩, trivial⟩⟩
theorem ve_alloc_Alloc_head : EvOk s_alloc_Alloc_head v_alloc_Alloc_head := EvOk.of (evFn_sound (C := cx_alloc_Alloc_head) xt_alloc_Alloc_head xr_alloc_Alloc_head xo_alloc_Alloc_head) q_alloc_Alloc_head
attribute [irreducible] w_alloc_Alloc_head s_alloc_Alloc_head
def w_layout_Env_Store (a0 a1 a2 : Value) (K : Value → Mem → Prop) (σ : Mem) : Prop :=
xC (gBox 9 [a0] []) fun c3 =>
xF (fFld 7) [(locP 3)] fun v6 =>
xO (gLoad 1 false [v6] c3) fun v7 =>
xF (fFld 8) [(locP 3)] fun v8 =>
xO (gLoad 1 false [v8] c3) fun v9 =>
s_mem_Mem_By [v7, v9] (fun v10 σ =>
xF (fFld 7) [(locP 3)] fun v11 =>
xO (gLoad 1 false [v11] c3) fun v12 =>
xF fMove [a1] fun v13 =>
xF fMove [a2] fun v14 =>
s_mem_Mem_Store [v12, v13, v14] (fun v15 σ =>
K (.tuple #[]) σ) σ) σ
def s_layout_Env_Store : Spec := fun args K σ => match args with
  | [a0, a1, a2] => w_layout_Env_Store a0 a1 a2 K σ
  | _ => False
noncomputable def cx_layout_Env_Store : Cx := { P := Try.prog, T := [(73, .write, s_mem_Mem_By), (21, .write, s_mem_Mem_Store)], loc := [(3, 3), (6, 3), (8, 3), (11, 3)], eqt := [], n := 16, keep := [] }
theorem q_layout_Env_Store : FnS cx_layout_Env_Store Try.f69 (bodyOf Try.f69) 3 = s_layout_Env_Store := by
  funext args K σ
  rcases args with _ | ⟨a0, _ | ⟨a1, _ | ⟨a2, _ | ⟨b, r⟩⟩⟩⟩ <;> kernel_rfl
theorem e_layout_Env_Store : Entry Try.prog 69 .write s_layout_Env_Store :=
  entry (C := cx_layout_Env_Store) (TOk.cons e_mem_Mem_By (TOk.cons e_mem_Mem_Store TOk.nil)) mixedOk Try.func69 (by kernel_rfl) (by kernel_rfl) (by kernel_rfl) q_layout_Env_Store
def xl_layout_Env_Store : List (Nat × Nat) := [(3, 3), (6, 3), (8, 3), (11, 3)]
noncomputable def xc_layout_Env_Store : XC XN :=
(.seq none
 (.reg [⟨none, some 3, [(.tmp 0)], ⟨.lb 3 9, rAny xl_layout_Env_Store (.lb 3 9)⟩⟩])
 (.seq none
 (.reg [⟨none, some 6, [(.tmp 3)], ⟨.f (fFld 7), rFld 7⟩⟩,
  ⟨none, some 7, [(.tmp 6)], ⟨.lr 3 1 false, rLr1 3⟩⟩,
  ⟨none, some 8, [(.tmp 3)], ⟨.f (fFld 8), rFld 8⟩⟩,
  ⟨none, some 9, [(.tmp 8)], ⟨.lr 3 1 false, rLr1 3⟩⟩,
  ⟨none, some 10, [(.tmp 7), (.tmp 9)], ⟨.call .write s_mem_Mem_By v_mem_Mem_By, rCall v_mem_Mem_By⟩⟩])
 (.reg [⟨none, some 11, [(.tmp 3)], ⟨.f (fFld 7), rFld 7⟩⟩,
  ⟨none, some 12, [(.tmp 11)], ⟨.lr 3 1 false, rLr1 3⟩⟩,
  ⟨none, some 13, [(.tmp 1)], ⟨.f fMove, rMove⟩⟩,
  ⟨none, some 14, [(.tmp 2)], ⟨.f fMove, rMove⟩⟩,
  ⟨none, some 15, [(.tmp 12), (.tmp 13), (.tmp 14)], ⟨.call .write s_mem_Mem_Store v_mem_Mem_Store, rCall v_mem_Mem_Store⟩⟩])))
noncomputable def v_layout_Env_Store : EvF := evFn 3 xc_layout_Env_Store []
theorem xt_layout_Env_Store : toC cx_layout_Env_Store (bodyOf Try.f69) = some (xc_layout_Env_Store.map XN.sm) := by kernel_rfl
theorem xr_layout_Env_Store : toR cx_layout_Env_Store Try.f69.results.toList = some [] := by kernel_rfl
theorem xo_layout_Env_Store : xc_layout_Env_Store.ok xl_layout_Env_Store := ⟨⟨rAny_ok (trivial), trivial⟩, ⟨⟨rFld_ok _, rLr1_ok _, rFld_ok _, rLr1_ok _, rCall_ok ve_mem_Mem_By, trivial⟩, ⟨rFld_ok _, rLr1_ok _, rMove_ok, rMove_ok, rCall_ok ve_mem_Mem_Store, trivial⟩⟩⟩
theorem ve_layout_Env_Store : EvOk s_layout_Env_Store v_layout_Env_Store := EvOk.of (evFn_sound (C := cx_layout_Env_Store) xt_layout_Env_Store xr_layout_Env_Store xo_layout_Env_Store) q_layout_Env_Store
attribute [irreducible] w_layout_Env_Store s_layout_Env_Store
def w_word_PutHandle (a0 : Value) (K : Value → Mem → Prop) (σ : Mem) : Prop :=
xC (gBox 2 [a0] []) fun c1 =>
xF fMove [(.int .u64 0)] fun v2 =>
xF (fFld 0) [(locP 1)] fun v3 =>
xO (gLoad 1 false [v3] c1) fun v4 =>
s_word_fit [v4, (.int .i64 65535)] (fun v5 σ =>
xF (fFld 1) [(locP 1)] fun v6 =>
xO (gLoad 1 false [v6] c1) fun v7 =>
s_word_fit [v7, (.int .i64 65535)] (fun v8 σ =>
xF (fBin .shl .no) [v8, (.int .u64 16)] fun v9 =>
xF (fBin .or .no) [v5, v9] fun v10 =>
xF fMove [v10] fun v2 =>
K v2 σ) σ) σ
def s_word_PutHandle : Spec := fun args K σ => match args with
  | [a0] => w_word_PutHandle a0 K σ
  | _ => False
noncomputable def cx_word_PutHandle : Cx := { P := Try.prog, T := [(48, .none, s_word_fit)], loc := [(1, 1), (3, 1), (6, 1)], eqt := [], n := 11, keep := [] }
theorem q_word_PutHandle : FnS cx_word_PutHandle Try.f71 (bodyOf Try.f71) 1 = s_word_PutHandle := by
  funext args K σ
  rcases args with _ | ⟨a0, _ | ⟨b, r⟩⟩ <;> kernel_rfl
theorem e_word_PutHandle : Entry Try.prog 71 .none s_word_PutHandle :=
  entry (C := cx_word_PutHandle) (TOk.cons e_word_fit TOk.nil) mixedOk Try.func71 (by kernel_rfl) (by kernel_rfl) (by kernel_rfl) q_word_PutHandle
def xl_word_PutHandle : List (Nat × Nat) := [(1, 1), (3, 1), (6, 1)]
noncomputable def xc_word_PutHandle : XC XN :=
(.seq none
 (.reg [⟨none, some 1, [(.tmp 0)], ⟨.lb 1 2, rAny xl_word_PutHandle (.lb 1 2)⟩⟩,
  ⟨none, some 2, [(.const (.int .u64 0))], ⟨.f fMove, rMove⟩⟩])
 (.seq none
 (.reg [⟨none, some 3, [(.tmp 1)], ⟨.f (fFld 0), rFld 0⟩⟩,
  ⟨none, some 4, [(.tmp 3)], ⟨.lr 1 1 false, rLr1 1⟩⟩,
  ⟨none, some 5, [(.tmp 4), (.const (.int .i64 65535))], ⟨.call .none s_word_fit v_word_fit, rCall v_word_fit⟩⟩,
  ⟨none, some 6, [(.tmp 1)], ⟨.f (fFld 1), rFld 1⟩⟩,
  ⟨none, some 7, [(.tmp 6)], ⟨.lr 1 1 false, rLr1 1⟩⟩,
  ⟨none, some 8, [(.tmp 7), (.const (.int .i64 65535))], ⟨.call .none s_word_fit v_word_fit, rCall v_word_fit⟩⟩,
  ⟨none, some 9, [(.tmp 8), (.const (.int .u64 16))], ⟨.f (fBin .shl .no), rAny xl_word_PutHandle (.f (fBin .shl .no))⟩⟩,
  ⟨none, some 10, [(.tmp 5), (.tmp 9)], ⟨.f (fBin .or .no), rAny xl_word_PutHandle (.f (fBin .or .no))⟩⟩,
  ⟨none, some 2, [(.tmp 10)], ⟨.f fMove, rMove⟩⟩])
 .ret))
noncomputable def v_word_PutHandle : EvF := evFn 1 xc_word_PutHandle [.t 2]
theorem xt_word_PutHandle : toC cx_word_PutHandle (bodyOf Try.f71) = some (xc_word_PutHandle.map XN.sm) := by kernel_rfl
theorem xr_word_PutHandle : toR cx_word_PutHandle Try.f71.results.toList = some [.t 2] := by kernel_rfl
theorem xo_word_PutHandle : xc_word_PutHandle.ok xl_word_PutHandle := ⟨⟨rAny_ok (trivial), rMove_ok, trivial⟩, ⟨⟨rFld_ok _, rLr1_ok _, rCall_ok ve_word_fit, rFld_ok _, rLr1_ok _, rCall_ok ve_word_fit, rAny_ok (eqv_bin _ _), rAny_ok (eqv_bin _ _), rMove_ok, trivial⟩, trivial⟩⟩
theorem ve_word_PutHandle : EvOk s_word_PutHandle v_word_PutHandle := EvOk.of (evFn_sound (C := cx_word_PutHandle) xt_word_PutHandle xr_word_PutHandle xo_word_PutHandle) q_word_PutHandle
attribute [irreducible] w_word_PutHandle s_word_PutHandle
def w_slot_Give_Step_j1b (K : Value → Mem → Prop) (σ : Mem) : Prop :=
xF fMove [(.bool false)] fun v4 =>
K v4 σ
def w_slot_Give_Step_j1 (K : Value → Mem → Prop) (ts : List Value) (ls : List (List Value)) (σ : Mem) : Prop := w_slot_Give_Step_j1b K σ
def w_slot_Give_Step (a0 a1 : Value) (K : Value → Mem → Prop) (σ : Mem) : Prop :=
xC (gBox 9 [a1] []) fun c3 =>
xF fMove [(.bool false)] fun v4 =>
xF fMove [a0] fun v8 =>
xF fNil [v8] fun v9 =>
xF (fFld 2) [v9] fun v10 =>
hLoad 1 false [v10] (fun v11 σ =>
s_word_Top [v11] (fun v12 σ =>
xF fMove [v12] fun v7 =>
xF (fExt 0) [v7] fun v13 =>
xF (fExt 1) [v7] fun v14 =>
xF fMove [v13] fun v5 =>
xF fMove [v14] fun v6 =>
xJoin (w_slot_Give_Step_j1 K) fun J1 =>
xF fMove [a0] fun v15 =>
xF fNil [v15] fun v16 =>
xF (fFld 0) [v16] fun v17 =>
hLoad 1 false [v17] (fun v18 σ =>
xF (fBin .eql .no) [v18, (.int .i64 0)] fun v37 =>
xF fMove [v37] fun v36 =>
xIf v36
 (xF fMove [a0] fun v38 =>
xF fMove [a0] fun v39 =>
xO (gLoad 9 true [(locP 3)] c3) fun v40 =>
s_layout_Top [] (fun v41 σ =>
s_layout_Env_Load [v40, v41] (fun v42 σ =>
xF fNil [v38] fun v43 =>
xF (fFld 2) [v43] fun v44 =>
hStore 1 [v44, v42] (fun _v σ =>
xF fNil [v39] fun v45 =>
xF (fFld 0) [v45] fun v46 =>
hStore 1 [v46, (.int .i64 1)] (fun _v σ =>
J1 [] [] σ) σ) σ) σ) σ)
 (xF (fBin .eql .no) [v18, (.int .i64 1)] fun v48 =>
xF fMove [v48] fun v47 =>
xIf v47
 (xO (gLoad 9 true [(locP 3)] c3) fun v49 =>
xF (fFld 0) [(locP 3)] fun v50 =>
xO (gLoad 7 true [v50] c3) fun v51 =>
xF fMove [a0] fun v52 =>
xF fNil [v52] fun v53 =>
xF (fFld 1) [v53] fun v54 =>
hLoad 1 false [v54] (fun v55 σ =>
s_layout_Slot [v51, v55] (fun v56 σ =>
xF (fBin .add .no) [v56, (.int .i64 1)] fun v57 =>
xF fMove [v5] fun v58 =>
s_word_PutTop [v58, (.int .i64 0)] (fun v59 σ =>
s_layout_Env_Store [v49, v57, v59] (fun v60 σ =>
xF fMove [a0] fun v61 =>
xF fNil [v61] fun v62 =>
xF (fFld 0) [v62] fun v63 =>
hStore 1 [v63, (.int .i64 2)] (fun _v σ =>
J1 [] [] σ) σ) σ) σ) σ) σ)
 (xF fMove [a0] fun v19 =>
xF fNil [v19] fun v20 =>
xF (fFld 0) [v20] fun v21 =>
hStore 1 [v21, (.int .i64 0)] (fun _v σ =>
xO (gLoad 9 true [(locP 3)] c3) fun v22 =>
s_layout_Top [] (fun v23 σ =>
xF fMove [a0] fun v24 =>
xF fNil [v24] fun v25 =>
xF (fFld 2) [v25] fun v26 =>
hLoad 1 false [v26] (fun v27 σ =>
xF fMove [a0] fun v28 =>
xF fNil [v28] fun v29 =>
xF (fFld 1) [v29] fun v30 =>
hLoad 1 false [v30] (fun v31 σ =>
xF fMove [v6] fun v32 =>
xF (fBin .add .no) [v32, (.int .i64 1)] fun v33 =>
s_word_PutTop [v31, v33] (fun v34 σ =>
s_layout_Env_Cas [v22, v23, v27, v34] (fun v35 σ =>
xF fMove [v35] fun v4 =>
K v4 σ) σ) σ) σ) σ) σ) σ))) σ) σ) σ
def s_slot_Give_Step : Spec := fun args K σ => match args with
  | [a0, a1] => w_slot_Give_Step a0 a1 K σ
  | _ => False
noncomputable def cx_slot_Give_Step : Cx := { P := Try.prog, T := [(82, .none, s_word_Top), (57, .none, s_layout_Top), (37, .write, s_layout_Env_Load), (18, .none, s_layout_Slot), (56, .none, s_word_PutTop), (69, .write, s_layout_Env_Store), (43, .write, s_layout_Env_Cas)], loc := [(3, 3), (50, 3)], eqt := [], n := 64, keep := [(1000011, [], [])] }
theorem q_slot_Give_Step : FnS cx_slot_Give_Step Try.f72 (bodyOf Try.f72) 2 = s_slot_Give_Step := by
  funext args K σ
  rcases args with _ | ⟨a0, _ | ⟨a1, _ | ⟨b, r⟩⟩⟩ <;> kernel_rfl
theorem e_slot_Give_Step : Entry Try.prog 72 .write s_slot_Give_Step :=
  entry (C := cx_slot_Give_Step) (TOk.cons e_word_Top (TOk.cons e_layout_Top (TOk.cons e_layout_Env_Load (TOk.cons e_layout_Slot (TOk.cons e_word_PutTop (TOk.cons e_layout_Env_Store (TOk.cons e_layout_Env_Cas TOk.nil))))))) mixedOk Try.func72 (by kernel_rfl) (by kernel_rfl) (by kernel_rfl) q_slot_Give_Step
def xl_slot_Give_Step : List (Nat × Nat) := [(3, 3), (50, 3)]
noncomputable def xc_slot_Give_Step : XC XN :=
(.seq none
 (.reg [⟨none, some 3, [(.tmp 1)], ⟨.lb 3 9, rAny xl_slot_Give_Step (.lb 3 9)⟩⟩,
  ⟨none, some 4, [(.const (.bool false))], ⟨.f fMove, rMove⟩⟩])
 (.seq none
 (.reg [⟨none, some 8, [(.tmp 0)], ⟨.f fMove, rMove⟩⟩,
  ⟨none, some 9, [(.tmp 8)], ⟨.f fNil, rNil⟩⟩,
  ⟨none, some 10, [(.tmp 9)], ⟨.f (fFld 2), rFld 2⟩⟩,
  ⟨none, some 11, [(.tmp 10)], ⟨.load 1 false, rLoad1⟩⟩,
  ⟨none, some 12, [(.tmp 11)], ⟨.call .none s_word_Top v_word_Top, rCall v_word_Top⟩⟩,
  ⟨none, some 7, [(.tmp 12)], ⟨.f fMove, rMove⟩⟩,
  ⟨none, some 13, [(.tmp 7)], ⟨.f (fExt 0), rAny xl_slot_Give_Step (.f (fExt 0))⟩⟩,
  ⟨none, some 14, [(.tmp 7)], ⟨.f (fExt 1), rAny xl_slot_Give_Step (.f (fExt 1))⟩⟩,
  ⟨none, some 5, [(.tmp 13)], ⟨.f fMove, rMove⟩⟩,
  ⟨none, some 6, [(.tmp 14)], ⟨.f fMove, rMove⟩⟩])
 (.seq (some ([], []))
 (.seq none
 (.reg [⟨none, some 15, [(.tmp 0)], ⟨.f fMove, rMove⟩⟩,
  ⟨none, some 16, [(.tmp 15)], ⟨.f fNil, rNil⟩⟩,
  ⟨none, some 17, [(.tmp 16)], ⟨.f (fFld 0), rFld 0⟩⟩,
  ⟨none, some 18, [(.tmp 17)], ⟨.load 1 false, rLoad1⟩⟩])
 (.block 0
 (.seq none
 (.reg [⟨none, some 37, [(.tmp 18), (.const (.int .i64 0))], ⟨.f (fBin .eql .no), rEql⟩⟩,
  ⟨none, some 36, [(.tmp 37)], ⟨.f fMove, rMove⟩⟩])
 (.cond (.tmp 36)
 (.reg [⟨none, some 38, [(.tmp 0)], ⟨.f fMove, rMove⟩⟩,
  ⟨none, some 39, [(.tmp 0)], ⟨.f fMove, rMove⟩⟩,
  ⟨none, some 40, [(.tmp 3)], ⟨.lr 3 9 true, rAny xl_slot_Give_Step (.lr 3 9 true)⟩⟩,
  ⟨none, some 41, [], ⟨.call .none s_layout_Top v_layout_Top, rCall v_layout_Top⟩⟩,
  ⟨none, some 42, [(.tmp 40), (.tmp 41)], ⟨.call .write s_layout_Env_Load v_layout_Env_Load, rCall v_layout_Env_Load⟩⟩,
  ⟨none, some 43, [(.tmp 38)], ⟨.f fNil, rNil⟩⟩,
  ⟨none, some 44, [(.tmp 43)], ⟨.f (fFld 2), rFld 2⟩⟩,
  ⟨none, none, [(.tmp 44), (.tmp 42)], ⟨.store 1, rStore1⟩⟩,
  ⟨none, some 45, [(.tmp 39)], ⟨.f fNil, rNil⟩⟩,
  ⟨none, some 46, [(.tmp 45)], ⟨.f (fFld 0), rFld 0⟩⟩,
  ⟨none, none, [(.tmp 46), (.const (.int .i64 1))], ⟨.store 1, rStore1⟩⟩])
 (.seq none
 (.reg [⟨none, some 48, [(.tmp 18), (.const (.int .i64 1))], ⟨.f (fBin .eql .no), rEql⟩⟩,
  ⟨none, some 47, [(.tmp 48)], ⟨.f fMove, rMove⟩⟩])
 (.cond (.tmp 47)
 (.seq none
 (.reg [⟨none, some 49, [(.tmp 3)], ⟨.lr 3 9 true, rAny xl_slot_Give_Step (.lr 3 9 true)⟩⟩,
  ⟨none, some 50, [(.tmp 3)], ⟨.f (fFld 0), rFld 0⟩⟩,
  ⟨none, some 51, [(.tmp 50)], ⟨.lr 3 7 true, rAny xl_slot_Give_Step (.lr 3 7 true)⟩⟩,
  ⟨none, some 52, [(.tmp 0)], ⟨.f fMove, rMove⟩⟩,
  ⟨none, some 53, [(.tmp 52)], ⟨.f fNil, rNil⟩⟩,
  ⟨none, some 54, [(.tmp 53)], ⟨.f (fFld 1), rFld 1⟩⟩,
  ⟨none, some 55, [(.tmp 54)], ⟨.load 1 false, rLoad1⟩⟩,
  ⟨none, some 56, [(.tmp 51), (.tmp 55)], ⟨.call .none s_layout_Slot v_layout_Slot, rCall v_layout_Slot⟩⟩,
  ⟨none, some 57, [(.tmp 56), (.const (.int .i64 1))], ⟨.f (fBin .add .no), rAdd⟩⟩,
  ⟨none, some 58, [(.tmp 5)], ⟨.f fMove, rMove⟩⟩,
  ⟨none, some 59, [(.tmp 58), (.const (.int .i64 0))], ⟨.call .none s_word_PutTop v_word_PutTop, rCall v_word_PutTop⟩⟩,
  ⟨none, some 60, [(.tmp 49), (.tmp 57), (.tmp 59)], ⟨.call .write s_layout_Env_Store v_layout_Env_Store, rCall v_layout_Env_Store⟩⟩])
 (.reg [⟨none, some 61, [(.tmp 0)], ⟨.f fMove, rMove⟩⟩,
  ⟨none, some 62, [(.tmp 61)], ⟨.f fNil, rNil⟩⟩,
  ⟨none, some 63, [(.tmp 62)], ⟨.f (fFld 0), rFld 0⟩⟩,
  ⟨none, none, [(.tmp 63), (.const (.int .i64 2))], ⟨.store 1, rStore1⟩⟩]))
 (.seq none
 (.reg [⟨none, some 19, [(.tmp 0)], ⟨.f fMove, rMove⟩⟩,
  ⟨none, some 20, [(.tmp 19)], ⟨.f fNil, rNil⟩⟩,
  ⟨none, some 21, [(.tmp 20)], ⟨.f (fFld 0), rFld 0⟩⟩,
  ⟨none, none, [(.tmp 21), (.const (.int .i64 0))], ⟨.store 1, rStore1⟩⟩])
 (.seq none
 (.reg [⟨none, some 22, [(.tmp 3)], ⟨.lr 3 9 true, rAny xl_slot_Give_Step (.lr 3 9 true)⟩⟩,
  ⟨none, some 23, [], ⟨.call .none s_layout_Top v_layout_Top, rCall v_layout_Top⟩⟩,
  ⟨none, some 24, [(.tmp 0)], ⟨.f fMove, rMove⟩⟩,
  ⟨none, some 25, [(.tmp 24)], ⟨.f fNil, rNil⟩⟩,
  ⟨none, some 26, [(.tmp 25)], ⟨.f (fFld 2), rFld 2⟩⟩,
  ⟨none, some 27, [(.tmp 26)], ⟨.load 1 false, rLoad1⟩⟩,
  ⟨none, some 28, [(.tmp 0)], ⟨.f fMove, rMove⟩⟩,
  ⟨none, some 29, [(.tmp 28)], ⟨.f fNil, rNil⟩⟩,
  ⟨none, some 30, [(.tmp 29)], ⟨.f (fFld 1), rFld 1⟩⟩,
  ⟨none, some 31, [(.tmp 30)], ⟨.load 1 false, rLoad1⟩⟩,
  ⟨none, some 32, [(.tmp 6)], ⟨.f fMove, rMove⟩⟩,
  ⟨none, some 33, [(.tmp 32), (.const (.int .i64 1))], ⟨.f (fBin .add .no), rAdd⟩⟩,
  ⟨none, some 34, [(.tmp 31), (.tmp 33)], ⟨.call .none s_word_PutTop v_word_PutTop, rCall v_word_PutTop⟩⟩,
  ⟨none, some 35, [(.tmp 22), (.tmp 23), (.tmp 27), (.tmp 34)], ⟨.call .write s_layout_Env_Cas v_layout_Env_Cas, rCall v_layout_Env_Cas⟩⟩,
  ⟨none, some 4, [(.tmp 35)], ⟨.f fMove, rMove⟩⟩])
 .ret))))))))
 (.seq none
 (.reg [⟨none, some 4, [(.const (.bool false))], ⟨.f fMove, rMove⟩⟩])
 .ret))))
noncomputable def v_slot_Give_Step : EvF := evFn 2 xc_slot_Give_Step [.t 4]
theorem xt_slot_Give_Step : toC cx_slot_Give_Step (bodyOf Try.f72) = some (xc_slot_Give_Step.map XN.sm) := by kernel_rfl
theorem xr_slot_Give_Step : toR cx_slot_Give_Step Try.f72.results.toList = some [.t 4] := by kernel_rfl
theorem xo_slot_Give_Step : xc_slot_Give_Step.ok xl_slot_Give_Step := ⟨⟨rAny_ok (trivial), rMove_ok, trivial⟩, ⟨⟨rMove_ok, rNil_ok, rFld_ok _, rLoad1_ok, rCall_ok ve_word_Top, rMove_ok, rAny_ok (eqv_ext _), rAny_ok (eqv_ext _), rMove_ok, rMove_ok, trivial⟩, ⟨⟨⟨rMove_ok, rNil_ok, rFld_ok _, rLoad1_ok, trivial⟩, ⟨⟨rEql_ok, rMove_ok, trivial⟩, ⟨⟨rMove_ok, rMove_ok, rAny_ok (trivial), rCall_ok ve_layout_Top, rCall_ok ve_layout_Env_Load, rNil_ok, rFld_ok _, rStore1_ok, rNil_ok, rFld_ok _, rStore1_ok, trivial⟩, ⟨⟨rEql_ok, rMove_ok, trivial⟩, ⟨⟨⟨rAny_ok (trivial), rFld_ok _, rAny_ok (trivial), rMove_ok, rNil_ok, rFld_ok _, rLoad1_ok, rCall_ok ve_layout_Slot, rAdd_ok, rMove_ok, rCall_ok ve_word_PutTop, rCall_ok ve_layout_Env_Store, trivial⟩, ⟨rMove_ok, rNil_ok, rFld_ok _, rStore1_ok, trivial⟩⟩, ⟨⟨rMove_ok, rNil_ok, rFld_ok _, rStore1_ok, trivial⟩, ⟨⟨rAny_ok (trivial), rCall_ok ve_layout_Top, rMove_ok, rNil_ok, rFld_ok _, rLoad1_ok, rMove_ok, rNil_ok, rFld_ok _, rLoad1_ok, rMove_ok, rAdd_ok, rCall_ok ve_word_PutTop, rCall_ok ve_layout_Env_Cas, rMove_ok, trivial⟩, trivial⟩⟩⟩⟩⟩⟩⟩, ⟨⟨rMove_ok, trivial⟩, trivial⟩⟩⟩⟩
theorem ve_slot_Give_Step : EvOk s_slot_Give_Step v_slot_Give_Step := EvOk.of (evFn_sound (C := cx_slot_Give_Step) xt_slot_Give_Step xr_slot_Give_Step xo_slot_Give_Step) q_slot_Give_Step
attribute [irreducible] w_slot_Give_Step_j1b w_slot_Give_Step_j1 w_slot_Give_Step s_slot_Give_Step
def w_alloc_Alloc_Step_j1b (K : Value → Mem → Prop) (σ : Mem) : Prop :=
xF fMove [(.bool false)] fun v4 =>
K v4 σ
def w_alloc_Alloc_Step_j1 (K : Value → Mem → Prop) (ts : List Value) (ls : List (List Value)) (σ : Mem) : Prop := w_alloc_Alloc_Step_j1b K σ
def w_alloc_Alloc_Step (a0 a1 : Value) (K : Value → Mem → Prop) (σ : Mem) : Prop :=
xC (gBox 9 [a1] []) fun c3 =>
xF fMove [(.bool false)] fun v4 =>
xJoin (w_alloc_Alloc_Step_j1 K) fun J1 =>
xF fMove [a0] fun v9 =>
xF fNil [v9] fun v10 =>
xF (fFld 2) [v10] fun v11 =>
hLoad 1 false [v11] (fun v12 σ =>
xF (fBin .eql .no) [v12, (.int .i64 0)] fun v20 =>
xF fMove [v20] fun v19 =>
xIf v19
 (xF fMove [a0] fun v21 =>
xF fNil [v21] fun v22 =>
xF (fFld 0) [v22] fun v23 =>
hLoad 1 false [v23] (fun v24 σ =>
s_layout_Class [v24] (fun v25 σ =>
xF (fBin .lss .no) [v25, (.int .i64 0)] fun v26 =>
xIf v26
 (xF fMove [a0] fun v27 =>
xO (gLoad 9 true [(locP 3)] c3) fun v28 =>
s_alloc_Alloc_end [v27, v28, (.int .i64 5)] (fun v29 σ =>
xF fMove [(.bool true)] fun v4 =>
K v4 σ) σ)
 (xF fMove [a0] fun v30 =>
xF fNil [v30] fun v31 =>
xF (fFld 3) [v31] fun v32 =>
xO (gLoad 9 true [(locP 3)] c3) fun v33 =>
s_slot_Take_Step [v32, v33] (fun v34 σ =>
xIf v34
 (xF fMove [a0] fun v36 =>
xF fNil [v36] fun v37 =>
xF (fFld 3) [v37] fun v38 =>
s_slot_Take_Slot [v38] (fun v39 σ =>
xF fMove [v39] fun v35 =>
xF (fExt 0) [v35] fun v40 =>
xF (fExt 1) [v35] fun v41 =>
xF fMove [v40] fun v5 =>
xF fMove [v41] fun v6 =>
xF fMove [a0] fun v42 =>
xF fMove [a0] fun v43 =>
xF fMove [v5] fun v44 =>
xF fNil [v42] fun v45 =>
xF (fFld 8) [v45] fun v46 =>
hStore 1 [v46, v44] (fun _v σ =>
xF fNil [v43] fun v47 =>
xF (fFld 2) [v47] fun v48 =>
hStore 1 [v48, (.int .i64 1)] (fun _v σ =>
xF fMove [v6] fun v49 =>
xF (fUn .not) [v49] fun v50 =>
xIf v50
 (xF fMove [a0] fun v51 =>
xO (gLoad 9 true [(locP 3)] c3) fun v52 =>
s_alloc_Alloc_end [v51, v52, (.int .i64 7)] (fun v53 σ =>
xF fMove [(.bool true)] fun v4 =>
K v4 σ) σ)
 (J1 [] [] σ)) σ) σ) σ)
 (J1 [] [] σ)) σ)) σ) σ)
 (xF (fBin .eql .no) [v12, (.int .i64 1)] fun v55 =>
xF fMove [v55] fun v54 =>
xIf v54
 (xF fMove [a0] fun v56 =>
xF fMove [a0] fun v57 =>
xO (gLoad 9 true [(locP 3)] c3) fun v58 =>
xF (fFld 0) [(locP 3)] fun v59 =>
xO (gLoad 7 true [v59] c3) fun v60 =>
xF fMove [a0] fun v61 =>
xF fNil [v61] fun v62 =>
xF (fFld 8) [v62] fun v63 =>
hLoad 1 false [v63] (fun v64 σ =>
s_layout_Slot [v60, v64] (fun v65 σ =>
s_layout_Env_Load [v58, v65] (fun v66 σ =>
s_word_Slot [v66] (fun v67 σ =>
xF (fFldV 2 1 false) [v67] fun v68 =>
xF fNil [v56] fun v69 =>
xF (fFld 9) [v69] fun v70 =>
hStore 1 [v70, v68] (fun _v σ =>
xF fNil [v57] fun v71 =>
xF (fFld 2) [v71] fun v72 =>
hStore 1 [v72, (.int .i64 2)] (fun _v σ =>
xF fMove [a0] fun v73 =>
xF fMove [a0] fun v74 =>
xF fNil [v74] fun v75 =>
xF (fFld 0) [v75] fun v76 =>
hLoad 1 false [v76] (fun v77 σ =>
s_layout_Class [v77] (fun v78 σ =>
s_place_New [v78] (fun v79 σ =>
xF fNil [v73] fun v80 =>
xF (fFld 10) [v80] fun v81 =>
hStore 1 [v81, v79] (fun _v σ =>
J1 [] [] σ) σ) σ) σ) σ) σ) σ) σ) σ) σ) σ)
 (xF (fBin .eql .no) [v12, (.int .i64 2)] fun v83 =>
xF fMove [v83] fun v82 =>
xIf v82
 (xF fMove [a0] fun v84 =>
xF fNil [v84] fun v85 =>
xF (fFld 10) [v85] fun v86 =>
hLoad 1 false [v86] (fun v87 σ =>
xO (gLoad 9 true [(locP 3)] c3) fun v88 =>
s_place_Place_Step [v87, v88] (fun v89 σ =>
xIf v89
 (xF fMove [a0] fun v91 =>
xF fNil [v91] fun v92 =>
xF (fFld 10) [v92] fun v93 =>
hLoad 1 false [v93] (fun v94 σ =>
s_place_Place_Spot [v94] (fun v95 σ =>
xF fMove [v95] fun v90 =>
xF (fExt 0) [v90] fun v96 =>
xF (fExt 1) [v90] fun v97 =>
xC (gStore 2 [(locP 7), v96] [(.int .i64 0), (.int .i64 0)]) fun c7 =>
xF fMove [v97] fun v8 =>
xF fMove [a0] fun v98 =>
xF fMove [a0] fun v99 =>
xO (gLoad 2 true [(locP 7)] c7) fun v100 =>
xF fNil [v98] fun v101 =>
xF (fFld 11) [v101] fun v102 =>
hStore 2 [v102, v100] (fun _v σ =>
xF fNil [v99] fun v103 =>
xF (fFld 2) [v103] fun v104 =>
hStore 1 [v104, (.int .i64 3)] (fun _v σ =>
xF fMove [v8] fun v105 =>
xF (fUn .not) [v105] fun v106 =>
xIf v106
 (xF fMove [a0] fun v107 =>
xO (gLoad 9 true [(locP 3)] c3) fun v108 =>
s_alloc_Alloc_end [v107, v108, (.int .i64 6)] (fun v109 σ =>
xF fMove [a0] fun v110 =>
xF fMove [a0] fun v111 =>
xF fMove [a0] fun v112 =>
xF fNil [v112] fun v113 =>
xF (fFld 8) [v113] fun v114 =>
hLoad 1 false [v114] (fun v115 σ =>
s_slot_NewGive [v115] (fun v116 σ =>
xF fNil [v110] fun v117 =>
xF (fFld 13) [v117] fun v118 =>
hStore 1 [v118, v116] (fun _v σ =>
xF fNil [v111] fun v119 =>
xF (fFld 2) [v119] fun v120 =>
hStore 1 [v120, (.int .i64 7)] (fun _v σ =>
J1 [] [] σ) σ) σ) σ) σ) σ)
 (J1 [] [] σ)) σ) σ) σ) σ)
 (J1 [] [] σ)) σ) σ)
 (xF (fBin .eql .no) [v12, (.int .i64 3)] fun v122 =>
xF fMove [v122] fun v121 =>
xIf v121
 (xO (gLoad 9 true [(locP 3)] c3) fun v123 =>
xF (fFld 0) [(locP 3)] fun v124 =>
xO (gLoad 7 true [v124] c3) fun v125 =>
xF fMove [a0] fun v126 =>
xF fNil [v126] fun v127 =>
xF (fFld 11) [v127] fun v128 =>
xF (fFld 1) [v128] fun v129 =>
hLoad 1 false [v129] (fun v130 σ =>
s_layout_Chunk [v125, v130] (fun v131 σ =>
xF (fBin .add .no) [v131, (.int .i64 1)] fun v132 =>
xF fMove [a0] fun v133 =>
xF fNil [v133] fun v134 =>
xF (fFld 0) [v134] fun v135 =>
hLoad 1 false [v135] (fun v136 σ =>
s_layout_Class [v136] (fun v137 σ =>
s_layout_Room [v137] (fun v138 σ =>
s_layout_Env_Add [v123, v132, v138] (fun v139 σ =>
xF fMove [a0] fun v140 =>
xF fNil [v140] fun v141 =>
xF (fFld 2) [v141] fun v142 =>
hStore 1 [v142, (.int .i64 4)] (fun _v σ =>
J1 [] [] σ) σ) σ) σ) σ) σ) σ) σ)
 (xF (fBin .eql .no) [v12, (.int .i64 4)] fun v144 =>
xF fMove [v144] fun v143 =>
xIf v143
 (xO (gLoad 9 true [(locP 3)] c3) fun v145 =>
xF fMove [a0] fun v146 =>
xF fNil [v146] fun v147 =>
xF (fFld 11) [v147] fun v148 =>
xF (fFld 0) [v148] fun v149 =>
hLoad 1 false [v149] (fun v150 σ =>
xF fMove [a0] fun v151 =>
s_alloc_Alloc_head [v151, (.int .i64 1)] (fun v152 σ =>
s_layout_Env_Store [v145, v150, v152] (fun v153 σ =>
xF fMove [a0] fun v154 =>
xF fNil [v154] fun v155 =>
xF (fFld 2) [v155] fun v156 =>
hStore 1 [v156, (.int .i64 5)] (fun _v σ =>
J1 [] [] σ) σ) σ) σ) σ)
 (xF (fBin .eql .no) [v12, (.int .i64 5)] fun v158 =>
xF fMove [v158] fun v157 =>
xIf v157
 (xO (gLoad 9 true [(locP 3)] c3) fun v159 =>
xF (fFld 0) [(locP 3)] fun v160 =>
xO (gLoad 7 true [v160] c3) fun v161 =>
xF fMove [a0] fun v162 =>
xF fNil [v162] fun v163 =>
xF (fFld 8) [v163] fun v164 =>
hLoad 1 false [v164] (fun v165 σ =>
s_layout_Slot [v161, v165] (fun v166 σ =>
xF fMove [a0] fun v167 =>
xF fNil [v167] fun v168 =>
xF (fFld 11) [v168] fun v169 =>
xF (fFld 0) [v169] fun v170 =>
hLoad 1 false [v170] (fun v171 σ =>
xF fMove [a0] fun v172 =>
xF fNil [v172] fun v173 =>
xF (fFld 9) [v173] fun v174 =>
hLoad 1 false [v174] (fun v175 σ =>
xF (fBuild [(0, 1), (1, 1), (2, 1), (3, 1)] [(.int .i64 0), (.int .i64 0), (.int .i64 0), (.int .i64 0)] [0, 1, 2]) [(.int .i64 1), v171, v175] fun v176 =>
s_word_PutSlot [v176] (fun v177 σ =>
s_layout_Env_Store [v159, v166, v177] (fun v178 σ =>
xF fMove [a0] fun v179 =>
xF fMove [a0] fun v180 =>
xF fNil [v180] fun v181 =>
xF (fFld 8) [v181] fun v182 =>
hLoad 1 false [v182] (fun v183 σ =>
xF fMove [a0] fun v184 =>
xF fNil [v184] fun v185 =>
xF (fFld 9) [v185] fun v186 =>
hLoad 1 false [v186] (fun v187 σ =>
xF (fBuild [(0, 1), (1, 1)] [(.int .i64 0), (.int .i64 0)] [0, 1]) [v183, v187] fun v188 =>
s_word_PutHandle [v188] (fun v189 σ =>
xO (gLoad 9 true [(locP 3)] c3) fun v190 =>
s_layout_Env_Now [v190] (fun v191 σ =>
xF (fBuild [(0, 1), (1, 1), (2, 1), (3, 1)] [(.int .i64 0), (.int .u64 0), (.int .i64 0), (.int .i64 0)] [1, 3]) [v189, v191] fun v192 =>
xF fNil [v179] fun v193 =>
xF (fFld 14) [v193] fun v194 =>
hStore 4 [v194, v192] (fun _v σ =>
xF fMove [a0] fun v195 =>
xF fNil [v195] fun v196 =>
xF (fFld 2) [v196] fun v197 =>
hStore 1 [v197, (.int .i64 6)] (fun _v σ =>
J1 [] [] σ) σ) σ) σ) σ) σ) σ) σ) σ) σ) σ) σ) σ)
 (xF (fBin .eql .no) [v12, (.int .i64 6)] fun v199 =>
xF fMove [v199] fun v198 =>
xIf v198
 (xO (gLoad 9 true [(locP 3)] c3) fun v200 =>
xF fMove [a0] fun v201 =>
xF fNil [v201] fun v202 =>
xF (fFld 11) [v202] fun v203 =>
xF (fFld 0) [v203] fun v204 =>
hLoad 1 false [v204] (fun v205 σ =>
xF fMove [a0] fun v206 =>
s_alloc_Alloc_head [v206, (.int .i64 2)] (fun v207 σ =>
s_layout_Env_Store [v200, v205, v207] (fun v208 σ =>
xF fMove [(.bool true)] fun v4 =>
K v4 σ) σ) σ) σ)
 (xF fMove [a0] fun v13 =>
xF fNil [v13] fun v14 =>
xF (fFld 13) [v14] fun v15 =>
hLoad 1 false [v15] (fun v16 σ =>
xO (gLoad 9 true [(locP 3)] c3) fun v17 =>
s_slot_Give_Step [v16, v17] (fun v18 σ =>
xF fMove [v18] fun v4 =>
K v4 σ) σ) σ)))))))) σ
def s_alloc_Alloc_Step : Spec := fun args K σ => match args with
  | [a0, a1] => w_alloc_Alloc_Step a0 a1 K σ
  | _ => False
noncomputable def cx_alloc_Alloc_Step : Cx := { P := Try.prog, T := [(58, .write, s_layout_Class), (59, .write, s_alloc_Alloc_end), (60, .write, s_slot_Take_Step), (61, .read, s_slot_Take_Slot), (18, .none, s_layout_Slot), (37, .write, s_layout_Env_Load), (19, .none, s_word_Slot), (62, .write, s_place_New), (63, .write, s_place_Place_Step), (64, .read, s_place_Place_Spot), (65, .write, s_slot_NewGive), (67, .none, s_layout_Chunk), (68, .none, s_layout_Room), (66, .write, s_layout_Env_Add), (70, .read, s_alloc_Alloc_head), (69, .write, s_layout_Env_Store), (22, .none, s_word_PutSlot), (71, .none, s_word_PutHandle), (26, .read, s_layout_Env_Now), (72, .write, s_slot_Give_Step)], loc := [(3, 3), (7, 7), (59, 3), (124, 3), (160, 3)], eqt := [], n := 209, keep := [(1000037, [], [])] }
theorem q_alloc_Alloc_Step : FnS cx_alloc_Alloc_Step Try.f33 (bodyOf Try.f33) 2 = s_alloc_Alloc_Step := by
  funext args K σ
  rcases args with _ | ⟨a0, _ | ⟨a1, _ | ⟨b, r⟩⟩⟩ <;> kernel_rfl
theorem e_alloc_Alloc_Step : Entry Try.prog 33 .write s_alloc_Alloc_Step :=
  entry (C := cx_alloc_Alloc_Step) (TOk.cons e_layout_Class (TOk.cons e_alloc_Alloc_end (TOk.cons e_slot_Take_Step (TOk.cons e_slot_Take_Slot (TOk.cons e_layout_Slot (TOk.cons e_layout_Env_Load (TOk.cons e_word_Slot (TOk.cons e_place_New (TOk.cons e_place_Place_Step (TOk.cons e_place_Place_Spot (TOk.cons e_slot_NewGive (TOk.cons e_layout_Chunk (TOk.cons e_layout_Room (TOk.cons e_layout_Env_Add (TOk.cons e_alloc_Alloc_head (TOk.cons e_layout_Env_Store (TOk.cons e_word_PutSlot (TOk.cons e_word_PutHandle (TOk.cons e_layout_Env_Now (TOk.cons e_slot_Give_Step TOk.nil)))))))))))))))))))) mixedOk Try.func33 (by kernel_rfl) (by kernel_rfl) (by kernel_rfl) q_alloc_Alloc_Step
def xl_alloc_Alloc_Step : List (Nat × Nat) := [(3, 3), (7, 7), (59, 3), (124, 3), (160, 3)]
noncomputable def xc_alloc_Alloc_Step : XC XN :=
(.seq none
 (.reg [⟨none, some 3, [(.tmp 1)], ⟨.lb 3 9, rAny xl_alloc_Alloc_Step (.lb 3 9)⟩⟩,
  ⟨none, some 4, [(.const (.bool false))], ⟨.f fMove, rMove⟩⟩])
 (.seq (some ([], []))
 (.seq none
 (.reg [⟨none, some 9, [(.tmp 0)], ⟨.f fMove, rMove⟩⟩,
  ⟨none, some 10, [(.tmp 9)], ⟨.f fNil, rNil⟩⟩,
  ⟨none, some 11, [(.tmp 10)], ⟨.f (fFld 2), rFld 2⟩⟩,
  ⟨none, some 12, [(.tmp 11)], ⟨.load 1 false, rLoad1⟩⟩])
 (.block 0
 (.seq none
 (.reg [⟨none, some 20, [(.tmp 12), (.const (.int .i64 0))], ⟨.f (fBin .eql .no), rEql⟩⟩,
  ⟨none, some 19, [(.tmp 20)], ⟨.f fMove, rMove⟩⟩])
 (.cond (.tmp 19)
 (.seq none
 (.seq none
 (.reg [⟨none, some 21, [(.tmp 0)], ⟨.f fMove, rMove⟩⟩,
  ⟨none, some 22, [(.tmp 21)], ⟨.f fNil, rNil⟩⟩,
  ⟨none, some 23, [(.tmp 22)], ⟨.f (fFld 0), rFld 0⟩⟩,
  ⟨none, some 24, [(.tmp 23)], ⟨.load 1 false, rLoad1⟩⟩,
  ⟨none, some 25, [(.tmp 24)], ⟨.call .write s_layout_Class v_layout_Class, rCall v_layout_Class⟩⟩,
  ⟨none, some 26, [(.tmp 25), (.const (.int .i64 0))], ⟨.f (fBin .lss .no), rLss⟩⟩])
 (.cond (.tmp 26)
 (.seq none
 (.reg [⟨none, some 27, [(.tmp 0)], ⟨.f fMove, rMove⟩⟩,
  ⟨none, some 28, [(.tmp 3)], ⟨.lr 3 9 true, rAny xl_alloc_Alloc_Step (.lr 3 9 true)⟩⟩,
  ⟨none, some 29, [(.tmp 27), (.tmp 28), (.const (.int .i64 5))], ⟨.call .write s_alloc_Alloc_end v_alloc_Alloc_end, rCall v_alloc_Alloc_end⟩⟩])
 (.seq none
 (.reg [⟨none, some 4, [(.const (.bool true))], ⟨.f fMove, rMove⟩⟩])
 .ret))
 .skip))
 (.seq none
 (.reg [⟨none, some 30, [(.tmp 0)], ⟨.f fMove, rMove⟩⟩,
  ⟨none, some 31, [(.tmp 30)], ⟨.f fNil, rNil⟩⟩,
  ⟨none, some 32, [(.tmp 31)], ⟨.f (fFld 3), rFld 3⟩⟩,
  ⟨none, some 33, [(.tmp 3)], ⟨.lr 3 9 true, rAny xl_alloc_Alloc_Step (.lr 3 9 true)⟩⟩,
  ⟨none, some 34, [(.tmp 32), (.tmp 33)], ⟨.call .write s_slot_Take_Step v_slot_Take_Step, rCall v_slot_Take_Step⟩⟩])
 (.cond (.tmp 34)
 (.seq none
 (.reg [⟨none, some 36, [(.tmp 0)], ⟨.f fMove, rMove⟩⟩,
  ⟨none, some 37, [(.tmp 36)], ⟨.f fNil, rNil⟩⟩,
  ⟨none, some 38, [(.tmp 37)], ⟨.f (fFld 3), rFld 3⟩⟩,
  ⟨none, some 39, [(.tmp 38)], ⟨.call .read s_slot_Take_Slot v_slot_Take_Slot, rCall v_slot_Take_Slot⟩⟩,
  ⟨none, some 35, [(.tmp 39)], ⟨.f fMove, rMove⟩⟩,
  ⟨none, some 40, [(.tmp 35)], ⟨.f (fExt 0), rAny xl_alloc_Alloc_Step (.f (fExt 0))⟩⟩,
  ⟨none, some 41, [(.tmp 35)], ⟨.f (fExt 1), rAny xl_alloc_Alloc_Step (.f (fExt 1))⟩⟩,
  ⟨none, some 5, [(.tmp 40)], ⟨.f fMove, rMove⟩⟩,
  ⟨none, some 6, [(.tmp 41)], ⟨.f fMove, rMove⟩⟩])
 (.seq none
 (.reg [⟨none, some 42, [(.tmp 0)], ⟨.f fMove, rMove⟩⟩,
  ⟨none, some 43, [(.tmp 0)], ⟨.f fMove, rMove⟩⟩,
  ⟨none, some 44, [(.tmp 5)], ⟨.f fMove, rMove⟩⟩,
  ⟨none, some 45, [(.tmp 42)], ⟨.f fNil, rNil⟩⟩,
  ⟨none, some 46, [(.tmp 45)], ⟨.f (fFld 8), rFld 8⟩⟩,
  ⟨none, none, [(.tmp 46), (.tmp 44)], ⟨.store 1, rStore1⟩⟩,
  ⟨none, some 47, [(.tmp 43)], ⟨.f fNil, rNil⟩⟩,
  ⟨none, some 48, [(.tmp 47)], ⟨.f (fFld 2), rFld 2⟩⟩,
  ⟨none, none, [(.tmp 48), (.const (.int .i64 1))], ⟨.store 1, rStore1⟩⟩])
 (.seq none
 (.reg [⟨none, some 49, [(.tmp 6)], ⟨.f fMove, rMove⟩⟩,
  ⟨none, some 50, [(.tmp 49)], ⟨.f (fUn .not), rNot⟩⟩])
 (.cond (.tmp 50)
 (.seq none
 (.reg [⟨none, some 51, [(.tmp 0)], ⟨.f fMove, rMove⟩⟩,
  ⟨none, some 52, [(.tmp 3)], ⟨.lr 3 9 true, rAny xl_alloc_Alloc_Step (.lr 3 9 true)⟩⟩,
  ⟨none, some 53, [(.tmp 51), (.tmp 52), (.const (.int .i64 7))], ⟨.call .write s_alloc_Alloc_end v_alloc_Alloc_end, rCall v_alloc_Alloc_end⟩⟩])
 (.seq none
 (.reg [⟨none, some 4, [(.const (.bool true))], ⟨.f fMove, rMove⟩⟩])
 .ret))
 .skip))))
 .skip)))
 (.seq none
 (.reg [⟨none, some 55, [(.tmp 12), (.const (.int .i64 1))], ⟨.f (fBin .eql .no), rEql⟩⟩,
  ⟨none, some 54, [(.tmp 55)], ⟨.f fMove, rMove⟩⟩])
 (.cond (.tmp 54)
 (.seq none
 (.reg [⟨none, some 56, [(.tmp 0)], ⟨.f fMove, rMove⟩⟩,
  ⟨none, some 57, [(.tmp 0)], ⟨.f fMove, rMove⟩⟩,
  ⟨none, some 58, [(.tmp 3)], ⟨.lr 3 9 true, rAny xl_alloc_Alloc_Step (.lr 3 9 true)⟩⟩,
  ⟨none, some 59, [(.tmp 3)], ⟨.f (fFld 0), rFld 0⟩⟩,
  ⟨none, some 60, [(.tmp 59)], ⟨.lr 3 7 true, rAny xl_alloc_Alloc_Step (.lr 3 7 true)⟩⟩,
  ⟨none, some 61, [(.tmp 0)], ⟨.f fMove, rMove⟩⟩,
  ⟨none, some 62, [(.tmp 61)], ⟨.f fNil, rNil⟩⟩,
  ⟨none, some 63, [(.tmp 62)], ⟨.f (fFld 8), rFld 8⟩⟩,
  ⟨none, some 64, [(.tmp 63)], ⟨.load 1 false, rLoad1⟩⟩,
  ⟨none, some 65, [(.tmp 60), (.tmp 64)], ⟨.call .none s_layout_Slot v_layout_Slot, rCall v_layout_Slot⟩⟩,
  ⟨none, some 66, [(.tmp 58), (.tmp 65)], ⟨.call .write s_layout_Env_Load v_layout_Env_Load, rCall v_layout_Env_Load⟩⟩,
  ⟨none, some 67, [(.tmp 66)], ⟨.call .none s_word_Slot v_word_Slot, rCall v_word_Slot⟩⟩,
  ⟨none, some 68, [(.tmp 67)], ⟨.f (fFldV 2 1 false), rAny xl_alloc_Alloc_Step (.f (fFldV 2 1 false))⟩⟩,
  ⟨none, some 69, [(.tmp 56)], ⟨.f fNil, rNil⟩⟩,
  ⟨none, some 70, [(.tmp 69)], ⟨.f (fFld 9), rFld 9⟩⟩,
  ⟨none, none, [(.tmp 70), (.tmp 68)], ⟨.store 1, rStore1⟩⟩,
  ⟨none, some 71, [(.tmp 57)], ⟨.f fNil, rNil⟩⟩,
  ⟨none, some 72, [(.tmp 71)], ⟨.f (fFld 2), rFld 2⟩⟩,
  ⟨none, none, [(.tmp 72), (.const (.int .i64 2))], ⟨.store 1, rStore1⟩⟩])
 (.reg [⟨none, some 73, [(.tmp 0)], ⟨.f fMove, rMove⟩⟩,
  ⟨none, some 74, [(.tmp 0)], ⟨.f fMove, rMove⟩⟩,
  ⟨none, some 75, [(.tmp 74)], ⟨.f fNil, rNil⟩⟩,
  ⟨none, some 76, [(.tmp 75)], ⟨.f (fFld 0), rFld 0⟩⟩,
  ⟨none, some 77, [(.tmp 76)], ⟨.load 1 false, rLoad1⟩⟩,
  ⟨none, some 78, [(.tmp 77)], ⟨.call .write s_layout_Class v_layout_Class, rCall v_layout_Class⟩⟩,
  ⟨none, some 79, [(.tmp 78)], ⟨.call .write s_place_New v_place_New, rCall v_place_New⟩⟩,
  ⟨none, some 80, [(.tmp 73)], ⟨.f fNil, rNil⟩⟩,
  ⟨none, some 81, [(.tmp 80)], ⟨.f (fFld 10), rFld 10⟩⟩,
  ⟨none, none, [(.tmp 81), (.tmp 79)], ⟨.store 1, rStore1⟩⟩]))
 (.seq none
 (.reg [⟨none, some 83, [(.tmp 12), (.const (.int .i64 2))], ⟨.f (fBin .eql .no), rEql⟩⟩,
  ⟨none, some 82, [(.tmp 83)], ⟨.f fMove, rMove⟩⟩])
 (.cond (.tmp 82)
 (.seq none
 (.reg [⟨none, some 84, [(.tmp 0)], ⟨.f fMove, rMove⟩⟩,
  ⟨none, some 85, [(.tmp 84)], ⟨.f fNil, rNil⟩⟩,
  ⟨none, some 86, [(.tmp 85)], ⟨.f (fFld 10), rFld 10⟩⟩,
  ⟨none, some 87, [(.tmp 86)], ⟨.load 1 false, rLoad1⟩⟩,
  ⟨none, some 88, [(.tmp 3)], ⟨.lr 3 9 true, rAny xl_alloc_Alloc_Step (.lr 3 9 true)⟩⟩,
  ⟨none, some 89, [(.tmp 87), (.tmp 88)], ⟨.call .write s_place_Place_Step v_place_Place_Step, rCall v_place_Place_Step⟩⟩])
 (.cond (.tmp 89)
 (.seq none
 (.reg [⟨none, some 91, [(.tmp 0)], ⟨.f fMove, rMove⟩⟩,
  ⟨none, some 92, [(.tmp 91)], ⟨.f fNil, rNil⟩⟩,
  ⟨none, some 93, [(.tmp 92)], ⟨.f (fFld 10), rFld 10⟩⟩,
  ⟨none, some 94, [(.tmp 93)], ⟨.load 1 false, rLoad1⟩⟩,
  ⟨none, some 95, [(.tmp 94)], ⟨.call .read s_place_Place_Spot v_place_Place_Spot, rCall v_place_Place_Spot⟩⟩,
  ⟨none, some 90, [(.tmp 95)], ⟨.f fMove, rMove⟩⟩,
  ⟨none, some 96, [(.tmp 90)], ⟨.f (fExt 0), rAny xl_alloc_Alloc_Step (.f (fExt 0))⟩⟩,
  ⟨none, some 97, [(.tmp 90)], ⟨.f (fExt 1), rAny xl_alloc_Alloc_Step (.f (fExt 1))⟩⟩,
  ⟨none, some 7, [], ⟨.la 7 [(.int .i64 0), (.int .i64 0)], rAny xl_alloc_Alloc_Step (.la 7 [(.int .i64 0), (.int .i64 0)])⟩⟩,
  ⟨none, none, [(.tmp 7), (.tmp 96)], ⟨.ls 7 2, rAny xl_alloc_Alloc_Step (.ls 7 2)⟩⟩,
  ⟨none, some 8, [(.tmp 97)], ⟨.f fMove, rMove⟩⟩])
 (.seq none
 (.reg [⟨none, some 98, [(.tmp 0)], ⟨.f fMove, rMove⟩⟩,
  ⟨none, some 99, [(.tmp 0)], ⟨.f fMove, rMove⟩⟩,
  ⟨none, some 100, [(.tmp 7)], ⟨.lr 7 2 true, rAny xl_alloc_Alloc_Step (.lr 7 2 true)⟩⟩,
  ⟨none, some 101, [(.tmp 98)], ⟨.f fNil, rNil⟩⟩,
  ⟨none, some 102, [(.tmp 101)], ⟨.f (fFld 11), rFld 11⟩⟩,
  ⟨none, none, [(.tmp 102), (.tmp 100)], ⟨.store 2, rAny xl_alloc_Alloc_Step (.store 2)⟩⟩,
  ⟨none, some 103, [(.tmp 99)], ⟨.f fNil, rNil⟩⟩,
  ⟨none, some 104, [(.tmp 103)], ⟨.f (fFld 2), rFld 2⟩⟩,
  ⟨none, none, [(.tmp 104), (.const (.int .i64 3))], ⟨.store 1, rStore1⟩⟩])
 (.seq none
 (.reg [⟨none, some 105, [(.tmp 8)], ⟨.f fMove, rMove⟩⟩,
  ⟨none, some 106, [(.tmp 105)], ⟨.f (fUn .not), rNot⟩⟩])
 (.cond (.tmp 106)
 (.seq none
 (.reg [⟨none, some 107, [(.tmp 0)], ⟨.f fMove, rMove⟩⟩,
  ⟨none, some 108, [(.tmp 3)], ⟨.lr 3 9 true, rAny xl_alloc_Alloc_Step (.lr 3 9 true)⟩⟩,
  ⟨none, some 109, [(.tmp 107), (.tmp 108), (.const (.int .i64 6))], ⟨.call .write s_alloc_Alloc_end v_alloc_Alloc_end, rCall v_alloc_Alloc_end⟩⟩])
 (.reg [⟨none, some 110, [(.tmp 0)], ⟨.f fMove, rMove⟩⟩,
  ⟨none, some 111, [(.tmp 0)], ⟨.f fMove, rMove⟩⟩,
  ⟨none, some 112, [(.tmp 0)], ⟨.f fMove, rMove⟩⟩,
  ⟨none, some 113, [(.tmp 112)], ⟨.f fNil, rNil⟩⟩,
  ⟨none, some 114, [(.tmp 113)], ⟨.f (fFld 8), rFld 8⟩⟩,
  ⟨none, some 115, [(.tmp 114)], ⟨.load 1 false, rLoad1⟩⟩,
  ⟨none, some 116, [(.tmp 115)], ⟨.call .write s_slot_NewGive v_slot_NewGive, rCall v_slot_NewGive⟩⟩,
  ⟨none, some 117, [(.tmp 110)], ⟨.f fNil, rNil⟩⟩,
  ⟨none, some 118, [(.tmp 117)], ⟨.f (fFld 13), rFld 13⟩⟩,
  ⟨none, none, [(.tmp 118), (.tmp 116)], ⟨.store 1, rStore1⟩⟩,
  ⟨none, some 119, [(.tmp 111)], ⟨.f fNil, rNil⟩⟩,
  ⟨none, some 120, [(.tmp 119)], ⟨.f (fFld 2), rFld 2⟩⟩,
  ⟨none, none, [(.tmp 120), (.const (.int .i64 7))], ⟨.store 1, rStore1⟩⟩]))
 .skip))))
 .skip))
 (.seq none
 (.reg [⟨none, some 122, [(.tmp 12), (.const (.int .i64 3))], ⟨.f (fBin .eql .no), rEql⟩⟩,
  ⟨none, some 121, [(.tmp 122)], ⟨.f fMove, rMove⟩⟩])
 (.cond (.tmp 121)
 (.seq none
 (.reg [⟨none, some 123, [(.tmp 3)], ⟨.lr 3 9 true, rAny xl_alloc_Alloc_Step (.lr 3 9 true)⟩⟩,
  ⟨none, some 124, [(.tmp 3)], ⟨.f (fFld 0), rFld 0⟩⟩,
  ⟨none, some 125, [(.tmp 124)], ⟨.lr 3 7 true, rAny xl_alloc_Alloc_Step (.lr 3 7 true)⟩⟩,
  ⟨none, some 126, [(.tmp 0)], ⟨.f fMove, rMove⟩⟩,
  ⟨none, some 127, [(.tmp 126)], ⟨.f fNil, rNil⟩⟩,
  ⟨none, some 128, [(.tmp 127)], ⟨.f (fFld 11), rFld 11⟩⟩,
  ⟨none, some 129, [(.tmp 128)], ⟨.f (fFld 1), rFld 1⟩⟩,
  ⟨none, some 130, [(.tmp 129)], ⟨.load 1 false, rLoad1⟩⟩,
  ⟨none, some 131, [(.tmp 125), (.tmp 130)], ⟨.call .none s_layout_Chunk v_layout_Chunk, rCall v_layout_Chunk⟩⟩,
  ⟨none, some 132, [(.tmp 131), (.const (.int .i64 1))], ⟨.f (fBin .add .no), rAdd⟩⟩,
  ⟨none, some 133, [(.tmp 0)], ⟨.f fMove, rMove⟩⟩,
  ⟨none, some 134, [(.tmp 133)], ⟨.f fNil, rNil⟩⟩,
  ⟨none, some 135, [(.tmp 134)], ⟨.f (fFld 0), rFld 0⟩⟩,
  ⟨none, some 136, [(.tmp 135)], ⟨.load 1 false, rLoad1⟩⟩,
  ⟨none, some 137, [(.tmp 136)], ⟨.call .write s_layout_Class v_layout_Class, rCall v_layout_Class⟩⟩,
  ⟨none, some 138, [(.tmp 137)], ⟨.call .none s_layout_Room v_layout_Room, rCall v_layout_Room⟩⟩,
  ⟨none, some 139, [(.tmp 123), (.tmp 132), (.tmp 138)], ⟨.call .write s_layout_Env_Add v_layout_Env_Add, rCall v_layout_Env_Add⟩⟩])
 (.reg [⟨none, some 140, [(.tmp 0)], ⟨.f fMove, rMove⟩⟩,
  ⟨none, some 141, [(.tmp 140)], ⟨.f fNil, rNil⟩⟩,
  ⟨none, some 142, [(.tmp 141)], ⟨.f (fFld 2), rFld 2⟩⟩,
  ⟨none, none, [(.tmp 142), (.const (.int .i64 4))], ⟨.store 1, rStore1⟩⟩]))
 (.seq none
 (.reg [⟨none, some 144, [(.tmp 12), (.const (.int .i64 4))], ⟨.f (fBin .eql .no), rEql⟩⟩,
  ⟨none, some 143, [(.tmp 144)], ⟨.f fMove, rMove⟩⟩])
 (.cond (.tmp 143)
 (.seq none
 (.reg [⟨none, some 145, [(.tmp 3)], ⟨.lr 3 9 true, rAny xl_alloc_Alloc_Step (.lr 3 9 true)⟩⟩,
  ⟨none, some 146, [(.tmp 0)], ⟨.f fMove, rMove⟩⟩,
  ⟨none, some 147, [(.tmp 146)], ⟨.f fNil, rNil⟩⟩,
  ⟨none, some 148, [(.tmp 147)], ⟨.f (fFld 11), rFld 11⟩⟩,
  ⟨none, some 149, [(.tmp 148)], ⟨.f (fFld 0), rFld 0⟩⟩,
  ⟨none, some 150, [(.tmp 149)], ⟨.load 1 false, rLoad1⟩⟩,
  ⟨none, some 151, [(.tmp 0)], ⟨.f fMove, rMove⟩⟩,
  ⟨none, some 152, [(.tmp 151), (.const (.int .i64 1))], ⟨.call .read s_alloc_Alloc_head v_alloc_Alloc_head, rCall v_alloc_Alloc_head⟩⟩,
  ⟨none, some 153, [(.tmp 145), (.tmp 150), (.tmp 152)], ⟨.call .write s_layout_Env_Store v_layout_Env_Store, rCall v_layout_Env_Store⟩⟩])
 (.reg [⟨none, some 154, [(.tmp 0)], ⟨.f fMove, rMove⟩⟩,
  ⟨none, some 155, [(.tmp 154)], ⟨.f fNil, rNil⟩⟩,
  ⟨none, some 156, [(.tmp 155)], ⟨.f (fFld 2), rFld 2⟩⟩,
  ⟨none, none, [(.tmp 156), (.const (.int .i64 5))], ⟨.store 1, rStore1⟩⟩]))
 (.seq none
 (.reg [⟨none, some 158, [(.tmp 12), (.const (.int .i64 5))], ⟨.f (fBin .eql .no), rEql⟩⟩,
  ⟨none, some 157, [(.tmp 158)], ⟨.f fMove, rMove⟩⟩])
 (.cond (.tmp 157)
 (.seq none
 (.reg [⟨none, some 159, [(.tmp 3)], ⟨.lr 3 9 true, rAny xl_alloc_Alloc_Step (.lr 3 9 true)⟩⟩,
  ⟨none, some 160, [(.tmp 3)], ⟨.f (fFld 0), rFld 0⟩⟩,
  ⟨none, some 161, [(.tmp 160)], ⟨.lr 3 7 true, rAny xl_alloc_Alloc_Step (.lr 3 7 true)⟩⟩,
  ⟨none, some 162, [(.tmp 0)], ⟨.f fMove, rMove⟩⟩,
  ⟨none, some 163, [(.tmp 162)], ⟨.f fNil, rNil⟩⟩,
  ⟨none, some 164, [(.tmp 163)], ⟨.f (fFld 8), rFld 8⟩⟩,
  ⟨none, some 165, [(.tmp 164)], ⟨.load 1 false, rLoad1⟩⟩,
  ⟨none, some 166, [(.tmp 161), (.tmp 165)], ⟨.call .none s_layout_Slot v_layout_Slot, rCall v_layout_Slot⟩⟩,
  ⟨none, some 167, [(.tmp 0)], ⟨.f fMove, rMove⟩⟩,
  ⟨none, some 168, [(.tmp 167)], ⟨.f fNil, rNil⟩⟩,
  ⟨none, some 169, [(.tmp 168)], ⟨.f (fFld 11), rFld 11⟩⟩,
  ⟨none, some 170, [(.tmp 169)], ⟨.f (fFld 0), rFld 0⟩⟩,
  ⟨none, some 171, [(.tmp 170)], ⟨.load 1 false, rLoad1⟩⟩,
  ⟨none, some 172, [(.tmp 0)], ⟨.f fMove, rMove⟩⟩,
  ⟨none, some 173, [(.tmp 172)], ⟨.f fNil, rNil⟩⟩,
  ⟨none, some 174, [(.tmp 173)], ⟨.f (fFld 9), rFld 9⟩⟩,
  ⟨none, some 175, [(.tmp 174)], ⟨.load 1 false, rLoad1⟩⟩,
  ⟨none, some 176, [(.const (.int .i64 1)), (.tmp 171), (.tmp 175)], ⟨.f (fBuild [(0, 1), (1, 1), (2, 1), (3, 1)] [(.int .i64 0), (.int .i64 0), (.int .i64 0), (.int .i64 0)] [0, 1, 2]), rAny xl_alloc_Alloc_Step (.f (fBuild [(0, 1), (1, 1), (2, 1), (3, 1)] [(.int .i64 0), (.int .i64 0), (.int .i64 0), (.int .i64 0)] [0, 1, 2]))⟩⟩,
  ⟨none, some 177, [(.tmp 176)], ⟨.call .none s_word_PutSlot v_word_PutSlot, rCall v_word_PutSlot⟩⟩,
  ⟨none, some 178, [(.tmp 159), (.tmp 166), (.tmp 177)], ⟨.call .write s_layout_Env_Store v_layout_Env_Store, rCall v_layout_Env_Store⟩⟩])
 (.seq none
 (.reg [⟨none, some 179, [(.tmp 0)], ⟨.f fMove, rMove⟩⟩,
  ⟨none, some 180, [(.tmp 0)], ⟨.f fMove, rMove⟩⟩,
  ⟨none, some 181, [(.tmp 180)], ⟨.f fNil, rNil⟩⟩,
  ⟨none, some 182, [(.tmp 181)], ⟨.f (fFld 8), rFld 8⟩⟩,
  ⟨none, some 183, [(.tmp 182)], ⟨.load 1 false, rLoad1⟩⟩,
  ⟨none, some 184, [(.tmp 0)], ⟨.f fMove, rMove⟩⟩,
  ⟨none, some 185, [(.tmp 184)], ⟨.f fNil, rNil⟩⟩,
  ⟨none, some 186, [(.tmp 185)], ⟨.f (fFld 9), rFld 9⟩⟩,
  ⟨none, some 187, [(.tmp 186)], ⟨.load 1 false, rLoad1⟩⟩,
  ⟨none, some 188, [(.tmp 183), (.tmp 187)], ⟨.f (fBuild [(0, 1), (1, 1)] [(.int .i64 0), (.int .i64 0)] [0, 1]), rAny xl_alloc_Alloc_Step (.f (fBuild [(0, 1), (1, 1)] [(.int .i64 0), (.int .i64 0)] [0, 1]))⟩⟩,
  ⟨none, some 189, [(.tmp 188)], ⟨.call .none s_word_PutHandle v_word_PutHandle, rCall v_word_PutHandle⟩⟩,
  ⟨none, some 190, [(.tmp 3)], ⟨.lr 3 9 true, rAny xl_alloc_Alloc_Step (.lr 3 9 true)⟩⟩,
  ⟨none, some 191, [(.tmp 190)], ⟨.call .read s_layout_Env_Now v_layout_Env_Now, rCall v_layout_Env_Now⟩⟩,
  ⟨none, some 192, [(.tmp 189), (.tmp 191)], ⟨.f (fBuild [(0, 1), (1, 1), (2, 1), (3, 1)] [(.int .i64 0), (.int .u64 0), (.int .i64 0), (.int .i64 0)] [1, 3]), rAny xl_alloc_Alloc_Step (.f (fBuild [(0, 1), (1, 1), (2, 1), (3, 1)] [(.int .i64 0), (.int .u64 0), (.int .i64 0), (.int .i64 0)] [1, 3]))⟩⟩,
  ⟨none, some 193, [(.tmp 179)], ⟨.f fNil, rNil⟩⟩,
  ⟨none, some 194, [(.tmp 193)], ⟨.f (fFld 14), rFld 14⟩⟩,
  ⟨none, none, [(.tmp 194), (.tmp 192)], ⟨.store 4, rAny xl_alloc_Alloc_Step (.store 4)⟩⟩])
 (.reg [⟨none, some 195, [(.tmp 0)], ⟨.f fMove, rMove⟩⟩,
  ⟨none, some 196, [(.tmp 195)], ⟨.f fNil, rNil⟩⟩,
  ⟨none, some 197, [(.tmp 196)], ⟨.f (fFld 2), rFld 2⟩⟩,
  ⟨none, none, [(.tmp 197), (.const (.int .i64 6))], ⟨.store 1, rStore1⟩⟩])))
 (.seq none
 (.reg [⟨none, some 199, [(.tmp 12), (.const (.int .i64 6))], ⟨.f (fBin .eql .no), rEql⟩⟩,
  ⟨none, some 198, [(.tmp 199)], ⟨.f fMove, rMove⟩⟩])
 (.cond (.tmp 198)
 (.seq none
 (.reg [⟨none, some 200, [(.tmp 3)], ⟨.lr 3 9 true, rAny xl_alloc_Alloc_Step (.lr 3 9 true)⟩⟩,
  ⟨none, some 201, [(.tmp 0)], ⟨.f fMove, rMove⟩⟩,
  ⟨none, some 202, [(.tmp 201)], ⟨.f fNil, rNil⟩⟩,
  ⟨none, some 203, [(.tmp 202)], ⟨.f (fFld 11), rFld 11⟩⟩,
  ⟨none, some 204, [(.tmp 203)], ⟨.f (fFld 0), rFld 0⟩⟩,
  ⟨none, some 205, [(.tmp 204)], ⟨.load 1 false, rLoad1⟩⟩,
  ⟨none, some 206, [(.tmp 0)], ⟨.f fMove, rMove⟩⟩,
  ⟨none, some 207, [(.tmp 206), (.const (.int .i64 2))], ⟨.call .read s_alloc_Alloc_head v_alloc_Alloc_head, rCall v_alloc_Alloc_head⟩⟩,
  ⟨none, some 208, [(.tmp 200), (.tmp 205), (.tmp 207)], ⟨.call .write s_layout_Env_Store v_layout_Env_Store, rCall v_layout_Env_Store⟩⟩])
 (.seq none
 (.reg [⟨none, some 4, [(.const (.bool true))], ⟨.f fMove, rMove⟩⟩])
 .ret))
 (.seq none
 (.reg [⟨none, some 13, [(.tmp 0)], ⟨.f fMove, rMove⟩⟩,
  ⟨none, some 14, [(.tmp 13)], ⟨.f fNil, rNil⟩⟩,
  ⟨none, some 15, [(.tmp 14)], ⟨.f (fFld 13), rFld 13⟩⟩,
  ⟨none, some 16, [(.tmp 15)], ⟨.load 1 false, rLoad1⟩⟩,
  ⟨none, some 17, [(.tmp 3)], ⟨.lr 3 9 true, rAny xl_alloc_Alloc_Step (.lr 3 9 true)⟩⟩,
  ⟨none, some 18, [(.tmp 16), (.tmp 17)], ⟨.call .write s_slot_Give_Step v_slot_Give_Step, rCall v_slot_Give_Step⟩⟩,
  ⟨none, some 4, [(.tmp 18)], ⟨.f fMove, rMove⟩⟩])
 .ret)))))))))))))))))
 (.seq none
 (.reg [⟨none, some 4, [(.const (.bool false))], ⟨.f fMove, rMove⟩⟩])
 .ret)))
noncomputable def v_alloc_Alloc_Step : EvF := evFn 2 xc_alloc_Alloc_Step [.t 4]
theorem xt_alloc_Alloc_Step : toC cx_alloc_Alloc_Step (bodyOf Try.f33) = some (xc_alloc_Alloc_Step.map XN.sm) := by kernel_rfl
theorem xr_alloc_Alloc_Step : toR cx_alloc_Alloc_Step Try.f33.results.toList = some [.t 4] := by kernel_rfl
theorem xo_alloc_Alloc_Step : xc_alloc_Alloc_Step.ok xl_alloc_Alloc_Step := ⟨⟨rAny_ok (trivial), rMove_ok, trivial⟩, ⟨⟨⟨rMove_ok, rNil_ok, rFld_ok _, rLoad1_ok, trivial⟩, ⟨⟨rEql_ok, rMove_ok, trivial⟩, ⟨⟨⟨⟨rMove_ok, rNil_ok, rFld_ok _, rLoad1_ok, rCall_ok ve_layout_Class, rLss_ok, trivial⟩, ⟨⟨⟨rMove_ok, rAny_ok (trivial), rCall_ok ve_alloc_Alloc_end, trivial⟩, ⟨⟨rMove_ok, trivial⟩, trivial⟩⟩, trivial⟩⟩, ⟨⟨rMove_ok, rNil_ok, rFld_ok _, rAny_ok (trivial), rCall_ok ve_slot_Take_Step, trivial⟩, ⟨⟨⟨rMove_ok, rNil_ok, rFld_ok _, rCall_ok ve_slot_Take_Slot, rMove_ok, rAny_ok (eqv_ext _), rAny_ok (eqv_ext _), rMove_ok, rMove_ok, trivial⟩, ⟨⟨rMove_ok, rMove_ok, rMove_ok, rNil_ok, rFld_ok _, rStore1_ok, rNil_ok, rFld_ok _, rStore1_ok, trivial⟩, ⟨⟨rMove_ok, rNot_ok, trivial⟩, ⟨⟨⟨rMove_ok, rAny_ok (trivial), rCall_ok ve_alloc_Alloc_end, trivial⟩, ⟨⟨rMove_ok, trivial⟩, trivial⟩⟩, trivial⟩⟩⟩⟩, trivial⟩⟩⟩, ⟨⟨rEql_ok, rMove_ok, trivial⟩, ⟨⟨⟨rMove_ok, rMove_ok, rAny_ok (trivial), rFld_ok _, rAny_ok (trivial), rMove_ok, rNil_ok, rFld_ok _, rLoad1_ok, rCall_ok ve_layout_Slot, rCall_ok ve_layout_Env_Load, rCall_ok ve_word_Slot, rAny_ok (eqv_fldV _ _ _), rNil_ok, rFld_ok _, rStore1_ok, rNil_ok, rFld_ok _, rStore1_ok, trivial⟩, ⟨rMove_ok, rMove_ok, rNil_ok, rFld_ok _, rLoad1_ok, rCall_ok ve_layout_Class, rCall_ok ve_place_New, rNil_ok, rFld_ok _, rStore1_ok, trivial⟩⟩, ⟨⟨rEql_ok, rMove_ok, trivial⟩, ⟨⟨⟨rMove_ok, rNil_ok, rFld_ok _, rLoad1_ok, rAny_ok (trivial), rCall_ok ve_place_Place_Step, trivial⟩, ⟨⟨⟨rMove_ok, rNil_ok, rFld_ok _, rLoad1_ok, rCall_ok ve_place_Place_Spot, rMove_ok, rAny_ok (eqv_ext _), rAny_ok (eqv_ext _), rAny_ok (trivial), rAny_ok (trivial), rMove_ok, trivial⟩, ⟨⟨rMove_ok, rMove_ok, rAny_ok (trivial), rNil_ok, rFld_ok _, rAny_ok (trivial), rNil_ok, rFld_ok _, rStore1_ok, trivial⟩, ⟨⟨rMove_ok, rNot_ok, trivial⟩, ⟨⟨⟨rMove_ok, rAny_ok (trivial), rCall_ok ve_alloc_Alloc_end, trivial⟩, ⟨rMove_ok, rMove_ok, rMove_ok, rNil_ok, rFld_ok _, rLoad1_ok, rCall_ok ve_slot_NewGive, rNil_ok, rFld_ok _, rStore1_ok, rNil_ok, rFld_ok _, rStore1_ok, trivial⟩⟩, trivial⟩⟩⟩⟩, trivial⟩⟩, ⟨⟨rEql_ok, rMove_ok, trivial⟩, ⟨⟨⟨rAny_ok (trivial), rFld_ok _, rAny_ok (trivial), rMove_ok, rNil_ok, rFld_ok _, rFld_ok _, rLoad1_ok, rCall_ok ve_layout_Chunk, rAdd_ok, rMove_ok, rNil_ok, rFld_ok _, rLoad1_ok, rCall_ok ve_layout_Class, rCall_ok ve_layout_Room, rCall_ok ve_layout_Env_Add, trivial⟩, ⟨rMove_ok, rNil_ok, rFld_ok _, rStore1_ok, trivial⟩⟩, ⟨⟨rEql_ok, rMove_ok, trivial⟩, ⟨⟨⟨rAny_ok (trivial), rMove_ok, rNil_ok, rFld_ok _, rFld_ok _, rLoad1_ok, rMove_ok, rCall_ok ve_alloc_Alloc_head, rCall_ok ve_layout_Env_Store, trivial⟩, ⟨rMove_ok, rNil_ok, rFld_ok _, rStore1_ok, trivial⟩⟩, ⟨⟨rEql_ok, rMove_ok, trivial⟩, ⟨⟨⟨rAny_ok (trivial), rFld_ok _, rAny_ok (trivial), rMove_ok, rNil_ok, rFld_ok _, rLoad1_ok, rCall_ok ve_layout_Slot, rMove_ok, rNil_ok, rFld_ok _, rFld_ok _, rLoad1_ok, rMove_ok, rNil_ok, rFld_ok _, rLoad1_ok, rAny_ok (eqv_build _ rfl _), rCall_ok ve_word_PutSlot, rCall_ok ve_layout_Env_Store, trivial⟩, ⟨⟨rMove_ok, rMove_ok, rNil_ok, rFld_ok _, rLoad1_ok, rMove_ok, rNil_ok, rFld_ok _, rLoad1_ok, rAny_ok (eqv_build _ rfl _), rCall_ok ve_word_PutHandle, rAny_ok (trivial), rCall_ok ve_layout_Env_Now, rAny_ok (eqv_build _ rfl _), rNil_ok, rFld_ok _, rAny_ok (trivial), trivial⟩, ⟨rMove_ok, rNil_ok, rFld_ok _, rStore1_ok, trivial⟩⟩⟩, ⟨⟨rEql_ok, rMove_ok, trivial⟩, ⟨⟨⟨rAny_ok (trivial), rMove_ok, rNil_ok, rFld_ok _, rFld_ok _, rLoad1_ok, rMove_ok, rCall_ok ve_alloc_Alloc_head, rCall_ok ve_layout_Env_Store, trivial⟩, ⟨⟨rMove_ok, trivial⟩, trivial⟩⟩, ⟨⟨rMove_ok, rNil_ok, rFld_ok _, rLoad1_ok, rAny_ok (trivial), rCall_ok ve_slot_Give_Step, rMove_ok, trivial⟩, trivial⟩⟩⟩⟩⟩⟩⟩⟩⟩⟩⟩⟩⟩⟩⟩⟩, ⟨⟨rMove_ok, trivial⟩, trivial⟩⟩⟩
theorem ve_alloc_Alloc_Step : EvOk s_alloc_Alloc_Step v_alloc_Alloc_Step := EvOk.of (evFn_sound (C := cx_alloc_Alloc_Step) xt_alloc_Alloc_Step xr_alloc_Alloc_Step xo_alloc_Alloc_Step) q_alloc_Alloc_Step
attribute [irreducible] w_alloc_Alloc_Step_j1b w_alloc_Alloc_Step_j1 w_alloc_Alloc_Step s_alloc_Alloc_Step
def w_alloc_Alloc_Done (a0 : Value) (K : Value → Mem → Prop) (σ : Mem) : Prop :=
xF fMove [a0] fun v3 =>
xF (fBin .eql .ptr) [v3, (.pointer none)] fun v4 =>
xIf v4
 (xF (fBuild [(0, 1), (1, 1), (2, 1), (3, 1)] [(.int .i64 0), (.int .u64 0), (.int .i64 0), (.int .i64 0)] [0]) [(.int .i64 1)] fun v5 =>
xC (gStore 4 [(locP 2), v5] [(.int .i64 0), (.int .u64 0), (.int .i64 0), (.int .i64 0)]) fun c2 =>
xO (gLoad 4 true [(locP 2)] c2) fun r2 =>
K r2 σ)
 (xF fMove [a0] fun v6 =>
xF fNil [v6] fun v7 =>
xF (fFld 14) [v7] fun v8 =>
hLoad 4 true [v8] (fun v9 σ =>
xC (gStore 4 [(locP 2), v9] [(.int .i64 0), (.int .u64 0), (.int .i64 0), (.int .i64 0)]) fun c2 =>
xO (gLoad 4 true [(locP 2)] c2) fun r2 =>
K r2 σ) σ)
def s_alloc_Alloc_Done : Spec := fun args K σ => match args with
  | [a0] => w_alloc_Alloc_Done a0 K σ
  | _ => False
noncomputable def cx_alloc_Alloc_Done : Cx := { P := Try.prog, T := [], loc := [(2, 2)], eqt := [(76, .ptr)], n := 10, keep := [] }
theorem q_alloc_Alloc_Done : FnS cx_alloc_Alloc_Done Try.f34 (bodyOf Try.f34) 1 = s_alloc_Alloc_Done := by
  funext args K σ
  rcases args with _ | ⟨a0, _ | ⟨b, r⟩⟩ <;> kernel_rfl
theorem e_alloc_Alloc_Done : Entry Try.prog 34 .read s_alloc_Alloc_Done :=
  entry (C := cx_alloc_Alloc_Done) TOk.nil mixedOk Try.func34 (by kernel_rfl) (by kernel_rfl) (by kernel_rfl) q_alloc_Alloc_Done
def xl_alloc_Alloc_Done : List (Nat × Nat) := [(2, 2)]
noncomputable def xc_alloc_Alloc_Done : XC XN :=
(.seq none
 (.reg [⟨none, some 2, [], ⟨.la 2 [(.int .i64 0), (.int .u64 0), (.int .i64 0), (.int .i64 0)], rAny xl_alloc_Alloc_Done (.la 2 [(.int .i64 0), (.int .u64 0), (.int .i64 0), (.int .i64 0)])⟩⟩])
 (.seq none
 (.seq none
 (.reg [⟨none, some 3, [(.tmp 0)], ⟨.f fMove, rMove⟩⟩,
  ⟨none, some 4, [(.tmp 3), (.const (.pointer none))], ⟨.f (fBin .eql .ptr), rAny xl_alloc_Alloc_Done (.f (fBin .eql .ptr))⟩⟩])
 (.cond (.tmp 4)
 (.seq none
 (.reg [⟨none, some 5, [(.const (.int .i64 1))], ⟨.f (fBuild [(0, 1), (1, 1), (2, 1), (3, 1)] [(.int .i64 0), (.int .u64 0), (.int .i64 0), (.int .i64 0)] [0]), rAny xl_alloc_Alloc_Done (.f (fBuild [(0, 1), (1, 1), (2, 1), (3, 1)] [(.int .i64 0), (.int .u64 0), (.int .i64 0), (.int .i64 0)] [0]))⟩⟩,
  ⟨none, none, [(.tmp 2), (.tmp 5)], ⟨.ls 2 4, rAny xl_alloc_Alloc_Done (.ls 2 4)⟩⟩])
 .ret)
 .skip))
 (.seq none
 (.reg [⟨none, some 6, [(.tmp 0)], ⟨.f fMove, rMove⟩⟩,
  ⟨none, some 7, [(.tmp 6)], ⟨.f fNil, rNil⟩⟩,
  ⟨none, some 8, [(.tmp 7)], ⟨.f (fFld 14), rFld 14⟩⟩,
  ⟨none, some 9, [(.tmp 8)], ⟨.load 4 true, rAny xl_alloc_Alloc_Done (.load 4 true)⟩⟩,
  ⟨none, none, [(.tmp 2), (.tmp 9)], ⟨.ls 2 4, rAny xl_alloc_Alloc_Done (.ls 2 4)⟩⟩])
 .ret)))
noncomputable def v_alloc_Alloc_Done : EvF := evFn 1 xc_alloc_Alloc_Done [.c 2 2 4 true]
theorem xt_alloc_Alloc_Done : toC cx_alloc_Alloc_Done (bodyOf Try.f34) = some (xc_alloc_Alloc_Done.map XN.sm) := by kernel_rfl
theorem xr_alloc_Alloc_Done : toR cx_alloc_Alloc_Done Try.f34.results.toList = some [.c 2 2 4 true] := by kernel_rfl
theorem xo_alloc_Alloc_Done : xc_alloc_Alloc_Done.ok xl_alloc_Alloc_Done := ⟨⟨rAny_ok (trivial), trivial⟩, ⟨⟨⟨rMove_ok, rAny_ok (eqv_bin _ _), trivial⟩, ⟨⟨⟨rAny_ok (eqv_build _ rfl _), rAny_ok (trivial), trivial⟩, trivial⟩, trivial⟩⟩, ⟨⟨rMove_ok, rNil_ok, rFld_ok _, rAny_ok (trivial), rAny_ok (trivial), trivial⟩, trivial⟩⟩⟩
theorem ve_alloc_Alloc_Done : EvOk s_alloc_Alloc_Done v_alloc_Alloc_Done := EvOk.of (evFn_sound (C := cx_alloc_Alloc_Done) xt_alloc_Alloc_Done xr_alloc_Alloc_Done xo_alloc_Alloc_Done) q_alloc_Alloc_Done
attribute [irreducible] w_alloc_Alloc_Done s_alloc_Alloc_Done
def w_law08_Make_j1b (K : Value → Mem → Prop) (v7 : Value) (c6 : List Value) (σ : Mem) : Prop :=
xF fMove [v7] fun v19 =>
s_alloc_Alloc_Done [v19] (fun v20 σ =>
xC (gStore 4 [(locP 6), v20] c6) fun c6 =>
xO (gLoad 4 true [(locP 6)] c6) fun r6 =>
K r6 σ) σ
def w_law08_Make_j1 (K : Value → Mem → Prop) (ts : List Value) (ls : List (List Value)) (σ : Mem) : Prop := w_law08_Make_j1b K (ts.getD 0 poison) (ls.getD 0 []) σ
def w_law08_Make_l4b (K : Value → Mem → Prop) (J1 : List Value → List (List Value) → Mem → Prop) (R1 : List Value → List (List Value) → Mem → Prop) (v7 v8 : Value) (c3 c6 : List Value) (σ : Mem) : Prop :=
xF fMove [v8] fun v12 =>
xF (fBin .lss .no) [v12, (.int .i64 400)] fun v13 =>
xIf v13
 (xF fMove [v7] fun v16 =>
xO (gLoad 9 true [(locP 3)] c3) fun v17 =>
s_alloc_Alloc_Step [v16, v17] (fun v18 σ =>
xIf v18
 (J1 [v7] [c6] σ)
 (xF fMove [v8] fun v14 =>
xF (fBin .add .no) [v14, (.int .i64 1)] fun v15 =>
xF fMove [v15] fun v8 =>
R1 [v7, v8] [c3, c6] σ)) σ)
 (J1 [v7] [c6] σ)
def w_law08_Make_l4 (K : Value → Mem → Prop) (J1 : List Value → List (List Value) → Mem → Prop) (R1 : List Value → List (List Value) → Mem → Prop) (ts : List Value) (ls : List (List Value)) (σ : Mem) : Prop := w_law08_Make_l4b K J1 R1 (ts.getD 0 poison) (ts.getD 1 poison) (ls.getD 0 []) (ls.getD 1 []) σ
def w_law08_Make (a0 a1 a2 : Value) (K : Value → Mem → Prop) (σ : Mem) : Prop :=
xC (gBox 9 [a0] []) fun c3 =>
xF fMove [a1] fun v9 =>
xF fMove [a2] fun v10 =>
s_alloc_New [v9, v10] (fun v11 σ =>
xF fMove [v11] fun v7 =>
xJoin (w_law08_Make_j1 K) fun J1 =>
xF fMove [(.int .i64 0)] fun v8 =>
xLoop (w_law08_Make_l4 K J1) [v7, v8] [c3, [(.int .i64 0), (.int .u64 0), (.int .i64 0), (.int .i64 0)]] σ) σ
def s_law08_Make : Spec := fun args K σ => match args with
  | [a0, a1, a2] => w_law08_Make a0 a1 a2 K σ
  | _ => False
noncomputable def cx_law08_Make : Cx := { P := Try.prog, T := [(32, .write, s_alloc_New), (33, .write, s_alloc_Alloc_Step), (34, .read, s_alloc_Alloc_Done)], loc := [(3, 3), (6, 6)], eqt := [], n := 21, keep := [(4, [7, 8], [3, 6]), (1000007, [7], [6])] }
theorem q_law08_Make : FnS cx_law08_Make Try.f13 (bodyOf Try.f13) 3 = s_law08_Make := by
  funext args K σ
  rcases args with _ | ⟨a0, _ | ⟨a1, _ | ⟨a2, _ | ⟨b, r⟩⟩⟩⟩ <;> kernel_rfl
theorem e_law08_Make : Entry Try.prog 13 .write s_law08_Make :=
  entry (C := cx_law08_Make) (TOk.cons e_alloc_New (TOk.cons e_alloc_Alloc_Step (TOk.cons e_alloc_Alloc_Done TOk.nil))) mixedOk Try.func13 (by kernel_rfl) (by kernel_rfl) (by kernel_rfl) q_law08_Make
def xl_law08_Make : List (Nat × Nat) := [(3, 3), (6, 6)]
noncomputable def xc_law08_Make : XC XN :=
(.seq none
 (.reg [⟨none, some 3, [(.tmp 0)], ⟨.lb 3 9, rAny xl_law08_Make (.lb 3 9)⟩⟩,
  ⟨none, some 6, [], ⟨.la 6 [(.int .i64 0), (.int .u64 0), (.int .i64 0), (.int .i64 0)], rAny xl_law08_Make (.la 6 [(.int .i64 0), (.int .u64 0), (.int .i64 0), (.int .i64 0)])⟩⟩])
 (.seq none
 (.reg [⟨none, some 9, [(.tmp 1)], ⟨.f fMove, rMove⟩⟩,
  ⟨none, some 10, [(.tmp 2)], ⟨.f fMove, rMove⟩⟩,
  ⟨none, some 11, [(.tmp 9), (.tmp 10)], ⟨.call .write s_alloc_New v_alloc_New, rCall v_alloc_New⟩⟩,
  ⟨none, some 7, [(.tmp 11)], ⟨.f fMove, rMove⟩⟩])
 (.seq (some ([7], [6]))
 (.seq none
 (.reg [⟨none, some 8, [(.const (.int .i64 0))], ⟨.f fMove, rMove⟩⟩])
 (.block 0
 (.loop ([7, 8], [3, 6])
 (.seq none
 (.seq none
 (.reg [⟨none, some 12, [(.tmp 8)], ⟨.f fMove, rMove⟩⟩,
  ⟨none, some 13, [(.tmp 12), (.const (.int .i64 400))], ⟨.f (fBin .lss .no), rLss⟩⟩])
 (.cond (.tmp 13)
 .skip
 (.exit 0)))
 (.seq none
 (.block 1
 (.seq none
 (.reg [⟨none, some 16, [(.tmp 7)], ⟨.f fMove, rMove⟩⟩,
  ⟨none, some 17, [(.tmp 3)], ⟨.lr 3 9 true, rAny xl_law08_Make (.lr 3 9 true)⟩⟩,
  ⟨none, some 18, [(.tmp 16), (.tmp 17)], ⟨.call .write s_alloc_Alloc_Step v_alloc_Alloc_Step, rCall v_alloc_Alloc_Step⟩⟩])
 (.cond (.tmp 18)
 (.exit 0)
 .skip)))
 (.reg [⟨none, some 14, [(.tmp 8)], ⟨.f fMove, rMove⟩⟩,
  ⟨none, some 15, [(.tmp 14), (.const (.int .i64 1))], ⟨.f (fBin .add .no), rAdd⟩⟩,
  ⟨none, some 8, [(.tmp 15)], ⟨.f fMove, rMove⟩⟩]))))))
 (.seq none
 (.reg [⟨none, some 19, [(.tmp 7)], ⟨.f fMove, rMove⟩⟩,
  ⟨none, some 20, [(.tmp 19)], ⟨.call .read s_alloc_Alloc_Done v_alloc_Alloc_Done, rCall v_alloc_Alloc_Done⟩⟩,
  ⟨none, none, [(.tmp 6), (.tmp 20)], ⟨.ls 6 4, rAny xl_law08_Make (.ls 6 4)⟩⟩])
 .ret))))
noncomputable def v_law08_Make : EvF := evFn 3 xc_law08_Make [.c 6 6 4 true]
theorem xt_law08_Make : toC cx_law08_Make (bodyOf Try.f13) = some (xc_law08_Make.map XN.sm) := by kernel_rfl
theorem xr_law08_Make : toR cx_law08_Make Try.f13.results.toList = some [.c 6 6 4 true] := by kernel_rfl
theorem xo_law08_Make : xc_law08_Make.ok xl_law08_Make := ⟨⟨rAny_ok (trivial), rAny_ok (trivial), trivial⟩, ⟨⟨rMove_ok, rMove_ok, rCall_ok ve_alloc_New, rMove_ok, trivial⟩, ⟨⟨⟨rMove_ok, trivial⟩, ⟨⟨⟨rMove_ok, rLss_ok, trivial⟩, ⟨trivial, trivial⟩⟩, ⟨⟨⟨rMove_ok, rAny_ok (trivial), rCall_ok ve_alloc_Alloc_Step, trivial⟩, ⟨trivial, trivial⟩⟩, ⟨rMove_ok, rAdd_ok, rMove_ok, trivial⟩⟩⟩⟩, ⟨⟨rMove_ok, rCall_ok ve_alloc_Alloc_Done, rAny_ok (trivial), trivial⟩, trivial⟩⟩⟩⟩
theorem ve_law08_Make : EvOk s_law08_Make v_law08_Make := EvOk.of (evFn_sound (C := cx_law08_Make) xt_law08_Make xr_law08_Make xo_law08_Make) q_law08_Make
attribute [irreducible] w_law08_Make_j1b w_law08_Make_j1 w_law08_Make_l4b w_law08_Make_l4 w_law08_Make s_law08_Make
def w_access_New (a0 a1 : Value) (K : Value → Mem → Prop) (σ : Mem) : Prop :=
xC (gBox 5 [a0] []) fun c2 =>
xF fMove [(.pointer none)] fun v4 =>
xO (gLoad 5 true [(locP 2)] c2) fun v5 =>
xF fMove [a1] fun v6 =>
xF (fBuild [(0, 5), (5, 1), (6, 2), (8, 1), (9, 1), (10, 1), (11, 1), (12, 1), (13, 1), (14, 1), (15, 4)] [(.int .i64 0), (.int .u64 0), (.int .i64 0), (.int .i64 0), (.int .i64 0), (.bool false), (.int .i64 0), (.int .i64 0), (.int .i64 0), (.int .u64 0), (.int .u64 0), (.int .i64 0), (.int .i64 0), (.int .i64 0), (.pointer none), (.int .i64 0), (.int .u64 0), (.int .i64 0), (.int .i64 0)] [0, 1]) [v5, v6] fun v7 =>
hBox 19 [v7] (fun v8 σ =>
xF fMove [v8] fun v4 =>
K v4 σ) σ
def s_access_New : Spec := fun args K σ => match args with
  | [a0, a1] => w_access_New a0 a1 K σ
  | _ => False
noncomputable def cx_access_New : Cx := { P := Try.prog, T := [], loc := [(2, 2)], eqt := [], n := 9, keep := [] }
theorem q_access_New : FnS cx_access_New Try.f14 (bodyOf Try.f14) 2 = s_access_New := by
  funext args K σ
  rcases args with _ | ⟨a0, _ | ⟨a1, _ | ⟨b, r⟩⟩⟩ <;> kernel_rfl
theorem e_access_New : Entry Try.prog 14 .write s_access_New :=
  entry (C := cx_access_New) TOk.nil mixedOk Try.func14 (by kernel_rfl) (by kernel_rfl) (by kernel_rfl) q_access_New
def xl_access_New : List (Nat × Nat) := [(2, 2)]
noncomputable def xc_access_New : XC XN :=
(.seq none
 (.reg [⟨none, some 2, [(.tmp 0)], ⟨.lb 2 5, rAny xl_access_New (.lb 2 5)⟩⟩,
  ⟨none, some 4, [(.const (.pointer none))], ⟨.f fMove, rMove⟩⟩])
 (.seq none
 (.reg [⟨none, some 5, [(.tmp 2)], ⟨.lr 2 5 true, rAny xl_access_New (.lr 2 5 true)⟩⟩,
  ⟨none, some 6, [(.tmp 1)], ⟨.f fMove, rMove⟩⟩,
  ⟨none, some 7, [(.tmp 5), (.tmp 6)], ⟨.f (fBuild [(0, 5), (5, 1), (6, 2), (8, 1), (9, 1), (10, 1), (11, 1), (12, 1), (13, 1), (14, 1), (15, 4)] [(.int .i64 0), (.int .u64 0), (.int .i64 0), (.int .i64 0), (.int .i64 0), (.bool false), (.int .i64 0), (.int .i64 0), (.int .i64 0), (.int .u64 0), (.int .u64 0), (.int .i64 0), (.int .i64 0), (.int .i64 0), (.pointer none), (.int .i64 0), (.int .u64 0), (.int .i64 0), (.int .i64 0)] [0, 1]), rAny xl_access_New (.f (fBuild [(0, 5), (5, 1), (6, 2), (8, 1), (9, 1), (10, 1), (11, 1), (12, 1), (13, 1), (14, 1), (15, 4)] [(.int .i64 0), (.int .u64 0), (.int .i64 0), (.int .i64 0), (.int .i64 0), (.bool false), (.int .i64 0), (.int .i64 0), (.int .i64 0), (.int .u64 0), (.int .u64 0), (.int .i64 0), (.int .i64 0), (.int .i64 0), (.pointer none), (.int .i64 0), (.int .u64 0), (.int .i64 0), (.int .i64 0)] [0, 1]))⟩⟩,
  ⟨none, some 8, [(.tmp 7)], ⟨.box 19, rAny xl_access_New (.box 19)⟩⟩,
  ⟨none, some 4, [(.tmp 8)], ⟨.f fMove, rMove⟩⟩])
 .ret))
noncomputable def v_access_New : EvF := evFn 2 xc_access_New [.t 4]
theorem xt_access_New : toC cx_access_New (bodyOf Try.f14) = some (xc_access_New.map XN.sm) := by kernel_rfl
theorem xr_access_New : toR cx_access_New Try.f14.results.toList = some [.t 4] := by kernel_rfl
theorem xo_access_New : xc_access_New.ok xl_access_New := ⟨⟨rAny_ok (trivial), rMove_ok, trivial⟩, ⟨⟨rAny_ok (trivial), rMove_ok, rAny_ok (eqv_build _ rfl _), rAny_ok (trivial), rMove_ok, trivial⟩, trivial⟩⟩
theorem ve_access_New : EvOk s_access_New v_access_New := EvOk.of (evFn_sound (C := cx_access_New) xt_access_New xr_access_New xo_access_New) q_access_New
attribute [irreducible] w_access_New s_access_New
def w_word_Handle_j1b (K : Value → Mem → Prop) (v0 v11 : Value) (c2 : List Value) (σ : Mem) : Prop :=
xIf v11
 (xF (fBuild [(0, 1), (1, 1)] [(.int .i64 0), (.int .i64 0)] []) [] fun v12 =>
xC (gStore 2 [(locP 2), v12] c2) fun c2 =>
xF fMove [(.bool false)] fun v3 =>
xO (gLoad 2 true [(locP 2)] c2) fun r2 =>
K (.tuple #[r2, v3]) σ)
 (xF fMove [v0] fun v13 =>
xF (fBin .and .no) [v13, (.int .u64 65535)] fun v14 =>
xF (fConv .i64) [v14] fun v15 =>
xF fMove [v0] fun v16 =>
xF (fBin .shr .no) [v16, (.int .u64 16)] fun v17 =>
xF (fConv .i64) [v17] fun v18 =>
xF (fBuild [(0, 1), (1, 1)] [(.int .i64 0), (.int .i64 0)] [0, 1]) [v15, v18] fun v19 =>
xC (gStore 2 [(locP 2), v19] c2) fun c2 =>
xF fMove [(.bool true)] fun v3 =>
xO (gLoad 2 true [(locP 2)] c2) fun r2 =>
K (.tuple #[r2, v3]) σ)
def w_word_Handle_j1 (K : Value → Mem → Prop) (ts : List Value) (ls : List (List Value)) (σ : Mem) : Prop := w_word_Handle_j1b K (ts.getD 0 poison) (ts.getD 1 poison) (ls.getD 0 []) σ
def w_word_Handle (a0 : Value) (K : Value → Mem → Prop) (σ : Mem) : Prop :=
if true = true then (xC (gAlloc [(.int .i64 0), (.int .i64 0)] [] []) fun c2 =>
xF fMove [(.bool false)] fun v3 =>
xJoin (w_word_Handle_j1 K) fun J1 =>
xF fMove [a0] fun v4 =>
xF (fBin .shr .no) [v4, (.int .u64 32)] fun v5 =>
xF (fBin .neq .no) [v5, (.int .u64 0)] fun v6 =>
xF fMove [v6] fun v7 =>
xIf v7
 (xF fPick [(.bool true), (.bool true), undef] fun v11 =>
J1 [a0, v11] [c2] σ)
 (xF fMove [a0] fun v8 =>
xF (fBin .shr .no) [v8, (.int .u64 16)] fun v9 =>
xF (fBin .eql .no) [v9, (.int .u64 0)] fun v10 =>
xF fPick [(.bool false), (.bool true), v10] fun v11 =>
J1 [a0, v11] [c2] σ)) else False
def s_word_Handle : Spec := fun args K σ => match args with
  | [a0] => w_word_Handle a0 K σ
  | _ => False
noncomputable def cx_word_Handle : Cx := { P := Try.prog, T := [], loc := [(2, 2)], eqt := [], n := 20, keep := [(1000003, [0, 11], [2])] }
theorem q_word_Handle : FnS cx_word_Handle Try.f35 (bodyOf Try.f35) 1 = s_word_Handle := by
  funext args K σ
  rcases args with _ | ⟨a0, _ | ⟨b, r⟩⟩ <;> kernel_rfl
theorem e_word_Handle : Entry Try.prog 35 .none s_word_Handle :=
  entry (C := cx_word_Handle) TOk.nil mixedOk Try.func35 (by kernel_rfl) (by kernel_rfl) (by kernel_rfl) q_word_Handle
def xl_word_Handle : List (Nat × Nat) := [(2, 2)]
noncomputable def xc_word_Handle : XC XN :=
(.seq none
 (.reg [⟨none, some 2, [], ⟨.la 2 [(.int .i64 0), (.int .i64 0)], rAny xl_word_Handle (.la 2 [(.int .i64 0), (.int .i64 0)])⟩⟩,
  ⟨none, some 3, [(.const (.bool false))], ⟨.f fMove, rMove⟩⟩])
 (.seq none
 (.seq (some ([0, 11], [2]))
 (.reg [⟨none, some 4, [(.tmp 0)], ⟨.f fMove, rMove⟩⟩,
  ⟨none, some 5, [(.tmp 4), (.const (.int .u64 32))], ⟨.f (fBin .shr .no), rAny xl_word_Handle (.f (fBin .shr .no))⟩⟩,
  ⟨none, some 6, [(.tmp 5), (.const (.int .u64 0))], ⟨.f (fBin .neq .no), rNeq⟩⟩,
  ⟨none, some 7, [(.tmp 6)], ⟨.f fMove, rMove⟩⟩,
  ⟨(some (4, 3, false, some 7)), some 8, [(.tmp 0)], ⟨.f fMove, rMove⟩⟩,
  ⟨(some (5, 3, false, some 7)), some 9, [(.tmp 8), (.const (.int .u64 16))], ⟨.f (fBin .shr .no), rAny xl_word_Handle (.f (fBin .shr .no))⟩⟩,
  ⟨(some (6, 3, false, some 7)), some 10, [(.tmp 9), (.const (.int .u64 0))], ⟨.f (fBin .eql .no), rEql⟩⟩,
  ⟨none, some 11, [(.tmp 7), (.const (.bool true)), (.tmp 10)], ⟨.f fPick, rPick⟩⟩])
 (.cond (.tmp 11)
 (.seq none
 (.reg [⟨none, some 12, [], ⟨.f (fBuild [(0, 1), (1, 1)] [(.int .i64 0), (.int .i64 0)] []), rAny xl_word_Handle (.f (fBuild [(0, 1), (1, 1)] [(.int .i64 0), (.int .i64 0)] []))⟩⟩,
  ⟨none, none, [(.tmp 2), (.tmp 12)], ⟨.ls 2 2, rAny xl_word_Handle (.ls 2 2)⟩⟩,
  ⟨none, some 3, [(.const (.bool false))], ⟨.f fMove, rMove⟩⟩])
 .ret)
 .skip))
 (.seq none
 (.reg [⟨none, some 13, [(.tmp 0)], ⟨.f fMove, rMove⟩⟩,
  ⟨none, some 14, [(.tmp 13), (.const (.int .u64 65535))], ⟨.band .no, rAny xl_word_Handle (.band .no)⟩⟩,
  ⟨none, some 15, [(.tmp 14)], ⟨.f (fConv .i64), rConv .i64⟩⟩,
  ⟨none, some 16, [(.tmp 0)], ⟨.f fMove, rMove⟩⟩,
  ⟨none, some 17, [(.tmp 16), (.const (.int .u64 16))], ⟨.f (fBin .shr .no), rAny xl_word_Handle (.f (fBin .shr .no))⟩⟩,
  ⟨none, some 18, [(.tmp 17)], ⟨.f (fConv .i64), rConv .i64⟩⟩,
  ⟨none, some 19, [(.tmp 15), (.tmp 18)], ⟨.f (fBuild [(0, 1), (1, 1)] [(.int .i64 0), (.int .i64 0)] [0, 1]), rAny xl_word_Handle (.f (fBuild [(0, 1), (1, 1)] [(.int .i64 0), (.int .i64 0)] [0, 1]))⟩⟩,
  ⟨none, none, [(.tmp 2), (.tmp 19)], ⟨.ls 2 2, rAny xl_word_Handle (.ls 2 2)⟩⟩,
  ⟨none, some 3, [(.const (.bool true))], ⟨.f fMove, rMove⟩⟩])
 .ret)))
noncomputable def v_word_Handle : EvF := evFn 1 xc_word_Handle [.c 2 2 2 true, .t 3]
theorem xt_word_Handle : toC cx_word_Handle (bodyOf Try.f35) = some (xc_word_Handle.map XN.sm) := by kernel_rfl
theorem xr_word_Handle : toR cx_word_Handle Try.f35.results.toList = some [.c 2 2 2 true, .t 3] := by kernel_rfl
theorem xo_word_Handle : xc_word_Handle.ok xl_word_Handle := ⟨⟨rAny_ok (trivial), rMove_ok, trivial⟩, ⟨⟨⟨rMove_ok, rAny_ok (eqv_bin _ _), rNeq_ok, rMove_ok, rMove_ok, rAny_ok (eqv_bin _ _), rEql_ok, rPick_ok, trivial⟩, ⟨⟨⟨rAny_ok (eqv_build _ rfl _), rAny_ok (trivial), rMove_ok, trivial⟩, trivial⟩, trivial⟩⟩, ⟨⟨rMove_ok, rAny_ok (trivial), rConv_ok _, rMove_ok, rAny_ok (eqv_bin _ _), rConv_ok _, rAny_ok (eqv_build _ rfl _), rAny_ok (trivial), rMove_ok, trivial⟩, trivial⟩⟩⟩
theorem ve_word_Handle : EvOk s_word_Handle v_word_Handle := EvOk.of (evFn_sound (C := cx_word_Handle) xt_word_Handle xr_word_Handle xo_word_Handle) q_word_Handle
attribute [irreducible] w_word_Handle_j1b w_word_Handle_j1 w_word_Handle s_word_Handle
def w_access_Access_end (a0 a1 a2 a3 : Value) (K : Value → Mem → Prop) (σ : Mem) : Prop :=
xF fMove [(.bool false)] fun v8 =>
xF fMove [a0] fun v9 =>
xF fMove [a1] fun v10 =>
xF fMove [a2] fun v11 =>
xF fMove [a3] fun v12 =>
xF (fBuild [(0, 1), (1, 1), (2, 1), (3, 1)] [(.int .i64 0), (.int .u64 0), (.int .i64 0), (.int .i64 0)] [0, 2, 3]) [v10, v11, v12] fun v13 =>
xF fNil [v9] fun v14 =>
xF (fFld 15) [v14] fun v15 =>
hStore 4 [v15, v13] (fun _v σ =>
xF fMove [(.bool true)] fun v8 =>
K v8 σ) σ
def s_access_Access_end : Spec := fun args K σ => match args with
  | [a0, a1, a2, a3] => w_access_Access_end a0 a1 a2 a3 K σ
  | _ => False
noncomputable def cx_access_Access_end : Cx := { P := Try.prog, T := [], loc := [], eqt := [], n := 16, keep := [] }
theorem q_access_Access_end : FnS cx_access_Access_end Try.f36 (bodyOf Try.f36) 4 = s_access_Access_end := by
  funext args K σ
  rcases args with _ | ⟨a0, _ | ⟨a1, _ | ⟨a2, _ | ⟨a3, _ | ⟨b, r⟩⟩⟩⟩⟩ <;> kernel_rfl
theorem e_access_Access_end : Entry Try.prog 36 .write s_access_Access_end :=
  entry (C := cx_access_Access_end) TOk.nil mixedOk Try.func36 (by kernel_rfl) (by kernel_rfl) (by kernel_rfl) q_access_Access_end
def xl_access_Access_end : List (Nat × Nat) := []
noncomputable def xc_access_Access_end : XC XN :=
(.seq none
 (.reg [⟨none, some 8, [(.const (.bool false))], ⟨.f fMove, rMove⟩⟩])
 (.seq none
 (.reg [⟨none, some 9, [(.tmp 0)], ⟨.f fMove, rMove⟩⟩,
  ⟨none, some 10, [(.tmp 1)], ⟨.f fMove, rMove⟩⟩,
  ⟨none, some 11, [(.tmp 2)], ⟨.f fMove, rMove⟩⟩,
  ⟨none, some 12, [(.tmp 3)], ⟨.f fMove, rMove⟩⟩,
  ⟨none, some 13, [(.tmp 10), (.tmp 11), (.tmp 12)], ⟨.f (fBuild [(0, 1), (1, 1), (2, 1), (3, 1)] [(.int .i64 0), (.int .u64 0), (.int .i64 0), (.int .i64 0)] [0, 2, 3]), rAny xl_access_Access_end (.f (fBuild [(0, 1), (1, 1), (2, 1), (3, 1)] [(.int .i64 0), (.int .u64 0), (.int .i64 0), (.int .i64 0)] [0, 2, 3]))⟩⟩,
  ⟨none, some 14, [(.tmp 9)], ⟨.f fNil, rNil⟩⟩,
  ⟨none, some 15, [(.tmp 14)], ⟨.f (fFld 15), rFld 15⟩⟩,
  ⟨none, none, [(.tmp 15), (.tmp 13)], ⟨.store 4, rAny xl_access_Access_end (.store 4)⟩⟩])
 (.seq none
 (.reg [⟨none, some 8, [(.const (.bool true))], ⟨.f fMove, rMove⟩⟩])
 .ret)))
noncomputable def v_access_Access_end : EvF := evFn 4 xc_access_Access_end [.t 8]
theorem xt_access_Access_end : toC cx_access_Access_end (bodyOf Try.f36) = some (xc_access_Access_end.map XN.sm) := by kernel_rfl
theorem xr_access_Access_end : toR cx_access_Access_end Try.f36.results.toList = some [.t 8] := by kernel_rfl
theorem xo_access_Access_end : xc_access_Access_end.ok xl_access_Access_end := ⟨⟨rMove_ok, trivial⟩, ⟨⟨rMove_ok, rMove_ok, rMove_ok, rMove_ok, rAny_ok (eqv_build _ rfl _), rNil_ok, rFld_ok _, rAny_ok (trivial), trivial⟩, ⟨⟨rMove_ok, trivial⟩, trivial⟩⟩⟩
theorem ve_access_Access_end : EvOk s_access_Access_end v_access_Access_end := EvOk.of (evFn_sound (C := cx_access_Access_end) xt_access_Access_end xr_access_Access_end xo_access_Access_end) q_access_Access_end
attribute [irreducible] w_access_Access_end s_access_Access_end
def w_drop_Live (a0 a1 : Value) (K : Value → Mem → Prop) (σ : Mem) : Prop :=
xC (gBox 4 [a0] []) fun c2 =>
xC (gBox 2 [a1] []) fun c3 =>
xF fMove [(.bool false)] fun v4 =>
xF (fFld 0) [(locP 2)] fun v5 =>
xO (gLoad 1 false [v5] c2) fun v6 =>
xF (fBin .eql .no) [v6, (.int .i64 1)] fun v7 =>
xF fMove [v7] fun v8 =>
xIf v8
 (xF fPick [(.bool true), (.bool true), undef] fun v12 =>
xF fMove [v12] fun v13 =>
xIf v13
 (xF fPick [(.bool true), (.bool true), undef] fun v17 =>
xF fMove [v17] fun v18 =>
xIf v18
 (xF (fFld 2) [(locP 2)] fun v19 =>
xO (gLoad 1 false [v19] c2) fun v20 =>
xF (fFld 1) [(locP 3)] fun v21 =>
xO (gLoad 1 false [v21] c3) fun v22 =>
xF (fBin .eql .no) [v20, v22] fun v23 =>
xF fPick [(.bool true), v23, (.bool false)] fun v24 =>
xF fMove [v24] fun v4 =>
K v4 σ)
 (xF fPick [(.bool false), undef, (.bool false)] fun v24 =>
xF fMove [v24] fun v4 =>
K v4 σ))
 (xF (fFld 0) [(locP 2)] fun v14 =>
xO (gLoad 1 false [v14] c2) fun v15 =>
xF (fBin .eql .no) [v15, (.int .i64 4)] fun v16 =>
xF fPick [(.bool false), (.bool true), v16] fun v17 =>
xF fMove [v17] fun v18 =>
xIf v18
 (xF (fFld 2) [(locP 2)] fun v19 =>
xO (gLoad 1 false [v19] c2) fun v20 =>
xF (fFld 1) [(locP 3)] fun v21 =>
xO (gLoad 1 false [v21] c3) fun v22 =>
xF (fBin .eql .no) [v20, v22] fun v23 =>
xF fPick [(.bool true), v23, (.bool false)] fun v24 =>
xF fMove [v24] fun v4 =>
K v4 σ)
 (xF fPick [(.bool false), undef, (.bool false)] fun v24 =>
xF fMove [v24] fun v4 =>
K v4 σ)))
 (xF (fFld 0) [(locP 2)] fun v9 =>
xO (gLoad 1 false [v9] c2) fun v10 =>
xF (fBin .eql .no) [v10, (.int .i64 2)] fun v11 =>
xF fPick [(.bool false), (.bool true), v11] fun v12 =>
xF fMove [v12] fun v13 =>
xIf v13
 (xF fPick [(.bool true), (.bool true), undef] fun v17 =>
xF fMove [v17] fun v18 =>
xIf v18
 (xF (fFld 2) [(locP 2)] fun v19 =>
xO (gLoad 1 false [v19] c2) fun v20 =>
xF (fFld 1) [(locP 3)] fun v21 =>
xO (gLoad 1 false [v21] c3) fun v22 =>
xF (fBin .eql .no) [v20, v22] fun v23 =>
xF fPick [(.bool true), v23, (.bool false)] fun v24 =>
xF fMove [v24] fun v4 =>
K v4 σ)
 (xF fPick [(.bool false), undef, (.bool false)] fun v24 =>
xF fMove [v24] fun v4 =>
K v4 σ))
 (xF (fFld 0) [(locP 2)] fun v14 =>
xO (gLoad 1 false [v14] c2) fun v15 =>
xF (fBin .eql .no) [v15, (.int .i64 4)] fun v16 =>
xF fPick [(.bool false), (.bool true), v16] fun v17 =>
xF fMove [v17] fun v18 =>
xIf v18
 (xF (fFld 2) [(locP 2)] fun v19 =>
xO (gLoad 1 false [v19] c2) fun v20 =>
xF (fFld 1) [(locP 3)] fun v21 =>
xO (gLoad 1 false [v21] c3) fun v22 =>
xF (fBin .eql .no) [v20, v22] fun v23 =>
xF fPick [(.bool true), v23, (.bool false)] fun v24 =>
xF fMove [v24] fun v4 =>
K v4 σ)
 (xF fPick [(.bool false), undef, (.bool false)] fun v24 =>
xF fMove [v24] fun v4 =>
K v4 σ)))
def s_drop_Live : Spec := fun args K σ => match args with
  | [a0, a1] => w_drop_Live a0 a1 K σ
  | _ => False
noncomputable def cx_drop_Live : Cx := { P := Try.prog, T := [], loc := [(2, 2), (3, 3), (5, 2), (9, 2), (14, 2), (19, 2), (21, 3)], eqt := [], n := 25, keep := [] }
theorem q_drop_Live : FnS cx_drop_Live Try.f38 (bodyOf Try.f38) 2 = s_drop_Live := by
  funext args K σ
  rcases args with _ | ⟨a0, _ | ⟨a1, _ | ⟨b, r⟩⟩⟩ <;> kernel_rfl
theorem e_drop_Live : Entry Try.prog 38 .none s_drop_Live :=
  entry (C := cx_drop_Live) TOk.nil mixedOk Try.func38 (by kernel_rfl) (by kernel_rfl) (by kernel_rfl) q_drop_Live
def xl_drop_Live : List (Nat × Nat) := [(2, 2), (3, 3), (5, 2), (9, 2), (14, 2), (19, 2), (21, 3)]
noncomputable def xc_drop_Live : XC XN :=
(.seq none
 (.reg [⟨none, some 2, [(.tmp 0)], ⟨.lb 2 4, rAny xl_drop_Live (.lb 2 4)⟩⟩,
  ⟨none, some 3, [(.tmp 1)], ⟨.lb 3 2, rAny xl_drop_Live (.lb 3 2)⟩⟩,
  ⟨none, some 4, [(.const (.bool false))], ⟨.f fMove, rMove⟩⟩])
 (.seq none
 (.reg [⟨none, some 5, [(.tmp 2)], ⟨.f (fFld 0), rFld 0⟩⟩,
  ⟨none, some 6, [(.tmp 5)], ⟨.lr 2 1 false, rLr1 2⟩⟩,
  ⟨none, some 7, [(.tmp 6), (.const (.int .i64 1))], ⟨.f (fBin .eql .no), rEql⟩⟩,
  ⟨none, some 8, [(.tmp 7)], ⟨.f fMove, rMove⟩⟩,
  ⟨(some (4, 3, false, some 8)), some 9, [(.tmp 2)], ⟨.f (fFld 0), rFld 0⟩⟩,
  ⟨(some (5, 3, false, some 8)), some 10, [(.tmp 9)], ⟨.lr 2 1 false, rLr1 2⟩⟩,
  ⟨(some (6, 3, false, some 8)), some 11, [(.tmp 10), (.const (.int .i64 2))], ⟨.f (fBin .eql .no), rEql⟩⟩,
  ⟨none, some 12, [(.tmp 8), (.const (.bool true)), (.tmp 11)], ⟨.f fPick, rPick⟩⟩,
  ⟨none, some 13, [(.tmp 12)], ⟨.f fMove, rMove⟩⟩,
  ⟨(some (9, 8, false, some 13)), some 14, [(.tmp 2)], ⟨.f (fFld 0), rFld 0⟩⟩,
  ⟨(some (10, 8, false, some 13)), some 15, [(.tmp 14)], ⟨.lr 2 1 false, rLr1 2⟩⟩,
  ⟨(some (11, 8, false, some 13)), some 16, [(.tmp 15), (.const (.int .i64 4))], ⟨.f (fBin .eql .no), rEql⟩⟩,
  ⟨none, some 17, [(.tmp 13), (.const (.bool true)), (.tmp 16)], ⟨.f fPick, rPick⟩⟩,
  ⟨none, some 18, [(.tmp 17)], ⟨.f fMove, rMove⟩⟩,
  ⟨(some (14, 13, true, some 18)), some 19, [(.tmp 2)], ⟨.f (fFld 2), rFld 2⟩⟩,
  ⟨(some (15, 13, true, some 18)), some 20, [(.tmp 19)], ⟨.lr 2 1 false, rLr1 2⟩⟩,
  ⟨(some (16, 13, true, some 18)), some 21, [(.tmp 3)], ⟨.f (fFld 1), rFld 1⟩⟩,
  ⟨(some (17, 13, true, some 18)), some 22, [(.tmp 21)], ⟨.lr 3 1 false, rLr1 3⟩⟩,
  ⟨(some (18, 13, true, some 18)), some 23, [(.tmp 20), (.tmp 22)], ⟨.f (fBin .eql .no), rEql⟩⟩,
  ⟨none, some 24, [(.tmp 18), (.tmp 23), (.const (.bool false))], ⟨.f fPick, rPick⟩⟩,
  ⟨none, some 4, [(.tmp 24)], ⟨.f fMove, rMove⟩⟩])
 .ret))
noncomputable def v_drop_Live : EvF := evFn 2 xc_drop_Live [.t 4]
theorem xt_drop_Live : toC cx_drop_Live (bodyOf Try.f38) = some (xc_drop_Live.map XN.sm) := by kernel_rfl
theorem xr_drop_Live : toR cx_drop_Live Try.f38.results.toList = some [.t 4] := by kernel_rfl
theorem xo_drop_Live : xc_drop_Live.ok xl_drop_Live := ⟨⟨rAny_ok (trivial), rAny_ok (trivial), rMove_ok, trivial⟩, ⟨⟨rFld_ok _, rLr1_ok _, rEql_ok, rMove_ok, rFld_ok _, rLr1_ok _, rEql_ok, rPick_ok, rMove_ok, rFld_ok _, rLr1_ok _, rEql_ok, rPick_ok, rMove_ok, rFld_ok _, rLr1_ok _, rFld_ok _, rLr1_ok _, rEql_ok, rPick_ok, rMove_ok, trivial⟩, trivial⟩⟩
theorem ve_drop_Live : EvOk s_drop_Live v_drop_Live := EvOk.of (evFn_sound (C := cx_drop_Live) xt_drop_Live xr_drop_Live xo_drop_Live) q_drop_Live
attribute [irreducible] w_drop_Live s_drop_Live
def w_word_Head (a0 : Value) (K : Value → Mem → Prop) (σ : Mem) : Prop :=
if true = true then (xC (gAlloc [(.int .i64 0), (.int .i64 0), (.int .i64 0), (.int .i64 0), (.bool false)] [] []) fun c2 =>
xF fMove [a0] fun v3 =>
xF (fBin .and .no) [v3, (.int .u64 3)] fun v4 =>
xF (fConv .i64) [v4] fun v5 =>
xF fMove [a0] fun v6 =>
xF (fBin .shr .no) [v6, (.int .u64 2)] fun v7 =>
xF (fBin .and .no) [v7, (.int .u64 65535)] fun v8 =>
xF (fConv .i64) [v8] fun v9 =>
xF fMove [a0] fun v10 =>
xF (fBin .shr .no) [v10, (.int .u64 18)] fun v11 =>
xF (fBin .and .no) [v11, (.int .u64 65535)] fun v12 =>
xF (fConv .i64) [v12] fun v13 =>
xF fMove [a0] fun v14 =>
xF (fBin .shr .no) [v14, (.int .u64 34)] fun v15 =>
xF (fBin .and .no) [v15, (.int .u64 65535)] fun v16 =>
xF (fConv .i64) [v16] fun v17 =>
xF fMove [a0] fun v18 =>
xF (fBin .shr .no) [v18, (.int .u64 50)] fun v19 =>
xF (fBin .and .no) [v19, (.int .u64 1)] fun v20 =>
xF (fBin .eql .no) [v20, (.int .u64 1)] fun v21 =>
xF (fBuild [(0, 1), (1, 1), (2, 1), (3, 1), (4, 1)] [(.int .i64 0), (.int .i64 0), (.int .i64 0), (.int .i64 0), (.bool false)] [0, 1, 2, 3, 4]) [v5, v9, v13, v17, v21] fun v22 =>
xC (gStore 5 [(locP 2), v22] c2) fun c2 =>
xO (gLoad 5 true [(locP 2)] c2) fun r2 =>
K r2 σ) else False
def s_word_Head : Spec := fun args K σ => match args with
  | [a0] => w_word_Head a0 K σ
  | _ => False
noncomputable def cx_word_Head : Cx := { P := Try.prog, T := [], loc := [(2, 2)], eqt := [], n := 23, keep := [] }
theorem q_word_Head : FnS cx_word_Head Try.f39 (bodyOf Try.f39) 1 = s_word_Head := by
  funext args K σ
  rcases args with _ | ⟨a0, _ | ⟨b, r⟩⟩ <;> kernel_rfl
theorem e_word_Head : Entry Try.prog 39 .none s_word_Head :=
  entry (C := cx_word_Head) TOk.nil mixedOk Try.func39 (by kernel_rfl) (by kernel_rfl) (by kernel_rfl) q_word_Head
def xl_word_Head : List (Nat × Nat) := [(2, 2)]
noncomputable def xc_word_Head : XC XN :=
(.seq none
 (.reg [⟨none, some 2, [], ⟨.la 2 [(.int .i64 0), (.int .i64 0), (.int .i64 0), (.int .i64 0), (.bool false)], rAny xl_word_Head (.la 2 [(.int .i64 0), (.int .i64 0), (.int .i64 0), (.int .i64 0), (.bool false)])⟩⟩])
 (.seq none
 (.reg [⟨none, some 3, [(.tmp 0)], ⟨.f fMove, rMove⟩⟩,
  ⟨none, some 4, [(.tmp 3), (.const (.int .u64 3))], ⟨.band .no, rAny xl_word_Head (.band .no)⟩⟩,
  ⟨none, some 5, [(.tmp 4)], ⟨.f (fConv .i64), rConv .i64⟩⟩,
  ⟨none, some 6, [(.tmp 0)], ⟨.f fMove, rMove⟩⟩,
  ⟨none, some 7, [(.tmp 6), (.const (.int .u64 2))], ⟨.f (fBin .shr .no), rAny xl_word_Head (.f (fBin .shr .no))⟩⟩,
  ⟨none, some 8, [(.tmp 7), (.const (.int .u64 65535))], ⟨.band .no, rAny xl_word_Head (.band .no)⟩⟩,
  ⟨none, some 9, [(.tmp 8)], ⟨.f (fConv .i64), rConv .i64⟩⟩,
  ⟨none, some 10, [(.tmp 0)], ⟨.f fMove, rMove⟩⟩,
  ⟨none, some 11, [(.tmp 10), (.const (.int .u64 18))], ⟨.f (fBin .shr .no), rAny xl_word_Head (.f (fBin .shr .no))⟩⟩,
  ⟨none, some 12, [(.tmp 11), (.const (.int .u64 65535))], ⟨.band .no, rAny xl_word_Head (.band .no)⟩⟩,
  ⟨none, some 13, [(.tmp 12)], ⟨.f (fConv .i64), rConv .i64⟩⟩,
  ⟨none, some 14, [(.tmp 0)], ⟨.f fMove, rMove⟩⟩,
  ⟨none, some 15, [(.tmp 14), (.const (.int .u64 34))], ⟨.f (fBin .shr .no), rAny xl_word_Head (.f (fBin .shr .no))⟩⟩,
  ⟨none, some 16, [(.tmp 15), (.const (.int .u64 65535))], ⟨.band .no, rAny xl_word_Head (.band .no)⟩⟩,
  ⟨none, some 17, [(.tmp 16)], ⟨.f (fConv .i64), rConv .i64⟩⟩,
  ⟨none, some 18, [(.tmp 0)], ⟨.f fMove, rMove⟩⟩,
  ⟨none, some 19, [(.tmp 18), (.const (.int .u64 50))], ⟨.f (fBin .shr .no), rAny xl_word_Head (.f (fBin .shr .no))⟩⟩,
  ⟨none, some 20, [(.tmp 19), (.const (.int .u64 1))], ⟨.band .no, rAny xl_word_Head (.band .no)⟩⟩,
  ⟨none, some 21, [(.tmp 20), (.const (.int .u64 1))], ⟨.f (fBin .eql .no), rEql⟩⟩,
  ⟨none, some 22, [(.tmp 5), (.tmp 9), (.tmp 13), (.tmp 17), (.tmp 21)], ⟨.f (fBuild [(0, 1), (1, 1), (2, 1), (3, 1), (4, 1)] [(.int .i64 0), (.int .i64 0), (.int .i64 0), (.int .i64 0), (.bool false)] [0, 1, 2, 3, 4]), rAny xl_word_Head (.f (fBuild [(0, 1), (1, 1), (2, 1), (3, 1), (4, 1)] [(.int .i64 0), (.int .i64 0), (.int .i64 0), (.int .i64 0), (.bool false)] [0, 1, 2, 3, 4]))⟩⟩,
  ⟨none, none, [(.tmp 2), (.tmp 22)], ⟨.ls 2 5, rAny xl_word_Head (.ls 2 5)⟩⟩])
 .ret))
noncomputable def v_word_Head : EvF := evFn 1 xc_word_Head [.c 2 2 5 true]
theorem xt_word_Head : toC cx_word_Head (bodyOf Try.f39) = some (xc_word_Head.map XN.sm) := by kernel_rfl
theorem xr_word_Head : toR cx_word_Head Try.f39.results.toList = some [.c 2 2 5 true] := by kernel_rfl
theorem xo_word_Head : xc_word_Head.ok xl_word_Head := ⟨⟨rAny_ok (trivial), trivial⟩, ⟨⟨rMove_ok, rAny_ok (trivial), rConv_ok _, rMove_ok, rAny_ok (eqv_bin _ _), rAny_ok (trivial), rConv_ok _, rMove_ok, rAny_ok (eqv_bin _ _), rAny_ok (trivial), rConv_ok _, rMove_ok, rAny_ok (eqv_bin _ _), rAny_ok (trivial), rConv_ok _, rMove_ok, rAny_ok (eqv_bin _ _), rAny_ok (trivial), rEql_ok, rAny_ok (eqv_build _ rfl _), rAny_ok (trivial), trivial⟩, trivial⟩⟩
theorem ve_word_Head : EvOk s_word_Head v_word_Head := EvOk.of (evFn_sound (C := cx_word_Head) xt_word_Head xr_word_Head xo_word_Head) q_word_Head
attribute [irreducible] w_word_Head s_word_Head
def w_access_Access_at (a0 : Value) (K : Value → Mem → Prop) (σ : Mem) : Prop :=
xF fMove [(.int .i64 0)] fun v2 =>
xF fMove [a0] fun v3 =>
xF fNil [v3] fun v4 =>
xF (fFld 9) [v4] fun v5 =>
hLoad 1 false [v5] (fun v6 σ =>
s_word_Slot [v6] (fun v7 σ =>
xF (fFldV 1 1 false) [v7] fun v8 =>
xF (fBin .add .no) [v8, (.int .i64 1)] fun v9 =>
xF fMove [a0] fun v10 =>
xF fNil [v10] fun v11 =>
xF (fFld 0) [v11] fun v12 =>
xF (fFld 2) [v12] fun v13 =>
hLoad 1 false [v13] (fun v14 σ =>
xF (fBin .add .no) [v9, v14] fun v15 =>
xF fMove [v15] fun v2 =>
K v2 σ) σ) σ) σ
def s_access_Access_at : Spec := fun args K σ => match args with
  | [a0] => w_access_Access_at a0 K σ
  | _ => False
noncomputable def cx_access_Access_at : Cx := { P := Try.prog, T := [(19, .none, s_word_Slot)], loc := [], eqt := [], n := 16, keep := [] }
theorem q_access_Access_at : FnS cx_access_Access_at Try.f40 (bodyOf Try.f40) 1 = s_access_Access_at := by
  funext args K σ
  rcases args with _ | ⟨a0, _ | ⟨b, r⟩⟩ <;> kernel_rfl
theorem e_access_Access_at : Entry Try.prog 40 .read s_access_Access_at :=
  entry (C := cx_access_Access_at) (TOk.cons e_word_Slot TOk.nil) mixedOk Try.func40 (by kernel_rfl) (by kernel_rfl) (by kernel_rfl) q_access_Access_at
def xl_access_Access_at : List (Nat × Nat) := []
noncomputable def xc_access_Access_at : XC XN :=
(.seq none
 (.reg [⟨none, some 2, [(.const (.int .i64 0))], ⟨.f fMove, rMove⟩⟩])
 (.seq none
 (.reg [⟨none, some 3, [(.tmp 0)], ⟨.f fMove, rMove⟩⟩,
  ⟨none, some 4, [(.tmp 3)], ⟨.f fNil, rNil⟩⟩,
  ⟨none, some 5, [(.tmp 4)], ⟨.f (fFld 9), rFld 9⟩⟩,
  ⟨none, some 6, [(.tmp 5)], ⟨.load 1 false, rLoad1⟩⟩,
  ⟨none, some 7, [(.tmp 6)], ⟨.call .none s_word_Slot v_word_Slot, rCall v_word_Slot⟩⟩,
  ⟨none, some 8, [(.tmp 7)], ⟨.f (fFldV 1 1 false), rAny xl_access_Access_at (.f (fFldV 1 1 false))⟩⟩,
  ⟨none, some 9, [(.tmp 8), (.const (.int .i64 1))], ⟨.f (fBin .add .no), rAdd⟩⟩,
  ⟨none, some 10, [(.tmp 0)], ⟨.f fMove, rMove⟩⟩,
  ⟨none, some 11, [(.tmp 10)], ⟨.f fNil, rNil⟩⟩,
  ⟨none, some 12, [(.tmp 11)], ⟨.f (fFld 0), rFld 0⟩⟩,
  ⟨none, some 13, [(.tmp 12)], ⟨.f (fFld 2), rFld 2⟩⟩,
  ⟨none, some 14, [(.tmp 13)], ⟨.load 1 false, rLoad1⟩⟩,
  ⟨none, some 15, [(.tmp 9), (.tmp 14)], ⟨.f (fBin .add .no), rAdd⟩⟩,
  ⟨none, some 2, [(.tmp 15)], ⟨.f fMove, rMove⟩⟩])
 .ret))
noncomputable def v_access_Access_at : EvF := evFn 1 xc_access_Access_at [.t 2]
theorem xt_access_Access_at : toC cx_access_Access_at (bodyOf Try.f40) = some (xc_access_Access_at.map XN.sm) := by kernel_rfl
theorem xr_access_Access_at : toR cx_access_Access_at Try.f40.results.toList = some [.t 2] := by kernel_rfl
theorem xo_access_Access_at : xc_access_Access_at.ok xl_access_Access_at := ⟨⟨rMove_ok, trivial⟩, ⟨⟨rMove_ok, rNil_ok, rFld_ok _, rLoad1_ok, rCall_ok ve_word_Slot, rAny_ok (eqv_fldV _ _ _), rAdd_ok, rMove_ok, rNil_ok, rFld_ok _, rFld_ok _, rLoad1_ok, rAdd_ok, rMove_ok, trivial⟩, trivial⟩⟩
theorem ve_access_Access_at : EvOk s_access_Access_at v_access_Access_at := EvOk.of (evFn_sound (C := cx_access_Access_at) xt_access_Access_at xr_access_Access_at xo_access_Access_at) q_access_Access_at
attribute [irreducible] w_access_Access_at s_access_Access_at
def w_word_Cell_j1b (K : Value → Mem → Prop) (c2 c3 : List Value) (σ : Mem) : Prop :=
xO (gLoad 3 true [(locP 3)] c3) fun v18 =>
xC (gStore 3 [(locP 2), v18] c2) fun c2 =>
xO (gLoad 3 true [(locP 2)] c2) fun r2 =>
K r2 σ
def w_word_Cell_j1 (K : Value → Mem → Prop) (ts : List Value) (ls : List (List Value)) (σ : Mem) : Prop := w_word_Cell_j1b K (ls.getD 0 []) (ls.getD 1 []) σ
def w_word_Cell (a0 : Value) (K : Value → Mem → Prop) (σ : Mem) : Prop :=
if true = true then (xC (gAlloc [(.int .i64 0), (.bool false), (.int .i64 0)] [] []) fun c2 =>
xF fMove [a0] fun v4 =>
xF (fBin .and .no) [v4, (.int .u64 1099511627775)] fun v5 =>
xF (fConv .i64) [v5] fun v6 =>
xF fMove [a0] fun v7 =>
xF (fBin .shr .no) [v7, (.int .u64 63)] fun v8 =>
xF (fBin .eql .no) [v8, (.int .u64 1)] fun v9 =>
xF (fBuild [(0, 1), (1, 1), (2, 1)] [(.int .i64 0), (.bool false), (.int .i64 0)] [0, 1]) [v6, v9] fun v10 =>
if true = true then (xC (gAlloc [(.int .i64 0), (.bool false), (.int .i64 0)] [] []) fun c3 =>
xC (gStore 3 [(locP 3), v10] c3) fun c3 =>
xJoin (w_word_Cell_j1 K) fun J1 =>
xF (fFld 1) [(locP 3)] fun v11 =>
xO (gLoad 1 false [v11] c3) fun v12 =>
xIf v12
 (xF fMove [a0] fun v13 =>
xF (fBin .shr .no) [v13, (.int .u64 40)] fun v14 =>
xF (fBin .and .no) [v14, (.int .u64 4194303)] fun v15 =>
xF (fConv .i64) [v15] fun v16 =>
xF (fFld 2) [(locP 3)] fun v17 =>
xC (gStore 1 [v17, v16] c3) fun c3 =>
J1 [] [c2, c3] σ)
 (J1 [] [c2, c3] σ)) else False) else False
def s_word_Cell : Spec := fun args K σ => match args with
  | [a0] => w_word_Cell a0 K σ
  | _ => False
noncomputable def cx_word_Cell : Cx := { P := Try.prog, T := [], loc := [(2, 2), (3, 3), (11, 3), (17, 3)], eqt := [], n := 19, keep := [(1000005, [], [2, 3])] }
theorem q_word_Cell : FnS cx_word_Cell Try.f24 (bodyOf Try.f24) 1 = s_word_Cell := by
  funext args K σ
  rcases args with _ | ⟨a0, _ | ⟨b, r⟩⟩ <;> kernel_rfl
theorem e_word_Cell : Entry Try.prog 24 .none s_word_Cell :=
  entry (C := cx_word_Cell) TOk.nil mixedOk Try.func24 (by kernel_rfl) (by kernel_rfl) (by kernel_rfl) q_word_Cell
def xl_word_Cell : List (Nat × Nat) := [(2, 2), (3, 3), (11, 3), (17, 3)]
noncomputable def xc_word_Cell : XC XN :=
(.seq none
 (.reg [⟨none, some 2, [], ⟨.la 2 [(.int .i64 0), (.bool false), (.int .i64 0)], rAny xl_word_Cell (.la 2 [(.int .i64 0), (.bool false), (.int .i64 0)])⟩⟩])
 (.seq none
 (.reg [⟨none, some 4, [(.tmp 0)], ⟨.f fMove, rMove⟩⟩,
  ⟨none, some 5, [(.tmp 4), (.const (.int .u64 1099511627775))], ⟨.band .no, rAny xl_word_Cell (.band .no)⟩⟩,
  ⟨none, some 6, [(.tmp 5)], ⟨.f (fConv .i64), rConv .i64⟩⟩,
  ⟨none, some 7, [(.tmp 0)], ⟨.f fMove, rMove⟩⟩,
  ⟨none, some 8, [(.tmp 7), (.const (.int .u64 63))], ⟨.f (fBin .shr .no), rAny xl_word_Cell (.f (fBin .shr .no))⟩⟩,
  ⟨none, some 9, [(.tmp 8), (.const (.int .u64 1))], ⟨.f (fBin .eql .no), rEql⟩⟩,
  ⟨none, some 10, [(.tmp 6), (.tmp 9)], ⟨.f (fBuild [(0, 1), (1, 1), (2, 1)] [(.int .i64 0), (.bool false), (.int .i64 0)] [0, 1]), rAny xl_word_Cell (.f (fBuild [(0, 1), (1, 1), (2, 1)] [(.int .i64 0), (.bool false), (.int .i64 0)] [0, 1]))⟩⟩,
  ⟨none, some 3, [], ⟨.la 3 [(.int .i64 0), (.bool false), (.int .i64 0)], rAny xl_word_Cell (.la 3 [(.int .i64 0), (.bool false), (.int .i64 0)])⟩⟩,
  ⟨none, none, [(.tmp 3), (.tmp 10)], ⟨.ls 3 3, rAny xl_word_Cell (.ls 3 3)⟩⟩])
 (.seq (some ([], [2, 3]))
 (.seq none
 (.reg [⟨none, some 11, [(.tmp 3)], ⟨.f (fFld 1), rFld 1⟩⟩,
  ⟨none, some 12, [(.tmp 11)], ⟨.lr 3 1 false, rLr1 3⟩⟩])
 (.cond (.tmp 12)
 (.reg [⟨none, some 13, [(.tmp 0)], ⟨.f fMove, rMove⟩⟩,
  ⟨none, some 14, [(.tmp 13), (.const (.int .u64 40))], ⟨.f (fBin .shr .no), rAny xl_word_Cell (.f (fBin .shr .no))⟩⟩,
  ⟨none, some 15, [(.tmp 14), (.const (.int .u64 4194303))], ⟨.band .no, rAny xl_word_Cell (.band .no)⟩⟩,
  ⟨none, some 16, [(.tmp 15)], ⟨.f (fConv .i64), rConv .i64⟩⟩,
  ⟨none, some 17, [(.tmp 3)], ⟨.f (fFld 2), rFld 2⟩⟩,
  ⟨none, none, [(.tmp 17), (.tmp 16)], ⟨.ls 3 1, rLs1 3⟩⟩])
 .skip))
 (.seq none
 (.reg [⟨none, some 18, [(.tmp 3)], ⟨.lr 3 3 true, rAny xl_word_Cell (.lr 3 3 true)⟩⟩,
  ⟨none, none, [(.tmp 2), (.tmp 18)], ⟨.ls 2 3, rAny xl_word_Cell (.ls 2 3)⟩⟩])
 .ret))))
noncomputable def v_word_Cell : EvF := evFn 1 xc_word_Cell [.c 2 2 3 true]
theorem xt_word_Cell : toC cx_word_Cell (bodyOf Try.f24) = some (xc_word_Cell.map XN.sm) := by kernel_rfl
theorem xr_word_Cell : toR cx_word_Cell Try.f24.results.toList = some [.c 2 2 3 true] := by kernel_rfl
theorem xo_word_Cell : xc_word_Cell.ok xl_word_Cell := ⟨⟨rAny_ok (trivial), trivial⟩, ⟨⟨rMove_ok, rAny_ok (trivial), rConv_ok _, rMove_ok, rAny_ok (eqv_bin _ _), rEql_ok, rAny_ok (eqv_build _ rfl _), rAny_ok (trivial), rAny_ok (trivial), trivial⟩, ⟨⟨⟨rFld_ok _, rLr1_ok _, trivial⟩, ⟨⟨rMove_ok, rAny_ok (eqv_bin _ _), rAny_ok (trivial), rConv_ok _, rFld_ok _, rLs1_ok _, trivial⟩, trivial⟩⟩, ⟨⟨rAny_ok (trivial), rAny_ok (trivial), trivial⟩, trivial⟩⟩⟩⟩
theorem ve_word_Cell : EvOk s_word_Cell v_word_Cell := EvOk.of (evFn_sound (C := cx_word_Cell) xt_word_Cell xr_word_Cell xo_word_Cell) q_word_Cell
attribute [irreducible] w_word_Cell_j1b w_word_Cell_j1 w_word_Cell s_word_Cell
def w_access_Access_next_j3b (K : Value → Mem → Prop) (v53 : Value) (σ : Mem) : Prop :=
xIf v53
 (xF fMove [(.int .i64 3)] fun v2 =>
K v2 σ)
 (xF fMove [(.int .i64 0)] fun v2 =>
K v2 σ)
def w_access_Access_next_j3 (K : Value → Mem → Prop) (ts : List Value) (ls : List (List Value)) (σ : Mem) : Prop := w_access_Access_next_j3b K (ts.getD 0 poison) σ
def w_access_Access_next_j2b (K : Value → Mem → Prop) (v42 : Value) (c3 c4 : List Value) (σ : Mem) : Prop :=
xIf v42
 (xF fMove [(.int .i64 5)] fun v2 =>
K v2 σ)
 (xJoin (w_access_Access_next_j3 K) fun J3 =>
xF (fFld 2) [(locP 3)] fun v54 =>
xO (gLoad 1 false [v54] c3) fun v55 =>
xF (fFld 3) [(locP 4)] fun v56 =>
xO (gLoad 1 false [v56] c4) fun v57 =>
xF (fBin .eql .no) [v55, v57] fun v58 =>
xF fMove [v58] fun v59 =>
xIf v59
 (xF (fFld 0) [(locP 4)] fun v60 =>
xO (gLoad 1 false [v60] c4) fun v61 =>
xF (fBin .eql .no) [v61, (.int .i64 2)] fun v62 =>
xF fPick [(.bool true), v62, (.bool false)] fun v63 =>
xF fMove [v63] fun v53 =>
J3 [v53] [] σ)
 (xF fPick [(.bool false), undef, (.bool false)] fun v63 =>
xF fMove [v63] fun v53 =>
J3 [v53] [] σ))
def w_access_Access_next_j2 (K : Value → Mem → Prop) (ts : List Value) (ls : List (List Value)) (σ : Mem) : Prop := w_access_Access_next_j2b K (ts.getD 0 poison) (ls.getD 0 []) (ls.getD 1 []) σ
def w_access_Access_next_j1b (K : Value → Mem → Prop) (v15 : Value) (c3 c4 : List Value) (σ : Mem) : Prop :=
xIf v15
 (xF fMove [(.int .i64 6)] fun v2 =>
K v2 σ)
 (xF (fFld 0) [(locP 4)] fun v39 =>
xO (gLoad 1 false [v39] c4) fun v40 =>
xF (fBin .eql .no) [v40, (.int .i64 4)] fun v41 =>
xF fMove [v41] fun v38 =>
xIf v38
 (xF fMove [(.int .i64 4)] fun v2 =>
K v2 σ)
 (xJoin (w_access_Access_next_j2 K) fun J2 =>
xF (fFld 1) [(locP 3)] fun v43 =>
xO (gLoad 1 false [v43] c3) fun v44 =>
xF (fUn .not) [v44] fun v45 =>
xF fMove [v45] fun v46 =>
xIf v46
 (xF fPick [(.bool true), (.bool true), undef] fun v52 =>
xF fMove [v52] fun v42 =>
J2 [v42] [c3, c4] σ)
 (xF (fFld 2) [(locP 3)] fun v47 =>
xO (gLoad 1 false [v47] c3) fun v48 =>
xF (fFld 3) [(locP 4)] fun v49 =>
xO (gLoad 1 false [v49] c4) fun v50 =>
xF (fBin .lss .no) [v48, v50] fun v51 =>
xF fPick [(.bool false), (.bool true), v51] fun v52 =>
xF fMove [v52] fun v42 =>
J2 [v42] [c3, c4] σ)))
def w_access_Access_next_j1 (K : Value → Mem → Prop) (ts : List Value) (ls : List (List Value)) (σ : Mem) : Prop := w_access_Access_next_j1b K (ts.getD 0 poison) (ls.getD 0 []) (ls.getD 1 []) σ
def w_access_Access_next (a0 : Value) (K : Value → Mem → Prop) (σ : Mem) : Prop :=
xF fMove [(.int .i64 0)] fun v2 =>
xF fMove [a0] fun v5 =>
xF fNil [v5] fun v6 =>
xF (fFld 10) [v6] fun v7 =>
hLoad 1 false [v7] (fun v8 σ =>
s_word_Cell [v8] (fun v9 σ =>
xF fMove [a0] fun v10 =>
xF fNil [v10] fun v11 =>
xF (fFld 9) [v11] fun v12 =>
hLoad 1 false [v12] (fun v13 σ =>
s_word_Slot [v13] (fun v14 σ =>
xC (gStore 3 [(locP 3), v9] [(.int .i64 0), (.bool false), (.int .i64 0)]) fun c3 =>
xC (gStore 4 [(locP 4), v14] [(.int .i64 0), (.int .i64 0), (.int .i64 0), (.int .i64 0)]) fun c4 =>
xJoin (w_access_Access_next_j1 K) fun J1 =>
xF fMove [a0] fun v16 =>
xF fNil [v16] fun v17 =>
xF (fFld 0) [v17] fun v18 =>
xF (fFld 0) [v18] fun v19 =>
hLoad 1 false [v19] (fun v20 σ =>
xF (fBin .eql .no) [v20, (.int .i64 1)] fun v21 =>
xF fMove [v21] fun v15 =>
xIf v15
 (J1 [v15] [c3, c4] σ)
 (xF fMove [a0] fun v22 =>
xF fNil [v22] fun v23 =>
xF (fFld 0) [v23] fun v24 =>
xF (fFld 0) [v24] fun v25 =>
hLoad 1 false [v25] (fun v26 σ =>
xF (fBin .eql .no) [v26, (.int .i64 3)] fun v27 =>
xF fMove [v27] fun v28 =>
xIf v28
 (xF (fFld 0) [(locP 3)] fun v29 =>
xO (gLoad 1 false [v29] c3) fun v30 =>
xF fMove [a0] fun v31 =>
xF fNil [v31] fun v32 =>
xF (fFld 0) [v32] fun v33 =>
xF (fFld 4) [v33] fun v34 =>
hLoad 1 false [v34] (fun v35 σ =>
xF (fBin .neq .no) [v30, v35] fun v36 =>
xF fPick [(.bool true), v36, (.bool false)] fun v37 =>
xF fMove [v37] fun v15 =>
J1 [v15] [c3, c4] σ) σ)
 (xF fPick [(.bool false), undef, (.bool false)] fun v37 =>
xF fMove [v37] fun v15 =>
J1 [v15] [c3, c4] σ)) σ)) σ) σ) σ) σ) σ
def s_access_Access_next : Spec := fun args K σ => match args with
  | [a0] => w_access_Access_next a0 K σ
  | _ => False
noncomputable def cx_access_Access_next : Cx := { P := Try.prog, T := [(24, .none, s_word_Cell), (19, .none, s_word_Slot)], loc := [(3, 3), (4, 4), (29, 3), (39, 4), (43, 3), (47, 3), (49, 4), (54, 3), (56, 4), (60, 4)], eqt := [], n := 64, keep := [(1000005, [15], [3, 4]), (1000009, [42], [3, 4]), (1000011, [53], [])] }
theorem q_access_Access_next : FnS cx_access_Access_next Try.f41 (bodyOf Try.f41) 1 = s_access_Access_next := by
  funext args K σ
  rcases args with _ | ⟨a0, _ | ⟨b, r⟩⟩ <;> kernel_rfl
theorem e_access_Access_next : Entry Try.prog 41 .read s_access_Access_next :=
  entry (C := cx_access_Access_next) (TOk.cons e_word_Cell (TOk.cons e_word_Slot TOk.nil)) mixedOk Try.func41 (by kernel_rfl) (by kernel_rfl) (by kernel_rfl) q_access_Access_next
def xl_access_Access_next : List (Nat × Nat) := [(3, 3), (4, 4), (29, 3), (39, 4), (43, 3), (47, 3), (49, 4), (54, 3), (56, 4), (60, 4)]
noncomputable def xc_access_Access_next : XC XN :=
(.seq none
 (.reg [⟨none, some 2, [(.const (.int .i64 0))], ⟨.f fMove, rMove⟩⟩])
 (.seq none
 (.reg [⟨none, some 5, [(.tmp 0)], ⟨.f fMove, rMove⟩⟩,
  ⟨none, some 6, [(.tmp 5)], ⟨.f fNil, rNil⟩⟩,
  ⟨none, some 7, [(.tmp 6)], ⟨.f (fFld 10), rFld 10⟩⟩,
  ⟨none, some 8, [(.tmp 7)], ⟨.load 1 false, rLoad1⟩⟩,
  ⟨none, some 9, [(.tmp 8)], ⟨.call .none s_word_Cell v_word_Cell, rCall v_word_Cell⟩⟩,
  ⟨none, some 10, [(.tmp 0)], ⟨.f fMove, rMove⟩⟩,
  ⟨none, some 11, [(.tmp 10)], ⟨.f fNil, rNil⟩⟩,
  ⟨none, some 12, [(.tmp 11)], ⟨.f (fFld 9), rFld 9⟩⟩,
  ⟨none, some 13, [(.tmp 12)], ⟨.load 1 false, rLoad1⟩⟩,
  ⟨none, some 14, [(.tmp 13)], ⟨.call .none s_word_Slot v_word_Slot, rCall v_word_Slot⟩⟩,
  ⟨none, some 3, [], ⟨.la 3 [(.int .i64 0), (.bool false), (.int .i64 0)], rAny xl_access_Access_next (.la 3 [(.int .i64 0), (.bool false), (.int .i64 0)])⟩⟩,
  ⟨none, some 4, [], ⟨.la 4 [(.int .i64 0), (.int .i64 0), (.int .i64 0), (.int .i64 0)], rAny xl_access_Access_next (.la 4 [(.int .i64 0), (.int .i64 0), (.int .i64 0), (.int .i64 0)])⟩⟩,
  ⟨none, none, [(.tmp 3), (.tmp 9)], ⟨.ls 3 3, rAny xl_access_Access_next (.ls 3 3)⟩⟩,
  ⟨none, none, [(.tmp 4), (.tmp 14)], ⟨.ls 4 4, rAny xl_access_Access_next (.ls 4 4)⟩⟩])
 (.seq none
 (.block 0
 (.seq (some ([15], [3, 4]))
 (.seq none
 (.reg [⟨none, some 16, [(.tmp 0)], ⟨.f fMove, rMove⟩⟩,
  ⟨none, some 17, [(.tmp 16)], ⟨.f fNil, rNil⟩⟩,
  ⟨none, some 18, [(.tmp 17)], ⟨.f (fFld 0), rFld 0⟩⟩,
  ⟨none, some 19, [(.tmp 18)], ⟨.f (fFld 0), rFld 0⟩⟩,
  ⟨none, some 20, [(.tmp 19)], ⟨.load 1 false, rLoad1⟩⟩,
  ⟨none, some 21, [(.tmp 20), (.const (.int .i64 1))], ⟨.f (fBin .eql .no), rEql⟩⟩,
  ⟨none, some 15, [(.tmp 21)], ⟨.f fMove, rMove⟩⟩])
 (.cond (.tmp 15)
 .skip
 (.reg [⟨none, some 22, [(.tmp 0)], ⟨.f fMove, rMove⟩⟩,
  ⟨none, some 23, [(.tmp 22)], ⟨.f fNil, rNil⟩⟩,
  ⟨none, some 24, [(.tmp 23)], ⟨.f (fFld 0), rFld 0⟩⟩,
  ⟨none, some 25, [(.tmp 24)], ⟨.f (fFld 0), rFld 0⟩⟩,
  ⟨none, some 26, [(.tmp 25)], ⟨.load 1 false, rLoad1⟩⟩,
  ⟨none, some 27, [(.tmp 26), (.const (.int .i64 3))], ⟨.f (fBin .eql .no), rEql⟩⟩,
  ⟨none, some 28, [(.tmp 27)], ⟨.f fMove, rMove⟩⟩,
  ⟨(some (7, 6, true, some 28)), some 29, [(.tmp 3)], ⟨.f (fFld 0), rFld 0⟩⟩,
  ⟨(some (8, 6, true, some 28)), some 30, [(.tmp 29)], ⟨.lr 3 1 false, rLr1 3⟩⟩,
  ⟨(some (9, 6, true, some 28)), some 31, [(.tmp 0)], ⟨.f fMove, rMove⟩⟩,
  ⟨(some (10, 6, true, some 28)), some 32, [(.tmp 31)], ⟨.f fNil, rNil⟩⟩,
  ⟨(some (11, 6, true, some 28)), some 33, [(.tmp 32)], ⟨.f (fFld 0), rFld 0⟩⟩,
  ⟨(some (12, 6, true, some 28)), some 34, [(.tmp 33)], ⟨.f (fFld 4), rFld 4⟩⟩,
  ⟨(some (13, 6, true, some 28)), some 35, [(.tmp 34)], ⟨.load 1 false, rLoad1⟩⟩,
  ⟨(some (14, 6, true, some 28)), some 36, [(.tmp 30), (.tmp 35)], ⟨.f (fBin .neq .no), rNeq⟩⟩,
  ⟨none, some 37, [(.tmp 28), (.tmp 36), (.const (.bool false))], ⟨.f fPick, rPick⟩⟩,
  ⟨none, some 15, [(.tmp 37)], ⟨.f fMove, rMove⟩⟩])))
 (.cond (.tmp 15)
 (.seq none
 (.reg [⟨none, some 2, [(.const (.int .i64 6))], ⟨.f fMove, rMove⟩⟩])
 .ret)
 (.seq none
 (.reg [⟨none, some 39, [(.tmp 4)], ⟨.f (fFld 0), rFld 0⟩⟩,
  ⟨none, some 40, [(.tmp 39)], ⟨.lr 4 1 false, rLr1 4⟩⟩,
  ⟨none, some 41, [(.tmp 40), (.const (.int .i64 4))], ⟨.f (fBin .eql .no), rEql⟩⟩,
  ⟨none, some 38, [(.tmp 41)], ⟨.f fMove, rMove⟩⟩])
 (.cond (.tmp 38)
 (.seq none
 (.reg [⟨none, some 2, [(.const (.int .i64 4))], ⟨.f fMove, rMove⟩⟩])
 .ret)
 (.seq (some ([42], [3, 4]))
 (.reg [⟨none, some 43, [(.tmp 3)], ⟨.f (fFld 1), rFld 1⟩⟩,
  ⟨none, some 44, [(.tmp 43)], ⟨.lr 3 1 false, rLr1 3⟩⟩,
  ⟨none, some 45, [(.tmp 44)], ⟨.f (fUn .not), rNot⟩⟩,
  ⟨none, some 46, [(.tmp 45)], ⟨.f fMove, rMove⟩⟩,
  ⟨(some (4, 3, false, some 46)), some 47, [(.tmp 3)], ⟨.f (fFld 2), rFld 2⟩⟩,
  ⟨(some (5, 3, false, some 46)), some 48, [(.tmp 47)], ⟨.lr 3 1 false, rLr1 3⟩⟩,
  ⟨(some (6, 3, false, some 46)), some 49, [(.tmp 4)], ⟨.f (fFld 3), rFld 3⟩⟩,
  ⟨(some (7, 3, false, some 46)), some 50, [(.tmp 49)], ⟨.lr 4 1 false, rLr1 4⟩⟩,
  ⟨(some (8, 3, false, some 46)), some 51, [(.tmp 48), (.tmp 50)], ⟨.f (fBin .lss .no), rLss⟩⟩,
  ⟨none, some 52, [(.tmp 46), (.const (.bool true)), (.tmp 51)], ⟨.f fPick, rPick⟩⟩,
  ⟨none, some 42, [(.tmp 52)], ⟨.f fMove, rMove⟩⟩])
 (.cond (.tmp 42)
 (.seq none
 (.reg [⟨none, some 2, [(.const (.int .i64 5))], ⟨.f fMove, rMove⟩⟩])
 .ret)
 (.seq (some ([53], []))
 (.reg [⟨none, some 54, [(.tmp 3)], ⟨.f (fFld 2), rFld 2⟩⟩,
  ⟨none, some 55, [(.tmp 54)], ⟨.lr 3 1 false, rLr1 3⟩⟩,
  ⟨none, some 56, [(.tmp 4)], ⟨.f (fFld 3), rFld 3⟩⟩,
  ⟨none, some 57, [(.tmp 56)], ⟨.lr 4 1 false, rLr1 4⟩⟩,
  ⟨none, some 58, [(.tmp 55), (.tmp 57)], ⟨.f (fBin .eql .no), rEql⟩⟩,
  ⟨none, some 59, [(.tmp 58)], ⟨.f fMove, rMove⟩⟩,
  ⟨(some (6, 5, true, some 59)), some 60, [(.tmp 4)], ⟨.f (fFld 0), rFld 0⟩⟩,
  ⟨(some (7, 5, true, some 59)), some 61, [(.tmp 60)], ⟨.lr 4 1 false, rLr1 4⟩⟩,
  ⟨(some (8, 5, true, some 59)), some 62, [(.tmp 61), (.const (.int .i64 2))], ⟨.f (fBin .eql .no), rEql⟩⟩,
  ⟨none, some 63, [(.tmp 59), (.tmp 62), (.const (.bool false))], ⟨.f fPick, rPick⟩⟩,
  ⟨none, some 53, [(.tmp 63)], ⟨.f fMove, rMove⟩⟩])
 (.cond (.tmp 53)
 (.seq none
 (.reg [⟨none, some 2, [(.const (.int .i64 3))], ⟨.f fMove, rMove⟩⟩])
 .ret)
 .skip)))))))))
 (.seq none
 (.reg [⟨none, some 2, [(.const (.int .i64 0))], ⟨.f fMove, rMove⟩⟩])
 .ret))))
noncomputable def v_access_Access_next : EvF := evFn 1 xc_access_Access_next [.t 2]
theorem xt_access_Access_next : toC cx_access_Access_next (bodyOf Try.f41) = some (xc_access_Access_next.map XN.sm) := by kernel_rfl
theorem xr_access_Access_next : toR cx_access_Access_next Try.f41.results.toList = some [.t 2] := by kernel_rfl
theorem xo_access_Access_next : xc_access_Access_next.ok xl_access_Access_next := ⟨⟨rMove_ok, trivial⟩, ⟨⟨rMove_ok, rNil_ok, rFld_ok _, rLoad1_ok, rCall_ok ve_word_Cell, rMove_ok, rNil_ok, rFld_ok _, rLoad1_ok, rCall_ok ve_word_Slot, rAny_ok (trivial), rAny_ok (trivial), rAny_ok (trivial), rAny_ok (trivial), trivial⟩, ⟨⟨⟨⟨rMove_ok, rNil_ok, rFld_ok _, rFld_ok _, rLoad1_ok, rEql_ok, rMove_ok, trivial⟩, ⟨trivial, ⟨rMove_ok, rNil_ok, rFld_ok _, rFld_ok _, rLoad1_ok, rEql_ok, rMove_ok, rFld_ok _, rLr1_ok _, rMove_ok, rNil_ok, rFld_ok _, rFld_ok _, rLoad1_ok, rNeq_ok, rPick_ok, rMove_ok, trivial⟩⟩⟩, ⟨⟨⟨rMove_ok, trivial⟩, trivial⟩, ⟨⟨rFld_ok _, rLr1_ok _, rEql_ok, rMove_ok, trivial⟩, ⟨⟨⟨rMove_ok, trivial⟩, trivial⟩, ⟨⟨rFld_ok _, rLr1_ok _, rNot_ok, rMove_ok, rFld_ok _, rLr1_ok _, rFld_ok _, rLr1_ok _, rLss_ok, rPick_ok, rMove_ok, trivial⟩, ⟨⟨⟨rMove_ok, trivial⟩, trivial⟩, ⟨⟨rFld_ok _, rLr1_ok _, rFld_ok _, rLr1_ok _, rEql_ok, rMove_ok, rFld_ok _, rLr1_ok _, rEql_ok, rPick_ok, rMove_ok, trivial⟩, ⟨⟨⟨rMove_ok, trivial⟩, trivial⟩, trivial⟩⟩⟩⟩⟩⟩⟩⟩, ⟨⟨rMove_ok, trivial⟩, trivial⟩⟩⟩⟩
theorem ve_access_Access_next : EvOk s_access_Access_next v_access_Access_next := EvOk.of (evFn_sound (C := cx_access_Access_next) xt_access_Access_next xr_access_Access_next xo_access_Access_next) q_access_Access_next
attribute [irreducible] w_access_Access_next_j3b w_access_Access_next_j3 w_access_Access_next_j2b w_access_Access_next_j2 w_access_Access_next_j1b w_access_Access_next_j1 w_access_Access_next s_access_Access_next
def w_drop_NewHelp (a0 a1 a2 : Value) (K : Value → Mem → Prop) (σ : Mem) : Prop :=
xF fMove [(.pointer none)] fun v6 =>
xF fMove [a0] fun v7 =>
xF fMove [a1] fun v8 =>
xF fMove [a2] fun v9 =>
xF (fBuild [(0, 1), (1, 1), (2, 1), (3, 1), (4, 1), (5, 1), (6, 1)] [(.int .i64 0), (.int .u64 0), (.int .i64 0), (.int .i64 0), (.int .u64 0), (.bool false), (.bool false)] [0, 1, 2]) [v7, v8, v9] fun v10 =>
hBox 7 [v10] (fun v11 σ =>
xF fMove [v11] fun v6 =>
K v6 σ) σ
def s_drop_NewHelp : Spec := fun args K σ => match args with
  | [a0, a1, a2] => w_drop_NewHelp a0 a1 a2 K σ
  | _ => False
noncomputable def cx_drop_NewHelp : Cx := { P := Try.prog, T := [], loc := [], eqt := [], n := 12, keep := [] }
theorem q_drop_NewHelp : FnS cx_drop_NewHelp Try.f42 (bodyOf Try.f42) 3 = s_drop_NewHelp := by
  funext args K σ
  rcases args with _ | ⟨a0, _ | ⟨a1, _ | ⟨a2, _ | ⟨b, r⟩⟩⟩⟩ <;> kernel_rfl
theorem e_drop_NewHelp : Entry Try.prog 42 .write s_drop_NewHelp :=
  entry (C := cx_drop_NewHelp) TOk.nil mixedOk Try.func42 (by kernel_rfl) (by kernel_rfl) (by kernel_rfl) q_drop_NewHelp
def xl_drop_NewHelp : List (Nat × Nat) := []
noncomputable def xc_drop_NewHelp : XC XN :=
(.seq none
 (.reg [⟨none, some 6, [(.const (.pointer none))], ⟨.f fMove, rMove⟩⟩])
 (.seq none
 (.reg [⟨none, some 7, [(.tmp 0)], ⟨.f fMove, rMove⟩⟩,
  ⟨none, some 8, [(.tmp 1)], ⟨.f fMove, rMove⟩⟩,
  ⟨none, some 9, [(.tmp 2)], ⟨.f fMove, rMove⟩⟩,
  ⟨none, some 10, [(.tmp 7), (.tmp 8), (.tmp 9)], ⟨.f (fBuild [(0, 1), (1, 1), (2, 1), (3, 1), (4, 1), (5, 1), (6, 1)] [(.int .i64 0), (.int .u64 0), (.int .i64 0), (.int .i64 0), (.int .u64 0), (.bool false), (.bool false)] [0, 1, 2]), rAny xl_drop_NewHelp (.f (fBuild [(0, 1), (1, 1), (2, 1), (3, 1), (4, 1), (5, 1), (6, 1)] [(.int .i64 0), (.int .u64 0), (.int .i64 0), (.int .i64 0), (.int .u64 0), (.bool false), (.bool false)] [0, 1, 2]))⟩⟩,
  ⟨none, some 11, [(.tmp 10)], ⟨.box 7, rAny xl_drop_NewHelp (.box 7)⟩⟩,
  ⟨none, some 6, [(.tmp 11)], ⟨.f fMove, rMove⟩⟩])
 .ret))
noncomputable def v_drop_NewHelp : EvF := evFn 3 xc_drop_NewHelp [.t 6]
theorem xt_drop_NewHelp : toC cx_drop_NewHelp (bodyOf Try.f42) = some (xc_drop_NewHelp.map XN.sm) := by kernel_rfl
theorem xr_drop_NewHelp : toR cx_drop_NewHelp Try.f42.results.toList = some [.t 6] := by kernel_rfl
theorem xo_drop_NewHelp : xc_drop_NewHelp.ok xl_drop_NewHelp := ⟨⟨rMove_ok, trivial⟩, ⟨⟨rMove_ok, rMove_ok, rMove_ok, rAny_ok (eqv_build _ rfl _), rAny_ok (trivial), rMove_ok, trivial⟩, trivial⟩⟩
theorem ve_drop_NewHelp : EvOk s_drop_NewHelp v_drop_NewHelp := EvOk.of (evFn_sound (C := cx_drop_NewHelp) xt_drop_NewHelp xr_drop_NewHelp xo_drop_NewHelp) q_drop_NewHelp
attribute [irreducible] w_drop_NewHelp s_drop_NewHelp
end Go.Fl
