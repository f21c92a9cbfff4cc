/- What the claim leans on, part 4: own readings of the program's functions, what they come to, laws of them. No condition. -/
import Derived.Test.YtdpojblcjobaoaaZAccessDrops3
namespace Go.Fl
open Go Go.Proofs
set_option linter.unusedVariables false
set_option maxRecDepth 10000000
def w_word_PutCell_j1b (K : Value → Mem → Prop) (v3 : Value) (σ : Mem) : Prop :=
xF fMove [v3] fun v16 =>
xF fMove [v16] fun v2 =>
K v2 σ
def w_word_PutCell_j1 (K : Value → Mem → Prop) (ts : List Value) (ls : List (List Value)) (σ : Mem) : Prop := w_word_PutCell_j1b K (ts.getD 0 poison) σ
def w_word_PutCell (a0 : Value) (K : Value → Mem → Prop) (σ : Mem) : Prop :=
xC (gBox 3 [a0] []) fun c1 =>
xF fMove [(.int .u64 0)] fun v2 =>
xF (fFld 0) [(locP 1)] fun v4 =>
xO (gLoad 1 false [v4] c1) fun v5 =>
s_word_fit [v5, (.int .i64 1099511627775)] (fun v6 σ =>
xF fMove [v6] fun v3 =>
xJoin (w_word_PutCell_j1 K) fun J1 =>
xF (fFld 1) [(locP 1)] fun v7 =>
xO (gLoad 1 false [v7] c1) fun v8 =>
xIf v8
 (xF fMove [v3] fun v9 =>
xF (fFld 2) [(locP 1)] fun v10 =>
xO (gLoad 1 false [v10] c1) fun v11 =>
s_word_fit [v11, (.int .i64 4194303)] (fun v12 σ =>
xF (fBin .shl .no) [v12, (.int .u64 40)] fun v13 =>
xF (fBin .or .no) [(.int .u64 9223372036854775808), v13] fun v14 =>
xF (fBin .or .no) [v9, v14] fun v15 =>
xF fMove [v15] fun v3 =>
J1 [v3] [] σ) σ)
 (J1 [v3] [] σ)) σ
def s_word_PutCell : Spec := fun args K σ => match args with
  | [a0] => w_word_PutCell a0 K σ
  | _ => False
noncomputable def cx_word_PutCell : Cx := { P := Try.prog, T := [(48, .none, s_word_fit)], loc := [(1, 1), (4, 1), (7, 1), (10, 1)], eqt := [], n := 17, keep := [(1000005, [3], [])] }
theorem q_word_PutCell : FnS cx_word_PutCell Try.f23 (bodyOf Try.f23) 1 = s_word_PutCell := by
  funext args K σ
  rcases args with _ | ⟨a0, _ | ⟨b, r⟩⟩ <;> kernel_rfl
theorem e_word_PutCell : Entry Try.prog 23 .none s_word_PutCell :=
  entry (C := cx_word_PutCell) (TOk.cons e_word_fit TOk.nil) mixedOk Try.func23 (by kernel_rfl) (by kernel_rfl) (by kernel_rfl) q_word_PutCell
def xl_word_PutCell : List (Nat × Nat) := [(1, 1), (4, 1), (7, 1), (10, 1)]
noncomputable def xc_word_PutCell : XC XN :=
(.seq none
 (.reg [⟨none, some 1, [(.tmp 0)], ⟨.lb 1 3, rAny xl_word_PutCell (.lb 1 3)⟩⟩,
  ⟨none, some 2, [(.const (.int .u64 0))], ⟨.f fMove, rMove⟩⟩])
 (.seq none
 (.reg [⟨none, some 4, [(.tmp 1)], ⟨.f (fFld 0), rFld 0⟩⟩,
  ⟨none, some 5, [(.tmp 4)], ⟨.lr 1 1 false, rLr1 1⟩⟩,
  ⟨none, some 6, [(.tmp 5), (.const (.int .i64 1099511627775))], ⟨.call .none s_word_fit v_word_fit, rCall v_word_fit⟩⟩,
  ⟨none, some 3, [(.tmp 6)], ⟨.f fMove, rMove⟩⟩])
 (.seq (some ([3], []))
 (.seq none
 (.reg [⟨none, some 7, [(.tmp 1)], ⟨.f (fFld 1), rFld 1⟩⟩,
  ⟨none, some 8, [(.tmp 7)], ⟨.lr 1 1 false, rLr1 1⟩⟩])
 (.cond (.tmp 8)
 (.reg [⟨none, some 9, [(.tmp 3)], ⟨.f fMove, rMove⟩⟩,
  ⟨none, some 10, [(.tmp 1)], ⟨.f (fFld 2), rFld 2⟩⟩,
  ⟨none, some 11, [(.tmp 10)], ⟨.lr 1 1 false, rLr1 1⟩⟩,
  ⟨none, some 12, [(.tmp 11), (.const (.int .i64 4194303))], ⟨.call .none s_word_fit v_word_fit, rCall v_word_fit⟩⟩,
  ⟨none, some 13, [(.tmp 12), (.const (.int .u64 40))], ⟨.f (fBin .shl .no), rAny xl_word_PutCell (.f (fBin .shl .no))⟩⟩,
  ⟨none, some 14, [(.const (.int .u64 9223372036854775808)), (.tmp 13)], ⟨.f (fBin .or .no), rAny xl_word_PutCell (.f (fBin .or .no))⟩⟩,
  ⟨none, some 15, [(.tmp 9), (.tmp 14)], ⟨.f (fBin .or .no), rAny xl_word_PutCell (.f (fBin .or .no))⟩⟩,
  ⟨none, some 3, [(.tmp 15)], ⟨.f fMove, rMove⟩⟩])
 .skip))
 (.seq none
 (.reg [⟨none, some 16, [(.tmp 3)], ⟨.f fMove, rMove⟩⟩,
  ⟨none, some 2, [(.tmp 16)], ⟨.f fMove, rMove⟩⟩])
 .ret))))
noncomputable def v_word_PutCell : EvF := evFn 1 xc_word_PutCell [.t 2]
theorem xt_word_PutCell : toC cx_word_PutCell (bodyOf Try.f23) = some (xc_word_PutCell.map XN.sm) := by kernel_rfl
theorem xr_word_PutCell : toR cx_word_PutCell Try.f23.results.toList = some [.t 2] := by kernel_rfl
theorem xo_word_PutCell : xc_word_PutCell.ok xl_word_PutCell := ⟨⟨rAny_ok (trivial), rMove_ok, trivial⟩, ⟨⟨rFld_ok _, rLr1_ok _, rCall_ok ve_word_fit, rMove_ok, trivial⟩, ⟨⟨⟨rFld_ok _, rLr1_ok _, trivial⟩, ⟨⟨rMove_ok, rFld_ok _, rLr1_ok _, rCall_ok ve_word_fit, rAny_ok (eqv_bin _ _), rAny_ok (eqv_bin _ _), rAny_ok (eqv_bin _ _), rMove_ok, trivial⟩, trivial⟩⟩, ⟨⟨rMove_ok, rMove_ok, trivial⟩, trivial⟩⟩⟩⟩
theorem ve_word_PutCell : EvOk s_word_PutCell v_word_PutCell := EvOk.of (evFn_sound (C := cx_word_PutCell) xt_word_PutCell xr_word_PutCell xo_word_PutCell) q_word_PutCell
attribute [irreducible] w_word_PutCell_j1b w_word_PutCell_j1 w_word_PutCell s_word_PutCell
def w_drop_Help_Step_j1b (K : Value → Mem → Prop) (σ : Mem) : Prop :=
xF fMove [(.bool false)] fun v4 =>
K v4 σ
def w_drop_Help_Step_j1 (K : Value → Mem → Prop) (ts : List Value) (ls : List (List Value)) (σ : Mem) : Prop := w_drop_Help_Step_j1b K σ
def w_drop_Help_Step_j2b (K : Value → Mem → Prop) (J1 : List Value → List (List Value) → Mem → Prop) (v0 : Value) (c3 c8 : List Value) (σ : Mem) : Prop :=
xF fMove [v0] fun v73 =>
xO (gLoad 9 true [(locP 3)] c3) fun v74 =>
xF (fFld 0) [(locP 3)] fun v75 =>
xO (gLoad 7 true [v75] c3) fun v76 =>
xF fMove [v0] fun v77 =>
xF fNil [v77] fun v78 =>
xF (fFld 0) [v78] fun v79 =>
hLoad 1 false [v79] (fun v80 σ =>
s_layout_Slot [v76, v80] (fun v81 σ =>
xF fMove [v0] fun v82 =>
xF fNil [v82] fun v83 =>
xF (fFld 1) [v83] fun v84 =>
hLoad 1 false [v84] (fun v85 σ =>
xO (gLoad 4 true [(locP 8)] c8) fun v86 =>
s_word_PutSlot [v86] (fun v87 σ =>
s_layout_Env_Cas [v74, v81, v85, v87] (fun v88 σ =>
xF fNil [v73] fun v89 =>
xF (fFld 6) [v89] fun v90 =>
hStore 1 [v90, v88] (fun _v σ =>
xF fMove [(.bool true)] fun v4 =>
K v4 σ) σ) σ) σ) σ) σ) σ
def w_drop_Help_Step_j2 (K : Value → Mem → Prop) (J1 : List Value → List (List Value) → Mem → Prop) (ts : List Value) (ls : List (List Value)) (σ : Mem) : Prop := w_drop_Help_Step_j2b K J1 (ts.getD 0 poison) (ls.getD 0 []) (ls.getD 1 []) σ
def w_drop_Help_Step_j3b (K : Value → Mem → Prop) (J1 : List Value → List (List Value) → Mem → Prop) (v0 : Value) (σ : Mem) : Prop :=
xF fMove [v0] fun v121 =>
xF fNil [v121] fun v122 =>
xF (fFld 5) [v122] fun v123 =>
hLoad 1 false [v123] (fun v124 σ =>
xF (fUn .not) [v124] fun v125 =>
xIf v125
 (xF fMove [v0] fun v126 =>
xF fNil [v126] fun v127 =>
xF (fFld 3) [v127] fun v128 =>
hLoad 1 false [v128] (fun v129 σ =>
xF (fBin .add .no) [v129, (.int .i64 1)] fun v130 =>
xF fNil [v126] fun v131 =>
xF (fFld 3) [v131] fun v132 =>
hStore 1 [v132, v130] (fun _v σ =>
J1 [] [] σ) σ) σ)
 (J1 [] [] σ)) σ
def w_drop_Help_Step_j3 (K : Value → Mem → Prop) (J1 : List Value → List (List Value) → Mem → Prop) (ts : List Value) (ls : List (List Value)) (σ : Mem) : Prop := w_drop_Help_Step_j3b K J1 (ts.getD 0 poison) σ
def w_drop_Help_Step (a0 a1 : Value) (K : Value → Mem → Prop) (σ : Mem) : Prop :=
xC (gBox 9 [a1] []) fun c3 =>
xF fMove [(.bool false)] fun v4 =>
xF fMove [a0] fun v9 =>
xF fNil [v9] fun v10 =>
xF (fFld 1) [v10] fun v11 =>
hLoad 1 false [v11] (fun v12 σ =>
s_word_Slot [v12] (fun v13 σ =>
xC (gStore 4 [(locP 5), v13] [(.int .i64 0), (.int .i64 0), (.int .i64 0), (.int .i64 0)]) fun c5 =>
xF (fFld 1) [(locP 5)] fun v14 =>
xO (gLoad 1 false [v14] c5) fun v15 =>
xF (fBin .add .no) [v15, (.int .i64 1)] fun v16 =>
xF fMove [a0] fun v17 =>
xF fNil [v17] fun v18 =>
xF (fFld 3) [v18] fun v19 =>
hLoad 1 false [v19] (fun v20 σ =>
xF (fBin .add .no) [v16, v20] fun v21 =>
xF fMove [v21] fun v6 =>
xF fMove [a0] fun v22 =>
xF fNil [v22] fun v23 =>
xF (fFld 4) [v23] fun v24 =>
hLoad 1 false [v24] (fun v25 σ =>
s_word_Cell [v25] (fun v26 σ =>
xC (gStore 3 [(locP 7), v26] [(.int .i64 0), (.bool false), (.int .i64 0)]) fun c7 =>
xJoin (w_drop_Help_Step_j1 K) fun J1 =>
xF fMove [a0] fun v51 =>
xF fNil [v51] fun v52 =>
xF (fFld 3) [v52] fun v53 =>
hLoad 1 false [v53] (fun v54 σ =>
xF fMove [a0] fun v55 =>
xF fNil [v55] fun v56 =>
xF (fFld 2) [v56] fun v57 =>
hLoad 1 false [v57] (fun v58 σ =>
xF (fBin .geq .no) [v54, v58] fun v59 =>
xF fMove [v59] fun v50 =>
xIf v50
 (xF (fFld 2) [(locP 5)] fun v60 =>
xO (gLoad 1 false [v60] c5) fun v61 =>
xF (fBin .add .no) [v61, (.int .i64 1)] fun v62 =>
xF (fBuild [(0, 1), (1, 1), (2, 1), (3, 1)] [(.int .i64 0), (.int .i64 0), (.int .i64 0), (.int .i64 0)] [0, 2]) [(.int .i64 0), v62] fun v63 =>
xC (gStore 4 [(locP 8), v63] [(.int .i64 0), (.int .i64 0), (.int .i64 0), (.int .i64 0)]) fun c8 =>
xJoin (w_drop_Help_Step_j2 K J1) fun J2 =>
xF (fFld 2) [(locP 5)] fun v64 =>
xO (gLoad 1 false [v64] c5) fun v65 =>
xF (fFld 0) [(locP 3)] fun v66 =>
xF (fFld 4) [v66] fun v67 =>
xO (gLoad 1 false [v67] c3) fun v68 =>
xF (fBin .geq .no) [v65, v68] fun v69 =>
xIf v69
 (xF (fFld 2) [(locP 5)] fun v70 =>
xO (gLoad 1 false [v70] c5) fun v71 =>
xF (fBuild [(0, 1), (1, 1), (2, 1), (3, 1)] [(.int .i64 0), (.int .i64 0), (.int .i64 0), (.int .i64 0)] [0, 2]) [(.int .i64 3), v71] fun v72 =>
xC (gStore 4 [(locP 8), v72] c8) fun c8 =>
J2 [a0] [c3, c8] σ)
 (J2 [a0] [c3, c8] σ))
 (xF fMove [a0] fun v92 =>
xF fNil [v92] fun v93 =>
xF (fFld 5) [v93] fun v94 =>
hLoad 1 false [v94] (fun v95 σ =>
xF (fUn .not) [v95] fun v96 =>
xF fMove [v96] fun v91 =>
xIf v91
 (xF fMove [a0] fun v97 =>
xO (gLoad 9 true [(locP 3)] c3) fun v98 =>
xF fMove [v6] fun v99 =>
s_layout_Env_Load [v98, v99] (fun v100 σ =>
xF fNil [v97] fun v101 =>
xF (fFld 4) [v101] fun v102 =>
hStore 1 [v102, v100] (fun _v σ =>
xF fMove [a0] fun v103 =>
xF fNil [v103] fun v104 =>
xF (fFld 4) [v104] fun v105 =>
hLoad 1 false [v105] (fun v106 σ =>
s_word_Cell [v106] (fun v107 σ =>
xC (gStore 3 [(locP 7), v107] c7) fun c7 =>
xJoin (w_drop_Help_Step_j3 K J1) fun J3 =>
xF fMove [a0] fun v108 =>
xF (fFld 1) [(locP 7)] fun v109 =>
xO (gLoad 1 false [v109] c7) fun v110 =>
xF (fUn .not) [v110] fun v111 =>
xF fMove [v111] fun v112 =>
xIf v112
 (xF fPick [(.bool true), (.bool true), undef] fun v118 =>
xF fNil [v108] fun v119 =>
xF (fFld 5) [v119] fun v120 =>
hStore 1 [v120, v118] (fun _v σ =>
J3 [a0] [] σ) σ)
 (xF (fFld 2) [(locP 7)] fun v113 =>
xO (gLoad 1 false [v113] c7) fun v114 =>
xF (fFld 3) [(locP 5)] fun v115 =>
xO (gLoad 1 false [v115] c5) fun v116 =>
xF (fBin .neq .no) [v114, v116] fun v117 =>
xF fPick [(.bool false), (.bool true), v117] fun v118 =>
xF fNil [v108] fun v119 =>
xF (fFld 5) [v119] fun v120 =>
hStore 1 [v120, v118] (fun _v σ =>
J3 [a0] [] σ) σ)) σ) σ) σ) σ)
 (xF fMove [a0] fun v27 =>
xF fNil [v27] fun v28 =>
xF (fFld 5) [v28] fun v29 =>
hStore 1 [v29, (.bool false)] (fun _v σ =>
xO (gLoad 9 true [(locP 3)] c3) fun v30 =>
xF fMove [v6] fun v31 =>
xF fMove [a0] fun v32 =>
xF fNil [v32] fun v33 =>
xF (fFld 4) [v33] fun v34 =>
hLoad 1 false [v34] (fun v35 σ =>
xF (fFld 0) [(locP 7)] fun v36 =>
xO (gLoad 1 false [v36] c7) fun v37 =>
xF (fFld 3) [(locP 5)] fun v38 =>
xO (gLoad 1 false [v38] c5) fun v39 =>
xF (fBuild [(0, 1), (1, 1), (2, 1)] [(.int .i64 0), (.bool false), (.int .i64 0)] [0, 1, 2]) [v37, (.bool true), v39] fun v40 =>
s_word_PutCell [v40] (fun v41 σ =>
s_layout_Env_Cas [v30, v31, v35, v41] (fun v42 σ =>
xIf v42
 (xF fMove [a0] fun v43 =>
xF fNil [v43] fun v44 =>
xF (fFld 3) [v44] fun v45 =>
hLoad 1 false [v45] (fun v46 σ =>
xF (fBin .add .no) [v46, (.int .i64 1)] fun v47 =>
xF fNil [v43] fun v48 =>
xF (fFld 3) [v48] fun v49 =>
hStore 1 [v49, v47] (fun _v σ =>
J1 [] [] σ) σ) σ)
 (J1 [] [] σ)) σ) σ) σ) σ)) σ)) σ) σ) σ) σ) σ) σ) σ
def s_drop_Help_Step : Spec := fun args K σ => match args with
  | [a0, a1] => w_drop_Help_Step a0 a1 K σ
  | _ => False
noncomputable def cx_drop_Help_Step : Cx := { P := Try.prog, T := [(19, .none, s_word_Slot), (24, .none, s_word_Cell), (18, .none, s_layout_Slot), (22, .none, s_word_PutSlot), (43, .write, s_layout_Env_Cas), (37, .write, s_layout_Env_Load), (23, .none, s_word_PutCell)], loc := [(3, 3), (5, 5), (7, 7), (8, 8), (14, 5), (36, 7), (38, 5), (60, 5), (64, 5), (66, 3), (67, 3), (70, 5), (75, 3), (109, 7), (113, 7), (115, 5)], eqt := [], n := 133, keep := [(1000012, [0], [3, 8]), (1000018, [0], []), (1000020, [], [])] }
theorem q_drop_Help_Step : FnS cx_drop_Help_Step Try.f44 (bodyOf Try.f44) 2 = s_drop_Help_Step := by
  funext args K σ
  rcases args with _ | ⟨a0, _ | ⟨a1, _ | ⟨b, r⟩⟩⟩ <;> kernel_rfl
theorem e_drop_Help_Step : Entry Try.prog 44 .write s_drop_Help_Step :=
  entry (C := cx_drop_Help_Step) (TOk.cons e_word_Slot (TOk.cons e_word_Cell (TOk.cons e_layout_Slot (TOk.cons e_word_PutSlot (TOk.cons e_layout_Env_Cas (TOk.cons e_layout_Env_Load (TOk.cons e_word_PutCell TOk.nil))))))) mixedOk Try.func44 (by kernel_rfl) (by kernel_rfl) (by kernel_rfl) q_drop_Help_Step
def xl_drop_Help_Step : List (Nat × Nat) := [(3, 3), (5, 5), (7, 7), (8, 8), (14, 5), (36, 7), (38, 5), (60, 5), (64, 5), (66, 3), (67, 3), (70, 5), (75, 3), (109, 7), (113, 7), (115, 5)]
noncomputable def xc_drop_Help_Step : XC XN :=
(.seq none
 (.reg [⟨none, some 3, [(.tmp 1)], ⟨.lb 3 9, rAny xl_drop_Help_Step (.lb 3 9)⟩⟩,
  ⟨none, some 4, [(.const (.bool false))], ⟨.f fMove, rMove⟩⟩])
 (.seq none
 (.reg [⟨none, some 9, [(.tmp 0)], ⟨.f fMove, rMove⟩⟩,
  ⟨none, some 10, [(.tmp 9)], ⟨.f fNil, rNil⟩⟩,
  ⟨none, some 11, [(.tmp 10)], ⟨.f (fFld 1), rFld 1⟩⟩,
  ⟨none, some 12, [(.tmp 11)], ⟨.load 1 false, rLoad1⟩⟩,
  ⟨none, some 13, [(.tmp 12)], ⟨.call .none s_word_Slot v_word_Slot, rCall v_word_Slot⟩⟩,
  ⟨none, some 5, [], ⟨.la 5 [(.int .i64 0), (.int .i64 0), (.int .i64 0), (.int .i64 0)], rAny xl_drop_Help_Step (.la 5 [(.int .i64 0), (.int .i64 0), (.int .i64 0), (.int .i64 0)])⟩⟩,
  ⟨none, none, [(.tmp 5), (.tmp 13)], ⟨.ls 5 4, rAny xl_drop_Help_Step (.ls 5 4)⟩⟩])
 (.seq none
 (.reg [⟨none, some 14, [(.tmp 5)], ⟨.f (fFld 1), rFld 1⟩⟩,
  ⟨none, some 15, [(.tmp 14)], ⟨.lr 5 1 false, rLr1 5⟩⟩,
  ⟨none, some 16, [(.tmp 15), (.const (.int .i64 1))], ⟨.f (fBin .add .no), rAdd⟩⟩,
  ⟨none, some 17, [(.tmp 0)], ⟨.f fMove, rMove⟩⟩,
  ⟨none, some 18, [(.tmp 17)], ⟨.f fNil, rNil⟩⟩,
  ⟨none, some 19, [(.tmp 18)], ⟨.f (fFld 3), rFld 3⟩⟩,
  ⟨none, some 20, [(.tmp 19)], ⟨.load 1 false, rLoad1⟩⟩,
  ⟨none, some 21, [(.tmp 16), (.tmp 20)], ⟨.f (fBin .add .no), rAdd⟩⟩,
  ⟨none, some 6, [(.tmp 21)], ⟨.f fMove, rMove⟩⟩])
 (.seq none
 (.reg [⟨none, some 22, [(.tmp 0)], ⟨.f fMove, rMove⟩⟩,
  ⟨none, some 23, [(.tmp 22)], ⟨.f fNil, rNil⟩⟩,
  ⟨none, some 24, [(.tmp 23)], ⟨.f (fFld 4), rFld 4⟩⟩,
  ⟨none, some 25, [(.tmp 24)], ⟨.load 1 false, rLoad1⟩⟩,
  ⟨none, some 26, [(.tmp 25)], ⟨.call .none s_word_Cell v_word_Cell, rCall v_word_Cell⟩⟩,
  ⟨none, some 7, [], ⟨.la 7 [(.int .i64 0), (.bool false), (.int .i64 0)], rAny xl_drop_Help_Step (.la 7 [(.int .i64 0), (.bool false), (.int .i64 0)])⟩⟩,
  ⟨none, none, [(.tmp 7), (.tmp 26)], ⟨.ls 7 3, rAny xl_drop_Help_Step (.ls 7 3)⟩⟩])
 (.seq (some ([], []))
 (.block 0
 (.seq none
 (.reg [⟨none, some 51, [(.tmp 0)], ⟨.f fMove, rMove⟩⟩,
  ⟨none, some 52, [(.tmp 51)], ⟨.f fNil, rNil⟩⟩,
  ⟨none, some 53, [(.tmp 52)], ⟨.f (fFld 3), rFld 3⟩⟩,
  ⟨none, some 54, [(.tmp 53)], ⟨.load 1 false, rLoad1⟩⟩,
  ⟨none, some 55, [(.tmp 0)], ⟨.f fMove, rMove⟩⟩,
  ⟨none, some 56, [(.tmp 55)], ⟨.f fNil, rNil⟩⟩,
  ⟨none, some 57, [(.tmp 56)], ⟨.f (fFld 2), rFld 2⟩⟩,
  ⟨none, some 58, [(.tmp 57)], ⟨.load 1 false, rLoad1⟩⟩,
  ⟨none, some 59, [(.tmp 54), (.tmp 58)], ⟨.f (fBin .geq .no), rGeq⟩⟩,
  ⟨none, some 50, [(.tmp 59)], ⟨.f fMove, rMove⟩⟩])
 (.cond (.tmp 50)
 (.seq none
 (.reg [⟨none, some 60, [(.tmp 5)], ⟨.f (fFld 2), rFld 2⟩⟩,
  ⟨none, some 61, [(.tmp 60)], ⟨.lr 5 1 false, rLr1 5⟩⟩,
  ⟨none, some 62, [(.tmp 61), (.const (.int .i64 1))], ⟨.f (fBin .add .no), rAdd⟩⟩,
  ⟨none, some 63, [(.const (.int .i64 0)), (.tmp 62)], ⟨.f (fBuild [(0, 1), (1, 1), (2, 1), (3, 1)] [(.int .i64 0), (.int .i64 0), (.int .i64 0), (.int .i64 0)] [0, 2]), rAny xl_drop_Help_Step (.f (fBuild [(0, 1), (1, 1), (2, 1), (3, 1)] [(.int .i64 0), (.int .i64 0), (.int .i64 0), (.int .i64 0)] [0, 2]))⟩⟩,
  ⟨none, some 8, [], ⟨.la 8 [(.int .i64 0), (.int .i64 0), (.int .i64 0), (.int .i64 0)], rAny xl_drop_Help_Step (.la 8 [(.int .i64 0), (.int .i64 0), (.int .i64 0), (.int .i64 0)])⟩⟩,
  ⟨none, none, [(.tmp 8), (.tmp 63)], ⟨.ls 8 4, rAny xl_drop_Help_Step (.ls 8 4)⟩⟩])
 (.seq (some ([0], [3, 8]))
 (.seq none
 (.reg [⟨none, some 64, [(.tmp 5)], ⟨.f (fFld 2), rFld 2⟩⟩,
  ⟨none, some 65, [(.tmp 64)], ⟨.lr 5 1 false, rLr1 5⟩⟩,
  ⟨none, some 66, [(.tmp 3)], ⟨.f (fFld 0), rFld 0⟩⟩,
  ⟨none, some 67, [(.tmp 66)], ⟨.f (fFld 4), rFld 4⟩⟩,
  ⟨none, some 68, [(.tmp 67)], ⟨.lr 3 1 false, rLr1 3⟩⟩,
  ⟨none, some 69, [(.tmp 65), (.tmp 68)], ⟨.f (fBin .geq .no), rGeq⟩⟩])
 (.cond (.tmp 69)
 (.reg [⟨none, some 70, [(.tmp 5)], ⟨.f (fFld 2), rFld 2⟩⟩,
  ⟨none, some 71, [(.tmp 70)], ⟨.lr 5 1 false, rLr1 5⟩⟩,
  ⟨none, some 72, [(.const (.int .i64 3)), (.tmp 71)], ⟨.f (fBuild [(0, 1), (1, 1), (2, 1), (3, 1)] [(.int .i64 0), (.int .i64 0), (.int .i64 0), (.int .i64 0)] [0, 2]), rAny xl_drop_Help_Step (.f (fBuild [(0, 1), (1, 1), (2, 1), (3, 1)] [(.int .i64 0), (.int .i64 0), (.int .i64 0), (.int .i64 0)] [0, 2]))⟩⟩,
  ⟨none, none, [(.tmp 8), (.tmp 72)], ⟨.ls 8 4, rAny xl_drop_Help_Step (.ls 8 4)⟩⟩])
 .skip))
 (.seq none
 (.reg [⟨none, some 73, [(.tmp 0)], ⟨.f fMove, rMove⟩⟩,
  ⟨none, some 74, [(.tmp 3)], ⟨.lr 3 9 true, rAny xl_drop_Help_Step (.lr 3 9 true)⟩⟩,
  ⟨none, some 75, [(.tmp 3)], ⟨.f (fFld 0), rFld 0⟩⟩,
  ⟨none, some 76, [(.tmp 75)], ⟨.lr 3 7 true, rAny xl_drop_Help_Step (.lr 3 7 true)⟩⟩,
  ⟨none, some 77, [(.tmp 0)], ⟨.f fMove, rMove⟩⟩,
  ⟨none, some 78, [(.tmp 77)], ⟨.f fNil, rNil⟩⟩,
  ⟨none, some 79, [(.tmp 78)], ⟨.f (fFld 0), rFld 0⟩⟩,
  ⟨none, some 80, [(.tmp 79)], ⟨.load 1 false, rLoad1⟩⟩,
  ⟨none, some 81, [(.tmp 76), (.tmp 80)], ⟨.call .none s_layout_Slot v_layout_Slot, rCall v_layout_Slot⟩⟩,
  ⟨none, some 82, [(.tmp 0)], ⟨.f fMove, rMove⟩⟩,
  ⟨none, some 83, [(.tmp 82)], ⟨.f fNil, rNil⟩⟩,
  ⟨none, some 84, [(.tmp 83)], ⟨.f (fFld 1), rFld 1⟩⟩,
  ⟨none, some 85, [(.tmp 84)], ⟨.load 1 false, rLoad1⟩⟩,
  ⟨none, some 86, [(.tmp 8)], ⟨.lr 8 4 true, rAny xl_drop_Help_Step (.lr 8 4 true)⟩⟩,
  ⟨none, some 87, [(.tmp 86)], ⟨.call .none s_word_PutSlot v_word_PutSlot, rCall v_word_PutSlot⟩⟩,
  ⟨none, some 88, [(.tmp 74), (.tmp 81), (.tmp 85), (.tmp 87)], ⟨.call .write s_layout_Env_Cas v_layout_Env_Cas, rCall v_layout_Env_Cas⟩⟩,
  ⟨none, some 89, [(.tmp 73)], ⟨.f fNil, rNil⟩⟩,
  ⟨none, some 90, [(.tmp 89)], ⟨.f (fFld 6), rFld 6⟩⟩,
  ⟨none, none, [(.tmp 90), (.tmp 88)], ⟨.store 1, rStore1⟩⟩])
 (.seq none
 (.reg [⟨none, some 4, [(.const (.bool true))], ⟨.f fMove, rMove⟩⟩])
 .ret))))
 (.seq none
 (.reg [⟨none, some 92, [(.tmp 0)], ⟨.f fMove, rMove⟩⟩,
  ⟨none, some 93, [(.tmp 92)], ⟨.f fNil, rNil⟩⟩,
  ⟨none, some 94, [(.tmp 93)], ⟨.f (fFld 5), rFld 5⟩⟩,
  ⟨none, some 95, [(.tmp 94)], ⟨.load 1 false, rLoad1⟩⟩,
  ⟨none, some 96, [(.tmp 95)], ⟨.f (fUn .not), rNot⟩⟩,
  ⟨none, some 91, [(.tmp 96)], ⟨.f fMove, rMove⟩⟩])
 (.cond (.tmp 91)
 (.seq none
 (.reg [⟨none, some 97, [(.tmp 0)], ⟨.f fMove, rMove⟩⟩,
  ⟨none, some 98, [(.tmp 3)], ⟨.lr 3 9 true, rAny xl_drop_Help_Step (.lr 3 9 true)⟩⟩,
  ⟨none, some 99, [(.tmp 6)], ⟨.f fMove, rMove⟩⟩,
  ⟨none, some 100, [(.tmp 98), (.tmp 99)], ⟨.call .write s_layout_Env_Load v_layout_Env_Load, rCall v_layout_Env_Load⟩⟩,
  ⟨none, some 101, [(.tmp 97)], ⟨.f fNil, rNil⟩⟩,
  ⟨none, some 102, [(.tmp 101)], ⟨.f (fFld 4), rFld 4⟩⟩,
  ⟨none, none, [(.tmp 102), (.tmp 100)], ⟨.store 1, rStore1⟩⟩])
 (.seq none
 (.reg [⟨none, some 103, [(.tmp 0)], ⟨.f fMove, rMove⟩⟩,
  ⟨none, some 104, [(.tmp 103)], ⟨.f fNil, rNil⟩⟩,
  ⟨none, some 105, [(.tmp 104)], ⟨.f (fFld 4), rFld 4⟩⟩,
  ⟨none, some 106, [(.tmp 105)], ⟨.load 1 false, rLoad1⟩⟩,
  ⟨none, some 107, [(.tmp 106)], ⟨.call .none s_word_Cell v_word_Cell, rCall v_word_Cell⟩⟩,
  ⟨none, none, [(.tmp 7), (.tmp 107)], ⟨.ls 7 3, rAny xl_drop_Help_Step (.ls 7 3)⟩⟩])
 (.seq (some ([0], []))
 (.reg [⟨none, some 108, [(.tmp 0)], ⟨.f fMove, rMove⟩⟩,
  ⟨none, some 109, [(.tmp 7)], ⟨.f (fFld 1), rFld 1⟩⟩,
  ⟨none, some 110, [(.tmp 109)], ⟨.lr 7 1 false, rLr1 7⟩⟩,
  ⟨none, some 111, [(.tmp 110)], ⟨.f (fUn .not), rNot⟩⟩,
  ⟨none, some 112, [(.tmp 111)], ⟨.f fMove, rMove⟩⟩,
  ⟨(some (5, 4, false, some 112)), some 113, [(.tmp 7)], ⟨.f (fFld 2), rFld 2⟩⟩,
  ⟨(some (6, 4, false, some 112)), some 114, [(.tmp 113)], ⟨.lr 7 1 false, rLr1 7⟩⟩,
  ⟨(some (7, 4, false, some 112)), some 115, [(.tmp 5)], ⟨.f (fFld 3), rFld 3⟩⟩,
  ⟨(some (8, 4, false, some 112)), some 116, [(.tmp 115)], ⟨.lr 5 1 false, rLr1 5⟩⟩,
  ⟨(some (9, 4, false, some 112)), some 117, [(.tmp 114), (.tmp 116)], ⟨.f (fBin .neq .no), rNeq⟩⟩,
  ⟨none, some 118, [(.tmp 112), (.const (.bool true)), (.tmp 117)], ⟨.f fPick, rPick⟩⟩,
  ⟨none, some 119, [(.tmp 108)], ⟨.f fNil, rNil⟩⟩,
  ⟨none, some 120, [(.tmp 119)], ⟨.f (fFld 5), rFld 5⟩⟩,
  ⟨none, none, [(.tmp 120), (.tmp 118)], ⟨.store 1, rStore1⟩⟩])
 (.seq none
 (.reg [⟨none, some 121, [(.tmp 0)], ⟨.f fMove, rMove⟩⟩,
  ⟨none, some 122, [(.tmp 121)], ⟨.f fNil, rNil⟩⟩,
  ⟨none, some 123, [(.tmp 122)], ⟨.f (fFld 5), rFld 5⟩⟩,
  ⟨none, some 124, [(.tmp 123)], ⟨.load 1 false, rLoad1⟩⟩,
  ⟨none, some 125, [(.tmp 124)], ⟨.f (fUn .not), rNot⟩⟩])
 (.cond (.tmp 125)
 (.reg [⟨none, some 126, [(.tmp 0)], ⟨.f fMove, rMove⟩⟩,
  ⟨none, some 127, [(.tmp 126)], ⟨.f fNil, rNil⟩⟩,
  ⟨none, some 128, [(.tmp 127)], ⟨.f (fFld 3), rFld 3⟩⟩,
  ⟨none, some 129, [(.tmp 128)], ⟨.load 1 false, rLoad1⟩⟩,
  ⟨none, some 130, [(.tmp 129), (.const (.int .i64 1))], ⟨.f (fBin .add .no), rAdd⟩⟩,
  ⟨none, some 131, [(.tmp 126)], ⟨.f fNil, rNil⟩⟩,
  ⟨none, some 132, [(.tmp 131)], ⟨.f (fFld 3), rFld 3⟩⟩,
  ⟨none, none, [(.tmp 132), (.tmp 130)], ⟨.store 1, rStore1⟩⟩])
 .skip)))))
 (.seq none
 (.reg [⟨none, some 27, [(.tmp 0)], ⟨.f fMove, rMove⟩⟩,
  ⟨none, some 28, [(.tmp 27)], ⟨.f fNil, rNil⟩⟩,
  ⟨none, some 29, [(.tmp 28)], ⟨.f (fFld 5), rFld 5⟩⟩,
  ⟨none, none, [(.tmp 29), (.const (.bool false))], ⟨.store 1, rStore1⟩⟩])
 (.seq none
 (.reg [⟨none, some 30, [(.tmp 3)], ⟨.lr 3 9 true, rAny xl_drop_Help_Step (.lr 3 9 true)⟩⟩,
  ⟨none, some 31, [(.tmp 6)], ⟨.f fMove, rMove⟩⟩,
  ⟨none, some 32, [(.tmp 0)], ⟨.f fMove, rMove⟩⟩,
  ⟨none, some 33, [(.tmp 32)], ⟨.f fNil, rNil⟩⟩,
  ⟨none, some 34, [(.tmp 33)], ⟨.f (fFld 4), rFld 4⟩⟩,
  ⟨none, some 35, [(.tmp 34)], ⟨.load 1 false, rLoad1⟩⟩,
  ⟨none, some 36, [(.tmp 7)], ⟨.f (fFld 0), rFld 0⟩⟩,
  ⟨none, some 37, [(.tmp 36)], ⟨.lr 7 1 false, rLr1 7⟩⟩,
  ⟨none, some 38, [(.tmp 5)], ⟨.f (fFld 3), rFld 3⟩⟩,
  ⟨none, some 39, [(.tmp 38)], ⟨.lr 5 1 false, rLr1 5⟩⟩,
  ⟨none, some 40, [(.tmp 37), (.const (.bool true)), (.tmp 39)], ⟨.f (fBuild [(0, 1), (1, 1), (2, 1)] [(.int .i64 0), (.bool false), (.int .i64 0)] [0, 1, 2]), rAny xl_drop_Help_Step (.f (fBuild [(0, 1), (1, 1), (2, 1)] [(.int .i64 0), (.bool false), (.int .i64 0)] [0, 1, 2]))⟩⟩,
  ⟨none, some 41, [(.tmp 40)], ⟨.call .none s_word_PutCell v_word_PutCell, rCall v_word_PutCell⟩⟩,
  ⟨none, some 42, [(.tmp 30), (.tmp 31), (.tmp 35), (.tmp 41)], ⟨.call .write s_layout_Env_Cas v_layout_Env_Cas, rCall v_layout_Env_Cas⟩⟩])
 (.cond (.tmp 42)
 (.reg [⟨none, some 43, [(.tmp 0)], ⟨.f fMove, rMove⟩⟩,
  ⟨none, some 44, [(.tmp 43)], ⟨.f fNil, rNil⟩⟩,
  ⟨none, some 45, [(.tmp 44)], ⟨.f (fFld 3), rFld 3⟩⟩,
  ⟨none, some 46, [(.tmp 45)], ⟨.load 1 false, rLoad1⟩⟩,
  ⟨none, some 47, [(.tmp 46), (.const (.int .i64 1))], ⟨.f (fBin .add .no), rAdd⟩⟩,
  ⟨none, some 48, [(.tmp 43)], ⟨.f fNil, rNil⟩⟩,
  ⟨none, some 49, [(.tmp 48)], ⟨.f (fFld 3), rFld 3⟩⟩,
  ⟨none, none, [(.tmp 49), (.tmp 47)], ⟨.store 1, rStore1⟩⟩])
 .skip))))))))
 (.seq none
 (.reg [⟨none, some 4, [(.const (.bool false))], ⟨.f fMove, rMove⟩⟩])
 .ret))))))
noncomputable def v_drop_Help_Step : EvF := evFn 2 xc_drop_Help_Step [.t 4]
theorem xt_drop_Help_Step : toC cx_drop_Help_Step (bodyOf Try.f44) = some (xc_drop_Help_Step.map XN.sm) := by kernel_rfl
theorem xr_drop_Help_Step : toR cx_drop_Help_Step Try.f44.results.toList = some [.t 4] := by kernel_rfl
theorem xo_drop_Help_Step : xc_drop_Help_Step.ok xl_drop_Help_Step := ⟨⟨rAny_ok (trivial), rMove_ok, trivial⟩, ⟨⟨rMove_ok, rNil_ok, rFld_ok _, rLoad1_ok, rCall_ok ve_word_Slot, rAny_ok (trivial), rAny_ok (trivial), trivial⟩, ⟨⟨rFld_ok _, rLr1_ok _, rAdd_ok, rMove_ok, rNil_ok, rFld_ok _, rLoad1_ok, rAdd_ok, rMove_ok, trivial⟩, ⟨⟨rMove_ok, rNil_ok, rFld_ok _, rLoad1_ok, rCall_ok ve_word_Cell, rAny_ok (trivial), rAny_ok (trivial), trivial⟩, ⟨⟨⟨rMove_ok, rNil_ok, rFld_ok _, rLoad1_ok, rMove_ok, rNil_ok, rFld_ok _, rLoad1_ok, rGeq_ok, rMove_ok, trivial⟩, ⟨⟨⟨rFld_ok _, rLr1_ok _, rAdd_ok, rAny_ok (eqv_build _ rfl _), rAny_ok (trivial), rAny_ok (trivial), trivial⟩, ⟨⟨⟨rFld_ok _, rLr1_ok _, rFld_ok _, rFld_ok _, rLr1_ok _, rGeq_ok, trivial⟩, ⟨⟨rFld_ok _, rLr1_ok _, rAny_ok (eqv_build _ rfl _), rAny_ok (trivial), trivial⟩, trivial⟩⟩, ⟨⟨rMove_ok, rAny_ok (trivial), rFld_ok _, rAny_ok (trivial), rMove_ok, rNil_ok, rFld_ok _, rLoad1_ok, rCall_ok ve_layout_Slot, rMove_ok, rNil_ok, rFld_ok _, rLoad1_ok, rAny_ok (trivial), rCall_ok ve_word_PutSlot, rCall_ok ve_layout_Env_Cas, rNil_ok, rFld_ok _, rStore1_ok, trivial⟩, ⟨⟨rMove_ok, trivial⟩, trivial⟩⟩⟩⟩, ⟨⟨rMove_ok, rNil_ok, rFld_ok _, rLoad1_ok, rNot_ok, rMove_ok, trivial⟩, ⟨⟨⟨rMove_ok, rAny_ok (trivial), rMove_ok, rCall_ok ve_layout_Env_Load, rNil_ok, rFld_ok _, rStore1_ok, trivial⟩, ⟨⟨rMove_ok, rNil_ok, rFld_ok _, rLoad1_ok, rCall_ok ve_word_Cell, rAny_ok (trivial), trivial⟩, ⟨⟨rMove_ok, rFld_ok _, rLr1_ok _, rNot_ok, rMove_ok, rFld_ok _, rLr1_ok _, rFld_ok _, rLr1_ok _, rNeq_ok, rPick_ok, rNil_ok, rFld_ok _, rStore1_ok, trivial⟩, ⟨⟨rMove_ok, rNil_ok, rFld_ok _, rLoad1_ok, rNot_ok, trivial⟩, ⟨⟨rMove_ok, rNil_ok, rFld_ok _, rLoad1_ok, rAdd_ok, rNil_ok, rFld_ok _, rStore1_ok, trivial⟩, trivial⟩⟩⟩⟩⟩, ⟨⟨rMove_ok, rNil_ok, rFld_ok _, rStore1_ok, trivial⟩, ⟨⟨rAny_ok (trivial), rMove_ok, rMove_ok, rNil_ok, rFld_ok _, rLoad1_ok, rFld_ok _, rLr1_ok _, rFld_ok _, rLr1_ok _, rAny_ok (eqv_build _ rfl _), rCall_ok ve_word_PutCell, rCall_ok ve_layout_Env_Cas, trivial⟩, ⟨⟨rMove_ok, rNil_ok, rFld_ok _, rLoad1_ok, rAdd_ok, rNil_ok, rFld_ok _, rStore1_ok, trivial⟩, trivial⟩⟩⟩⟩⟩⟩⟩, ⟨⟨rMove_ok, trivial⟩, trivial⟩⟩⟩⟩⟩⟩
theorem ve_drop_Help_Step : EvOk s_drop_Help_Step v_drop_Help_Step := EvOk.of (evFn_sound (C := cx_drop_Help_Step) xt_drop_Help_Step xr_drop_Help_Step xo_drop_Help_Step) q_drop_Help_Step
attribute [irreducible] w_drop_Help_Step_j1b w_drop_Help_Step_j1 w_drop_Help_Step_j2b w_drop_Help_Step_j2 w_drop_Help_Step_j3b w_drop_Help_Step_j3 w_drop_Help_Step s_drop_Help_Step
def w_access_Access_check (a0 a1 : Value) (K : Value → Mem → Prop) (σ : Mem) : Prop :=
xC (gBox 9 [a1] []) fun c3 =>
xF fMove [(.bool false)] fun v4 =>
xO (gLoad 9 true [(locP 3)] c3) fun v7 =>
xF (fFld 0) [(locP 3)] fun v8 =>
xO (gLoad 7 true [v8] c3) fun v9 =>
xF fMove [a0] fun v10 =>
xF fNil [v10] fun v11 =>
xF (fFld 6) [v11] fun v12 =>
xF (fFld 0) [v12] fun v13 =>
hLoad 1 false [v13] (fun v14 σ =>
s_layout_Slot [v9, v14] (fun v15 σ =>
s_layout_Env_Load [v7, v15] (fun v16 σ =>
s_word_Slot [v16] (fun v17 σ =>
xC (gStore 4 [(locP 5), v17] [(.int .i64 0), (.int .i64 0), (.int .i64 0), (.int .i64 0)]) fun c5 =>
xF fMove [a0] fun v18 =>
xF fNil [v18] fun v19 =>
xF (fFld 10) [v19] fun v20 =>
hLoad 1 false [v20] (fun v21 σ =>
s_word_Cell [v21] (fun v22 σ =>
xF (fFldV 0 1 false) [v22] fun v23 =>
xF fMove [v23] fun v6 =>
xO (gLoad 4 true [(locP 5)] c5) fun v25 =>
xF fMove [a0] fun v26 =>
xF fNil [v26] fun v27 =>
xF (fFld 6) [v27] fun v28 =>
hLoad 2 true [v28] (fun v29 σ =>
s_drop_Live [v25, v29] (fun v30 σ =>
xF (fUn .not) [v30] fun v31 =>
xF fMove [v31] fun v24 =>
xIf v24
 (xF fMove [a0] fun v32 =>
xO (gLoad 9 true [(locP 3)] c3) fun v33 =>
s_layout_Env_Now [v33] (fun v34 σ =>
s_access_Access_end [v32, (.int .i64 3), (.int .i64 0), v34] (fun v35 σ =>
xF fMove [v35] fun v4 =>
K v4 σ) σ) σ)
 (xF (fFld 1) [(locP 5)] fun v37 =>
xO (gLoad 1 false [v37] c5) fun v38 =>
xF fMove [a0] fun v39 =>
xF fNil [v39] fun v40 =>
xF (fFld 9) [v40] fun v41 =>
hLoad 1 false [v41] (fun v42 σ =>
s_word_Slot [v42] (fun v43 σ =>
xF (fFldV 1 1 false) [v43] fun v44 =>
xF (fBin .neq .no) [v38, v44] fun v45 =>
xF fMove [v45] fun v36 =>
xIf v36
 (xF fMove [a0] fun v46 =>
xF fNil [v46] fun v47 =>
xF (fFld 8) [v47] fun v48 =>
hStore 1 [v48, (.int .i64 0)] (fun _v σ =>
xF fMove [(.bool false)] fun v4 =>
K v4 σ) σ)
 (xF fMove [a0] fun v50 =>
xF fNil [v50] fun v51 =>
xF (fFld 0) [v51] fun v52 =>
xF (fFld 0) [v52] fun v53 =>
hLoad 1 false [v53] (fun v54 σ =>
xF (fBin .eql .no) [v54, (.int .i64 3)] fun v55 =>
xF fMove [v55] fun v49 =>
xIf v49
 (xF fMove [a0] fun v56 =>
xF fMove [v6] fun v57 =>
xF fMove [a0] fun v58 =>
xF fNil [v58] fun v59 =>
xF (fFld 12) [v59] fun v60 =>
hLoad 1 false [v60] (fun v61 σ =>
s_access_Access_end [v56, (.int .i64 8), v57, v61] (fun v62 σ =>
xF fMove [v62] fun v4 =>
K v4 σ) σ) σ)
 (xF fMove [a0] fun v63 =>
xF fMove [v6] fun v64 =>
xF fMove [a0] fun v65 =>
xF fNil [v65] fun v66 =>
xF (fFld 12) [v66] fun v67 =>
hLoad 1 false [v67] (fun v68 σ =>
s_access_Access_end [v63, (.int .i64 0), v64, v68] (fun v69 σ =>
xF fMove [v69] fun v4 =>
K v4 σ) σ) σ)) σ)) σ) σ)) σ) σ) σ) σ) σ) σ) σ) σ
def s_access_Access_check : Spec := fun args K σ => match args with
  | [a0, a1] => w_access_Access_check a0 a1 K σ
  | _ => False
noncomputable def cx_access_Access_check : Cx := { P := Try.prog, T := [(18, .none, s_layout_Slot), (37, .write, s_layout_Env_Load), (19, .none, s_word_Slot), (24, .none, s_word_Cell), (38, .none, s_drop_Live), (26, .read, s_layout_Env_Now), (36, .write, s_access_Access_end)], loc := [(3, 3), (5, 5), (8, 3), (37, 5)], eqt := [], n := 70, keep := [] }
theorem q_access_Access_check : FnS cx_access_Access_check Try.f45 (bodyOf Try.f45) 2 = s_access_Access_check := by
  funext args K σ
  rcases args with _ | ⟨a0, _ | ⟨a1, _ | ⟨b, r⟩⟩⟩ <;> kernel_rfl
theorem e_access_Access_check : Entry Try.prog 45 .write s_access_Access_check :=
  entry (C := cx_access_Access_check) (TOk.cons e_layout_Slot (TOk.cons e_layout_Env_Load (TOk.cons e_word_Slot (TOk.cons e_word_Cell (TOk.cons e_drop_Live (TOk.cons e_layout_Env_Now (TOk.cons e_access_Access_end TOk.nil))))))) mixedOk Try.func45 (by kernel_rfl) (by kernel_rfl) (by kernel_rfl) q_access_Access_check
def xl_access_Access_check : List (Nat × Nat) := [(3, 3), (5, 5), (8, 3), (37, 5)]
noncomputable def xc_access_Access_check : XC XN :=
(.seq none
 (.reg [⟨none, some 3, [(.tmp 1)], ⟨.lb 3 9, rAny xl_access_Access_check (.lb 3 9)⟩⟩,
  ⟨none, some 4, [(.const (.bool false))], ⟨.f fMove, rMove⟩⟩])
 (.seq none
 (.reg [⟨none, some 7, [(.tmp 3)], ⟨.lr 3 9 true, rAny xl_access_Access_check (.lr 3 9 true)⟩⟩,
  ⟨none, some 8, [(.tmp 3)], ⟨.f (fFld 0), rFld 0⟩⟩,
  ⟨none, some 9, [(.tmp 8)], ⟨.lr 3 7 true, rAny xl_access_Access_check (.lr 3 7 true)⟩⟩,
  ⟨none, some 10, [(.tmp 0)], ⟨.f fMove, rMove⟩⟩,
  ⟨none, some 11, [(.tmp 10)], ⟨.f fNil, rNil⟩⟩,
  ⟨none, some 12, [(.tmp 11)], ⟨.f (fFld 6), rFld 6⟩⟩,
  ⟨none, some 13, [(.tmp 12)], ⟨.f (fFld 0), rFld 0⟩⟩,
  ⟨none, some 14, [(.tmp 13)], ⟨.load 1 false, rLoad1⟩⟩,
  ⟨none, some 15, [(.tmp 9), (.tmp 14)], ⟨.call .none s_layout_Slot v_layout_Slot, rCall v_layout_Slot⟩⟩,
  ⟨none, some 16, [(.tmp 7), (.tmp 15)], ⟨.call .write s_layout_Env_Load v_layout_Env_Load, rCall v_layout_Env_Load⟩⟩,
  ⟨none, some 17, [(.tmp 16)], ⟨.call .none s_word_Slot v_word_Slot, rCall v_word_Slot⟩⟩,
  ⟨none, some 5, [], ⟨.la 5 [(.int .i64 0), (.int .i64 0), (.int .i64 0), (.int .i64 0)], rAny xl_access_Access_check (.la 5 [(.int .i64 0), (.int .i64 0), (.int .i64 0), (.int .i64 0)])⟩⟩,
  ⟨none, none, [(.tmp 5), (.tmp 17)], ⟨.ls 5 4, rAny xl_access_Access_check (.ls 5 4)⟩⟩])
 (.seq none
 (.reg [⟨none, some 18, [(.tmp 0)], ⟨.f fMove, rMove⟩⟩,
  ⟨none, some 19, [(.tmp 18)], ⟨.f fNil, rNil⟩⟩,
  ⟨none, some 20, [(.tmp 19)], ⟨.f (fFld 10), rFld 10⟩⟩,
  ⟨none, some 21, [(.tmp 20)], ⟨.load 1 false, rLoad1⟩⟩,
  ⟨none, some 22, [(.tmp 21)], ⟨.call .none s_word_Cell v_word_Cell, rCall v_word_Cell⟩⟩,
  ⟨none, some 23, [(.tmp 22)], ⟨.f (fFldV 0 1 false), rAny xl_access_Access_check (.f (fFldV 0 1 false))⟩⟩,
  ⟨none, some 6, [(.tmp 23)], ⟨.f fMove, rMove⟩⟩])
 (.seq none
 (.block 0
 (.seq none
 (.reg [⟨none, some 25, [(.tmp 5)], ⟨.lr 5 4 true, rAny xl_access_Access_check (.lr 5 4 true)⟩⟩,
  ⟨none, some 26, [(.tmp 0)], ⟨.f fMove, rMove⟩⟩,
  ⟨none, some 27, [(.tmp 26)], ⟨.f fNil, rNil⟩⟩,
  ⟨none, some 28, [(.tmp 27)], ⟨.f (fFld 6), rFld 6⟩⟩,
  ⟨none, some 29, [(.tmp 28)], ⟨.load 2 true, rAny xl_access_Access_check (.load 2 true)⟩⟩,
  ⟨none, some 30, [(.tmp 25), (.tmp 29)], ⟨.call .none s_drop_Live v_drop_Live, rCall v_drop_Live⟩⟩,
  ⟨none, some 31, [(.tmp 30)], ⟨.f (fUn .not), rNot⟩⟩,
  ⟨none, some 24, [(.tmp 31)], ⟨.f fMove, rMove⟩⟩])
 (.cond (.tmp 24)
 (.seq none
 (.reg [⟨none, some 32, [(.tmp 0)], ⟨.f fMove, rMove⟩⟩,
  ⟨none, some 33, [(.tmp 3)], ⟨.lr 3 9 true, rAny xl_access_Access_check (.lr 3 9 true)⟩⟩,
  ⟨none, some 34, [(.tmp 33)], ⟨.call .read s_layout_Env_Now v_layout_Env_Now, rCall v_layout_Env_Now⟩⟩,
  ⟨none, some 35, [(.tmp 32), (.const (.int .i64 3)), (.const (.int .i64 0)), (.tmp 34)], ⟨.call .write s_access_Access_end v_access_Access_end, rCall v_access_Access_end⟩⟩,
  ⟨none, some 4, [(.tmp 35)], ⟨.f fMove, rMove⟩⟩])
 .ret)
 (.seq none
 (.reg [⟨none, some 37, [(.tmp 5)], ⟨.f (fFld 1), rFld 1⟩⟩,
  ⟨none, some 38, [(.tmp 37)], ⟨.lr 5 1 false, rLr1 5⟩⟩,
  ⟨none, some 39, [(.tmp 0)], ⟨.f fMove, rMove⟩⟩,
  ⟨none, some 40, [(.tmp 39)], ⟨.f fNil, rNil⟩⟩,
  ⟨none, some 41, [(.tmp 40)], ⟨.f (fFld 9), rFld 9⟩⟩,
  ⟨none, some 42, [(.tmp 41)], ⟨.load 1 false, rLoad1⟩⟩,
  ⟨none, some 43, [(.tmp 42)], ⟨.call .none s_word_Slot v_word_Slot, rCall v_word_Slot⟩⟩,
  ⟨none, some 44, [(.tmp 43)], ⟨.f (fFldV 1 1 false), rAny xl_access_Access_check (.f (fFldV 1 1 false))⟩⟩,
  ⟨none, some 45, [(.tmp 38), (.tmp 44)], ⟨.f (fBin .neq .no), rNeq⟩⟩,
  ⟨none, some 36, [(.tmp 45)], ⟨.f fMove, rMove⟩⟩])
 (.cond (.tmp 36)
 (.seq none
 (.reg [⟨none, some 46, [(.tmp 0)], ⟨.f fMove, rMove⟩⟩,
  ⟨none, some 47, [(.tmp 46)], ⟨.f fNil, rNil⟩⟩,
  ⟨none, some 48, [(.tmp 47)], ⟨.f (fFld 8), rFld 8⟩⟩,
  ⟨none, none, [(.tmp 48), (.const (.int .i64 0))], ⟨.store 1, rStore1⟩⟩])
 (.seq none
 (.reg [⟨none, some 4, [(.const (.bool false))], ⟨.f fMove, rMove⟩⟩])
 .ret))
 (.seq none
 (.reg [⟨none, some 50, [(.tmp 0)], ⟨.f fMove, rMove⟩⟩,
  ⟨none, some 51, [(.tmp 50)], ⟨.f fNil, rNil⟩⟩,
  ⟨none, some 52, [(.tmp 51)], ⟨.f (fFld 0), rFld 0⟩⟩,
  ⟨none, some 53, [(.tmp 52)], ⟨.f (fFld 0), rFld 0⟩⟩,
  ⟨none, some 54, [(.tmp 53)], ⟨.load 1 false, rLoad1⟩⟩,
  ⟨none, some 55, [(.tmp 54), (.const (.int .i64 3))], ⟨.f (fBin .eql .no), rEql⟩⟩,
  ⟨none, some 49, [(.tmp 55)], ⟨.f fMove, rMove⟩⟩])
 (.cond (.tmp 49)
 (.seq none
 (.reg [⟨none, some 56, [(.tmp 0)], ⟨.f fMove, rMove⟩⟩,
  ⟨none, some 57, [(.tmp 6)], ⟨.f fMove, rMove⟩⟩,
  ⟨none, some 58, [(.tmp 0)], ⟨.f fMove, rMove⟩⟩,
  ⟨none, some 59, [(.tmp 58)], ⟨.f fNil, rNil⟩⟩,
  ⟨none, some 60, [(.tmp 59)], ⟨.f (fFld 12), rFld 12⟩⟩,
  ⟨none, some 61, [(.tmp 60)], ⟨.load 1 false, rLoad1⟩⟩,
  ⟨none, some 62, [(.tmp 56), (.const (.int .i64 8)), (.tmp 57), (.tmp 61)], ⟨.call .write s_access_Access_end v_access_Access_end, rCall v_access_Access_end⟩⟩,
  ⟨none, some 4, [(.tmp 62)], ⟨.f fMove, rMove⟩⟩])
 .ret)
 .skip)))))))
 (.seq none
 (.reg [⟨none, some 63, [(.tmp 0)], ⟨.f fMove, rMove⟩⟩,
  ⟨none, some 64, [(.tmp 6)], ⟨.f fMove, rMove⟩⟩,
  ⟨none, some 65, [(.tmp 0)], ⟨.f fMove, rMove⟩⟩,
  ⟨none, some 66, [(.tmp 65)], ⟨.f fNil, rNil⟩⟩,
  ⟨none, some 67, [(.tmp 66)], ⟨.f (fFld 12), rFld 12⟩⟩,
  ⟨none, some 68, [(.tmp 67)], ⟨.load 1 false, rLoad1⟩⟩,
  ⟨none, some 69, [(.tmp 63), (.const (.int .i64 0)), (.tmp 64), (.tmp 68)], ⟨.call .write s_access_Access_end v_access_Access_end, rCall v_access_Access_end⟩⟩,
  ⟨none, some 4, [(.tmp 69)], ⟨.f fMove, rMove⟩⟩])
 .ret)))))
noncomputable def v_access_Access_check : EvF := evFn 2 xc_access_Access_check [.t 4]
theorem xt_access_Access_check : toC cx_access_Access_check (bodyOf Try.f45) = some (xc_access_Access_check.map XN.sm) := by kernel_rfl
theorem xr_access_Access_check : toR cx_access_Access_check Try.f45.results.toList = some [.t 4] := by kernel_rfl
theorem xo_access_Access_check : xc_access_Access_check.ok xl_access_Access_check := ⟨⟨rAny_ok (trivial), rMove_ok, trivial⟩, ⟨⟨rAny_ok (trivial), rFld_ok _, rAny_ok (trivial), rMove_ok, rNil_ok, rFld_ok _, rFld_ok _, rLoad1_ok, rCall_ok ve_layout_Slot, rCall_ok ve_layout_Env_Load, rCall_ok ve_word_Slot, rAny_ok (trivial), rAny_ok (trivial), trivial⟩, ⟨⟨rMove_ok, rNil_ok, rFld_ok _, rLoad1_ok, rCall_ok ve_word_Cell, rAny_ok (eqv_fldV _ _ _), rMove_ok, trivial⟩, ⟨⟨⟨rAny_ok (trivial), rMove_ok, rNil_ok, rFld_ok _, rAny_ok (trivial), rCall_ok ve_drop_Live, rNot_ok, rMove_ok, trivial⟩, ⟨⟨⟨rMove_ok, rAny_ok (trivial), rCall_ok ve_layout_Env_Now, rCall_ok ve_access_Access_end, rMove_ok, trivial⟩, trivial⟩, ⟨⟨rFld_ok _, rLr1_ok _, rMove_ok, rNil_ok, rFld_ok _, rLoad1_ok, rCall_ok ve_word_Slot, rAny_ok (eqv_fldV _ _ _), rNeq_ok, rMove_ok, trivial⟩, ⟨⟨⟨rMove_ok, rNil_ok, rFld_ok _, rStore1_ok, trivial⟩, ⟨⟨rMove_ok, trivial⟩, trivial⟩⟩, ⟨⟨rMove_ok, rNil_ok, rFld_ok _, rFld_ok _, rLoad1_ok, rEql_ok, rMove_ok, trivial⟩, ⟨⟨⟨rMove_ok, rMove_ok, rMove_ok, rNil_ok, rFld_ok _, rLoad1_ok, rCall_ok ve_access_Access_end, rMove_ok, trivial⟩, trivial⟩, trivial⟩⟩⟩⟩⟩⟩, ⟨⟨rMove_ok, rMove_ok, rMove_ok, rNil_ok, rFld_ok _, rLoad1_ok, rCall_ok ve_access_Access_end, rMove_ok, trivial⟩, trivial⟩⟩⟩⟩⟩
theorem ve_access_Access_check : EvOk s_access_Access_check v_access_Access_check := EvOk.of (evFn_sound (C := cx_access_Access_check) xt_access_Access_check xr_access_Access_check xo_access_Access_check) q_access_Access_check
attribute [irreducible] w_access_Access_check s_access_Access_check
def w_access_Access_Step_j1b (K : Value → Mem → Prop) (σ : Mem) : Prop :=
xF fMove [(.bool false)] fun v4 =>
K v4 σ
def w_access_Access_Step_j1 (K : Value → Mem → Prop) (ts : List Value) (ls : List (List Value)) (σ : Mem) : Prop := w_access_Access_Step_j1b K σ
def w_access_Access_Step_j2b (K : Value → Mem → Prop) (J1 : List Value → List (List Value) → Mem → Prop) (v0 v40 : Value) (c3 c5 : List Value) (σ : Mem) : Prop :=
xIf v40
 (xF fMove [v0] fun v41 =>
xO (gLoad 9 true [(locP 3)] c3) fun v42 =>
s_layout_Env_Now [v42] (fun v43 σ =>
s_access_Access_end [v41, (.int .i64 3), (.int .i64 0), v43] (fun v44 σ =>
xF fMove [v44] fun v4 =>
K v4 σ) σ) σ)
 (xF fMove [v0] fun v45 =>
xO (gLoad 9 true [(locP 3)] c3) fun v46 =>
xF (fFld 0) [(locP 3)] fun v47 =>
xO (gLoad 7 true [v47] c3) fun v48 =>
xF (fFld 0) [(locP 5)] fun v49 =>
xO (gLoad 1 false [v49] c5) fun v50 =>
s_layout_Slot [v48, v50] (fun v51 σ =>
s_layout_Env_Load [v46, v51] (fun v52 σ =>
xF fNil [v45] fun v53 =>
xF (fFld 9) [v53] fun v54 =>
hStore 1 [v54, v52] (fun _v σ =>
xF fMove [v0] fun v55 =>
xF fMove [v0] fun v56 =>
xO (gLoad 9 true [(locP 3)] c3) fun v57 =>
s_layout_Env_Now [v57] (fun v58 σ =>
xF fNil [v55] fun v59 =>
xF (fFld 11) [v59] fun v60 =>
hStore 1 [v60, v58] (fun _v σ =>
xF fNil [v56] fun v61 =>
xF (fFld 8) [v61] fun v62 =>
hStore 1 [v62, (.int .i64 1)] (fun _v σ =>
xF fMove [v0] fun v63 =>
xF fNil [v63] fun v64 =>
xF (fFld 9) [v64] fun v65 =>
hLoad 1 false [v65] (fun v66 σ =>
s_word_Slot [v66] (fun v67 σ =>
xO (gLoad 2 true [(locP 5)] c5) fun v68 =>
s_drop_Live [v67, v68] (fun v69 σ =>
xF (fUn .not) [v69] fun v70 =>
xIf v70
 (xF fMove [v0] fun v71 =>
xO (gLoad 9 true [(locP 3)] c3) fun v72 =>
s_layout_Env_Now [v72] (fun v73 σ =>
s_access_Access_end [v71, (.int .i64 3), (.int .i64 0), v73] (fun v74 σ =>
xF fMove [v74] fun v4 =>
K v4 σ) σ) σ)
 (J1 [] [] σ)) σ) σ) σ) σ) σ) σ) σ) σ) σ)
def w_access_Access_Step_j2 (K : Value → Mem → Prop) (J1 : List Value → List (List Value) → Mem → Prop) (ts : List Value) (ls : List (List Value)) (σ : Mem) : Prop := w_access_Access_Step_j2b K J1 (ts.getD 0 poison) (ts.getD 1 poison) (ls.getD 0 []) (ls.getD 1 []) σ
def w_access_Access_Step_j3b (K : Value → Mem → Prop) (J1 : List Value → List (List Value) → Mem → Prop) (v0 v106 : Value) (σ : Mem) : Prop :=
xIf v106
 (xF fMove [v0] fun v123 =>
xF fMove [v0] fun v124 =>
xF fNil [v124] fun v125 =>
xF (fFld 11) [v125] fun v126 =>
hLoad 1 false [v126] (fun v127 σ =>
s_access_Access_end [v123, (.int .i64 4), (.int .i64 0), v127] (fun v128 σ =>
xF fMove [v128] fun v4 =>
K v4 σ) σ) σ)
 (J1 [] [] σ)
def w_access_Access_Step_j3 (K : Value → Mem → Prop) (J1 : List Value → List (List Value) → Mem → Prop) (ts : List Value) (ls : List (List Value)) (σ : Mem) : Prop := w_access_Access_Step_j3b K J1 (ts.getD 0 poison) (ts.getD 1 poison) σ
def w_access_Access_Step (a0 a1 : Value) (K : Value → Mem → Prop) (σ : Mem) : Prop :=
xC (gBox 9 [a1] []) fun c3 =>
xF fMove [(.bool false)] fun v4 =>
xJoin (w_access_Access_Step_j1 K) fun J1 =>
xF fMove [a0] fun v9 =>
xF fNil [v9] fun v10 =>
xF (fFld 8) [v10] fun v11 =>
hLoad 1 false [v11] (fun v12 σ =>
xF (fBin .eql .no) [v12, (.int .i64 0)] fun v17 =>
xF fMove [v17] fun v16 =>
xIf v16
 (xF fMove [a0] fun v19 =>
xF fNil [v19] fun v20 =>
xF (fFld 0) [v20] fun v21 =>
xF (fFld 1) [v21] fun v22 =>
hLoad 1 false [v22] (fun v23 σ =>
s_word_Handle [v23] (fun v24 σ =>
xF fMove [v24] fun v18 =>
xF (fExt 0) [v18] fun v25 =>
xF (fExt 1) [v18] fun v26 =>
xC (gStore 2 [(locP 5), v25] [(.int .i64 0), (.int .i64 0)]) fun c5 =>
xF fMove [v26] fun v6 =>
xF fMove [a0] fun v27 =>
xO (gLoad 2 true [(locP 5)] c5) fun v28 =>
xF fNil [v27] fun v29 =>
xF (fFld 6) [v29] fun v30 =>
hStore 2 [v30, v28] (fun _v σ =>
xJoin (w_access_Access_Step_j2 K J1) fun J2 =>
xF fMove [v6] fun v31 =>
xF (fUn .not) [v31] fun v32 =>
xF fMove [v32] fun v33 =>
xIf v33
 (xF fPick [(.bool true), (.bool true), undef] fun v40 =>
J2 [a0, v40] [c3, c5] σ)
 (xF (fFld 0) [(locP 5)] fun v34 =>
xO (gLoad 1 false [v34] c5) fun v35 =>
xF (fFld 0) [(locP 3)] fun v36 =>
xF (fFld 1) [v36] fun v37 =>
xO (gLoad 1 false [v37] c3) fun v38 =>
xF (fBin .geq .no) [v35, v38] fun v39 =>
xF fPick [(.bool false), (.bool true), v39] fun v40 =>
J2 [a0, v40] [c3, c5] σ)) σ) σ) σ)
 (xF (fBin .eql .no) [v12, (.int .i64 1)] fun v76 =>
xF fMove [v76] fun v75 =>
xIf v75
 (xO (gLoad 9 true [(locP 3)] c3) fun v77 =>
xF fMove [a0] fun v78 =>
xF fNil [v78] fun v79 =>
xF (fFld 9) [v79] fun v80 =>
hLoad 1 false [v80] (fun v81 σ =>
s_word_Slot [v81] (fun v82 σ =>
xF (fFldV 1 1 false) [v82] fun v83 =>
s_layout_Env_Load [v77, v83] (fun v84 σ =>
s_word_Head [v84] (fun v85 σ =>
xC (gStore 5 [(locP 7), v85] [(.int .i64 0), (.int .i64 0), (.int .i64 0), (.int .i64 0), (.bool false)]) fun c7 =>
xF fMove [a0] fun v86 =>
xF fMove [a0] fun v87 =>
xF (fFld 1) [(locP 7)] fun v88 =>
xO (gLoad 1 false [v88] c7) fun v89 =>
xF fNil [v86] fun v90 =>
xF (fFld 13) [v90] fun v91 =>
hStore 1 [v91, v89] (fun _v σ =>
xF fNil [v87] fun v92 =>
xF (fFld 8) [v92] fun v93 =>
hStore 1 [v93, (.int .i64 2)] (fun _v σ =>
xF (fFld 4) [(locP 7)] fun v95 =>
xO (gLoad 1 false [v95] c7) fun v96 =>
xF fMove [a0] fun v97 =>
xF fNil [v97] fun v98 =>
xF (fFld 5) [v98] fun v99 =>
hLoad 1 false [v99] (fun v100 σ =>
xF (fBin .neq .bool) [v96, v100] fun v101 =>
xF fMove [v101] fun v94 =>
xIf v94
 (xF fMove [a0] fun v102 =>
xO (gLoad 9 true [(locP 3)] c3) fun v103 =>
s_layout_Env_Now [v103] (fun v104 σ =>
s_access_Access_end [v102, (.int .i64 3), (.int .i64 0), v104] (fun v105 σ =>
xF fMove [v105] fun v4 =>
K v4 σ) σ) σ)
 (xJoin (w_access_Access_Step_j3 K J1) fun J3 =>
xF fMove [a0] fun v107 =>
xF fNil [v107] fun v108 =>
xF (fFld 0) [v108] fun v109 =>
xF (fFld 2) [v109] fun v110 =>
hLoad 1 false [v110] (fun v111 σ =>
xF (fBin .lss .no) [v111, (.int .i64 0)] fun v112 =>
xF fMove [v112] fun v113 =>
xIf v113
 (xF fPick [(.bool true), (.bool true), undef] fun v122 =>
xF fMove [v122] fun v106 =>
J3 [a0, v106] [] σ)
 (xF fMove [a0] fun v114 =>
xF fNil [v114] fun v115 =>
xF (fFld 0) [v115] fun v116 =>
xF (fFld 2) [v116] fun v117 =>
hLoad 1 false [v117] (fun v118 σ =>
xF (fFld 1) [(locP 7)] fun v119 =>
xO (gLoad 1 false [v119] c7) fun v120 =>
xF (fBin .geq .no) [v118, v120] fun v121 =>
xF fPick [(.bool false), (.bool true), v121] fun v122 =>
xF fMove [v122] fun v106 =>
J3 [a0, v106] [] σ) σ)) σ)) σ) σ) σ) σ) σ) σ) σ)
 (xF (fBin .eql .no) [v12, (.int .i64 2)] fun v130 =>
xF fMove [v130] fun v129 =>
xIf v129
 (xF fMove [a0] fun v131 =>
xO (gLoad 9 true [(locP 3)] c3) fun v132 =>
xF fMove [a0] fun v133 =>
s_access_Access_at [v133] (fun v134 σ =>
s_layout_Env_Load [v132, v134] (fun v135 σ =>
xF fNil [v131] fun v136 =>
xF (fFld 10) [v136] fun v137 =>
hStore 1 [v137, v135] (fun _v σ =>
xF fMove [a0] fun v138 =>
xF fMove [a0] fun v139 =>
xO (gLoad 9 true [(locP 3)] c3) fun v140 =>
s_layout_Env_Now [v140] (fun v141 σ =>
xF fMove [a0] fun v142 =>
s_access_Access_next [v142] (fun v143 σ =>
xF fNil [v138] fun v144 =>
xF (fFld 12) [v144] fun v145 =>
hStore 1 [v145, v141] (fun _v σ =>
xF fNil [v139] fun v146 =>
xF (fFld 8) [v146] fun v147 =>
hStore 1 [v147, v143] (fun _v σ =>
xF fMove [a0] fun v148 =>
xF fNil [v148] fun v149 =>
xF (fFld 8) [v149] fun v150 =>
hLoad 1 false [v150] (fun v151 σ =>
xF (fBin .eql .no) [v151, (.int .i64 4)] fun v152 =>
xIf v152
 (xF fMove [a0] fun v153 =>
xF fMove [a0] fun v154 =>
xF fNil [v154] fun v155 =>
xF (fFld 6) [v155] fun v156 =>
xF (fFld 0) [v156] fun v157 =>
hLoad 1 false [v157] (fun v158 σ =>
xF fMove [a0] fun v159 =>
xF fNil [v159] fun v160 =>
xF (fFld 9) [v160] fun v161 =>
hLoad 1 false [v161] (fun v162 σ =>
xF fMove [a0] fun v163 =>
xF fNil [v163] fun v164 =>
xF (fFld 13) [v164] fun v165 =>
hLoad 1 false [v165] (fun v166 σ =>
s_drop_NewHelp [v158, v162, v166] (fun v167 σ =>
xF fNil [v153] fun v168 =>
xF (fFld 14) [v168] fun v169 =>
hStore 1 [v169, v167] (fun _v σ =>
J1 [] [] σ) σ) σ) σ) σ) σ)
 (J1 [] [] σ)) σ) σ) σ) σ) σ) σ) σ) σ)
 (xF (fBin .eql .no) [v12, (.int .i64 3)] fun v171 =>
xF fMove [v171] fun v170 =>
xIf v170
 (xF fMove [a0] fun v172 =>
xF fNil [v172] fun v173 =>
xF (fFld 9) [v173] fun v174 =>
hLoad 1 false [v174] (fun v175 σ =>
s_word_Slot [v175] (fun v176 σ =>
xC (gStore 4 [(locP 8), v176] [(.int .i64 0), (.int .i64 0), (.int .i64 0), (.int .i64 0)]) fun c8 =>
xF (fFld 3) [(locP 8)] fun v177 =>
xO (gLoad 1 false [v177] c8) fun v178 =>
xF (fBin .add .no) [v178, (.int .i64 1)] fun v179 =>
xF (fFld 0) [(locP 8)] fun v180 =>
xC (gStore 1 [v180, (.int .i64 1)] c8) fun c8 =>
xF (fFld 3) [(locP 8)] fun v181 =>
xC (gStore 1 [v181, v179] c8) fun c8 =>
xO (gLoad 9 true [(locP 3)] c3) fun v182 =>
xF (fFld 0) [(locP 3)] fun v183 =>
xO (gLoad 7 true [v183] c3) fun v184 =>
xF fMove [a0] fun v185 =>
xF fNil [v185] fun v186 =>
xF (fFld 6) [v186] fun v187 =>
xF (fFld 0) [v187] fun v188 =>
hLoad 1 false [v188] (fun v189 σ =>
s_layout_Slot [v184, v189] (fun v190 σ =>
xF fMove [a0] fun v191 =>
xF fNil [v191] fun v192 =>
xF (fFld 9) [v192] fun v193 =>
hLoad 1 false [v193] (fun v194 σ =>
xO (gLoad 4 true [(locP 8)] c8) fun v195 =>
s_word_PutSlot [v195] (fun v196 σ =>
s_layout_Env_Cas [v182, v190, v194, v196] (fun v197 σ =>
xF fMove [a0] fun v198 =>
xF fNil [v198] fun v199 =>
xF (fFld 8) [v199] fun v200 =>
hStore 1 [v200, (.int .i64 0)] (fun _v σ =>
J1 [] [] σ) σ) σ) σ) σ) σ) σ) σ) σ)
 (xF (fBin .eql .no) [v12, (.int .i64 4)] fun v202 =>
xF fMove [v202] fun v201 =>
xIf v201
 (xF fMove [a0] fun v203 =>
xF fNil [v203] fun v204 =>
xF (fFld 14) [v204] fun v205 =>
hLoad 1 false [v205] (fun v206 σ =>
xO (gLoad 9 true [(locP 3)] c3) fun v207 =>
s_drop_Help_Step [v206, v207] (fun v208 σ =>
xIf v208
 (xF fMove [a0] fun v209 =>
xF fNil [v209] fun v210 =>
xF (fFld 8) [v210] fun v211 =>
hStore 1 [v211, (.int .i64 0)] (fun _v σ =>
J1 [] [] σ) σ)
 (J1 [] [] σ)) σ) σ)
 (xF (fBin .eql .no) [v12, (.int .i64 5)] fun v213 =>
xF fMove [v213] fun v212 =>
xIf v212
 (xF fMove [a0] fun v214 =>
xF fNil [v214] fun v215 =>
xF (fFld 8) [v215] fun v216 =>
hStore 1 [v216, (.int .i64 0)] (fun _v σ =>
xO (gLoad 9 true [(locP 3)] c3) fun v217 =>
xF fMove [a0] fun v218 =>
s_access_Access_at [v218] (fun v219 σ =>
xF fMove [a0] fun v220 =>
xF fNil [v220] fun v221 =>
xF (fFld 10) [v221] fun v222 =>
hLoad 1 false [v222] (fun v223 σ =>
xF fMove [a0] fun v224 =>
xF fNil [v224] fun v225 =>
xF (fFld 0) [v225] fun v226 =>
xF (fFld 3) [v226] fun v227 =>
hLoad 1 false [v227] (fun v228 σ =>
xF (fBuild [(0, 1), (1, 1), (2, 1)] [(.int .i64 0), (.bool false), (.int .i64 0)] [0]) [v228] fun v229 =>
s_word_PutCell [v229] (fun v230 σ =>
s_layout_Env_Cas [v217, v219, v223, v230] (fun v231 σ =>
xIf v231
 (xF fMove [a0] fun v232 =>
xF fMove [a0] fun v233 =>
xF fNil [v233] fun v234 =>
xF (fFld 10) [v234] fun v235 =>
hLoad 1 false [v235] (fun v236 σ =>
s_word_Cell [v236] (fun v237 σ =>
xF (fFldV 0 1 false) [v237] fun v238 =>
xO (gLoad 9 true [(locP 3)] c3) fun v239 =>
s_layout_Env_Now [v239] (fun v240 σ =>
s_access_Access_end [v232, (.int .i64 0), v238, v240] (fun v241 σ =>
xF fMove [v241] fun v4 =>
K v4 σ) σ) σ) σ) σ)
 (J1 [] [] σ)) σ) σ) σ) σ) σ) σ)
 (xF fMove [a0] fun v13 =>
xO (gLoad 9 true [(locP 3)] c3) fun v14 =>
s_access_Access_check [v13, v14] (fun v15 σ =>
xF fMove [v15] fun v4 =>
K v4 σ) σ))))))) σ
def s_access_Access_Step : Spec := fun args K σ => match args with
  | [a0, a1] => w_access_Access_Step a0 a1 K σ
  | _ => False
noncomputable def cx_access_Access_Step : Cx := { P := Try.prog, T := [(35, .none, s_word_Handle), (26, .read, s_layout_Env_Now), (36, .write, s_access_Access_end), (18, .none, s_layout_Slot), (37, .write, s_layout_Env_Load), (19, .none, s_word_Slot), (38, .none, s_drop_Live), (39, .none, s_word_Head), (40, .read, s_access_Access_at), (41, .read, s_access_Access_next), (42, .write, s_drop_NewHelp), (22, .none, s_word_PutSlot), (43, .write, s_layout_Env_Cas), (44, .write, s_drop_Help_Step), (23, .none, s_word_PutCell), (24, .none, s_word_Cell), (45, .write, s_access_Access_check)], loc := [(3, 3), (5, 5), (7, 7), (8, 8), (34, 5), (36, 3), (37, 3), (47, 3), (49, 5), (88, 7), (95, 7), (119, 7), (177, 8), (180, 8), (181, 8), (183, 3)], eqt := [(4, .bool)], n := 242, keep := [(1000008, [0, 40], [3, 5]), (1000019, [0, 106], []), (1000037, [], [])] }
theorem q_access_Access_Step : FnS cx_access_Access_Step Try.f15 (bodyOf Try.f15) 2 = s_access_Access_Step := by
  funext args K σ
  rcases args with _ | ⟨a0, _ | ⟨a1, _ | ⟨b, r⟩⟩⟩ <;> kernel_rfl
theorem e_access_Access_Step : Entry Try.prog 15 .write s_access_Access_Step :=
  entry (C := cx_access_Access_Step) (TOk.cons e_word_Handle (TOk.cons e_layout_Env_Now (TOk.cons e_access_Access_end (TOk.cons e_layout_Slot (TOk.cons e_layout_Env_Load (TOk.cons e_word_Slot (TOk.cons e_drop_Live (TOk.cons e_word_Head (TOk.cons e_access_Access_at (TOk.cons e_access_Access_next (TOk.cons e_drop_NewHelp (TOk.cons e_word_PutSlot (TOk.cons e_layout_Env_Cas (TOk.cons e_drop_Help_Step (TOk.cons e_word_PutCell (TOk.cons e_word_Cell (TOk.cons e_access_Access_check TOk.nil))))))))))))))))) mixedOk Try.func15 (by kernel_rfl) (by kernel_rfl) (by kernel_rfl) q_access_Access_Step
def xl_access_Access_Step : List (Nat × Nat) := [(3, 3), (5, 5), (7, 7), (8, 8), (34, 5), (36, 3), (37, 3), (47, 3), (49, 5), (88, 7), (95, 7), (119, 7), (177, 8), (180, 8), (181, 8), (183, 3)]
noncomputable def xc_access_Access_Step : XC XN :=
(.seq none
 (.reg [⟨none, some 3, [(.tmp 1)], ⟨.lb 3 9, rAny xl_access_Access_Step (.lb 3 9)⟩⟩,
  ⟨none, some 4, [(.const (.bool false))], ⟨.f fMove, rMove⟩⟩])
 (.seq (some ([], []))
 (.seq none
 (.reg [⟨none, some 9, [(.tmp 0)], ⟨.f fMove, rMove⟩⟩,
  ⟨none, some 10, [(.tmp 9)], ⟨.f fNil, rNil⟩⟩,
  ⟨none, some 11, [(.tmp 10)], ⟨.f (fFld 8), rFld 8⟩⟩,
  ⟨none, some 12, [(.tmp 11)], ⟨.load 1 false, rLoad1⟩⟩])
 (.block 0
 (.seq none
 (.reg [⟨none, some 17, [(.tmp 12), (.const (.int .i64 0))], ⟨.f (fBin .eql .no), rEql⟩⟩,
  ⟨none, some 16, [(.tmp 17)], ⟨.f fMove, rMove⟩⟩])
 (.cond (.tmp 16)
 (.seq none
 (.reg [⟨none, some 19, [(.tmp 0)], ⟨.f fMove, rMove⟩⟩,
  ⟨none, some 20, [(.tmp 19)], ⟨.f fNil, rNil⟩⟩,
  ⟨none, some 21, [(.tmp 20)], ⟨.f (fFld 0), rFld 0⟩⟩,
  ⟨none, some 22, [(.tmp 21)], ⟨.f (fFld 1), rFld 1⟩⟩,
  ⟨none, some 23, [(.tmp 22)], ⟨.load 1 false, rLoad1⟩⟩,
  ⟨none, some 24, [(.tmp 23)], ⟨.call .none s_word_Handle v_word_Handle, rCall v_word_Handle⟩⟩,
  ⟨none, some 18, [(.tmp 24)], ⟨.f fMove, rMove⟩⟩,
  ⟨none, some 25, [(.tmp 18)], ⟨.f (fExt 0), rAny xl_access_Access_Step (.f (fExt 0))⟩⟩,
  ⟨none, some 26, [(.tmp 18)], ⟨.f (fExt 1), rAny xl_access_Access_Step (.f (fExt 1))⟩⟩,
  ⟨none, some 5, [], ⟨.la 5 [(.int .i64 0), (.int .i64 0)], rAny xl_access_Access_Step (.la 5 [(.int .i64 0), (.int .i64 0)])⟩⟩,
  ⟨none, none, [(.tmp 5), (.tmp 25)], ⟨.ls 5 2, rAny xl_access_Access_Step (.ls 5 2)⟩⟩,
  ⟨none, some 6, [(.tmp 26)], ⟨.f fMove, rMove⟩⟩])
 (.seq none
 (.seq none
 (.reg [⟨none, some 27, [(.tmp 0)], ⟨.f fMove, rMove⟩⟩,
  ⟨none, some 28, [(.tmp 5)], ⟨.lr 5 2 true, rAny xl_access_Access_Step (.lr 5 2 true)⟩⟩,
  ⟨none, some 29, [(.tmp 27)], ⟨.f fNil, rNil⟩⟩,
  ⟨none, some 30, [(.tmp 29)], ⟨.f (fFld 6), rFld 6⟩⟩,
  ⟨none, none, [(.tmp 30), (.tmp 28)], ⟨.store 2, rAny xl_access_Access_Step (.store 2)⟩⟩])
 (.seq (some ([0, 40], [3, 5]))
 (.reg [⟨none, some 31, [(.tmp 6)], ⟨.f fMove, rMove⟩⟩,
  ⟨none, some 32, [(.tmp 31)], ⟨.f (fUn .not), rNot⟩⟩,
  ⟨none, some 33, [(.tmp 32)], ⟨.f fMove, rMove⟩⟩,
  ⟨(some (3, 2, false, some 33)), some 34, [(.tmp 5)], ⟨.f (fFld 0), rFld 0⟩⟩,
  ⟨(some (4, 2, false, some 33)), some 35, [(.tmp 34)], ⟨.lr 5 1 false, rLr1 5⟩⟩,
  ⟨(some (5, 2, false, some 33)), some 36, [(.tmp 3)], ⟨.f (fFld 0), rFld 0⟩⟩,
  ⟨(some (6, 2, false, some 33)), some 37, [(.tmp 36)], ⟨.f (fFld 1), rFld 1⟩⟩,
  ⟨(some (7, 2, false, some 33)), some 38, [(.tmp 37)], ⟨.lr 3 1 false, rLr1 3⟩⟩,
  ⟨(some (8, 2, false, some 33)), some 39, [(.tmp 35), (.tmp 38)], ⟨.f (fBin .geq .no), rGeq⟩⟩,
  ⟨none, some 40, [(.tmp 33), (.const (.bool true)), (.tmp 39)], ⟨.f fPick, rPick⟩⟩])
 (.cond (.tmp 40)
 (.seq none
 (.reg [⟨none, some 41, [(.tmp 0)], ⟨.f fMove, rMove⟩⟩,
  ⟨none, some 42, [(.tmp 3)], ⟨.lr 3 9 true, rAny xl_access_Access_Step (.lr 3 9 true)⟩⟩,
  ⟨none, some 43, [(.tmp 42)], ⟨.call .read s_layout_Env_Now v_layout_Env_Now, rCall v_layout_Env_Now⟩⟩,
  ⟨none, some 44, [(.tmp 41), (.const (.int .i64 3)), (.const (.int .i64 0)), (.tmp 43)], ⟨.call .write s_access_Access_end v_access_Access_end, rCall v_access_Access_end⟩⟩,
  ⟨none, some 4, [(.tmp 44)], ⟨.f fMove, rMove⟩⟩])
 .ret)
 .skip)))
 (.seq none
 (.reg [⟨none, some 45, [(.tmp 0)], ⟨.f fMove, rMove⟩⟩,
  ⟨none, some 46, [(.tmp 3)], ⟨.lr 3 9 true, rAny xl_access_Access_Step (.lr 3 9 true)⟩⟩,
  ⟨none, some 47, [(.tmp 3)], ⟨.f (fFld 0), rFld 0⟩⟩,
  ⟨none, some 48, [(.tmp 47)], ⟨.lr 3 7 true, rAny xl_access_Access_Step (.lr 3 7 true)⟩⟩,
  ⟨none, some 49, [(.tmp 5)], ⟨.f (fFld 0), rFld 0⟩⟩,
  ⟨none, some 50, [(.tmp 49)], ⟨.lr 5 1 false, rLr1 5⟩⟩,
  ⟨none, some 51, [(.tmp 48), (.tmp 50)], ⟨.call .none s_layout_Slot v_layout_Slot, rCall v_layout_Slot⟩⟩,
  ⟨none, some 52, [(.tmp 46), (.tmp 51)], ⟨.call .write s_layout_Env_Load v_layout_Env_Load, rCall v_layout_Env_Load⟩⟩,
  ⟨none, some 53, [(.tmp 45)], ⟨.f fNil, rNil⟩⟩,
  ⟨none, some 54, [(.tmp 53)], ⟨.f (fFld 9), rFld 9⟩⟩,
  ⟨none, none, [(.tmp 54), (.tmp 52)], ⟨.store 1, rStore1⟩⟩])
 (.seq none
 (.reg [⟨none, some 55, [(.tmp 0)], ⟨.f fMove, rMove⟩⟩,
  ⟨none, some 56, [(.tmp 0)], ⟨.f fMove, rMove⟩⟩,
  ⟨none, some 57, [(.tmp 3)], ⟨.lr 3 9 true, rAny xl_access_Access_Step (.lr 3 9 true)⟩⟩,
  ⟨none, some 58, [(.tmp 57)], ⟨.call .read s_layout_Env_Now v_layout_Env_Now, rCall v_layout_Env_Now⟩⟩,
  ⟨none, some 59, [(.tmp 55)], ⟨.f fNil, rNil⟩⟩,
  ⟨none, some 60, [(.tmp 59)], ⟨.f (fFld 11), rFld 11⟩⟩,
  ⟨none, none, [(.tmp 60), (.tmp 58)], ⟨.store 1, rStore1⟩⟩,
  ⟨none, some 61, [(.tmp 56)], ⟨.f fNil, rNil⟩⟩,
  ⟨none, some 62, [(.tmp 61)], ⟨.f (fFld 8), rFld 8⟩⟩,
  ⟨none, none, [(.tmp 62), (.const (.int .i64 1))], ⟨.store 1, rStore1⟩⟩])
 (.seq none
 (.reg [⟨none, some 63, [(.tmp 0)], ⟨.f fMove, rMove⟩⟩,
  ⟨none, some 64, [(.tmp 63)], ⟨.f fNil, rNil⟩⟩,
  ⟨none, some 65, [(.tmp 64)], ⟨.f (fFld 9), rFld 9⟩⟩,
  ⟨none, some 66, [(.tmp 65)], ⟨.load 1 false, rLoad1⟩⟩,
  ⟨none, some 67, [(.tmp 66)], ⟨.call .none s_word_Slot v_word_Slot, rCall v_word_Slot⟩⟩,
  ⟨none, some 68, [(.tmp 5)], ⟨.lr 5 2 true, rAny xl_access_Access_Step (.lr 5 2 true)⟩⟩,
  ⟨none, some 69, [(.tmp 67), (.tmp 68)], ⟨.call .none s_drop_Live v_drop_Live, rCall v_drop_Live⟩⟩,
  ⟨none, some 70, [(.tmp 69)], ⟨.f (fUn .not), rNot⟩⟩])
 (.cond (.tmp 70)
 (.seq none
 (.reg [⟨none, some 71, [(.tmp 0)], ⟨.f fMove, rMove⟩⟩,
  ⟨none, some 72, [(.tmp 3)], ⟨.lr 3 9 true, rAny xl_access_Access_Step (.lr 3 9 true)⟩⟩,
  ⟨none, some 73, [(.tmp 72)], ⟨.call .read s_layout_Env_Now v_layout_Env_Now, rCall v_layout_Env_Now⟩⟩,
  ⟨none, some 74, [(.tmp 71), (.const (.int .i64 3)), (.const (.int .i64 0)), (.tmp 73)], ⟨.call .write s_access_Access_end v_access_Access_end, rCall v_access_Access_end⟩⟩,
  ⟨none, some 4, [(.tmp 74)], ⟨.f fMove, rMove⟩⟩])
 .ret)
 .skip))))))
 (.seq none
 (.reg [⟨none, some 76, [(.tmp 12), (.const (.int .i64 1))], ⟨.f (fBin .eql .no), rEql⟩⟩,
  ⟨none, some 75, [(.tmp 76)], ⟨.f fMove, rMove⟩⟩])
 (.cond (.tmp 75)
 (.seq none
 (.reg [⟨none, some 77, [(.tmp 3)], ⟨.lr 3 9 true, rAny xl_access_Access_Step (.lr 3 9 true)⟩⟩,
  ⟨none, some 78, [(.tmp 0)], ⟨.f fMove, rMove⟩⟩,
  ⟨none, some 79, [(.tmp 78)], ⟨.f fNil, rNil⟩⟩,
  ⟨none, some 80, [(.tmp 79)], ⟨.f (fFld 9), rFld 9⟩⟩,
  ⟨none, some 81, [(.tmp 80)], ⟨.load 1 false, rLoad1⟩⟩,
  ⟨none, some 82, [(.tmp 81)], ⟨.call .none s_word_Slot v_word_Slot, rCall v_word_Slot⟩⟩,
  ⟨none, some 83, [(.tmp 82)], ⟨.f (fFldV 1 1 false), rAny xl_access_Access_Step (.f (fFldV 1 1 false))⟩⟩,
  ⟨none, some 84, [(.tmp 77), (.tmp 83)], ⟨.call .write s_layout_Env_Load v_layout_Env_Load, rCall v_layout_Env_Load⟩⟩,
  ⟨none, some 85, [(.tmp 84)], ⟨.call .none s_word_Head v_word_Head, rCall v_word_Head⟩⟩,
  ⟨none, some 7, [], ⟨.la 7 [(.int .i64 0), (.int .i64 0), (.int .i64 0), (.int .i64 0), (.bool false)], rAny xl_access_Access_Step (.la 7 [(.int .i64 0), (.int .i64 0), (.int .i64 0), (.int .i64 0), (.bool false)])⟩⟩,
  ⟨none, none, [(.tmp 7), (.tmp 85)], ⟨.ls 7 5, rAny xl_access_Access_Step (.ls 7 5)⟩⟩])
 (.seq none
 (.reg [⟨none, some 86, [(.tmp 0)], ⟨.f fMove, rMove⟩⟩,
  ⟨none, some 87, [(.tmp 0)], ⟨.f fMove, rMove⟩⟩,
  ⟨none, some 88, [(.tmp 7)], ⟨.f (fFld 1), rFld 1⟩⟩,
  ⟨none, some 89, [(.tmp 88)], ⟨.lr 7 1 false, rLr1 7⟩⟩,
  ⟨none, some 90, [(.tmp 86)], ⟨.f fNil, rNil⟩⟩,
  ⟨none, some 91, [(.tmp 90)], ⟨.f (fFld 13), rFld 13⟩⟩,
  ⟨none, none, [(.tmp 91), (.tmp 89)], ⟨.store 1, rStore1⟩⟩,
  ⟨none, some 92, [(.tmp 87)], ⟨.f fNil, rNil⟩⟩,
  ⟨none, some 93, [(.tmp 92)], ⟨.f (fFld 8), rFld 8⟩⟩,
  ⟨none, none, [(.tmp 93), (.const (.int .i64 2))], ⟨.store 1, rStore1⟩⟩])
 (.block 1
 (.seq none
 (.reg [⟨none, some 95, [(.tmp 7)], ⟨.f (fFld 4), rFld 4⟩⟩,
  ⟨none, some 96, [(.tmp 95)], ⟨.lr 7 1 false, rLr1 7⟩⟩,
  ⟨none, some 97, [(.tmp 0)], ⟨.f fMove, rMove⟩⟩,
  ⟨none, some 98, [(.tmp 97)], ⟨.f fNil, rNil⟩⟩,
  ⟨none, some 99, [(.tmp 98)], ⟨.f (fFld 5), rFld 5⟩⟩,
  ⟨none, some 100, [(.tmp 99)], ⟨.load 1 false, rLoad1⟩⟩,
  ⟨none, some 101, [(.tmp 96), (.tmp 100)], ⟨.f (fBin .neq .bool), rAny xl_access_Access_Step (.f (fBin .neq .bool))⟩⟩,
  ⟨none, some 94, [(.tmp 101)], ⟨.f fMove, rMove⟩⟩])
 (.cond (.tmp 94)
 (.seq none
 (.reg [⟨none, some 102, [(.tmp 0)], ⟨.f fMove, rMove⟩⟩,
  ⟨none, some 103, [(.tmp 3)], ⟨.lr 3 9 true, rAny xl_access_Access_Step (.lr 3 9 true)⟩⟩,
  ⟨none, some 104, [(.tmp 103)], ⟨.call .read s_layout_Env_Now v_layout_Env_Now, rCall v_layout_Env_Now⟩⟩,
  ⟨none, some 105, [(.tmp 102), (.const (.int .i64 3)), (.const (.int .i64 0)), (.tmp 104)], ⟨.call .write s_access_Access_end v_access_Access_end, rCall v_access_Access_end⟩⟩,
  ⟨none, some 4, [(.tmp 105)], ⟨.f fMove, rMove⟩⟩])
 .ret)
 (.seq (some ([0, 106], []))
 (.reg [⟨none, some 107, [(.tmp 0)], ⟨.f fMove, rMove⟩⟩,
  ⟨none, some 108, [(.tmp 107)], ⟨.f fNil, rNil⟩⟩,
  ⟨none, some 109, [(.tmp 108)], ⟨.f (fFld 0), rFld 0⟩⟩,
  ⟨none, some 110, [(.tmp 109)], ⟨.f (fFld 2), rFld 2⟩⟩,
  ⟨none, some 111, [(.tmp 110)], ⟨.load 1 false, rLoad1⟩⟩,
  ⟨none, some 112, [(.tmp 111), (.const (.int .i64 0))], ⟨.f (fBin .lss .no), rLss⟩⟩,
  ⟨none, some 113, [(.tmp 112)], ⟨.f fMove, rMove⟩⟩,
  ⟨(some (7, 6, false, some 113)), some 114, [(.tmp 0)], ⟨.f fMove, rMove⟩⟩,
  ⟨(some (8, 6, false, some 113)), some 115, [(.tmp 114)], ⟨.f fNil, rNil⟩⟩,
  ⟨(some (9, 6, false, some 113)), some 116, [(.tmp 115)], ⟨.f (fFld 0), rFld 0⟩⟩,
  ⟨(some (10, 6, false, some 113)), some 117, [(.tmp 116)], ⟨.f (fFld 2), rFld 2⟩⟩,
  ⟨(some (11, 6, false, some 113)), some 118, [(.tmp 117)], ⟨.load 1 false, rLoad1⟩⟩,
  ⟨(some (12, 6, false, some 113)), some 119, [(.tmp 7)], ⟨.f (fFld 1), rFld 1⟩⟩,
  ⟨(some (13, 6, false, some 113)), some 120, [(.tmp 119)], ⟨.lr 7 1 false, rLr1 7⟩⟩,
  ⟨(some (14, 6, false, some 113)), some 121, [(.tmp 118), (.tmp 120)], ⟨.f (fBin .geq .no), rGeq⟩⟩,
  ⟨none, some 122, [(.tmp 113), (.const (.bool true)), (.tmp 121)], ⟨.f fPick, rPick⟩⟩,
  ⟨none, some 106, [(.tmp 122)], ⟨.f fMove, rMove⟩⟩])
 (.cond (.tmp 106)
 (.seq none
 (.reg [⟨none, some 123, [(.tmp 0)], ⟨.f fMove, rMove⟩⟩,
  ⟨none, some 124, [(.tmp 0)], ⟨.f fMove, rMove⟩⟩,
  ⟨none, some 125, [(.tmp 124)], ⟨.f fNil, rNil⟩⟩,
  ⟨none, some 126, [(.tmp 125)], ⟨.f (fFld 11), rFld 11⟩⟩,
  ⟨none, some 127, [(.tmp 126)], ⟨.load 1 false, rLoad1⟩⟩,
  ⟨none, some 128, [(.tmp 123), (.const (.int .i64 4)), (.const (.int .i64 0)), (.tmp 127)], ⟨.call .write s_access_Access_end v_access_Access_end, rCall v_access_Access_end⟩⟩,
  ⟨none, some 4, [(.tmp 128)], ⟨.f fMove, rMove⟩⟩])
 .ret)
 .skip)))))))
 (.seq none
 (.reg [⟨none, some 130, [(.tmp 12), (.const (.int .i64 2))], ⟨.f (fBin .eql .no), rEql⟩⟩,
  ⟨none, some 129, [(.tmp 130)], ⟨.f fMove, rMove⟩⟩])
 (.cond (.tmp 129)
 (.seq none
 (.reg [⟨none, some 131, [(.tmp 0)], ⟨.f fMove, rMove⟩⟩,
  ⟨none, some 132, [(.tmp 3)], ⟨.lr 3 9 true, rAny xl_access_Access_Step (.lr 3 9 true)⟩⟩,
  ⟨none, some 133, [(.tmp 0)], ⟨.f fMove, rMove⟩⟩,
  ⟨none, some 134, [(.tmp 133)], ⟨.call .read s_access_Access_at v_access_Access_at, rCall v_access_Access_at⟩⟩,
  ⟨none, some 135, [(.tmp 132), (.tmp 134)], ⟨.call .write s_layout_Env_Load v_layout_Env_Load, rCall v_layout_Env_Load⟩⟩,
  ⟨none, some 136, [(.tmp 131)], ⟨.f fNil, rNil⟩⟩,
  ⟨none, some 137, [(.tmp 136)], ⟨.f (fFld 10), rFld 10⟩⟩,
  ⟨none, none, [(.tmp 137), (.tmp 135)], ⟨.store 1, rStore1⟩⟩])
 (.seq none
 (.reg [⟨none, some 138, [(.tmp 0)], ⟨.f fMove, rMove⟩⟩,
  ⟨none, some 139, [(.tmp 0)], ⟨.f fMove, rMove⟩⟩,
  ⟨none, some 140, [(.tmp 3)], ⟨.lr 3 9 true, rAny xl_access_Access_Step (.lr 3 9 true)⟩⟩,
  ⟨none, some 141, [(.tmp 140)], ⟨.call .read s_layout_Env_Now v_layout_Env_Now, rCall v_layout_Env_Now⟩⟩,
  ⟨none, some 142, [(.tmp 0)], ⟨.f fMove, rMove⟩⟩,
  ⟨none, some 143, [(.tmp 142)], ⟨.call .read s_access_Access_next v_access_Access_next, rCall v_access_Access_next⟩⟩,
  ⟨none, some 144, [(.tmp 138)], ⟨.f fNil, rNil⟩⟩,
  ⟨none, some 145, [(.tmp 144)], ⟨.f (fFld 12), rFld 12⟩⟩,
  ⟨none, none, [(.tmp 145), (.tmp 141)], ⟨.store 1, rStore1⟩⟩,
  ⟨none, some 146, [(.tmp 139)], ⟨.f fNil, rNil⟩⟩,
  ⟨none, some 147, [(.tmp 146)], ⟨.f (fFld 8), rFld 8⟩⟩,
  ⟨none, none, [(.tmp 147), (.tmp 143)], ⟨.store 1, rStore1⟩⟩])
 (.seq none
 (.reg [⟨none, some 148, [(.tmp 0)], ⟨.f fMove, rMove⟩⟩,
  ⟨none, some 149, [(.tmp 148)], ⟨.f fNil, rNil⟩⟩,
  ⟨none, some 150, [(.tmp 149)], ⟨.f (fFld 8), rFld 8⟩⟩,
  ⟨none, some 151, [(.tmp 150)], ⟨.load 1 false, rLoad1⟩⟩,
  ⟨none, some 152, [(.tmp 151), (.const (.int .i64 4))], ⟨.f (fBin .eql .no), rEql⟩⟩])
 (.cond (.tmp 152)
 (.reg [⟨none, some 153, [(.tmp 0)], ⟨.f fMove, rMove⟩⟩,
  ⟨none, some 154, [(.tmp 0)], ⟨.f fMove, rMove⟩⟩,
  ⟨none, some 155, [(.tmp 154)], ⟨.f fNil, rNil⟩⟩,
  ⟨none, some 156, [(.tmp 155)], ⟨.f (fFld 6), rFld 6⟩⟩,
  ⟨none, some 157, [(.tmp 156)], ⟨.f (fFld 0), rFld 0⟩⟩,
  ⟨none, some 158, [(.tmp 157)], ⟨.load 1 false, rLoad1⟩⟩,
  ⟨none, some 159, [(.tmp 0)], ⟨.f fMove, rMove⟩⟩,
  ⟨none, some 160, [(.tmp 159)], ⟨.f fNil, rNil⟩⟩,
  ⟨none, some 161, [(.tmp 160)], ⟨.f (fFld 9), rFld 9⟩⟩,
  ⟨none, some 162, [(.tmp 161)], ⟨.load 1 false, rLoad1⟩⟩,
  ⟨none, some 163, [(.tmp 0)], ⟨.f fMove, rMove⟩⟩,
  ⟨none, some 164, [(.tmp 163)], ⟨.f fNil, rNil⟩⟩,
  ⟨none, some 165, [(.tmp 164)], ⟨.f (fFld 13), rFld 13⟩⟩,
  ⟨none, some 166, [(.tmp 165)], ⟨.load 1 false, rLoad1⟩⟩,
  ⟨none, some 167, [(.tmp 158), (.tmp 162), (.tmp 166)], ⟨.call .write s_drop_NewHelp v_drop_NewHelp, rCall v_drop_NewHelp⟩⟩,
  ⟨none, some 168, [(.tmp 153)], ⟨.f fNil, rNil⟩⟩,
  ⟨none, some 169, [(.tmp 168)], ⟨.f (fFld 14), rFld 14⟩⟩,
  ⟨none, none, [(.tmp 169), (.tmp 167)], ⟨.store 1, rStore1⟩⟩])
 .skip))))
 (.seq none
 (.reg [⟨none, some 171, [(.tmp 12), (.const (.int .i64 3))], ⟨.f (fBin .eql .no), rEql⟩⟩,
  ⟨none, some 170, [(.tmp 171)], ⟨.f fMove, rMove⟩⟩])
 (.cond (.tmp 170)
 (.seq none
 (.reg [⟨none, some 172, [(.tmp 0)], ⟨.f fMove, rMove⟩⟩,
  ⟨none, some 173, [(.tmp 172)], ⟨.f fNil, rNil⟩⟩,
  ⟨none, some 174, [(.tmp 173)], ⟨.f (fFld 9), rFld 9⟩⟩,
  ⟨none, some 175, [(.tmp 174)], ⟨.load 1 false, rLoad1⟩⟩,
  ⟨none, some 176, [(.tmp 175)], ⟨.call .none s_word_Slot v_word_Slot, rCall v_word_Slot⟩⟩,
  ⟨none, some 8, [], ⟨.la 8 [(.int .i64 0), (.int .i64 0), (.int .i64 0), (.int .i64 0)], rAny xl_access_Access_Step (.la 8 [(.int .i64 0), (.int .i64 0), (.int .i64 0), (.int .i64 0)])⟩⟩,
  ⟨none, none, [(.tmp 8), (.tmp 176)], ⟨.ls 8 4, rAny xl_access_Access_Step (.ls 8 4)⟩⟩])
 (.seq none
 (.reg [⟨none, some 177, [(.tmp 8)], ⟨.f (fFld 3), rFld 3⟩⟩,
  ⟨none, some 178, [(.tmp 177)], ⟨.lr 8 1 false, rLr1 8⟩⟩,
  ⟨none, some 179, [(.tmp 178), (.const (.int .i64 1))], ⟨.f (fBin .add .no), rAdd⟩⟩,
  ⟨none, some 180, [(.tmp 8)], ⟨.f (fFld 0), rFld 0⟩⟩,
  ⟨none, none, [(.tmp 180), (.const (.int .i64 1))], ⟨.ls 8 1, rLs1 8⟩⟩,
  ⟨none, some 181, [(.tmp 8)], ⟨.f (fFld 3), rFld 3⟩⟩,
  ⟨none, none, [(.tmp 181), (.tmp 179)], ⟨.ls 8 1, rLs1 8⟩⟩])
 (.seq none
 (.reg [⟨none, some 182, [(.tmp 3)], ⟨.lr 3 9 true, rAny xl_access_Access_Step (.lr 3 9 true)⟩⟩,
  ⟨none, some 183, [(.tmp 3)], ⟨.f (fFld 0), rFld 0⟩⟩,
  ⟨none, some 184, [(.tmp 183)], ⟨.lr 3 7 true, rAny xl_access_Access_Step (.lr 3 7 true)⟩⟩,
  ⟨none, some 185, [(.tmp 0)], ⟨.f fMove, rMove⟩⟩,
  ⟨none, some 186, [(.tmp 185)], ⟨.f fNil, rNil⟩⟩,
  ⟨none, some 187, [(.tmp 186)], ⟨.f (fFld 6), rFld 6⟩⟩,
  ⟨none, some 188, [(.tmp 187)], ⟨.f (fFld 0), rFld 0⟩⟩,
  ⟨none, some 189, [(.tmp 188)], ⟨.load 1 false, rLoad1⟩⟩,
  ⟨none, some 190, [(.tmp 184), (.tmp 189)], ⟨.call .none s_layout_Slot v_layout_Slot, rCall v_layout_Slot⟩⟩,
  ⟨none, some 191, [(.tmp 0)], ⟨.f fMove, rMove⟩⟩,
  ⟨none, some 192, [(.tmp 191)], ⟨.f fNil, rNil⟩⟩,
  ⟨none, some 193, [(.tmp 192)], ⟨.f (fFld 9), rFld 9⟩⟩,
  ⟨none, some 194, [(.tmp 193)], ⟨.load 1 false, rLoad1⟩⟩,
  ⟨none, some 195, [(.tmp 8)], ⟨.lr 8 4 true, rAny xl_access_Access_Step (.lr 8 4 true)⟩⟩,
  ⟨none, some 196, [(.tmp 195)], ⟨.call .none s_word_PutSlot v_word_PutSlot, rCall v_word_PutSlot⟩⟩,
  ⟨none, some 197, [(.tmp 182), (.tmp 190), (.tmp 194), (.tmp 196)], ⟨.call .write s_layout_Env_Cas v_layout_Env_Cas, rCall v_layout_Env_Cas⟩⟩])
 (.reg [⟨none, some 198, [(.tmp 0)], ⟨.f fMove, rMove⟩⟩,
  ⟨none, some 199, [(.tmp 198)], ⟨.f fNil, rNil⟩⟩,
  ⟨none, some 200, [(.tmp 199)], ⟨.f (fFld 8), rFld 8⟩⟩,
  ⟨none, none, [(.tmp 200), (.const (.int .i64 0))], ⟨.store 1, rStore1⟩⟩]))))
 (.seq none
 (.reg [⟨none, some 202, [(.tmp 12), (.const (.int .i64 4))], ⟨.f (fBin .eql .no), rEql⟩⟩,
  ⟨none, some 201, [(.tmp 202)], ⟨.f fMove, rMove⟩⟩])
 (.cond (.tmp 201)
 (.seq none
 (.reg [⟨none, some 203, [(.tmp 0)], ⟨.f fMove, rMove⟩⟩,
  ⟨none, some 204, [(.tmp 203)], ⟨.f fNil, rNil⟩⟩,
  ⟨none, some 205, [(.tmp 204)], ⟨.f (fFld 14), rFld 14⟩⟩,
  ⟨none, some 206, [(.tmp 205)], ⟨.load 1 false, rLoad1⟩⟩,
  ⟨none, some 207, [(.tmp 3)], ⟨.lr 3 9 true, rAny xl_access_Access_Step (.lr 3 9 true)⟩⟩,
  ⟨none, some 208, [(.tmp 206), (.tmp 207)], ⟨.call .write s_drop_Help_Step v_drop_Help_Step, rCall v_drop_Help_Step⟩⟩])
 (.cond (.tmp 208)
 (.reg [⟨none, some 209, [(.tmp 0)], ⟨.f fMove, rMove⟩⟩,
  ⟨none, some 210, [(.tmp 209)], ⟨.f fNil, rNil⟩⟩,
  ⟨none, some 211, [(.tmp 210)], ⟨.f (fFld 8), rFld 8⟩⟩,
  ⟨none, none, [(.tmp 211), (.const (.int .i64 0))], ⟨.store 1, rStore1⟩⟩])
 .skip))
 (.seq none
 (.reg [⟨none, some 213, [(.tmp 12), (.const (.int .i64 5))], ⟨.f (fBin .eql .no), rEql⟩⟩,
  ⟨none, some 212, [(.tmp 213)], ⟨.f fMove, rMove⟩⟩])
 (.cond (.tmp 212)
 (.seq none
 (.reg [⟨none, some 214, [(.tmp 0)], ⟨.f fMove, rMove⟩⟩,
  ⟨none, some 215, [(.tmp 214)], ⟨.f fNil, rNil⟩⟩,
  ⟨none, some 216, [(.tmp 215)], ⟨.f (fFld 8), rFld 8⟩⟩,
  ⟨none, none, [(.tmp 216), (.const (.int .i64 0))], ⟨.store 1, rStore1⟩⟩])
 (.seq none
 (.reg [⟨none, some 217, [(.tmp 3)], ⟨.lr 3 9 true, rAny xl_access_Access_Step (.lr 3 9 true)⟩⟩,
  ⟨none, some 218, [(.tmp 0)], ⟨.f fMove, rMove⟩⟩,
  ⟨none, some 219, [(.tmp 218)], ⟨.call .read s_access_Access_at v_access_Access_at, rCall v_access_Access_at⟩⟩,
  ⟨none, some 220, [(.tmp 0)], ⟨.f fMove, rMove⟩⟩,
  ⟨none, some 221, [(.tmp 220)], ⟨.f fNil, rNil⟩⟩,
  ⟨none, some 222, [(.tmp 221)], ⟨.f (fFld 10), rFld 10⟩⟩,
  ⟨none, some 223, [(.tmp 222)], ⟨.load 1 false, rLoad1⟩⟩,
  ⟨none, some 224, [(.tmp 0)], ⟨.f fMove, rMove⟩⟩,
  ⟨none, some 225, [(.tmp 224)], ⟨.f fNil, rNil⟩⟩,
  ⟨none, some 226, [(.tmp 225)], ⟨.f (fFld 0), rFld 0⟩⟩,
  ⟨none, some 227, [(.tmp 226)], ⟨.f (fFld 3), rFld 3⟩⟩,
  ⟨none, some 228, [(.tmp 227)], ⟨.load 1 false, rLoad1⟩⟩,
  ⟨none, some 229, [(.tmp 228)], ⟨.f (fBuild [(0, 1), (1, 1), (2, 1)] [(.int .i64 0), (.bool false), (.int .i64 0)] [0]), rAny xl_access_Access_Step (.f (fBuild [(0, 1), (1, 1), (2, 1)] [(.int .i64 0), (.bool false), (.int .i64 0)] [0]))⟩⟩,
  ⟨none, some 230, [(.tmp 229)], ⟨.call .none s_word_PutCell v_word_PutCell, rCall v_word_PutCell⟩⟩,
  ⟨none, some 231, [(.tmp 217), (.tmp 219), (.tmp 223), (.tmp 230)], ⟨.call .write s_layout_Env_Cas v_layout_Env_Cas, rCall v_layout_Env_Cas⟩⟩])
 (.cond (.tmp 231)
 (.seq none
 (.reg [⟨none, some 232, [(.tmp 0)], ⟨.f fMove, rMove⟩⟩,
  ⟨none, some 233, [(.tmp 0)], ⟨.f fMove, rMove⟩⟩,
  ⟨none, some 234, [(.tmp 233)], ⟨.f fNil, rNil⟩⟩,
  ⟨none, some 235, [(.tmp 234)], ⟨.f (fFld 10), rFld 10⟩⟩,
  ⟨none, some 236, [(.tmp 235)], ⟨.load 1 false, rLoad1⟩⟩,
  ⟨none, some 237, [(.tmp 236)], ⟨.call .none s_word_Cell v_word_Cell, rCall v_word_Cell⟩⟩,
  ⟨none, some 238, [(.tmp 237)], ⟨.f (fFldV 0 1 false), rAny xl_access_Access_Step (.f (fFldV 0 1 false))⟩⟩,
  ⟨none, some 239, [(.tmp 3)], ⟨.lr 3 9 true, rAny xl_access_Access_Step (.lr 3 9 true)⟩⟩,
  ⟨none, some 240, [(.tmp 239)], ⟨.call .read s_layout_Env_Now v_layout_Env_Now, rCall v_layout_Env_Now⟩⟩,
  ⟨none, some 241, [(.tmp 232), (.const (.int .i64 0)), (.tmp 238), (.tmp 240)], ⟨.call .write s_access_Access_end v_access_Access_end, rCall v_access_Access_end⟩⟩,
  ⟨none, some 4, [(.tmp 241)], ⟨.f fMove, rMove⟩⟩])
 .ret)
 .skip)))
 (.seq none
 (.reg [⟨none, some 13, [(.tmp 0)], ⟨.f fMove, rMove⟩⟩,
  ⟨none, some 14, [(.tmp 3)], ⟨.lr 3 9 true, rAny xl_access_Access_Step (.lr 3 9 true)⟩⟩,
  ⟨none, some 15, [(.tmp 13), (.tmp 14)], ⟨.call .write s_access_Access_check v_access_Access_check, rCall v_access_Access_check⟩⟩,
  ⟨none, some 4, [(.tmp 15)], ⟨.f fMove, rMove⟩⟩])
 .ret)))))))))))))))
 (.seq none
 (.reg [⟨none, some 4, [(.const (.bool false))], ⟨.f fMove, rMove⟩⟩])
 .ret)))
noncomputable def v_access_Access_Step : EvF := evFn 2 xc_access_Access_Step [.t 4]
theorem xt_access_Access_Step : toC cx_access_Access_Step (bodyOf Try.f15) = some (xc_access_Access_Step.map XN.sm) := by kernel_rfl
theorem xr_access_Access_Step : toR cx_access_Access_Step Try.f15.results.toList = some [.t 4] := by kernel_rfl
theorem xo_access_Access_Step : xc_access_Access_Step.ok xl_access_Access_Step := ⟨⟨rAny_ok (trivial), rMove_ok, trivial⟩, ⟨⟨⟨rMove_ok, rNil_ok, rFld_ok _, rLoad1_ok, trivial⟩, ⟨⟨rEql_ok, rMove_ok, trivial⟩, ⟨⟨⟨rMove_ok, rNil_ok, rFld_ok _, rFld_ok _, rLoad1_ok, rCall_ok ve_word_Handle, rMove_ok, rAny_ok (eqv_ext _), rAny_ok (eqv_ext _), rAny_ok (trivial), rAny_ok (trivial), rMove_ok, trivial⟩, ⟨⟨⟨rMove_ok, rAny_ok (trivial), rNil_ok, rFld_ok _, rAny_ok (trivial), trivial⟩, ⟨⟨rMove_ok, rNot_ok, rMove_ok, rFld_ok _, rLr1_ok _, rFld_ok _, rFld_ok _, rLr1_ok _, rGeq_ok, rPick_ok, trivial⟩, ⟨⟨⟨rMove_ok, rAny_ok (trivial), rCall_ok ve_layout_Env_Now, rCall_ok ve_access_Access_end, rMove_ok, trivial⟩, trivial⟩, trivial⟩⟩⟩, ⟨⟨rMove_ok, rAny_ok (trivial), rFld_ok _, rAny_ok (trivial), rFld_ok _, rLr1_ok _, rCall_ok ve_layout_Slot, rCall_ok ve_layout_Env_Load, rNil_ok, rFld_ok _, rStore1_ok, trivial⟩, ⟨⟨rMove_ok, rMove_ok, rAny_ok (trivial), rCall_ok ve_layout_Env_Now, rNil_ok, rFld_ok _, rStore1_ok, rNil_ok, rFld_ok _, rStore1_ok, trivial⟩, ⟨⟨rMove_ok, rNil_ok, rFld_ok _, rLoad1_ok, rCall_ok ve_word_Slot, rAny_ok (trivial), rCall_ok ve_drop_Live, rNot_ok, trivial⟩, ⟨⟨⟨rMove_ok, rAny_ok (trivial), rCall_ok ve_layout_Env_Now, rCall_ok ve_access_Access_end, rMove_ok, trivial⟩, trivial⟩, trivial⟩⟩⟩⟩⟩⟩, ⟨⟨rEql_ok, rMove_ok, trivial⟩, ⟨⟨⟨rAny_ok (trivial), rMove_ok, rNil_ok, rFld_ok _, rLoad1_ok, rCall_ok ve_word_Slot, rAny_ok (eqv_fldV _ _ _), rCall_ok ve_layout_Env_Load, rCall_ok ve_word_Head, rAny_ok (trivial), rAny_ok (trivial), trivial⟩, ⟨⟨rMove_ok, rMove_ok, rFld_ok _, rLr1_ok _, rNil_ok, rFld_ok _, rStore1_ok, rNil_ok, rFld_ok _, rStore1_ok, trivial⟩, ⟨⟨rFld_ok _, rLr1_ok _, rMove_ok, rNil_ok, rFld_ok _, rLoad1_ok, rAny_ok (eqv_bin _ _), rMove_ok, trivial⟩, ⟨⟨⟨rMove_ok, rAny_ok (trivial), rCall_ok ve_layout_Env_Now, rCall_ok ve_access_Access_end, rMove_ok, trivial⟩, trivial⟩, ⟨⟨rMove_ok, rNil_ok, rFld_ok _, rFld_ok _, rLoad1_ok, rLss_ok, rMove_ok, rMove_ok, rNil_ok, rFld_ok _, rFld_ok _, rLoad1_ok, rFld_ok _, rLr1_ok _, rGeq_ok, rPick_ok, rMove_ok, trivial⟩, ⟨⟨⟨rMove_ok, rMove_ok, rNil_ok, rFld_ok _, rLoad1_ok, rCall_ok ve_access_Access_end, rMove_ok, trivial⟩, trivial⟩, trivial⟩⟩⟩⟩⟩⟩, ⟨⟨rEql_ok, rMove_ok, trivial⟩, ⟨⟨⟨rMove_ok, rAny_ok (trivial), rMove_ok, rCall_ok ve_access_Access_at, rCall_ok ve_layout_Env_Load, rNil_ok, rFld_ok _, rStore1_ok, trivial⟩, ⟨⟨rMove_ok, rMove_ok, rAny_ok (trivial), rCall_ok ve_layout_Env_Now, rMove_ok, rCall_ok ve_access_Access_next, rNil_ok, rFld_ok _, rStore1_ok, rNil_ok, rFld_ok _, rStore1_ok, trivial⟩, ⟨⟨rMove_ok, rNil_ok, rFld_ok _, rLoad1_ok, rEql_ok, trivial⟩, ⟨⟨rMove_ok, rMove_ok, rNil_ok, rFld_ok _, rFld_ok _, rLoad1_ok, rMove_ok, rNil_ok, rFld_ok _, rLoad1_ok, rMove_ok, rNil_ok, rFld_ok _, rLoad1_ok, rCall_ok ve_drop_NewHelp, rNil_ok, rFld_ok _, rStore1_ok, trivial⟩, trivial⟩⟩⟩⟩, ⟨⟨rEql_ok, rMove_ok, trivial⟩, ⟨⟨⟨rMove_ok, rNil_ok, rFld_ok _, rLoad1_ok, rCall_ok ve_word_Slot, rAny_ok (trivial), rAny_ok (trivial), trivial⟩, ⟨⟨rFld_ok _, rLr1_ok _, rAdd_ok, rFld_ok _, rLs1_ok _, rFld_ok _, rLs1_ok _, trivial⟩, ⟨⟨rAny_ok (trivial), rFld_ok _, rAny_ok (trivial), rMove_ok, rNil_ok, rFld_ok _, rFld_ok _, rLoad1_ok, rCall_ok ve_layout_Slot, rMove_ok, rNil_ok, rFld_ok _, rLoad1_ok, rAny_ok (trivial), rCall_ok ve_word_PutSlot, rCall_ok ve_layout_Env_Cas, trivial⟩, ⟨rMove_ok, rNil_ok, rFld_ok _, rStore1_ok, trivial⟩⟩⟩⟩, ⟨⟨rEql_ok, rMove_ok, trivial⟩, ⟨⟨⟨rMove_ok, rNil_ok, rFld_ok _, rLoad1_ok, rAny_ok (trivial), rCall_ok ve_drop_Help_Step, trivial⟩, ⟨⟨rMove_ok, rNil_ok, rFld_ok _, rStore1_ok, trivial⟩, trivial⟩⟩, ⟨⟨rEql_ok, rMove_ok, trivial⟩, ⟨⟨⟨rMove_ok, rNil_ok, rFld_ok _, rStore1_ok, trivial⟩, ⟨⟨rAny_ok (trivial), rMove_ok, rCall_ok ve_access_Access_at, rMove_ok, rNil_ok, rFld_ok _, rLoad1_ok, rMove_ok, rNil_ok, rFld_ok _, rFld_ok _, rLoad1_ok, rAny_ok (eqv_build _ rfl _), rCall_ok ve_word_PutCell, rCall_ok ve_layout_Env_Cas, trivial⟩, ⟨⟨⟨rMove_ok, rMove_ok, rNil_ok, rFld_ok _, rLoad1_ok, rCall_ok ve_word_Cell, rAny_ok (eqv_fldV _ _ _), rAny_ok (trivial), rCall_ok ve_layout_Env_Now, rCall_ok ve_access_Access_end, rMove_ok, trivial⟩, trivial⟩, trivial⟩⟩⟩, ⟨⟨rMove_ok, rAny_ok (trivial), rCall_ok ve_access_Access_check, rMove_ok, trivial⟩, trivial⟩⟩⟩⟩⟩⟩⟩⟩⟩⟩⟩⟩⟩⟩, ⟨⟨rMove_ok, trivial⟩, trivial⟩⟩⟩
theorem ve_access_Access_Step : EvOk s_access_Access_Step v_access_Access_Step := EvOk.of (evFn_sound (C := cx_access_Access_Step) xt_access_Access_Step xr_access_Access_Step xo_access_Access_Step) q_access_Access_Step
attribute [irreducible] w_access_Access_Step_j1b w_access_Access_Step_j1 w_access_Access_Step_j2b w_access_Access_Step_j2 w_access_Access_Step_j3b w_access_Access_Step_j3 w_access_Access_Step s_access_Access_Step
def w_access_Access_Done (a0 : Value) (K : Value → Mem → Prop) (σ : Mem) : Prop :=
xF fMove [a0] fun v3 =>
xF (fBin .eql .ptr) [v3, (.pointer none)] fun v4 =>
xIf v4
 (xF (fBuild [(0, 1), (1, 1), (2, 1), (3, 1)] [(.int .i64 0), (.int .u64 0), (.int .i64 0), (.int .i64 0)] [0]) [(.int .i64 1)] fun v5 =>
xC (gStore 4 [(locP 2), v5] [(.int .i64 0), (.int .u64 0), (.int .i64 0), (.int .i64 0)]) fun c2 =>
xO (gLoad 4 true [(locP 2)] c2) fun r2 =>
K r2 σ)
 (xF fMove [a0] fun v6 =>
xF fNil [v6] fun v7 =>
xF (fFld 15) [v7] fun v8 =>
hLoad 4 true [v8] (fun v9 σ =>
xC (gStore 4 [(locP 2), v9] [(.int .i64 0), (.int .u64 0), (.int .i64 0), (.int .i64 0)]) fun c2 =>
xO (gLoad 4 true [(locP 2)] c2) fun r2 =>
K r2 σ) σ)
def s_access_Access_Done : Spec := fun args K σ => match args with
  | [a0] => w_access_Access_Done a0 K σ
  | _ => False
noncomputable def cx_access_Access_Done : Cx := { P := Try.prog, T := [], loc := [(2, 2)], eqt := [(36, .ptr)], n := 10, keep := [] }
theorem q_access_Access_Done : FnS cx_access_Access_Done Try.f16 (bodyOf Try.f16) 1 = s_access_Access_Done := by
  funext args K σ
  rcases args with _ | ⟨a0, _ | ⟨b, r⟩⟩ <;> kernel_rfl
theorem e_access_Access_Done : Entry Try.prog 16 .read s_access_Access_Done :=
  entry (C := cx_access_Access_Done) TOk.nil mixedOk Try.func16 (by kernel_rfl) (by kernel_rfl) (by kernel_rfl) q_access_Access_Done
def xl_access_Access_Done : List (Nat × Nat) := [(2, 2)]
noncomputable def xc_access_Access_Done : XC XN :=
(.seq none
 (.reg [⟨none, some 2, [], ⟨.la 2 [(.int .i64 0), (.int .u64 0), (.int .i64 0), (.int .i64 0)], rAny xl_access_Access_Done (.la 2 [(.int .i64 0), (.int .u64 0), (.int .i64 0), (.int .i64 0)])⟩⟩])
 (.seq none
 (.seq none
 (.reg [⟨none, some 3, [(.tmp 0)], ⟨.f fMove, rMove⟩⟩,
  ⟨none, some 4, [(.tmp 3), (.const (.pointer none))], ⟨.f (fBin .eql .ptr), rAny xl_access_Access_Done (.f (fBin .eql .ptr))⟩⟩])
 (.cond (.tmp 4)
 (.seq none
 (.reg [⟨none, some 5, [(.const (.int .i64 1))], ⟨.f (fBuild [(0, 1), (1, 1), (2, 1), (3, 1)] [(.int .i64 0), (.int .u64 0), (.int .i64 0), (.int .i64 0)] [0]), rAny xl_access_Access_Done (.f (fBuild [(0, 1), (1, 1), (2, 1), (3, 1)] [(.int .i64 0), (.int .u64 0), (.int .i64 0), (.int .i64 0)] [0]))⟩⟩,
  ⟨none, none, [(.tmp 2), (.tmp 5)], ⟨.ls 2 4, rAny xl_access_Access_Done (.ls 2 4)⟩⟩])
 .ret)
 .skip))
 (.seq none
 (.reg [⟨none, some 6, [(.tmp 0)], ⟨.f fMove, rMove⟩⟩,
  ⟨none, some 7, [(.tmp 6)], ⟨.f fNil, rNil⟩⟩,
  ⟨none, some 8, [(.tmp 7)], ⟨.f (fFld 15), rFld 15⟩⟩,
  ⟨none, some 9, [(.tmp 8)], ⟨.load 4 true, rAny xl_access_Access_Done (.load 4 true)⟩⟩,
  ⟨none, none, [(.tmp 2), (.tmp 9)], ⟨.ls 2 4, rAny xl_access_Access_Done (.ls 2 4)⟩⟩])
 .ret)))
noncomputable def v_access_Access_Done : EvF := evFn 1 xc_access_Access_Done [.c 2 2 4 true]
theorem xt_access_Access_Done : toC cx_access_Access_Done (bodyOf Try.f16) = some (xc_access_Access_Done.map XN.sm) := by kernel_rfl
theorem xr_access_Access_Done : toR cx_access_Access_Done Try.f16.results.toList = some [.c 2 2 4 true] := by kernel_rfl
theorem xo_access_Access_Done : xc_access_Access_Done.ok xl_access_Access_Done := ⟨⟨rAny_ok (trivial), trivial⟩, ⟨⟨⟨rMove_ok, rAny_ok (eqv_bin _ _), trivial⟩, ⟨⟨⟨rAny_ok (eqv_build _ rfl _), rAny_ok (trivial), trivial⟩, trivial⟩, trivial⟩⟩, ⟨⟨rMove_ok, rNil_ok, rFld_ok _, rAny_ok (trivial), rAny_ok (trivial), trivial⟩, trivial⟩⟩⟩
theorem ve_access_Access_Done : EvOk s_access_Access_Done v_access_Access_Done := EvOk.of (evFn_sound (C := cx_access_Access_Done) xt_access_Access_Done xr_access_Access_Done xo_access_Access_Done) q_access_Access_Done
attribute [irreducible] w_access_Access_Done s_access_Access_Done
def w_law10_Do_j1b (K : Value → Mem → Prop) (v7 : Value) (c6 : List Value) (σ : Mem) : Prop :=
xF fMove [v7] fun v19 =>
s_access_Access_Done [v19] (fun v20 σ =>
xC (gStore 4 [(locP 6), v20] c6) fun c6 =>
xO (gLoad 4 true [(locP 6)] c6) fun r6 =>
K r6 σ) σ
def w_law10_Do_j1 (K : Value → Mem → Prop) (ts : List Value) (ls : List (List Value)) (σ : Mem) : Prop := w_law10_Do_j1b K (ts.getD 0 poison) (ls.getD 0 []) σ
def w_law10_Do_l4b (K : Value → Mem → Prop) (J1 : List Value → List (List Value) → Mem → Prop) (R1 : List Value → List (List Value) → Mem → Prop) (v7 v8 : Value) (c3 c6 : List Value) (σ : Mem) : Prop :=
xF fMove [v8] fun v12 =>
xF (fBin .lss .no) [v12, (.int .i64 200)] fun v13 =>
xIf v13
 (xF fMove [v7] fun v16 =>
xO (gLoad 9 true [(locP 3)] c3) fun v17 =>
s_access_Access_Step [v16, v17] (fun v18 σ =>
xIf v18
 (J1 [v7] [c6] σ)
 (xF fMove [v8] fun v14 =>
xF (fBin .add .no) [v14, (.int .i64 1)] fun v15 =>
xF fMove [v15] fun v8 =>
R1 [v7, v8] [c3, c6] σ)) σ)
 (J1 [v7] [c6] σ)
def w_law10_Do_l4 (K : Value → Mem → Prop) (J1 : List Value → List (List Value) → Mem → Prop) (R1 : List Value → List (List Value) → Mem → Prop) (ts : List Value) (ls : List (List Value)) (σ : Mem) : Prop := w_law10_Do_l4b K J1 R1 (ts.getD 0 poison) (ts.getD 1 poison) (ls.getD 0 []) (ls.getD 1 []) σ
def w_law10_Do (a0 a1 a2 : Value) (K : Value → Mem → Prop) (σ : Mem) : Prop :=
xC (gBox 9 [a0] []) fun c3 =>
xC (gBox 5 [a1] []) fun c4 =>
xO (gLoad 5 true [(locP 4)] c4) fun v9 =>
xF fMove [a2] fun v10 =>
s_access_New [v9, v10] (fun v11 σ =>
xF fMove [v11] fun v7 =>
xJoin (w_law10_Do_j1 K) fun J1 =>
xF fMove [(.int .i64 0)] fun v8 =>
xLoop (w_law10_Do_l4 K J1) [v7, v8] [c3, [(.int .i64 0), (.int .u64 0), (.int .i64 0), (.int .i64 0)]] σ) σ
def s_law10_Do : Spec := fun args K σ => match args with
  | [a0, a1, a2] => w_law10_Do a0 a1 a2 K σ
  | _ => False
noncomputable def cx_law10_Do : Cx := { P := Try.prog, T := [(14, .write, s_access_New), (15, .write, s_access_Access_Step), (16, .read, s_access_Access_Done)], loc := [(3, 3), (4, 4), (6, 6)], eqt := [], n := 21, keep := [(4, [7, 8], [3, 6]), (1000007, [7], [6])] }
theorem q_law10_Do : FnS cx_law10_Do Try.f17 (bodyOf Try.f17) 3 = s_law10_Do := by
  funext args K σ
  rcases args with _ | ⟨a0, _ | ⟨a1, _ | ⟨a2, _ | ⟨b, r⟩⟩⟩⟩ <;> kernel_rfl
theorem e_law10_Do : Entry Try.prog 17 .write s_law10_Do :=
  entry (C := cx_law10_Do) (TOk.cons e_access_New (TOk.cons e_access_Access_Step (TOk.cons e_access_Access_Done TOk.nil))) mixedOk Try.func17 (by kernel_rfl) (by kernel_rfl) (by kernel_rfl) q_law10_Do
def xl_law10_Do : List (Nat × Nat) := [(3, 3), (4, 4), (6, 6)]
noncomputable def xc_law10_Do : XC XN :=
(.seq none
 (.reg [⟨none, some 3, [(.tmp 0)], ⟨.lb 3 9, rAny xl_law10_Do (.lb 3 9)⟩⟩,
  ⟨none, some 4, [(.tmp 1)], ⟨.lb 4 5, rAny xl_law10_Do (.lb 4 5)⟩⟩,
  ⟨none, some 6, [], ⟨.la 6 [(.int .i64 0), (.int .u64 0), (.int .i64 0), (.int .i64 0)], rAny xl_law10_Do (.la 6 [(.int .i64 0), (.int .u64 0), (.int .i64 0), (.int .i64 0)])⟩⟩])
 (.seq none
 (.reg [⟨none, some 9, [(.tmp 4)], ⟨.lr 4 5 true, rAny xl_law10_Do (.lr 4 5 true)⟩⟩,
  ⟨none, some 10, [(.tmp 2)], ⟨.f fMove, rMove⟩⟩,
  ⟨none, some 11, [(.tmp 9), (.tmp 10)], ⟨.call .write s_access_New v_access_New, rCall v_access_New⟩⟩,
  ⟨none, some 7, [(.tmp 11)], ⟨.f fMove, rMove⟩⟩])
 (.seq (some ([7], [6]))
 (.seq none
 (.reg [⟨none, some 8, [(.const (.int .i64 0))], ⟨.f fMove, rMove⟩⟩])
 (.block 0
 (.loop ([7, 8], [3, 6])
 (.seq none
 (.seq none
 (.reg [⟨none, some 12, [(.tmp 8)], ⟨.f fMove, rMove⟩⟩,
  ⟨none, some 13, [(.tmp 12), (.const (.int .i64 200))], ⟨.f (fBin .lss .no), rLss⟩⟩])
 (.cond (.tmp 13)
 .skip
 (.exit 0)))
 (.seq none
 (.block 1
 (.seq none
 (.reg [⟨none, some 16, [(.tmp 7)], ⟨.f fMove, rMove⟩⟩,
  ⟨none, some 17, [(.tmp 3)], ⟨.lr 3 9 true, rAny xl_law10_Do (.lr 3 9 true)⟩⟩,
  ⟨none, some 18, [(.tmp 16), (.tmp 17)], ⟨.call .write s_access_Access_Step v_access_Access_Step, rCall v_access_Access_Step⟩⟩])
 (.cond (.tmp 18)
 (.exit 0)
 .skip)))
 (.reg [⟨none, some 14, [(.tmp 8)], ⟨.f fMove, rMove⟩⟩,
  ⟨none, some 15, [(.tmp 14), (.const (.int .i64 1))], ⟨.f (fBin .add .no), rAdd⟩⟩,
  ⟨none, some 8, [(.tmp 15)], ⟨.f fMove, rMove⟩⟩]))))))
 (.seq none
 (.reg [⟨none, some 19, [(.tmp 7)], ⟨.f fMove, rMove⟩⟩,
  ⟨none, some 20, [(.tmp 19)], ⟨.call .read s_access_Access_Done v_access_Access_Done, rCall v_access_Access_Done⟩⟩,
  ⟨none, none, [(.tmp 6), (.tmp 20)], ⟨.ls 6 4, rAny xl_law10_Do (.ls 6 4)⟩⟩])
 .ret))))
noncomputable def v_law10_Do : EvF := evFn 3 xc_law10_Do [.c 6 6 4 true]
theorem xt_law10_Do : toC cx_law10_Do (bodyOf Try.f17) = some (xc_law10_Do.map XN.sm) := by kernel_rfl
theorem xr_law10_Do : toR cx_law10_Do Try.f17.results.toList = some [.c 6 6 4 true] := by kernel_rfl
theorem xo_law10_Do : xc_law10_Do.ok xl_law10_Do := ⟨⟨rAny_ok (trivial), rAny_ok (trivial), rAny_ok (trivial), trivial⟩, ⟨⟨rAny_ok (trivial), rMove_ok, rCall_ok ve_access_New, rMove_ok, trivial⟩, ⟨⟨⟨rMove_ok, trivial⟩, ⟨⟨⟨rMove_ok, rLss_ok, trivial⟩, ⟨trivial, trivial⟩⟩, ⟨⟨⟨rMove_ok, rAny_ok (trivial), rCall_ok ve_access_Access_Step, trivial⟩, ⟨trivial, trivial⟩⟩, ⟨rMove_ok, rAdd_ok, rMove_ok, trivial⟩⟩⟩⟩, ⟨⟨rMove_ok, rCall_ok ve_access_Access_Done, rAny_ok (trivial), trivial⟩, trivial⟩⟩⟩⟩
theorem ve_law10_Do : EvOk s_law10_Do v_law10_Do := EvOk.of (evFn_sound (C := cx_law10_Do) xt_law10_Do xr_law10_Do xo_law10_Do) q_law10_Do
attribute [irreducible] w_law10_Do_j1b w_law10_Do_j1 w_law10_Do_l4b w_law10_Do_l4 w_law10_Do s_law10_Do
def w_law10_awake_r (K : Value → Mem → Prop) (σ : Mem) : Prop :=
xF fMove [(.bool false)] fun v0 =>
s_law04_Arena [(.int .i64 1), (.int .i64 4), (.int .i64 2), (.int .i64 20)] (fun v7 σ =>
xF fMove [v7] fun v6 =>
xF (fExt 0) [v6] fun v8 =>
xF (fExt 1) [v6] fun v9 =>
xC (gStore 9 [(locP 1), v8] [(.int .i64 0), (.int .i64 0), (.int .i64 0), (.int .i64 0), (.int .i64 0), (.int .i64 0), (.int .i64 0), (.pointer none), (.int .i64 0)]) fun c1 =>
xF fMove [v9] fun v2 =>
xF fMove [v2] fun v10 =>
xF (fUn .not) [v10] fun v11 =>
xIf v11
 (xF fMove [(.bool false)] fun v0 =>
K v0 σ)
 (xO (gLoad 9 true [(locP 1)] c1) fun v12 =>
s_law08_Make [v12, (.int .i64 2), (.bool false)] (fun v13 σ =>
xF (fFldV 1 1 false) [v13] fun v14 =>
xF fMove [v14] fun v3 =>
xO (gLoad 9 true [(locP 1)] c1) fun v15 =>
xF fMove [v3] fun v16 =>
xF (fBuild [(0, 1), (1, 1), (2, 1), (3, 1), (4, 1)] [(.int .i64 0), (.int .u64 0), (.int .i64 0), (.int .i64 0), (.int .i64 0)] [0, 1, 2, 3]) [(.int .i64 2), v16, (.int .i64 1), (.int .i64 5)] fun v17 =>
s_law10_Do [v15, v17, (.bool false)] (fun v18 σ =>
xC (gStore 4 [(locP 4), v18] [(.int .i64 0), (.int .u64 0), (.int .i64 0), (.int .i64 0)]) fun c4 =>
xO (gLoad 9 true [(locP 1)] c1) fun v19 =>
xF fMove [v3] fun v20 =>
xF (fBuild [(0, 1), (1, 1), (2, 1), (3, 1), (4, 1)] [(.int .i64 0), (.int .u64 0), (.int .i64 0), (.int .i64 0), (.int .i64 0)] [0, 1, 2]) [(.int .i64 1), v20, (.int .i64 1)] fun v21 =>
s_law10_Do [v19, v21, (.bool false)] (fun v22 σ =>
xC (gStore 4 [(locP 5), v22] [(.int .i64 0), (.int .u64 0), (.int .i64 0), (.int .i64 0)]) fun c5 =>
xF (fFld 0) [(locP 4)] fun v23 =>
xO (gLoad 1 false [v23] c4) fun v24 =>
xF (fBin .eql .no) [v24, (.int .i64 0)] fun v25 =>
xF fMove [v25] fun v26 =>
xIf v26
 (xF (fFld 0) [(locP 5)] fun v27 =>
xO (gLoad 1 false [v27] c5) fun v28 =>
xF (fBin .eql .no) [v28, (.int .i64 0)] fun v29 =>
xF fPick [(.bool true), v29, (.bool false)] fun v30 =>
xF fMove [v30] fun v31 =>
xIf v31
 (xF (fFld 2) [(locP 5)] fun v32 =>
xO (gLoad 1 false [v32] c5) fun v33 =>
xF (fBin .eql .no) [v33, (.int .i64 5)] fun v34 =>
xF fPick [(.bool true), v34, (.bool false)] fun v35 =>
xF fMove [v35] fun v36 =>
xIf v36
 (xF (fFld 3) [(locP 5)] fun v37 =>
xO (gLoad 1 false [v37] c5) fun v38 =>
xF (fFld 3) [(locP 4)] fun v39 =>
xO (gLoad 1 false [v39] c4) fun v40 =>
xF (fBin .gtr .no) [v38, v40] fun v41 =>
xF fPick [(.bool true), v41, (.bool false)] fun v42 =>
xF fMove [v42] fun v0 =>
K v0 σ)
 (xF fPick [(.bool false), undef, (.bool false)] fun v42 =>
xF fMove [v42] fun v0 =>
K v0 σ))
 (xF fPick [(.bool false), undef, (.bool false)] fun v35 =>
xF fMove [v35] fun v36 =>
xIf v36
 (xF (fFld 3) [(locP 5)] fun v37 =>
xO (gLoad 1 false [v37] c5) fun v38 =>
xF (fFld 3) [(locP 4)] fun v39 =>
xO (gLoad 1 false [v39] c4) fun v40 =>
xF (fBin .gtr .no) [v38, v40] fun v41 =>
xF fPick [(.bool true), v41, (.bool false)] fun v42 =>
xF fMove [v42] fun v0 =>
K v0 σ)
 (xF fPick [(.bool false), undef, (.bool false)] fun v42 =>
xF fMove [v42] fun v0 =>
K v0 σ)))
 (xF fPick [(.bool false), undef, (.bool false)] fun v30 =>
xF fMove [v30] fun v31 =>
xIf v31
 (xF (fFld 2) [(locP 5)] fun v32 =>
xO (gLoad 1 false [v32] c5) fun v33 =>
xF (fBin .eql .no) [v33, (.int .i64 5)] fun v34 =>
xF fPick [(.bool true), v34, (.bool false)] fun v35 =>
xF fMove [v35] fun v36 =>
xIf v36
 (xF (fFld 3) [(locP 5)] fun v37 =>
xO (gLoad 1 false [v37] c5) fun v38 =>
xF (fFld 3) [(locP 4)] fun v39 =>
xO (gLoad 1 false [v39] c4) fun v40 =>
xF (fBin .gtr .no) [v38, v40] fun v41 =>
xF fPick [(.bool true), v41, (.bool false)] fun v42 =>
xF fMove [v42] fun v0 =>
K v0 σ)
 (xF fPick [(.bool false), undef, (.bool false)] fun v42 =>
xF fMove [v42] fun v0 =>
K v0 σ))
 (xF fPick [(.bool false), undef, (.bool false)] fun v35 =>
xF fMove [v35] fun v36 =>
xIf v36
 (xF (fFld 3) [(locP 5)] fun v37 =>
xO (gLoad 1 false [v37] c5) fun v38 =>
xF (fFld 3) [(locP 4)] fun v39 =>
xO (gLoad 1 false [v39] c4) fun v40 =>
xF (fBin .gtr .no) [v38, v40] fun v41 =>
xF fPick [(.bool true), v41, (.bool false)] fun v42 =>
xF fMove [v42] fun v0 =>
K v0 σ)
 (xF fPick [(.bool false), undef, (.bool false)] fun v42 =>
xF fMove [v42] fun v0 =>
K v0 σ)))) σ) σ) σ)) σ
def s_law10_awake_r : Spec := fun args K σ => match args with
  | [] => w_law10_awake_r  K σ
  | _ => False
noncomputable def cx_law10_awake_r : Cx := { P := Try.prog, T := [(11, .write, s_law04_Arena), (13, .write, s_law08_Make), (17, .write, s_law10_Do)], loc := [(1, 1), (4, 4), (5, 5), (23, 4), (27, 5), (32, 5), (37, 5), (39, 4)], eqt := [], n := 43, keep := [] }
theorem q_law10_awake_r : FnS cx_law10_awake_r Try.f12 (bodyOf Try.f12) 0 = s_law10_awake_r := by
  funext args K σ
  rcases args with _ | ⟨b, r⟩ <;> kernel_rfl
theorem e_law10_awake_r : Entry Try.prog 12 .write s_law10_awake_r :=
  entry (C := cx_law10_awake_r) (TOk.cons e_law04_Arena (TOk.cons e_law08_Make (TOk.cons e_law10_Do TOk.nil))) mixedOk Try.func12 (by kernel_rfl) (by kernel_rfl) (by kernel_rfl) q_law10_awake_r
def xl_law10_awake_r : List (Nat × Nat) := [(1, 1), (4, 4), (5, 5), (23, 4), (27, 5), (32, 5), (37, 5), (39, 4)]
noncomputable def xc_law10_awake_r : XC XN :=
(.seq none
 (.reg [⟨none, some 0, [(.const (.bool false))], ⟨.f fMove, rMove⟩⟩])
 (.seq none
 (.reg [⟨none, some 7, [(.const (.int .i64 1)), (.const (.int .i64 4)), (.const (.int .i64 2)), (.const (.int .i64 20))], ⟨.call .write s_law04_Arena v_law04_Arena, rCall v_law04_Arena⟩⟩,
  ⟨none, some 6, [(.tmp 7)], ⟨.f fMove, rMove⟩⟩,
  ⟨none, some 8, [(.tmp 6)], ⟨.f (fExt 0), rAny xl_law10_awake_r (.f (fExt 0))⟩⟩,
  ⟨none, some 9, [(.tmp 6)], ⟨.f (fExt 1), rAny xl_law10_awake_r (.f (fExt 1))⟩⟩,
  ⟨none, some 1, [], ⟨.la 1 [(.int .i64 0), (.int .i64 0), (.int .i64 0), (.int .i64 0), (.int .i64 0), (.int .i64 0), (.int .i64 0), (.pointer none), (.int .i64 0)], rAny xl_law10_awake_r (.la 1 [(.int .i64 0), (.int .i64 0), (.int .i64 0), (.int .i64 0), (.int .i64 0), (.int .i64 0), (.int .i64 0), (.pointer none), (.int .i64 0)])⟩⟩,
  ⟨none, none, [(.tmp 1), (.tmp 8)], ⟨.ls 1 9, rAny xl_law10_awake_r (.ls 1 9)⟩⟩,
  ⟨none, some 2, [(.tmp 9)], ⟨.f fMove, rMove⟩⟩])
 (.seq none
 (.seq none
 (.reg [⟨none, some 10, [(.tmp 2)], ⟨.f fMove, rMove⟩⟩,
  ⟨none, some 11, [(.tmp 10)], ⟨.f (fUn .not), rNot⟩⟩])
 (.cond (.tmp 11)
 (.seq none
 (.reg [⟨none, some 0, [(.const (.bool false))], ⟨.f fMove, rMove⟩⟩])
 .ret)
 .skip))
 (.seq none
 (.reg [⟨none, some 12, [(.tmp 1)], ⟨.lr 1 9 true, rAny xl_law10_awake_r (.lr 1 9 true)⟩⟩,
  ⟨none, some 13, [(.tmp 12), (.const (.int .i64 2)), (.const (.bool false))], ⟨.call .write s_law08_Make v_law08_Make, rCall v_law08_Make⟩⟩,
  ⟨none, some 14, [(.tmp 13)], ⟨.f (fFldV 1 1 false), rAny xl_law10_awake_r (.f (fFldV 1 1 false))⟩⟩,
  ⟨none, some 3, [(.tmp 14)], ⟨.f fMove, rMove⟩⟩])
 (.seq none
 (.reg [⟨none, some 15, [(.tmp 1)], ⟨.lr 1 9 true, rAny xl_law10_awake_r (.lr 1 9 true)⟩⟩,
  ⟨none, some 16, [(.tmp 3)], ⟨.f fMove, rMove⟩⟩,
  ⟨none, some 17, [(.const (.int .i64 2)), (.tmp 16), (.const (.int .i64 1)), (.const (.int .i64 5))], ⟨.f (fBuild [(0, 1), (1, 1), (2, 1), (3, 1), (4, 1)] [(.int .i64 0), (.int .u64 0), (.int .i64 0), (.int .i64 0), (.int .i64 0)] [0, 1, 2, 3]), rAny xl_law10_awake_r (.f (fBuild [(0, 1), (1, 1), (2, 1), (3, 1), (4, 1)] [(.int .i64 0), (.int .u64 0), (.int .i64 0), (.int .i64 0), (.int .i64 0)] [0, 1, 2, 3]))⟩⟩,
  ⟨none, some 18, [(.tmp 15), (.tmp 17), (.const (.bool false))], ⟨.call .write s_law10_Do v_law10_Do, rCall v_law10_Do⟩⟩,
  ⟨none, some 4, [], ⟨.la 4 [(.int .i64 0), (.int .u64 0), (.int .i64 0), (.int .i64 0)], rAny xl_law10_awake_r (.la 4 [(.int .i64 0), (.int .u64 0), (.int .i64 0), (.int .i64 0)])⟩⟩,
  ⟨none, none, [(.tmp 4), (.tmp 18)], ⟨.ls 4 4, rAny xl_law10_awake_r (.ls 4 4)⟩⟩])
 (.seq none
 (.reg [⟨none, some 19, [(.tmp 1)], ⟨.lr 1 9 true, rAny xl_law10_awake_r (.lr 1 9 true)⟩⟩,
  ⟨none, some 20, [(.tmp 3)], ⟨.f fMove, rMove⟩⟩,
  ⟨none, some 21, [(.const (.int .i64 1)), (.tmp 20), (.const (.int .i64 1))], ⟨.f (fBuild [(0, 1), (1, 1), (2, 1), (3, 1), (4, 1)] [(.int .i64 0), (.int .u64 0), (.int .i64 0), (.int .i64 0), (.int .i64 0)] [0, 1, 2]), rAny xl_law10_awake_r (.f (fBuild [(0, 1), (1, 1), (2, 1), (3, 1), (4, 1)] [(.int .i64 0), (.int .u64 0), (.int .i64 0), (.int .i64 0), (.int .i64 0)] [0, 1, 2]))⟩⟩,
  ⟨none, some 22, [(.tmp 19), (.tmp 21), (.const (.bool false))], ⟨.call .write s_law10_Do v_law10_Do, rCall v_law10_Do⟩⟩,
  ⟨none, some 5, [], ⟨.la 5 [(.int .i64 0), (.int .u64 0), (.int .i64 0), (.int .i64 0)], rAny xl_law10_awake_r (.la 5 [(.int .i64 0), (.int .u64 0), (.int .i64 0), (.int .i64 0)])⟩⟩,
  ⟨none, none, [(.tmp 5), (.tmp 22)], ⟨.ls 5 4, rAny xl_law10_awake_r (.ls 5 4)⟩⟩])
 (.seq none
 (.reg [⟨none, some 23, [(.tmp 4)], ⟨.f (fFld 0), rFld 0⟩⟩,
  ⟨none, some 24, [(.tmp 23)], ⟨.lr 4 1 false, rLr1 4⟩⟩,
  ⟨none, some 25, [(.tmp 24), (.const (.int .i64 0))], ⟨.f (fBin .eql .no), rEql⟩⟩,
  ⟨none, some 26, [(.tmp 25)], ⟨.f fMove, rMove⟩⟩,
  ⟨(some (4, 3, true, some 26)), some 27, [(.tmp 5)], ⟨.f (fFld 0), rFld 0⟩⟩,
  ⟨(some (5, 3, true, some 26)), some 28, [(.tmp 27)], ⟨.lr 5 1 false, rLr1 5⟩⟩,
  ⟨(some (6, 3, true, some 26)), some 29, [(.tmp 28), (.const (.int .i64 0))], ⟨.f (fBin .eql .no), rEql⟩⟩,
  ⟨none, some 30, [(.tmp 26), (.tmp 29), (.const (.bool false))], ⟨.f fPick, rPick⟩⟩,
  ⟨none, some 31, [(.tmp 30)], ⟨.f fMove, rMove⟩⟩,
  ⟨(some (9, 8, true, some 31)), some 32, [(.tmp 5)], ⟨.f (fFld 2), rFld 2⟩⟩,
  ⟨(some (10, 8, true, some 31)), some 33, [(.tmp 32)], ⟨.lr 5 1 false, rLr1 5⟩⟩,
  ⟨(some (11, 8, true, some 31)), some 34, [(.tmp 33), (.const (.int .i64 5))], ⟨.f (fBin .eql .no), rEql⟩⟩,
  ⟨none, some 35, [(.tmp 31), (.tmp 34), (.const (.bool false))], ⟨.f fPick, rPick⟩⟩,
  ⟨none, some 36, [(.tmp 35)], ⟨.f fMove, rMove⟩⟩,
  ⟨(some (14, 13, true, some 36)), some 37, [(.tmp 5)], ⟨.f (fFld 3), rFld 3⟩⟩,
  ⟨(some (15, 13, true, some 36)), some 38, [(.tmp 37)], ⟨.lr 5 1 false, rLr1 5⟩⟩,
  ⟨(some (16, 13, true, some 36)), some 39, [(.tmp 4)], ⟨.f (fFld 3), rFld 3⟩⟩,
  ⟨(some (17, 13, true, some 36)), some 40, [(.tmp 39)], ⟨.lr 4 1 false, rLr1 4⟩⟩,
  ⟨(some (18, 13, true, some 36)), some 41, [(.tmp 38), (.tmp 40)], ⟨.f (fBin .gtr .no), rGtr⟩⟩,
  ⟨none, some 42, [(.tmp 36), (.tmp 41), (.const (.bool false))], ⟨.f fPick, rPick⟩⟩,
  ⟨none, some 0, [(.tmp 42)], ⟨.f fMove, rMove⟩⟩])
 .ret)))))))
noncomputable def v_law10_awake_r : EvF := evFn 0 xc_law10_awake_r [.t 0]
theorem xt_law10_awake_r : toC cx_law10_awake_r (bodyOf Try.f12) = some (xc_law10_awake_r.map XN.sm) := by kernel_rfl
theorem xr_law10_awake_r : toR cx_law10_awake_r Try.f12.results.toList = some [.t 0] := by kernel_rfl
theorem xo_law10_awake_r : xc_law10_awake_r.ok xl_law10_awake_r := ⟨⟨rMove_ok, trivial⟩, ⟨⟨rCall_ok ve_law04_Arena, rMove_ok, rAny_ok (eqv_ext _), rAny_ok (eqv_ext _), rAny_ok (trivial), rAny_ok (trivial), rMove_ok, trivial⟩, ⟨⟨⟨rMove_ok, rNot_ok, trivial⟩, ⟨⟨⟨rMove_ok, trivial⟩, trivial⟩, trivial⟩⟩, ⟨⟨rAny_ok (trivial), rCall_ok ve_law08_Make, rAny_ok (eqv_fldV _ _ _), rMove_ok, trivial⟩, ⟨⟨rAny_ok (trivial), rMove_ok, rAny_ok (eqv_build _ rfl _), rCall_ok ve_law10_Do, rAny_ok (trivial), rAny_ok (trivial), trivial⟩, ⟨⟨rAny_ok (trivial), rMove_ok, rAny_ok (eqv_build _ rfl _), rCall_ok ve_law10_Do, rAny_ok (trivial), rAny_ok (trivial), trivial⟩, ⟨⟨rFld_ok _, rLr1_ok _, rEql_ok, rMove_ok, rFld_ok _, rLr1_ok _, rEql_ok, rPick_ok, rMove_ok, rFld_ok _, rLr1_ok _, rEql_ok, rPick_ok, rMove_ok, rFld_ok _, rLr1_ok _, rFld_ok _, rLr1_ok _, rGtr_ok, rPick_ok, rMove_ok, trivial⟩, trivial⟩⟩⟩⟩⟩⟩⟩
theorem ve_law10_awake_r : EvOk s_law10_awake_r v_law10_awake_r := EvOk.of (evFn_sound (C := cx_law10_awake_r) xt_law10_awake_r xr_law10_awake_r xo_law10_awake_r) q_law10_awake_r
theorem a_law10_awake : v_law10_awake_r [] ⟨.e, 0⟩ (fun v _ => isT v) = true := by kernel_rfl
def s_law10_awake : Spec := sTrue
theorem e_law10_awake : Entry Try.prog 12 .none s_law10_awake := e_law10_awake_r.awake ve_law10_awake_r a_law10_awake
attribute [irreducible] w_law10_awake_r s_law10_awake_r s_law10_awake
end Go.Fl
namespace Go.Fl
open Go Go.Proofs
set_option linter.unusedVariables false
set_option maxRecDepth 10000000
def w_drop_New (a0 a1 : Value) (K : Value → Mem → Prop) (σ : Mem) : Prop :=
xF fMove [(.pointer none)] fun v4 =>
xF fMove [a0] fun v5 =>
xF fMove [a1] fun v6 =>
xF (fBuild [(0, 1), (1, 1), (2, 2), (4, 1), (5, 1), (6, 1), (7, 1), (8, 1), (9, 4)] [(.int .u64 0), (.bool false), (.int .i64 0), (.int .i64 0), (.int .i64 0), (.int .u64 0), (.int .i64 0), (.pointer none), (.pointer none), (.int .i64 0), (.int .u64 0), (.int .i64 0), (.int .i64 0)] [0, 1]) [v5, v6] fun v7 =>
hBox 13 [v7] (fun v8 σ =>
xF fMove [v8] fun v4 =>
K v4 σ) σ
def s_drop_New : Spec := fun args K σ => match args with
  | [a0, a1] => w_drop_New a0 a1 K σ
  | _ => False
noncomputable def cx_drop_New : Cx := { P := Try.prog, T := [], loc := [], eqt := [], n := 9, keep := [] }
theorem q_drop_New : FnS cx_drop_New Try.f50 (bodyOf Try.f50) 2 = s_drop_New := by
  funext args K σ
  rcases args with _ | ⟨a0, _ | ⟨a1, _ | ⟨b, r⟩⟩⟩ <;> kernel_rfl
theorem e_drop_New : Entry Try.prog 50 .write s_drop_New :=
  entry (C := cx_drop_New) TOk.nil mixedOk Try.func50 (by kernel_rfl) (by kernel_rfl) (by kernel_rfl) q_drop_New
attribute [irreducible] w_drop_New s_drop_New
def w_drop_Drop_invalid (a0 a1 : Value) (K : Value → Mem → Prop) (σ : Mem) : Prop :=
xC (gBox 9 [a1] []) fun c3 =>
xF fMove [(.bool false)] fun v4 =>
xF fMove [a0] fun v5 =>
xO (gLoad 9 true [(locP 3)] c3) fun v6 =>
s_layout_Env_Now [v6] (fun v7 σ =>
xF (fBuild [(0, 1), (1, 1), (2, 1), (3, 1)] [(.int .i64 0), (.int .u64 0), (.int .i64 0), (.int .i64 0)] [0, 3]) [(.int .i64 3), v7] fun v8 =>
xF fNil [v5] fun v9 =>
xF (fFld 9) [v9] fun v10 =>
hStore 4 [v10, v8] (fun _v σ =>
xF fMove [(.bool true)] fun v4 =>
K v4 σ) σ) σ
def s_drop_Drop_invalid : Spec := fun args K σ => match args with
  | [a0, a1] => w_drop_Drop_invalid a0 a1 K σ
  | _ => False
noncomputable def cx_drop_Drop_invalid : Cx := { P := Try.prog, T := [(26, .read, s_layout_Env_Now)], loc := [(3, 3)], eqt := [], n := 11, keep := [] }
theorem q_drop_Drop_invalid : FnS cx_drop_Drop_invalid Try.f77 (bodyOf Try.f77) 2 = s_drop_Drop_invalid := by
  funext args K σ
  rcases args with _ | ⟨a0, _ | ⟨a1, _ | ⟨b, r⟩⟩⟩ <;> kernel_rfl
theorem e_drop_Drop_invalid : Entry Try.prog 77 .write s_drop_Drop_invalid :=
  entry (C := cx_drop_Drop_invalid) (TOk.cons e_layout_Env_Now TOk.nil) mixedOk Try.func77 (by kernel_rfl) (by kernel_rfl) (by kernel_rfl) q_drop_Drop_invalid
attribute [irreducible] w_drop_Drop_invalid s_drop_Drop_invalid
def w_drop_Drop_see_j1b (K : Value → Mem → Prop) (v0 v28 : Value) (c3 c5 : List Value) (σ : Mem) : Prop :=
xIf v28
 (xF fMove [v0] fun v29 =>
xO (gLoad 9 true [(locP 3)] c3) fun v30 =>
s_drop_Drop_invalid [v29, v30] (fun v31 σ =>
xF fMove [v31] fun v4 =>
K v4 σ) σ)
 (xF fMove [v0] fun v32 =>
xO (gLoad 9 true [(locP 3)] c3) fun v33 =>
xF (fFld 0) [(locP 3)] fun v34 =>
xO (gLoad 7 true [v34] c3) fun v35 =>
xF (fFld 0) [(locP 5)] fun v36 =>
xO (gLoad 1 false [v36] c5) fun v37 =>
s_layout_Slot [v35, v37] (fun v38 σ =>
s_layout_Env_Load [v33, v38] (fun v39 σ =>
xF fNil [v32] fun v40 =>
xF (fFld 5) [v40] fun v41 =>
hStore 1 [v41, v39] (fun _v σ =>
xF fMove [v0] fun v42 =>
xF fNil [v42] fun v43 =>
xF (fFld 5) [v43] fun v44 =>
hLoad 1 false [v44] (fun v45 σ =>
s_word_Slot [v45] (fun v46 σ =>
xO (gLoad 2 true [(locP 5)] c5) fun v47 =>
s_drop_Live [v46, v47] (fun v48 σ =>
xF (fUn .not) [v48] fun v49 =>
xIf v49
 (xF fMove [v0] fun v50 =>
xO (gLoad 9 true [(locP 3)] c3) fun v51 =>
s_drop_Drop_invalid [v50, v51] (fun v52 σ =>
xF fMove [v52] fun v4 =>
K v4 σ) σ)
 (xF fMove [v0] fun v53 =>
xF fNil [v53] fun v54 =>
xF (fFld 4) [v54] fun v55 =>
hStore 1 [v55, (.int .i64 1)] (fun _v σ =>
xF fMove [(.bool false)] fun v4 =>
K v4 σ) σ)) σ) σ) σ) σ) σ) σ)
def w_drop_Drop_see_j1 (K : Value → Mem → Prop) (ts : List Value) (ls : List (List Value)) (σ : Mem) : Prop := w_drop_Drop_see_j1b K (ts.getD 0 poison) (ts.getD 1 poison) (ls.getD 0 []) (ls.getD 1 []) σ
def w_drop_Drop_see (a0 a1 : Value) (K : Value → Mem → Prop) (σ : Mem) : Prop :=
xC (gBox 9 [a1] []) fun c3 =>
xF fMove [(.bool false)] fun v4 =>
xF fMove [a0] fun v8 =>
xF fNil [v8] fun v9 =>
xF (fFld 0) [v9] fun v10 =>
hLoad 1 false [v10] (fun v11 σ =>
s_word_Handle [v11] (fun v12 σ =>
xF fMove [v12] fun v7 =>
xF (fExt 0) [v7] fun v13 =>
xF (fExt 1) [v7] fun v14 =>
xC (gStore 2 [(locP 5), v13] [(.int .i64 0), (.int .i64 0)]) fun c5 =>
xF fMove [v14] fun v6 =>
xF fMove [a0] fun v15 =>
xO (gLoad 2 true [(locP 5)] c5) fun v16 =>
xF fNil [v15] fun v17 =>
xF (fFld 2) [v17] fun v18 =>
hStore 2 [v18, v16] (fun _v σ =>
xJoin (w_drop_Drop_see_j1 K) fun J1 =>
xF fMove [v6] fun v19 =>
xF (fUn .not) [v19] fun v20 =>
xF fMove [v20] fun v21 =>
xIf v21
 (xF fPick [(.bool true), (.bool true), undef] fun v28 =>
J1 [a0, v28] [c3, c5] σ)
 (xF (fFld 0) [(locP 5)] fun v22 =>
xO (gLoad 1 false [v22] c5) fun v23 =>
xF (fFld 0) [(locP 3)] fun v24 =>
xF (fFld 1) [v24] fun v25 =>
xO (gLoad 1 false [v25] c3) fun v26 =>
xF (fBin .geq .no) [v23, v26] fun v27 =>
xF fPick [(.bool false), (.bool true), v27] fun v28 =>
J1 [a0, v28] [c3, c5] σ)) σ) σ) σ
def s_drop_Drop_see : Spec := fun args K σ => match args with
  | [a0, a1] => w_drop_Drop_see a0 a1 K σ
  | _ => False
noncomputable def cx_drop_Drop_see : Cx := { P := Try.prog, T := [(35, .none, s_word_Handle), (77, .write, s_drop_Drop_invalid), (18, .none, s_layout_Slot), (37, .write, s_layout_Env_Load), (19, .none, s_word_Slot), (38, .none, s_drop_Live)], loc := [(3, 3), (5, 5), (22, 5), (24, 3), (25, 3), (34, 3), (36, 5)], eqt := [], n := 56, keep := [(1000005, [0, 28], [3, 5])] }
theorem q_drop_Drop_see : FnS cx_drop_Drop_see Try.f76 (bodyOf Try.f76) 2 = s_drop_Drop_see := by
  funext args K σ
  rcases args with _ | ⟨a0, _ | ⟨a1, _ | ⟨b, r⟩⟩⟩ <;> kernel_rfl
theorem e_drop_Drop_see : Entry Try.prog 76 .write s_drop_Drop_see :=
  entry (C := cx_drop_Drop_see) (TOk.cons e_word_Handle (TOk.cons e_drop_Drop_invalid (TOk.cons e_layout_Slot (TOk.cons e_layout_Env_Load (TOk.cons e_word_Slot (TOk.cons e_drop_Live TOk.nil)))))) mixedOk Try.func76 (by kernel_rfl) (by kernel_rfl) (by kernel_rfl) q_drop_Drop_see
attribute [irreducible] w_drop_Drop_see_j1b w_drop_Drop_see_j1 w_drop_Drop_see s_drop_Drop_see
def w_drop_Drop_claim (a0 a1 : Value) (K : Value → Mem → Prop) (σ : Mem) : Prop :=
xC (gBox 9 [a1] []) fun c3 =>
xF fMove [a0] fun v6 =>
xF fNil [v6] fun v7 =>
xF (fFld 5) [v7] fun v8 =>
hLoad 1 false [v8] (fun v9 σ =>
s_word_Slot [v9] (fun v10 σ =>
xC (gStore 4 [(locP 4), v10] [(.int .i64 0), (.int .i64 0), (.int .i64 0), (.int .i64 0)]) fun c4 =>
xF (fFld 3) [(locP 4)] fun v11 =>
xO (gLoad 1 false [v11] c4) fun v12 =>
xF (fBin .add .no) [v12, (.int .i64 1)] fun v13 =>
xF (fFld 0) [(locP 4)] fun v14 =>
xC (gStore 1 [v14, (.int .i64 4)] c4) fun c4 =>
xF (fFld 3) [(locP 4)] fun v15 =>
xC (gStore 1 [v15, v13] c4) fun c4 =>
xF fMove [a0] fun v16 =>
xF fNil [v16] fun v17 =>
xF (fFld 4) [v17] fun v18 =>
hStore 1 [v18, (.int .i64 0)] (fun _v σ =>
xO (gLoad 4 true [(locP 4)] c4) fun v19 =>
s_word_PutSlot [v19] (fun v20 σ =>
xF fMove [v20] fun v5 =>
xO (gLoad 9 true [(locP 3)] c3) fun v21 =>
xF (fFld 0) [(locP 3)] fun v22 =>
xO (gLoad 7 true [v22] c3) fun v23 =>
xF fMove [a0] fun v24 =>
xF fNil [v24] fun v25 =>
xF (fFld 2) [v25] fun v26 =>
xF (fFld 0) [v26] fun v27 =>
hLoad 1 false [v27] (fun v28 σ =>
s_layout_Slot [v23, v28] (fun v29 σ =>
xF fMove [a0] fun v30 =>
xF fNil [v30] fun v31 =>
xF (fFld 5) [v31] fun v32 =>
hLoad 1 false [v32] (fun v33 σ =>
xF fMove [v5] fun v34 =>
s_layout_Env_Cas [v21, v29, v33, v34] (fun v35 σ =>
xIf v35
 (xF fMove [a0] fun v36 =>
xF fMove [a0] fun v37 =>
xF fMove [a0] fun v38 =>
xF fNil [v38] fun v39 =>
xF (fFld 2) [v39] fun v40 =>
xF (fFld 0) [v40] fun v41 =>
hLoad 1 false [v41] (fun v42 σ =>
xF fMove [v5] fun v43 =>
xF fMove [a0] fun v44 =>
xF fNil [v44] fun v45 =>
xF (fFld 6) [v45] fun v46 =>
hLoad 1 false [v46] (fun v47 σ =>
s_drop_NewHelp [v42, v43, v47] (fun v48 σ =>
xF fNil [v36] fun v49 =>
xF (fFld 7) [v49] fun v50 =>
hStore 1 [v50, v48] (fun _v σ =>
xF fNil [v37] fun v51 =>
xF (fFld 4) [v51] fun v52 =>
hStore 1 [v52, (.int .i64 3)] (fun _v σ =>
K (.tuple #[]) σ) σ) σ) σ) σ) σ)
 (K (.tuple #[]) σ)) σ) σ) σ) σ) σ) σ) σ) σ
def s_drop_Drop_claim : Spec := fun args K σ => match args with
  | [a0, a1] => w_drop_Drop_claim a0 a1 K σ
  | _ => False
noncomputable def cx_drop_Drop_claim : Cx := { P := Try.prog, T := [(19, .none, s_word_Slot), (22, .none, s_word_PutSlot), (18, .none, s_layout_Slot), (43, .write, s_layout_Env_Cas), (42, .write, s_drop_NewHelp)], loc := [(3, 3), (4, 4), (11, 4), (14, 4), (15, 4), (22, 3)], eqt := [], n := 53, keep := [] }
theorem q_drop_Drop_claim : FnS cx_drop_Drop_claim Try.f78 (bodyOf Try.f78) 2 = s_drop_Drop_claim := by
  funext args K σ
  rcases args with _ | ⟨a0, _ | ⟨a1, _ | ⟨b, r⟩⟩⟩ <;> kernel_rfl
theorem e_drop_Drop_claim : Entry Try.prog 78 .write s_drop_Drop_claim :=
  entry (C := cx_drop_Drop_claim) (TOk.cons e_word_Slot (TOk.cons e_word_PutSlot (TOk.cons e_layout_Slot (TOk.cons e_layout_Env_Cas (TOk.cons e_drop_NewHelp TOk.nil))))) mixedOk Try.func78 (by kernel_rfl) (by kernel_rfl) (by kernel_rfl) q_drop_Drop_claim
attribute [irreducible] w_drop_Drop_claim s_drop_Drop_claim
def w_mem_Mem_When_j1b (K : Value → Mem → Prop) (v0 v1 v19 : Value) (σ : Mem) : Prop :=
xIf v19
 (xF fMove [(.int .i64 0)] fun v4 =>
K v4 σ)
 (xF fMove [v0] fun v20 =>
xF fNil [v20] fun v21 =>
xF (fFld 1) [v21] fun v22 =>
hLoad 1 false [v22] (fun v23 σ =>
xF fMove [v1] fun v24 =>
xF (fIxS 1) [v23, v24] fun v25 =>
hLoad 1 false [v25] (fun v26 σ =>
xF fMove [v26] fun v4 =>
K v4 σ) σ) σ)
def w_mem_Mem_When_j1 (K : Value → Mem → Prop) (ts : List Value) (ls : List (List Value)) (σ : Mem) : Prop := w_mem_Mem_When_j1b K (ts.getD 0 poison) (ts.getD 1 poison) (ts.getD 2 poison) σ
def w_mem_Mem_When (a0 a1 : Value) (K : Value → Mem → Prop) (σ : Mem) : Prop :=
xF fMove [(.int .i64 0)] fun v4 =>
xJoin (w_mem_Mem_When_j1 K) fun J1 =>
xF fMove [a0] fun v5 =>
xF (fBin .eql .ptr) [v5, (.pointer none)] fun v6 =>
xF fMove [v6] fun v7 =>
xIf v7
 (xF fPick [(.bool true), (.bool true), undef] fun v10 =>
xF fMove [v10] fun v11 =>
xIf v11
 (xF fPick [(.bool true), (.bool true), undef] fun v19 =>
J1 [a0, a1, v19] [] σ)
 (xF fMove [a1] fun v12 =>
xF fMove [a0] fun v13 =>
xF fNil [v13] fun v14 =>
xF (fFld 0) [v14] fun v15 =>
hLoad 1 false [v15] (fun v16 σ =>
xF fLen [v16] fun v17 =>
xF (fBin .geq .no) [v12, v17] fun v18 =>
xF fPick [(.bool false), (.bool true), v18] fun v19 =>
J1 [a0, a1, v19] [] σ) σ))
 (xF fMove [a1] fun v8 =>
xF (fBin .lss .no) [v8, (.int .i64 0)] fun v9 =>
xF fPick [(.bool false), (.bool true), v9] fun v10 =>
xF fMove [v10] fun v11 =>
xIf v11
 (xF fPick [(.bool true), (.bool true), undef] fun v19 =>
J1 [a0, a1, v19] [] σ)
 (xF fMove [a1] fun v12 =>
xF fMove [a0] fun v13 =>
xF fNil [v13] fun v14 =>
xF (fFld 0) [v14] fun v15 =>
hLoad 1 false [v15] (fun v16 σ =>
xF fLen [v16] fun v17 =>
xF (fBin .geq .no) [v12, v17] fun v18 =>
xF fPick [(.bool false), (.bool true), v18] fun v19 =>
J1 [a0, a1, v19] [] σ) σ))
def s_mem_Mem_When : Spec := fun args K σ => match args with
  | [a0, a1] => w_mem_Mem_When a0 a1 K σ
  | _ => False
noncomputable def cx_mem_Mem_When : Cx := { P := Try.prog, T := [], loc := [], eqt := [(25, .ptr)], n := 27, keep := [(1000003, [0, 1, 19], [])] }
theorem q_mem_Mem_When : FnS cx_mem_Mem_When Try.f79 (bodyOf Try.f79) 2 = s_mem_Mem_When := by
  funext args K σ
  rcases args with _ | ⟨a0, _ | ⟨a1, _ | ⟨b, r⟩⟩⟩ <;> kernel_rfl
theorem e_mem_Mem_When : Entry Try.prog 79 .read s_mem_Mem_When :=
  entry (C := cx_mem_Mem_When) TOk.nil mixedOk Try.func79 (by kernel_rfl) (by kernel_rfl) (by kernel_rfl) q_mem_Mem_When
attribute [irreducible] w_mem_Mem_When_j1b w_mem_Mem_When_j1 w_mem_Mem_When s_mem_Mem_When
def w_layout_Of_j1b (K : Value → Mem → Prop) (v1 v5 v16 : Value) (c2 : List Value) (σ : Mem) : Prop :=
xIf v16
 (xF fMove [(.int .i64 (-1))] fun v4 =>
K v4 σ)
 (xF fMove [v1] fun v17 =>
xF fMove [v5] fun v18 =>
xF (fBin .sub .no) [v17, v18] fun v19 =>
xF (fFld 3) [(locP 2)] fun v20 =>
xO (gLoad 1 false [v20] c2) fun v21 =>
xF (fBin .quo .no) [v19, v21] fun v22 =>
xF fMove [v22] fun v4 =>
K v4 σ)
def w_layout_Of_j1 (K : Value → Mem → Prop) (ts : List Value) (ls : List (List Value)) (σ : Mem) : Prop := w_layout_Of_j1b K (ts.getD 0 poison) (ts.getD 1 poison) (ts.getD 2 poison) (ls.getD 0 []) σ
def w_layout_Of (a0 a1 : Value) (K : Value → Mem → Prop) (σ : Mem) : Prop :=
xC (gBox 7 [a0] []) fun c2 =>
xF fMove [(.int .i64 0)] fun v4 =>
xO (gLoad 7 true [(locP 2)] c2) fun v6 =>
s_layout_Base [v6, (.int .i64 0)] (fun v7 σ =>
xF fMove [v7] fun v5 =>
xJoin (w_layout_Of_j1 K) fun J1 =>
xF fMove [a1] fun v8 =>
xF fMove [v5] fun v9 =>
xF (fBin .lss .no) [v8, v9] fun v10 =>
xF fMove [v10] fun v11 =>
xIf v11
 (xF fPick [(.bool true), (.bool true), undef] fun v16 =>
J1 [a1, v5, v16] [c2] σ)
 (xF fMove [a1] fun v12 =>
xO (gLoad 7 true [(locP 2)] c2) fun v13 =>
s_layout_Len [v13] (fun v14 σ =>
xF (fBin .geq .no) [v12, v14] fun v15 =>
xF fPick [(.bool false), (.bool true), v15] fun v16 =>
J1 [a1, v5, v16] [c2] σ) σ)) σ
def s_layout_Of : Spec := fun args K σ => match args with
  | [a0, a1] => w_layout_Of a0 a1 K σ
  | _ => False
noncomputable def cx_layout_Of : Cx := { P := Try.prog, T := [(81, .none, s_layout_Base), (55, .none, s_layout_Len)], loc := [(2, 2), (20, 2)], eqt := [], n := 23, keep := [(1000004, [1, 5, 16], [2])] }
theorem q_layout_Of : FnS cx_layout_Of Try.f80 (bodyOf Try.f80) 2 = s_layout_Of := by
  funext args K σ
  rcases args with _ | ⟨a0, _ | ⟨a1, _ | ⟨b, r⟩⟩⟩ <;> kernel_rfl
theorem e_layout_Of : Entry Try.prog 80 .none s_layout_Of :=
  entry (C := cx_layout_Of) (TOk.cons e_layout_Base (TOk.cons e_layout_Len TOk.nil)) mixedOk Try.func80 (by kernel_rfl) (by kernel_rfl) (by kernel_rfl) q_layout_Of
attribute [irreducible] w_layout_Of_j1b w_layout_Of_j1 w_layout_Of s_layout_Of
def w_drop_Drop_Step_j1b (K : Value → Mem → Prop) (σ : Mem) : Prop :=
xF fMove [(.bool false)] fun v4 =>
K v4 σ
def w_drop_Drop_Step_j1 (K : Value → Mem → Prop) (ts : List Value) (ls : List (List Value)) (σ : Mem) : Prop := w_drop_Drop_Step_j1b K σ
def w_drop_Drop_Step (a0 a1 : Value) (K : Value → Mem → Prop) (σ : Mem) : Prop :=
xC (gBox 9 [a1] []) fun c3 =>
xF fMove [(.bool false)] fun v4 =>
xF (fFld 0) [(locP 3)] fun v8 =>
xO (gLoad 7 true [v8] c3) fun v9 =>
xF fMove [a0] fun v10 =>
xF fNil [v10] fun v11 =>
xF (fFld 2) [v11] fun v12 =>
xF (fFld 0) [v12] fun v13 =>
hLoad 1 false [v13] (fun v14 σ =>
s_layout_Slot [v9, v14] (fun v15 σ =>
xF fMove [v15] fun v5 =>
xJoin (w_drop_Drop_Step_j1 K) fun J1 =>
xF fMove [a0] fun v16 =>
xF fNil [v16] fun v17 =>
xF (fFld 4) [v17] fun v18 =>
hLoad 1 false [v18] (fun v19 σ =>
xF (fBin .eql .no) [v19, (.int .i64 0)] fun v27 =>
xF fMove [v27] fun v26 =>
xIf v26
 (xF fMove [a0] fun v28 =>
xO (gLoad 9 true [(locP 3)] c3) fun v29 =>
s_drop_Drop_see [v28, v29] (fun v30 σ =>
xF fMove [v30] fun v4 =>
K v4 σ) σ)
 (xF (fBin .eql .no) [v19, (.int .i64 1)] fun v32 =>
xF fMove [v32] fun v31 =>
xIf v31
 (xO (gLoad 9 true [(locP 3)] c3) fun v33 =>
xF fMove [a0] fun v34 =>
xF fNil [v34] fun v35 =>
xF (fFld 5) [v35] fun v36 =>
hLoad 1 false [v36] (fun v37 σ =>
s_word_Slot [v37] (fun v38 σ =>
xF (fFldV 1 1 false) [v38] fun v39 =>
s_layout_Env_Load [v33, v39] (fun v40 σ =>
s_word_Head [v40] (fun v41 σ =>
xC (gStore 5 [(locP 6), v41] [(.int .i64 0), (.int .i64 0), (.int .i64 0), (.int .i64 0), (.bool false)]) fun c6 =>
xF (fFld 4) [(locP 6)] fun v42 =>
xO (gLoad 1 false [v42] c6) fun v43 =>
xF fMove [a0] fun v44 =>
xF fNil [v44] fun v45 =>
xF (fFld 1) [v45] fun v46 =>
hLoad 1 false [v46] (fun v47 σ =>
xF (fBin .neq .bool) [v43, v47] fun v48 =>
xIf v48
 (xF fMove [a0] fun v49 =>
xO (gLoad 9 true [(locP 3)] c3) fun v50 =>
s_drop_Drop_invalid [v49, v50] (fun v51 σ =>
xF fMove [v51] fun v4 =>
K v4 σ) σ)
 (xF fMove [a0] fun v52 =>
xF fMove [a0] fun v53 =>
xF (fFld 1) [(locP 6)] fun v54 =>
xO (gLoad 1 false [v54] c6) fun v55 =>
xF fNil [v52] fun v56 =>
xF (fFld 6) [v56] fun v57 =>
hStore 1 [v57, v55] (fun _v σ =>
xF fNil [v53] fun v58 =>
xF (fFld 4) [v58] fun v59 =>
hStore 1 [v59, (.int .i64 2)] (fun _v σ =>
xF fMove [a0] fun v60 =>
xF fNil [v60] fun v61 =>
xF (fFld 5) [v61] fun v62 =>
hLoad 1 false [v62] (fun v63 σ =>
s_word_Slot [v63] (fun v64 σ =>
xF (fFldV 0 1 false) [v64] fun v65 =>
xF (fBin .eql .no) [v65, (.int .i64 4)] fun v66 =>
xIf v66
 (xF fMove [a0] fun v67 =>
xF fMove [a0] fun v68 =>
xF fMove [a0] fun v69 =>
xF fNil [v69] fun v70 =>
xF (fFld 2) [v70] fun v71 =>
xF (fFld 0) [v71] fun v72 =>
hLoad 1 false [v72] (fun v73 σ =>
xF fMove [a0] fun v74 =>
xF fNil [v74] fun v75 =>
xF (fFld 5) [v75] fun v76 =>
hLoad 1 false [v76] (fun v77 σ =>
xF fMove [a0] fun v78 =>
xF fNil [v78] fun v79 =>
xF (fFld 6) [v79] fun v80 =>
hLoad 1 false [v80] (fun v81 σ =>
s_drop_NewHelp [v73, v77, v81] (fun v82 σ =>
xF fNil [v67] fun v83 =>
xF (fFld 7) [v83] fun v84 =>
hStore 1 [v84, v82] (fun _v σ =>
xF fNil [v68] fun v85 =>
xF (fFld 4) [v85] fun v86 =>
hStore 1 [v86, (.int .i64 4)] (fun _v σ =>
J1 [] [] σ) σ) σ) σ) σ) σ) σ)
 (J1 [] [] σ)) σ) σ) σ) σ)) σ) σ) σ) σ) σ)
 (xF (fBin .eql .no) [v19, (.int .i64 2)] fun v88 =>
xF fMove [v88] fun v87 =>
xIf v87
 (xF fMove [a0] fun v89 =>
xO (gLoad 9 true [(locP 3)] c3) fun v90 =>
s_drop_Drop_claim [v89, v90] (fun v91 σ =>
J1 [] [] σ) σ)
 (xF (fBin .eql .no) [v19, (.int .i64 3)] fun v93 =>
xF fMove [v93] fun v92 =>
xIf v92
 (xF fMove [a0] fun v94 =>
xF fNil [v94] fun v95 =>
xF (fFld 7) [v95] fun v96 =>
hLoad 1 false [v96] (fun v97 σ =>
xO (gLoad 9 true [(locP 3)] c3) fun v98 =>
s_drop_Help_Step [v97, v98] (fun v99 σ =>
xIf v99
 (xF fMove [a0] fun v100 =>
xF fMove [a0] fun v101 =>
xF (fFld 7) [(locP 3)] fun v102 =>
xO (gLoad 1 false [v102] c3) fun v103 =>
xF fMove [v5] fun v104 =>
s_mem_Mem_When [v103, v104] (fun v105 σ =>
xF (fBuild [(0, 1), (1, 1), (2, 1), (3, 1)] [(.int .i64 0), (.int .u64 0), (.int .i64 0), (.int .i64 0)] [3]) [v105] fun v106 =>
xF fNil [v100] fun v107 =>
xF (fFld 9) [v107] fun v108 =>
hStore 4 [v108, v106] (fun _v σ =>
xF fNil [v101] fun v109 =>
xF (fFld 4) [v109] fun v110 =>
hStore 1 [v110, (.int .i64 5)] (fun _v σ =>
J1 [] [] σ) σ) σ) σ)
 (J1 [] [] σ)) σ) σ)
 (xF (fBin .eql .no) [v19, (.int .i64 4)] fun v112 =>
xF fMove [v112] fun v111 =>
xIf v111
 (xF fMove [a0] fun v113 =>
xF fNil [v113] fun v114 =>
xF (fFld 7) [v114] fun v115 =>
hLoad 1 false [v115] (fun v116 σ =>
xO (gLoad 9 true [(locP 3)] c3) fun v117 =>
s_drop_Help_Step [v116, v117] (fun v118 σ =>
xIf v118
 (xF fMove [a0] fun v119 =>
xF fNil [v119] fun v120 =>
xF (fFld 4) [v120] fun v121 =>
hStore 1 [v121, (.int .i64 0)] (fun _v σ =>
J1 [] [] σ) σ)
 (J1 [] [] σ)) σ) σ)
 (xF (fBin .eql .no) [v19, (.int .i64 5)] fun v123 =>
xF fMove [v123] fun v122 =>
xIf v122
 (xF (fFld 0) [(locP 3)] fun v124 =>
xO (gLoad 7 true [v124] c3) fun v125 =>
xF fMove [a0] fun v126 =>
xF fNil [v126] fun v127 =>
xF (fFld 5) [v127] fun v128 =>
hLoad 1 false [v128] (fun v129 σ =>
s_word_Slot [v129] (fun v130 σ =>
xF (fFldV 1 1 false) [v130] fun v131 =>
s_layout_Of [v125, v131] (fun v132 σ =>
xF fMove [v132] fun v7 =>
xO (gLoad 9 true [(locP 3)] c3) fun v133 =>
xF (fFld 0) [(locP 3)] fun v134 =>
xO (gLoad 7 true [v134] c3) fun v135 =>
xF fMove [v7] fun v136 =>
s_layout_Chunk [v135, v136] (fun v137 σ =>
xF (fBin .add .no) [v137, (.int .i64 1)] fun v138 =>
xF fMove [a0] fun v139 =>
xF fNil [v139] fun v140 =>
xF (fFld 6) [v140] fun v141 =>
hLoad 1 false [v141] (fun v142 σ =>
s_layout_Class [v142] (fun v143 σ =>
s_layout_Room [v143] (fun v144 σ =>
xF (fUn .neg) [v144] fun v145 =>
s_layout_Env_Add [v133, v138, v145] (fun v146 σ =>
xF fMove [a0] fun v147 =>
xF fMove [a0] fun v148 =>
xF fMove [a0] fun v149 =>
xF fNil [v149] fun v150 =>
xF (fFld 2) [v150] fun v151 =>
xF (fFld 0) [v151] fun v152 =>
hLoad 1 false [v152] (fun v153 σ =>
s_slot_NewGive [v153] (fun v154 σ =>
xF fNil [v147] fun v155 =>
xF (fFld 8) [v155] fun v156 =>
hStore 1 [v156, v154] (fun _v σ =>
xF fNil [v148] fun v157 =>
xF (fFld 4) [v157] fun v158 =>
hStore 1 [v158, (.int .i64 6)] (fun _v σ =>
xF fMove [a0] fun v159 =>
xF fNil [v159] fun v160 =>
xF (fFld 2) [v160] fun v161 =>
xF (fFld 1) [v161] fun v162 =>
hLoad 1 false [v162] (fun v163 σ =>
xF (fFld 0) [(locP 3)] fun v164 =>
xF (fFld 4) [v164] fun v165 =>
xO (gLoad 1 false [v165] c3) fun v166 =>
xF (fBin .geq .no) [v163, v166] fun v167 =>
xF fMove [v167] fun v4 =>
K v4 σ) σ) σ) σ) σ) σ) σ) σ) σ) σ) σ) σ) σ) σ)
 (xF fMove [a0] fun v20 =>
xF fNil [v20] fun v21 =>
xF (fFld 8) [v21] fun v22 =>
hLoad 1 false [v22] (fun v23 σ =>
xO (gLoad 9 true [(locP 3)] c3) fun v24 =>
s_slot_Give_Step [v23, v24] (fun v25 σ =>
xF fMove [v25] fun v4 =>
K v4 σ) σ) σ))))))) σ) σ) σ
def s_drop_Drop_Step : Spec := fun args K σ => match args with
  | [a0, a1] => w_drop_Drop_Step a0 a1 K σ
  | _ => False
noncomputable def cx_drop_Drop_Step : Cx := { P := Try.prog, T := [(18, .none, s_layout_Slot), (76, .write, s_drop_Drop_see), (19, .none, s_word_Slot), (37, .write, s_layout_Env_Load), (39, .none, s_word_Head), (77, .write, s_drop_Drop_invalid), (42, .write, s_drop_NewHelp), (78, .write, s_drop_Drop_claim), (44, .write, s_drop_Help_Step), (79, .read, s_mem_Mem_When), (80, .none, s_layout_Of), (67, .none, s_layout_Chunk), (58, .write, s_layout_Class), (68, .none, s_layout_Room), (66, .write, s_layout_Env_Add), (65, .write, s_slot_NewGive), (72, .write, s_slot_Give_Step)], loc := [(3, 3), (6, 6), (8, 3), (42, 6), (54, 6), (102, 3), (124, 3), (134, 3), (164, 3), (165, 3)], eqt := [(4, .bool)], n := 168, keep := [(1000027, [], [])] }
theorem q_drop_Drop_Step : FnS cx_drop_Drop_Step Try.f51 (bodyOf Try.f51) 2 = s_drop_Drop_Step := by
  funext args K σ
  rcases args with _ | ⟨a0, _ | ⟨a1, _ | ⟨b, r⟩⟩⟩ <;> kernel_rfl
theorem e_drop_Drop_Step : Entry Try.prog 51 .write s_drop_Drop_Step :=
  entry (C := cx_drop_Drop_Step) (TOk.cons e_layout_Slot (TOk.cons e_drop_Drop_see (TOk.cons e_word_Slot (TOk.cons e_layout_Env_Load (TOk.cons e_word_Head (TOk.cons e_drop_Drop_invalid (TOk.cons e_drop_NewHelp (TOk.cons e_drop_Drop_claim (TOk.cons e_drop_Help_Step (TOk.cons e_mem_Mem_When (TOk.cons e_layout_Of (TOk.cons e_layout_Chunk (TOk.cons e_layout_Class (TOk.cons e_layout_Room (TOk.cons e_layout_Env_Add (TOk.cons e_slot_NewGive (TOk.cons e_slot_Give_Step TOk.nil))))))))))))))))) mixedOk Try.func51 (by kernel_rfl) (by kernel_rfl) (by kernel_rfl) q_drop_Drop_Step
attribute [irreducible] w_drop_Drop_Step_j1b w_drop_Drop_Step_j1 w_drop_Drop_Step s_drop_Drop_Step
def w_drop_Drop_Done (a0 : Value) (K : Value → Mem → Prop) (σ : Mem) : Prop :=
xF fMove [a0] fun v3 =>
xF (fBin .eql .ptr) [v3, (.pointer none)] fun v4 =>
xIf v4
 (xF (fBuild [(0, 1), (1, 1), (2, 1), (3, 1)] [(.int .i64 0), (.int .u64 0), (.int .i64 0), (.int .i64 0)] [0]) [(.int .i64 1)] fun v5 =>
xC (gStore 4 [(locP 2), v5] [(.int .i64 0), (.int .u64 0), (.int .i64 0), (.int .i64 0)]) fun c2 =>
xO (gLoad 4 true [(locP 2)] c2) fun r2 =>
K r2 σ)
 (xF fMove [a0] fun v6 =>
xF fNil [v6] fun v7 =>
xF (fFld 9) [v7] fun v8 =>
hLoad 4 true [v8] (fun v9 σ =>
xC (gStore 4 [(locP 2), v9] [(.int .i64 0), (.int .u64 0), (.int .i64 0), (.int .i64 0)]) fun c2 =>
xO (gLoad 4 true [(locP 2)] c2) fun r2 =>
K r2 σ) σ)
def s_drop_Drop_Done : Spec := fun args K σ => match args with
  | [a0] => w_drop_Drop_Done a0 K σ
  | _ => False
noncomputable def cx_drop_Drop_Done : Cx := { P := Try.prog, T := [], loc := [(2, 2)], eqt := [(98, .ptr)], n := 10, keep := [] }
theorem q_drop_Drop_Done : FnS cx_drop_Drop_Done Try.f52 (bodyOf Try.f52) 1 = s_drop_Drop_Done := by
  funext args K σ
  rcases args with _ | ⟨a0, _ | ⟨b, r⟩⟩ <;> kernel_rfl
theorem e_drop_Drop_Done : Entry Try.prog 52 .read s_drop_Drop_Done :=
  entry (C := cx_drop_Drop_Done) TOk.nil mixedOk Try.func52 (by kernel_rfl) (by kernel_rfl) (by kernel_rfl) q_drop_Drop_Done
attribute [irreducible] w_drop_Drop_Done s_drop_Drop_Done
def w_law09_Drop_j1b (K : Value → Mem → Prop) (v7 : Value) (c6 : List Value) (σ : Mem) : Prop :=
xF fMove [v7] fun v19 =>
s_drop_Drop_Done [v19] (fun v20 σ =>
xC (gStore 4 [(locP 6), v20] c6) fun c6 =>
xO (gLoad 4 true [(locP 6)] c6) fun r6 =>
K r6 σ) σ
def w_law09_Drop_j1 (K : Value → Mem → Prop) (ts : List Value) (ls : List (List Value)) (σ : Mem) : Prop := w_law09_Drop_j1b K (ts.getD 0 poison) (ls.getD 0 []) σ
def w_law09_Drop_l4b (K : Value → Mem → Prop) (J1 : List Value → List (List Value) → Mem → Prop) (R1 : List Value → List (List Value) → Mem → Prop) (v7 v8 : Value) (c3 c6 : List Value) (σ : Mem) : Prop :=
xF fMove [v8] fun v12 =>
xF (fBin .lss .no) [v12, (.int .i64 200)] fun v13 =>
xIf v13
 (xF fMove [v7] fun v16 =>
xO (gLoad 9 true [(locP 3)] c3) fun v17 =>
s_drop_Drop_Step [v16, v17] (fun v18 σ =>
xIf v18
 (J1 [v7] [c6] σ)
 (xF fMove [v8] fun v14 =>
xF (fBin .add .no) [v14, (.int .i64 1)] fun v15 =>
xF fMove [v15] fun v8 =>
R1 [v7, v8] [c3, c6] σ)) σ)
 (J1 [v7] [c6] σ)
def w_law09_Drop_l4 (K : Value → Mem → Prop) (J1 : List Value → List (List Value) → Mem → Prop) (R1 : List Value → List (List Value) → Mem → Prop) (ts : List Value) (ls : List (List Value)) (σ : Mem) : Prop := w_law09_Drop_l4b K J1 R1 (ts.getD 0 poison) (ts.getD 1 poison) (ls.getD 0 []) (ls.getD 1 []) σ
def w_law09_Drop (a0 a1 a2 : Value) (K : Value → Mem → Prop) (σ : Mem) : Prop :=
xC (gBox 9 [a0] []) fun c3 =>
xF fMove [a1] fun v9 =>
xF fMove [a2] fun v10 =>
s_drop_New [v9, v10] (fun v11 σ =>
xF fMove [v11] fun v7 =>
xJoin (w_law09_Drop_j1 K) fun J1 =>
xF fMove [(.int .i64 0)] fun v8 =>
xLoop (w_law09_Drop_l4 K J1) [v7, v8] [c3, [(.int .i64 0), (.int .u64 0), (.int .i64 0), (.int .i64 0)]] σ) σ
def s_law09_Drop : Spec := fun args K σ => match args with
  | [a0, a1, a2] => w_law09_Drop a0 a1 a2 K σ
  | _ => False
noncomputable def cx_law09_Drop : Cx := { P := Try.prog, T := [(50, .write, s_drop_New), (51, .write, s_drop_Drop_Step), (52, .read, s_drop_Drop_Done)], loc := [(3, 3), (6, 6)], eqt := [], n := 21, keep := [(4, [7, 8], [3, 6]), (1000007, [7], [6])] }
theorem q_law09_Drop : FnS cx_law09_Drop Try.f30 (bodyOf Try.f30) 3 = s_law09_Drop := by
  funext args K σ
  rcases args with _ | ⟨a0, _ | ⟨a1, _ | ⟨a2, _ | ⟨b, r⟩⟩⟩⟩ <;> kernel_rfl
theorem e_law09_Drop : Entry Try.prog 30 .write s_law09_Drop :=
  entry (C := cx_law09_Drop) (TOk.cons e_drop_New (TOk.cons e_drop_Drop_Step (TOk.cons e_drop_Drop_Done TOk.nil))) mixedOk Try.func30 (by kernel_rfl) (by kernel_rfl) (by kernel_rfl) q_law09_Drop
attribute [irreducible] w_law09_Drop_j1b w_law09_Drop_j1 w_law09_Drop_l4b w_law09_Drop_l4 w_law09_Drop s_law09_Drop
def w_law10_AccessDrops_j3b (K : Value → Mem → Prop) (v93 : Value) (c9 c10 : List Value) (σ : Mem) : Prop :=
xIf v93
 (xF fMove [(.bool false)] fun v4 =>
K v4 σ)
 (xF (fFld 0) [(locP 9)] fun v94 =>
xO (gLoad 1 false [v94] c9) fun v95 =>
xF (fBin .eql .no) [v95, (.int .i64 0)] fun v96 =>
xF fMove [v96] fun v97 =>
xIf v97
 (xF (fFld 3) [(locP 9)] fun v98 =>
xO (gLoad 1 false [v98] c9) fun v99 =>
xF (fFld 3) [(locP 10)] fun v100 =>
xO (gLoad 1 false [v100] c10) fun v101 =>
xF (fBin .lss .no) [v99, v101] fun v102 =>
xF fPick [(.bool true), v102, (.bool false)] fun v103 =>
xF fMove [v103] fun v104 =>
xIf v104
 (xF fPick [(.bool true), (.bool true), undef] fun v115 =>
xF fMove [v115] fun v4 =>
K v4 σ)
 (xF (fFld 0) [(locP 9)] fun v105 =>
xO (gLoad 1 false [v105] c9) fun v106 =>
xF (fBin .eql .no) [v106, (.int .i64 3)] fun v107 =>
xF fMove [v107] fun v108 =>
xIf v108
 (xF (fFld 3) [(locP 9)] fun v109 =>
xO (gLoad 1 false [v109] c9) fun v110 =>
xF (fFld 3) [(locP 10)] fun v111 =>
xO (gLoad 1 false [v111] c10) fun v112 =>
xF (fBin .geq .no) [v110, v112] fun v113 =>
xF fPick [(.bool true), v113, (.bool false)] fun v114 =>
xF fPick [(.bool false), (.bool true), v114] fun v115 =>
xF fMove [v115] fun v4 =>
K v4 σ)
 (xF fPick [(.bool false), undef, (.bool false)] fun v114 =>
xF fPick [(.bool false), (.bool true), v114] fun v115 =>
xF fMove [v115] fun v4 =>
K v4 σ)))
 (xF fPick [(.bool false), undef, (.bool false)] fun v103 =>
xF fMove [v103] fun v104 =>
xIf v104
 (xF fPick [(.bool true), (.bool true), undef] fun v115 =>
xF fMove [v115] fun v4 =>
K v4 σ)
 (xF (fFld 0) [(locP 9)] fun v105 =>
xO (gLoad 1 false [v105] c9) fun v106 =>
xF (fBin .eql .no) [v106, (.int .i64 3)] fun v107 =>
xF fMove [v107] fun v108 =>
xIf v108
 (xF (fFld 3) [(locP 9)] fun v109 =>
xO (gLoad 1 false [v109] c9) fun v110 =>
xF (fFld 3) [(locP 10)] fun v111 =>
xO (gLoad 1 false [v111] c10) fun v112 =>
xF (fBin .geq .no) [v110, v112] fun v113 =>
xF fPick [(.bool true), v113, (.bool false)] fun v114 =>
xF fPick [(.bool false), (.bool true), v114] fun v115 =>
xF fMove [v115] fun v4 =>
K v4 σ)
 (xF fPick [(.bool false), undef, (.bool false)] fun v114 =>
xF fPick [(.bool false), (.bool true), v114] fun v115 =>
xF fMove [v115] fun v4 =>
K v4 σ))))
def w_law10_AccessDrops_j3 (K : Value → Mem → Prop) (ts : List Value) (ls : List (List Value)) (σ : Mem) : Prop := w_law10_AccessDrops_j3b K (ts.getD 0 poison) (ls.getD 0 []) (ls.getD 1 []) σ
def w_law10_AccessDrops_j2b (K : Value → Mem → Prop) (c9 c10 c11 : List Value) (σ : Mem) : Prop :=
xJoin (w_law10_AccessDrops_j3 K) fun J3 =>
xF (fIxA 2 1) [(locP 11), (.int .i64 0)] fun v81 =>
xO (gLoad 1 false [v81] c11) fun v82 =>
xF (fUn .not) [v82] fun v83 =>
xF fMove [v83] fun v84 =>
xIf v84
 (xF fPick [(.bool true), (.bool true), undef] fun v88 =>
xF fMove [v88] fun v89 =>
xIf v89
 (xF fPick [(.bool true), (.bool true), undef] fun v93 =>
J3 [v93] [c9, c10] σ)
 (xF (fFld 0) [(locP 10)] fun v90 =>
xO (gLoad 1 false [v90] c10) fun v91 =>
xF (fBin .neq .no) [v91, (.int .i64 0)] fun v92 =>
xF fPick [(.bool false), (.bool true), v92] fun v93 =>
J3 [v93] [c9, c10] σ))
 (xF (fIxA 2 1) [(locP 11), (.int .i64 1)] fun v85 =>
xO (gLoad 1 false [v85] c11) fun v86 =>
xF (fUn .not) [v86] fun v87 =>
xF fPick [(.bool false), (.bool true), v87] fun v88 =>
xF fMove [v88] fun v89 =>
xIf v89
 (xF fPick [(.bool true), (.bool true), undef] fun v93 =>
J3 [v93] [c9, c10] σ)
 (xF (fFld 0) [(locP 10)] fun v90 =>
xO (gLoad 1 false [v90] c10) fun v91 =>
xF (fBin .neq .no) [v91, (.int .i64 0)] fun v92 =>
xF fPick [(.bool false), (.bool true), v92] fun v93 =>
J3 [v93] [c9, c10] σ))
def w_law10_AccessDrops_j2 (K : Value → Mem → Prop) (ts : List Value) (ls : List (List Value)) (σ : Mem) : Prop := w_law10_AccessDrops_j2b K (ls.getD 0 []) (ls.getD 1 []) (ls.getD 2 []) σ
def w_law10_AccessDrops_j5b (K : Value → Mem → Prop) (J2 : List Value → List (List Value) → Mem → Prop) (R1 : List Value → List (List Value) → Mem → Prop) (v1 v7 v8 v12 : Value) (c5 c9 c10 c11 : List Value) (σ : Mem) : Prop :=
xF fMove [v12] fun v47 =>
xF (fBin .add .no) [v47, (.int .i64 1)] fun v48 =>
xF fMove [v48] fun v12 =>
R1 [v1, v7, v8, v12] [c5, c9, c10, c11] σ
def w_law10_AccessDrops_j5 (K : Value → Mem → Prop) (J2 : List Value → List (List Value) → Mem → Prop) (R1 : List Value → List (List Value) → Mem → Prop) (ts : List Value) (ls : List (List Value)) (σ : Mem) : Prop := w_law10_AccessDrops_j5b K J2 R1 (ts.getD 0 poison) (ts.getD 1 poison) (ts.getD 2 poison) (ts.getD 3 poison) (ls.getD 0 []) (ls.getD 1 []) (ls.getD 2 []) (ls.getD 3 []) σ
def w_law10_AccessDrops_j6b (K : Value → Mem → Prop) (J2 : List Value → List (List Value) → Mem → Prop) (R1 : List Value → List (List Value) → Mem → Prop) (J5 : List Value → List (List Value) → Mem → Prop) (v1 v7 v8 v12 v13 : Value) (c5 c9 c10 c11 : List Value) (σ : Mem) : Prop :=
xF fMove [v13] fun v64 =>
xF (fIxA 2 1) [(locP 11), v64] fun v65 =>
xO (gLoad 1 false [v65] c11) fun v66 =>
xIf v66
 (J5 [v1, v7, v8, v12] [c5, c9, c10, c11] σ)
 (xF fMove [v13] fun v67 =>
xF (fBin .eql .no) [v67, (.int .i64 1)] fun v68 =>
xIf v68
 (xO (gLoad 9 true [(locP 5)] c5) fun v69 =>
xF fMove [v7] fun v70 =>
s_law09_Drop [v69, v70, (.bool false)] (fun v71 σ =>
xC (gStore 4 [(locP 10), v71] c10) fun c10 =>
xF (fIxA 2 1) [(locP 11), (.int .i64 1)] fun v72 =>
xC (gStore 1 [v72, (.bool true)] c11) fun c11 =>
J5 [v1, v7, v8, v12] [c5, c9, c10, c11] σ) σ)
 (xF fMove [v8] fun v73 =>
xO (gLoad 9 true [(locP 5)] c5) fun v74 =>
s_access_Access_Step [v73, v74] (fun v75 σ =>
xF (fIxA 2 1) [(locP 11), (.int .i64 0)] fun v76 =>
xC (gStore 1 [v76, v75] c11) fun c11 =>
xF (fIxA 2 1) [(locP 11), (.int .i64 0)] fun v77 =>
xO (gLoad 1 false [v77] c11) fun v78 =>
xIf v78
 (xF fMove [v8] fun v79 =>
s_access_Access_Done [v79] (fun v80 σ =>
xC (gStore 4 [(locP 9), v80] c9) fun c9 =>
J5 [v1, v7, v8, v12] [c5, c9, c10, c11] σ) σ)
 (J5 [v1, v7, v8, v12] [c5, c9, c10, c11] σ)) σ))
def w_law10_AccessDrops_j6 (K : Value → Mem → Prop) (J2 : List Value → List (List Value) → Mem → Prop) (R1 : List Value → List (List Value) → Mem → Prop) (J5 : List Value → List (List Value) → Mem → Prop) (ts : List Value) (ls : List (List Value)) (σ : Mem) : Prop := w_law10_AccessDrops_j6b K J2 R1 J5 (ts.getD 0 poison) (ts.getD 1 poison) (ts.getD 2 poison) (ts.getD 3 poison) (ts.getD 4 poison) (ls.getD 0 []) (ls.getD 1 []) (ls.getD 2 []) (ls.getD 3 []) σ
def w_law10_AccessDrops_j7b (K : Value → Mem → Prop) (J2 : List Value → List (List Value) → Mem → Prop) (R1 : List Value → List (List Value) → Mem → Prop) (J5 : List Value → List (List Value) → Mem → Prop) (J6 : List Value → List (List Value) → Mem → Prop) (v1 v7 v8 v12 v13 v58 : Value) (c5 c9 c10 c11 : List Value) (σ : Mem) : Prop :=
xIf v58
 (xF fMove [v1] fun v59 =>
xF fMove [v12] fun v60 =>
xF (fIxS 1) [v59, v60] fun v61 =>
hLoad 1 false [v61] (fun v62 σ =>
xF (fBin .and .no) [v62, (.int .i64 1)] fun v63 =>
xF fMove [v63] fun v13 =>
J6 [v1, v7, v8, v12, v13] [c5, c9, c10, c11] σ) σ)
 (J6 [v1, v7, v8, v12, v13] [c5, c9, c10, c11] σ)
def w_law10_AccessDrops_j7 (K : Value → Mem → Prop) (J2 : List Value → List (List Value) → Mem → Prop) (R1 : List Value → List (List Value) → Mem → Prop) (J5 : List Value → List (List Value) → Mem → Prop) (J6 : List Value → List (List Value) → Mem → Prop) (ts : List Value) (ls : List (List Value)) (σ : Mem) : Prop := w_law10_AccessDrops_j7b K J2 R1 J5 J6 (ts.getD 0 poison) (ts.getD 1 poison) (ts.getD 2 poison) (ts.getD 3 poison) (ts.getD 4 poison) (ts.getD 5 poison) (ls.getD 0 []) (ls.getD 1 []) (ls.getD 2 []) (ls.getD 3 []) σ
def w_law10_AccessDrops_j4b (K : Value → Mem → Prop) (J2 : List Value → List (List Value) → Mem → Prop) (R1 : List Value → List (List Value) → Mem → Prop) (v1 v7 v8 v12 : Value) (c5 c9 c10 c11 : List Value) (σ : Mem) : Prop :=
xJoin (w_law10_AccessDrops_j5 K J2 R1) fun J5 =>
xF fMove [v12] fun v49 =>
xF (fBin .and .no) [v49, (.int .i64 1)] fun v50 =>
xF fMove [v50] fun v13 =>
xJoin (w_law10_AccessDrops_j6 K J2 R1 J5) fun J6 =>
xJoin (w_law10_AccessDrops_j7 K J2 R1 J5 J6) fun J7 =>
xF fMove [v12] fun v51 =>
xF fMove [v1] fun v52 =>
xF fLen [v52] fun v53 =>
xF (fBin .lss .no) [v51, v53] fun v54 =>
xF fMove [v54] fun v55 =>
xIf v55
 (xF fMove [v12] fun v56 =>
xF (fBin .lss .no) [v56, (.int .i64 60)] fun v57 =>
xF fPick [(.bool true), v57, (.bool false)] fun v58 =>
J7 [v1, v7, v8, v12, v13, v58] [c5, c9, c10, c11] σ)
 (xF fPick [(.bool false), undef, (.bool false)] fun v58 =>
J7 [v1, v7, v8, v12, v13, v58] [c5, c9, c10, c11] σ)
def w_law10_AccessDrops_j4 (K : Value → Mem → Prop) (J2 : List Value → List (List Value) → Mem → Prop) (R1 : List Value → List (List Value) → Mem → Prop) (ts : List Value) (ls : List (List Value)) (σ : Mem) : Prop := w_law10_AccessDrops_j4b K J2 R1 (ts.getD 0 poison) (ts.getD 1 poison) (ts.getD 2 poison) (ts.getD 3 poison) (ls.getD 0 []) (ls.getD 1 []) (ls.getD 2 []) (ls.getD 3 []) σ
def w_law10_AccessDrops_l9b (K : Value → Mem → Prop) (J2 : List Value → List (List Value) → Mem → Prop) (R1 : List Value → List (List Value) → Mem → Prop) (v1 v7 v8 v12 : Value) (c5 c9 c10 c11 : List Value) (σ : Mem) : Prop :=
xJoin (w_law10_AccessDrops_j4 K J2 R1) fun J4 =>
xF fMove [v12] fun v36 =>
xF (fBin .lss .no) [v36, (.int .i64 200)] fun v37 =>
xF fMove [v37] fun v38 =>
xIf v38
 (xF (fIxA 2 1) [(locP 11), (.int .i64 0)] fun v39 =>
xO (gLoad 1 false [v39] c11) fun v40 =>
xF fMove [v40] fun v41 =>
xIf v41
 (xF (fIxA 2 1) [(locP 11), (.int .i64 1)] fun v42 =>
xO (gLoad 1 false [v42] c11) fun v43 =>
xF fPick [(.bool true), v43, (.bool false)] fun v44 =>
xF (fUn .not) [v44] fun v45 =>
xF fPick [(.bool true), v45, (.bool false)] fun v46 =>
xIf v46
 (J4 [v1, v7, v8, v12] [c5, c9, c10, c11] σ)
 (J2 [] [c9, c10, c11] σ))
 (xF fPick [(.bool false), undef, (.bool false)] fun v44 =>
xF (fUn .not) [v44] fun v45 =>
xF fPick [(.bool true), v45, (.bool false)] fun v46 =>
xIf v46
 (J4 [v1, v7, v8, v12] [c5, c9, c10, c11] σ)
 (J2 [] [c9, c10, c11] σ)))
 (xF fPick [(.bool false), undef, (.bool false)] fun v46 =>
xIf v46
 (J4 [v1, v7, v8, v12] [c5, c9, c10, c11] σ)
 (J2 [] [c9, c10, c11] σ))
def w_law10_AccessDrops_l9 (K : Value → Mem → Prop) (J2 : List Value → List (List Value) → Mem → Prop) (R1 : List Value → List (List Value) → Mem → Prop) (ts : List Value) (ls : List (List Value)) (σ : Mem) : Prop := w_law10_AccessDrops_l9b K J2 R1 (ts.getD 0 poison) (ts.getD 1 poison) (ts.getD 2 poison) (ts.getD 3 poison) (ls.getD 0 []) (ls.getD 1 []) (ls.getD 2 []) (ls.getD 3 []) σ
def w_law10_AccessDrops_j1b (K : Value → Mem → Prop) (v0 v1 v23 : Value) (c5 : List Value) (σ : Mem) : Prop :=
xIf v23
 (xF fMove [(.bool false)] fun v4 =>
K v4 σ)
 (xO (gLoad 9 true [(locP 5)] c5) fun v24 =>
s_law08_Make [v24, (.int .i64 2), (.bool false)] (fun v25 σ =>
xF (fFldV 1 1 false) [v25] fun v26 =>
xF fMove [v26] fun v7 =>
xF fMove [v0] fun v27 =>
xF (fBin .and .no) [v27, (.int .i64 1)] fun v28 =>
xF (fBin .add .no) [(.int .i64 1), v28] fun v29 =>
xF fMove [v7] fun v30 =>
xF (fBuild [(0, 1), (1, 1), (2, 1), (3, 1), (4, 1)] [(.int .i64 0), (.int .u64 0), (.int .i64 0), (.int .i64 0), (.int .i64 0)] [0, 1, 3]) [v29, v30, (.int .i64 7)] fun v31 =>
s_access_New [v31, (.bool false)] (fun v32 σ =>
xF fMove [v32] fun v8 =>
xF (fBuild [(0, 1), (1, 1), (2, 1), (3, 1)] [(.int .i64 0), (.int .u64 0), (.int .i64 0), (.int .i64 0)] []) [] fun v33 =>
xF (fBuild [(0, 1), (1, 1), (2, 1), (3, 1)] [(.int .i64 0), (.int .u64 0), (.int .i64 0), (.int .i64 0)] []) [] fun v34 =>
xF (fBuild [(0, 1), (1, 1)] [(.bool false), (.bool false)] []) [] fun v35 =>
xC (gStore 4 [(locP 9), v33] [(.int .i64 0), (.int .u64 0), (.int .i64 0), (.int .i64 0)]) fun c9 =>
xC (gStore 4 [(locP 10), v34] [(.int .i64 0), (.int .u64 0), (.int .i64 0), (.int .i64 0)]) fun c10 =>
xC (gStore 2 [(locP 11), v35] [(.bool false), (.bool false)]) fun c11 =>
xJoin (w_law10_AccessDrops_j2 K) fun J2 =>
xF fMove [(.int .i64 0)] fun v12 =>
xLoop (w_law10_AccessDrops_l9 K J2) [v1, v7, v8, v12] [c5, c9, c10, c11] σ) σ) σ)
def w_law10_AccessDrops_j1 (K : Value → Mem → Prop) (ts : List Value) (ls : List (List Value)) (σ : Mem) : Prop := w_law10_AccessDrops_j1b K (ts.getD 0 poison) (ts.getD 1 poison) (ts.getD 2 poison) (ls.getD 0 []) σ
def w_law10_AccessDrops (a0 a1 : Value) (K : Value → Mem → Prop) (σ : Mem) : Prop :=
xF fMove [(.bool false)] fun v4 =>
s_law04_Arena [(.int .i64 4), (.int .i64 4), (.int .i64 2), (.int .i64 20)] (fun v15 σ =>
xF fMove [v15] fun v14 =>
xF (fExt 0) [v14] fun v16 =>
xF (fExt 1) [v14] fun v17 =>
xC (gStore 9 [(locP 5), v16] [(.int .i64 0), (.int .i64 0), (.int .i64 0), (.int .i64 0), (.int .i64 0), (.int .i64 0), (.int .i64 0), (.pointer none), (.int .i64 0)]) fun c5 =>
xF fMove [v17] fun v6 =>
xJoin (w_law10_AccessDrops_j1 K) fun J1 =>
s_law10_awake [] (fun v18 σ =>
xF (fUn .not) [v18] fun v19 =>
xF fMove [v19] fun v20 =>
xIf v20
 (xF fPick [(.bool true), (.bool true), undef] fun v23 =>
J1 [a0, a1, v23] [c5] σ)
 (xF fMove [v6] fun v21 =>
xF (fUn .not) [v21] fun v22 =>
xF fPick [(.bool false), (.bool true), v22] fun v23 =>
J1 [a0, a1, v23] [c5] σ)) σ) σ
def s_law10_AccessDrops : Spec := fun args K σ => match args with
  | [a0, a1] => w_law10_AccessDrops a0 a1 K σ
  | _ => False
noncomputable def cx_law10_AccessDrops : Cx := { P := Try.prog, T := [(11, .write, s_law04_Arena), (12, .none, s_law10_awake), (13, .write, s_law08_Make), (14, .write, s_access_New), (30, .write, s_law09_Drop), (15, .write, s_access_Access_Step), (16, .read, s_access_Access_Done)], loc := [(5, 5), (9, 9), (10, 10), (11, 11), (39, 11), (42, 11), (65, 11), (72, 11), (76, 11), (77, 11), (81, 11), (85, 11), (90, 10), (94, 9), (98, 9), (100, 10), (105, 9), (109, 9), (111, 10)], eqt := [], n := 116, keep := [(9, [1, 7, 8, 12], [5, 9, 10, 11]), (1000004, [0, 1, 23], [5]), (1000010, [1, 7, 8, 12], [5, 9, 10, 11]), (1000011, [1, 7, 8, 12], [5, 9, 10, 11]), (1000013, [1, 7, 8, 12, 13, 58], [5, 9, 10, 11]), (1000014, [1, 7, 8, 12, 13], [5, 9, 10, 11]), (1000020, [], [9, 10, 11]), (1000021, [93], [9, 10])] }
theorem q_law10_AccessDrops : FnS cx_law10_AccessDrops Try.f10 (bodyOf Try.f10) 2 = s_law10_AccessDrops := by
  funext args K σ
  rcases args with _ | ⟨a0, _ | ⟨a1, _ | ⟨b, r⟩⟩⟩ <;> kernel_rfl
theorem e_law10_AccessDrops : Entry Try.prog 10 .write s_law10_AccessDrops :=
  entry (C := cx_law10_AccessDrops) (TOk.cons e_law04_Arena (TOk.cons e_law10_awake (TOk.cons e_law08_Make (TOk.cons e_access_New (TOk.cons e_law09_Drop (TOk.cons e_access_Access_Step (TOk.cons e_access_Access_Done TOk.nil))))))) mixedOk Try.func10 (by kernel_rfl) (by kernel_rfl) (by kernel_rfl) q_law10_AccessDrops
attribute [irreducible] w_law10_AccessDrops_j3b w_law10_AccessDrops_j3 w_law10_AccessDrops_j2b w_law10_AccessDrops_j2 w_law10_AccessDrops_j5b w_law10_AccessDrops_j5 w_law10_AccessDrops_j6b w_law10_AccessDrops_j6 w_law10_AccessDrops_j7b w_law10_AccessDrops_j7 w_law10_AccessDrops_j4b w_law10_AccessDrops_j4 w_law10_AccessDrops_l9b w_law10_AccessDrops_l9 w_law10_AccessDrops_j1b w_law10_AccessDrops_j1 w_law10_AccessDrops s_law10_AccessDrops
end Go.Fl
namespace Go.Fl
open Go
set_option linter.unusedVariables false
set_option linter.unusedSimpArgs false
theorem Mem.set_set (σ : Mem) (i : Nat) (a b : Blk) : (σ.set i a).set i b = σ.set i b := by
  apply Mem.ext'; funext j; simp only [Mem.set]; split <;> rfl
theorem Mem.set_self {σ : Mem} {i : Nat} {b : Blk} (h : σ.get i = some b) : σ.set i b = σ := by
  apply Mem.ext'; funext j; simp only [Mem.set]; split
  · rename_i e; rw [e, h]
  · rfl
theorem Mem.set_comm (σ : Mem) {i j : Nat} (a b : Blk) (h : i ≠ j) : (σ.set i a).set j b = (σ.set j b).set i a := by
  apply Mem.ext'; funext k; simp only [Mem.set]
  by_cases h1 : k = j <;> by_cases h2 : k = i <;> simp [h1, h2]
  · exact absurd (h2.symm.trans h1) h
  · intro e; exact absurd e.symm h
  · intro e; exact absurd e h
@[simp] theorem Mem.get_set_same (σ : Mem) (i : Nat) (b : Blk) : (σ.set i b).get i = some b := by simp [Mem.set]
theorem Mem.get_set_ne (σ : Mem) {i j : Nat} (b : Blk) (h : j ≠ i) : (σ.set i b).get j = σ.get j := by simp [Mem.set, h]
theorem nr {α : Sort _} {a b : α} (h : a = b) : a = b := h
section
variable {K : Value → Prop} {x y z : Value} {b o off : Nat} {q : Option Nat} {k k' : IntKind} {a c : Int} {Q : EqK}
theorem xMove : xF fMove [x] K = K x := nr rfl
theorem xPickT : xF fPick [.bool true, x, y] K = K x := nr rfl
theorem xPickF : xF fPick [.bool false, x, y] K = K y := nr rfl
theorem xNil {p : Addr} : xF fNil [.pointer (some p)] K = K (.pointer (some p)) := nr rfl
theorem xFld {p : Addr} : xF (fFld off) [.pointer (some p)] K = K (.pointer (some ⟨p.block, p.off + off, p.spot⟩)) := nr rfl
theorem xExt0 : xF (fExt 0) [.tuple #[x, y]] K = K x := nr rfl
theorem xExt1 : xF (fExt 1) [.tuple #[x, y]] K = K y := nr rfl
theorem xExt30 : xF (fExt 0) [.tuple #[x, y, z]] K = K x := nr rfl
theorem xExt31 : xF (fExt 1) [.tuple #[x, y, z]] K = K y := nr rfl
theorem xExt32 : xF (fExt 2) [.tuple #[x, y, z]] K = K z := nr rfl
theorem xAdd : xF (fBin .add Q) [.int k a, .int k c] K = K (.int k (k.wrap (a + c))) := by simp [xF, fBin, isSh, binI]
theorem xSub : xF (fBin .sub Q) [.int k a, .int k c] K = K (.int k (k.wrap (a - c))) := by simp [xF, fBin, isSh, binI]
theorem xMul : xF (fBin .mul Q) [.int k a, .int k c] K = K (.int k (k.wrap (a * c))) := by simp [xF, fBin, isSh, binI]
theorem xQuo (h : c ≠ 0) : xF (fBin .quo Q) [.int k a, .int k c] K = K (.int k (k.wrap (a.tdiv c))) := by simp [xF, fBin, isSh, binI, h]
theorem xEql : xF (fBin .eql Q) [.int k a, .int k c] K = K (.bool (decide (a = c))) := by
  simp only [xF, fBin, isSh, binI]
  simp only [Bool.false_eq_true, if_false, if_true]
  congr 2
theorem xNeq : xF (fBin .neq Q) [.int k a, .int k c] K = K (.bool (decide (a ≠ c))) := by
  simp only [xF, fBin, isSh, binI]
  simp only [Bool.false_eq_true, if_false, if_true]
  congr 2
  by_cases h : a = c <;> simp [h]
theorem xLss : xF (fBin .lss Q) [.int k a, .int k c] K = K (.bool (decide (a < c))) := by simp [xF, fBin, isSh, binI]
theorem xLeq : xF (fBin .leq Q) [.int k a, .int k c] K = K (.bool (decide (a ≤ c))) := by simp [xF, fBin, isSh, binI]
theorem xGtr : xF (fBin .gtr Q) [.int k a, .int k c] K = K (.bool (decide (c < a))) := by simp [xF, fBin, isSh, binI]
theorem xGeq : xF (fBin .geq Q) [.int k a, .int k c] K = K (.bool (decide (c ≤ a))) := by simp [xF, fBin, isSh, binI]
theorem xEqPN {p : Addr} : xF (fBin .eql .ptr) [.pointer (some p), .pointer none] K = K (.bool false) := nr rfl
theorem xEqNN : xF (fBin .eql .ptr) [.pointer none, .pointer none] K = K (.bool true) := nr rfl
theorem xNePN {p : Addr} : xF (fBin .neq .ptr) [.pointer (some p), .pointer none] K = K (.bool true) := nr rfl
theorem xNeNN : xF (fBin .neq .ptr) [.pointer none, .pointer none] K = K (.bool false) := nr rfl
theorem xEqBB {u v : Bool} : xF (fBin .eql .bool) [.bool u, .bool v] K = K (.bool (u == v)) := nr rfl
theorem xNeBB {u v : Bool} : xF (fBin .neq .bool) [.bool u, .bool v] K = K (.bool (!(u == v))) := nr rfl
theorem xNot {u : Bool} : xF (fUn .not) [.bool u] K = K (.bool (!u)) := by simp [xF, fUn]
theorem xNeg : xF (fUn .neg) [.int k a] K = K (.int k (k.wrap (-a))) := by simp [xF, fUn]
theorem xConv : xF (fConv k) [.int k' a] K = K (.int k (k.wrap a)) := nr rfl
theorem xLen {p : Option Addr} {n m : Nat} : xF fLen [.slice p n m] K = K (.int .i64 n) := nr rfl
theorem xMin : xF fMin [.int k a, .int k c] K = K (.int k (min a c)) := by
  show K (.int k (if c < a then c else a)) = _
  congr 2; split <;> omega
theorem xMax : xF fMax [.int k a, .int k c] K = K (.int k (max a c)) := by
  show K (.int k (if c > a then c else a)) = _
  congr 2; split <;> omega
theorem xIfc {t : TypeId} : xF (fIface t) [x] K = K (.iface t x) := nr rfl
theorem xIxS {p : Addr} {n m es : Nat} (h0 : 0 ≤ a) (h1 : a < n) : xF (fIxS es) [.slice (some p) n m, .int k a] K = K (.pointer (some ⟨p.block, p.off + a.toNat * es, p.spot⟩)) := by
  simp only [xF, fIxS, if_pos (And.intro h0 h1)]; rfl
theorem xIxA {p : Addr} {n es : Nat} (h0 : 0 ≤ a) (h1 : a < n) : xF (fIxA n es) [.pointer (some p), .int k a] K = K (.pointer (some ⟨p.block, p.off + a.toNat * es, p.spot⟩)) := by
  simp only [xF, fIxA, if_pos (And.intro h0 h1)]; rfl
theorem xFldV {cs : Array Value} {sz : Nat} {ag : Bool} : xF (fFldV off sz ag) [.agg cs] K = xO (sub cs.toList off sz ag) K := nr rfl
end
theorem xIfT {A B : Prop} : xIf (.bool true) A B = A := nr rfl
theorem xIfF {A B : Prop} : xIf (.bool false) A B = B := nr rfl
theorem xIfD {A B : Prop} {p : Prop} [Decidable p] : xIf (.bool (decide p)) A B = if p then A else B := by
  by_cases h : p <;> simp [xIf, h]
theorem xIfB {A B : Prop} {u : Bool} : xIf (.bool u) A B = if u = true then A else B := by cases u <;> rfl
theorem xJoinE {F : List Value → List (List Value) → Mem → Prop} {G : (List Value → List (List Value) → Mem → Prop) → Prop} : xJoin F G = G F := nr rfl
theorem xOs {v : Value} {K : Value → Prop} : xO (some v) K = K v := nr rfl
theorem xCs {c : List Value} {K : List Value → Prop} : xC (some c) K = K c := nr rfl
theorem sub_one {cs : List Value} {o : Nat} {v : Value} (h : cs[o]? = some v) : sub cs o 1 false = some v := by
  have : o < cs.length := (List.getElem?_eq_some_iff.1 h).1
  simp [sub, h, show o + 1 ≤ cs.length by omega]
theorem lay_one {cs : List Value} {o : Nat} {v : Value} : lay cs o [v] = cs.take o ++ v :: cs.drop (o + 1) := by simp [lay]
theorem lay_set {cs : List Value} {o : Nat} {v : Value} (h : o < cs.length) : lay cs o [v] = cs.set o v := by
  rw [lay_one, List.set_eq_take_append_cons_drop, if_pos h]
theorem hLoad_eq {sz b o : Nat} {ag : Bool} {K : Value → Mem → Prop} {σ : Mem} {cs : List Value} {rw : Bool} (h : σ.get b = some ⟨cs, rw⟩) :
    hLoad sz ag [.pointer (some ⟨b, o, none⟩)] K σ = xO (sub cs o sz ag) (fun v => K v σ) := by
  simp only [hLoad, rd, h]
  cases sub cs o sz ag <;> rfl
theorem hStore_eq {sz b o : Nat} {K : Value → Mem → Prop} {σ : Mem} {cs c : List Value} {x : Value} (h : σ.get b = some ⟨cs, true⟩) (hc : cellsOf x sz = some c)
    (hl : o + sz ≤ cs.length) (ho : c.all oneB = true) : hStore sz [.pointer (some ⟨b, o, none⟩), x] K σ = K undef (σ.set b ⟨lay cs o c, true⟩) := by
  simp only [hStore, wr, h, hc]
  rw [if_pos ⟨trivial, hl, ho⟩]
def upd (f : Int → Int) (a v : Int) : Int → Int := fun i => if i = a then v else f i
theorem upd_same (f : Int → Int) (a v : Int) : upd f a v a = v := by simp [upd]
theorem upd_ne (f : Int → Int) {a i : Int} (v : Int) (h : i ≠ a) : upd f a v i = f i := by simp [upd, h]
def cells (k : IntKind) (n : Nat) (f : Int → Int) : List Value := (List.range n).map fun i : Nat => Value.int k (f (i : Int))
@[simp] theorem cells_len (k : IntKind) (n : Nat) (f : Int → Int) : (cells k n f).length = n := by simp [cells]
theorem cells_get (k : IntKind) {n : Nat} (f : Int → Int) {a : Int} (h0 : 0 ≤ a) (h1 : a < n) : (cells k n f)[a.toNat]? = some (.int k (f a)) := by
  have : a.toNat < n := by omega
  simp only [cells, List.getElem?_map, List.getElem?_range this, Option.map_some]
  rw [show ((a.toNat : Nat) : Int) = a by omega]
theorem cells_set (k : IntKind) {n : Nat} (f : Int → Int) {a : Int} (v : Int) (h0 : 0 ≤ a) (h1 : a < n) : (cells k n f).set a.toNat (.int k v) = cells k n (upd f a v) := by
  apply List.ext_getElem?
  intro i
  rw [List.getElem?_set]
  by_cases hi : i < n
  · simp only [cells, List.getElem?_map, List.getElem?_range hi, Option.map_some, List.length_map, List.length_range]
    by_cases e : a.toNat = i
    · subst e
      rw [if_pos rfl, if_pos hi]
      simp [upd]
      intro hc; omega
    · rw [if_neg e]
      have : (i : Int) ≠ a := by omega
      simp [upd, this]
  · have h2 : ¬ a.toNat = i := by omega
    rw [if_neg h2]
    simp [cells, hi]
theorem cells_sub (k : IntKind) {n : Nat} (f : Int → Int) {a : Int} (h0 : 0 ≤ a) (h1 : a < n) : sub (cells k n f) (0 + a.toNat * 1) 1 false = some (.int k (f a)) := by
  rw [show 0 + a.toNat * 1 = a.toNat by omega]
  exact sub_one (cells_get k f h0 h1)
theorem cells_lay (k : IntKind) {n : Nat} (f : Int → Int) {a : Int} (v : Int) (h0 : 0 ≤ a) (h1 : a < n) : lay (cells k n f) (0 + a.toNat * 1) [.int k v] = cells k n (upd f a v) := by
  rw [show 0 + a.toNat * 1 = a.toNat by omega, lay_set (by simp; omega), cells_set k f v h0 h1]
theorem cells_repl (k : IntKind) (n : Nat) : (List.replicate n [Value.int k 0]).flatten = cells k n fun _ => 0 := by
  rw [List.flatten_replicate_singleton]
  apply List.ext_getElem?
  intro i
  by_cases hi : i < n
  · simp [cells, hi, List.getElem?_replicate, List.getElem?_range hi]
  · simp [cells, hi, List.getElem?_replicate]
theorem locP_e (k : Nat) : locP k = .pointer (some ⟨k, 0, some 0⟩) := nr rfl
theorem gBox_a {cs : List Value} {sz : Nat} {l : List Value} (h : cs.length = sz) : gBox sz [.agg cs.toArray] l = some cs := by
  subst h
  show cellsOf (.agg cs.toArray) _ = _
  simp [cellsOf]
theorem gBox_i {k : IntKind} {n : Int} {l : List Value} : gBox 1 [.int k n] l = some [.int k n] := nr rfl
theorem gBox_b {b : Bool} {l : List Value} : gBox 1 [.bool b] l = some [.bool b] := nr rfl
theorem gBox_p {p : Option Addr} {l : List Value} : gBox 1 [.pointer p] l = some [.pointer p] := nr rfl
theorem gLoad_s {sz k o : Nat} {ag : Bool} {q : Option Nat} {cs : List Value} : gLoad sz ag [.pointer (some ⟨k, o, q⟩)] cs = sub cs o sz ag := nr rfl
theorem gAlloc_s {z l : List Value} : gAlloc z [] l = some z := nr rfl
theorem gStore_a {sz k o : Nat} {q : Option Nat} {c cs : List Value} (h : c.length = sz) (hl : o + sz ≤ cs.length) (ho : c.all oneB = true) :
    gStore sz [.pointer (some ⟨k, o, q⟩), .agg c.toArray] cs = some (lay cs o c) := by
  subst h
  have : cellsOf (.agg c.toArray) c.length = some c := by simp [cellsOf]
  simp only [gStore, this]
  rw [if_pos ⟨hl, ho⟩]
theorem gStore_1 {k o : Nat} {q : Option Nat} {x : Value} {cs : List Value} (h : cellsOf x 1 = some [x]) (hl : o + 1 ≤ cs.length) (ho : oneB x = true) :
    gStore 1 [.pointer (some ⟨k, o, q⟩), x] cs = some (lay cs o [x]) := by
  simp only [gStore, h]
  rw [if_pos ⟨hl, by simp [ho]⟩]
theorem gStore_i {k o : Nat} {q : Option Nat} {kd : IntKind} {n : Int} {cs : List Value} (hl : o + 1 ≤ cs.length) :
    gStore 1 [.pointer (some ⟨k, o, q⟩), .int kd n] cs = some (lay cs o [.int kd n]) := gStore_1 rfl hl rfl
theorem gStore_b {k o : Nat} {q : Option Nat} {b : Bool} {cs : List Value} (hl : o + 1 ≤ cs.length) :
    gStore 1 [.pointer (some ⟨k, o, q⟩), .bool b] cs = some (lay cs o [.bool b]) := gStore_1 rfl hl rfl
theorem gStore_p {k o : Nat} {q : Option Nat} {p : Option Addr} {cs : List Value} (hl : o + 1 ≤ cs.length) :
    gStore 1 [.pointer (some ⟨k, o, q⟩), .pointer p] cs = some (lay cs o [.pointer p]) := gStore_1 rfl hl rfl
theorem sub_z {x : Value} {cs : List Value} : sub (x :: cs) 0 1 false = some x := by simp [sub]
theorem sub_s {x : Value} {cs : List Value} {n : Nat} : sub (x :: cs) (n + 1) 1 false = sub cs n 1 false := by
  simp only [sub, List.length_cons]
  by_cases h : n + 1 ≤ cs.length
  · rw [if_pos h, if_pos (by omega)]; simp
  · rw [if_neg h, if_neg (by omega)]
theorem sub_l {cs : List Value} {o sz : Nat} : sub cs o sz true = if o + sz ≤ cs.length then some (.agg ((cs.drop o).take sz).toArray) else none := by simp [sub]
theorem oneB_i {k : IntKind} {n : Int} : oneB (.int k n) = true := nr rfl
theorem oneB_b {b : Bool} : oneB (.bool b) = true := nr rfl
theorem oneB_p {p : Option Addr} : oneB (.pointer p) = true := nr rfl
theorem oneB_sl {p : Option Addr} {n c : Nat} : oneB (.slice p n c) = true := nr rfl
theorem lay_z {cs vs : List Value} : lay cs 0 vs = vs ++ cs.drop vs.length := by simp [lay]
theorem lay_s {x : Value} {cs vs : List Value} {n : Nat} : lay (x :: cs) (n + 1) vs = x :: lay cs n vs := by
  simp only [lay, List.take_succ_cons, List.cons_append]
  rw [show n + 1 + vs.length = (n + vs.length) + 1 by omega, List.drop_succ_cons]
def SlW (w : World) (ks : List (Option IntKind)) (v : Value) : Prop := v = .slice none 0 0 ∨ ∃ (a : Addr) (len cap : Nat) (cells : List Value), v = .slice (some a) len cap ∧ len ≤ cap ∧ cap ≤ maxLen ∧
  FlatL (List.replicate len ks).flatten cells ∧ (cap = 0 ∨ InW w a (cap * ks.length) (len * ks.length) cells)
theorem Opn.sl {w : World} {ρ : Ren} {σ : Mem} {avs avs' : List Value} {v : Value} {ks : List (Option IntKind)} (h : Opn w ρ σ avs avs') (hv : SlW w ks v) :
    ∃ ρ' σ' s n cs, Opn w ρ' σ' (s :: avs) (v :: avs') ∧ Sl σ' ks.length n cs s ∧ n ≤ maxLen ∧ FlatL (List.replicate n ks).flatten cs ∧ ∀ i b, σ.get i = some b → σ'.get i = some b := by
  rcases hv with rfl | ⟨a, len, cap, cs, rfl, h1, h2, h3, h4⟩
  · exact ⟨ρ, σ, _, 0, [], h.nilS, .nil, Nat.zero_le _, .nil, fun _ _ q => q⟩
  · obtain ⟨ρ', σ', s, o, sl, ext⟩ := h.slice (es := ks.length) h1 h3 (by simp) h4
    exact ⟨ρ', σ', s, len, cs, o, sl, Nat.le_trans h1 h2, h3, ext⟩
theorem FlatL.ints {k : IntKind} : ∀ {n : Nat} {cs : List Value}, FlatL (List.replicate n [some k]).flatten cs → ∃ f : Int → Int, cs = cells k n f ∧ ∀ i, (Lit.int k (f i)).wf = true
  | 0, cs, h => by
    cases h
    refine ⟨fun _ => 0, rfl, fun i => ?_⟩
    show (Lit.int k 0).wf = true
    cases k <;> decide
  | n + 1, cs, h => by
    have e : (List.replicate (n + 1) [some k]).flatten = some k :: (List.replicate n [some k]).flatten := by simp [List.replicate_succ]
    rw [e] at h
    cases h with
    | cons h1 h2 =>
      obtain ⟨m, rfl, hm⟩ := h1
      obtain ⟨f, rfl, hf⟩ := FlatL.ints h2
      refine ⟨fun i => if i = 0 then m else f (i - 1), ?_, fun i => ?_⟩
      · simp only [cells, List.range_succ_eq_map, List.map_cons, List.map_map]
        congr 1
        apply List.map_congr_left
        intro i _
        simp only [Function.comp]
        rw [if_neg (by omega)]
        congr 2; omega
      · dsimp only; split
        · exact hm
        · exact hf _
theorem ruS : type_of% ((And.intro (And.intro (And.intro (And.intro (And.intro @xMove (And.intro @xPickT @xPickF)) (And.intro @xNil (And.intro @xFld @xExt0))) (And.intro (And.intro @xExt1 (And.intro @xExt30 @xExt31)) (And.intro (And.intro @xExt32 @xAdd) (And.intro @xSub @xMul)))) (And.intro (And.intro (And.intro @xEql (And.intro @xNeq @xLss)) (And.intro @xLeq (And.intro @xGtr @xGeq))) (And.intro (And.intro @xEqPN (And.intro @xEqNN @xNePN)) (And.intro (And.intro @xNeNN @xEqBB) (And.intro @xNeBB @xNot))))) (And.intro (And.intro (And.intro (And.intro @xConv (And.intro @xLen @xMin)) (And.intro @xMax (And.intro @xIfc @xIfT))) (And.intro (And.intro @xIfF (And.intro @xIfD @xJoinE)) (And.intro (And.intro @xOs @xCs) (And.intro @xFldV @List.getD_cons_zero.{0})))) (And.intro (And.intro (And.intro @List.getD_cons_succ.{0} (And.intro @Nat.zero_add @Mem.get_set_same)) (And.intro (And.intro @Mem.set_set @if_true.{1}) (And.intro @if_false.{1} @Bool.not_true))) (And.intro (And.intro @Bool.not_false (And.intro @decide_true @decide_false)) (And.intro (And.intro @decide_eq_true_eq @decide_not) (And.intro @Bool.not_eq_true @Bool.false_eq_true))))))) := (And.intro (And.intro (And.intro (And.intro (And.intro @xMove (And.intro @xPickT @xPickF)) (And.intro @xNil (And.intro @xFld @xExt0))) (And.intro (And.intro @xExt1 (And.intro @xExt30 @xExt31)) (And.intro (And.intro @xExt32 @xAdd) (And.intro @xSub @xMul)))) (And.intro (And.intro (And.intro @xEql (And.intro @xNeq @xLss)) (And.intro @xLeq (And.intro @xGtr @xGeq))) (And.intro (And.intro @xEqPN (And.intro @xEqNN @xNePN)) (And.intro (And.intro @xNeNN @xEqBB) (And.intro @xNeBB @xNot))))) (And.intro (And.intro (And.intro (And.intro @xConv (And.intro @xLen @xMin)) (And.intro @xMax (And.intro @xIfc @xIfT))) (And.intro (And.intro @xIfF (And.intro @xIfD @xJoinE)) (And.intro (And.intro @xOs @xCs) (And.intro @xFldV @List.getD_cons_zero.{0})))) (And.intro (And.intro (And.intro @List.getD_cons_succ.{0} (And.intro @Nat.zero_add @Mem.get_set_same)) (And.intro (And.intro @Mem.set_set @if_true.{1}) (And.intro @if_false.{1} @Bool.not_true))) (And.intro (And.intro @Bool.not_false (And.intro @decide_true @decide_false)) (And.intro (And.intro @decide_eq_true_eq @decide_not) (And.intro @Bool.not_eq_true @Bool.false_eq_true))))))
theorem ruL : type_of% ((And.intro (And.intro (And.intro (And.intro (And.intro @locP_e @gBox_a) (And.intro @gBox_i @gBox_b)) (And.intro (And.intro @gBox_p @gLoad_s) (And.intro @gAlloc_s @gStore_a))) (And.intro (And.intro (And.intro @gStore_i @gStore_b) (And.intro @gStore_p @sub_z)) (And.intro (And.intro @sub_s @lay_z) (And.intro @lay_s @List.length_cons.{0})))) (And.intro (And.intro (And.intro (And.intro @List.length_nil.{0} @Nat.le_refl) (And.intro @List.drop_zero.{0} @List.drop_succ_cons.{0})) (And.intro (And.intro @List.take_succ_cons.{0} @List.take_zero.{0}) (And.intro @List.drop_nil.{0} @List.cons_append.{0}))) (And.intro (And.intro (And.intro @List.nil_append.{0} @List.all_cons.{0}) (And.intro @List.all_nil.{0} @oneB_i)) (And.intro (And.intro @oneB_b @oneB_p) (And.intro @oneB_sl @Bool.and_true)))))) := (And.intro (And.intro (And.intro (And.intro (And.intro @locP_e @gBox_a) (And.intro @gBox_i @gBox_b)) (And.intro (And.intro @gBox_p @gLoad_s) (And.intro @gAlloc_s @gStore_a))) (And.intro (And.intro (And.intro @gStore_i @gStore_b) (And.intro @gStore_p @sub_z)) (And.intro (And.intro @sub_s @lay_z) (And.intro @lay_s @List.length_cons.{0})))) (And.intro (And.intro (And.intro (And.intro @List.length_nil.{0} @Nat.le_refl) (And.intro @List.drop_zero.{0} @List.drop_succ_cons.{0})) (And.intro (And.intro @List.take_succ_cons.{0} @List.take_zero.{0}) (And.intro @List.drop_nil.{0} @List.cons_append.{0}))) (And.intro (And.intro (And.intro @List.nil_append.{0} @List.all_cons.{0}) (And.intro @List.all_nil.{0} @oneB_i)) (And.intro (And.intro @oneB_b @oneB_p) (And.intro @oneB_sl @Bool.and_true)))))
theorem ruX : type_of% (@sub_l) := @sub_l
end Go.Fl
namespace Go.Fl
open Go
set_option linter.unusedVariables false
set_option linter.unusedSimpArgs false
structure Ar where
  n : Nat
  w : Int → Int
  t : Int → Int
  s : Int
  who : Int
  la : Int
  lw : Int
  lc : Bool
structure Nm where
  m : Nat
  w : Nat
  t : Nat
def Ar.mc (N : Nm) (A : Ar) : List Value := [.slice (some ⟨N.w, 0, none⟩) A.n 1, .slice (some ⟨N.t, 0, none⟩) A.n 1, .int .i64 A.s, .int .i64 A.who, .int .i64 A.la, .int .i64 A.lw, .bool A.lc]
def Ar.wb (A : Ar) : Blk := ⟨cells .u64 A.n A.w, true⟩
def Ar.tb (A : Ar) : Blk := ⟨cells .i64 A.n A.t, true⟩
structure Nm.ok (N : Nm) : Prop where
  mw : N.m ≠ N.w
  mt : N.m ≠ N.t
  wt : N.w ≠ N.t
def putA (N : Nm) (A : Ar) (σ : Mem) : Mem := ((σ.set N.t A.tb).set N.w A.wb).set N.m ⟨A.mc N, true⟩
variable {N : Nm} {A B : Ar} {σ : Mem} {K : Value → Mem → Prop}
theorem putA_m : (putA N A σ).get N.m = some ⟨A.mc N, true⟩ := by simp [putA]
theorem putA_w (h : N.ok) : (putA N A σ).get N.w = some A.wb := by simp [putA, Mem.get_set, h.mw.symm]
theorem putA_t (h : N.ok) : (putA N A σ).get N.t = some A.tb := by simp [putA, Mem.get_set, h.mt.symm, h.wt.symm]
theorem putA_ne {i : Nat} (h1 : i ≠ N.m) (h2 : i ≠ N.w) (h3 : i ≠ N.t) : (putA N A σ).get i = σ.get i := by simp [putA, Mem.get_set, h1, h2, h3]
theorem putA_set {p : Nat} {c : Blk} (h1 : p ≠ N.m) (h2 : p ≠ N.w) (h3 : p ≠ N.t) : (putA N A σ).set p c = putA N A (σ.set p c) := by
  simp only [putA]
  rw [Mem.set_comm _ _ _ h1.symm, Mem.set_comm _ _ _ h2.symm, Mem.set_comm _ _ _ h3.symm]
def Ar.by (A : Ar) (who : Int) : Ar := { A with who := who }
def Ar.step (A : Ar) (a : Int) : Ar := { A with s := IntKind.i64.wrap (A.s + 1), la := a, lw := A.who, lc := false }
def Ar.lay (A : Ar) (a v : Int) : Ar := { A with lc := decide (A.w a ≠ v), t := if A.w a ≠ v then upd A.t a A.s else A.t, w := upd A.w a v }
def Ar.tick (A : Ar) : Ar := { A with s := IntKind.i64.wrap (A.s + 1) }
def Ar.lst (A : Ar) (a : Int) : Ar := { A with la := a, lw := A.who, lc := false }
def Ar.chg (A : Ar) (c : Bool) : Ar := { A with lc := c }
def Ar.setW (A : Ar) (a v : Int) : Ar := { A with w := upd A.w a v }
def Ar.setT (A : Ar) (a v : Int) : Ar := { A with t := upd A.t a v }
theorem putA_setM (h : A.n = B.n) (hw : A.w = B.w) (ht : A.t = B.t) : (putA N A σ).set N.m ⟨B.mc N, true⟩ = putA N B σ := by
  simp only [putA, Mem.set_set, Ar.wb, Ar.tb, h, hw, ht]
theorem ldM0 : hLoad 1 false [.pointer (some ⟨N.m, 0, none⟩)] K (putA N A σ) = K (.slice (some ⟨N.w, 0, none⟩) A.n 1) (putA N A σ) := (hLoad_eq putA_m).trans rfl
theorem ldM1 : hLoad 1 false [.pointer (some ⟨N.m, 1, none⟩)] K (putA N A σ) = K (.slice (some ⟨N.t, 0, none⟩) A.n 1) (putA N A σ) := (hLoad_eq putA_m).trans rfl
theorem ldM2 : hLoad 1 false [.pointer (some ⟨N.m, 2, none⟩)] K (putA N A σ) = K (.int .i64 A.s) (putA N A σ) := (hLoad_eq putA_m).trans rfl
theorem ldM3 : hLoad 1 false [.pointer (some ⟨N.m, 3, none⟩)] K (putA N A σ) = K (.int .i64 A.who) (putA N A σ) := (hLoad_eq putA_m).trans rfl
theorem ldM6 : hLoad 1 false [.pointer (some ⟨N.m, 6, none⟩)] K (putA N A σ) = K (.bool A.lc) (putA N A σ) := (hLoad_eq putA_m).trans rfl
theorem stM2 : hStore 1 [.pointer (some ⟨N.m, 2, none⟩), .int .i64 (IntKind.i64.wrap (A.s + 1))] K (putA N A σ) = K undef (putA N A.tick σ) := by
  rw [hStore_eq putA_m rfl (by simp [Ar.mc]) rfl]
  exact congrArg _ (putA_setM (B := A.tick) rfl rfl rfl)
theorem stM3 {who : Int} : hStore 1 [.pointer (some ⟨N.m, 3, none⟩), .int .i64 who] K (putA N A σ) = K undef (putA N (A.by who) σ) := by
  rw [hStore_eq putA_m rfl (by simp [Ar.mc]) rfl]
  exact congrArg _ (putA_setM (B := A.by who) rfl rfl rfl)
theorem stM4 {a : Int} : hStore 3 [.pointer (some ⟨N.m, 4, none⟩), .agg #[.int .i64 a, .int .i64 A.who, .bool false]] K (putA N A σ) = K undef (putA N (A.lst a) σ) := by
  rw [hStore_eq putA_m rfl (by simp [Ar.mc]) rfl]
  exact congrArg _ (putA_setM (B := A.lst a) rfl rfl rfl)
theorem stM6 {c : Bool} : hStore 1 [.pointer (some ⟨N.m, 6, none⟩), .bool c] K (putA N A σ) = K undef (putA N (A.chg c) σ) := by
  rw [hStore_eq putA_m rfl (by simp [Ar.mc]) rfl]
  exact congrArg _ (putA_setM (B := A.chg c) rfl rfl rfl)
theorem ldW (h : N.ok) {a : Int} (h0 : 0 ≤ a) (h1 : a < A.n) : hLoad 1 false [.pointer (some ⟨N.w, a.toNat * 1, none⟩)] K (putA N A σ) = K (.int .u64 (A.w a)) (putA N A σ) := by
  rw [hLoad_eq (putA_w h)]
  have := cells_sub .u64 A.w h0 h1
  rw [Nat.zero_add] at this
  rw [this, xOs]
theorem stW (h : N.ok) {a v : Int} (h0 : 0 ≤ a) (h1 : a < A.n) : hStore 1 [.pointer (some ⟨N.w, a.toNat * 1, none⟩), .int .u64 v] K (putA N A σ) = K undef (putA N (A.setW a v) σ) := by
  have := cells_lay .u64 A.w v h0 h1
  rw [Nat.zero_add] at this
  rw [hStore_eq (putA_w h) rfl (by simp; omega) rfl, this]
  refine congrArg _ ?_
  simp only [putA]
  rw [Mem.set_comm _ _ _ h.mw, Mem.set_set]; rfl
theorem stT (h : N.ok) {a v : Int} (h0 : 0 ≤ a) (h1 : a < A.n) : hStore 1 [.pointer (some ⟨N.t, a.toNat * 1, none⟩), .int .i64 v] K (putA N A σ) = K undef (putA N (A.setT a v) σ) := by
  have := cells_lay .i64 A.t v h0 h1
  rw [Nat.zero_add] at this
  rw [hStore_eq (putA_t h) rfl (by simp; omega) rfl, this]
  refine congrArg _ ?_
  simp only [putA]
  rw [Mem.set_comm _ _ _ h.mt, Mem.set_comm _ _ _ h.wt, Mem.set_set]; rfl
theorem ldT (h : N.ok) {a : Int} (h0 : 0 ≤ a) (h1 : a < A.n) : hLoad 1 false [.pointer (some ⟨N.t, a.toNat * 1, none⟩)] K (putA N A σ) = K (.int .i64 (A.t a)) (putA N A σ) := by
  rw [hLoad_eq (putA_t h)]
  have := cells_sub .i64 A.t h0 h1
  rw [Nat.zero_add] at this
  rw [this, xOs]
theorem xBuildLast {a b : Int} {K : Value → Prop} : xF (fBuild [(0, 1), (1, 1), (2, 1)] [.int .i64 0, .int .i64 0, .bool false] [0, 1]) [.int .i64 a, .int .i64 b] K = K (.agg #[.int .i64 a, .int .i64 b, .bool false]) := rfl
def Nm.p (N : Nm) : Value := .pointer (some ⟨N.m, 0, none⟩)
theorem c_By {who : Int} : s_mem_Mem_By [N.p, .int .i64 who] K (putA N A σ) = K (.tuple #[]) (putA N (A.by who) σ) := by
  simp only [s_mem_Mem_By, w_mem_Mem_By, Nm.p, stM3, ruS, Nat.reduceAdd, reduceIte, Int.reduceLT, Int.reduceLE, Int.reduceEq, Int.reduceNeg, Int.reduceAdd, Int.reduceSub]
theorem c_step {a : Int} (h0 : 0 ≤ a) (h1 : a < A.n) : s_mem_Mem_step [N.p, .int .i64 a] K (putA N A σ) = K (.bool true) (putA N (A.step a) σ) := by
  simp only [s_mem_Mem_step, w_mem_Mem_step, w_mem_Mem_step_j1, w_mem_Mem_step_j1b, Nm.p, ldM0, ldM2, ldM3, stM2, stM4, xBuildLast, ruS, Nat.reduceAdd, reduceIte, Int.reduceLT, Int.reduceLE, Int.reduceEq, Int.reduceNeg, Int.reduceAdd, Int.reduceSub]
  rw [if_neg (by omega), if_neg (by omega)]
  rfl
theorem c_set (h : N.ok) {a v : Int} (h0 : 0 ≤ a) (h1 : a < A.n) : s_mem_Mem_set [N.p, .int .i64 a, .int .u64 v] K (putA N A σ) = K (.tuple #[]) (putA N (A.lay a v) σ) := by
  have h2 : ∀ c, a < (A.chg c).n := fun _ => h1
  simp only [s_mem_Mem_set, w_mem_Mem_set, w_mem_Mem_set_j1, w_mem_Mem_set_j1b, Nm.p, ldM0, ldM1, ldM2, ldM6, stM6, xIxS h0 h1, xIxS h0 (h2 _), ldW h h0 h1, ruS, Nat.reduceAdd, reduceIte, Int.reduceLT, Int.reduceLE, Int.reduceEq, Int.reduceNeg, Int.reduceAdd, Int.reduceSub]
  by_cases hc : A.w a = v
  · simp only [hc, Ar.chg, ne_eq, not_true_eq_false, decide_false, Bool.false_eq_true, if_false, xIxS h0 h1, ruS, Nat.reduceAdd, reduceIte, Int.reduceLT, Int.reduceLE, Int.reduceEq, Int.reduceNeg, Int.reduceAdd, Int.reduceSub]
    have h3 : a < (A.chg false).n := h1
    rw [show ({ n := A.n, w := A.w, t := A.t, s := A.s, who := A.who, la := A.la, lw := A.lw, lc := false } : Ar) = A.chg false from rfl]
    simp only [xIxS h0 h3, stW h h0 h3, Nat.zero_add]
    refine congrArg _ (congrArg (putA N · σ) ?_)
    simp [Ar.setW, Ar.chg, Ar.lay, hc]
  · simp only [hc, ne_eq, not_false_eq_true, decide_true, if_true, Ar.chg, ruS, Nat.reduceAdd, reduceIte, Int.reduceLT, Int.reduceLE, Int.reduceEq, Int.reduceNeg, Int.reduceAdd, Int.reduceSub]
    have h3 : a < (A.chg true).n := h1
    have h4 : a < ((A.chg true).setT a A.s).n := h1
    rw [show ({ n := A.n, w := A.w, t := A.t, s := A.s, who := A.who, la := A.la, lw := A.lw, lc := true } : Ar) = A.chg true from rfl]
    simp only [xIxS h0 h3, stT h h0 h3, Nat.zero_add]
    simp only [ldM0, ruS, Nat.reduceAdd, reduceIte, Int.reduceLT, Int.reduceLE, Int.reduceEq, Int.reduceNeg, Int.reduceAdd, Int.reduceSub]
    simp only [xIxS h0 h4, stW h h0 h4, Nat.zero_add]
    refine congrArg _ (congrArg (putA N · σ) ?_)
    simp [Ar.setW, Ar.setT, Ar.chg, Ar.lay, hc]
def Ar.load (A : Ar) (a : Int) : Ar := A.step a
def Ar.store (A : Ar) (a v : Int) : Ar := (A.step a).lay a v
def Ar.cas (A : Ar) (a o v : Int) : Ar := if A.w a = o then (A.step a).lay a v else A.step a
def Ar.add (A : Ar) (a d : Int) : Ar := (A.step a).lay a (IntKind.u64.wrap (A.w a + d))
theorem step_lt {a b : Int} (h : a < A.n) : a < (A.step b).n := h
theorem c_mLoad (h : N.ok) {a : Int} (h0 : 0 ≤ a) (h1 : a < A.n) : s_mem_Mem_Load [N.p, .int .i64 a] K (putA N A σ) = K (.tuple #[.int .u64 (A.w a), .int .i64 0]) (putA N (A.load a) σ) := by
  simp only [s_mem_Mem_Load, w_mem_Mem_Load, ruS, Nat.reduceAdd, reduceIte, Int.reduceLT, Int.reduceLE, Int.reduceEq, Int.reduceNeg, Int.reduceAdd, Int.reduceSub, c_step h0 h1]
  simp only [Nm.p, ldM0, xIxS h0 (step_lt h1), ldW h h0 (step_lt h1), ruS, Nat.reduceAdd, reduceIte, Int.reduceLT, Int.reduceLE, Int.reduceEq, Int.reduceNeg, Int.reduceAdd, Int.reduceSub]
  rfl
theorem c_mStore (h : N.ok) {a v : Int} (h0 : 0 ≤ a) (h1 : a < A.n) : s_mem_Mem_Store [N.p, .int .i64 a, .int .u64 v] K (putA N A σ) = K (.int .i64 0) (putA N (A.store a v) σ) := by
  simp only [s_mem_Mem_Store, w_mem_Mem_Store, ruS, Nat.reduceAdd, reduceIte, Int.reduceLT, Int.reduceLE, Int.reduceEq, Int.reduceNeg, Int.reduceAdd, Int.reduceSub, c_step h0 h1, c_set h h0 (step_lt h1)]
  rfl
theorem c_mCas (h : N.ok) {a o v : Int} (h0 : 0 ≤ a) (h1 : a < A.n) : s_mem_Mem_Cas [N.p, .int .i64 a, .int .u64 o, .int .u64 v] K (putA N A σ) = K (.tuple #[.bool (decide (A.w a = o)), .int .i64 0]) (putA N (A.cas a o v) σ) := by
  simp only [s_mem_Mem_Cas, w_mem_Mem_Cas, ruS, Nat.reduceAdd, reduceIte, Int.reduceLT, Int.reduceLE, Int.reduceEq, Int.reduceNeg, Int.reduceAdd, Int.reduceSub, c_step h0 h1]
  have hw : (A.step a).w a = A.w a := rfl
  simp only [Nm.p, ldM0, xIxS h0 (step_lt h1), ldW h h0 (step_lt h1), ruS, Nat.reduceAdd, reduceIte, Int.reduceLT, Int.reduceLE, Int.reduceEq, Int.reduceNeg, Int.reduceAdd, Int.reduceSub, hw]
  by_cases hc : A.w a = o
  · have := c_set (K := fun v σ => K (.tuple #[.bool true, .int .i64 0]) σ) (σ := σ) (v := v) h h0 (step_lt (b := a) h1)
    simp only [Nm.p] at this
    simp only [hc, decide_true, if_false, if_true, not_true_eq_false, ne_eq, this, Ar.cas, ruS, Nat.reduceAdd, reduceIte, Int.reduceLT, Int.reduceLE, Int.reduceEq, Int.reduceNeg, Int.reduceAdd, Int.reduceSub]
  · simp only [hc, decide_false, if_true, not_false_eq_true, ne_eq, Ar.cas, if_false, ruS, Nat.reduceAdd, reduceIte, Int.reduceLT, Int.reduceLE, Int.reduceEq, Int.reduceNeg, Int.reduceAdd, Int.reduceSub]
theorem c_mAdd (h : N.ok) {a d : Int} (h0 : 0 ≤ a) (h1 : a < A.n) : s_mem_Mem_Add [N.p, .int .i64 a, .int .u64 d] K (putA N A σ) = K (.tuple #[.int .u64 (A.w a), .int .i64 0]) (putA N (A.add a d) σ) := by
  simp only [s_mem_Mem_Add, w_mem_Mem_Add, ruS, Nat.reduceAdd, reduceIte, Int.reduceLT, Int.reduceLE, Int.reduceEq, Int.reduceNeg, Int.reduceAdd, Int.reduceSub, c_step h0 h1]
  have hw : (A.step a).w a = A.w a := rfl
  simp only [Nm.p, ldM0, xIxS h0 (step_lt h1), ldW h h0 (step_lt h1), ruS, Nat.reduceAdd, reduceIte, Int.reduceLT, Int.reduceLE, Int.reduceEq, Int.reduceNeg, Int.reduceAdd, Int.reduceSub, hw]
  have := c_set (K := fun q σ => K (.tuple #[.int .u64 (A.w a), .int .i64 0]) σ) (σ := σ) (v := IntKind.u64.wrap (A.w a + d)) h h0 (step_lt (b := a) h1)
  simp only [Nm.p] at this
  simp only [this, ruS, Nat.reduceAdd, reduceIte, Int.reduceLT, Int.reduceLE, Int.reduceEq, Int.reduceNeg, Int.reduceAdd, Int.reduceSub]
  rfl
theorem c_mSteps : s_mem_Mem_Steps [N.p] K (putA N A σ) = K (.int .i64 A.s) (putA N A σ) := by
  simp only [s_mem_Mem_Steps, w_mem_Mem_Steps, Nm.p, ldM2, ruS, Nat.reduceAdd, reduceIte, Int.reduceLT, Int.reduceLE, Int.reduceEq, Int.reduceNeg, Int.reduceAdd, Int.reduceSub]
structure Cf where
  T : Int
  S : Int
  C : Int
  W : Int
  G : Int
  P : Int
  R : Int
def Cf.l (c : Cf) : List Value := [.int .i64 c.T, .int .i64 c.S, .int .i64 c.C, .int .i64 c.W, .int .i64 c.G, .int .i64 c.P, .int .i64 c.R]
def Cf.v (c : Cf) : Value := .agg #[.int .i64 c.T, .int .i64 c.S, .int .i64 c.C, .int .i64 c.W, .int .i64 c.G, .int .i64 c.P, .int .i64 c.R]
def Nm.env (N : Nm) (c : Cf) (who : Int) : Value := .agg #[.int .i64 c.T, .int .i64 c.S, .int .i64 c.C, .int .i64 c.W, .int .i64 c.G, .int .i64 c.P, .int .i64 c.R, N.p, .int .i64 who]
variable {C : Cf} {who : Int}
theorem by_lt {a : Int} (h : a < A.n) : a < (A.by who).n := h
theorem c_Load (h : N.ok) {a : Int} (h0 : 0 ≤ a) (h1 : a < A.n) : s_layout_Env_Load [N.env C who, .int .i64 a] K (putA N A σ) = K (.int .u64 (A.w a)) (putA N ((A.by who).load a) σ) := by
  simp only [s_layout_Env_Load, w_layout_Env_Load, Nm.env, ruS, ruL, ruX, Nat.reduceAdd, reduceIte, Int.reduceLT, Int.reduceLE, Int.reduceEq, Int.reduceNeg, Int.reduceAdd, Int.reduceSub, Nat.reduceLeDiff, c_By, c_mLoad h h0 (by_lt h1)]
  rfl
theorem c_Store (h : N.ok) {a v : Int} (h0 : 0 ≤ a) (h1 : a < A.n) : s_layout_Env_Store [N.env C who, .int .i64 a, .int .u64 v] K (putA N A σ) = K (.tuple #[]) (putA N ((A.by who).store a v) σ) := by
  simp only [s_layout_Env_Store, w_layout_Env_Store, Nm.env, ruS, ruL, ruX, Nat.reduceAdd, reduceIte, Int.reduceLT, Int.reduceLE, Int.reduceEq, Int.reduceNeg, Int.reduceAdd, Int.reduceSub, Nat.reduceLeDiff, c_By, c_mStore h h0 (by_lt h1)]
theorem c_Cas (h : N.ok) {a o v : Int} (h0 : 0 ≤ a) (h1 : a < A.n) : s_layout_Env_Cas [N.env C who, .int .i64 a, .int .u64 o, .int .u64 v] K (putA N A σ) = K (.bool (decide (A.w a = o))) (putA N ((A.by who).cas a o v) σ) := by
  simp only [s_layout_Env_Cas, w_layout_Env_Cas, Nm.env, ruS, ruL, ruX, Nat.reduceAdd, reduceIte, Int.reduceLT, Int.reduceLE, Int.reduceEq, Int.reduceNeg, Int.reduceAdd, Int.reduceSub, Nat.reduceLeDiff, c_By, c_mCas h h0 (by_lt h1)]
  rfl
theorem c_Add (h : N.ok) {a d : Int} (h0 : 0 ≤ a) (h1 : a < A.n) : s_layout_Env_Add [N.env C who, .int .i64 a, .int .i64 d] K (putA N A σ) = K (.tuple #[]) (putA N ((A.by who).add a (IntKind.u64.wrap d)) σ) := by
  simp only [s_layout_Env_Add, w_layout_Env_Add, Nm.env, ruS, ruL, ruX, Nat.reduceAdd, reduceIte, Int.reduceLT, Int.reduceLE, Int.reduceEq, Int.reduceNeg, Int.reduceAdd, Int.reduceSub, Nat.reduceLeDiff, c_By, c_mAdd h h0 (by_lt h1)]
theorem c_Now : s_layout_Env_Now [N.env C who] K (putA N A σ) = K (.int .i64 A.s) (putA N A σ) := by
  simp only [s_layout_Env_Now, w_layout_Env_Now, Nm.env, ruS, ruL, ruX, Nat.reduceAdd, reduceIte, Int.reduceLT, Int.reduceLE, Int.reduceEq, Int.reduceNeg, Int.reduceAdd, Int.reduceSub, Nat.reduceLeDiff, c_mSteps]
theorem xAnd63 {K : Value → Prop} {Q : EqK} {k : Nat} {w : Int} (h0 : 0 ≤ w) (h1 : w < 18446744073709551616) (hk : k ≤ 63) : xF (fBin .and Q) [.int .u64 w, .int .u64 (2 ^ k - 1)] K = K (.int .u64 (w % 2 ^ k)) := by
  obtain ⟨n, rfl⟩ := Int.eq_ofNat_of_zero_le h0
  have e : ((2 : Int) ^ k - 1) = ((2 ^ k - 1 : Nat) : Int) := by
    have : 0 < 2 ^ k := Nat.two_pow_pos k
    push_cast [Nat.one_le_two_pow]
    rfl
  have hb : 2 ^ k < 2 ^ 64 := Nat.pow_lt_pow_right (by decide) (by omega)
  have hn : n < 2 ^ 64 := by omega
  have q : (BitVec.ofInt 64 (n : Int) &&& BitVec.ofInt 64 ((2 ^ k - 1 : Nat) : Int)).toNat = n % 2 ^ k := by
    rw [BitVec.toNat_and, BitVec.toNat_ofInt, BitVec.toNat_ofInt]
    have h3 : ((n : Int) % ((2 ^ 64 : Nat) : Int)).toNat = n := by omega
    have h4 : (((2 ^ k - 1 : Nat) : Int) % ((2 ^ 64 : Nat) : Int)).toNat = 2 ^ k - 1 := by omega
    rw [h3, h4, Nat.and_two_pow_sub_one_eq_mod]
  show xF (fBin .and Q) _ _ = _
  simp only [xF, fBin, isSh, binI, Bool.false_eq_true, if_false, if_true]
  show K (.int .u64 (IntKind.u64.wrap ((BitVec.ofInt 64 (n : Int) &&& BitVec.ofInt 64 (2 ^ k - 1)).toNat : Int))) = _
  rw [e, q, IntWalk.u64_in _ (by have := Nat.mod_lt n (Nat.two_pow_pos k); omega)]
  push_cast
  rfl
theorem and2 {K : Value → Prop} {Q : EqK} {w : Int} (h0 : 0 ≤ w) (h1 : w < 18446744073709551616) : xF (fBin .and Q) [.int .u64 w, .int .u64 3] K = K (.int .u64 (w % 4)) := by
  simpa using xAnd63 (K := K) (Q := Q) (k := 2) h0 h1 (by decide)
theorem and3 {K : Value → Prop} {Q : EqK} {w : Int} (h0 : 0 ≤ w) (h1 : w < 18446744073709551616) : xF (fBin .and Q) [.int .u64 w, .int .u64 7] K = K (.int .u64 (w % 8)) := by
  simpa using xAnd63 (K := K) (Q := Q) (k := 3) h0 h1 (by decide)
theorem and6 {K : Value → Prop} {Q : EqK} {w : Int} (h0 : 0 ≤ w) (h1 : w < 18446744073709551616) : xF (fBin .and Q) [.int .u64 w, .int .u64 63] K = K (.int .u64 (w % 64)) := by
  simpa using xAnd63 (K := K) (Q := Q) (k := 6) h0 h1 (by decide)
theorem and16 {K : Value → Prop} {Q : EqK} {w : Int} (h0 : 0 ≤ w) (h1 : w < 18446744073709551616) : xF (fBin .and Q) [.int .u64 w, .int .u64 65535] K = K (.int .u64 (w % 65536)) := by
  simpa using xAnd63 (K := K) (Q := Q) (k := 16) h0 h1 (by decide)
theorem and17 {K : Value → Prop} {Q : EqK} {w : Int} (h0 : 0 ≤ w) (h1 : w < 18446744073709551616) : xF (fBin .and Q) [.int .u64 w, .int .u64 131071] K = K (.int .u64 (w % 131072)) := by
  simpa using xAnd63 (K := K) (Q := Q) (k := 17) h0 h1 (by decide)
theorem and20 {K : Value → Prop} {Q : EqK} {w : Int} (h0 : 0 ≤ w) (h1 : w < 18446744073709551616) : xF (fBin .and Q) [.int .u64 w, .int .u64 1048575] K = K (.int .u64 (w % 1048576)) := by
  simpa using xAnd63 (K := K) (Q := Q) (k := 20) h0 h1 (by decide)
theorem and22 {K : Value → Prop} {Q : EqK} {w : Int} (h0 : 0 ≤ w) (h1 : w < 18446744073709551616) : xF (fBin .and Q) [.int .u64 w, .int .u64 4194303] K = K (.int .u64 (w % 4194304)) := by
  simpa using xAnd63 (K := K) (Q := Q) (k := 22) h0 h1 (by decide)
theorem and36 {K : Value → Prop} {Q : EqK} {w : Int} (h0 : 0 ≤ w) (h1 : w < 18446744073709551616) : xF (fBin .and Q) [.int .u64 w, .int .u64 68719476735] K = K (.int .u64 (w % 68719476736)) := by
  simpa using xAnd63 (K := K) (Q := Q) (k := 36) h0 h1 (by decide)
theorem and40 {K : Value → Prop} {Q : EqK} {w : Int} (h0 : 0 ≤ w) (h1 : w < 18446744073709551616) : xF (fBin .and Q) [.int .u64 w, .int .u64 1099511627775] K = K (.int .u64 (w % 1099511627776)) := by
  simpa using xAnd63 (K := K) (Q := Q) (k := 40) h0 h1 (by decide)
theorem and1 {K : Value → Prop} {Q : EqK} {w : Int} (h0 : 0 ≤ w) (h1 : w < 18446744073709551616) : xF (fBin .and Q) [.int .u64 w, .int .u64 1] K = K (.int .u64 (w % 2)) := by
  simpa using xAnd63 (K := K) (Q := Q) (k := 1) h0 h1 (by decide)
theorem xShrG {K : Value → Prop} {Q : EqK} {k' : IntKind} {s : Nat} {w : Int} (h0 : 0 ≤ w) (hs : s ≤ 64) : xF (fBin .shr Q) [.int .u64 w, .int k' (s : Int)] K = K (.int .u64 (w / 2 ^ s)) := by
  have h : ¬ ((s : Int) < 0) := by omega
  have hm : min s IntKind.u64.bits = s := Nat.min_eq_left hs
  simp only [xF, fBin, isSh, shI, if_true, if_neg h, Int.toNat_natCast, hm]
  rw [Int.fdiv_eq_ediv_of_nonneg _ (by exact Int.le_of_lt (Int.pow_pos (by decide)))]
theorem xShlG {K : Value → Prop} {Q : EqK} {k' : IntKind} {s : Nat} {w : Int} (h0 : 0 ≤ w) (h1 : w * 2 ^ s < 18446744073709551616) (hs : s ≤ 64) : xF (fBin .shl Q) [.int .u64 w, .int k' (s : Int)] K = K (.int .u64 (w * 2 ^ s)) := by
  have h : ¬ ((s : Int) < 0) := by omega
  have hm : min s IntKind.u64.bits = s := Nat.min_eq_left hs
  simp only [xF, fBin, isSh, shI, if_true, if_neg h, Int.toNat_natCast, hm]
  rw [IntWalk.u64_in _ ⟨Int.mul_nonneg h0 (Int.le_of_lt (Int.pow_pos (by decide))), by omega⟩]
theorem xOrG {K : Value → Prop} {Q : EqK} {s : Nat} {a c : Int} (h0 : 0 ≤ a) (h1 : a < 2 ^ s) (h2 : 0 ≤ c) (h3 : a + c * 2 ^ s < 18446744073709551616) :
    xF (fBin .or Q) [.int .u64 a, .int .u64 (c * 2 ^ s)] K = K (.int .u64 (a + c * 2 ^ s)) := by
  obtain ⟨m, rfl⟩ := Int.eq_ofNat_of_zero_le h0
  obtain ⟨n, rfl⟩ := Int.eq_ofNat_of_zero_le h2
  have e : (n : Int) * 2 ^ s = ((n * 2 ^ s : Nat) : Int) := by push_cast; rfl
  rw [e] at h3 ⊢
  have hm : m < 2 ^ s := by exact_mod_cast h1
  have q : (BitVec.ofInt 64 (m : Int) ||| BitVec.ofInt 64 ((n * 2 ^ s : Nat) : Int)).toNat = m + n * 2 ^ s := by
    rw [BitVec.toNat_or, BitVec.toNat_ofInt, BitVec.toNat_ofInt]
    have h4 : ((m : Int) % ((2 ^ 64 : Nat) : Int)).toNat = m := by omega
    have h5 : (((n * 2 ^ s : Nat) : Int) % ((2 ^ 64 : Nat) : Int)).toNat = n * 2 ^ s := by omega
    rw [h4, h5, Nat.mul_comm n, Nat.or_comm, ← Nat.two_pow_add_eq_or_of_lt hm, Nat.add_comm]
  simp only [xF, fBin, isSh, binI, Bool.false_eq_true, if_false, if_true]
  show K (.int .u64 (IntKind.u64.wrap ((BitVec.ofInt 64 (m : Int) ||| BitVec.ofInt 64 ((n * 2 ^ s : Nat) : Int)).toNat : Int))) = _
  rw [q, IntWalk.u64_in _ (by omega)]
  push_cast
  rfl
theorem shr2 {K : Value → Prop} {Q : EqK} {k' : IntKind} {w : Int} (h0 : 0 ≤ w) : xF (fBin .shr Q) [.int .u64 w, .int k' 2] K = K (.int .u64 (w / 4)) := by
  simpa using xShrG (K := K) (Q := Q) (k' := k') (s := 2) h0 (by decide)
theorem shl2 {K : Value → Prop} {Q : EqK} {k' : IntKind} {w : Int} (h0 : 0 ≤ w) (h1 : w * 4 < 18446744073709551616) : xF (fBin .shl Q) [.int .u64 w, .int k' 2] K = K (.int .u64 (w * 4)) := by
  simpa using xShlG (K := K) (Q := Q) (k' := k') (s := 2) h0 (by simpa using h1) (by decide)
theorem or2 {K : Value → Prop} {Q : EqK} {a c : Int} (h0 : 0 ≤ a) (h1 : a < 4) (h2 : 0 ≤ c) (h3 : a + c * 4 < 18446744073709551616) : xF (fBin .or Q) [.int .u64 a, .int .u64 (c * 4)] K = K (.int .u64 (a + c * 4)) := by
  simpa using xOrG (K := K) (Q := Q) (s := 2) h0 (by simpa using h1) h2 (by simpa using h3)
theorem shr3 {K : Value → Prop} {Q : EqK} {k' : IntKind} {w : Int} (h0 : 0 ≤ w) : xF (fBin .shr Q) [.int .u64 w, .int k' 3] K = K (.int .u64 (w / 8)) := by
  simpa using xShrG (K := K) (Q := Q) (k' := k') (s := 3) h0 (by decide)
theorem shl3 {K : Value → Prop} {Q : EqK} {k' : IntKind} {w : Int} (h0 : 0 ≤ w) (h1 : w * 8 < 18446744073709551616) : xF (fBin .shl Q) [.int .u64 w, .int k' 3] K = K (.int .u64 (w * 8)) := by
  simpa using xShlG (K := K) (Q := Q) (k' := k') (s := 3) h0 (by simpa using h1) (by decide)
theorem or3 {K : Value → Prop} {Q : EqK} {a c : Int} (h0 : 0 ≤ a) (h1 : a < 8) (h2 : 0 ≤ c) (h3 : a + c * 8 < 18446744073709551616) : xF (fBin .or Q) [.int .u64 a, .int .u64 (c * 8)] K = K (.int .u64 (a + c * 8)) := by
  simpa using xOrG (K := K) (Q := Q) (s := 3) h0 (by simpa using h1) h2 (by simpa using h3)
theorem shr8 {K : Value → Prop} {Q : EqK} {k' : IntKind} {w : Int} (h0 : 0 ≤ w) : xF (fBin .shr Q) [.int .u64 w, .int k' 8] K = K (.int .u64 (w / 256)) := by
  simpa using xShrG (K := K) (Q := Q) (k' := k') (s := 8) h0 (by decide)
theorem shl8 {K : Value → Prop} {Q : EqK} {k' : IntKind} {w : Int} (h0 : 0 ≤ w) (h1 : w * 256 < 18446744073709551616) : xF (fBin .shl Q) [.int .u64 w, .int k' 8] K = K (.int .u64 (w * 256)) := by
  simpa using xShlG (K := K) (Q := Q) (k' := k') (s := 8) h0 (by simpa using h1) (by decide)
theorem or8 {K : Value → Prop} {Q : EqK} {a c : Int} (h0 : 0 ≤ a) (h1 : a < 256) (h2 : 0 ≤ c) (h3 : a + c * 256 < 18446744073709551616) : xF (fBin .or Q) [.int .u64 a, .int .u64 (c * 256)] K = K (.int .u64 (a + c * 256)) := by
  simpa using xOrG (K := K) (Q := Q) (s := 8) h0 (by simpa using h1) h2 (by simpa using h3)
theorem shr16 {K : Value → Prop} {Q : EqK} {k' : IntKind} {w : Int} (h0 : 0 ≤ w) : xF (fBin .shr Q) [.int .u64 w, .int k' 16] K = K (.int .u64 (w / 65536)) := by
  simpa using xShrG (K := K) (Q := Q) (k' := k') (s := 16) h0 (by decide)
theorem shl16 {K : Value → Prop} {Q : EqK} {k' : IntKind} {w : Int} (h0 : 0 ≤ w) (h1 : w * 65536 < 18446744073709551616) : xF (fBin .shl Q) [.int .u64 w, .int k' 16] K = K (.int .u64 (w * 65536)) := by
  simpa using xShlG (K := K) (Q := Q) (k' := k') (s := 16) h0 (by simpa using h1) (by decide)
theorem or16 {K : Value → Prop} {Q : EqK} {a c : Int} (h0 : 0 ≤ a) (h1 : a < 65536) (h2 : 0 ≤ c) (h3 : a + c * 65536 < 18446744073709551616) : xF (fBin .or Q) [.int .u64 a, .int .u64 (c * 65536)] K = K (.int .u64 (a + c * 65536)) := by
  simpa using xOrG (K := K) (Q := Q) (s := 16) h0 (by simpa using h1) h2 (by simpa using h3)
theorem shr17 {K : Value → Prop} {Q : EqK} {k' : IntKind} {w : Int} (h0 : 0 ≤ w) : xF (fBin .shr Q) [.int .u64 w, .int k' 17] K = K (.int .u64 (w / 131072)) := by
  simpa using xShrG (K := K) (Q := Q) (k' := k') (s := 17) h0 (by decide)
theorem shl17 {K : Value → Prop} {Q : EqK} {k' : IntKind} {w : Int} (h0 : 0 ≤ w) (h1 : w * 131072 < 18446744073709551616) : xF (fBin .shl Q) [.int .u64 w, .int k' 17] K = K (.int .u64 (w * 131072)) := by
  simpa using xShlG (K := K) (Q := Q) (k' := k') (s := 17) h0 (by simpa using h1) (by decide)
theorem or17 {K : Value → Prop} {Q : EqK} {a c : Int} (h0 : 0 ≤ a) (h1 : a < 131072) (h2 : 0 ≤ c) (h3 : a + c * 131072 < 18446744073709551616) : xF (fBin .or Q) [.int .u64 a, .int .u64 (c * 131072)] K = K (.int .u64 (a + c * 131072)) := by
  simpa using xOrG (K := K) (Q := Q) (s := 17) h0 (by simpa using h1) h2 (by simpa using h3)
theorem shr18 {K : Value → Prop} {Q : EqK} {k' : IntKind} {w : Int} (h0 : 0 ≤ w) : xF (fBin .shr Q) [.int .u64 w, .int k' 18] K = K (.int .u64 (w / 262144)) := by
  simpa using xShrG (K := K) (Q := Q) (k' := k') (s := 18) h0 (by decide)
theorem shl18 {K : Value → Prop} {Q : EqK} {k' : IntKind} {w : Int} (h0 : 0 ≤ w) (h1 : w * 262144 < 18446744073709551616) : xF (fBin .shl Q) [.int .u64 w, .int k' 18] K = K (.int .u64 (w * 262144)) := by
  simpa using xShlG (K := K) (Q := Q) (k' := k') (s := 18) h0 (by simpa using h1) (by decide)
theorem or18 {K : Value → Prop} {Q : EqK} {a c : Int} (h0 : 0 ≤ a) (h1 : a < 262144) (h2 : 0 ≤ c) (h3 : a + c * 262144 < 18446744073709551616) : xF (fBin .or Q) [.int .u64 a, .int .u64 (c * 262144)] K = K (.int .u64 (a + c * 262144)) := by
  simpa using xOrG (K := K) (Q := Q) (s := 18) h0 (by simpa using h1) h2 (by simpa using h3)
theorem shr23 {K : Value → Prop} {Q : EqK} {k' : IntKind} {w : Int} (h0 : 0 ≤ w) : xF (fBin .shr Q) [.int .u64 w, .int k' 23] K = K (.int .u64 (w / 8388608)) := by
  simpa using xShrG (K := K) (Q := Q) (k' := k') (s := 23) h0 (by decide)
theorem shl23 {K : Value → Prop} {Q : EqK} {k' : IntKind} {w : Int} (h0 : 0 ≤ w) (h1 : w * 8388608 < 18446744073709551616) : xF (fBin .shl Q) [.int .u64 w, .int k' 23] K = K (.int .u64 (w * 8388608)) := by
  simpa using xShlG (K := K) (Q := Q) (k' := k') (s := 23) h0 (by simpa using h1) (by decide)
theorem or23 {K : Value → Prop} {Q : EqK} {a c : Int} (h0 : 0 ≤ a) (h1 : a < 8388608) (h2 : 0 ≤ c) (h3 : a + c * 8388608 < 18446744073709551616) : xF (fBin .or Q) [.int .u64 a, .int .u64 (c * 8388608)] K = K (.int .u64 (a + c * 8388608)) := by
  simpa using xOrG (K := K) (Q := Q) (s := 23) h0 (by simpa using h1) h2 (by simpa using h3)
theorem shr28 {K : Value → Prop} {Q : EqK} {k' : IntKind} {w : Int} (h0 : 0 ≤ w) : xF (fBin .shr Q) [.int .u64 w, .int k' 28] K = K (.int .u64 (w / 268435456)) := by
  simpa using xShrG (K := K) (Q := Q) (k' := k') (s := 28) h0 (by decide)
theorem shl28 {K : Value → Prop} {Q : EqK} {k' : IntKind} {w : Int} (h0 : 0 ≤ w) (h1 : w * 268435456 < 18446744073709551616) : xF (fBin .shl Q) [.int .u64 w, .int k' 28] K = K (.int .u64 (w * 268435456)) := by
  simpa using xShlG (K := K) (Q := Q) (k' := k') (s := 28) h0 (by simpa using h1) (by decide)
theorem or28 {K : Value → Prop} {Q : EqK} {a c : Int} (h0 : 0 ≤ a) (h1 : a < 268435456) (h2 : 0 ≤ c) (h3 : a + c * 268435456 < 18446744073709551616) : xF (fBin .or Q) [.int .u64 a, .int .u64 (c * 268435456)] K = K (.int .u64 (a + c * 268435456)) := by
  simpa using xOrG (K := K) (Q := Q) (s := 28) h0 (by simpa using h1) h2 (by simpa using h3)
theorem shr32 {K : Value → Prop} {Q : EqK} {k' : IntKind} {w : Int} (h0 : 0 ≤ w) : xF (fBin .shr Q) [.int .u64 w, .int k' 32] K = K (.int .u64 (w / 4294967296)) := by
  simpa using xShrG (K := K) (Q := Q) (k' := k') (s := 32) h0 (by decide)
theorem shr34 {K : Value → Prop} {Q : EqK} {k' : IntKind} {w : Int} (h0 : 0 ≤ w) : xF (fBin .shr Q) [.int .u64 w, .int k' 34] K = K (.int .u64 (w / 17179869184)) := by
  simpa using xShrG (K := K) (Q := Q) (k' := k') (s := 34) h0 (by decide)
theorem shl34 {K : Value → Prop} {Q : EqK} {k' : IntKind} {w : Int} (h0 : 0 ≤ w) (h1 : w * 17179869184 < 18446744073709551616) : xF (fBin .shl Q) [.int .u64 w, .int k' 34] K = K (.int .u64 (w * 17179869184)) := by
  simpa using xShlG (K := K) (Q := Q) (k' := k') (s := 34) h0 (by simpa using h1) (by decide)
theorem or34 {K : Value → Prop} {Q : EqK} {a c : Int} (h0 : 0 ≤ a) (h1 : a < 17179869184) (h2 : 0 ≤ c) (h3 : a + c * 17179869184 < 18446744073709551616) : xF (fBin .or Q) [.int .u64 a, .int .u64 (c * 17179869184)] K = K (.int .u64 (a + c * 17179869184)) := by
  simpa using xOrG (K := K) (Q := Q) (s := 34) h0 (by simpa using h1) h2 (by simpa using h3)
theorem shr39 {K : Value → Prop} {Q : EqK} {k' : IntKind} {w : Int} (h0 : 0 ≤ w) : xF (fBin .shr Q) [.int .u64 w, .int k' 39] K = K (.int .u64 (w / 549755813888)) := by
  simpa using xShrG (K := K) (Q := Q) (k' := k') (s := 39) h0 (by decide)
theorem shl39 {K : Value → Prop} {Q : EqK} {k' : IntKind} {w : Int} (h0 : 0 ≤ w) (h1 : w * 549755813888 < 18446744073709551616) : xF (fBin .shl Q) [.int .u64 w, .int k' 39] K = K (.int .u64 (w * 549755813888)) := by
  simpa using xShlG (K := K) (Q := Q) (k' := k') (s := 39) h0 (by simpa using h1) (by decide)
theorem or39 {K : Value → Prop} {Q : EqK} {a c : Int} (h0 : 0 ≤ a) (h1 : a < 549755813888) (h2 : 0 ≤ c) (h3 : a + c * 549755813888 < 18446744073709551616) : xF (fBin .or Q) [.int .u64 a, .int .u64 (c * 549755813888)] K = K (.int .u64 (a + c * 549755813888)) := by
  simpa using xOrG (K := K) (Q := Q) (s := 39) h0 (by simpa using h1) h2 (by simpa using h3)
theorem shr40 {K : Value → Prop} {Q : EqK} {k' : IntKind} {w : Int} (h0 : 0 ≤ w) : xF (fBin .shr Q) [.int .u64 w, .int k' 40] K = K (.int .u64 (w / 1099511627776)) := by
  simpa using xShrG (K := K) (Q := Q) (k' := k') (s := 40) h0 (by decide)
theorem shl40 {K : Value → Prop} {Q : EqK} {k' : IntKind} {w : Int} (h0 : 0 ≤ w) (h1 : w * 1099511627776 < 18446744073709551616) : xF (fBin .shl Q) [.int .u64 w, .int k' 40] K = K (.int .u64 (w * 1099511627776)) := by
  simpa using xShlG (K := K) (Q := Q) (k' := k') (s := 40) h0 (by simpa using h1) (by decide)
theorem or40 {K : Value → Prop} {Q : EqK} {a c : Int} (h0 : 0 ≤ a) (h1 : a < 1099511627776) (h2 : 0 ≤ c) (h3 : a + c * 1099511627776 < 18446744073709551616) : xF (fBin .or Q) [.int .u64 a, .int .u64 (c * 1099511627776)] K = K (.int .u64 (a + c * 1099511627776)) := by
  simpa using xOrG (K := K) (Q := Q) (s := 40) h0 (by simpa using h1) h2 (by simpa using h3)
theorem shr50 {K : Value → Prop} {Q : EqK} {k' : IntKind} {w : Int} (h0 : 0 ≤ w) : xF (fBin .shr Q) [.int .u64 w, .int k' 50] K = K (.int .u64 (w / 1125899906842624)) := by
  simpa using xShrG (K := K) (Q := Q) (k' := k') (s := 50) h0 (by decide)
theorem or50 {K : Value → Prop} {Q : EqK} {a c : Int} (h0 : 0 ≤ a) (h1 : a < 1125899906842624) (h2 : 0 ≤ c) (h3 : a + c * 1125899906842624 < 18446744073709551616) : xF (fBin .or Q) [.int .u64 a, .int .u64 (c * 1125899906842624)] K = K (.int .u64 (a + c * 1125899906842624)) := by
  simpa using xOrG (K := K) (Q := Q) (s := 50) h0 (by simpa using h1) h2 (by simpa using h3)
theorem shr63 {K : Value → Prop} {Q : EqK} {k' : IntKind} {w : Int} (h0 : 0 ≤ w) : xF (fBin .shr Q) [.int .u64 w, .int k' 63] K = K (.int .u64 (w / 9223372036854775808)) := by
  simpa using xShrG (K := K) (Q := Q) (k' := k') (s := 63) h0 (by decide)
def cl (n m : Int) : Int := min (max n 0) m
theorem cl_nn {n m : Int} (h : 0 ≤ m) : 0 ≤ cl n m := by unfold cl; omega
theorem cl_le {n m : Int} : cl n m ≤ m := by unfold cl; omega
theorem cl_in {n m : Int} (h0 : 0 ≤ n) (h1 : n ≤ m) : cl n m = n := by unfold cl; omega
theorem c_fit {n m : Int} (h0 : 0 ≤ m) (h1 : m < 18446744073709551616) : s_word_fit [.int .i64 n, .int .i64 m] K σ = K (.int .u64 (cl n m)) σ := by
  simp only [s_word_fit, w_word_fit, ruS, Nat.reduceAdd, reduceIte, Int.reduceLT, Int.reduceLE, Int.reduceEq, Int.reduceNeg, Int.reduceAdd, Int.reduceSub]
  rw [IntWalk.u64_in _ (by omega)]; rfl
def putTop (s c : Int) : Int := cl (min s 65535 + 1) 65536 + cl c 68719476735 * 131072
theorem putTop_in (s c : Int) : 0 ≤ putTop s c ∧ putTop s c < 18446744073709551616 := by unfold putTop cl; omega
theorem c_PutTop {s c : Int} (h : -9223372036854775808 ≤ s) : s_word_PutTop [.int .i64 s, .int .i64 c] K σ = K (.int .u64 (putTop s c)) σ := by
  simp only [s_word_PutTop, w_word_PutTop, ruS, Nat.reduceAdd, reduceIte, Int.reduceLT, Int.reduceLE, Int.reduceEq, Int.reduceNeg, Int.reduceAdd, Int.reduceSub]
  have h1 := @cl_le (min s 65535 + 1) 65536
  have h2 := @cl_nn (min s 65535 + 1) 65536 (by decide)
  have h3 := @cl_le c 68719476735
  have h4 := @cl_nn c 68719476735 (by decide)
  rw [IntWalk.i64_in _ (by omega), c_fit (by decide) (by decide), c_fit (by decide) (by decide), shl17 h4 (by omega), or17 h2 (by omega) h4 (by omega)]
  rfl
def topS (w : Int) : Int := w % 131072 - 1
def topN (w : Int) : Int := w / 131072 % 68719476736
theorem c_Top {w : Int} (h0 : 0 ≤ w) (h1 : w < 18446744073709551616) : s_word_Top [.int .u64 w] K σ = K (.tuple #[.int .i64 (topS w), .int .i64 (topN w)]) σ := by
  simp only [s_word_Top, w_word_Top, ruS, Nat.reduceAdd, reduceIte, Int.reduceLT, Int.reduceLE, Int.reduceEq, Int.reduceNeg, Int.reduceAdd, Int.reduceSub]
  rw [and17 h0 h1]
  simp only [ruS, Nat.reduceAdd, reduceIte, Int.reduceLT, Int.reduceLE, Int.reduceEq, Int.reduceNeg, Int.reduceAdd, Int.reduceSub]
  rw [shr17 h0, and36 (by omega) (by omega)]
  simp only [ruS, Nat.reduceAdd, reduceIte, Int.reduceLT, Int.reduceLE, Int.reduceEq, Int.reduceNeg, Int.reduceAdd, Int.reduceSub]
  rw [IntWalk.i64_in (w % 131072) (by omega), IntWalk.i64_in (w % 131072 - 1) (by omega), IntWalk.i64_in (w / 131072 % 68719476736) (by omega)]
  rfl
def putSlot (st ad ge ve : Int) : Int := cl st 7 + cl ad 1048575 * 8 + cl ge 65535 * 8388608 + cl ve 4194303 * 549755813888
theorem putSlot_in (st ad ge ve : Int) : 0 ≤ putSlot st ad ge ve ∧ putSlot st ad ge ve < 18446744073709551616 := by unfold putSlot cl; omega
theorem c_PutSlot {st ad ge ve : Int} : s_word_PutSlot [.agg #[.int .i64 st, .int .i64 ad, .int .i64 ge, .int .i64 ve]] K σ = K (.int .u64 (putSlot st ad ge ve)) σ := by
  simp only [s_word_PutSlot, w_word_PutSlot, ruS, ruL, ruX, Nat.reduceAdd, reduceIte, Int.reduceLT, Int.reduceLE, Int.reduceEq, Int.reduceNeg, Int.reduceAdd, Int.reduceSub, Nat.reduceLeDiff]
  have h1 := @cl_le st 7
  have h2 := @cl_nn st 7 (by decide)
  have h3 := @cl_le ad 1048575
  have h4 := @cl_nn ad 1048575 (by decide)
  have h5 := @cl_le ge 65535
  have h6 := @cl_nn ge 65535 (by decide)
  have h7 := @cl_le ve 4194303
  have h8 := @cl_nn ve 4194303 (by decide)
  rw [c_fit (by decide) (by decide), c_fit (by decide) (by decide), shl3 h4 (by omega), or3 h2 (by omega) h4 (by omega), c_fit (by decide) (by decide), shl23 h6 (by omega), or23 (by omega) (by omega) h6 (by omega),
    c_fit (by decide) (by decide), shl39 h8 (by omega), or39 (by omega) (by omega) h8 (by omega)]
  rfl
structure isA (N : Nm) (A : Ar) (σ : Mem) : Prop where
  m : σ.get N.m = some ⟨A.mc N, true⟩
  w : σ.get N.w = some A.wb
  t : σ.get N.t = some A.tb
def Ext (σ τ : Mem) : Prop := ∀ i b, σ.get i = some b → τ.get i = some b
def Keep (L : List Nat) (σ τ : Mem) : Prop := ∀ i b, σ.get i = some b → i ∉ L → τ.get i = some b
theorem Ext.refl : Ext σ σ := fun _ _ h => h
theorem Ext.trans {τ υ : Mem} (h : Ext σ τ) (k : Ext τ υ) : Ext σ υ := fun i b q => k i b (h i b q)
theorem Keep.refl {L : List Nat} : Keep L σ σ := fun _ _ h _ => h
theorem Keep.trans {L : List Nat} {τ υ : Mem} (h : Keep L σ τ) (k : Keep L τ υ) : Keep L σ υ := fun i b q n => k i b (h i b q n) n
theorem Keep.mono {L L' : List Nat} {τ : Mem} (h : Keep L σ τ) (hl : ∀ i ∈ L, i ∈ L') : Keep L' σ τ := fun i b q n => h i b q fun hi => n (hl i hi)
theorem Ext.keep {L : List Nat} {τ : Mem} (h : Ext σ τ) : Keep L σ τ := fun i b q _ => h i b q
theorem Ext.fresh {id : Nat} {b : Blk} (h : σ.get id = none) : Ext σ (σ.set id b) := by
  intro i c hi
  rw [Mem.get_set_ne _ _ (by rintro rfl; rw [h] at hi; cases hi)]
  exact hi
theorem isA_put (h : N.ok) : isA N A (putA N A σ) := ⟨putA_m, putA_w h, putA_t h⟩
theorem isA.eq (h : isA N A σ) : σ = putA N A σ := by
  unfold putA
  rw [Mem.set_self h.t, Mem.set_self h.w, Mem.set_self h.m]
theorem isA.ext {τ : Mem} (h : isA N A σ) (k : Ext σ τ) : isA N A τ := ⟨k _ _ h.m, k _ _ h.w, k _ _ h.t⟩
def Nm.l (N : Nm) : List Nat := [N.m, N.w, N.t]
theorem isA.keep {L : List Nat} {τ : Mem} (h : isA N A σ) (k : Keep L σ τ) (hd : N.m ∉ L ∧ N.w ∉ L ∧ N.t ∉ L) : isA N A τ := ⟨k _ _ h.m hd.1, k _ _ h.w hd.2.1, k _ _ h.t hd.2.2⟩
theorem Keep.put : Keep N.l σ (putA N A σ) := by
  intro i b hi hn
  simp only [Nm.l, List.mem_cons, List.not_mem_nil, or_false, not_or] at hn
  rw [putA_ne hn.1 hn.2.1 hn.2.2]; exact hi
theorem isA.fresh (h : isA N A σ) {id : Nat} (hid : σ.get id = none) : id ≠ N.m ∧ id ≠ N.w ∧ id ≠ N.t :=
  ⟨fun e => (by rw [e, h.m] at hid; cases hid), fun e => (by rw [e, h.w] at hid; cases hid), fun e => (by rw [e, h.t] at hid; cases hid)⟩
structure Cf.ok (c : Cf) : Prop where
  T : 1 ≤ c.T ∧ c.T ≤ 8
  S : 1 ≤ c.S ∧ c.S ≤ 65536
  C : 1 ≤ c.C ∧ c.C ≤ 64
  W : 17 ≤ c.W ∧ c.W ≤ 256
  G : 1 ≤ c.G ∧ c.G ≤ 65535
  P : 0 ≤ c.P ∧ c.P ≤ 1000
  R : 1 ≤ c.R ∧ c.R ≤ 16
def Cf.slot (c : Cf) (s : Int) : Int := 6 + c.T + 2 * s
def Cf.chunk (c : Cf) (k : Int) : Int := 6 + c.T + 2 * c.S + 3 * k
def Cf.base (c : Cf) (k : Int) : Int := 6 + c.T + 2 * c.S + 3 * c.C + c.W * k
def Cf.len (c : Cf) : Int := c.base c.C
theorem mulW {c : Cf} (h : c.ok) {k : Int} (h0 : 0 ≤ k) (h1 : k ≤ 1048576) : 0 ≤ c.W * k ∧ c.W * k ≤ 268435456 := by
  have hW := h.W
  refine ⟨Int.mul_nonneg (by omega) h0, ?_⟩
  calc c.W * k ≤ 256 * k := Int.mul_le_mul_of_nonneg_right hW.2 h0
    _ ≤ 268435456 := by omega
theorem c_lTop : s_layout_Top [] K σ = K (.int .i64 1) σ := by simp only [s_layout_Top, w_layout_Top, ruS, Nat.reduceAdd, reduceIte, Int.reduceLT, Int.reduceLE, Int.reduceEq, Int.reduceNeg, Int.reduceAdd, Int.reduceSub]
theorem c_Open {k : Int} (h0 : 0 ≤ k) (h1 : k ≤ 65536) : s_layout_Open [.int .i64 k] K σ = K (.int .i64 (2 + k)) σ := by
  simp only [s_layout_Open, w_layout_Open, ruS, Nat.reduceAdd, reduceIte, Int.reduceLT, Int.reduceLE, Int.reduceEq, Int.reduceNeg, Int.reduceAdd, Int.reduceSub]
  rw [IntWalk.i64_in _ (by omega)]
theorem c_Slot (h : C.ok) {s : Int} (h0 : 0 ≤ s) (h1 : s ≤ 65536) : s_layout_Slot [C.v, .int .i64 s] K σ = K (.int .i64 (C.slot s)) σ := by
  have := h.T
  simp only [s_layout_Slot, w_layout_Slot, Cf.v, ruS, ruL, ruX, Nat.reduceAdd, reduceIte, Int.reduceLT, Int.reduceLE, Int.reduceEq, Int.reduceNeg, Int.reduceAdd, Int.reduceSub, Nat.reduceLeDiff]
  rw [IntWalk.i64_in (6 + C.T) (by omega), IntWalk.i64_in (2 * s) (by omega), IntWalk.i64_in _ (by omega)]; rfl
theorem c_Chunk (h : C.ok) {s : Int} (h0 : 0 ≤ s) (h1 : s ≤ 65536) : s_layout_Chunk [C.v, .int .i64 s] K σ = K (.int .i64 (C.chunk s)) σ := by
  have := h.T
  have := h.S
  simp only [s_layout_Chunk, w_layout_Chunk, Cf.v, ruS, ruL, ruX, Nat.reduceAdd, reduceIte, Int.reduceLT, Int.reduceLE, Int.reduceEq, Int.reduceNeg, Int.reduceAdd, Int.reduceSub, Nat.reduceLeDiff]
  rw [IntWalk.i64_in (6 + C.T) (by omega), IntWalk.i64_in (2 * C.S) (by omega), IntWalk.i64_in (3 * s) (by omega), IntWalk.i64_in (6 + C.T + 2 * C.S) (by omega), IntWalk.i64_in _ (by omega)]; rfl
theorem c_Base (h : C.ok) {s : Int} (h0 : 0 ≤ s) (h1 : s ≤ 65536) : s_layout_Base [C.v, .int .i64 s] K σ = K (.int .i64 (C.base s)) σ := by
  have := h.T
  have := h.S
  have := h.C
  have := mulW h h0 (by omega)
  simp only [s_layout_Base, w_layout_Base, Cf.v, ruS, ruL, ruX, Nat.reduceAdd, reduceIte, Int.reduceLT, Int.reduceLE, Int.reduceEq, Int.reduceNeg, Int.reduceAdd, Int.reduceSub, Nat.reduceLeDiff]
  rw [IntWalk.i64_in (6 + C.T) (by omega), IntWalk.i64_in (2 * C.S) (by omega), IntWalk.i64_in (3 * C.C) (by omega), IntWalk.i64_in (6 + C.T + 2 * C.S) (by omega), IntWalk.i64_in (6 + C.T + 2 * C.S + 3 * C.C) (by omega), IntWalk.i64_in (C.W * s) (by omega), IntWalk.i64_in _ (by omega)]; rfl
theorem c_lLen (h : C.ok) : s_layout_Len [C.v] K σ = K (.int .i64 C.len) σ := by
  have := h.C
  have e := fun (K : Value → Mem → Prop) σ => c_Base (K := K) (σ := σ) h (s := C.C) (by omega) (by omega)
  simp only [s_layout_Len, w_layout_Len, Cf.v, ruS, ruL, ruX, Nat.reduceAdd, reduceIte, Int.reduceLT, Int.reduceLE, Int.reduceEq, Int.reduceNeg, Int.reduceAdd, Int.reduceSub, Nat.reduceLeDiff] at e ⊢
  rw [e]; rfl
section
variable {K : Value → Prop}
theorem shl2_0 : xF (fBin .shl .no) [.int .i64 2, .int .i64 0] K = K (.int .i64 2) := nr rfl
theorem shl2_1 : xF (fBin .shl .no) [.int .i64 2, .int .i64 1] K = K (.int .i64 4) := nr rfl
theorem shl2_2 : xF (fBin .shl .no) [.int .i64 2, .int .i64 2] K = K (.int .i64 8) := nr rfl
theorem shl2_3 : xF (fBin .shl .no) [.int .i64 2, .int .i64 3] K = K (.int .i64 16) := nr rfl
end
theorem i64_1 : IntKind.i64.wrap 1 = 1 := nr rfl
theorem i64_2 : IntKind.i64.wrap 2 = 2 := nr rfl
theorem i64_3 : IntKind.i64.wrap 3 = 3 := nr rfl
theorem i64_4 : IntKind.i64.wrap 4 = 4 := nr rfl
theorem i64_5 : IntKind.i64.wrap 5 = 5 := nr rfl
theorem i64_9 : IntKind.i64.wrap 9 = 9 := nr rfl
theorem i64_17 : IntKind.i64.wrap 17 = 17 := nr rfl
def classOf (n : Int) : Int := if n < 1 then -1 else if n ≤ 2 then 0 else if n ≤ 4 then 1 else if n ≤ 8 then 2 else if n ≤ 16 then 3 else -1
theorem c_Class {n : Int} (hk : K (.int .i64 (classOf n)) σ) : s_layout_Class [.int .i64 n] K σ := by
  simp only [s_layout_Class, w_layout_Class, ruS, Nat.reduceAdd, reduceIte, Int.reduceLT, Int.reduceLE, Int.reduceEq, Int.reduceNeg, Int.reduceAdd, Int.reduceSub]
  by_cases h : 1 ≤ n
  · unfold classOf at hk
    rw [if_neg (by omega)] at hk
    refine xLoop_fold ?_
    simp only [w_layout_Class_l3, w_layout_Class_l3b, w_layout_Class_j2, w_layout_Class_j2b, w_layout_Class_j1, w_layout_Class_j1b, ruS, Nat.reduceAdd, reduceIte, Int.reduceLT, Int.reduceLE, Int.reduceEq, Int.reduceNeg, Int.reduceAdd, Int.reduceSub, h, shl2_0, i64_1]
    by_cases h1 : n ≤ 2
    · rw [if_pos h1] at hk ⊢; exact hk
    rw [if_neg h1] at hk ⊢
    refine xLoop_fold ?_
    simp only [w_layout_Class_l3, w_layout_Class_l3b, w_layout_Class_j2, w_layout_Class_j2b, w_layout_Class_j1, w_layout_Class_j1b, ruS, Nat.reduceAdd, reduceIte, Int.reduceLT, Int.reduceLE, Int.reduceEq, Int.reduceNeg, Int.reduceAdd, Int.reduceSub, h, shl2_1, i64_2]
    by_cases h1 : n ≤ 4
    · rw [if_pos h1] at hk ⊢; exact hk
    rw [if_neg h1] at hk ⊢
    refine xLoop_fold ?_
    simp only [w_layout_Class_l3, w_layout_Class_l3b, w_layout_Class_j2, w_layout_Class_j2b, w_layout_Class_j1, w_layout_Class_j1b, ruS, Nat.reduceAdd, reduceIte, Int.reduceLT, Int.reduceLE, Int.reduceEq, Int.reduceNeg, Int.reduceAdd, Int.reduceSub, h, shl2_2, i64_3]
    by_cases h1 : n ≤ 8
    · rw [if_pos h1] at hk ⊢; exact hk
    rw [if_neg h1] at hk ⊢
    refine xLoop_fold ?_
    simp only [w_layout_Class_l3, w_layout_Class_l3b, w_layout_Class_j2, w_layout_Class_j2b, w_layout_Class_j1, w_layout_Class_j1b, ruS, Nat.reduceAdd, reduceIte, Int.reduceLT, Int.reduceLE, Int.reduceEq, Int.reduceNeg, Int.reduceAdd, Int.reduceSub, h, shl2_3, i64_4]
    by_cases h1 : n ≤ 16
    · rw [if_pos h1] at hk ⊢; exact hk
    rw [if_neg h1] at hk ⊢
    refine xLoop_fold ?_
    simp only [w_layout_Class_l3, w_layout_Class_l3b, w_layout_Class_j2, w_layout_Class_j2b, w_layout_Class_j1, w_layout_Class_j1b, ruS, Nat.reduceAdd, reduceIte, Int.reduceLT, Int.reduceLE, Int.reduceEq, Int.reduceNeg, Int.reduceAdd, Int.reduceSub]
    exact hk
  · unfold classOf at hk
    rw [if_pos (by omega)] at hk
    refine xLoop_fold ?_
    simp only [w_layout_Class_l3, w_layout_Class_l3b, w_layout_Class_j2, w_layout_Class_j2b, w_layout_Class_j1, w_layout_Class_j1b, ruS, Nat.reduceAdd, reduceIte, Int.reduceLT, Int.reduceLE, Int.reduceEq, Int.reduceNeg, Int.reduceAdd, Int.reduceSub, h, i64_1]
    refine xLoop_fold ?_
    simp only [w_layout_Class_l3, w_layout_Class_l3b, w_layout_Class_j2, w_layout_Class_j2b, w_layout_Class_j1, w_layout_Class_j1b, ruS, Nat.reduceAdd, reduceIte, Int.reduceLT, Int.reduceLE, Int.reduceEq, Int.reduceNeg, Int.reduceAdd, Int.reduceSub, h, i64_2]
    refine xLoop_fold ?_
    simp only [w_layout_Class_l3, w_layout_Class_l3b, w_layout_Class_j2, w_layout_Class_j2b, w_layout_Class_j1, w_layout_Class_j1b, ruS, Nat.reduceAdd, reduceIte, Int.reduceLT, Int.reduceLE, Int.reduceEq, Int.reduceNeg, Int.reduceAdd, Int.reduceSub, h, i64_3]
    refine xLoop_fold ?_
    simp only [w_layout_Class_l3, w_layout_Class_l3b, w_layout_Class_j2, w_layout_Class_j2b, w_layout_Class_j1, w_layout_Class_j1b, ruS, Nat.reduceAdd, reduceIte, Int.reduceLT, Int.reduceLE, Int.reduceEq, Int.reduceNeg, Int.reduceAdd, Int.reduceSub, h, i64_4]
    refine xLoop_fold ?_
    simp only [w_layout_Class_l3, w_layout_Class_l3b, w_layout_Class_j2, w_layout_Class_j2b, w_layout_Class_j1, w_layout_Class_j1b, ruS, Nat.reduceAdd, reduceIte, Int.reduceLT, Int.reduceLE, Int.reduceEq, Int.reduceNeg, Int.reduceAdd, Int.reduceSub]
    exact hk
def roomOf (k : Int) : Int := if k = 0 then 3 else if k = 1 then 5 else if k = 2 then 9 else 17
theorem c_Room {k : Int} (h0 : 0 ≤ k) (h1 : k ≤ 3) : s_layout_Room [.int .i64 k] K σ = K (.int .i64 (roomOf k)) σ := by
  simp only [s_layout_Room, w_layout_Room, ruS, Nat.reduceAdd, reduceIte, Int.reduceLT, Int.reduceLE, Int.reduceEq, Int.reduceNeg, Int.reduceAdd, Int.reduceSub]
  rcases (show k = 0 ∨ k = 1 ∨ k = 2 ∨ k = 3 by omega) with rfl | rfl | rfl | rfl <;>
    simp only [shl2_0, shl2_1, shl2_2, shl2_3, ruS, Nat.reduceAdd, reduceIte, Int.reduceLT, Int.reduceLE, Int.reduceEq, Int.reduceNeg, Int.reduceAdd, Int.reduceSub, i64_3, i64_5, i64_9, i64_17] <;> rfl
end Go.Fl
namespace Go.Fl
open Go
set_option linter.unusedVariables false
set_option linter.unusedSimpArgs false
variable {N : Nm} {A B : Ar} {σ : Mem} {K : Value → Mem → Prop} {C : Cf} {who : Int}
def Cf.okB (c : Cf) : Bool :=
  (decide (1 ≤ c.T) && decide (c.T ≤ 8) && decide (1 ≤ c.S) && decide (c.S ≤ 65536)) && (decide (1 ≤ c.C) && decide (c.C ≤ 64) && decide (17 ≤ c.W) && decide (c.W ≤ 256)) &&
  (decide (1 ≤ c.G) && decide (c.G ≤ 65535) && decide (0 ≤ c.P) && decide (c.P ≤ 1000) && decide (1 ≤ c.R) && decide (c.R ≤ 16))
theorem Cf.okB_iff {c : Cf} : c.okB = true ↔ c.ok := by
  simp only [Cf.okB, Bool.and_eq_true, decide_eq_true_eq]
  constructor
  · rintro ⟨⟨⟨⟨⟨a, b⟩, d⟩, e⟩, ⟨⟨f, g⟩, h⟩, i⟩, ⟨⟨⟨⟨j, k⟩, l⟩, m⟩, n⟩, o⟩
    exact ⟨⟨a, b⟩, ⟨d, e⟩, ⟨f, g⟩, ⟨h, i⟩, ⟨j, k⟩, ⟨l, m⟩, ⟨n, o⟩⟩
  · rintro ⟨⟨a, b⟩, ⟨d, e⟩, ⟨f, g⟩, ⟨h, i⟩, ⟨j, k⟩, ⟨l, m⟩, ⟨n, o⟩⟩
    exact ⟨⟨⟨⟨⟨a, b⟩, d⟩, e⟩, ⟨⟨f, g⟩, h⟩, i⟩, ⟨⟨⟨⟨j, k⟩, l⟩, m⟩, n⟩, o⟩
theorem check_j3 {x y z : Bool} : w_layout_Check_j3b K (.bool x) (.bool y) (.bool z) σ = K (.bool (x && y && z)) σ := by
  simp only [w_layout_Check_j3b, ruS, ruL, ruX, Nat.reduceAdd, reduceIte, Int.reduceLT, Int.reduceLE, Int.reduceEq, Int.reduceNeg, Int.reduceAdd, Int.reduceSub, Nat.reduceLeDiff]
  cases x <;> cases y <;> cases z <;> simp only [ruS, ruL, ruX, Nat.reduceAdd, reduceIte, Int.reduceLT, Int.reduceLE, Int.reduceEq, Int.reduceNeg, Int.reduceAdd, Int.reduceSub, Nat.reduceLeDiff, Bool.and_true, Bool.and_false, Bool.false_and, Bool.true_and]
theorem check_j2 {x y : Bool} : w_layout_Check_j2b K (.bool x) (.bool y) C.l σ = K (.bool (x && y && (decide (1 ≤ C.G) && decide (C.G ≤ 65535) && decide (0 ≤ C.P) && decide (C.P ≤ 1000) && decide (1 ≤ C.R) && decide (C.R ≤ 16)))) σ := by
  simp only [w_layout_Check_j2b, w_layout_Check_j3, Cf.l, ruS, ruL, ruX, Nat.reduceAdd, reduceIte, Int.reduceLT, Int.reduceLE, Int.reduceEq, Int.reduceNeg, Int.reduceAdd, Int.reduceSub, Nat.reduceLeDiff, check_j3]
  by_cases h1 : 1 ≤ C.G <;> by_cases h2 : C.G ≤ 65535 <;> by_cases h3 : 0 ≤ C.P <;> by_cases h4 : C.P ≤ 1000 <;> by_cases h5 : 1 ≤ C.R <;>
    simp only [h1, h2, h3, h4, h5, ruS, ruL, ruX, Nat.reduceAdd, reduceIte, Int.reduceLT, Int.reduceLE, Int.reduceEq, Int.reduceNeg, Int.reduceAdd, Int.reduceSub, Nat.reduceLeDiff, check_j3, Bool.and_true, Bool.and_false, Bool.false_and, Bool.true_and]
theorem c_Check : s_layout_Check [C.v] K σ = K (.bool C.okB) σ := by
  have j1 : ∀ {x : Bool}, w_layout_Check_j1b K (.bool x) C.l σ = K (.bool (x && (decide (1 ≤ C.C) && decide (C.C ≤ 64) && decide (17 ≤ C.W) && decide (C.W ≤ 256)) && (decide (1 ≤ C.G) && decide (C.G ≤ 65535) && decide (0 ≤ C.P) && decide (C.P ≤ 1000) && decide (1 ≤ C.R) && decide (C.R ≤ 16)))) σ := by
    intro x
    have e := @check_j2 σ K C
    simp only [Cf.l] at e
    simp only [w_layout_Check_j1b, w_layout_Check_j2, Cf.l, ruS, ruL, ruX, Nat.reduceAdd, reduceIte, Int.reduceLT, Int.reduceLE, Int.reduceEq, Int.reduceNeg, Int.reduceAdd, Int.reduceSub, Nat.reduceLeDiff]
    by_cases h1 : 1 ≤ C.C <;> by_cases h2 : C.C ≤ 64 <;> by_cases h3 : 17 ≤ C.W <;>
      simp only [h1, h2, h3, ruS, ruL, ruX, Nat.reduceAdd, reduceIte, Int.reduceLT, Int.reduceLE, Int.reduceEq, Int.reduceNeg, Int.reduceAdd, Int.reduceSub, Nat.reduceLeDiff, e, Bool.and_true, Bool.and_false, Bool.false_and, Bool.true_and]
  simp only [Cf.l] at j1
  simp only [s_layout_Check, w_layout_Check, w_layout_Check_j1, Cf.v, ruS, ruL, ruX, Nat.reduceAdd, reduceIte, Int.reduceLT, Int.reduceLE, Int.reduceEq, Int.reduceNeg, Int.reduceAdd, Int.reduceSub, Nat.reduceLeDiff]
  unfold Cf.okB
  by_cases h1 : 1 ≤ C.T <;> by_cases h2 : C.T ≤ 8 <;> by_cases h3 : 1 ≤ C.S <;>
    simp only [h1, h2, h3, ruS, ruL, ruX, Nat.reduceAdd, reduceIte, Int.reduceLT, Int.reduceLE, Int.reduceEq, Int.reduceNeg, Int.reduceAdd, Int.reduceSub, Nat.reduceLeDiff, j1, Bool.and_true, Bool.and_false, Bool.false_and, Bool.true_and]
theorem hMakeS_eq {es by' : Nat} {z : List Value} {n : Int} {K : Value → Mem → Prop} {σ : Mem} (h0 : 0 ≤ n) (h1 : n ≤ 1073741824) (hb : by' ≤ 1024) :
    hMakeS es by' z [.int .i64 n, .int .i64 n] K σ = newB (List.replicate n.toNat z).flatten (fun id => .slice (some ⟨id, 0, none⟩) n.toNat es) K σ := by
  simp only [hMakeS]
  rw [if_pos ⟨trivial, h0, h1, hb⟩]
theorem hBox_a {cs : List Value} {sz : Nat} {K : Value → Mem → Prop} {σ : Mem} (h : cs.length = sz) :
    hBox sz [.agg cs.toArray] K σ = newB cs (fun id => .pointer (some ⟨id, 0, none⟩)) K σ := by
  subst h
  have : cellsOf (.agg cs.toArray) cs.length = some cs := by simp [cellsOf]
  simp only [hBox, this]
def Ar.new (n : Nat) : Ar := ⟨n, fun _ => 0, fun _ => 0, 0, 0, 0, 0, false⟩
structure Nm.fr (N : Nm) (σ : Mem) : Prop where
  m : σ.get N.m = none
  w : σ.get N.w = none
  t : σ.get N.t = none
theorem xBuildMem {a b : Value} {K : Value → Prop} (ha : cellsOf a 1 = some [a]) (hb : cellsOf b 1 = some [b]) :
    xF (fBuild [(0, 1), (1, 1), (2, 1), (3, 1), (4, 3)] [.slice none 0 0, .slice none 0 0, .int .i64 0, .int .i64 0, .int .i64 0, .int .i64 0, .bool false] [0, 1]) [a, b] K =
      K (.agg #[a, b, .int .i64 0, .int .i64 0, .int .i64 0, .int .i64 0, .bool false]) := by
  simp [xF, fBuild, fillL, ha, hb, lay]
theorem c_New {n : Int} (h0 : 1 ≤ n) (h1 : n ≤ 1048576) (hk : ∀ N τ, N.ok → isA N (.new n.toNat) τ → Ext σ τ → N.fr σ → K (.tuple #[N.p, .int .i64 0]) τ) : s_mem_New [.int .i64 n] K σ := by
  simp only [s_mem_New, w_mem_New, w_mem_New_j1, w_mem_New_j1b, ruS, Nat.reduceAdd, reduceIte, Int.reduceLT, Int.reduceLE, Int.reduceEq, Int.reduceNeg, Int.reduceAdd, Int.reduceSub]
  rw [if_neg (by omega), if_neg (by omega)]
  rw [hMakeS_eq (by omega) (by omega) (by decide)]
  intro w hw
  rw [hMakeS_eq (by omega) (by omega) (by decide)]
  intro t ht
  rw [xBuildMem rfl rfl]
  refine (hBox_a (cs := [_, _, _, _, _, _, _]) rfl).mpr ?_
  intro m hm
  simp only [ruS, Nat.reduceAdd, reduceIte, Int.reduceLT, Int.reduceLE, Int.reduceEq, Int.reduceNeg, Int.reduceAdd, Int.reduceSub]
  have hwt : w ≠ t := by rintro rfl; simp at ht
  have hmt : m ≠ t := by rintro rfl; simp at hm
  have hmw : m ≠ w := by
    rintro rfl
    rw [Mem.get_set_ne _ _ hwt, Mem.get_set_same] at hm; cases hm
  refine hk ⟨m, w, t⟩ _ ⟨hmw, hmt, hwt⟩ ⟨?_, ?_, ?_⟩ ?_ ⟨?_, hw, ?_⟩
  · rw [Mem.get_set_same]; rfl
  · rw [Mem.get_set_ne _ _ hmw.symm, Mem.get_set_ne _ _ hwt, Mem.get_set_same, cells_repl]; rfl
  · rw [Mem.get_set_ne _ _ hmt.symm, Mem.get_set_same, cells_repl]; rfl
  · exact ((Ext.fresh hw).trans (Ext.fresh ht)).trans (Ext.fresh hm)
  · rw [Mem.get_set_ne _ _ hmt, Mem.get_set_ne _ _ hmw] at hm; exact hm
  · rw [Mem.get_set_ne _ _ hwt.symm] at ht; exact ht
def Nm.el (N : Nm) (c : Cf) (who : Int) : List Value := [.int .i64 c.T, .int .i64 c.S, .int .i64 c.C, .int .i64 c.W, .int .i64 c.G, .int .i64 c.P, .int .i64 c.R, N.p, .int .i64 who]
section
variable {c : Cf} {l : List Value}
theorem gBoxC : gBox 7 [c.v] l = some c.l := nr rfl
theorem subC : sub c.l 0 7 true = some c.v := nr rfl
theorem subC0 : sub c.l 0 1 false = some (.int .i64 c.T) := nr rfl
theorem subC1 : sub c.l 1 1 false = some (.int .i64 c.S) := nr rfl
theorem subC2 : sub c.l 2 1 false = some (.int .i64 c.C) := nr rfl
theorem subC3 : sub c.l 3 1 false = some (.int .i64 c.W) := nr rfl
theorem subC4 : sub c.l 4 1 false = some (.int .i64 c.G) := nr rfl
theorem subC5 : sub c.l 5 1 false = some (.int .i64 c.P) := nr rfl
theorem subC6 : sub c.l 6 1 false = some (.int .i64 c.R) := nr rfl
theorem gBoxE : gBox 9 [N.env c who] l = some (N.el c who) := nr rfl
theorem subE : sub (N.el c who) 0 9 true = some (N.env c who) := nr rfl
theorem subEC : sub (N.el c who) 0 7 true = some c.v := nr rfl
theorem subE0 : sub (N.el c who) 0 1 false = some (.int .i64 c.T) := nr rfl
theorem subE1 : sub (N.el c who) 1 1 false = some (.int .i64 c.S) := nr rfl
theorem subE2 : sub (N.el c who) 2 1 false = some (.int .i64 c.C) := nr rfl
theorem subE3 : sub (N.el c who) 3 1 false = some (.int .i64 c.W) := nr rfl
theorem subE4 : sub (N.el c who) 4 1 false = some (.int .i64 c.G) := nr rfl
theorem subE6 : sub (N.el c who) 6 1 false = some (.int .i64 c.R) := nr rfl
theorem subE7 : sub (N.el c who) 7 1 false = some N.p := nr rfl
theorem subE8 : sub (N.el c who) 8 1 false = some (.int .i64 who) := nr rfl
end
section
variable {a o v d : Int}
@[simp] theorem by_n : (A.by who).n = A.n := rfl
@[simp] theorem by_w : (A.by who).w = A.w := rfl
@[simp] theorem by_t : (A.by who).t = A.t := rfl
@[simp] theorem by_s : (A.by who).s = A.s := rfl
@[simp] theorem load_n : (A.load a).n = A.n := rfl
@[simp] theorem load_w : (A.load a).w = A.w := rfl
@[simp] theorem load_t : (A.load a).t = A.t := rfl
@[simp] theorem load_s : (A.load a).s = IntKind.i64.wrap (A.s + 1) := rfl
@[simp] theorem load_la : (A.load a).la = a := rfl
@[simp] theorem load_lc : (A.load a).lc = false := rfl
@[simp] theorem store_n : (A.store a v).n = A.n := rfl
@[simp] theorem store_w : (A.store a v).w = upd A.w a v := rfl
@[simp] theorem store_s : (A.store a v).s = IntKind.i64.wrap (A.s + 1) := rfl
@[simp] theorem store_la : (A.store a v).la = a := rfl
@[simp] theorem store_lc : (A.store a v).lc = decide (A.w a ≠ v) := rfl
theorem store_t : (A.store a v).t = if A.w a ≠ v then upd A.t a (IntKind.i64.wrap (A.s + 1)) else A.t := rfl
@[simp] theorem cas_n : (A.cas a o v).n = A.n := by unfold Ar.cas; split <;> rfl
@[simp] theorem cas_s : (A.cas a o v).s = IntKind.i64.wrap (A.s + 1) := by unfold Ar.cas; split <;> rfl
@[simp] theorem cas_la : (A.cas a o v).la = a := by unfold Ar.cas; split <;> rfl
theorem cas_no (h : A.w a ≠ o) : A.cas a o v = A.load a := by unfold Ar.cas; rw [if_neg h]; rfl
theorem cas_yes (h : A.w a = o) : A.cas a o v = A.store a v := by unfold Ar.cas; rw [if_pos h]; rfl
theorem add_eq : A.add a d = A.store a (IntKind.u64.wrap (A.w a + d)) := rfl
end
structure Ar.ok (A : Ar) (b : Int) : Prop where
  w : ∀ i, 0 ≤ A.w i ∧ A.w i < 18446744073709551616
  s : 0 ≤ A.s ∧ A.s ≤ b
  t : ∀ i, 0 ≤ A.t i ∧ A.t i ≤ A.s
theorem Ar.ok.s1 {b : Int} (h : A.ok b) (hb : b < 9223372036854775807) : IntKind.i64.wrap (A.s + 1) = A.s + 1 := IntWalk.i64_in _ (by have := h.s; omega)
theorem Ar.ok.by {b : Int} (h : A.ok b) : (A.by who).ok b := ⟨h.w, h.s, h.t⟩
theorem Ar.ok.load {b a : Int} (h : A.ok b) (hb : b < 9223372036854775807) : (A.load a).ok (b + 1) := by
  refine ⟨h.w, ?_, fun i => ?_⟩
  · rw [load_s, h.s1 hb]; have := h.s; omega
  · rw [load_s, h.s1 hb, load_t]; have := h.t i; omega
theorem upd_cases {f : Int → Int} {a v i : Int} {P : Int → Prop} (h1 : P v) (h2 : P (f i)) : P (upd f a v i) := by unfold upd; split <;> assumption
theorem Ar.ok.store {b a v : Int} (h : A.ok b) (hb : b < 9223372036854775807) (hv : 0 ≤ v ∧ v < 18446744073709551616) : (A.store a v).ok (b + 1) := by
  refine ⟨fun i => upd_cases (P := fun x => 0 ≤ x ∧ x < 18446744073709551616) hv (h.w i), ?_, fun i => ?_⟩
  · rw [store_s, h.s1 hb]; have := h.s; omega
  · rw [store_s, h.s1 hb, store_t]
    have := h.t i
    have := h.s
    split
    · rw [h.s1 hb]; exact upd_cases (P := fun x => 0 ≤ x ∧ x ≤ A.s + 1) (by omega) (by omega)
    · omega
theorem Ar.ok.cas {b a o v : Int} (h : A.ok b) (hb : b < 9223372036854775807) (hv : 0 ≤ v ∧ v < 18446744073709551616) : (A.cas a o v).ok (b + 1) := by
  by_cases hc : A.w a = o
  · rw [cas_yes hc]; exact h.store hb hv
  · rw [cas_no hc]; exact h.load hb
theorem wrap_in (n : Int) : 0 ≤ IntKind.u64.wrap n ∧ IntKind.u64.wrap n < 18446744073709551616 := by rw [IntKind.wrap_u64]; omega
theorem Ar.ok.add {b a d : Int} (h : A.ok b) (hb : b < 9223372036854775807) : (A.add a d).ok (b + 1) := h.store hb (wrap_in _)
def Cf.fr (c : Cf) (i : Int) (a : Int) : Int :=
  if c.slot 0 ≤ a ∧ a < c.slot i then (if (a - c.slot 0) % 2 = 0 then putSlot 0 0 1 0 else putTop ((a - c.slot 0) / 2 + 1) 0) else 0
def Cf.w0 (c : Cf) (a : Int) : Int := if a = 1 then putTop 0 0 else if a = c.slot (c.S - 1) + 1 then putTop (-1) 0 else c.fr c.S a
structure FrI (N : Nm) (C : Cf) (σ0 : Mem) (i : Int) (A : Ar) (σ : Mem) : Prop where
  i0 : 0 ≤ i
  i1 : i ≤ C.S
  n : A.n = C.len.toNat
  w : A.w = C.fr i
  s : A.s = 2 * i
  who : A.who = 0
  ok : A.ok (2 * i)
  isA : isA N A σ
  ext : Ext σ0 σ
  fr : N.fr σ0
theorem Ext.put {σ0 : Mem} (h : Ext σ0 σ) (f : N.fr σ0) : Ext σ0 (putA N A σ) := by
  intro i b hi
  rw [putA_ne (fun e => by rw [e, f.m] at hi; cases hi) (fun e => by rw [e, f.w] at hi; cases hi) (fun e => by rw [e, f.t] at hi; cases hi)]
  exact h i b hi
theorem len_eq : C.len = 6 + C.T + 2 * C.S + 3 * C.C + C.W * C.C := rfl
theorem len_bd (h : C.ok) : C.chunk C.C + 17 ≤ C.len ∧ C.len ≤ 200000 := by
  have hW := h.W
  have hC := h.C
  have hS := h.S
  have hT := h.T
  have h1 : 17 * 1 ≤ C.W * C.C := Int.mul_le_mul hW.1 hC.1 (by omega) (by omega)
  have h2 : C.W * C.C ≤ 256 * 64 := Int.mul_le_mul hW.2 hC.2 (by omega) (by omega)
  rw [len_eq]; unfold Cf.chunk
  omega
theorem xBuildSlotG {K : Value → Prop} {g : Int} : xF (fBuild [(0, 1), (1, 1), (2, 1), (3, 1)] [.int .i64 0, .int .i64 0, .int .i64 0, .int .i64 0] [2]) [.int .i64 g] K = K (.agg #[.int .i64 0, .int .i64 0, .int .i64 g, .int .i64 0]) := nr rfl
theorem c_Fresh_round (hC : C.ok) (hN : N.ok) {σ0 : Mem} {J1 R1 : List Value → List (List Value) → Mem → Prop} {i : Int} (h : FrI N C σ0 i A σ)
    (hj : i = C.S → J1 [N.p] [C.l] σ) (hr : i < C.S → ∀ A' τ, FrI N C σ0 (i + 1) A' τ → R1 [N.p, .int .i64 C.S, .int .i64 (i + 1)] [C.l] τ) :
    w_layout_Fresh_l8 K J1 R1 [N.p, .int .i64 C.S, .int .i64 i] [C.l] σ := by
  have hS := hC.S
  have hT := hC.T
  have hl := len_bd hC
  simp only [w_layout_Fresh_l8, w_layout_Fresh_l8b, ruS, Nat.reduceAdd, reduceIte, Int.reduceLT, Int.reduceLE, Int.reduceEq, Int.reduceNeg, Int.reduceAdd, Int.reduceSub, locP_e, gLoad_s, subC]
  by_cases hi : i < C.S
  · simp only [hi, ruS, Nat.reduceAdd, reduceIte, Int.reduceLT, Int.reduceLE, Int.reduceEq, Int.reduceNeg, Int.reduceAdd, Int.reduceSub]
    have hn : C.slot i + 1 < A.n := by rw [h.n]; unfold Cf.slot; unfold Cf.chunk at hl; have := hC.C; omega
    have hs0 : 0 ≤ C.slot i := by unfold Cf.slot; have := h.i0; omega
    have i0 := h.i0
    rw [c_Slot hC h.i0 (by omega)]
    rw [xBuildSlotG, c_PutSlot, h.isA.eq, c_mStore hN hs0 (by omega), c_Slot hC h.i0 (by omega)]
    simp only [xAdd]
    rw [IntWalk.i64_in (i + 1) (by omega), c_PutTop (by omega), IntWalk.i64_in (C.slot i + 1) (by unfold Cf.slot; omega), c_mStore hN (by omega) (by rw [store_n]; omega)]
    have ok1 := h.ok.store (a := C.slot i) (by omega) (putSlot_in 0 0 1 0)
    have ok2 := ok1.store (a := C.slot i + 1) (by omega) (putTop_in (i + 1) 0)
    have s1 := h.ok.s1 (by omega)
    have s2 := ok1.s1 (by omega)
    refine hr hi ((A.store (C.slot i) (putSlot 0 0 1 0)).store (C.slot i + 1) (putTop (i + 1) 0)) _ ⟨by omega, by omega, h.n, ?_, ?_, h.who, ?_, isA_put hN, h.ext.put h.fr, h.fr⟩
    · funext a
      rw [store_w, store_w, h.w]
      unfold upd Cf.fr Cf.slot
      have := hC.C
      by_cases e1 : a = 6 + C.T + 2 * i + 1
      · subst e1
        rw [if_pos rfl, if_pos (by omega), if_neg (by omega)]
        congr 1; omega
      · rw [if_neg e1]
        by_cases e2 : a = 6 + C.T + 2 * i
        · subst e2
          rw [if_pos rfl, if_pos (by omega), if_pos (by omega)]
        · rw [if_neg e2]
          by_cases e3 : 6 + C.T + 2 * 0 ≤ a ∧ a < 6 + C.T + 2 * i
          · rw [if_pos e3, if_pos (show 6 + C.T + 2 * 0 ≤ a ∧ a < 6 + C.T + 2 * (i + 1) by omega)]
          · rw [if_neg e3, if_neg (show ¬ (6 + C.T + 2 * 0 ≤ a ∧ a < 6 + C.T + 2 * (i + 1)) by omega)]
    · rw [store_s, s2, store_s, s1, h.s]; omega
    · rw [show 2 * (i + 1) = 2 * i + 1 + 1 by omega]; exact ok2
  · rw [if_neg hi]
    exact hj (by have := h.i1; omega)
structure Frsh (N : Nm) (C : Cf) (A : Ar) : Prop where
  ok : A.ok (2 * C.S + 2)
  n : A.n = C.len.toNat
  w : A.w = C.w0
  s : A.s = 2 * C.S + 2
  who : A.who = 0
  la : A.la = 1
theorem Ar.new_ok {n : Nat} : (Ar.new n).ok (2 * 0) := ⟨fun _ => ⟨Int.le_refl 0, (by decide : (0 : Int) < 18446744073709551616)⟩, ⟨Int.le_refl 0, Int.le_refl 0⟩, fun _ => ⟨Int.le_refl 0, Int.le_refl 0⟩⟩
theorem c_Fresh (hC : C.ok) (hk : ∀ N A τ, N.ok → Frsh N C A → isA N A τ → Ext σ τ → N.fr σ → K (.tuple #[N.p, .int .i64 0]) τ) : s_layout_Fresh [C.v] K σ := by
  have hl := len_bd hC
  have hS := hC.S
  have hT := hC.T
  have hCC := hC.C
  have hch : C.chunk C.C = 6 + C.T + 2 * C.S + 3 * C.C := rfl
  have hok : C.okB = true := Cf.okB_iff.2 hC
  simp only [s_layout_Fresh, w_layout_Fresh, ruS, Nat.reduceAdd, reduceIte, Int.reduceLT, Int.reduceLE, Int.reduceEq, Int.reduceNeg, Int.reduceAdd, Int.reduceSub, locP_e, gBoxC, gLoad_s, subC, subC1, c_Check, hok, c_lLen hC]
  refine c_New (by omega) (by omega) fun N τ hN hA hE hf => ?_
  simp only [ruS, Nat.reduceAdd, reduceIte, Int.reduceLT, Int.reduceLE, Int.reduceEq, Int.reduceNeg, Int.reduceAdd, Int.reduceSub]
  refine xLoop_inv (fun k ts ls τ => ∃ i A, k = (C.S - i).toNat ∧ ts = [N.p, .int .i64 C.S, .int .i64 i] ∧ ls = [C.l] ∧ FrI N C σ i A τ) ?_ (n := (C.S - 0).toNat)
    ⟨0, _, rfl, rfl, rfl, ⟨by omega, by omega, rfl, ?_, rfl, rfl, Ar.new_ok, hA, hE, hf⟩⟩
  · rintro k ts ls τ ⟨i, A, rfl, rfl, rfl, h⟩
    refine c_Fresh_round hC hN h (fun e => ?_) fun hi A' τ' h' => ⟨_, by have := h.i0; omega, i + 1, A', rfl, rfl, rfl, h'⟩
    subst e
    simp only [w_layout_Fresh_j1, w_layout_Fresh_j1b, ruS, Nat.reduceAdd, reduceIte, Int.reduceLT, Int.reduceLE, Int.reduceEq, Int.reduceNeg, Int.reduceAdd, Int.reduceSub, locP_e, gLoad_s, subC, subC1]
    have n2 : C.slot (C.S - 1) + 1 < A.n := by rw [h.n]; unfold Cf.slot; omega
    have hs0 : 0 ≤ C.slot (C.S - 1) := by unfold Cf.slot; omega
    rw [IntWalk.i64_in (C.S - 1) (by omega), c_Slot hC (by omega) (by omega)]
    simp only [xAdd]
    rw [IntWalk.i64_in (C.slot (C.S - 1) + 1) (by unfold Cf.slot; omega), c_PutTop (by omega), h.isA.eq, c_mStore hN (by omega) n2, c_lTop, c_PutTop (by omega), c_mStore hN (by omega) (by rw [store_n]; omega)]
    have ok1 := h.ok.store (a := C.slot (C.S - 1) + 1) (by omega) (putTop_in (-1) 0)
    have ok2 := ok1.store (a := 1) (by omega) (putTop_in 0 0)
    have s1 := h.ok.s1 (by omega)
    have s2 := ok1.s1 (by omega)
    refine hk N ((A.store (C.slot (C.S - 1) + 1) (putTop (-1) 0)).store 1 (putTop 0 0)) _ hN ⟨by rw [show 2 * C.S + 2 = 2 * C.S + 1 + 1 by omega]; exact ok2, h.n, ?_, ?_, h.who, rfl⟩ (isA_put hN) (h.ext.put h.fr) h.fr
    · rw [store_w, store_w, h.w]; rfl
    · rw [store_s, s2, store_s, s1, h.s]; omega
  · funext a
    unfold Cf.fr
    rw [if_neg (by omega)]; rfl
theorem c_Arena (hC : C.ok) (hG : C.G = 100) (hP : C.P = 600) (hR : C.R = 3) (hk : ∀ N A τ, N.ok → Frsh N C A → isA N A τ → Ext σ τ → N.fr σ → K (.tuple #[N.env C 0, .bool true]) τ) :
    s_law04_Arena [.int .i64 C.T, .int .i64 C.S, .int .i64 C.C, .int .i64 C.W] K σ := by
  simp only [s_law04_Arena, w_law04_Arena, ruS, Nat.reduceAdd, reduceIte, Int.reduceLT, Int.reduceLE, Int.reduceEq, Int.reduceNeg, Int.reduceAdd, Int.reduceSub]
  have b1 : ∀ K : Value → Prop, xF (fBuild [(0, 1), (1, 1), (2, 1), (3, 1), (4, 1), (5, 1), (6, 1)] [.int .i64 0, .int .i64 0, .int .i64 0, .int .i64 0, .int .i64 0, .int .i64 0, .int .i64 0] [0, 1, 2, 3, 4, 5, 6])
      [.int .i64 C.T, .int .i64 C.S, .int .i64 C.C, .int .i64 C.W, .int .i64 100, .int .i64 600, .int .i64 3] K = K C.v := by
    intro K; unfold Cf.v; rw [hG, hP, hR]; exact nr rfl
  have b2 : ∀ K : List Value → Prop, xC (gStore 7 [locP 10, C.v] [.int .i64 0, .int .i64 0, .int .i64 0, .int .i64 0, .int .i64 0, .int .i64 0, .int .i64 0]) K = K C.l := fun K => nr rfl
  rw [b1, b2]
  simp only [locP_e, gLoad_s, subC, xOs]
  refine c_Fresh hC fun N A τ hN hF hA hE hf => ?_
  simp only [ruS, Nat.reduceAdd, reduceIte, Int.reduceLT, Int.reduceLE, Int.reduceEq, Int.reduceNeg, Int.reduceAdd, Int.reduceSub, locP_e, gLoad_s, subC]
  exact hk N A τ hN hF hA hE hf
theorem ruE : type_of% ((And.intro (And.intro (And.intro (And.intro @Nat.lt_irrefl @Nat.zero_lt_one) (And.intro @gBoxE (And.intro @gBoxC @subE))) (And.intro (And.intro @subEC (And.intro @subE0 @subE1)) (And.intro @subE2 (And.intro @subE3 @subE4)))) (And.intro (And.intro (And.intro @subE6 @subE7) (And.intro @subE8 (And.intro @subC @subC0))) (And.intro (And.intro @subC1 (And.intro @subC2 @subC3)) (And.intro @subC4 (And.intro @subC5 @subC6)))))) := (And.intro (And.intro (And.intro (And.intro @Nat.lt_irrefl @Nat.zero_lt_one) (And.intro @gBoxE (And.intro @gBoxC @subE))) (And.intro (And.intro @subEC (And.intro @subE0 @subE1)) (And.intro @subE2 (And.intro @subE3 @subE4)))) (And.intro (And.intro (And.intro @subE6 @subE7) (And.intro @subE8 (And.intro @subC @subC0))) (And.intro (And.intro @subC1 (And.intro @subC2 @subC3)) (And.intro @subC4 (And.intro @subC5 @subC6)))))
end Go.Fl
namespace Go.Fl
open Go
set_option linter.unusedVariables false
set_option linter.unusedSimpArgs false
variable {N : Nm} {A B : Ar} {σ : Mem} {K : Value → Mem → Prop} {C : Cf} {who : Int}
theorem notin {p : Nat} (h : p ∉ N.l) : p ≠ N.m ∧ p ≠ N.w ∧ p ≠ N.t := by simpa [Nm.l] using h
theorem putA_get {p : Nat} (h : p ∉ N.l) : (putA N A σ).get p = σ.get p := putA_ne (notin h).1 (notin h).2.1 (notin h).2.2
theorem putA_setP {p : Nat} {c : Blk} (h : p ∉ N.l) : (putA N A σ).set p c = putA N A (σ.set p c) := putA_set (notin h).1 (notin h).2.1 (notin h).2.2
theorem isA.obj {p : Nat} {c : Blk} (h : isA N A σ) (hp : σ.get p = some c) : σ = putA N A (σ.set p c) := by rw [Mem.set_self hp]; exact h.eq
section
variable {p o k sz : Nat} {pre L post : List Value} {ag : Bool}
theorem sub_app (hz : 0 < sz) (hk : k + sz ≤ L.length) : sub (pre ++ L ++ post) (pre.length + k) sz ag = sub L k sz ag := by
  have h1 : pre.length + k + sz ≤ (pre ++ L ++ post).length := by simp; omega
  simp only [sub, if_pos h1, if_pos hk]
  cases ag
  · simp only [Bool.false_eq_true, if_false]
    rw [List.append_assoc, List.getElem?_append_right (by omega), Nat.add_sub_cancel_left, List.getElem?_append_left (by omega)]
  · simp only [if_true]
    rw [List.append_assoc, List.drop_append, List.drop_of_length_le (by omega), List.nil_append, Nat.add_sub_cancel_left, List.drop_append_of_le_length (by omega), List.take_append_of_le_length (by simp; omega)]
theorem lay_app {vs : List Value} (hk : k + vs.length ≤ L.length) : lay (pre ++ L ++ post) (pre.length + k) vs = pre ++ lay L k vs ++ post := by
  have e : pre.length + k + vs.length = pre.length + (k + vs.length) := by omega
  simp only [lay, e]
  rw [List.append_assoc pre, List.take_append, List.take_of_length_le (by omega), Nat.add_sub_cancel_left, List.take_append_of_le_length (by omega),
    List.drop_append, List.drop_of_length_le (by omega), List.nil_append, Nat.add_sub_cancel_left, List.drop_append_of_le_length (by omega)]
  simp only [List.append_assoc]
theorem ldO (hd : p ∉ N.l) (hz : 0 < sz) (hk : k + sz ≤ L.length) : hLoad sz ag [.pointer (some ⟨p, pre.length + k, none⟩)] K (putA N A (σ.set p ⟨pre ++ L ++ post, true⟩)) =
    xO (sub L k sz ag) (fun v => K v (putA N A (σ.set p ⟨pre ++ L ++ post, true⟩))) := by
  rw [hLoad_eq ((putA_get hd).trans (Mem.get_set_same _ _ _)), sub_app hz hk]
theorem stO (hd : p ∉ N.l) {x : Value} {c : List Value} (hc : cellsOf x sz = some c) (hl : c.length = sz) (hk : k + sz ≤ L.length) (ho : c.all oneB = true) :
    hStore sz [.pointer (some ⟨p, pre.length + k, none⟩), x] K (putA N A (σ.set p ⟨pre ++ L ++ post, true⟩)) = K undef (putA N A (σ.set p ⟨pre ++ lay L k c ++ post, true⟩)) := by
  rw [hStore_eq ((putA_get hd).trans (Mem.get_set_same _ _ _)) hc (by simp; omega) ho, putA_setP hd, Mem.set_set, lay_app (by omega)]
theorem stOi (hd : p ∉ N.l) {kd : IntKind} {n : Int} (hk : k + 1 ≤ L.length) :
    hStore 1 [.pointer (some ⟨p, pre.length + k, none⟩), .int kd n] K (putA N A (σ.set p ⟨pre ++ L ++ post, true⟩)) = K undef (putA N A (σ.set p ⟨pre ++ lay L k [.int kd n] ++ post, true⟩)) := stO hd rfl rfl hk rfl
theorem stOb (hd : p ∉ N.l) {b : Bool} (hk : k + 1 ≤ L.length) :
    hStore 1 [.pointer (some ⟨p, pre.length + k, none⟩), .bool b] K (putA N A (σ.set p ⟨pre ++ L ++ post, true⟩)) = K undef (putA N A (σ.set p ⟨pre ++ lay L k [.bool b] ++ post, true⟩)) := stO hd rfl rfl hk rfl
theorem stOp (hd : p ∉ N.l) {b : Option Addr} (hk : k + 1 ≤ L.length) :
    hStore 1 [.pointer (some ⟨p, pre.length + k, none⟩), .pointer b] K (putA N A (σ.set p ⟨pre ++ L ++ post, true⟩)) = K undef (putA N A (σ.set p ⟨pre ++ lay L k [.pointer b] ++ post, true⟩)) := stO hd rfl rfl hk rfl
theorem stOa (hd : p ∉ N.l) {c : List Value} (hl : c.length = sz) (hk : k + sz ≤ L.length) (ho : c.all oneB = true) :
    hStore sz [.pointer (some ⟨p, pre.length + k, none⟩), .agg c.toArray] K (putA N A (σ.set p ⟨pre ++ L ++ post, true⟩)) = K undef (putA N A (σ.set p ⟨pre ++ lay L k c ++ post, true⟩)) :=
  stO hd (by subst hl; simp [cellsOf]) hl hk ho
theorem behind (hN : N.ok) (hd : p ∉ N.l) {c : Blk} {v : Value} (hk : ∀ τ, isA N A τ → τ.get p = some c → Keep (p :: N.l) σ τ → K v τ) : K v (putA N A (σ.set p c)) := by
  refine hk _ (isA_put hN) ((putA_get hd).trans (Mem.get_set_same _ _ _)) fun i b hi hn => ?_
  simp only [List.mem_cons, not_or] at hn
  rw [putA_get hn.2, Mem.get_set_ne _ _ hn.1]
  exact hi
end
structure Tk where
  pc : Int
  top : Int
  next : Int
  slot : Int
  ok : Bool
def Tk.l (t : Tk) : List Value := [.int .i64 t.pc, .int .u64 t.top, .int .i64 t.next, .int .i64 t.slot, .bool t.ok]
def Tk.new : Tk := ⟨0, 0, 0, 0, false⟩
def Tk.step (C : Cf) (who : Int) (A : Ar) (t : Tk) : Bool × Tk × Ar :=
  if t.pc = 0 then (decide (topS (A.w 1) < 0), ⟨1, A.w 1, t.next, topS (A.w 1), t.ok⟩, (A.by who).load 1)
  else if t.pc = 1 then (t.ok, ⟨2, t.top, topS (A.w (C.slot t.slot + 1)), t.slot, t.ok⟩, (A.by who).load (C.slot t.slot + 1))
  else (decide (A.w 1 = t.top), ⟨0, t.top, t.next, t.slot, decide (A.w 1 = t.top)⟩, (A.by who).cas 1 t.top (putTop t.next (topN t.top + 1)))
theorem c_Take_Step (hN : N.ok) (hC : C.ok) (hA : isA N A σ) {p : Nat} {pre post : List Value} {t : Tk} (hp : σ.get p = some ⟨pre ++ t.l ++ post, true⟩) (hd : p ∉ N.l)
    (hw : ∀ i, 0 ≤ A.w i ∧ A.w i < 18446744073709551616) (hn : C.len ≤ A.n) (h0 : 0 ≤ t.top ∧ t.top < 18446744073709551616) (h1 : t.pc = 1 → 0 ≤ t.slot ∧ t.slot < C.S) (h2 : 0 ≤ t.next + 1)
    (hk : ∀ τ, isA N (t.step C who A).2.2 τ → τ.get p = some ⟨pre ++ (t.step C who A).2.1.l ++ post, true⟩ → Keep (p :: N.l) σ τ → K (.bool (t.step C who A).1) τ) :
    s_slot_Take_Step [.pointer (some ⟨p, pre.length, none⟩), N.env C who] K σ := by
  rw [hA.obj hp]
  have hl := len_bd hC
  have hT := hC.T
  have hS := hC.S
  have hCC := hC.C
  have hch : C.chunk C.C = 6 + C.T + 2 * C.S + 3 * C.C := rfl
  simp only [s_slot_Take_Step, w_slot_Take_Step, w_slot_Take_Step_j1, w_slot_Take_Step_j1b, Tk.l, ldO hd, c_lTop, ruS, ruL, ruE, Nat.reduceAdd, reduceIte, Int.reduceLT, Int.reduceLE, Int.reduceEq, Int.reduceNeg, Int.reduceAdd, Int.reduceSub, Nat.reduceLeDiff, Nat.reduceLT]
  by_cases c0 : t.pc = 0
  · rw [if_pos c0, c_Load hN (by omega) (by omega)]
    simp only [stOi hd, ldO hd, ruS, ruL, ruE, Nat.reduceAdd, reduceIte, Int.reduceLT, Int.reduceLE, Int.reduceEq, Int.reduceNeg, Int.reduceAdd, Int.reduceSub, Nat.reduceLeDiff, Nat.reduceLT]
    rw [c_Top (hw 1).1 (hw 1).2]
    simp only [stOi hd, ldO hd, ruS, ruL, ruE, Nat.reduceAdd, reduceIte, Int.reduceLT, Int.reduceLE, Int.reduceEq, Int.reduceNeg, Int.reduceAdd, Int.reduceSub, Nat.reduceLeDiff, Nat.reduceLT]
    simp only [Tk.step, if_pos c0] at hk
    exact behind hN hd hk
  · by_cases c1 : t.pc = 1
    · have := h1 c1
      have ha : 0 ≤ C.slot t.slot + 1 ∧ C.slot t.slot + 1 < A.n := by unfold Cf.slot; unfold Cf.chunk at hl; have := hC.C; omega
      rw [if_neg c0, if_pos c1, c_Slot hC (by omega) (by omega)]
      simp only [xAdd]
      rw [IntWalk.i64_in (C.slot t.slot + 1) (by unfold Cf.slot; omega), c_Load hN ha.1 ha.2, c_Top (hw _).1 (hw _).2]
      simp only [stOi hd, ldO hd, ruS, ruL, ruE, Nat.reduceAdd, reduceIte, Int.reduceLT, Int.reduceLE, Int.reduceEq, Int.reduceNeg, Int.reduceAdd, Int.reduceSub, Nat.reduceLeDiff, Nat.reduceLT]
      simp only [Tk.step, if_neg c0, if_pos c1] at hk
      exact behind hN hd hk
    · rw [if_neg c0, if_neg c1, c_Top h0.1 h0.2]
      simp only [stOi hd, ldO hd, c_lTop, ruS, ruL, ruE, Nat.reduceAdd, reduceIte, Int.reduceLT, Int.reduceLE, Int.reduceEq, Int.reduceNeg, Int.reduceAdd, Int.reduceSub, Nat.reduceLeDiff, Nat.reduceLT]
      have hN2 : 0 ≤ topN t.top ∧ topN t.top < 68719476736 := by unfold topN; omega
      rw [IntWalk.i64_in (topN t.top + 1) (by omega), c_PutTop (by omega), c_Cas hN (by omega) (by omega)]
      simp only [stOb hd, ldO hd, ruS, ruL, ruE, Nat.reduceAdd, reduceIte, Int.reduceLT, Int.reduceLE, Int.reduceEq, Int.reduceNeg, Int.reduceAdd, Int.reduceSub, Nat.reduceLeDiff, Nat.reduceLT]
      simp only [Tk.step, if_neg c0, if_neg c1] at hk
      exact behind hN hd hk
theorem c_Take_Slot (hA : isA N A σ) {p : Nat} {pre post : List Value} {t : Tk} (hp : σ.get p = some ⟨pre ++ t.l ++ post, true⟩) (hd : p ∉ N.l)
    (hk : K (.tuple #[.int .i64 (if t.ok = true then t.slot else 0), .bool t.ok]) σ) : s_slot_Take_Slot [.pointer (some ⟨p, pre.length, none⟩)] K σ := by
  have e := hA.obj hp
  generalize hq : σ = υ at *
  rw [e] at hk ⊢
  simp only [s_slot_Take_Slot, w_slot_Take_Slot, w_slot_Take_Slot_j1, w_slot_Take_Slot_j1b, Tk.l, ldO hd, ruS, ruL, ruE, Nat.reduceAdd, reduceIte, Int.reduceLT, Int.reduceLE, Int.reduceEq, Int.reduceNeg, Int.reduceAdd, Int.reduceSub, Nat.reduceLeDiff, Nat.reduceLT] at hk ⊢
  cases h : t.ok <;> simp only [h, xIfB, ldO hd, ruS, ruL, ruE, Nat.reduceAdd, reduceIte, Int.reduceLT, Int.reduceLE, Int.reduceEq, Int.reduceNeg, Int.reduceAdd, Int.reduceSub, Nat.reduceLeDiff, Nat.reduceLT] at hk ⊢ <;> exact hk
structure Gv where
  pc : Int
  slot : Int
  top : Int
def Gv.l (g : Gv) : List Value := [.int .i64 g.pc, .int .i64 g.slot, .int .u64 g.top]
def Gv.step (C : Cf) (who : Int) (A : Ar) (g : Gv) : Bool × Gv × Ar :=
  if g.pc = 0 then (false, ⟨1, g.slot, A.w 1⟩, (A.by who).load 1)
  else if g.pc = 1 then (false, ⟨2, g.slot, g.top⟩, (A.by who).store (C.slot g.slot + 1) (putTop (topS g.top) 0))
  else (decide (A.w 1 = g.top), ⟨0, g.slot, g.top⟩, (A.by who).cas 1 g.top (putTop g.slot (topN g.top + 1)))
theorem c_Give_Step (hN : N.ok) (hC : C.ok) (hA : isA N A σ) {p : Nat} {pre post : List Value} {t : Gv} (hp : σ.get p = some ⟨pre ++ t.l ++ post, true⟩) (hd : p ∉ N.l)
    (hw : ∀ i, 0 ≤ A.w i ∧ A.w i < 18446744073709551616) (hn : C.len ≤ A.n) (h0 : 0 ≤ t.top ∧ t.top < 18446744073709551616) (h1 : 0 ≤ t.slot ∧ t.slot < C.S)
    (hk : ∀ τ, isA N (t.step C who A).2.2 τ → τ.get p = some ⟨pre ++ (t.step C who A).2.1.l ++ post, true⟩ → Keep (p :: N.l) σ τ → K (.bool (t.step C who A).1) τ) :
    s_slot_Give_Step [.pointer (some ⟨p, pre.length, none⟩), N.env C who] K σ := by
  rw [hA.obj hp]
  have hl := len_bd hC
  have hT := hC.T
  have hS := hC.S
  have hCC := hC.C
  have hch : C.chunk C.C = 6 + C.T + 2 * C.S + 3 * C.C := rfl
  simp only [s_slot_Give_Step, w_slot_Give_Step, w_slot_Give_Step_j1, w_slot_Give_Step_j1b, Gv.l, ldO hd, c_lTop, ruS, ruL, ruE, Nat.reduceAdd, reduceIte, Int.reduceLT, Int.reduceLE, Int.reduceEq, Int.reduceNeg, Int.reduceAdd, Int.reduceSub, Nat.reduceLeDiff, Nat.reduceLT]
  rw [c_Top h0.1 h0.2]
  simp only [ldO hd, c_lTop, ruS, ruL, ruE, Nat.reduceAdd, reduceIte, Int.reduceLT, Int.reduceLE, Int.reduceEq, Int.reduceNeg, Int.reduceAdd, Int.reduceSub, Nat.reduceLeDiff, Nat.reduceLT]
  by_cases c0 : t.pc = 0
  · rw [if_pos c0, c_Load hN (by omega) (by omega)]
    simp only [stOi hd, ldO hd, ruS, ruL, ruE, Nat.reduceAdd, reduceIte, Int.reduceLT, Int.reduceLE, Int.reduceEq, Int.reduceNeg, Int.reduceAdd, Int.reduceSub, Nat.reduceLeDiff, Nat.reduceLT]
    simp only [Gv.step, if_pos c0] at hk
    exact behind hN hd hk
  · by_cases c1 : t.pc = 1
    · have ha : 0 ≤ C.slot t.slot + 1 ∧ C.slot t.slot + 1 < A.n := by unfold Cf.slot; omega
      have hN1 : -1 ≤ topS t.top := by unfold topS; omega
      rw [if_neg c0, if_pos c1, c_Slot hC (by omega) (by omega)]
      simp only [xAdd]
      rw [IntWalk.i64_in (C.slot t.slot + 1) (by unfold Cf.slot; omega), c_PutTop (by omega), c_Store hN ha.1 ha.2]
      simp only [stOi hd, ldO hd, ruS, ruL, ruE, Nat.reduceAdd, reduceIte, Int.reduceLT, Int.reduceLE, Int.reduceEq, Int.reduceNeg, Int.reduceAdd, Int.reduceSub, Nat.reduceLeDiff, Nat.reduceLT]
      simp only [Gv.step, if_neg c0, if_pos c1] at hk
      exact behind hN hd hk
    · rw [if_neg c0, if_neg c1]
      simp only [stOi hd, ldO hd, c_lTop, ruS, ruL, ruE, Nat.reduceAdd, reduceIte, Int.reduceLT, Int.reduceLE, Int.reduceEq, Int.reduceNeg, Int.reduceAdd, Int.reduceSub, Nat.reduceLeDiff, Nat.reduceLT]
      have hN2 : 0 ≤ topN t.top ∧ topN t.top < 68719476736 := by unfold topN; omega
      rw [IntWalk.i64_in (topN t.top + 1) (by omega), c_PutTop (by omega), c_Cas hN (by omega) (by omega)]
      simp only [Gv.step, if_neg c0, if_neg c1] at hk
      exact behind hN hd hk
theorem hBox_i {cs : List Value} {sz : Nat} {K : Value → Mem → Prop} {σ : Mem} (h : cs.length = sz) (hk : ∀ id τ, σ.get id = none → τ.get id = some ⟨cs, true⟩ → Ext σ τ → K (.pointer (some ⟨id, 0, none⟩)) τ) :
    hBox sz [.agg cs.toArray] K σ := by
  rw [hBox_a h]
  exact fun id hid => hk id _ hid (Mem.get_set_same _ _ _) (Ext.fresh hid)
theorem Keep.fresh {L : List Nat} {τ υ : Mem} {id : Nat} (h : σ.get id = none) (e : Ext σ τ) (k : Keep (id :: L) τ υ) : Keep L σ υ := by
  intro i b hi hn
  refine k i b (e i b hi) ?_
  simp only [List.mem_cons, not_or]
  exact ⟨fun e' => (by rw [e', h] at hi; cases hi), hn⟩
theorem isA.new (h : isA N A σ) {id : Nat} (hid : σ.get id = none) : id ∉ N.l := by
  have := h.fresh hid
  simpa [Nm.l] using this
theorem c_NewGive {s : Int} (hk : ∀ id τ, σ.get id = none → τ.get id = some ⟨(Gv.mk 0 s 0).l, true⟩ → Ext σ τ → K (.pointer (some ⟨id, 0, none⟩)) τ) : s_slot_NewGive [.int .i64 s] K σ := by
  have b : ∀ K : Value → Prop, xF (fBuild [(0, 1), (1, 1), (2, 1)] [.int .i64 0, .int .i64 0, .int .u64 0] [1]) [.int .i64 s] K = K (.agg #[.int .i64 0, .int .i64 s, .int .u64 0]) := fun K => nr rfl
  simp only [s_slot_NewGive, w_slot_NewGive, b, ruS, Nat.reduceAdd, reduceIte, Int.reduceLT, Int.reduceLE, Int.reduceEq, Int.reduceNeg, Int.reduceAdd, Int.reduceSub]
  exact hBox_i (cs := [_, _, _]) rfl hk
theorem xLoop_i {F : (List Value → List (List Value) → Mem → Prop) → List Value → List (List Value) → Mem → Prop} (enc : Int → List Value) (ls : List (List Value)) (m : Int) (I : Int → Mem → Prop)
    (hr : ∀ i σ, I i σ → ∀ R : List Value → List (List Value) → Mem → Prop, (∀ τ, i < m → I (i + 1) τ → R (enc (i + 1)) ls τ) → F R (enc i) ls σ) {i : Int} {σ : Mem} (h0 : I i σ) : xLoop F (enc i) ls σ := by
  refine xLoop_inv (fun k ts l τ => ∃ i, k = (m - i).toNat ∧ ts = enc i ∧ l = ls ∧ I i τ) ?_ (n := (m - i).toNat) ⟨i, rfl, rfl, rfl, h0⟩
  rintro k ts l τ ⟨i, rfl, rfl, rfl, h⟩
  exact hr i τ h _ fun υ hi h' => ⟨_, by omega, i + 1, rfl, rfl, rfl, h'⟩
theorem xLoop_r {F : (List Value → List (List Value) → Mem → Prop) → List Value → List (List Value) → Mem → Prop} (I : Nat → List Value → List (List Value) → Mem → Prop)
    (hr : ∀ n ts ls σ, I n ts ls σ → ∀ R : List Value → List (List Value) → Mem → Prop, (∀ m ts' ls' σ', m < n → I m ts' ls' σ' → R ts' ls' σ') → F R ts ls σ)
    {n : Nat} {ts : List Value} {ls : List (List Value)} {σ : Mem} (h0 : I n ts ls σ) : xLoop F ts ls σ :=
  xLoop_inv I (fun n ts ls σ h => hr n ts ls σ h _ fun m ts' ls' σ' hm h' => ⟨m, hm, h'⟩) h0
theorem ldCells {k : IntKind} {n q : Nat} {g : Int → Int} {i : Int} {b : Bool} (h : σ.get q = some ⟨cells k n g, b⟩) (h0 : 0 ≤ i) (h1 : i < n) :
    hLoad 1 false [.pointer (some ⟨q, i.toNat * 1, none⟩)] K σ = K (.int k (g i)) σ := by
  have := cells_sub k g h0 h1
  rw [Nat.zero_add] at this
  rw [hLoad_eq h, this, xOs]
theorem xAndI {K : Value → Prop} {Q : EqK} {k : Nat} {a : Int} (hk : k ≤ 62) : xF (fBin .and Q) [.int .i64 a, .int .i64 (2 ^ k - 1)] K = K (.int .i64 (a % 2 ^ k)) := by
  have e : ((2 : Int) ^ k - 1) = ((2 ^ k - 1 : Nat) : Int) := by
    push_cast [Nat.one_le_two_pow]
    rfl
  have hp : 0 < 2 ^ k := Nat.two_pow_pos k
  have e2 : ((2 ^ k : Nat) : Int) = 2 ^ k := by push_cast; rfl
  have hb : 2 ^ k ≤ 2 ^ 62 := Nat.pow_le_pow_right (by decide) hk
  have hd : (2 ^ k : Nat) ∣ 2 ^ 64 := Nat.pow_dvd_pow 2 (by omega)
  have q : ((BitVec.ofInt 64 a &&& BitVec.ofInt 64 ((2 ^ k - 1 : Nat) : Int)).toNat : Int) = a % 2 ^ k := by
    rw [BitVec.toNat_and, BitVec.toNat_ofInt, BitVec.toNat_ofInt]
    have h4 : (((2 ^ k - 1 : Nat) : Int) % ((2 ^ 64 : Nat) : Int)).toNat = 2 ^ k - 1 := by omega
    rw [h4, Nat.and_two_pow_sub_one_eq_mod, Int.natCast_emod, Int.toNat_of_nonneg (by omega), Int.emod_emod_of_dvd a (Int.natCast_dvd_natCast.2 hd), e2]
  simp only [xF, fBin, isSh, binI, Bool.false_eq_true, if_false, if_true]
  show K (.int .i64 (IntKind.i64.wrap ((BitVec.ofInt 64 a &&& BitVec.ofInt 64 (2 ^ k - 1)).toNat : Int))) = _
  rw [e, q]
  have h1 : 0 ≤ a % 2 ^ k := by rw [← e2]; exact Int.emod_nonneg _ (by omega)
  have h2 : a % 2 ^ k < 2 ^ k := by rw [← e2]; exact Int.emod_lt_of_pos _ (by omega)
  have h3 : (2 : Int) ^ k ≤ 4611686018427387904 := by rw [← e2]; omega
  rw [IntWalk.i64_in _ (by omega)]
theorem gStoreE {k : Nat} : gStore 9 [.pointer (some ⟨k, 0, some 0⟩), N.env C who] [.int .i64 0, .int .i64 0, .int .i64 0, .int .i64 0, .int .i64 0, .int .i64 0, .int .i64 0, .pointer none, .int .i64 0] = some (N.el C who) := nr rfl
def cA (T S Ch W : Int) : Cf := ⟨T, S, Ch, W, 100, 600, 3⟩
theorem cA_ok {T S Ch W : Int} (h1 : 1 ≤ T ∧ T ≤ 8) (h2 : 1 ≤ S ∧ S ≤ 65536) (h3 : 1 ≤ Ch ∧ Ch ≤ 64) (h4 : 17 ≤ W ∧ W ≤ 256) : (cA T S Ch W).ok :=
  ⟨h1, h2, h3, h4, ⟨by show (1 : Int) ≤ 100; decide, by show (100 : Int) ≤ 65535; decide⟩, ⟨by show (0 : Int) ≤ 600; decide, by show (600 : Int) ≤ 1000; decide⟩, ⟨by show (1 : Int) ≤ 3; decide, by show (3 : Int) ≤ 16; decide⟩⟩
theorem Keep.get {L : List Nat} {τ : Mem} {i : Nat} {b : Blk} (k : Keep L σ τ) (h : σ.get i = some b) (hn : i ∉ L) : τ.get i = some b := k i b h hn
structure Aft (A A' : Ar) (k : Int) (w : Int → Int) : Prop where
  n : A'.n = A.n
  w : A'.w = w
  s : A'.s = A.s + k
  t : ∀ i, A'.t i = A.t i ∨ A.s < A'.t i ∧ A'.t i ≤ A'.s
theorem Aft.ok {A' : Ar} {k b : Int} {w : Int → Int} (h : Aft A A' k w) (hk : 0 ≤ k) (ho : A.ok b) (hw : ∀ i, 0 ≤ w i ∧ w i < 18446744073709551616) : A'.ok (b + k) := by
  refine ⟨fun i => by rw [h.w]; exact hw i, ?_, fun i => ?_⟩
  · have := ho.s; have := h.s; omega
  · have := ho.s; have := h.s; have := ho.t i
    rcases h.t i with e | e <;> omega
theorem Aft.trans {A' A'' : Ar} {k k' : Int} {w w' : Int → Int} (h : Aft A A' k w) (h' : Aft A' A'' k' w') (hk : 0 ≤ k) (hk' : 0 ≤ k') : Aft A A'' (k + k') w' := by
  refine ⟨h'.n.trans h.n, h'.w, by rw [h'.s, h.s]; omega, fun i => ?_⟩
  have := h.s; have := h'.s
  rcases h'.t i with e | e
  · rw [e]
    rcases h.t i with e | e <;> omega
  · omega
theorem aft_load {b a : Int} (h : A.ok b) (hb : b < 9223372036854775807) : Aft A ((A.by who).load a) 1 A.w :=
  ⟨rfl, rfl, by rw [load_s, by_s, h.s1 hb], fun i => .inl rfl⟩
theorem aft_store {b a v : Int} (h : A.ok b) (hb : b < 9223372036854775807) : Aft A ((A.by who).store a v) 1 (upd A.w a v) := by
  refine ⟨rfl, rfl, by rw [store_s, by_s, h.s1 hb], fun i => ?_⟩
  rw [store_t, by_s, h.s1 hb, store_s, by_s, h.s1 hb]
  split
  · unfold upd; split
    · right; omega
    · left; rfl
  · left; rfl
theorem aft_cas {b a o v : Int} (h : A.ok b) (hb : b < 9223372036854775807) : Aft A ((A.by who).cas a o v) 1 (if A.w a = o then upd A.w a v else A.w) := by
  by_cases hc : A.w a = o
  · rw [if_pos hc, cas_yes (by exact hc)]; exact aft_store h hb
  · rw [if_neg hc, cas_no (by exact hc)]; exact aft_load h hb
end Go.Fl
namespace Go.Fl
open Go
set_option linter.unusedVariables false
set_option linter.unusedSimpArgs false
variable {N : Nm} {A B : Ar} {σ : Mem} {K : Value → Mem → Prop} {C : Cf} {who : Int}
def ArgI (k : IntKind) (σ : Mem) (s : Value) (n : Nat) (g : Int → Int) : Prop := ∃ a c, s = .slice a n c ∧ (0 < n → ∃ b rw, a = some ⟨b, 0, none⟩ ∧ σ.get b = some ⟨cells k n g, rw⟩)
theorem Sl.argI {k : IntKind} {s : Value} {n : Nat} {cs : List Value} (h : Sl σ 1 n cs s) (hf : FlatL (List.replicate n [some k]).flatten cs) : ∃ g, ArgI k σ s n g ∧ ∀ i, (Lit.int k (g i)).wf = true := by
  obtain ⟨g, rfl, hw⟩ := hf.ints
  refine ⟨g, ?_, hw⟩
  generalize hc : cells k n g = cs at h
  cases h with
  | nil => exact ⟨none, 0, rfl, fun h => absurd h (Nat.lt_irrefl 0)⟩
  | mk hl hg =>
    rename_i b
    refine ⟨some ⟨b, 0, none⟩, 1, rfl, fun h => ?_⟩
    rcases hg with hg | ⟨rw, hg⟩
    · omega
    · exact ⟨b, rw, rfl, by rw [hg, hc]⟩
theorem ArgI.keep {kd : IntKind} {s : Value} {n : Nat} {g : Int → Int} {τ : Mem} (h : ArgI kd σ s n g) (k : Ext σ τ) : ArgI kd τ s n g := by
  obtain ⟨a, c, rfl, h⟩ := h
  refine ⟨a, c, rfl, fun hn => ?_⟩
  obtain ⟨b, rw, e, h⟩ := h hn
  exact ⟨b, rw, e, k _ _ h⟩
theorem ArgI.len {k : IntKind} {s : Value} {n : Nat} {g : Int → Int} (h : ArgI k σ s n g) {K : Value → Prop} : xF fLen [s] K = K (.int .i64 n) := by
  obtain ⟨a, c, rfl, _⟩ := h; exact xLen
theorem ArgI.ix {k' : IntKind} {s : Value} {n : Nat} {g : Int → Int} (h : ArgI k' σ s n g) {i : Int} (h0 : 0 ≤ i) (h1 : i < n) {kd : IntKind} :
    (xF (fIxS 1) [s, .int kd i] fun v => hLoad 1 false [v] K σ) = K (.int k' (g i)) σ := by
  obtain ⟨a, c, rfl, h⟩ := h
  obtain ⟨b, rw, rfl, h'⟩ := h (by omega)
  rw [xIxS h0 h1]
  simp only [Nat.zero_add]
  exact ldCells h' h0 h1
theorem Ext.keep' {σ0 τ : Mem} {L : List Nat} (h : Ext σ0 σ) (k : Keep L σ τ) (hL : ∀ i ∈ L, σ0.get i = none) : Ext σ0 τ := by
  intro i b hi
  refine k i b (h i b hi) fun hm => ?_
  rw [hL i hm] at hi; cases hi
theorem Ext.none {τ : Mem} (h : Ext σ τ) {i : Nat} (hi : τ.get i = none) : σ.get i = none := by
  cases e : σ.get i with
  | none => rfl
  | some b => rw [h i b e] at hi; cases hi
theorem Nm.fr.all (h : N.fr σ) : ∀ i ∈ N.l, σ.get i = none := by
  intro i hi
  simp only [Nm.l, List.mem_cons, List.not_mem_nil, or_false] at hi
  rcases hi with rfl | rfl | rfl
  · exact h.m
  · exact h.w
  · exact h.t
theorem FlatL.split : ∀ {ks ls : List (Option IntKind)} {cs : List Value}, FlatL (ks ++ ls) cs → FlatL ks (cs.take ks.length) ∧ FlatL ls (cs.drop ks.length)
  | [], ls, cs, h => ⟨.nil, h⟩
  | k :: ks, ls, cs, h => by
    cases h with
    | cons h1 h2 =>
      obtain ⟨a, b⟩ := FlatL.split h2
      exact ⟨.cons h1 a, b⟩
section
variable {b o : Nat} {pre L post : List Value} {rw : Bool}
end
end Go.Fl
namespace Go.Fl
open Go
set_option linter.unusedVariables false
set_option linter.unusedSimpArgs false
variable {N : Nm} {A B : Ar} {σ : Mem} {K : Value → Mem → Prop} {C : Cf} {who : Int}
def slS (w : Int) : Int := w % 8
def slA (w : Int) : Int := w / 8 % 1048576
def slG (w : Int) : Int := w / 8388608 % 65536
def slV (w : Int) : Int := w / 549755813888 % 4194304
theorem c_wSlot {w : Int} (h0 : 0 ≤ w) (h1 : w < 18446744073709551616) : s_word_Slot [.int .u64 w] K σ = K (.agg #[.int .i64 (slS w), .int .i64 (slA w), .int .i64 (slG w), .int .i64 (slV w)]) σ := by
  have b : ∀ (a b c d : Int) (K : Value → Prop), xF (fBuild [(0, 1), (1, 1), (2, 1), (3, 1)] [.int .i64 0, .int .i64 0, .int .i64 0, .int .i64 0] [0, 1, 2, 3]) [.int .i64 a, .int .i64 b, .int .i64 c, .int .i64 d] K =
      K (.agg #[.int .i64 a, .int .i64 b, .int .i64 c, .int .i64 d]) := fun _ _ _ _ K => nr rfl
  simp only [s_word_Slot, w_word_Slot, gAlloc_s, xCs, ruS, Nat.reduceAdd, reduceIte, Int.reduceLT, Int.reduceLE, Int.reduceEq, Int.reduceNeg, Int.reduceAdd, Int.reduceSub]
  rw [and3 h0 h1]
  simp only [ruS, Nat.reduceAdd, reduceIte, Int.reduceLT, Int.reduceLE, Int.reduceEq, Int.reduceNeg, Int.reduceAdd, Int.reduceSub]
  rw [shr3 h0, and20 (by omega) (by omega)]
  simp only [ruS, Nat.reduceAdd, reduceIte, Int.reduceLT, Int.reduceLE, Int.reduceEq, Int.reduceNeg, Int.reduceAdd, Int.reduceSub]
  rw [shr23 h0, and16 (by omega) (by omega)]
  simp only [ruS, Nat.reduceAdd, reduceIte, Int.reduceLT, Int.reduceLE, Int.reduceEq, Int.reduceNeg, Int.reduceAdd, Int.reduceSub]
  rw [shr39 h0, and22 (by omega) (by omega)]
  simp only [ruS, Nat.reduceAdd, reduceIte, Int.reduceLT, Int.reduceLE, Int.reduceEq, Int.reduceNeg, Int.reduceAdd, Int.reduceSub]
  rw [IntWalk.i64_in (w % 8) (by omega), IntWalk.i64_in (w / 8 % 1048576) (by omega), IntWalk.i64_in (w / 8388608 % 65536) (by omega), IntWalk.i64_in (w / 549755813888 % 4194304) (by omega), b]
  simp only [ruS, ruL, ruX, Nat.reduceAdd, reduceIte, Int.reduceLT, Int.reduceLE, Int.reduceEq, Int.reduceNeg, Int.reduceAdd, Int.reduceSub, Nat.reduceLeDiff]
  rfl
theorem slA_bd (w : Int) : 0 ≤ slA w ∧ slA w ≤ 1048575 := by unfold slA; omega
theorem slG_bd (w : Int) : 0 ≤ slG w ∧ slG w ≤ 65535 := by unfold slG; omega
theorem slV_bd (w : Int) : 0 ≤ slV w ∧ slV w ≤ 4194303 := by unfold slV; omega
theorem sl_put {st ad ge ve : Int} (h1 : 0 ≤ st ∧ st ≤ 7) (h2 : 0 ≤ ad ∧ ad ≤ 1048575) (h3 : 0 ≤ ge ∧ ge ≤ 65535) (h4 : 0 ≤ ve ∧ ve ≤ 4194303) :
    slS (putSlot st ad ge ve) = st ∧ slA (putSlot st ad ge ve) = ad ∧ slG (putSlot st ad ge ve) = ge ∧ slV (putSlot st ad ge ve) = ve := by
  have e : putSlot st ad ge ve = st + ad * 8 + ge * 8388608 + ve * 549755813888 := by unfold putSlot; rw [cl_in h1.1 h1.2, cl_in h2.1 h2.2, cl_in h3.1 h3.2, cl_in h4.1 h4.2]
  rw [e]; unfold slS slA slG slV; omega
def bI (b : Bool) : Int := if b = true then 1 else 0
def putHead (k s t g : Int) (o : Bool) : Int := cl k 3 + cl s 65535 * 4 + cl t 65535 * 262144 + cl g 65535 * 17179869184 + bI o * 1125899906842624
theorem bI_bd (b : Bool) : 0 ≤ bI b ∧ bI b ≤ 1 := by cases b <;> decide
theorem putHead_in (k s t g : Int) (o : Bool) : 0 ≤ putHead k s t g o ∧ putHead k s t g o < 18446744073709551616 := by have := bI_bd o; unfold putHead cl; omega
def hdK (w : Int) : Int := w % 4
def hdS (w : Int) : Int := w / 4 % 65536
def hdT (w : Int) : Int := w / 262144 % 65536
def hdG (w : Int) : Int := w / 17179869184 % 65536
def hdO (w : Int) : Bool := decide (w / 1125899906842624 % 2 = 1)
theorem hd_put {k s t g : Int} {o : Bool} (h1 : 0 ≤ k ∧ k ≤ 3) (h2 : 0 ≤ s ∧ s ≤ 65535) (h3 : 0 ≤ t ∧ t ≤ 65535) (h4 : 0 ≤ g ∧ g ≤ 65535) :
    hdK (putHead k s t g o) = k ∧ hdS (putHead k s t g o) = s ∧ hdT (putHead k s t g o) = t ∧ hdG (putHead k s t g o) = g ∧ hdO (putHead k s t g o) = o := by
  have e : putHead k s t g o = k + s * 4 + t * 262144 + g * 17179869184 + bI o * 1125899906842624 := by unfold putHead; rw [cl_in h1.1 h1.2, cl_in h2.1 h2.2, cl_in h3.1 h3.2, cl_in h4.1 h4.2]
  have hb := bI_bd o
  rw [e]; unfold hdK hdS hdT hdG hdO
  refine ⟨by omega, by omega, by omega, by omega, ?_⟩
  have : (k + s * 4 + t * 262144 + g * 17179869184 + bI o * 1125899906842624) / 1125899906842624 % 2 = bI o := by omega
  rw [this]; cases o <;> rfl
theorem c_PutHead {k s t g : Int} {o : Bool} : s_word_PutHead [.agg #[.int .i64 k, .int .i64 s, .int .i64 t, .int .i64 g, .bool o]] K σ = K (.int .u64 (putHead k s t g o)) σ := by
  simp only [s_word_PutHead, w_word_PutHead, w_word_PutHead_j1, w_word_PutHead_j1b, ruS, ruL, ruX, Nat.reduceAdd, reduceIte, Int.reduceLT, Int.reduceLE, Int.reduceEq, Int.reduceNeg, Int.reduceAdd, Int.reduceSub, Nat.reduceLeDiff]
  have h1 := @cl_le k 3
  have h2 := @cl_nn k 3 (by decide)
  have h3 := @cl_le s 65535
  have h4 := @cl_nn s 65535 (by decide)
  have h5 := @cl_le t 65535
  have h6 := @cl_nn t 65535 (by decide)
  have h7 := @cl_le g 65535
  have h8 := @cl_nn g 65535 (by decide)
  rw [c_fit (by decide) (by decide), c_fit (by decide) (by decide), shl2 h4 (by omega), or2 h2 (by omega) h4 (by omega), c_fit (by decide) (by decide), shl18 h6 (by omega), or18 (by omega) (by omega) h6 (by omega),
    c_fit (by decide) (by decide), shl34 h8 (by omega), or34 (by omega) (by omega) h8 (by omega)]
  have o50 : ∀ K : Value → Prop, xF (fBin .or .no) [.int .u64 (cl k 3 + cl s 65535 * 4 + cl t 65535 * 262144 + cl g 65535 * 17179869184), .int .u64 1125899906842624] K = K (.int .u64 (cl k 3 + cl s 65535 * 4 + cl t 65535 * 262144 + cl g 65535 * 17179869184 + 1 * 1125899906842624)) :=
    fun K => or50 (c := 1) (by omega) (by omega) (by decide) (by omega)
  cases o
  · simp only [xIfB, ruS, ruL, ruX, Nat.reduceAdd, reduceIte, Int.reduceLT, Int.reduceLE, Int.reduceEq, Int.reduceNeg, Int.reduceAdd, Int.reduceSub, Nat.reduceLeDiff]
    unfold putHead bI; simp
  · simp only [xIfB, o50, ruS, ruL, ruX, Nat.reduceAdd, reduceIte, Int.reduceLT, Int.reduceLE, Int.reduceEq, Int.reduceNeg, Int.reduceAdd, Int.reduceSub, Nat.reduceLeDiff]
    unfold putHead bI; simp
theorem c_wHead {w : Int} (h0 : 0 ≤ w) (h1 : w < 18446744073709551616) : s_word_Head [.int .u64 w] K σ = K (.agg #[.int .i64 (hdK w), .int .i64 (hdS w), .int .i64 (hdT w), .int .i64 (hdG w), .bool (hdO w)]) σ := by
  have b : ∀ (a b c d : Int) (e : Bool) (K : Value → Prop), xF (fBuild [(0, 1), (1, 1), (2, 1), (3, 1), (4, 1)] [.int .i64 0, .int .i64 0, .int .i64 0, .int .i64 0, .bool false] [0, 1, 2, 3, 4]) [.int .i64 a, .int .i64 b, .int .i64 c, .int .i64 d, .bool e] K =
      K (.agg #[.int .i64 a, .int .i64 b, .int .i64 c, .int .i64 d, .bool e]) := fun _ _ _ _ _ K => nr rfl
  simp only [s_word_Head, w_word_Head, gAlloc_s, xCs, ruS, Nat.reduceAdd, reduceIte, Int.reduceLT, Int.reduceLE, Int.reduceEq, Int.reduceNeg, Int.reduceAdd, Int.reduceSub]
  rw [and2 h0 h1]
  simp only [ruS, Nat.reduceAdd, reduceIte, Int.reduceLT, Int.reduceLE, Int.reduceEq, Int.reduceNeg, Int.reduceAdd, Int.reduceSub]
  rw [shr2 h0, and16 (by omega) (by omega)]
  simp only [ruS, Nat.reduceAdd, reduceIte, Int.reduceLT, Int.reduceLE, Int.reduceEq, Int.reduceNeg, Int.reduceAdd, Int.reduceSub]
  rw [shr18 h0, and16 (by omega) (by omega)]
  simp only [ruS, Nat.reduceAdd, reduceIte, Int.reduceLT, Int.reduceLE, Int.reduceEq, Int.reduceNeg, Int.reduceAdd, Int.reduceSub]
  rw [shr34 h0, and16 (by omega) (by omega)]
  simp only [ruS, Nat.reduceAdd, reduceIte, Int.reduceLT, Int.reduceLE, Int.reduceEq, Int.reduceNeg, Int.reduceAdd, Int.reduceSub]
  rw [shr50 h0, and1 (by omega) (by omega)]
  simp only [ruS, Nat.reduceAdd, reduceIte, Int.reduceLT, Int.reduceLE, Int.reduceEq, Int.reduceNeg, Int.reduceAdd, Int.reduceSub]
  rw [IntWalk.i64_in (w % 4) (by omega), IntWalk.i64_in (w / 4 % 65536) (by omega), IntWalk.i64_in (w / 262144 % 65536) (by omega), IntWalk.i64_in (w / 17179869184 % 65536) (by omega), b]
  simp only [ruS, ruL, ruX, Nat.reduceAdd, reduceIte, Int.reduceLT, Int.reduceLE, Int.reduceEq, Int.reduceNeg, Int.reduceAdd, Int.reduceSub, Nat.reduceLeDiff]
  rfl
def putHandle (s g : Int) : Int := cl s 65535 + cl g 65535 * 65536
theorem c_PutHandle {s g : Int} : s_word_PutHandle [.agg #[.int .i64 s, .int .i64 g]] K σ = K (.int .u64 (putHandle s g)) σ := by
  simp only [s_word_PutHandle, w_word_PutHandle, ruS, ruL, ruX, Nat.reduceAdd, reduceIte, Int.reduceLT, Int.reduceLE, Int.reduceEq, Int.reduceNeg, Int.reduceAdd, Int.reduceSub, Nat.reduceLeDiff]
  have h1 := @cl_le s 65535
  have h2 := @cl_nn s 65535 (by decide)
  have h3 := @cl_le g 65535
  have h4 := @cl_nn g 65535 (by decide)
  rw [c_fit (by decide) (by decide), c_fit (by decide) (by decide), shl16 h4 (by omega), or16 h2 (by omega) h4 (by omega)]
  rfl
theorem c_wHandle {w : Int} (h0 : 0 ≤ w) (h1 : w < 4294967296) (h2 : 65536 ≤ w) : s_word_Handle [.int .u64 w] K σ = K (.tuple #[.agg #[.int .i64 (w % 65536), .int .i64 (w / 65536)], .bool true]) σ := by
  have b : ∀ (a b : Int) (K : Value → Prop), xF (fBuild [(0, 1), (1, 1)] [.int .i64 0, .int .i64 0] [0, 1]) [.int .i64 a, .int .i64 b] K = K (.agg #[.int .i64 a, .int .i64 b]) := fun _ _ K => nr rfl
  simp only [s_word_Handle, w_word_Handle, w_word_Handle_j1, w_word_Handle_j1b, gAlloc_s, xCs, ruS, Nat.reduceAdd, reduceIte, Int.reduceLT, Int.reduceLE, Int.reduceEq, Int.reduceNeg, Int.reduceAdd, Int.reduceSub]
  have e1 : w / 4294967296 = 0 := by omega
  have e2 : ¬ w / 65536 = 0 := by omega
  rw [shr32 h0, e1]
  simp only [ruS, Nat.reduceAdd, reduceIte, Int.reduceLT, Int.reduceLE, Int.reduceEq, Int.reduceNeg, Int.reduceAdd, Int.reduceSub]
  rw [shr16 h0]
  simp only [e2, ruS, Nat.reduceAdd, reduceIte, Int.reduceLT, Int.reduceLE, Int.reduceEq, Int.reduceNeg, Int.reduceAdd, Int.reduceSub]
  rw [and16 h0 (by omega)]
  simp only [ruS, Nat.reduceAdd, reduceIte, Int.reduceLT, Int.reduceLE, Int.reduceEq, Int.reduceNeg, Int.reduceAdd, Int.reduceSub]
  rw [shr16 h0]
  simp only [ruS, Nat.reduceAdd, reduceIte, Int.reduceLT, Int.reduceLE, Int.reduceEq, Int.reduceNeg, Int.reduceAdd, Int.reduceSub]
  rw [IntWalk.i64_in (w % 65536) (by omega), IntWalk.i64_in (w / 65536) (by omega), b]
  simp only [ruS, ruL, ruX, Nat.reduceAdd, reduceIte, Int.reduceLT, Int.reduceLE, Int.reduceEq, Int.reduceNeg, Int.reduceAdd, Int.reduceSub, Nat.reduceLeDiff]
end Go.Fl
