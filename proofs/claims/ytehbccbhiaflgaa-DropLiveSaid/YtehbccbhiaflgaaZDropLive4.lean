/- What the claim leans on, part 4: own readings of the program's functions, what they come to, laws of them. No condition. -/
import Derived.Test.YtehbccbhiaflgaaZDropLive3
namespace Go.Fl
open Go Go.Proofs
set_option linter.unusedVariables false
set_option maxRecDepth 10000000
def w_word_Cell_j1b (K : Value → Mem → Prop) (c2 c3 : List Value) (σ : Mem) : Prop :=
xO (gLoad 3 true [(locP 3)] c3) fun v18 =>
xC (gStore 3 [(locP 2), v18] c2) fun c2 =>
xO (gLoad 3 true [(locP 2)] c2) fun r2 =>
K r2 σ
def w_word_Cell_j1 (K : Value → Mem → Prop) (ts : List Value) (ls : List (List Value)) (σ : Mem) : Prop := w_word_Cell_j1b K (ls.getD 0 []) (ls.getD 1 []) σ
def w_word_Cell (a0 : Value) (K : Value → Mem → Prop) (σ : Mem) : Prop :=
if true = true then (xC (gAlloc [(.int .i64 0), (.bool false), (.int .i64 0)] [] []) fun c2 =>
xF fMove [a0] fun v4 =>
xF (fBin .and .no) [v4, (.int .u64 1099511627775)] fun v5 =>
xF (fConv .i64) [v5] fun v6 =>
xF fMove [a0] fun v7 =>
xF (fBin .shr .no) [v7, (.int .u64 63)] fun v8 =>
xF (fBin .eql .no) [v8, (.int .u64 1)] fun v9 =>
xF (fBuild [(0, 1), (1, 1), (2, 1)] [(.int .i64 0), (.bool false), (.int .i64 0)] [0, 1]) [v6, v9] fun v10 =>
if true = true then (xC (gAlloc [(.int .i64 0), (.bool false), (.int .i64 0)] [] []) fun c3 =>
xC (gStore 3 [(locP 3), v10] c3) fun c3 =>
xJoin (w_word_Cell_j1 K) fun J1 =>
xF (fFld 1) [(locP 3)] fun v11 =>
xO (gLoad 1 false [v11] c3) fun v12 =>
xIf v12
 (xF fMove [a0] fun v13 =>
xF (fBin .shr .no) [v13, (.int .u64 40)] fun v14 =>
xF (fBin .and .no) [v14, (.int .u64 4194303)] fun v15 =>
xF (fConv .i64) [v15] fun v16 =>
xF (fFld 2) [(locP 3)] fun v17 =>
xC (gStore 1 [v17, v16] c3) fun c3 =>
J1 [] [c2, c3] σ)
 (J1 [] [c2, c3] σ)) else False) else False
def s_word_Cell : Spec := fun args K σ => match args with
  | [a0] => w_word_Cell a0 K σ
  | _ => False
noncomputable def cx_word_Cell : Cx := { P := Try.prog, T := [], loc := [(2, 2), (3, 3), (11, 3), (17, 3)], eqt := [], n := 19, keep := [(1000005, [], [2, 3])] }
theorem q_word_Cell : FnS cx_word_Cell Try.f54 (bodyOf Try.f54) 1 = s_word_Cell := by
  funext args K σ
  rcases args with _ | ⟨a0, _ | ⟨b, r⟩⟩ <;> kernel_rfl
theorem e_word_Cell : Entry Try.prog 54 .none s_word_Cell :=
  entry (C := cx_word_Cell) TOk.nil mixedOk Try.func54 (by kernel_rfl) (by kernel_rfl) (by kernel_rfl) q_word_Cell
def xl_word_Cell : List (Nat × Nat) := [(2, 2), (3, 3), (11, 3), (17, 3)]
noncomputable def xc_word_Cell : XC XN :=
(.seq none
 (.reg [⟨none, some 2, [], ⟨.la 2 [(.int .i64 0), (.bool false), (.int .i64 0)], rAny xl_word_Cell (.la 2 [(.int .i64 0), (.bool false), (.int .i64 0)])⟩⟩])
 (.seq none
 (.reg [⟨none, some 4, [(.tmp 0)], ⟨.f fMove, rMove⟩⟩,
  ⟨none, some 5, [(.tmp 4), (.const (.int .u64 1099511627775))], ⟨.band .no, rAny xl_word_Cell (.band .no)⟩⟩,
  ⟨none, some 6, [(.tmp 5)], ⟨.f (fConv .i64), rConv .i64⟩⟩,
  ⟨none, some 7, [(.tmp 0)], ⟨.f fMove, rMove⟩⟩,
  ⟨none, some 8, [(.tmp 7), (.const (.int .u64 63))], ⟨.f (fBin .shr .no), rAny xl_word_Cell (.f (fBin .shr .no))⟩⟩,
  ⟨none, some 9, [(.tmp 8), (.const (.int .u64 1))], ⟨.f (fBin .eql .no), rEql⟩⟩,
  ⟨none, some 10, [(.tmp 6), (.tmp 9)], ⟨.f (fBuild [(0, 1), (1, 1), (2, 1)] [(.int .i64 0), (.bool false), (.int .i64 0)] [0, 1]), rAny xl_word_Cell (.f (fBuild [(0, 1), (1, 1), (2, 1)] [(.int .i64 0), (.bool false), (.int .i64 0)] [0, 1]))⟩⟩,
  ⟨none, some 3, [], ⟨.la 3 [(.int .i64 0), (.bool false), (.int .i64 0)], rAny xl_word_Cell (.la 3 [(.int .i64 0), (.bool false), (.int .i64 0)])⟩⟩,
  ⟨none, none, [(.tmp 3), (.tmp 10)], ⟨.ls 3 3, rAny xl_word_Cell (.ls 3 3)⟩⟩])
 (.seq (some ([], [2, 3]))
 (.seq none
 (.reg [⟨none, some 11, [(.tmp 3)], ⟨.f (fFld 1), rFld 1⟩⟩,
  ⟨none, some 12, [(.tmp 11)], ⟨.lr 3 1 false, rLr1 3⟩⟩])
 (.cond (.tmp 12)
 (.reg [⟨none, some 13, [(.tmp 0)], ⟨.f fMove, rMove⟩⟩,
  ⟨none, some 14, [(.tmp 13), (.const (.int .u64 40))], ⟨.f (fBin .shr .no), rAny xl_word_Cell (.f (fBin .shr .no))⟩⟩,
  ⟨none, some 15, [(.tmp 14), (.const (.int .u64 4194303))], ⟨.band .no, rAny xl_word_Cell (.band .no)⟩⟩,
  ⟨none, some 16, [(.tmp 15)], ⟨.f (fConv .i64), rConv .i64⟩⟩,
  ⟨none, some 17, [(.tmp 3)], ⟨.f (fFld 2), rFld 2⟩⟩,
  ⟨none, none, [(.tmp 17), (.tmp 16)], ⟨.ls 3 1, rLs1 3⟩⟩])
 .skip))
 (.seq none
 (.reg [⟨none, some 18, [(.tmp 3)], ⟨.lr 3 3 true, rAny xl_word_Cell (.lr 3 3 true)⟩⟩,
  ⟨none, none, [(.tmp 2), (.tmp 18)], ⟨.ls 2 3, rAny xl_word_Cell (.ls 2 3)⟩⟩])
 .ret))))
noncomputable def v_word_Cell : EvF := evFn 1 xc_word_Cell [.c 2 2 3 true]
theorem xt_word_Cell : toC cx_word_Cell (bodyOf Try.f54) = some (xc_word_Cell.map XN.sm) := by kernel_rfl
theorem xr_word_Cell : toR cx_word_Cell Try.f54.results.toList = some [.c 2 2 3 true] := by kernel_rfl
theorem xo_word_Cell : xc_word_Cell.ok xl_word_Cell := ⟨⟨rAny_ok (trivial), trivial⟩, ⟨⟨rMove_ok, rAny_ok (trivial), rConv_ok _, rMove_ok, rAny_ok (eqv_bin _ _), rEql_ok, rAny_ok (eqv_build _ rfl _), rAny_ok (trivial), rAny_ok (trivial), trivial⟩, ⟨⟨⟨rFld_ok _, rLr1_ok _, trivial⟩, ⟨⟨rMove_ok, rAny_ok (eqv_bin _ _), rAny_ok (trivial), rConv_ok _, rFld_ok _, rLs1_ok _, trivial⟩, trivial⟩⟩, ⟨⟨rAny_ok (trivial), rAny_ok (trivial), trivial⟩, trivial⟩⟩⟩⟩
theorem ve_word_Cell : EvOk s_word_Cell v_word_Cell := EvOk.of (evFn_sound (C := cx_word_Cell) xt_word_Cell xr_word_Cell xo_word_Cell) q_word_Cell
attribute [irreducible] w_word_Cell_j1b w_word_Cell_j1 w_word_Cell s_word_Cell
def w_word_PutCell_j1b (K : Value → Mem → Prop) (v3 : Value) (σ : Mem) : Prop :=
xF fMove [v3] fun v16 =>
xF fMove [v16] fun v2 =>
K v2 σ
def w_word_PutCell_j1 (K : Value → Mem → Prop) (ts : List Value) (ls : List (List Value)) (σ : Mem) : Prop := w_word_PutCell_j1b K (ts.getD 0 poison) σ
def w_word_PutCell (a0 : Value) (K : Value → Mem → Prop) (σ : Mem) : Prop :=
xC (gBox 3 [a0] []) fun c1 =>
xF fMove [(.int .u64 0)] fun v2 =>
xF (fFld 0) [(locP 1)] fun v4 =>
xO (gLoad 1 false [v4] c1) fun v5 =>
s_word_fit [v5, (.int .i64 1099511627775)] (fun v6 σ =>
xF fMove [v6] fun v3 =>
xJoin (w_word_PutCell_j1 K) fun J1 =>
xF (fFld 1) [(locP 1)] fun v7 =>
xO (gLoad 1 false [v7] c1) fun v8 =>
xIf v8
 (xF fMove [v3] fun v9 =>
xF (fFld 2) [(locP 1)] fun v10 =>
xO (gLoad 1 false [v10] c1) fun v11 =>
s_word_fit [v11, (.int .i64 4194303)] (fun v12 σ =>
xF (fBin .shl .no) [v12, (.int .u64 40)] fun v13 =>
xF (fBin .or .no) [(.int .u64 9223372036854775808), v13] fun v14 =>
xF (fBin .or .no) [v9, v14] fun v15 =>
xF fMove [v15] fun v3 =>
J1 [v3] [] σ) σ)
 (J1 [v3] [] σ)) σ
def s_word_PutCell : Spec := fun args K σ => match args with
  | [a0] => w_word_PutCell a0 K σ
  | _ => False
noncomputable def cx_word_PutCell : Cx := { P := Try.prog, T := [(53, .none, s_word_fit)], loc := [(1, 1), (4, 1), (7, 1), (10, 1)], eqt := [], n := 17, keep := [(1000005, [3], [])] }
theorem q_word_PutCell : FnS cx_word_PutCell Try.f56 (bodyOf Try.f56) 1 = s_word_PutCell := by
  funext args K σ
  rcases args with _ | ⟨a0, _ | ⟨b, r⟩⟩ <;> kernel_rfl
theorem e_word_PutCell : Entry Try.prog 56 .none s_word_PutCell :=
  entry (C := cx_word_PutCell) (TOk.cons e_word_fit TOk.nil) mixedOk Try.func56 (by kernel_rfl) (by kernel_rfl) (by kernel_rfl) q_word_PutCell
def xl_word_PutCell : List (Nat × Nat) := [(1, 1), (4, 1), (7, 1), (10, 1)]
noncomputable def xc_word_PutCell : XC XN :=
(.seq none
 (.reg [⟨none, some 1, [(.tmp 0)], ⟨.lb 1 3, rAny xl_word_PutCell (.lb 1 3)⟩⟩,
  ⟨none, some 2, [(.const (.int .u64 0))], ⟨.f fMove, rMove⟩⟩])
 (.seq none
 (.reg [⟨none, some 4, [(.tmp 1)], ⟨.f (fFld 0), rFld 0⟩⟩,
  ⟨none, some 5, [(.tmp 4)], ⟨.lr 1 1 false, rLr1 1⟩⟩,
  ⟨none, some 6, [(.tmp 5), (.const (.int .i64 1099511627775))], ⟨.call .none s_word_fit v_word_fit, rCall v_word_fit⟩⟩,
  ⟨none, some 3, [(.tmp 6)], ⟨.f fMove, rMove⟩⟩])
 (.seq (some ([3], []))
 (.seq none
 (.reg [⟨none, some 7, [(.tmp 1)], ⟨.f (fFld 1), rFld 1⟩⟩,
  ⟨none, some 8, [(.tmp 7)], ⟨.lr 1 1 false, rLr1 1⟩⟩])
 (.cond (.tmp 8)
 (.reg [⟨none, some 9, [(.tmp 3)], ⟨.f fMove, rMove⟩⟩,
  ⟨none, some 10, [(.tmp 1)], ⟨.f (fFld 2), rFld 2⟩⟩,
  ⟨none, some 11, [(.tmp 10)], ⟨.lr 1 1 false, rLr1 1⟩⟩,
  ⟨none, some 12, [(.tmp 11), (.const (.int .i64 4194303))], ⟨.call .none s_word_fit v_word_fit, rCall v_word_fit⟩⟩,
  ⟨none, some 13, [(.tmp 12), (.const (.int .u64 40))], ⟨.f (fBin .shl .no), rAny xl_word_PutCell (.f (fBin .shl .no))⟩⟩,
  ⟨none, some 14, [(.const (.int .u64 9223372036854775808)), (.tmp 13)], ⟨.f (fBin .or .no), rAny xl_word_PutCell (.f (fBin .or .no))⟩⟩,
  ⟨none, some 15, [(.tmp 9), (.tmp 14)], ⟨.f (fBin .or .no), rAny xl_word_PutCell (.f (fBin .or .no))⟩⟩,
  ⟨none, some 3, [(.tmp 15)], ⟨.f fMove, rMove⟩⟩])
 .skip))
 (.seq none
 (.reg [⟨none, some 16, [(.tmp 3)], ⟨.f fMove, rMove⟩⟩,
  ⟨none, some 2, [(.tmp 16)], ⟨.f fMove, rMove⟩⟩])
 .ret))))
noncomputable def v_word_PutCell : EvF := evFn 1 xc_word_PutCell [.t 2]
theorem xt_word_PutCell : toC cx_word_PutCell (bodyOf Try.f56) = some (xc_word_PutCell.map XN.sm) := by kernel_rfl
theorem xr_word_PutCell : toR cx_word_PutCell Try.f56.results.toList = some [.t 2] := by kernel_rfl
theorem xo_word_PutCell : xc_word_PutCell.ok xl_word_PutCell := ⟨⟨rAny_ok (trivial), rMove_ok, trivial⟩, ⟨⟨rFld_ok _, rLr1_ok _, rCall_ok ve_word_fit, rMove_ok, trivial⟩, ⟨⟨⟨rFld_ok _, rLr1_ok _, trivial⟩, ⟨⟨rMove_ok, rFld_ok _, rLr1_ok _, rCall_ok ve_word_fit, rAny_ok (eqv_bin _ _), rAny_ok (eqv_bin _ _), rAny_ok (eqv_bin _ _), rMove_ok, trivial⟩, trivial⟩⟩, ⟨⟨rMove_ok, rMove_ok, trivial⟩, trivial⟩⟩⟩⟩
theorem ve_word_PutCell : EvOk s_word_PutCell v_word_PutCell := EvOk.of (evFn_sound (C := cx_word_PutCell) xt_word_PutCell xr_word_PutCell xo_word_PutCell) q_word_PutCell
attribute [irreducible] w_word_PutCell_j1b w_word_PutCell_j1 w_word_PutCell s_word_PutCell
def w_drop_Help_Step_j1b (K : Value → Mem → Prop) (σ : Mem) : Prop :=
xF fMove [(.bool false)] fun v4 =>
K v4 σ
def w_drop_Help_Step_j1 (K : Value → Mem → Prop) (ts : List Value) (ls : List (List Value)) (σ : Mem) : Prop := w_drop_Help_Step_j1b K σ
def w_drop_Help_Step_j2b (K : Value → Mem → Prop) (J1 : List Value → List (List Value) → Mem → Prop) (v0 : Value) (c3 c8 : List Value) (σ : Mem) : Prop :=
xF fMove [v0] fun v73 =>
xO (gLoad 9 true [(locP 3)] c3) fun v74 =>
xF (fFld 0) [(locP 3)] fun v75 =>
xO (gLoad 7 true [v75] c3) fun v76 =>
xF fMove [v0] fun v77 =>
xF fNil [v77] fun v78 =>
xF (fFld 0) [v78] fun v79 =>
hLoad 1 false [v79] (fun v80 σ =>
s_layout_Slot [v76, v80] (fun v81 σ =>
xF fMove [v0] fun v82 =>
xF fNil [v82] fun v83 =>
xF (fFld 1) [v83] fun v84 =>
hLoad 1 false [v84] (fun v85 σ =>
xO (gLoad 4 true [(locP 8)] c8) fun v86 =>
s_word_PutSlot [v86] (fun v87 σ =>
s_layout_Env_Cas [v74, v81, v85, v87] (fun v88 σ =>
xF fNil [v73] fun v89 =>
xF (fFld 6) [v89] fun v90 =>
hStore 1 [v90, v88] (fun _v σ =>
xF fMove [(.bool true)] fun v4 =>
K v4 σ) σ) σ) σ) σ) σ) σ
def w_drop_Help_Step_j2 (K : Value → Mem → Prop) (J1 : List Value → List (List Value) → Mem → Prop) (ts : List Value) (ls : List (List Value)) (σ : Mem) : Prop := w_drop_Help_Step_j2b K J1 (ts.getD 0 poison) (ls.getD 0 []) (ls.getD 1 []) σ
def w_drop_Help_Step_j3b (K : Value → Mem → Prop) (J1 : List Value → List (List Value) → Mem → Prop) (v0 : Value) (σ : Mem) : Prop :=
xF fMove [v0] fun v121 =>
xF fNil [v121] fun v122 =>
xF (fFld 5) [v122] fun v123 =>
hLoad 1 false [v123] (fun v124 σ =>
xF (fUn .not) [v124] fun v125 =>
xIf v125
 (xF fMove [v0] fun v126 =>
xF fNil [v126] fun v127 =>
xF (fFld 3) [v127] fun v128 =>
hLoad 1 false [v128] (fun v129 σ =>
xF (fBin .add .no) [v129, (.int .i64 1)] fun v130 =>
xF fNil [v126] fun v131 =>
xF (fFld 3) [v131] fun v132 =>
hStore 1 [v132, v130] (fun _v σ =>
J1 [] [] σ) σ) σ)
 (J1 [] [] σ)) σ
def w_drop_Help_Step_j3 (K : Value → Mem → Prop) (J1 : List Value → List (List Value) → Mem → Prop) (ts : List Value) (ls : List (List Value)) (σ : Mem) : Prop := w_drop_Help_Step_j3b K J1 (ts.getD 0 poison) σ
def w_drop_Help_Step (a0 a1 : Value) (K : Value → Mem → Prop) (σ : Mem) : Prop :=
xC (gBox 9 [a1] []) fun c3 =>
xF fMove [(.bool false)] fun v4 =>
xF fMove [a0] fun v9 =>
xF fNil [v9] fun v10 =>
xF (fFld 1) [v10] fun v11 =>
hLoad 1 false [v11] (fun v12 σ =>
s_word_Slot [v12] (fun v13 σ =>
xC (gStore 4 [(locP 5), v13] [(.int .i64 0), (.int .i64 0), (.int .i64 0), (.int .i64 0)]) fun c5 =>
xF (fFld 1) [(locP 5)] fun v14 =>
xO (gLoad 1 false [v14] c5) fun v15 =>
xF (fBin .add .no) [v15, (.int .i64 1)] fun v16 =>
xF fMove [a0] fun v17 =>
xF fNil [v17] fun v18 =>
xF (fFld 3) [v18] fun v19 =>
hLoad 1 false [v19] (fun v20 σ =>
xF (fBin .add .no) [v16, v20] fun v21 =>
xF fMove [v21] fun v6 =>
xF fMove [a0] fun v22 =>
xF fNil [v22] fun v23 =>
xF (fFld 4) [v23] fun v24 =>
hLoad 1 false [v24] (fun v25 σ =>
s_word_Cell [v25] (fun v26 σ =>
xC (gStore 3 [(locP 7), v26] [(.int .i64 0), (.bool false), (.int .i64 0)]) fun c7 =>
xJoin (w_drop_Help_Step_j1 K) fun J1 =>
xF fMove [a0] fun v51 =>
xF fNil [v51] fun v52 =>
xF (fFld 3) [v52] fun v53 =>
hLoad 1 false [v53] (fun v54 σ =>
xF fMove [a0] fun v55 =>
xF fNil [v55] fun v56 =>
xF (fFld 2) [v56] fun v57 =>
hLoad 1 false [v57] (fun v58 σ =>
xF (fBin .geq .no) [v54, v58] fun v59 =>
xF fMove [v59] fun v50 =>
xIf v50
 (xF (fFld 2) [(locP 5)] fun v60 =>
xO (gLoad 1 false [v60] c5) fun v61 =>
xF (fBin .add .no) [v61, (.int .i64 1)] fun v62 =>
xF (fBuild [(0, 1), (1, 1), (2, 1), (3, 1)] [(.int .i64 0), (.int .i64 0), (.int .i64 0), (.int .i64 0)] [0, 2]) [(.int .i64 0), v62] fun v63 =>
xC (gStore 4 [(locP 8), v63] [(.int .i64 0), (.int .i64 0), (.int .i64 0), (.int .i64 0)]) fun c8 =>
xJoin (w_drop_Help_Step_j2 K J1) fun J2 =>
xF (fFld 2) [(locP 5)] fun v64 =>
xO (gLoad 1 false [v64] c5) fun v65 =>
xF (fFld 0) [(locP 3)] fun v66 =>
xF (fFld 4) [v66] fun v67 =>
xO (gLoad 1 false [v67] c3) fun v68 =>
xF (fBin .geq .no) [v65, v68] fun v69 =>
xIf v69
 (xF (fFld 2) [(locP 5)] fun v70 =>
xO (gLoad 1 false [v70] c5) fun v71 =>
xF (fBuild [(0, 1), (1, 1), (2, 1), (3, 1)] [(.int .i64 0), (.int .i64 0), (.int .i64 0), (.int .i64 0)] [0, 2]) [(.int .i64 3), v71] fun v72 =>
xC (gStore 4 [(locP 8), v72] c8) fun c8 =>
J2 [a0] [c3, c8] σ)
 (J2 [a0] [c3, c8] σ))
 (xF fMove [a0] fun v92 =>
xF fNil [v92] fun v93 =>
xF (fFld 5) [v93] fun v94 =>
hLoad 1 false [v94] (fun v95 σ =>
xF (fUn .not) [v95] fun v96 =>
xF fMove [v96] fun v91 =>
xIf v91
 (xF fMove [a0] fun v97 =>
xO (gLoad 9 true [(locP 3)] c3) fun v98 =>
xF fMove [v6] fun v99 =>
s_layout_Env_Load [v98, v99] (fun v100 σ =>
xF fNil [v97] fun v101 =>
xF (fFld 4) [v101] fun v102 =>
hStore 1 [v102, v100] (fun _v σ =>
xF fMove [a0] fun v103 =>
xF fNil [v103] fun v104 =>
xF (fFld 4) [v104] fun v105 =>
hLoad 1 false [v105] (fun v106 σ =>
s_word_Cell [v106] (fun v107 σ =>
xC (gStore 3 [(locP 7), v107] c7) fun c7 =>
xJoin (w_drop_Help_Step_j3 K J1) fun J3 =>
xF fMove [a0] fun v108 =>
xF (fFld 1) [(locP 7)] fun v109 =>
xO (gLoad 1 false [v109] c7) fun v110 =>
xF (fUn .not) [v110] fun v111 =>
xF fMove [v111] fun v112 =>
xIf v112
 (xF fPick [(.bool true), (.bool true), undef] fun v118 =>
xF fNil [v108] fun v119 =>
xF (fFld 5) [v119] fun v120 =>
hStore 1 [v120, v118] (fun _v σ =>
J3 [a0] [] σ) σ)
 (xF (fFld 2) [(locP 7)] fun v113 =>
xO (gLoad 1 false [v113] c7) fun v114 =>
xF (fFld 3) [(locP 5)] fun v115 =>
xO (gLoad 1 false [v115] c5) fun v116 =>
xF (fBin .neq .no) [v114, v116] fun v117 =>
xF fPick [(.bool false), (.bool true), v117] fun v118 =>
xF fNil [v108] fun v119 =>
xF (fFld 5) [v119] fun v120 =>
hStore 1 [v120, v118] (fun _v σ =>
J3 [a0] [] σ) σ)) σ) σ) σ) σ)
 (xF fMove [a0] fun v27 =>
xF fNil [v27] fun v28 =>
xF (fFld 5) [v28] fun v29 =>
hStore 1 [v29, (.bool false)] (fun _v σ =>
xO (gLoad 9 true [(locP 3)] c3) fun v30 =>
xF fMove [v6] fun v31 =>
xF fMove [a0] fun v32 =>
xF fNil [v32] fun v33 =>
xF (fFld 4) [v33] fun v34 =>
hLoad 1 false [v34] (fun v35 σ =>
xF (fFld 0) [(locP 7)] fun v36 =>
xO (gLoad 1 false [v36] c7) fun v37 =>
xF (fFld 3) [(locP 5)] fun v38 =>
xO (gLoad 1 false [v38] c5) fun v39 =>
xF (fBuild [(0, 1), (1, 1), (2, 1)] [(.int .i64 0), (.bool false), (.int .i64 0)] [0, 1, 2]) [v37, (.bool true), v39] fun v40 =>
s_word_PutCell [v40] (fun v41 σ =>
s_layout_Env_Cas [v30, v31, v35, v41] (fun v42 σ =>
xIf v42
 (xF fMove [a0] fun v43 =>
xF fNil [v43] fun v44 =>
xF (fFld 3) [v44] fun v45 =>
hLoad 1 false [v45] (fun v46 σ =>
xF (fBin .add .no) [v46, (.int .i64 1)] fun v47 =>
xF fNil [v43] fun v48 =>
xF (fFld 3) [v48] fun v49 =>
hStore 1 [v49, v47] (fun _v σ =>
J1 [] [] σ) σ) σ)
 (J1 [] [] σ)) σ) σ) σ) σ)) σ)) σ) σ) σ) σ) σ) σ) σ
def s_drop_Help_Step : Spec := fun args K σ => match args with
  | [a0, a1] => w_drop_Help_Step a0 a1 K σ
  | _ => False
noncomputable def cx_drop_Help_Step : Cx := { P := Try.prog, T := [(22, .none, s_word_Slot), (54, .none, s_word_Cell), (24, .none, s_layout_Slot), (29, .none, s_word_PutSlot), (55, .write, s_layout_Env_Cas), (43, .write, s_layout_Env_Load), (56, .none, s_word_PutCell)], loc := [(3, 3), (5, 5), (7, 7), (8, 8), (14, 5), (36, 7), (38, 5), (60, 5), (64, 5), (66, 3), (67, 3), (70, 5), (75, 3), (109, 7), (113, 7), (115, 5)], eqt := [], n := 133, keep := [(1000012, [0], [3, 8]), (1000018, [0], []), (1000020, [], [])] }
theorem q_drop_Help_Step : FnS cx_drop_Help_Step Try.f31 (bodyOf Try.f31) 2 = s_drop_Help_Step := by
  funext args K σ
  rcases args with _ | ⟨a0, _ | ⟨a1, _ | ⟨b, r⟩⟩⟩ <;> kernel_rfl
theorem e_drop_Help_Step : Entry Try.prog 31 .write s_drop_Help_Step :=
  entry (C := cx_drop_Help_Step) (TOk.cons e_word_Slot (TOk.cons e_word_Cell (TOk.cons e_layout_Slot (TOk.cons e_word_PutSlot (TOk.cons e_layout_Env_Cas (TOk.cons e_layout_Env_Load (TOk.cons e_word_PutCell TOk.nil))))))) mixedOk Try.func31 (by kernel_rfl) (by kernel_rfl) (by kernel_rfl) q_drop_Help_Step
def xl_drop_Help_Step : List (Nat × Nat) := [(3, 3), (5, 5), (7, 7), (8, 8), (14, 5), (36, 7), (38, 5), (60, 5), (64, 5), (66, 3), (67, 3), (70, 5), (75, 3), (109, 7), (113, 7), (115, 5)]
noncomputable def xc_drop_Help_Step : XC XN :=
(.seq none
 (.reg [⟨none, some 3, [(.tmp 1)], ⟨.lb 3 9, rAny xl_drop_Help_Step (.lb 3 9)⟩⟩,
  ⟨none, some 4, [(.const (.bool false))], ⟨.f fMove, rMove⟩⟩])
 (.seq none
 (.reg [⟨none, some 9, [(.tmp 0)], ⟨.f fMove, rMove⟩⟩,
  ⟨none, some 10, [(.tmp 9)], ⟨.f fNil, rNil⟩⟩,
  ⟨none, some 11, [(.tmp 10)], ⟨.f (fFld 1), rFld 1⟩⟩,
  ⟨none, some 12, [(.tmp 11)], ⟨.load 1 false, rLoad1⟩⟩,
  ⟨none, some 13, [(.tmp 12)], ⟨.call .none s_word_Slot v_word_Slot, rCall v_word_Slot⟩⟩,
  ⟨none, some 5, [], ⟨.la 5 [(.int .i64 0), (.int .i64 0), (.int .i64 0), (.int .i64 0)], rAny xl_drop_Help_Step (.la 5 [(.int .i64 0), (.int .i64 0), (.int .i64 0), (.int .i64 0)])⟩⟩,
  ⟨none, none, [(.tmp 5), (.tmp 13)], ⟨.ls 5 4, rAny xl_drop_Help_Step (.ls 5 4)⟩⟩])
 (.seq none
 (.reg [⟨none, some 14, [(.tmp 5)], ⟨.f (fFld 1), rFld 1⟩⟩,
  ⟨none, some 15, [(.tmp 14)], ⟨.lr 5 1 false, rLr1 5⟩⟩,
  ⟨none, some 16, [(.tmp 15), (.const (.int .i64 1))], ⟨.f (fBin .add .no), rAdd⟩⟩,
  ⟨none, some 17, [(.tmp 0)], ⟨.f fMove, rMove⟩⟩,
  ⟨none, some 18, [(.tmp 17)], ⟨.f fNil, rNil⟩⟩,
  ⟨none, some 19, [(.tmp 18)], ⟨.f (fFld 3), rFld 3⟩⟩,
  ⟨none, some 20, [(.tmp 19)], ⟨.load 1 false, rLoad1⟩⟩,
  ⟨none, some 21, [(.tmp 16), (.tmp 20)], ⟨.f (fBin .add .no), rAdd⟩⟩,
  ⟨none, some 6, [(.tmp 21)], ⟨.f fMove, rMove⟩⟩])
 (.seq none
 (.reg [⟨none, some 22, [(.tmp 0)], ⟨.f fMove, rMove⟩⟩,
  ⟨none, some 23, [(.tmp 22)], ⟨.f fNil, rNil⟩⟩,
  ⟨none, some 24, [(.tmp 23)], ⟨.f (fFld 4), rFld 4⟩⟩,
  ⟨none, some 25, [(.tmp 24)], ⟨.load 1 false, rLoad1⟩⟩,
  ⟨none, some 26, [(.tmp 25)], ⟨.call .none s_word_Cell v_word_Cell, rCall v_word_Cell⟩⟩,
  ⟨none, some 7, [], ⟨.la 7 [(.int .i64 0), (.bool false), (.int .i64 0)], rAny xl_drop_Help_Step (.la 7 [(.int .i64 0), (.bool false), (.int .i64 0)])⟩⟩,
  ⟨none, none, [(.tmp 7), (.tmp 26)], ⟨.ls 7 3, rAny xl_drop_Help_Step (.ls 7 3)⟩⟩])
 (.seq (some ([], []))
 (.block 0
 (.seq none
 (.reg [⟨none, some 51, [(.tmp 0)], ⟨.f fMove, rMove⟩⟩,
  ⟨none, some 52, [(.tmp 51)], ⟨.f fNil, rNil⟩⟩,
  ⟨none, some 53, [(.tmp 52)], ⟨.f (fFld 3), rFld 3⟩⟩,
  ⟨none, some 54, [(.tmp 53)], ⟨.load 1 false, rLoad1⟩⟩,
  ⟨none, some 55, [(.tmp 0)], ⟨.f fMove, rMove⟩⟩,
  ⟨none, some 56, [(.tmp 55)], ⟨.f fNil, rNil⟩⟩,
  ⟨none, some 57, [(.tmp 56)], ⟨.f (fFld 2), rFld 2⟩⟩,
  ⟨none, some 58, [(.tmp 57)], ⟨.load 1 false, rLoad1⟩⟩,
  ⟨none, some 59, [(.tmp 54), (.tmp 58)], ⟨.f (fBin .geq .no), rGeq⟩⟩,
  ⟨none, some 50, [(.tmp 59)], ⟨.f fMove, rMove⟩⟩])
 (.cond (.tmp 50)
 (.seq none
 (.reg [⟨none, some 60, [(.tmp 5)], ⟨.f (fFld 2), rFld 2⟩⟩,
  ⟨none, some 61, [(.tmp 60)], ⟨.lr 5 1 false, rLr1 5⟩⟩,
  ⟨none, some 62, [(.tmp 61), (.const (.int .i64 1))], ⟨.f (fBin .add .no), rAdd⟩⟩,
  ⟨none, some 63, [(.const (.int .i64 0)), (.tmp 62)], ⟨.f (fBuild [(0, 1), (1, 1), (2, 1), (3, 1)] [(.int .i64 0), (.int .i64 0), (.int .i64 0), (.int .i64 0)] [0, 2]), rAny xl_drop_Help_Step (.f (fBuild [(0, 1), (1, 1), (2, 1), (3, 1)] [(.int .i64 0), (.int .i64 0), (.int .i64 0), (.int .i64 0)] [0, 2]))⟩⟩,
  ⟨none, some 8, [], ⟨.la 8 [(.int .i64 0), (.int .i64 0), (.int .i64 0), (.int .i64 0)], rAny xl_drop_Help_Step (.la 8 [(.int .i64 0), (.int .i64 0), (.int .i64 0), (.int .i64 0)])⟩⟩,
  ⟨none, none, [(.tmp 8), (.tmp 63)], ⟨.ls 8 4, rAny xl_drop_Help_Step (.ls 8 4)⟩⟩])
 (.seq (some ([0], [3, 8]))
 (.seq none
 (.reg [⟨none, some 64, [(.tmp 5)], ⟨.f (fFld 2), rFld 2⟩⟩,
  ⟨none, some 65, [(.tmp 64)], ⟨.lr 5 1 false, rLr1 5⟩⟩,
  ⟨none, some 66, [(.tmp 3)], ⟨.f (fFld 0), rFld 0⟩⟩,
  ⟨none, some 67, [(.tmp 66)], ⟨.f (fFld 4), rFld 4⟩⟩,
  ⟨none, some 68, [(.tmp 67)], ⟨.lr 3 1 false, rLr1 3⟩⟩,
  ⟨none, some 69, [(.tmp 65), (.tmp 68)], ⟨.f (fBin .geq .no), rGeq⟩⟩])
 (.cond (.tmp 69)
 (.reg [⟨none, some 70, [(.tmp 5)], ⟨.f (fFld 2), rFld 2⟩⟩,
  ⟨none, some 71, [(.tmp 70)], ⟨.lr 5 1 false, rLr1 5⟩⟩,
  ⟨none, some 72, [(.const (.int .i64 3)), (.tmp 71)], ⟨.f (fBuild [(0, 1), (1, 1), (2, 1), (3, 1)] [(.int .i64 0), (.int .i64 0), (.int .i64 0), (.int .i64 0)] [0, 2]), rAny xl_drop_Help_Step (.f (fBuild [(0, 1), (1, 1), (2, 1), (3, 1)] [(.int .i64 0), (.int .i64 0), (.int .i64 0), (.int .i64 0)] [0, 2]))⟩⟩,
  ⟨none, none, [(.tmp 8), (.tmp 72)], ⟨.ls 8 4, rAny xl_drop_Help_Step (.ls 8 4)⟩⟩])
 .skip))
 (.seq none
 (.reg [⟨none, some 73, [(.tmp 0)], ⟨.f fMove, rMove⟩⟩,
  ⟨none, some 74, [(.tmp 3)], ⟨.lr 3 9 true, rAny xl_drop_Help_Step (.lr 3 9 true)⟩⟩,
  ⟨none, some 75, [(.tmp 3)], ⟨.f (fFld 0), rFld 0⟩⟩,
  ⟨none, some 76, [(.tmp 75)], ⟨.lr 3 7 true, rAny xl_drop_Help_Step (.lr 3 7 true)⟩⟩,
  ⟨none, some 77, [(.tmp 0)], ⟨.f fMove, rMove⟩⟩,
  ⟨none, some 78, [(.tmp 77)], ⟨.f fNil, rNil⟩⟩,
  ⟨none, some 79, [(.tmp 78)], ⟨.f (fFld 0), rFld 0⟩⟩,
  ⟨none, some 80, [(.tmp 79)], ⟨.load 1 false, rLoad1⟩⟩,
  ⟨none, some 81, [(.tmp 76), (.tmp 80)], ⟨.call .none s_layout_Slot v_layout_Slot, rCall v_layout_Slot⟩⟩,
  ⟨none, some 82, [(.tmp 0)], ⟨.f fMove, rMove⟩⟩,
  ⟨none, some 83, [(.tmp 82)], ⟨.f fNil, rNil⟩⟩,
  ⟨none, some 84, [(.tmp 83)], ⟨.f (fFld 1), rFld 1⟩⟩,
  ⟨none, some 85, [(.tmp 84)], ⟨.load 1 false, rLoad1⟩⟩,
  ⟨none, some 86, [(.tmp 8)], ⟨.lr 8 4 true, rAny xl_drop_Help_Step (.lr 8 4 true)⟩⟩,
  ⟨none, some 87, [(.tmp 86)], ⟨.call .none s_word_PutSlot v_word_PutSlot, rCall v_word_PutSlot⟩⟩,
  ⟨none, some 88, [(.tmp 74), (.tmp 81), (.tmp 85), (.tmp 87)], ⟨.call .write s_layout_Env_Cas v_layout_Env_Cas, rCall v_layout_Env_Cas⟩⟩,
  ⟨none, some 89, [(.tmp 73)], ⟨.f fNil, rNil⟩⟩,
  ⟨none, some 90, [(.tmp 89)], ⟨.f (fFld 6), rFld 6⟩⟩,
  ⟨none, none, [(.tmp 90), (.tmp 88)], ⟨.store 1, rStore1⟩⟩])
 (.seq none
 (.reg [⟨none, some 4, [(.const (.bool true))], ⟨.f fMove, rMove⟩⟩])
 .ret))))
 (.seq none
 (.reg [⟨none, some 92, [(.tmp 0)], ⟨.f fMove, rMove⟩⟩,
  ⟨none, some 93, [(.tmp 92)], ⟨.f fNil, rNil⟩⟩,
  ⟨none, some 94, [(.tmp 93)], ⟨.f (fFld 5), rFld 5⟩⟩,
  ⟨none, some 95, [(.tmp 94)], ⟨.load 1 false, rLoad1⟩⟩,
  ⟨none, some 96, [(.tmp 95)], ⟨.f (fUn .not), rNot⟩⟩,
  ⟨none, some 91, [(.tmp 96)], ⟨.f fMove, rMove⟩⟩])
 (.cond (.tmp 91)
 (.seq none
 (.reg [⟨none, some 97, [(.tmp 0)], ⟨.f fMove, rMove⟩⟩,
  ⟨none, some 98, [(.tmp 3)], ⟨.lr 3 9 true, rAny xl_drop_Help_Step (.lr 3 9 true)⟩⟩,
  ⟨none, some 99, [(.tmp 6)], ⟨.f fMove, rMove⟩⟩,
  ⟨none, some 100, [(.tmp 98), (.tmp 99)], ⟨.call .write s_layout_Env_Load v_layout_Env_Load, rCall v_layout_Env_Load⟩⟩,
  ⟨none, some 101, [(.tmp 97)], ⟨.f fNil, rNil⟩⟩,
  ⟨none, some 102, [(.tmp 101)], ⟨.f (fFld 4), rFld 4⟩⟩,
  ⟨none, none, [(.tmp 102), (.tmp 100)], ⟨.store 1, rStore1⟩⟩])
 (.seq none
 (.reg [⟨none, some 103, [(.tmp 0)], ⟨.f fMove, rMove⟩⟩,
  ⟨none, some 104, [(.tmp 103)], ⟨.f fNil, rNil⟩⟩,
  ⟨none, some 105, [(.tmp 104)], ⟨.f (fFld 4), rFld 4⟩⟩,
  ⟨none, some 106, [(.tmp 105)], ⟨.load 1 false, rLoad1⟩⟩,
  ⟨none, some 107, [(.tmp 106)], ⟨.call .none s_word_Cell v_word_Cell, rCall v_word_Cell⟩⟩,
  ⟨none, none, [(.tmp 7), (.tmp 107)], ⟨.ls 7 3, rAny xl_drop_Help_Step (.ls 7 3)⟩⟩])
 (.seq (some ([0], []))
 (.reg [⟨none, some 108, [(.tmp 0)], ⟨.f fMove, rMove⟩⟩,
  ⟨none, some 109, [(.tmp 7)], ⟨.f (fFld 1), rFld 1⟩⟩,
  ⟨none, some 110, [(.tmp 109)], ⟨.lr 7 1 false, rLr1 7⟩⟩,
  ⟨none, some 111, [(.tmp 110)], ⟨.f (fUn .not), rNot⟩⟩,
  ⟨none, some 112, [(.tmp 111)], ⟨.f fMove, rMove⟩⟩,
  ⟨(some (5, 4, false, some 112)), some 113, [(.tmp 7)], ⟨.f (fFld 2), rFld 2⟩⟩,
  ⟨(some (6, 4, false, some 112)), some 114, [(.tmp 113)], ⟨.lr 7 1 false, rLr1 7⟩⟩,
  ⟨(some (7, 4, false, some 112)), some 115, [(.tmp 5)], ⟨.f (fFld 3), rFld 3⟩⟩,
  ⟨(some (8, 4, false, some 112)), some 116, [(.tmp 115)], ⟨.lr 5 1 false, rLr1 5⟩⟩,
  ⟨(some (9, 4, false, some 112)), some 117, [(.tmp 114), (.tmp 116)], ⟨.f (fBin .neq .no), rNeq⟩⟩,
  ⟨none, some 118, [(.tmp 112), (.const (.bool true)), (.tmp 117)], ⟨.f fPick, rPick⟩⟩,
  ⟨none, some 119, [(.tmp 108)], ⟨.f fNil, rNil⟩⟩,
  ⟨none, some 120, [(.tmp 119)], ⟨.f (fFld 5), rFld 5⟩⟩,
  ⟨none, none, [(.tmp 120), (.tmp 118)], ⟨.store 1, rStore1⟩⟩])
 (.seq none
 (.reg [⟨none, some 121, [(.tmp 0)], ⟨.f fMove, rMove⟩⟩,
  ⟨none, some 122, [(.tmp 121)], ⟨.f fNil, rNil⟩⟩,
  ⟨none, some 123, [(.tmp 122)], ⟨.f (fFld 5), rFld 5⟩⟩,
  ⟨none, some 124, [(.tmp 123)], ⟨.load 1 false, rLoad1⟩⟩,
  ⟨none, some 125, [(.tmp 124)], ⟨.f (fUn .not), rNot⟩⟩])
 (.cond (.tmp 125)
 (.reg [⟨none, some 126, [(.tmp 0)], ⟨.f fMove, rMove⟩⟩,
  ⟨none, some 127, [(.tmp 126)], ⟨.f fNil, rNil⟩⟩,
  ⟨none, some 128, [(.tmp 127)], ⟨.f (fFld 3), rFld 3⟩⟩,
  ⟨none, some 129, [(.tmp 128)], ⟨.load 1 false, rLoad1⟩⟩,
  ⟨none, some 130, [(.tmp 129), (.const (.int .i64 1))], ⟨.f (fBin .add .no), rAdd⟩⟩,
  ⟨none, some 131, [(.tmp 126)], ⟨.f fNil, rNil⟩⟩,
  ⟨none, some 132, [(.tmp 131)], ⟨.f (fFld 3), rFld 3⟩⟩,
  ⟨none, none, [(.tmp 132), (.tmp 130)], ⟨.store 1, rStore1⟩⟩])
 .skip)))))
 (.seq none
 (.reg [⟨none, some 27, [(.tmp 0)], ⟨.f fMove, rMove⟩⟩,
  ⟨none, some 28, [(.tmp 27)], ⟨.f fNil, rNil⟩⟩,
  ⟨none, some 29, [(.tmp 28)], ⟨.f (fFld 5), rFld 5⟩⟩,
  ⟨none, none, [(.tmp 29), (.const (.bool false))], ⟨.store 1, rStore1⟩⟩])
 (.seq none
 (.reg [⟨none, some 30, [(.tmp 3)], ⟨.lr 3 9 true, rAny xl_drop_Help_Step (.lr 3 9 true)⟩⟩,
  ⟨none, some 31, [(.tmp 6)], ⟨.f fMove, rMove⟩⟩,
  ⟨none, some 32, [(.tmp 0)], ⟨.f fMove, rMove⟩⟩,
  ⟨none, some 33, [(.tmp 32)], ⟨.f fNil, rNil⟩⟩,
  ⟨none, some 34, [(.tmp 33)], ⟨.f (fFld 4), rFld 4⟩⟩,
  ⟨none, some 35, [(.tmp 34)], ⟨.load 1 false, rLoad1⟩⟩,
  ⟨none, some 36, [(.tmp 7)], ⟨.f (fFld 0), rFld 0⟩⟩,
  ⟨none, some 37, [(.tmp 36)], ⟨.lr 7 1 false, rLr1 7⟩⟩,
  ⟨none, some 38, [(.tmp 5)], ⟨.f (fFld 3), rFld 3⟩⟩,
  ⟨none, some 39, [(.tmp 38)], ⟨.lr 5 1 false, rLr1 5⟩⟩,
  ⟨none, some 40, [(.tmp 37), (.const (.bool true)), (.tmp 39)], ⟨.f (fBuild [(0, 1), (1, 1), (2, 1)] [(.int .i64 0), (.bool false), (.int .i64 0)] [0, 1, 2]), rAny xl_drop_Help_Step (.f (fBuild [(0, 1), (1, 1), (2, 1)] [(.int .i64 0), (.bool false), (.int .i64 0)] [0, 1, 2]))⟩⟩,
  ⟨none, some 41, [(.tmp 40)], ⟨.call .none s_word_PutCell v_word_PutCell, rCall v_word_PutCell⟩⟩,
  ⟨none, some 42, [(.tmp 30), (.tmp 31), (.tmp 35), (.tmp 41)], ⟨.call .write s_layout_Env_Cas v_layout_Env_Cas, rCall v_layout_Env_Cas⟩⟩])
 (.cond (.tmp 42)
 (.reg [⟨none, some 43, [(.tmp 0)], ⟨.f fMove, rMove⟩⟩,
  ⟨none, some 44, [(.tmp 43)], ⟨.f fNil, rNil⟩⟩,
  ⟨none, some 45, [(.tmp 44)], ⟨.f (fFld 3), rFld 3⟩⟩,
  ⟨none, some 46, [(.tmp 45)], ⟨.load 1 false, rLoad1⟩⟩,
  ⟨none, some 47, [(.tmp 46), (.const (.int .i64 1))], ⟨.f (fBin .add .no), rAdd⟩⟩,
  ⟨none, some 48, [(.tmp 43)], ⟨.f fNil, rNil⟩⟩,
  ⟨none, some 49, [(.tmp 48)], ⟨.f (fFld 3), rFld 3⟩⟩,
  ⟨none, none, [(.tmp 49), (.tmp 47)], ⟨.store 1, rStore1⟩⟩])
 .skip))))))))
 (.seq none
 (.reg [⟨none, some 4, [(.const (.bool false))], ⟨.f fMove, rMove⟩⟩])
 .ret))))))
noncomputable def v_drop_Help_Step : EvF := evFn 2 xc_drop_Help_Step [.t 4]
theorem xt_drop_Help_Step : toC cx_drop_Help_Step (bodyOf Try.f31) = some (xc_drop_Help_Step.map XN.sm) := by kernel_rfl
theorem xr_drop_Help_Step : toR cx_drop_Help_Step Try.f31.results.toList = some [.t 4] := by kernel_rfl
theorem xo_drop_Help_Step : xc_drop_Help_Step.ok xl_drop_Help_Step := ⟨⟨rAny_ok (trivial), rMove_ok, trivial⟩, ⟨⟨rMove_ok, rNil_ok, rFld_ok _, rLoad1_ok, rCall_ok ve_word_Slot, rAny_ok (trivial), rAny_ok (trivial), trivial⟩, ⟨⟨rFld_ok _, rLr1_ok _, rAdd_ok, rMove_ok, rNil_ok, rFld_ok _, rLoad1_ok, rAdd_ok, rMove_ok, trivial⟩, ⟨⟨rMove_ok, rNil_ok, rFld_ok _, rLoad1_ok, rCall_ok ve_word_Cell, rAny_ok (trivial), rAny_ok (trivial), trivial⟩, ⟨⟨⟨rMove_ok, rNil_ok, rFld_ok _, rLoad1_ok, rMove_ok, rNil_ok, rFld_ok _, rLoad1_ok, rGeq_ok, rMove_ok, trivial⟩, ⟨⟨⟨rFld_ok _, rLr1_ok _, rAdd_ok, rAny_ok (eqv_build _ rfl _), rAny_ok (trivial), rAny_ok (trivial), trivial⟩, ⟨⟨⟨rFld_ok _, rLr1_ok _, rFld_ok _, rFld_ok _, rLr1_ok _, rGeq_ok, trivial⟩, ⟨⟨rFld_ok _, rLr1_ok _, rAny_ok (eqv_build _ rfl _), rAny_ok (trivial), trivial⟩, trivial⟩⟩, ⟨⟨rMove_ok, rAny_ok (trivial), rFld_ok _, rAny_ok (trivial), rMove_ok, rNil_ok, rFld_ok _, rLoad1_ok, rCall_ok ve_layout_Slot, rMove_ok, rNil_ok, rFld_ok _, rLoad1_ok, rAny_ok (trivial), rCall_ok ve_word_PutSlot, rCall_ok ve_layout_Env_Cas, rNil_ok, rFld_ok _, rStore1_ok, trivial⟩, ⟨⟨rMove_ok, trivial⟩, trivial⟩⟩⟩⟩, ⟨⟨rMove_ok, rNil_ok, rFld_ok _, rLoad1_ok, rNot_ok, rMove_ok, trivial⟩, ⟨⟨⟨rMove_ok, rAny_ok (trivial), rMove_ok, rCall_ok ve_layout_Env_Load, rNil_ok, rFld_ok _, rStore1_ok, trivial⟩, ⟨⟨rMove_ok, rNil_ok, rFld_ok _, rLoad1_ok, rCall_ok ve_word_Cell, rAny_ok (trivial), trivial⟩, ⟨⟨rMove_ok, rFld_ok _, rLr1_ok _, rNot_ok, rMove_ok, rFld_ok _, rLr1_ok _, rFld_ok _, rLr1_ok _, rNeq_ok, rPick_ok, rNil_ok, rFld_ok _, rStore1_ok, trivial⟩, ⟨⟨rMove_ok, rNil_ok, rFld_ok _, rLoad1_ok, rNot_ok, trivial⟩, ⟨⟨rMove_ok, rNil_ok, rFld_ok _, rLoad1_ok, rAdd_ok, rNil_ok, rFld_ok _, rStore1_ok, trivial⟩, trivial⟩⟩⟩⟩⟩, ⟨⟨rMove_ok, rNil_ok, rFld_ok _, rStore1_ok, trivial⟩, ⟨⟨rAny_ok (trivial), rMove_ok, rMove_ok, rNil_ok, rFld_ok _, rLoad1_ok, rFld_ok _, rLr1_ok _, rFld_ok _, rLr1_ok _, rAny_ok (eqv_build _ rfl _), rCall_ok ve_word_PutCell, rCall_ok ve_layout_Env_Cas, trivial⟩, ⟨⟨rMove_ok, rNil_ok, rFld_ok _, rLoad1_ok, rAdd_ok, rNil_ok, rFld_ok _, rStore1_ok, trivial⟩, trivial⟩⟩⟩⟩⟩⟩⟩, ⟨⟨rMove_ok, trivial⟩, trivial⟩⟩⟩⟩⟩⟩
theorem ve_drop_Help_Step : EvOk s_drop_Help_Step v_drop_Help_Step := EvOk.of (evFn_sound (C := cx_drop_Help_Step) xt_drop_Help_Step xr_drop_Help_Step xo_drop_Help_Step) q_drop_Help_Step
attribute [irreducible] w_drop_Help_Step_j1b w_drop_Help_Step_j1 w_drop_Help_Step_j2b w_drop_Help_Step_j2 w_drop_Help_Step_j3b w_drop_Help_Step_j3 w_drop_Help_Step s_drop_Help_Step
def w_mem_Mem_When_j1b (K : Value → Mem → Prop) (v0 v1 v19 : Value) (σ : Mem) : Prop :=
xIf v19
 (xF fMove [(.int .i64 0)] fun v4 =>
K v4 σ)
 (xF fMove [v0] fun v20 =>
xF fNil [v20] fun v21 =>
xF (fFld 1) [v21] fun v22 =>
hLoad 1 false [v22] (fun v23 σ =>
xF fMove [v1] fun v24 =>
xF (fIxS 1) [v23, v24] fun v25 =>
hLoad 1 false [v25] (fun v26 σ =>
xF fMove [v26] fun v4 =>
K v4 σ) σ) σ)
def w_mem_Mem_When_j1 (K : Value → Mem → Prop) (ts : List Value) (ls : List (List Value)) (σ : Mem) : Prop := w_mem_Mem_When_j1b K (ts.getD 0 poison) (ts.getD 1 poison) (ts.getD 2 poison) σ
def w_mem_Mem_When (a0 a1 : Value) (K : Value → Mem → Prop) (σ : Mem) : Prop :=
xF fMove [(.int .i64 0)] fun v4 =>
xJoin (w_mem_Mem_When_j1 K) fun J1 =>
xF fMove [a0] fun v5 =>
xF (fBin .eql .ptr) [v5, (.pointer none)] fun v6 =>
xF fMove [v6] fun v7 =>
xIf v7
 (xF fPick [(.bool true), (.bool true), undef] fun v10 =>
xF fMove [v10] fun v11 =>
xIf v11
 (xF fPick [(.bool true), (.bool true), undef] fun v19 =>
J1 [a0, a1, v19] [] σ)
 (xF fMove [a1] fun v12 =>
xF fMove [a0] fun v13 =>
xF fNil [v13] fun v14 =>
xF (fFld 0) [v14] fun v15 =>
hLoad 1 false [v15] (fun v16 σ =>
xF fLen [v16] fun v17 =>
xF (fBin .geq .no) [v12, v17] fun v18 =>
xF fPick [(.bool false), (.bool true), v18] fun v19 =>
J1 [a0, a1, v19] [] σ) σ))
 (xF fMove [a1] fun v8 =>
xF (fBin .lss .no) [v8, (.int .i64 0)] fun v9 =>
xF fPick [(.bool false), (.bool true), v9] fun v10 =>
xF fMove [v10] fun v11 =>
xIf v11
 (xF fPick [(.bool true), (.bool true), undef] fun v19 =>
J1 [a0, a1, v19] [] σ)
 (xF fMove [a1] fun v12 =>
xF fMove [a0] fun v13 =>
xF fNil [v13] fun v14 =>
xF (fFld 0) [v14] fun v15 =>
hLoad 1 false [v15] (fun v16 σ =>
xF fLen [v16] fun v17 =>
xF (fBin .geq .no) [v12, v17] fun v18 =>
xF fPick [(.bool false), (.bool true), v18] fun v19 =>
J1 [a0, a1, v19] [] σ) σ))
def s_mem_Mem_When : Spec := fun args K σ => match args with
  | [a0, a1] => w_mem_Mem_When a0 a1 K σ
  | _ => False
noncomputable def cx_mem_Mem_When : Cx := { P := Try.prog, T := [], loc := [], eqt := [(25, .ptr)], n := 27, keep := [(1000003, [0, 1, 19], [])] }
theorem q_mem_Mem_When : FnS cx_mem_Mem_When Try.f46 (bodyOf Try.f46) 2 = s_mem_Mem_When := by
  funext args K σ
  rcases args with _ | ⟨a0, _ | ⟨a1, _ | ⟨b, r⟩⟩⟩ <;> kernel_rfl
theorem e_mem_Mem_When : Entry Try.prog 46 .read s_mem_Mem_When :=
  entry (C := cx_mem_Mem_When) TOk.nil mixedOk Try.func46 (by kernel_rfl) (by kernel_rfl) (by kernel_rfl) q_mem_Mem_When
def xl_mem_Mem_When : List (Nat × Nat) := []
noncomputable def xc_mem_Mem_When : XC XN :=
(.seq none
 (.reg [⟨none, some 4, [(.const (.int .i64 0))], ⟨.f fMove, rMove⟩⟩])
 (.seq none
 (.seq (some ([0, 1, 19], []))
 (.reg [⟨none, some 5, [(.tmp 0)], ⟨.f fMove, rMove⟩⟩,
  ⟨none, some 6, [(.tmp 5), (.const (.pointer none))], ⟨.f (fBin .eql .ptr), rAny xl_mem_Mem_When (.f (fBin .eql .ptr))⟩⟩,
  ⟨none, some 7, [(.tmp 6)], ⟨.f fMove, rMove⟩⟩,
  ⟨(some (3, 2, false, some 7)), some 8, [(.tmp 1)], ⟨.f fMove, rMove⟩⟩,
  ⟨(some (4, 2, false, some 7)), some 9, [(.tmp 8), (.const (.int .i64 0))], ⟨.f (fBin .lss .no), rLss⟩⟩,
  ⟨none, some 10, [(.tmp 7), (.const (.bool true)), (.tmp 9)], ⟨.f fPick, rPick⟩⟩,
  ⟨none, some 11, [(.tmp 10)], ⟨.f fMove, rMove⟩⟩,
  ⟨(some (7, 6, false, some 11)), some 12, [(.tmp 1)], ⟨.f fMove, rMove⟩⟩,
  ⟨(some (8, 6, false, some 11)), some 13, [(.tmp 0)], ⟨.f fMove, rMove⟩⟩,
  ⟨(some (9, 6, false, some 11)), some 14, [(.tmp 13)], ⟨.f fNil, rNil⟩⟩,
  ⟨(some (10, 6, false, some 11)), some 15, [(.tmp 14)], ⟨.f (fFld 0), rFld 0⟩⟩,
  ⟨(some (11, 6, false, some 11)), some 16, [(.tmp 15)], ⟨.load 1 false, rLoad1⟩⟩,
  ⟨(some (12, 6, false, some 11)), some 17, [(.tmp 16)], ⟨.f fLen, rAny xl_mem_Mem_When (.f fLen)⟩⟩,
  ⟨(some (13, 6, false, some 11)), some 18, [(.tmp 12), (.tmp 17)], ⟨.f (fBin .geq .no), rGeq⟩⟩,
  ⟨none, some 19, [(.tmp 11), (.const (.bool true)), (.tmp 18)], ⟨.f fPick, rPick⟩⟩])
 (.cond (.tmp 19)
 (.seq none
 (.reg [⟨none, some 4, [(.const (.int .i64 0))], ⟨.f fMove, rMove⟩⟩])
 .ret)
 .skip))
 (.seq none
 (.reg [⟨none, some 20, [(.tmp 0)], ⟨.f fMove, rMove⟩⟩,
  ⟨none, some 21, [(.tmp 20)], ⟨.f fNil, rNil⟩⟩,
  ⟨none, some 22, [(.tmp 21)], ⟨.f (fFld 1), rFld 1⟩⟩,
  ⟨none, some 23, [(.tmp 22)], ⟨.load 1 false, rLoad1⟩⟩,
  ⟨none, some 24, [(.tmp 1)], ⟨.f fMove, rMove⟩⟩,
  ⟨none, some 25, [(.tmp 23), (.tmp 24)], ⟨.f (fIxS 1), rIxS 1⟩⟩,
  ⟨none, some 26, [(.tmp 25)], ⟨.load 1 false, rLoad1⟩⟩,
  ⟨none, some 4, [(.tmp 26)], ⟨.f fMove, rMove⟩⟩])
 .ret)))
noncomputable def v_mem_Mem_When : EvF := evFn 2 xc_mem_Mem_When [.t 4]
theorem xt_mem_Mem_When : toC cx_mem_Mem_When (bodyOf Try.f46) = some (xc_mem_Mem_When.map XN.sm) := by kernel_rfl
theorem xr_mem_Mem_When : toR cx_mem_Mem_When Try.f46.results.toList = some [.t 4] := by kernel_rfl
theorem xo_mem_Mem_When : xc_mem_Mem_When.ok xl_mem_Mem_When := ⟨⟨rMove_ok, trivial⟩, ⟨⟨⟨rMove_ok, rAny_ok (eqv_bin _ _), rMove_ok, rMove_ok, rLss_ok, rPick_ok, rMove_ok, rMove_ok, rMove_ok, rNil_ok, rFld_ok _, rLoad1_ok, rAny_ok (eqv_len), rGeq_ok, rPick_ok, trivial⟩, ⟨⟨⟨rMove_ok, trivial⟩, trivial⟩, trivial⟩⟩, ⟨⟨rMove_ok, rNil_ok, rFld_ok _, rLoad1_ok, rMove_ok, rIxS_ok _, rLoad1_ok, rMove_ok, trivial⟩, trivial⟩⟩⟩
theorem ve_mem_Mem_When : EvOk s_mem_Mem_When v_mem_Mem_When := EvOk.of (evFn_sound (C := cx_mem_Mem_When) xt_mem_Mem_When xr_mem_Mem_When xo_mem_Mem_When) q_mem_Mem_When
attribute [irreducible] w_mem_Mem_When_j1b w_mem_Mem_When_j1 w_mem_Mem_When s_mem_Mem_When
def w_layout_Of_j1b (K : Value → Mem → Prop) (v1 v5 v16 : Value) (c2 : List Value) (σ : Mem) : Prop :=
xIf v16
 (xF fMove [(.int .i64 (-1))] fun v4 =>
K v4 σ)
 (xF fMove [v1] fun v17 =>
xF fMove [v5] fun v18 =>
xF (fBin .sub .no) [v17, v18] fun v19 =>
xF (fFld 3) [(locP 2)] fun v20 =>
xO (gLoad 1 false [v20] c2) fun v21 =>
xF (fBin .quo .no) [v19, v21] fun v22 =>
xF fMove [v22] fun v4 =>
K v4 σ)
def w_layout_Of_j1 (K : Value → Mem → Prop) (ts : List Value) (ls : List (List Value)) (σ : Mem) : Prop := w_layout_Of_j1b K (ts.getD 0 poison) (ts.getD 1 poison) (ts.getD 2 poison) (ls.getD 0 []) σ
def w_layout_Of (a0 a1 : Value) (K : Value → Mem → Prop) (σ : Mem) : Prop :=
xC (gBox 7 [a0] []) fun c2 =>
xF fMove [(.int .i64 0)] fun v4 =>
xO (gLoad 7 true [(locP 2)] c2) fun v6 =>
s_layout_Base [v6, (.int .i64 0)] (fun v7 σ =>
xF fMove [v7] fun v5 =>
xJoin (w_layout_Of_j1 K) fun J1 =>
xF fMove [a1] fun v8 =>
xF fMove [v5] fun v9 =>
xF (fBin .lss .no) [v8, v9] fun v10 =>
xF fMove [v10] fun v11 =>
xIf v11
 (xF fPick [(.bool true), (.bool true), undef] fun v16 =>
J1 [a1, v5, v16] [c2] σ)
 (xF fMove [a1] fun v12 =>
xO (gLoad 7 true [(locP 2)] c2) fun v13 =>
s_layout_Len [v13] (fun v14 σ =>
xF (fBin .geq .no) [v12, v14] fun v15 =>
xF fPick [(.bool false), (.bool true), v15] fun v16 =>
J1 [a1, v5, v16] [c2] σ) σ)) σ
def s_layout_Of : Spec := fun args K σ => match args with
  | [a0, a1] => w_layout_Of a0 a1 K σ
  | _ => False
noncomputable def cx_layout_Of : Cx := { P := Try.prog, T := [(73, .none, s_layout_Base), (60, .none, s_layout_Len)], loc := [(2, 2), (20, 2)], eqt := [], n := 23, keep := [(1000004, [1, 5, 16], [2])] }
theorem q_layout_Of : FnS cx_layout_Of Try.f47 (bodyOf Try.f47) 2 = s_layout_Of := by
  funext args K σ
  rcases args with _ | ⟨a0, _ | ⟨a1, _ | ⟨b, r⟩⟩⟩ <;> kernel_rfl
theorem e_layout_Of : Entry Try.prog 47 .none s_layout_Of :=
  entry (C := cx_layout_Of) (TOk.cons e_layout_Base (TOk.cons e_layout_Len TOk.nil)) mixedOk Try.func47 (by kernel_rfl) (by kernel_rfl) (by kernel_rfl) q_layout_Of
def xl_layout_Of : List (Nat × Nat) := [(2, 2), (20, 2)]
noncomputable def xc_layout_Of : XC XN :=
(.seq none
 (.reg [⟨none, some 2, [(.tmp 0)], ⟨.lb 2 7, rAny xl_layout_Of (.lb 2 7)⟩⟩,
  ⟨none, some 4, [(.const (.int .i64 0))], ⟨.f fMove, rMove⟩⟩])
 (.seq none
 (.reg [⟨none, some 6, [(.tmp 2)], ⟨.lr 2 7 true, rAny xl_layout_Of (.lr 2 7 true)⟩⟩,
  ⟨none, some 7, [(.tmp 6), (.const (.int .i64 0))], ⟨.call .none s_layout_Base v_layout_Base, rCall v_layout_Base⟩⟩,
  ⟨none, some 5, [(.tmp 7)], ⟨.f fMove, rMove⟩⟩])
 (.seq none
 (.seq (some ([1, 5, 16], [2]))
 (.reg [⟨none, some 8, [(.tmp 1)], ⟨.f fMove, rMove⟩⟩,
  ⟨none, some 9, [(.tmp 5)], ⟨.f fMove, rMove⟩⟩,
  ⟨none, some 10, [(.tmp 8), (.tmp 9)], ⟨.f (fBin .lss .no), rLss⟩⟩,
  ⟨none, some 11, [(.tmp 10)], ⟨.f fMove, rMove⟩⟩,
  ⟨(some (4, 3, false, some 11)), some 12, [(.tmp 1)], ⟨.f fMove, rMove⟩⟩,
  ⟨(some (5, 3, false, some 11)), some 13, [(.tmp 2)], ⟨.lr 2 7 true, rAny xl_layout_Of (.lr 2 7 true)⟩⟩,
  ⟨(some (6, 3, false, some 11)), some 14, [(.tmp 13)], ⟨.call .none s_layout_Len v_layout_Len, rCall v_layout_Len⟩⟩,
  ⟨(some (7, 3, false, some 11)), some 15, [(.tmp 12), (.tmp 14)], ⟨.f (fBin .geq .no), rGeq⟩⟩,
  ⟨none, some 16, [(.tmp 11), (.const (.bool true)), (.tmp 15)], ⟨.f fPick, rPick⟩⟩])
 (.cond (.tmp 16)
 (.seq none
 (.reg [⟨none, some 4, [(.const (.int .i64 (-1)))], ⟨.f fMove, rMove⟩⟩])
 .ret)
 .skip))
 (.seq none
 (.reg [⟨none, some 17, [(.tmp 1)], ⟨.f fMove, rMove⟩⟩,
  ⟨none, some 18, [(.tmp 5)], ⟨.f fMove, rMove⟩⟩,
  ⟨none, some 19, [(.tmp 17), (.tmp 18)], ⟨.f (fBin .sub .no), rSub⟩⟩,
  ⟨none, some 20, [(.tmp 2)], ⟨.f (fFld 3), rFld 3⟩⟩,
  ⟨none, some 21, [(.tmp 20)], ⟨.lr 2 1 false, rLr1 2⟩⟩,
  ⟨none, some 22, [(.tmp 19), (.tmp 21)], ⟨.f (fBin .quo .no), rAny xl_layout_Of (.f (fBin .quo .no))⟩⟩,
  ⟨none, some 4, [(.tmp 22)], ⟨.f fMove, rMove⟩⟩])
 .ret))))
noncomputable def v_layout_Of : EvF := evFn 2 xc_layout_Of [.t 4]
theorem xt_layout_Of : toC cx_layout_Of (bodyOf Try.f47) = some (xc_layout_Of.map XN.sm) := by kernel_rfl
theorem xr_layout_Of : toR cx_layout_Of Try.f47.results.toList = some [.t 4] := by kernel_rfl
theorem xo_layout_Of : xc_layout_Of.ok xl_layout_Of := ⟨⟨rAny_ok (trivial), rMove_ok, trivial⟩, ⟨⟨rAny_ok (trivial), rCall_ok ve_layout_Base, rMove_ok, trivial⟩, ⟨⟨⟨rMove_ok, rMove_ok, rLss_ok, rMove_ok, rMove_ok, rAny_ok (trivial), rCall_ok ve_layout_Len, rGeq_ok, rPick_ok, trivial⟩, ⟨⟨⟨rMove_ok, trivial⟩, trivial⟩, trivial⟩⟩, ⟨⟨rMove_ok, rMove_ok, rSub_ok, rFld_ok _, rLr1_ok _, rAny_ok (eqv_bin _ _), rMove_ok, trivial⟩, trivial⟩⟩⟩⟩
theorem ve_layout_Of : EvOk s_layout_Of v_layout_Of := EvOk.of (evFn_sound (C := cx_layout_Of) xt_layout_Of xr_layout_Of xo_layout_Of) q_layout_Of
attribute [irreducible] w_layout_Of_j1b w_layout_Of_j1 w_layout_Of s_layout_Of
def w_drop_Drop_Step_j1b (K : Value → Mem → Prop) (σ : Mem) : Prop :=
xF fMove [(.bool false)] fun v4 =>
K v4 σ
def w_drop_Drop_Step_j1 (K : Value → Mem → Prop) (ts : List Value) (ls : List (List Value)) (σ : Mem) : Prop := w_drop_Drop_Step_j1b K σ
def w_drop_Drop_Step (a0 a1 : Value) (K : Value → Mem → Prop) (σ : Mem) : Prop :=
xC (gBox 9 [a1] []) fun c3 =>
xF fMove [(.bool false)] fun v4 =>
xF (fFld 0) [(locP 3)] fun v8 =>
xO (gLoad 7 true [v8] c3) fun v9 =>
xF fMove [a0] fun v10 =>
xF fNil [v10] fun v11 =>
xF (fFld 2) [v11] fun v12 =>
xF (fFld 0) [v12] fun v13 =>
hLoad 1 false [v13] (fun v14 σ =>
s_layout_Slot [v9, v14] (fun v15 σ =>
xF fMove [v15] fun v5 =>
xJoin (w_drop_Drop_Step_j1 K) fun J1 =>
xF fMove [a0] fun v16 =>
xF fNil [v16] fun v17 =>
xF (fFld 4) [v17] fun v18 =>
hLoad 1 false [v18] (fun v19 σ =>
xF (fBin .eql .no) [v19, (.int .i64 0)] fun v27 =>
xF fMove [v27] fun v26 =>
xIf v26
 (xF fMove [a0] fun v28 =>
xO (gLoad 9 true [(locP 3)] c3) fun v29 =>
s_drop_Drop_see [v28, v29] (fun v30 σ =>
xF fMove [v30] fun v4 =>
K v4 σ) σ)
 (xF (fBin .eql .no) [v19, (.int .i64 1)] fun v32 =>
xF fMove [v32] fun v31 =>
xIf v31
 (xO (gLoad 9 true [(locP 3)] c3) fun v33 =>
xF fMove [a0] fun v34 =>
xF fNil [v34] fun v35 =>
xF (fFld 5) [v35] fun v36 =>
hLoad 1 false [v36] (fun v37 σ =>
s_word_Slot [v37] (fun v38 σ =>
xF (fFldV 1 1 false) [v38] fun v39 =>
s_layout_Env_Load [v33, v39] (fun v40 σ =>
s_word_Head [v40] (fun v41 σ =>
xC (gStore 5 [(locP 6), v41] [(.int .i64 0), (.int .i64 0), (.int .i64 0), (.int .i64 0), (.bool false)]) fun c6 =>
xF (fFld 4) [(locP 6)] fun v42 =>
xO (gLoad 1 false [v42] c6) fun v43 =>
xF fMove [a0] fun v44 =>
xF fNil [v44] fun v45 =>
xF (fFld 1) [v45] fun v46 =>
hLoad 1 false [v46] (fun v47 σ =>
xF (fBin .neq .bool) [v43, v47] fun v48 =>
xIf v48
 (xF fMove [a0] fun v49 =>
xO (gLoad 9 true [(locP 3)] c3) fun v50 =>
s_drop_Drop_invalid [v49, v50] (fun v51 σ =>
xF fMove [v51] fun v4 =>
K v4 σ) σ)
 (xF fMove [a0] fun v52 =>
xF fMove [a0] fun v53 =>
xF (fFld 1) [(locP 6)] fun v54 =>
xO (gLoad 1 false [v54] c6) fun v55 =>
xF fNil [v52] fun v56 =>
xF (fFld 6) [v56] fun v57 =>
hStore 1 [v57, v55] (fun _v σ =>
xF fNil [v53] fun v58 =>
xF (fFld 4) [v58] fun v59 =>
hStore 1 [v59, (.int .i64 2)] (fun _v σ =>
xF fMove [a0] fun v60 =>
xF fNil [v60] fun v61 =>
xF (fFld 5) [v61] fun v62 =>
hLoad 1 false [v62] (fun v63 σ =>
s_word_Slot [v63] (fun v64 σ =>
xF (fFldV 0 1 false) [v64] fun v65 =>
xF (fBin .eql .no) [v65, (.int .i64 4)] fun v66 =>
xIf v66
 (xF fMove [a0] fun v67 =>
xF fMove [a0] fun v68 =>
xF fMove [a0] fun v69 =>
xF fNil [v69] fun v70 =>
xF (fFld 2) [v70] fun v71 =>
xF (fFld 0) [v71] fun v72 =>
hLoad 1 false [v72] (fun v73 σ =>
xF fMove [a0] fun v74 =>
xF fNil [v74] fun v75 =>
xF (fFld 5) [v75] fun v76 =>
hLoad 1 false [v76] (fun v77 σ =>
xF fMove [a0] fun v78 =>
xF fNil [v78] fun v79 =>
xF (fFld 6) [v79] fun v80 =>
hLoad 1 false [v80] (fun v81 σ =>
s_drop_NewHelp [v73, v77, v81] (fun v82 σ =>
xF fNil [v67] fun v83 =>
xF (fFld 7) [v83] fun v84 =>
hStore 1 [v84, v82] (fun _v σ =>
xF fNil [v68] fun v85 =>
xF (fFld 4) [v85] fun v86 =>
hStore 1 [v86, (.int .i64 4)] (fun _v σ =>
J1 [] [] σ) σ) σ) σ) σ) σ) σ)
 (J1 [] [] σ)) σ) σ) σ) σ)) σ) σ) σ) σ) σ)
 (xF (fBin .eql .no) [v19, (.int .i64 2)] fun v88 =>
xF fMove [v88] fun v87 =>
xIf v87
 (xF fMove [a0] fun v89 =>
xO (gLoad 9 true [(locP 3)] c3) fun v90 =>
s_drop_Drop_claim [v89, v90] (fun v91 σ =>
J1 [] [] σ) σ)
 (xF (fBin .eql .no) [v19, (.int .i64 3)] fun v93 =>
xF fMove [v93] fun v92 =>
xIf v92
 (xF fMove [a0] fun v94 =>
xF fNil [v94] fun v95 =>
xF (fFld 7) [v95] fun v96 =>
hLoad 1 false [v96] (fun v97 σ =>
xO (gLoad 9 true [(locP 3)] c3) fun v98 =>
s_drop_Help_Step [v97, v98] (fun v99 σ =>
xIf v99
 (xF fMove [a0] fun v100 =>
xF fMove [a0] fun v101 =>
xF (fFld 7) [(locP 3)] fun v102 =>
xO (gLoad 1 false [v102] c3) fun v103 =>
xF fMove [v5] fun v104 =>
s_mem_Mem_When [v103, v104] (fun v105 σ =>
xF (fBuild [(0, 1), (1, 1), (2, 1), (3, 1)] [(.int .i64 0), (.int .u64 0), (.int .i64 0), (.int .i64 0)] [3]) [v105] fun v106 =>
xF fNil [v100] fun v107 =>
xF (fFld 9) [v107] fun v108 =>
hStore 4 [v108, v106] (fun _v σ =>
xF fNil [v101] fun v109 =>
xF (fFld 4) [v109] fun v110 =>
hStore 1 [v110, (.int .i64 5)] (fun _v σ =>
J1 [] [] σ) σ) σ) σ)
 (J1 [] [] σ)) σ) σ)
 (xF (fBin .eql .no) [v19, (.int .i64 4)] fun v112 =>
xF fMove [v112] fun v111 =>
xIf v111
 (xF fMove [a0] fun v113 =>
xF fNil [v113] fun v114 =>
xF (fFld 7) [v114] fun v115 =>
hLoad 1 false [v115] (fun v116 σ =>
xO (gLoad 9 true [(locP 3)] c3) fun v117 =>
s_drop_Help_Step [v116, v117] (fun v118 σ =>
xIf v118
 (xF fMove [a0] fun v119 =>
xF fNil [v119] fun v120 =>
xF (fFld 4) [v120] fun v121 =>
hStore 1 [v121, (.int .i64 0)] (fun _v σ =>
J1 [] [] σ) σ)
 (J1 [] [] σ)) σ) σ)
 (xF (fBin .eql .no) [v19, (.int .i64 5)] fun v123 =>
xF fMove [v123] fun v122 =>
xIf v122
 (xF (fFld 0) [(locP 3)] fun v124 =>
xO (gLoad 7 true [v124] c3) fun v125 =>
xF fMove [a0] fun v126 =>
xF fNil [v126] fun v127 =>
xF (fFld 5) [v127] fun v128 =>
hLoad 1 false [v128] (fun v129 σ =>
s_word_Slot [v129] (fun v130 σ =>
xF (fFldV 1 1 false) [v130] fun v131 =>
s_layout_Of [v125, v131] (fun v132 σ =>
xF fMove [v132] fun v7 =>
xO (gLoad 9 true [(locP 3)] c3) fun v133 =>
xF (fFld 0) [(locP 3)] fun v134 =>
xO (gLoad 7 true [v134] c3) fun v135 =>
xF fMove [v7] fun v136 =>
s_layout_Chunk [v135, v136] (fun v137 σ =>
xF (fBin .add .no) [v137, (.int .i64 1)] fun v138 =>
xF fMove [a0] fun v139 =>
xF fNil [v139] fun v140 =>
xF (fFld 6) [v140] fun v141 =>
hLoad 1 false [v141] (fun v142 σ =>
s_layout_Class [v142] (fun v143 σ =>
s_layout_Room [v143] (fun v144 σ =>
xF (fUn .neg) [v144] fun v145 =>
s_layout_Env_Add [v133, v138, v145] (fun v146 σ =>
xF fMove [a0] fun v147 =>
xF fMove [a0] fun v148 =>
xF fMove [a0] fun v149 =>
xF fNil [v149] fun v150 =>
xF (fFld 2) [v150] fun v151 =>
xF (fFld 0) [v151] fun v152 =>
hLoad 1 false [v152] (fun v153 σ =>
s_slot_NewGive [v153] (fun v154 σ =>
xF fNil [v147] fun v155 =>
xF (fFld 8) [v155] fun v156 =>
hStore 1 [v156, v154] (fun _v σ =>
xF fNil [v148] fun v157 =>
xF (fFld 4) [v157] fun v158 =>
hStore 1 [v158, (.int .i64 6)] (fun _v σ =>
xF fMove [a0] fun v159 =>
xF fNil [v159] fun v160 =>
xF (fFld 2) [v160] fun v161 =>
xF (fFld 1) [v161] fun v162 =>
hLoad 1 false [v162] (fun v163 σ =>
xF (fFld 0) [(locP 3)] fun v164 =>
xF (fFld 4) [v164] fun v165 =>
xO (gLoad 1 false [v165] c3) fun v166 =>
xF (fBin .geq .no) [v163, v166] fun v167 =>
xF fMove [v167] fun v4 =>
K v4 σ) σ) σ) σ) σ) σ) σ) σ) σ) σ) σ) σ) σ) σ)
 (xF fMove [a0] fun v20 =>
xF fNil [v20] fun v21 =>
xF (fFld 8) [v21] fun v22 =>
hLoad 1 false [v22] (fun v23 σ =>
xO (gLoad 9 true [(locP 3)] c3) fun v24 =>
s_slot_Give_Step [v23, v24] (fun v25 σ =>
xF fMove [v25] fun v4 =>
K v4 σ) σ) σ))))))) σ) σ) σ
def s_drop_Drop_Step : Spec := fun args K σ => match args with
  | [a0, a1] => w_drop_Drop_Step a0 a1 K σ
  | _ => False
noncomputable def cx_drop_Drop_Step : Cx := { P := Try.prog, T := [(24, .none, s_layout_Slot), (41, .write, s_drop_Drop_see), (22, .none, s_word_Slot), (43, .write, s_layout_Env_Load), (42, .none, s_word_Head), (44, .write, s_drop_Drop_invalid), (30, .write, s_drop_NewHelp), (45, .write, s_drop_Drop_claim), (31, .write, s_drop_Help_Step), (46, .read, s_mem_Mem_When), (47, .none, s_layout_Of), (27, .none, s_layout_Chunk), (19, .write, s_layout_Class), (18, .none, s_layout_Room), (48, .write, s_layout_Env_Add), (49, .write, s_slot_NewGive), (50, .write, s_slot_Give_Step)], loc := [(3, 3), (6, 6), (8, 3), (42, 6), (54, 6), (102, 3), (124, 3), (134, 3), (164, 3), (165, 3)], eqt := [(4, .bool)], n := 168, keep := [(1000027, [], [])] }
theorem q_drop_Drop_Step : FnS cx_drop_Drop_Step Try.f15 (bodyOf Try.f15) 2 = s_drop_Drop_Step := by
  funext args K σ
  rcases args with _ | ⟨a0, _ | ⟨a1, _ | ⟨b, r⟩⟩⟩ <;> kernel_rfl
theorem e_drop_Drop_Step : Entry Try.prog 15 .write s_drop_Drop_Step :=
  entry (C := cx_drop_Drop_Step) (TOk.cons e_layout_Slot (TOk.cons e_drop_Drop_see (TOk.cons e_word_Slot (TOk.cons e_layout_Env_Load (TOk.cons e_word_Head (TOk.cons e_drop_Drop_invalid (TOk.cons e_drop_NewHelp (TOk.cons e_drop_Drop_claim (TOk.cons e_drop_Help_Step (TOk.cons e_mem_Mem_When (TOk.cons e_layout_Of (TOk.cons e_layout_Chunk (TOk.cons e_layout_Class (TOk.cons e_layout_Room (TOk.cons e_layout_Env_Add (TOk.cons e_slot_NewGive (TOk.cons e_slot_Give_Step TOk.nil))))))))))))))))) mixedOk Try.func15 (by kernel_rfl) (by kernel_rfl) (by kernel_rfl) q_drop_Drop_Step
def xl_drop_Drop_Step : List (Nat × Nat) := [(3, 3), (6, 6), (8, 3), (42, 6), (54, 6), (102, 3), (124, 3), (134, 3), (164, 3), (165, 3)]
noncomputable def xc_drop_Drop_Step : XC XN :=
(.seq none
 (.reg [⟨none, some 3, [(.tmp 1)], ⟨.lb 3 9, rAny xl_drop_Drop_Step (.lb 3 9)⟩⟩,
  ⟨none, some 4, [(.const (.bool false))], ⟨.f fMove, rMove⟩⟩])
 (.seq none
 (.reg [⟨none, some 8, [(.tmp 3)], ⟨.f (fFld 0), rFld 0⟩⟩,
  ⟨none, some 9, [(.tmp 8)], ⟨.lr 3 7 true, rAny xl_drop_Drop_Step (.lr 3 7 true)⟩⟩,
  ⟨none, some 10, [(.tmp 0)], ⟨.f fMove, rMove⟩⟩,
  ⟨none, some 11, [(.tmp 10)], ⟨.f fNil, rNil⟩⟩,
  ⟨none, some 12, [(.tmp 11)], ⟨.f (fFld 2), rFld 2⟩⟩,
  ⟨none, some 13, [(.tmp 12)], ⟨.f (fFld 0), rFld 0⟩⟩,
  ⟨none, some 14, [(.tmp 13)], ⟨.load 1 false, rLoad1⟩⟩,
  ⟨none, some 15, [(.tmp 9), (.tmp 14)], ⟨.call .none s_layout_Slot v_layout_Slot, rCall v_layout_Slot⟩⟩,
  ⟨none, some 5, [(.tmp 15)], ⟨.f fMove, rMove⟩⟩])
 (.seq (some ([], []))
 (.seq none
 (.reg [⟨none, some 16, [(.tmp 0)], ⟨.f fMove, rMove⟩⟩,
  ⟨none, some 17, [(.tmp 16)], ⟨.f fNil, rNil⟩⟩,
  ⟨none, some 18, [(.tmp 17)], ⟨.f (fFld 4), rFld 4⟩⟩,
  ⟨none, some 19, [(.tmp 18)], ⟨.load 1 false, rLoad1⟩⟩])
 (.block 0
 (.seq none
 (.reg [⟨none, some 27, [(.tmp 19), (.const (.int .i64 0))], ⟨.f (fBin .eql .no), rEql⟩⟩,
  ⟨none, some 26, [(.tmp 27)], ⟨.f fMove, rMove⟩⟩])
 (.cond (.tmp 26)
 (.seq none
 (.reg [⟨none, some 28, [(.tmp 0)], ⟨.f fMove, rMove⟩⟩,
  ⟨none, some 29, [(.tmp 3)], ⟨.lr 3 9 true, rAny xl_drop_Drop_Step (.lr 3 9 true)⟩⟩,
  ⟨none, some 30, [(.tmp 28), (.tmp 29)], ⟨.call .write s_drop_Drop_see v_drop_Drop_see, rCall v_drop_Drop_see⟩⟩,
  ⟨none, some 4, [(.tmp 30)], ⟨.f fMove, rMove⟩⟩])
 .ret)
 (.seq none
 (.reg [⟨none, some 32, [(.tmp 19), (.const (.int .i64 1))], ⟨.f (fBin .eql .no), rEql⟩⟩,
  ⟨none, some 31, [(.tmp 32)], ⟨.f fMove, rMove⟩⟩])
 (.cond (.tmp 31)
 (.seq none
 (.reg [⟨none, some 33, [(.tmp 3)], ⟨.lr 3 9 true, rAny xl_drop_Drop_Step (.lr 3 9 true)⟩⟩,
  ⟨none, some 34, [(.tmp 0)], ⟨.f fMove, rMove⟩⟩,
  ⟨none, some 35, [(.tmp 34)], ⟨.f fNil, rNil⟩⟩,
  ⟨none, some 36, [(.tmp 35)], ⟨.f (fFld 5), rFld 5⟩⟩,
  ⟨none, some 37, [(.tmp 36)], ⟨.load 1 false, rLoad1⟩⟩,
  ⟨none, some 38, [(.tmp 37)], ⟨.call .none s_word_Slot v_word_Slot, rCall v_word_Slot⟩⟩,
  ⟨none, some 39, [(.tmp 38)], ⟨.f (fFldV 1 1 false), rAny xl_drop_Drop_Step (.f (fFldV 1 1 false))⟩⟩,
  ⟨none, some 40, [(.tmp 33), (.tmp 39)], ⟨.call .write s_layout_Env_Load v_layout_Env_Load, rCall v_layout_Env_Load⟩⟩,
  ⟨none, some 41, [(.tmp 40)], ⟨.call .none s_word_Head v_word_Head, rCall v_word_Head⟩⟩,
  ⟨none, some 6, [], ⟨.la 6 [(.int .i64 0), (.int .i64 0), (.int .i64 0), (.int .i64 0), (.bool false)], rAny xl_drop_Drop_Step (.la 6 [(.int .i64 0), (.int .i64 0), (.int .i64 0), (.int .i64 0), (.bool false)])⟩⟩,
  ⟨none, none, [(.tmp 6), (.tmp 41)], ⟨.ls 6 5, rAny xl_drop_Drop_Step (.ls 6 5)⟩⟩])
 (.seq none
 (.seq none
 (.reg [⟨none, some 42, [(.tmp 6)], ⟨.f (fFld 4), rFld 4⟩⟩,
  ⟨none, some 43, [(.tmp 42)], ⟨.lr 6 1 false, rLr1 6⟩⟩,
  ⟨none, some 44, [(.tmp 0)], ⟨.f fMove, rMove⟩⟩,
  ⟨none, some 45, [(.tmp 44)], ⟨.f fNil, rNil⟩⟩,
  ⟨none, some 46, [(.tmp 45)], ⟨.f (fFld 1), rFld 1⟩⟩,
  ⟨none, some 47, [(.tmp 46)], ⟨.load 1 false, rLoad1⟩⟩,
  ⟨none, some 48, [(.tmp 43), (.tmp 47)], ⟨.f (fBin .neq .bool), rAny xl_drop_Drop_Step (.f (fBin .neq .bool))⟩⟩])
 (.cond (.tmp 48)
 (.seq none
 (.reg [⟨none, some 49, [(.tmp 0)], ⟨.f fMove, rMove⟩⟩,
  ⟨none, some 50, [(.tmp 3)], ⟨.lr 3 9 true, rAny xl_drop_Drop_Step (.lr 3 9 true)⟩⟩,
  ⟨none, some 51, [(.tmp 49), (.tmp 50)], ⟨.call .write s_drop_Drop_invalid v_drop_Drop_invalid, rCall v_drop_Drop_invalid⟩⟩,
  ⟨none, some 4, [(.tmp 51)], ⟨.f fMove, rMove⟩⟩])
 .ret)
 .skip))
 (.seq none
 (.reg [⟨none, some 52, [(.tmp 0)], ⟨.f fMove, rMove⟩⟩,
  ⟨none, some 53, [(.tmp 0)], ⟨.f fMove, rMove⟩⟩,
  ⟨none, some 54, [(.tmp 6)], ⟨.f (fFld 1), rFld 1⟩⟩,
  ⟨none, some 55, [(.tmp 54)], ⟨.lr 6 1 false, rLr1 6⟩⟩,
  ⟨none, some 56, [(.tmp 52)], ⟨.f fNil, rNil⟩⟩,
  ⟨none, some 57, [(.tmp 56)], ⟨.f (fFld 6), rFld 6⟩⟩,
  ⟨none, none, [(.tmp 57), (.tmp 55)], ⟨.store 1, rStore1⟩⟩,
  ⟨none, some 58, [(.tmp 53)], ⟨.f fNil, rNil⟩⟩,
  ⟨none, some 59, [(.tmp 58)], ⟨.f (fFld 4), rFld 4⟩⟩,
  ⟨none, none, [(.tmp 59), (.const (.int .i64 2))], ⟨.store 1, rStore1⟩⟩])
 (.seq none
 (.reg [⟨none, some 60, [(.tmp 0)], ⟨.f fMove, rMove⟩⟩,
  ⟨none, some 61, [(.tmp 60)], ⟨.f fNil, rNil⟩⟩,
  ⟨none, some 62, [(.tmp 61)], ⟨.f (fFld 5), rFld 5⟩⟩,
  ⟨none, some 63, [(.tmp 62)], ⟨.load 1 false, rLoad1⟩⟩,
  ⟨none, some 64, [(.tmp 63)], ⟨.call .none s_word_Slot v_word_Slot, rCall v_word_Slot⟩⟩,
  ⟨none, some 65, [(.tmp 64)], ⟨.f (fFldV 0 1 false), rAny xl_drop_Drop_Step (.f (fFldV 0 1 false))⟩⟩,
  ⟨none, some 66, [(.tmp 65), (.const (.int .i64 4))], ⟨.f (fBin .eql .no), rEql⟩⟩])
 (.cond (.tmp 66)
 (.reg [⟨none, some 67, [(.tmp 0)], ⟨.f fMove, rMove⟩⟩,
  ⟨none, some 68, [(.tmp 0)], ⟨.f fMove, rMove⟩⟩,
  ⟨none, some 69, [(.tmp 0)], ⟨.f fMove, rMove⟩⟩,
  ⟨none, some 70, [(.tmp 69)], ⟨.f fNil, rNil⟩⟩,
  ⟨none, some 71, [(.tmp 70)], ⟨.f (fFld 2), rFld 2⟩⟩,
  ⟨none, some 72, [(.tmp 71)], ⟨.f (fFld 0), rFld 0⟩⟩,
  ⟨none, some 73, [(.tmp 72)], ⟨.load 1 false, rLoad1⟩⟩,
  ⟨none, some 74, [(.tmp 0)], ⟨.f fMove, rMove⟩⟩,
  ⟨none, some 75, [(.tmp 74)], ⟨.f fNil, rNil⟩⟩,
  ⟨none, some 76, [(.tmp 75)], ⟨.f (fFld 5), rFld 5⟩⟩,
  ⟨none, some 77, [(.tmp 76)], ⟨.load 1 false, rLoad1⟩⟩,
  ⟨none, some 78, [(.tmp 0)], ⟨.f fMove, rMove⟩⟩,
  ⟨none, some 79, [(.tmp 78)], ⟨.f fNil, rNil⟩⟩,
  ⟨none, some 80, [(.tmp 79)], ⟨.f (fFld 6), rFld 6⟩⟩,
  ⟨none, some 81, [(.tmp 80)], ⟨.load 1 false, rLoad1⟩⟩,
  ⟨none, some 82, [(.tmp 73), (.tmp 77), (.tmp 81)], ⟨.call .write s_drop_NewHelp v_drop_NewHelp, rCall v_drop_NewHelp⟩⟩,
  ⟨none, some 83, [(.tmp 67)], ⟨.f fNil, rNil⟩⟩,
  ⟨none, some 84, [(.tmp 83)], ⟨.f (fFld 7), rFld 7⟩⟩,
  ⟨none, none, [(.tmp 84), (.tmp 82)], ⟨.store 1, rStore1⟩⟩,
  ⟨none, some 85, [(.tmp 68)], ⟨.f fNil, rNil⟩⟩,
  ⟨none, some 86, [(.tmp 85)], ⟨.f (fFld 4), rFld 4⟩⟩,
  ⟨none, none, [(.tmp 86), (.const (.int .i64 4))], ⟨.store 1, rStore1⟩⟩])
 .skip)))))
 (.seq none
 (.reg [⟨none, some 88, [(.tmp 19), (.const (.int .i64 2))], ⟨.f (fBin .eql .no), rEql⟩⟩,
  ⟨none, some 87, [(.tmp 88)], ⟨.f fMove, rMove⟩⟩])
 (.cond (.tmp 87)
 (.reg [⟨none, some 89, [(.tmp 0)], ⟨.f fMove, rMove⟩⟩,
  ⟨none, some 90, [(.tmp 3)], ⟨.lr 3 9 true, rAny xl_drop_Drop_Step (.lr 3 9 true)⟩⟩,
  ⟨none, some 91, [(.tmp 89), (.tmp 90)], ⟨.call .write s_drop_Drop_claim v_drop_Drop_claim, rCall v_drop_Drop_claim⟩⟩])
 (.seq none
 (.reg [⟨none, some 93, [(.tmp 19), (.const (.int .i64 3))], ⟨.f (fBin .eql .no), rEql⟩⟩,
  ⟨none, some 92, [(.tmp 93)], ⟨.f fMove, rMove⟩⟩])
 (.cond (.tmp 92)
 (.seq none
 (.reg [⟨none, some 94, [(.tmp 0)], ⟨.f fMove, rMove⟩⟩,
  ⟨none, some 95, [(.tmp 94)], ⟨.f fNil, rNil⟩⟩,
  ⟨none, some 96, [(.tmp 95)], ⟨.f (fFld 7), rFld 7⟩⟩,
  ⟨none, some 97, [(.tmp 96)], ⟨.load 1 false, rLoad1⟩⟩,
  ⟨none, some 98, [(.tmp 3)], ⟨.lr 3 9 true, rAny xl_drop_Drop_Step (.lr 3 9 true)⟩⟩,
  ⟨none, some 99, [(.tmp 97), (.tmp 98)], ⟨.call .write s_drop_Help_Step v_drop_Help_Step, rCall v_drop_Help_Step⟩⟩])
 (.cond (.tmp 99)
 (.reg [⟨none, some 100, [(.tmp 0)], ⟨.f fMove, rMove⟩⟩,
  ⟨none, some 101, [(.tmp 0)], ⟨.f fMove, rMove⟩⟩,
  ⟨none, some 102, [(.tmp 3)], ⟨.f (fFld 7), rFld 7⟩⟩,
  ⟨none, some 103, [(.tmp 102)], ⟨.lr 3 1 false, rLr1 3⟩⟩,
  ⟨none, some 104, [(.tmp 5)], ⟨.f fMove, rMove⟩⟩,
  ⟨none, some 105, [(.tmp 103), (.tmp 104)], ⟨.call .read s_mem_Mem_When v_mem_Mem_When, rCall v_mem_Mem_When⟩⟩,
  ⟨none, some 106, [(.tmp 105)], ⟨.f (fBuild [(0, 1), (1, 1), (2, 1), (3, 1)] [(.int .i64 0), (.int .u64 0), (.int .i64 0), (.int .i64 0)] [3]), rAny xl_drop_Drop_Step (.f (fBuild [(0, 1), (1, 1), (2, 1), (3, 1)] [(.int .i64 0), (.int .u64 0), (.int .i64 0), (.int .i64 0)] [3]))⟩⟩,
  ⟨none, some 107, [(.tmp 100)], ⟨.f fNil, rNil⟩⟩,
  ⟨none, some 108, [(.tmp 107)], ⟨.f (fFld 9), rFld 9⟩⟩,
  ⟨none, none, [(.tmp 108), (.tmp 106)], ⟨.store 4, rAny xl_drop_Drop_Step (.store 4)⟩⟩,
  ⟨none, some 109, [(.tmp 101)], ⟨.f fNil, rNil⟩⟩,
  ⟨none, some 110, [(.tmp 109)], ⟨.f (fFld 4), rFld 4⟩⟩,
  ⟨none, none, [(.tmp 110), (.const (.int .i64 5))], ⟨.store 1, rStore1⟩⟩])
 .skip))
 (.seq none
 (.reg [⟨none, some 112, [(.tmp 19), (.const (.int .i64 4))], ⟨.f (fBin .eql .no), rEql⟩⟩,
  ⟨none, some 111, [(.tmp 112)], ⟨.f fMove, rMove⟩⟩])
 (.cond (.tmp 111)
 (.seq none
 (.reg [⟨none, some 113, [(.tmp 0)], ⟨.f fMove, rMove⟩⟩,
  ⟨none, some 114, [(.tmp 113)], ⟨.f fNil, rNil⟩⟩,
  ⟨none, some 115, [(.tmp 114)], ⟨.f (fFld 7), rFld 7⟩⟩,
  ⟨none, some 116, [(.tmp 115)], ⟨.load 1 false, rLoad1⟩⟩,
  ⟨none, some 117, [(.tmp 3)], ⟨.lr 3 9 true, rAny xl_drop_Drop_Step (.lr 3 9 true)⟩⟩,
  ⟨none, some 118, [(.tmp 116), (.tmp 117)], ⟨.call .write s_drop_Help_Step v_drop_Help_Step, rCall v_drop_Help_Step⟩⟩])
 (.cond (.tmp 118)
 (.reg [⟨none, some 119, [(.tmp 0)], ⟨.f fMove, rMove⟩⟩,
  ⟨none, some 120, [(.tmp 119)], ⟨.f fNil, rNil⟩⟩,
  ⟨none, some 121, [(.tmp 120)], ⟨.f (fFld 4), rFld 4⟩⟩,
  ⟨none, none, [(.tmp 121), (.const (.int .i64 0))], ⟨.store 1, rStore1⟩⟩])
 .skip))
 (.seq none
 (.reg [⟨none, some 123, [(.tmp 19), (.const (.int .i64 5))], ⟨.f (fBin .eql .no), rEql⟩⟩,
  ⟨none, some 122, [(.tmp 123)], ⟨.f fMove, rMove⟩⟩])
 (.cond (.tmp 122)
 (.seq none
 (.reg [⟨none, some 124, [(.tmp 3)], ⟨.f (fFld 0), rFld 0⟩⟩,
  ⟨none, some 125, [(.tmp 124)], ⟨.lr 3 7 true, rAny xl_drop_Drop_Step (.lr 3 7 true)⟩⟩,
  ⟨none, some 126, [(.tmp 0)], ⟨.f fMove, rMove⟩⟩,
  ⟨none, some 127, [(.tmp 126)], ⟨.f fNil, rNil⟩⟩,
  ⟨none, some 128, [(.tmp 127)], ⟨.f (fFld 5), rFld 5⟩⟩,
  ⟨none, some 129, [(.tmp 128)], ⟨.load 1 false, rLoad1⟩⟩,
  ⟨none, some 130, [(.tmp 129)], ⟨.call .none s_word_Slot v_word_Slot, rCall v_word_Slot⟩⟩,
  ⟨none, some 131, [(.tmp 130)], ⟨.f (fFldV 1 1 false), rAny xl_drop_Drop_Step (.f (fFldV 1 1 false))⟩⟩,
  ⟨none, some 132, [(.tmp 125), (.tmp 131)], ⟨.call .none s_layout_Of v_layout_Of, rCall v_layout_Of⟩⟩,
  ⟨none, some 7, [(.tmp 132)], ⟨.f fMove, rMove⟩⟩])
 (.seq none
 (.reg [⟨none, some 133, [(.tmp 3)], ⟨.lr 3 9 true, rAny xl_drop_Drop_Step (.lr 3 9 true)⟩⟩,
  ⟨none, some 134, [(.tmp 3)], ⟨.f (fFld 0), rFld 0⟩⟩,
  ⟨none, some 135, [(.tmp 134)], ⟨.lr 3 7 true, rAny xl_drop_Drop_Step (.lr 3 7 true)⟩⟩,
  ⟨none, some 136, [(.tmp 7)], ⟨.f fMove, rMove⟩⟩,
  ⟨none, some 137, [(.tmp 135), (.tmp 136)], ⟨.call .none s_layout_Chunk v_layout_Chunk, rCall v_layout_Chunk⟩⟩,
  ⟨none, some 138, [(.tmp 137), (.const (.int .i64 1))], ⟨.f (fBin .add .no), rAdd⟩⟩,
  ⟨none, some 139, [(.tmp 0)], ⟨.f fMove, rMove⟩⟩,
  ⟨none, some 140, [(.tmp 139)], ⟨.f fNil, rNil⟩⟩,
  ⟨none, some 141, [(.tmp 140)], ⟨.f (fFld 6), rFld 6⟩⟩,
  ⟨none, some 142, [(.tmp 141)], ⟨.load 1 false, rLoad1⟩⟩,
  ⟨none, some 143, [(.tmp 142)], ⟨.call .write s_layout_Class v_layout_Class, rCall v_layout_Class⟩⟩,
  ⟨none, some 144, [(.tmp 143)], ⟨.call .none s_layout_Room v_layout_Room, rCall v_layout_Room⟩⟩,
  ⟨none, some 145, [(.tmp 144)], ⟨.f (fUn .neg), rAny xl_drop_Drop_Step (.f (fUn .neg))⟩⟩,
  ⟨none, some 146, [(.tmp 133), (.tmp 138), (.tmp 145)], ⟨.call .write s_layout_Env_Add v_layout_Env_Add, rCall v_layout_Env_Add⟩⟩])
 (.seq none
 (.reg [⟨none, some 147, [(.tmp 0)], ⟨.f fMove, rMove⟩⟩,
  ⟨none, some 148, [(.tmp 0)], ⟨.f fMove, rMove⟩⟩,
  ⟨none, some 149, [(.tmp 0)], ⟨.f fMove, rMove⟩⟩,
  ⟨none, some 150, [(.tmp 149)], ⟨.f fNil, rNil⟩⟩,
  ⟨none, some 151, [(.tmp 150)], ⟨.f (fFld 2), rFld 2⟩⟩,
  ⟨none, some 152, [(.tmp 151)], ⟨.f (fFld 0), rFld 0⟩⟩,
  ⟨none, some 153, [(.tmp 152)], ⟨.load 1 false, rLoad1⟩⟩,
  ⟨none, some 154, [(.tmp 153)], ⟨.call .write s_slot_NewGive v_slot_NewGive, rCall v_slot_NewGive⟩⟩,
  ⟨none, some 155, [(.tmp 147)], ⟨.f fNil, rNil⟩⟩,
  ⟨none, some 156, [(.tmp 155)], ⟨.f (fFld 8), rFld 8⟩⟩,
  ⟨none, none, [(.tmp 156), (.tmp 154)], ⟨.store 1, rStore1⟩⟩,
  ⟨none, some 157, [(.tmp 148)], ⟨.f fNil, rNil⟩⟩,
  ⟨none, some 158, [(.tmp 157)], ⟨.f (fFld 4), rFld 4⟩⟩,
  ⟨none, none, [(.tmp 158), (.const (.int .i64 6))], ⟨.store 1, rStore1⟩⟩])
 (.seq none
 (.reg [⟨none, some 159, [(.tmp 0)], ⟨.f fMove, rMove⟩⟩,
  ⟨none, some 160, [(.tmp 159)], ⟨.f fNil, rNil⟩⟩,
  ⟨none, some 161, [(.tmp 160)], ⟨.f (fFld 2), rFld 2⟩⟩,
  ⟨none, some 162, [(.tmp 161)], ⟨.f (fFld 1), rFld 1⟩⟩,
  ⟨none, some 163, [(.tmp 162)], ⟨.load 1 false, rLoad1⟩⟩,
  ⟨none, some 164, [(.tmp 3)], ⟨.f (fFld 0), rFld 0⟩⟩,
  ⟨none, some 165, [(.tmp 164)], ⟨.f (fFld 4), rFld 4⟩⟩,
  ⟨none, some 166, [(.tmp 165)], ⟨.lr 3 1 false, rLr1 3⟩⟩,
  ⟨none, some 167, [(.tmp 163), (.tmp 166)], ⟨.f (fBin .geq .no), rGeq⟩⟩,
  ⟨none, some 4, [(.tmp 167)], ⟨.f fMove, rMove⟩⟩])
 .ret))))
 (.seq none
 (.reg [⟨none, some 20, [(.tmp 0)], ⟨.f fMove, rMove⟩⟩,
  ⟨none, some 21, [(.tmp 20)], ⟨.f fNil, rNil⟩⟩,
  ⟨none, some 22, [(.tmp 21)], ⟨.f (fFld 8), rFld 8⟩⟩,
  ⟨none, some 23, [(.tmp 22)], ⟨.load 1 false, rLoad1⟩⟩,
  ⟨none, some 24, [(.tmp 3)], ⟨.lr 3 9 true, rAny xl_drop_Drop_Step (.lr 3 9 true)⟩⟩,
  ⟨none, some 25, [(.tmp 23), (.tmp 24)], ⟨.call .write s_slot_Give_Step v_slot_Give_Step, rCall v_slot_Give_Step⟩⟩,
  ⟨none, some 4, [(.tmp 25)], ⟨.f fMove, rMove⟩⟩])
 .ret)))))))))))))))
 (.seq none
 (.reg [⟨none, some 4, [(.const (.bool false))], ⟨.f fMove, rMove⟩⟩])
 .ret))))
noncomputable def v_drop_Drop_Step : EvF := evFn 2 xc_drop_Drop_Step [.t 4]
theorem xt_drop_Drop_Step : toC cx_drop_Drop_Step (bodyOf Try.f15) = some (xc_drop_Drop_Step.map XN.sm) := by kernel_rfl
theorem xr_drop_Drop_Step : toR cx_drop_Drop_Step Try.f15.results.toList = some [.t 4] := by kernel_rfl
theorem xo_drop_Drop_Step : xc_drop_Drop_Step.ok xl_drop_Drop_Step := ⟨⟨rAny_ok (trivial), rMove_ok, trivial⟩, ⟨⟨rFld_ok _, rAny_ok (trivial), rMove_ok, rNil_ok, rFld_ok _, rFld_ok _, rLoad1_ok, rCall_ok ve_layout_Slot, rMove_ok, trivial⟩, ⟨⟨⟨rMove_ok, rNil_ok, rFld_ok _, rLoad1_ok, trivial⟩, ⟨⟨rEql_ok, rMove_ok, trivial⟩, ⟨⟨⟨rMove_ok, rAny_ok (trivial), rCall_ok ve_drop_Drop_see, rMove_ok, trivial⟩, trivial⟩, ⟨⟨rEql_ok, rMove_ok, trivial⟩, ⟨⟨⟨rAny_ok (trivial), rMove_ok, rNil_ok, rFld_ok _, rLoad1_ok, rCall_ok ve_word_Slot, rAny_ok (eqv_fldV _ _ _), rCall_ok ve_layout_Env_Load, rCall_ok ve_word_Head, rAny_ok (trivial), rAny_ok (trivial), trivial⟩, ⟨⟨⟨rFld_ok _, rLr1_ok _, rMove_ok, rNil_ok, rFld_ok _, rLoad1_ok, rAny_ok (eqv_bin _ _), trivial⟩, ⟨⟨⟨rMove_ok, rAny_ok (trivial), rCall_ok ve_drop_Drop_invalid, rMove_ok, trivial⟩, trivial⟩, trivial⟩⟩, ⟨⟨rMove_ok, rMove_ok, rFld_ok _, rLr1_ok _, rNil_ok, rFld_ok _, rStore1_ok, rNil_ok, rFld_ok _, rStore1_ok, trivial⟩, ⟨⟨rMove_ok, rNil_ok, rFld_ok _, rLoad1_ok, rCall_ok ve_word_Slot, rAny_ok (eqv_fldV _ _ _), rEql_ok, trivial⟩, ⟨⟨rMove_ok, rMove_ok, rMove_ok, rNil_ok, rFld_ok _, rFld_ok _, rLoad1_ok, rMove_ok, rNil_ok, rFld_ok _, rLoad1_ok, rMove_ok, rNil_ok, rFld_ok _, rLoad1_ok, rCall_ok ve_drop_NewHelp, rNil_ok, rFld_ok _, rStore1_ok, rNil_ok, rFld_ok _, rStore1_ok, trivial⟩, trivial⟩⟩⟩⟩⟩, ⟨⟨rEql_ok, rMove_ok, trivial⟩, ⟨⟨rMove_ok, rAny_ok (trivial), rCall_ok ve_drop_Drop_claim, trivial⟩, ⟨⟨rEql_ok, rMove_ok, trivial⟩, ⟨⟨⟨rMove_ok, rNil_ok, rFld_ok _, rLoad1_ok, rAny_ok (trivial), rCall_ok ve_drop_Help_Step, trivial⟩, ⟨⟨rMove_ok, rMove_ok, rFld_ok _, rLr1_ok _, rMove_ok, rCall_ok ve_mem_Mem_When, rAny_ok (eqv_build _ rfl _), rNil_ok, rFld_ok _, rAny_ok (trivial), rNil_ok, rFld_ok _, rStore1_ok, trivial⟩, trivial⟩⟩, ⟨⟨rEql_ok, rMove_ok, trivial⟩, ⟨⟨⟨rMove_ok, rNil_ok, rFld_ok _, rLoad1_ok, rAny_ok (trivial), rCall_ok ve_drop_Help_Step, trivial⟩, ⟨⟨rMove_ok, rNil_ok, rFld_ok _, rStore1_ok, trivial⟩, trivial⟩⟩, ⟨⟨rEql_ok, rMove_ok, trivial⟩, ⟨⟨⟨rFld_ok _, rAny_ok (trivial), rMove_ok, rNil_ok, rFld_ok _, rLoad1_ok, rCall_ok ve_word_Slot, rAny_ok (eqv_fldV _ _ _), rCall_ok ve_layout_Of, rMove_ok, trivial⟩, ⟨⟨rAny_ok (trivial), rFld_ok _, rAny_ok (trivial), rMove_ok, rCall_ok ve_layout_Chunk, rAdd_ok, rMove_ok, rNil_ok, rFld_ok _, rLoad1_ok, rCall_ok ve_layout_Class, rCall_ok ve_layout_Room, rAny_ok (eqv_un _), rCall_ok ve_layout_Env_Add, trivial⟩, ⟨⟨rMove_ok, rMove_ok, rMove_ok, rNil_ok, rFld_ok _, rFld_ok _, rLoad1_ok, rCall_ok ve_slot_NewGive, rNil_ok, rFld_ok _, rStore1_ok, rNil_ok, rFld_ok _, rStore1_ok, trivial⟩, ⟨⟨rMove_ok, rNil_ok, rFld_ok _, rFld_ok _, rLoad1_ok, rFld_ok _, rFld_ok _, rLr1_ok _, rGeq_ok, rMove_ok, trivial⟩, trivial⟩⟩⟩⟩, ⟨⟨rMove_ok, rNil_ok, rFld_ok _, rLoad1_ok, rAny_ok (trivial), rCall_ok ve_slot_Give_Step, rMove_ok, trivial⟩, trivial⟩⟩⟩⟩⟩⟩⟩⟩⟩⟩⟩⟩⟩⟩, ⟨⟨rMove_ok, trivial⟩, trivial⟩⟩⟩⟩
theorem ve_drop_Drop_Step : EvOk s_drop_Drop_Step v_drop_Drop_Step := EvOk.of (evFn_sound (C := cx_drop_Drop_Step) xt_drop_Drop_Step xr_drop_Drop_Step xo_drop_Drop_Step) q_drop_Drop_Step
attribute [irreducible] w_drop_Drop_Step_j1b w_drop_Drop_Step_j1 w_drop_Drop_Step s_drop_Drop_Step
def w_drop_Drop_Done (a0 : Value) (K : Value → Mem → Prop) (σ : Mem) : Prop :=
xF fMove [a0] fun v3 =>
xF (fBin .eql .ptr) [v3, (.pointer none)] fun v4 =>
xIf v4
 (xF (fBuild [(0, 1), (1, 1), (2, 1), (3, 1)] [(.int .i64 0), (.int .u64 0), (.int .i64 0), (.int .i64 0)] [0]) [(.int .i64 1)] fun v5 =>
xC (gStore 4 [(locP 2), v5] [(.int .i64 0), (.int .u64 0), (.int .i64 0), (.int .i64 0)]) fun c2 =>
xO (gLoad 4 true [(locP 2)] c2) fun r2 =>
K r2 σ)
 (xF fMove [a0] fun v6 =>
xF fNil [v6] fun v7 =>
xF (fFld 9) [v7] fun v8 =>
hLoad 4 true [v8] (fun v9 σ =>
xC (gStore 4 [(locP 2), v9] [(.int .i64 0), (.int .u64 0), (.int .i64 0), (.int .i64 0)]) fun c2 =>
xO (gLoad 4 true [(locP 2)] c2) fun r2 =>
K r2 σ) σ)
def s_drop_Drop_Done : Spec := fun args K σ => match args with
  | [a0] => w_drop_Drop_Done a0 K σ
  | _ => False
noncomputable def cx_drop_Drop_Done : Cx := { P := Try.prog, T := [], loc := [(2, 2)], eqt := [(36, .ptr)], n := 10, keep := [] }
theorem q_drop_Drop_Done : FnS cx_drop_Drop_Done Try.f16 (bodyOf Try.f16) 1 = s_drop_Drop_Done := by
  funext args K σ
  rcases args with _ | ⟨a0, _ | ⟨b, r⟩⟩ <;> kernel_rfl
theorem e_drop_Drop_Done : Entry Try.prog 16 .read s_drop_Drop_Done :=
  entry (C := cx_drop_Drop_Done) TOk.nil mixedOk Try.func16 (by kernel_rfl) (by kernel_rfl) (by kernel_rfl) q_drop_Drop_Done
def xl_drop_Drop_Done : List (Nat × Nat) := [(2, 2)]
noncomputable def xc_drop_Drop_Done : XC XN :=
(.seq none
 (.reg [⟨none, some 2, [], ⟨.la 2 [(.int .i64 0), (.int .u64 0), (.int .i64 0), (.int .i64 0)], rAny xl_drop_Drop_Done (.la 2 [(.int .i64 0), (.int .u64 0), (.int .i64 0), (.int .i64 0)])⟩⟩])
 (.seq none
 (.seq none
 (.reg [⟨none, some 3, [(.tmp 0)], ⟨.f fMove, rMove⟩⟩,
  ⟨none, some 4, [(.tmp 3), (.const (.pointer none))], ⟨.f (fBin .eql .ptr), rAny xl_drop_Drop_Done (.f (fBin .eql .ptr))⟩⟩])
 (.cond (.tmp 4)
 (.seq none
 (.reg [⟨none, some 5, [(.const (.int .i64 1))], ⟨.f (fBuild [(0, 1), (1, 1), (2, 1), (3, 1)] [(.int .i64 0), (.int .u64 0), (.int .i64 0), (.int .i64 0)] [0]), rAny xl_drop_Drop_Done (.f (fBuild [(0, 1), (1, 1), (2, 1), (3, 1)] [(.int .i64 0), (.int .u64 0), (.int .i64 0), (.int .i64 0)] [0]))⟩⟩,
  ⟨none, none, [(.tmp 2), (.tmp 5)], ⟨.ls 2 4, rAny xl_drop_Drop_Done (.ls 2 4)⟩⟩])
 .ret)
 .skip))
 (.seq none
 (.reg [⟨none, some 6, [(.tmp 0)], ⟨.f fMove, rMove⟩⟩,
  ⟨none, some 7, [(.tmp 6)], ⟨.f fNil, rNil⟩⟩,
  ⟨none, some 8, [(.tmp 7)], ⟨.f (fFld 9), rFld 9⟩⟩,
  ⟨none, some 9, [(.tmp 8)], ⟨.load 4 true, rAny xl_drop_Drop_Done (.load 4 true)⟩⟩,
  ⟨none, none, [(.tmp 2), (.tmp 9)], ⟨.ls 2 4, rAny xl_drop_Drop_Done (.ls 2 4)⟩⟩])
 .ret)))
noncomputable def v_drop_Drop_Done : EvF := evFn 1 xc_drop_Drop_Done [.c 2 2 4 true]
theorem xt_drop_Drop_Done : toC cx_drop_Drop_Done (bodyOf Try.f16) = some (xc_drop_Drop_Done.map XN.sm) := by kernel_rfl
theorem xr_drop_Drop_Done : toR cx_drop_Drop_Done Try.f16.results.toList = some [.c 2 2 4 true] := by kernel_rfl
theorem xo_drop_Drop_Done : xc_drop_Drop_Done.ok xl_drop_Drop_Done := ⟨⟨rAny_ok (trivial), trivial⟩, ⟨⟨⟨rMove_ok, rAny_ok (eqv_bin _ _), trivial⟩, ⟨⟨⟨rAny_ok (eqv_build _ rfl _), rAny_ok (trivial), trivial⟩, trivial⟩, trivial⟩⟩, ⟨⟨rMove_ok, rNil_ok, rFld_ok _, rAny_ok (trivial), rAny_ok (trivial), trivial⟩, trivial⟩⟩⟩
theorem ve_drop_Drop_Done : EvOk s_drop_Drop_Done v_drop_Drop_Done := EvOk.of (evFn_sound (C := cx_drop_Drop_Done) xt_drop_Drop_Done xr_drop_Drop_Done xo_drop_Drop_Done) q_drop_Drop_Done
attribute [irreducible] w_drop_Drop_Done s_drop_Drop_Done
def w_law09_Drop_j1b (K : Value → Mem → Prop) (v7 : Value) (c6 : List Value) (σ : Mem) : Prop :=
xF fMove [v7] fun v19 =>
s_drop_Drop_Done [v19] (fun v20 σ =>
xC (gStore 4 [(locP 6), v20] c6) fun c6 =>
xO (gLoad 4 true [(locP 6)] c6) fun r6 =>
K r6 σ) σ
def w_law09_Drop_j1 (K : Value → Mem → Prop) (ts : List Value) (ls : List (List Value)) (σ : Mem) : Prop := w_law09_Drop_j1b K (ts.getD 0 poison) (ls.getD 0 []) σ
def w_law09_Drop_l4b (K : Value → Mem → Prop) (J1 : List Value → List (List Value) → Mem → Prop) (R1 : List Value → List (List Value) → Mem → Prop) (v7 v8 : Value) (c3 c6 : List Value) (σ : Mem) : Prop :=
xF fMove [v8] fun v12 =>
xF (fBin .lss .no) [v12, (.int .i64 200)] fun v13 =>
xIf v13
 (xF fMove [v7] fun v16 =>
xO (gLoad 9 true [(locP 3)] c3) fun v17 =>
s_drop_Drop_Step [v16, v17] (fun v18 σ =>
xIf v18
 (J1 [v7] [c6] σ)
 (xF fMove [v8] fun v14 =>
xF (fBin .add .no) [v14, (.int .i64 1)] fun v15 =>
xF fMove [v15] fun v8 =>
R1 [v7, v8] [c3, c6] σ)) σ)
 (J1 [v7] [c6] σ)
def w_law09_Drop_l4 (K : Value → Mem → Prop) (J1 : List Value → List (List Value) → Mem → Prop) (R1 : List Value → List (List Value) → Mem → Prop) (ts : List Value) (ls : List (List Value)) (σ : Mem) : Prop := w_law09_Drop_l4b K J1 R1 (ts.getD 0 poison) (ts.getD 1 poison) (ls.getD 0 []) (ls.getD 1 []) σ
def w_law09_Drop (a0 a1 a2 : Value) (K : Value → Mem → Prop) (σ : Mem) : Prop :=
xC (gBox 9 [a0] []) fun c3 =>
xF fMove [a1] fun v9 =>
xF fMove [a2] fun v10 =>
s_drop_New [v9, v10] (fun v11 σ =>
xF fMove [v11] fun v7 =>
xJoin (w_law09_Drop_j1 K) fun J1 =>
xF fMove [(.int .i64 0)] fun v8 =>
xLoop (w_law09_Drop_l4 K J1) [v7, v8] [c3, [(.int .i64 0), (.int .u64 0), (.int .i64 0), (.int .i64 0)]] σ) σ
def s_law09_Drop : Spec := fun args K σ => match args with
  | [a0, a1, a2] => w_law09_Drop a0 a1 a2 K σ
  | _ => False
noncomputable def cx_law09_Drop : Cx := { P := Try.prog, T := [(14, .write, s_drop_New), (15, .write, s_drop_Drop_Step), (16, .read, s_drop_Drop_Done)], loc := [(3, 3), (6, 6)], eqt := [], n := 21, keep := [(4, [7, 8], [3, 6]), (1000007, [7], [6])] }
theorem q_law09_Drop : FnS cx_law09_Drop Try.f20 (bodyOf Try.f20) 3 = s_law09_Drop := by
  funext args K σ
  rcases args with _ | ⟨a0, _ | ⟨a1, _ | ⟨a2, _ | ⟨b, r⟩⟩⟩⟩ <;> kernel_rfl
theorem e_law09_Drop : Entry Try.prog 20 .write s_law09_Drop :=
  entry (C := cx_law09_Drop) (TOk.cons e_drop_New (TOk.cons e_drop_Drop_Step (TOk.cons e_drop_Drop_Done TOk.nil))) mixedOk Try.func20 (by kernel_rfl) (by kernel_rfl) (by kernel_rfl) q_law09_Drop
def xl_law09_Drop : List (Nat × Nat) := [(3, 3), (6, 6)]
noncomputable def xc_law09_Drop : XC XN :=
(.seq none
 (.reg [⟨none, some 3, [(.tmp 0)], ⟨.lb 3 9, rAny xl_law09_Drop (.lb 3 9)⟩⟩,
  ⟨none, some 6, [], ⟨.la 6 [(.int .i64 0), (.int .u64 0), (.int .i64 0), (.int .i64 0)], rAny xl_law09_Drop (.la 6 [(.int .i64 0), (.int .u64 0), (.int .i64 0), (.int .i64 0)])⟩⟩])
 (.seq none
 (.reg [⟨none, some 9, [(.tmp 1)], ⟨.f fMove, rMove⟩⟩,
  ⟨none, some 10, [(.tmp 2)], ⟨.f fMove, rMove⟩⟩,
  ⟨none, some 11, [(.tmp 9), (.tmp 10)], ⟨.call .write s_drop_New v_drop_New, rCall v_drop_New⟩⟩,
  ⟨none, some 7, [(.tmp 11)], ⟨.f fMove, rMove⟩⟩])
 (.seq (some ([7], [6]))
 (.seq none
 (.reg [⟨none, some 8, [(.const (.int .i64 0))], ⟨.f fMove, rMove⟩⟩])
 (.block 0
 (.loop ([7, 8], [3, 6])
 (.seq none
 (.seq none
 (.reg [⟨none, some 12, [(.tmp 8)], ⟨.f fMove, rMove⟩⟩,
  ⟨none, some 13, [(.tmp 12), (.const (.int .i64 200))], ⟨.f (fBin .lss .no), rLss⟩⟩])
 (.cond (.tmp 13)
 .skip
 (.exit 0)))
 (.seq none
 (.block 1
 (.seq none
 (.reg [⟨none, some 16, [(.tmp 7)], ⟨.f fMove, rMove⟩⟩,
  ⟨none, some 17, [(.tmp 3)], ⟨.lr 3 9 true, rAny xl_law09_Drop (.lr 3 9 true)⟩⟩,
  ⟨none, some 18, [(.tmp 16), (.tmp 17)], ⟨.call .write s_drop_Drop_Step v_drop_Drop_Step, rCall v_drop_Drop_Step⟩⟩])
 (.cond (.tmp 18)
 (.exit 0)
 .skip)))
 (.reg [⟨none, some 14, [(.tmp 8)], ⟨.f fMove, rMove⟩⟩,
  ⟨none, some 15, [(.tmp 14), (.const (.int .i64 1))], ⟨.f (fBin .add .no), rAdd⟩⟩,
  ⟨none, some 8, [(.tmp 15)], ⟨.f fMove, rMove⟩⟩]))))))
 (.seq none
 (.reg [⟨none, some 19, [(.tmp 7)], ⟨.f fMove, rMove⟩⟩,
  ⟨none, some 20, [(.tmp 19)], ⟨.call .read s_drop_Drop_Done v_drop_Drop_Done, rCall v_drop_Drop_Done⟩⟩,
  ⟨none, none, [(.tmp 6), (.tmp 20)], ⟨.ls 6 4, rAny xl_law09_Drop (.ls 6 4)⟩⟩])
 .ret))))
noncomputable def v_law09_Drop : EvF := evFn 3 xc_law09_Drop [.c 6 6 4 true]
theorem xt_law09_Drop : toC cx_law09_Drop (bodyOf Try.f20) = some (xc_law09_Drop.map XN.sm) := by kernel_rfl
theorem xr_law09_Drop : toR cx_law09_Drop Try.f20.results.toList = some [.c 6 6 4 true] := by kernel_rfl
theorem xo_law09_Drop : xc_law09_Drop.ok xl_law09_Drop := ⟨⟨rAny_ok (trivial), rAny_ok (trivial), trivial⟩, ⟨⟨rMove_ok, rMove_ok, rCall_ok ve_drop_New, rMove_ok, trivial⟩, ⟨⟨⟨rMove_ok, trivial⟩, ⟨⟨⟨rMove_ok, rLss_ok, trivial⟩, ⟨trivial, trivial⟩⟩, ⟨⟨⟨rMove_ok, rAny_ok (trivial), rCall_ok ve_drop_Drop_Step, trivial⟩, ⟨trivial, trivial⟩⟩, ⟨rMove_ok, rAdd_ok, rMove_ok, trivial⟩⟩⟩⟩, ⟨⟨rMove_ok, rCall_ok ve_drop_Drop_Done, rAny_ok (trivial), trivial⟩, trivial⟩⟩⟩⟩
theorem ve_law09_Drop : EvOk s_law09_Drop v_law09_Drop := EvOk.of (evFn_sound (C := cx_law09_Drop) xt_law09_Drop xr_law09_Drop xo_law09_Drop) q_law09_Drop
attribute [irreducible] w_law09_Drop_j1b w_law09_Drop_j1 w_law09_Drop_l4b w_law09_Drop_l4 w_law09_Drop s_law09_Drop
def w_law09_awake_r (K : Value → Mem → Prop) (σ : Mem) : Prop :=
xF fMove [(.bool false)] fun v0 =>
s_law04_Arena [(.int .i64 1), (.int .i64 4), (.int .i64 2), (.int .i64 20)] (fun v5 σ =>
xF fMove [v5] fun v4 =>
xF (fExt 0) [v4] fun v6 =>
xF (fExt 1) [v4] fun v7 =>
xC (gStore 9 [(locP 1), v6] [(.int .i64 0), (.int .i64 0), (.int .i64 0), (.int .i64 0), (.int .i64 0), (.int .i64 0), (.int .i64 0), (.pointer none), (.int .i64 0)]) fun c1 =>
xF fMove [v7] fun v2 =>
xF fMove [v2] fun v8 =>
xF (fUn .not) [v8] fun v9 =>
xIf v9
 (xF fMove [(.bool false)] fun v0 =>
K v0 σ)
 (xO (gLoad 9 true [(locP 1)] c1) fun v10 =>
s_law08_Make [v10, (.int .i64 2), (.bool false)] (fun v11 σ =>
xF (fFldV 1 1 false) [v11] fun v12 =>
xF fMove [v12] fun v3 =>
xF fMove [v3] fun v13 =>
xF (fBin .neq .no) [v13, (.int .u64 0)] fun v14 =>
xF fMove [v14] fun v15 =>
xIf v15
 (xO (gLoad 9 true [(locP 1)] c1) fun v16 =>
xF fMove [v3] fun v17 =>
s_law09_Drop [v16, v17, (.bool false)] (fun v18 σ =>
xF (fFldV 0 1 false) [v18] fun v19 =>
xF (fBin .eql .no) [v19, (.int .i64 0)] fun v20 =>
xF fPick [(.bool true), v20, (.bool false)] fun v21 =>
xF fMove [v21] fun v22 =>
xIf v22
 (xO (gLoad 9 true [(locP 1)] c1) fun v23 =>
xF fMove [v3] fun v24 =>
s_law09_Drop [v23, v24, (.bool false)] (fun v25 σ =>
xF (fFldV 0 1 false) [v25] fun v26 =>
xF (fBin .eql .no) [v26, (.int .i64 3)] fun v27 =>
xF fPick [(.bool true), v27, (.bool false)] fun v28 =>
xF fMove [v28] fun v0 =>
K v0 σ) σ)
 (xF fPick [(.bool false), undef, (.bool false)] fun v28 =>
xF fMove [v28] fun v0 =>
K v0 σ)) σ)
 (xF fPick [(.bool false), undef, (.bool false)] fun v21 =>
xF fMove [v21] fun v22 =>
xIf v22
 (xO (gLoad 9 true [(locP 1)] c1) fun v23 =>
xF fMove [v3] fun v24 =>
s_law09_Drop [v23, v24, (.bool false)] (fun v25 σ =>
xF (fFldV 0 1 false) [v25] fun v26 =>
xF (fBin .eql .no) [v26, (.int .i64 3)] fun v27 =>
xF fPick [(.bool true), v27, (.bool false)] fun v28 =>
xF fMove [v28] fun v0 =>
K v0 σ) σ)
 (xF fPick [(.bool false), undef, (.bool false)] fun v28 =>
xF fMove [v28] fun v0 =>
K v0 σ))) σ)) σ
def s_law09_awake_r : Spec := fun args K σ => match args with
  | [] => w_law09_awake_r  K σ
  | _ => False
noncomputable def cx_law09_awake_r : Cx := { P := Try.prog, T := [(11, .write, s_law04_Arena), (13, .write, s_law08_Make), (20, .write, s_law09_Drop)], loc := [(1, 1)], eqt := [], n := 29, keep := [] }
theorem q_law09_awake_r : FnS cx_law09_awake_r Try.f12 (bodyOf Try.f12) 0 = s_law09_awake_r := by
  funext args K σ
  rcases args with _ | ⟨b, r⟩ <;> kernel_rfl
theorem e_law09_awake_r : Entry Try.prog 12 .write s_law09_awake_r :=
  entry (C := cx_law09_awake_r) (TOk.cons e_law04_Arena (TOk.cons e_law08_Make (TOk.cons e_law09_Drop TOk.nil))) mixedOk Try.func12 (by kernel_rfl) (by kernel_rfl) (by kernel_rfl) q_law09_awake_r
def xl_law09_awake_r : List (Nat × Nat) := [(1, 1)]
noncomputable def xc_law09_awake_r : XC XN :=
(.seq none
 (.reg [⟨none, some 0, [(.const (.bool false))], ⟨.f fMove, rMove⟩⟩])
 (.seq none
 (.reg [⟨none, some 5, [(.const (.int .i64 1)), (.const (.int .i64 4)), (.const (.int .i64 2)), (.const (.int .i64 20))], ⟨.call .write s_law04_Arena v_law04_Arena, rCall v_law04_Arena⟩⟩,
  ⟨none, some 4, [(.tmp 5)], ⟨.f fMove, rMove⟩⟩,
  ⟨none, some 6, [(.tmp 4)], ⟨.f (fExt 0), rAny xl_law09_awake_r (.f (fExt 0))⟩⟩,
  ⟨none, some 7, [(.tmp 4)], ⟨.f (fExt 1), rAny xl_law09_awake_r (.f (fExt 1))⟩⟩,
  ⟨none, some 1, [], ⟨.la 1 [(.int .i64 0), (.int .i64 0), (.int .i64 0), (.int .i64 0), (.int .i64 0), (.int .i64 0), (.int .i64 0), (.pointer none), (.int .i64 0)], rAny xl_law09_awake_r (.la 1 [(.int .i64 0), (.int .i64 0), (.int .i64 0), (.int .i64 0), (.int .i64 0), (.int .i64 0), (.int .i64 0), (.pointer none), (.int .i64 0)])⟩⟩,
  ⟨none, none, [(.tmp 1), (.tmp 6)], ⟨.ls 1 9, rAny xl_law09_awake_r (.ls 1 9)⟩⟩,
  ⟨none, some 2, [(.tmp 7)], ⟨.f fMove, rMove⟩⟩])
 (.seq none
 (.seq none
 (.reg [⟨none, some 8, [(.tmp 2)], ⟨.f fMove, rMove⟩⟩,
  ⟨none, some 9, [(.tmp 8)], ⟨.f (fUn .not), rNot⟩⟩])
 (.cond (.tmp 9)
 (.seq none
 (.reg [⟨none, some 0, [(.const (.bool false))], ⟨.f fMove, rMove⟩⟩])
 .ret)
 .skip))
 (.seq none
 (.reg [⟨none, some 10, [(.tmp 1)], ⟨.lr 1 9 true, rAny xl_law09_awake_r (.lr 1 9 true)⟩⟩,
  ⟨none, some 11, [(.tmp 10), (.const (.int .i64 2)), (.const (.bool false))], ⟨.call .write s_law08_Make v_law08_Make, rCall v_law08_Make⟩⟩,
  ⟨none, some 12, [(.tmp 11)], ⟨.f (fFldV 1 1 false), rAny xl_law09_awake_r (.f (fFldV 1 1 false))⟩⟩,
  ⟨none, some 3, [(.tmp 12)], ⟨.f fMove, rMove⟩⟩])
 (.seq none
 (.reg [⟨none, some 13, [(.tmp 3)], ⟨.f fMove, rMove⟩⟩,
  ⟨none, some 14, [(.tmp 13), (.const (.int .u64 0))], ⟨.f (fBin .neq .no), rNeq⟩⟩,
  ⟨none, some 15, [(.tmp 14)], ⟨.f fMove, rMove⟩⟩,
  ⟨(some (3, 2, true, some 15)), some 16, [(.tmp 1)], ⟨.lr 1 9 true, rAny xl_law09_awake_r (.lr 1 9 true)⟩⟩,
  ⟨(some (4, 2, true, some 15)), some 17, [(.tmp 3)], ⟨.f fMove, rMove⟩⟩,
  ⟨(some (5, 2, true, some 15)), some 18, [(.tmp 16), (.tmp 17), (.const (.bool false))], ⟨.call .write s_law09_Drop v_law09_Drop, rCall v_law09_Drop⟩⟩,
  ⟨(some (6, 2, true, some 15)), some 19, [(.tmp 18)], ⟨.f (fFldV 0 1 false), rAny xl_law09_awake_r (.f (fFldV 0 1 false))⟩⟩,
  ⟨(some (7, 2, true, some 15)), some 20, [(.tmp 19), (.const (.int .i64 0))], ⟨.f (fBin .eql .no), rEql⟩⟩,
  ⟨none, some 21, [(.tmp 15), (.tmp 20), (.const (.bool false))], ⟨.f fPick, rPick⟩⟩,
  ⟨none, some 22, [(.tmp 21)], ⟨.f fMove, rMove⟩⟩,
  ⟨(some (10, 9, true, some 22)), some 23, [(.tmp 1)], ⟨.lr 1 9 true, rAny xl_law09_awake_r (.lr 1 9 true)⟩⟩,
  ⟨(some (11, 9, true, some 22)), some 24, [(.tmp 3)], ⟨.f fMove, rMove⟩⟩,
  ⟨(some (12, 9, true, some 22)), some 25, [(.tmp 23), (.tmp 24), (.const (.bool false))], ⟨.call .write s_law09_Drop v_law09_Drop, rCall v_law09_Drop⟩⟩,
  ⟨(some (13, 9, true, some 22)), some 26, [(.tmp 25)], ⟨.f (fFldV 0 1 false), rAny xl_law09_awake_r (.f (fFldV 0 1 false))⟩⟩,
  ⟨(some (14, 9, true, some 22)), some 27, [(.tmp 26), (.const (.int .i64 3))], ⟨.f (fBin .eql .no), rEql⟩⟩,
  ⟨none, some 28, [(.tmp 22), (.tmp 27), (.const (.bool false))], ⟨.f fPick, rPick⟩⟩,
  ⟨none, some 0, [(.tmp 28)], ⟨.f fMove, rMove⟩⟩])
 .ret)))))
noncomputable def v_law09_awake_r : EvF := evFn 0 xc_law09_awake_r [.t 0]
theorem xt_law09_awake_r : toC cx_law09_awake_r (bodyOf Try.f12) = some (xc_law09_awake_r.map XN.sm) := by kernel_rfl
theorem xr_law09_awake_r : toR cx_law09_awake_r Try.f12.results.toList = some [.t 0] := by kernel_rfl
theorem xo_law09_awake_r : xc_law09_awake_r.ok xl_law09_awake_r := ⟨⟨rMove_ok, trivial⟩, ⟨⟨rCall_ok ve_law04_Arena, rMove_ok, rAny_ok (eqv_ext _), rAny_ok (eqv_ext _), rAny_ok (trivial), rAny_ok (trivial), rMove_ok, trivial⟩, ⟨⟨⟨rMove_ok, rNot_ok, trivial⟩, ⟨⟨⟨rMove_ok, trivial⟩, trivial⟩, trivial⟩⟩, ⟨⟨rAny_ok (trivial), rCall_ok ve_law08_Make, rAny_ok (eqv_fldV _ _ _), rMove_ok, trivial⟩, ⟨⟨rMove_ok, rNeq_ok, rMove_ok, rAny_ok (trivial), rMove_ok, rCall_ok ve_law09_Drop, rAny_ok (eqv_fldV _ _ _), rEql_ok, rPick_ok, rMove_ok, rAny_ok (trivial), rMove_ok, rCall_ok ve_law09_Drop, rAny_ok (eqv_fldV _ _ _), rEql_ok, rPick_ok, rMove_ok, trivial⟩, trivial⟩⟩⟩⟩⟩
theorem ve_law09_awake_r : EvOk s_law09_awake_r v_law09_awake_r := EvOk.of (evFn_sound (C := cx_law09_awake_r) xt_law09_awake_r xr_law09_awake_r xo_law09_awake_r) q_law09_awake_r
theorem a_law09_awake : v_law09_awake_r [] ⟨.e, 0⟩ (fun v _ => isT v) = true := by kernel_rfl
def s_law09_awake : Spec := sTrue
theorem e_law09_awake : Entry Try.prog 12 .none s_law09_awake := e_law09_awake_r.awake ve_law09_awake_r a_law09_awake
attribute [irreducible] w_law09_awake_r s_law09_awake_r s_law09_awake
def w_law09_DropLive (a0 a1 : Value) (K : Value → Mem → Prop) (σ : Mem) : Prop :=
xC (gBox 4 [a0] []) fun c2 =>
xC (gBox 2 [a1] []) fun c3 =>
xF fMove [(.bool false)] fun v4 =>
xF fMove [(.pointer none)] fun v5 =>
s_law09_awake [] (fun v6 σ =>
xF fMove [v6] fun v7 =>
xIf v7
 (xO (gLoad 4 true [(locP 2)] c2) fun v8 =>
xO (gLoad 2 true [(locP 3)] c3) fun v9 =>
s_drop_Live [v8, v9] (fun v10 σ =>
xF (fFld 0) [(locP 2)] fun v11 =>
xO (gLoad 1 false [v11] c2) fun v12 =>
xF (fBin .eql .no) [v12, (.int .i64 1)] fun v13 =>
xF fMove [v13] fun v14 =>
xIf v14
 (xF fPick [(.bool true), (.bool true), undef] fun v18 =>
xF fMove [v18] fun v19 =>
xIf v19
 (xF fPick [(.bool true), (.bool true), undef] fun v23 =>
xF fMove [v23] fun v24 =>
xIf v24
 (xF (fFld 2) [(locP 2)] fun v25 =>
xO (gLoad 1 false [v25] c2) fun v26 =>
xF (fFld 1) [(locP 3)] fun v27 =>
xO (gLoad 1 false [v27] c3) fun v28 =>
xF (fBin .eql .no) [v26, v28] fun v29 =>
xF fPick [(.bool true), v29, (.bool false)] fun v30 =>
xF (fBin .eql .bool) [v10, v30] fun v31 =>
xF fPick [(.bool true), v31, (.bool false)] fun v32 =>
xF fMove [v32] fun v33 =>
xIf v33
 (xF fMove [v5] fun v34 =>
s_drop_Drop_Done [v34] (fun v35 σ =>
xF (fFldV 0 1 false) [v35] fun v36 =>
xF (fBin .eql .no) [v36, (.int .i64 1)] fun v37 =>
xF fPick [(.bool true), v37, (.bool false)] fun v38 =>
xF fMove [v38] fun v4 =>
K v4 σ) σ)
 (xF fPick [(.bool false), undef, (.bool false)] fun v38 =>
xF fMove [v38] fun v4 =>
K v4 σ))
 (xF fPick [(.bool false), undef, (.bool false)] fun v30 =>
xF (fBin .eql .bool) [v10, v30] fun v31 =>
xF fPick [(.bool true), v31, (.bool false)] fun v32 =>
xF fMove [v32] fun v33 =>
xIf v33
 (xF fMove [v5] fun v34 =>
s_drop_Drop_Done [v34] (fun v35 σ =>
xF (fFldV 0 1 false) [v35] fun v36 =>
xF (fBin .eql .no) [v36, (.int .i64 1)] fun v37 =>
xF fPick [(.bool true), v37, (.bool false)] fun v38 =>
xF fMove [v38] fun v4 =>
K v4 σ) σ)
 (xF fPick [(.bool false), undef, (.bool false)] fun v38 =>
xF fMove [v38] fun v4 =>
K v4 σ)))
 (xF (fFld 0) [(locP 2)] fun v20 =>
xO (gLoad 1 false [v20] c2) fun v21 =>
xF (fBin .eql .no) [v21, (.int .i64 4)] fun v22 =>
xF fPick [(.bool false), (.bool true), v22] fun v23 =>
xF fMove [v23] fun v24 =>
xIf v24
 (xF (fFld 2) [(locP 2)] fun v25 =>
xO (gLoad 1 false [v25] c2) fun v26 =>
xF (fFld 1) [(locP 3)] fun v27 =>
xO (gLoad 1 false [v27] c3) fun v28 =>
xF (fBin .eql .no) [v26, v28] fun v29 =>
xF fPick [(.bool true), v29, (.bool false)] fun v30 =>
xF (fBin .eql .bool) [v10, v30] fun v31 =>
xF fPick [(.bool true), v31, (.bool false)] fun v32 =>
xF fMove [v32] fun v33 =>
xIf v33
 (xF fMove [v5] fun v34 =>
s_drop_Drop_Done [v34] (fun v35 σ =>
xF (fFldV 0 1 false) [v35] fun v36 =>
xF (fBin .eql .no) [v36, (.int .i64 1)] fun v37 =>
xF fPick [(.bool true), v37, (.bool false)] fun v38 =>
xF fMove [v38] fun v4 =>
K v4 σ) σ)
 (xF fPick [(.bool false), undef, (.bool false)] fun v38 =>
xF fMove [v38] fun v4 =>
K v4 σ))
 (xF fPick [(.bool false), undef, (.bool false)] fun v30 =>
xF (fBin .eql .bool) [v10, v30] fun v31 =>
xF fPick [(.bool true), v31, (.bool false)] fun v32 =>
xF fMove [v32] fun v33 =>
xIf v33
 (xF fMove [v5] fun v34 =>
s_drop_Drop_Done [v34] (fun v35 σ =>
xF (fFldV 0 1 false) [v35] fun v36 =>
xF (fBin .eql .no) [v36, (.int .i64 1)] fun v37 =>
xF fPick [(.bool true), v37, (.bool false)] fun v38 =>
xF fMove [v38] fun v4 =>
K v4 σ) σ)
 (xF fPick [(.bool false), undef, (.bool false)] fun v38 =>
xF fMove [v38] fun v4 =>
K v4 σ))))
 (xF (fFld 0) [(locP 2)] fun v15 =>
xO (gLoad 1 false [v15] c2) fun v16 =>
xF (fBin .eql .no) [v16, (.int .i64 2)] fun v17 =>
xF fPick [(.bool false), (.bool true), v17] fun v18 =>
xF fMove [v18] fun v19 =>
xIf v19
 (xF fPick [(.bool true), (.bool true), undef] fun v23 =>
xF fMove [v23] fun v24 =>
xIf v24
 (xF (fFld 2) [(locP 2)] fun v25 =>
xO (gLoad 1 false [v25] c2) fun v26 =>
xF (fFld 1) [(locP 3)] fun v27 =>
xO (gLoad 1 false [v27] c3) fun v28 =>
xF (fBin .eql .no) [v26, v28] fun v29 =>
xF fPick [(.bool true), v29, (.bool false)] fun v30 =>
xF (fBin .eql .bool) [v10, v30] fun v31 =>
xF fPick [(.bool true), v31, (.bool false)] fun v32 =>
xF fMove [v32] fun v33 =>
xIf v33
 (xF fMove [v5] fun v34 =>
s_drop_Drop_Done [v34] (fun v35 σ =>
xF (fFldV 0 1 false) [v35] fun v36 =>
xF (fBin .eql .no) [v36, (.int .i64 1)] fun v37 =>
xF fPick [(.bool true), v37, (.bool false)] fun v38 =>
xF fMove [v38] fun v4 =>
K v4 σ) σ)
 (xF fPick [(.bool false), undef, (.bool false)] fun v38 =>
xF fMove [v38] fun v4 =>
K v4 σ))
 (xF fPick [(.bool false), undef, (.bool false)] fun v30 =>
xF (fBin .eql .bool) [v10, v30] fun v31 =>
xF fPick [(.bool true), v31, (.bool false)] fun v32 =>
xF fMove [v32] fun v33 =>
xIf v33
 (xF fMove [v5] fun v34 =>
s_drop_Drop_Done [v34] (fun v35 σ =>
xF (fFldV 0 1 false) [v35] fun v36 =>
xF (fBin .eql .no) [v36, (.int .i64 1)] fun v37 =>
xF fPick [(.bool true), v37, (.bool false)] fun v38 =>
xF fMove [v38] fun v4 =>
K v4 σ) σ)
 (xF fPick [(.bool false), undef, (.bool false)] fun v38 =>
xF fMove [v38] fun v4 =>
K v4 σ)))
 (xF (fFld 0) [(locP 2)] fun v20 =>
xO (gLoad 1 false [v20] c2) fun v21 =>
xF (fBin .eql .no) [v21, (.int .i64 4)] fun v22 =>
xF fPick [(.bool false), (.bool true), v22] fun v23 =>
xF fMove [v23] fun v24 =>
xIf v24
 (xF (fFld 2) [(locP 2)] fun v25 =>
xO (gLoad 1 false [v25] c2) fun v26 =>
xF (fFld 1) [(locP 3)] fun v27 =>
xO (gLoad 1 false [v27] c3) fun v28 =>
xF (fBin .eql .no) [v26, v28] fun v29 =>
xF fPick [(.bool true), v29, (.bool false)] fun v30 =>
xF (fBin .eql .bool) [v10, v30] fun v31 =>
xF fPick [(.bool true), v31, (.bool false)] fun v32 =>
xF fMove [v32] fun v33 =>
xIf v33
 (xF fMove [v5] fun v34 =>
s_drop_Drop_Done [v34] (fun v35 σ =>
xF (fFldV 0 1 false) [v35] fun v36 =>
xF (fBin .eql .no) [v36, (.int .i64 1)] fun v37 =>
xF fPick [(.bool true), v37, (.bool false)] fun v38 =>
xF fMove [v38] fun v4 =>
K v4 σ) σ)
 (xF fPick [(.bool false), undef, (.bool false)] fun v38 =>
xF fMove [v38] fun v4 =>
K v4 σ))
 (xF fPick [(.bool false), undef, (.bool false)] fun v30 =>
xF (fBin .eql .bool) [v10, v30] fun v31 =>
xF fPick [(.bool true), v31, (.bool false)] fun v32 =>
xF fMove [v32] fun v33 =>
xIf v33
 (xF fMove [v5] fun v34 =>
s_drop_Drop_Done [v34] (fun v35 σ =>
xF (fFldV 0 1 false) [v35] fun v36 =>
xF (fBin .eql .no) [v36, (.int .i64 1)] fun v37 =>
xF fPick [(.bool true), v37, (.bool false)] fun v38 =>
xF fMove [v38] fun v4 =>
K v4 σ) σ)
 (xF fPick [(.bool false), undef, (.bool false)] fun v38 =>
xF fMove [v38] fun v4 =>
K v4 σ))))) σ)
 (xF fPick [(.bool false), undef, (.bool false)] fun v32 =>
xF fMove [v32] fun v33 =>
xIf v33
 (xF fMove [v5] fun v34 =>
s_drop_Drop_Done [v34] (fun v35 σ =>
xF (fFldV 0 1 false) [v35] fun v36 =>
xF (fBin .eql .no) [v36, (.int .i64 1)] fun v37 =>
xF fPick [(.bool true), v37, (.bool false)] fun v38 =>
xF fMove [v38] fun v4 =>
K v4 σ) σ)
 (xF fPick [(.bool false), undef, (.bool false)] fun v38 =>
xF fMove [v38] fun v4 =>
K v4 σ))) σ
def s_law09_DropLive : Spec := fun args K σ => match args with
  | [a0, a1] => w_law09_DropLive a0 a1 K σ
  | _ => False
noncomputable def cx_law09_DropLive : Cx := { P := Try.prog, T := [(12, .none, s_law09_awake), (17, .none, s_drop_Live), (16, .read, s_drop_Drop_Done)], loc := [(2, 2), (3, 3), (11, 2), (15, 2), (20, 2), (25, 2), (27, 3)], eqt := [(4, .bool)], n := 39, keep := [] }
theorem q_law09_DropLive : FnS cx_law09_DropLive Try.f4 (bodyOf Try.f4) 2 = s_law09_DropLive := by
  funext args K σ
  rcases args with _ | ⟨a0, _ | ⟨a1, _ | ⟨b, r⟩⟩⟩ <;> kernel_rfl
theorem e_law09_DropLive : Entry Try.prog 4 .read s_law09_DropLive :=
  entry (C := cx_law09_DropLive) (TOk.cons e_law09_awake (TOk.cons e_drop_Live (TOk.cons e_drop_Drop_Done TOk.nil))) mixedOk Try.func4 (by kernel_rfl) (by kernel_rfl) (by kernel_rfl) q_law09_DropLive
attribute [irreducible] w_law09_DropLive s_law09_DropLive
end Go.Fl
namespace Go.Fl
open Go
set_option linter.unusedVariables false
set_option linter.unusedSimpArgs false
theorem Mem.set_set (σ : Mem) (i : Nat) (a b : Blk) : (σ.set i a).set i b = σ.set i b := by
  apply Mem.ext'; funext j; simp only [Mem.set]; split <;> rfl
@[simp] theorem Mem.get_set_same (σ : Mem) (i : Nat) (b : Blk) : (σ.set i b).get i = some b := by simp [Mem.set]
theorem nr {α : Sort _} {a b : α} (h : a = b) : a = b := h
section
variable {K : Value → Prop} {x y z : Value} {b o off : Nat} {q : Option Nat} {k k' : IntKind} {a c : Int} {Q : EqK}
theorem xMove : xF fMove [x] K = K x := nr rfl
theorem xPickT : xF fPick [.bool true, x, y] K = K x := nr rfl
theorem xPickF : xF fPick [.bool false, x, y] K = K y := nr rfl
theorem xNil {p : Addr} : xF fNil [.pointer (some p)] K = K (.pointer (some p)) := nr rfl
theorem xFld {p : Addr} : xF (fFld off) [.pointer (some p)] K = K (.pointer (some ⟨p.block, p.off + off, p.spot⟩)) := nr rfl
theorem xExt0 : xF (fExt 0) [.tuple #[x, y]] K = K x := nr rfl
theorem xExt1 : xF (fExt 1) [.tuple #[x, y]] K = K y := nr rfl
theorem xExt30 : xF (fExt 0) [.tuple #[x, y, z]] K = K x := nr rfl
theorem xExt31 : xF (fExt 1) [.tuple #[x, y, z]] K = K y := nr rfl
theorem xExt32 : xF (fExt 2) [.tuple #[x, y, z]] K = K z := nr rfl
theorem xAdd : xF (fBin .add Q) [.int k a, .int k c] K = K (.int k (k.wrap (a + c))) := by simp [xF, fBin, isSh, binI]
theorem xSub : xF (fBin .sub Q) [.int k a, .int k c] K = K (.int k (k.wrap (a - c))) := by simp [xF, fBin, isSh, binI]
theorem xMul : xF (fBin .mul Q) [.int k a, .int k c] K = K (.int k (k.wrap (a * c))) := by simp [xF, fBin, isSh, binI]
theorem xEql : xF (fBin .eql Q) [.int k a, .int k c] K = K (.bool (decide (a = c))) := by
  simp only [xF, fBin, isSh, binI]
  simp only [Bool.false_eq_true, if_false, if_true]
  congr 2
theorem xNeq : xF (fBin .neq Q) [.int k a, .int k c] K = K (.bool (decide (a ≠ c))) := by
  simp only [xF, fBin, isSh, binI]
  simp only [Bool.false_eq_true, if_false, if_true]
  congr 2
  by_cases h : a = c <;> simp [h]
theorem xLss : xF (fBin .lss Q) [.int k a, .int k c] K = K (.bool (decide (a < c))) := by simp [xF, fBin, isSh, binI]
theorem xLeq : xF (fBin .leq Q) [.int k a, .int k c] K = K (.bool (decide (a ≤ c))) := by simp [xF, fBin, isSh, binI]
theorem xGtr : xF (fBin .gtr Q) [.int k a, .int k c] K = K (.bool (decide (c < a))) := by simp [xF, fBin, isSh, binI]
theorem xGeq : xF (fBin .geq Q) [.int k a, .int k c] K = K (.bool (decide (c ≤ a))) := by simp [xF, fBin, isSh, binI]
theorem xEqPN {p : Addr} : xF (fBin .eql .ptr) [.pointer (some p), .pointer none] K = K (.bool false) := nr rfl
theorem xEqNN : xF (fBin .eql .ptr) [.pointer none, .pointer none] K = K (.bool true) := nr rfl
theorem xNePN {p : Addr} : xF (fBin .neq .ptr) [.pointer (some p), .pointer none] K = K (.bool true) := nr rfl
theorem xNeNN : xF (fBin .neq .ptr) [.pointer none, .pointer none] K = K (.bool false) := nr rfl
theorem xEqBB {u v : Bool} : xF (fBin .eql .bool) [.bool u, .bool v] K = K (.bool (u == v)) := nr rfl
theorem xNeBB {u v : Bool} : xF (fBin .neq .bool) [.bool u, .bool v] K = K (.bool (!(u == v))) := nr rfl
theorem xNot {u : Bool} : xF (fUn .not) [.bool u] K = K (.bool (!u)) := by simp [xF, fUn]
theorem xConv : xF (fConv k) [.int k' a] K = K (.int k (k.wrap a)) := nr rfl
theorem xLen {p : Option Addr} {n m : Nat} : xF fLen [.slice p n m] K = K (.int .i64 n) := nr rfl
theorem xMin : xF fMin [.int k a, .int k c] K = K (.int k (min a c)) := by
  show K (.int k (if c < a then c else a)) = _
  congr 2; split <;> omega
theorem xMax : xF fMax [.int k a, .int k c] K = K (.int k (max a c)) := by
  show K (.int k (if c > a then c else a)) = _
  congr 2; split <;> omega
theorem xIfc {t : TypeId} : xF (fIface t) [x] K = K (.iface t x) := nr rfl
theorem xFldV {cs : Array Value} {sz : Nat} {ag : Bool} : xF (fFldV off sz ag) [.agg cs] K = xO (sub cs.toList off sz ag) K := nr rfl
end
theorem xIfT {A B : Prop} : xIf (.bool true) A B = A := nr rfl
theorem xIfF {A B : Prop} : xIf (.bool false) A B = B := nr rfl
theorem xIfD {A B : Prop} {p : Prop} [Decidable p] : xIf (.bool (decide p)) A B = if p then A else B := by
  by_cases h : p <;> simp [xIf, h]
theorem xIfB {A B : Prop} {u : Bool} : xIf (.bool u) A B = if u = true then A else B := by cases u <;> rfl
theorem xJoinE {F : List Value → List (List Value) → Mem → Prop} {G : (List Value → List (List Value) → Mem → Prop) → Prop} : xJoin F G = G F := nr rfl
theorem xOs {v : Value} {K : Value → Prop} : xO (some v) K = K v := nr rfl
theorem xCs {c : List Value} {K : List Value → Prop} : xC (some c) K = K c := nr rfl
def upd (f : Int → Int) (a v : Int) : Int → Int := fun i => if i = a then v else f i
theorem upd_same (f : Int → Int) (a v : Int) : upd f a v a = v := by simp [upd]
theorem upd_ne (f : Int → Int) {a i : Int} (v : Int) (h : i ≠ a) : upd f a v i = f i := by simp [upd, h]
def cells (k : IntKind) (n : Nat) (f : Int → Int) : List Value := (List.range n).map fun i : Nat => Value.int k (f (i : Int))
@[simp] theorem cells_len (k : IntKind) (n : Nat) (f : Int → Int) : (cells k n f).length = n := by simp [cells]
theorem locP_e (k : Nat) : locP k = .pointer (some ⟨k, 0, some 0⟩) := nr rfl
theorem gBox_a {cs : List Value} {sz : Nat} {l : List Value} (h : cs.length = sz) : gBox sz [.agg cs.toArray] l = some cs := by
  subst h
  show cellsOf (.agg cs.toArray) _ = _
  simp [cellsOf]
theorem gBox_i {k : IntKind} {n : Int} {l : List Value} : gBox 1 [.int k n] l = some [.int k n] := nr rfl
theorem gBox_b {b : Bool} {l : List Value} : gBox 1 [.bool b] l = some [.bool b] := nr rfl
theorem gBox_p {p : Option Addr} {l : List Value} : gBox 1 [.pointer p] l = some [.pointer p] := nr rfl
theorem gLoad_s {sz k o : Nat} {ag : Bool} {q : Option Nat} {cs : List Value} : gLoad sz ag [.pointer (some ⟨k, o, q⟩)] cs = sub cs o sz ag := nr rfl
theorem gAlloc_s {z l : List Value} : gAlloc z [] l = some z := nr rfl
theorem gStore_a {sz k o : Nat} {q : Option Nat} {c cs : List Value} (h : c.length = sz) (hl : o + sz ≤ cs.length) (ho : c.all oneB = true) :
    gStore sz [.pointer (some ⟨k, o, q⟩), .agg c.toArray] cs = some (lay cs o c) := by
  subst h
  have : cellsOf (.agg c.toArray) c.length = some c := by simp [cellsOf]
  simp only [gStore, this]
  rw [if_pos ⟨hl, ho⟩]
theorem gStore_1 {k o : Nat} {q : Option Nat} {x : Value} {cs : List Value} (h : cellsOf x 1 = some [x]) (hl : o + 1 ≤ cs.length) (ho : oneB x = true) :
    gStore 1 [.pointer (some ⟨k, o, q⟩), x] cs = some (lay cs o [x]) := by
  simp only [gStore, h]
  rw [if_pos ⟨hl, by simp [ho]⟩]
theorem gStore_i {k o : Nat} {q : Option Nat} {kd : IntKind} {n : Int} {cs : List Value} (hl : o + 1 ≤ cs.length) :
    gStore 1 [.pointer (some ⟨k, o, q⟩), .int kd n] cs = some (lay cs o [.int kd n]) := gStore_1 rfl hl rfl
theorem gStore_b {k o : Nat} {q : Option Nat} {b : Bool} {cs : List Value} (hl : o + 1 ≤ cs.length) :
    gStore 1 [.pointer (some ⟨k, o, q⟩), .bool b] cs = some (lay cs o [.bool b]) := gStore_1 rfl hl rfl
theorem gStore_p {k o : Nat} {q : Option Nat} {p : Option Addr} {cs : List Value} (hl : o + 1 ≤ cs.length) :
    gStore 1 [.pointer (some ⟨k, o, q⟩), .pointer p] cs = some (lay cs o [.pointer p]) := gStore_1 rfl hl rfl
theorem sub_z {x : Value} {cs : List Value} : sub (x :: cs) 0 1 false = some x := by simp [sub]
theorem sub_s {x : Value} {cs : List Value} {n : Nat} : sub (x :: cs) (n + 1) 1 false = sub cs n 1 false := by
  simp only [sub, List.length_cons]
  by_cases h : n + 1 ≤ cs.length
  · rw [if_pos h, if_pos (by omega)]; simp
  · rw [if_neg h, if_neg (by omega)]
theorem sub_l {cs : List Value} {o sz : Nat} : sub cs o sz true = if o + sz ≤ cs.length then some (.agg ((cs.drop o).take sz).toArray) else none := by simp [sub]
theorem oneB_i {k : IntKind} {n : Int} : oneB (.int k n) = true := nr rfl
theorem oneB_b {b : Bool} : oneB (.bool b) = true := nr rfl
theorem oneB_p {p : Option Addr} : oneB (.pointer p) = true := nr rfl
theorem oneB_sl {p : Option Addr} {n c : Nat} : oneB (.slice p n c) = true := nr rfl
theorem lay_z {cs vs : List Value} : lay cs 0 vs = vs ++ cs.drop vs.length := by simp [lay]
theorem lay_s {x : Value} {cs vs : List Value} {n : Nat} : lay (x :: cs) (n + 1) vs = x :: lay cs n vs := by
  simp only [lay, List.take_succ_cons, List.cons_append]
  rw [show n + 1 + vs.length = (n + vs.length) + 1 by omega, List.drop_succ_cons]
def SlW (w : World) (ks : List (Option IntKind)) (v : Value) : Prop := v = .slice none 0 0 ∨ ∃ (a : Addr) (len cap : Nat) (cells : List Value), v = .slice (some a) len cap ∧ len ≤ cap ∧ cap ≤ maxLen ∧
  FlatL (List.replicate len ks).flatten cells ∧ (cap = 0 ∨ InW w a (cap * ks.length) (len * ks.length) cells)
theorem Opn.sl {w : World} {ρ : Ren} {σ : Mem} {avs avs' : List Value} {v : Value} {ks : List (Option IntKind)} (h : Opn w ρ σ avs avs') (hv : SlW w ks v) :
    ∃ ρ' σ' s n cs, Opn w ρ' σ' (s :: avs) (v :: avs') ∧ Sl σ' ks.length n cs s ∧ n ≤ maxLen ∧ FlatL (List.replicate n ks).flatten cs ∧ ∀ i b, σ.get i = some b → σ'.get i = some b := by
  rcases hv with rfl | ⟨a, len, cap, cs, rfl, h1, h2, h3, h4⟩
  · exact ⟨ρ, σ, _, 0, [], h.nilS, .nil, Nat.zero_le _, .nil, fun _ _ q => q⟩
  · obtain ⟨ρ', σ', s, o, sl, ext⟩ := h.slice (es := ks.length) h1 h3 (by simp) h4
    exact ⟨ρ', σ', s, len, cs, o, sl, Nat.le_trans h1 h2, h3, ext⟩
theorem ruS : type_of% ((And.intro (And.intro (And.intro (And.intro (And.intro @xMove (And.intro @xPickT @xPickF)) (And.intro @xNil (And.intro @xFld @xExt0))) (And.intro (And.intro @xExt1 (And.intro @xExt30 @xExt31)) (And.intro (And.intro @xExt32 @xAdd) (And.intro @xSub @xMul)))) (And.intro (And.intro (And.intro @xEql (And.intro @xNeq @xLss)) (And.intro @xLeq (And.intro @xGtr @xGeq))) (And.intro (And.intro @xEqPN (And.intro @xEqNN @xNePN)) (And.intro (And.intro @xNeNN @xEqBB) (And.intro @xNeBB @xNot))))) (And.intro (And.intro (And.intro (And.intro @xConv (And.intro @xLen @xMin)) (And.intro @xMax (And.intro @xIfc @xIfT))) (And.intro (And.intro @xIfF (And.intro @xIfD @xJoinE)) (And.intro (And.intro @xOs @xCs) (And.intro @xFldV @List.getD_cons_zero.{0})))) (And.intro (And.intro (And.intro @List.getD_cons_succ.{0} (And.intro @Nat.zero_add @Mem.get_set_same)) (And.intro (And.intro @Mem.set_set @if_true.{1}) (And.intro @if_false.{1} @Bool.not_true))) (And.intro (And.intro @Bool.not_false (And.intro @decide_true @decide_false)) (And.intro (And.intro @decide_eq_true_eq @decide_not) (And.intro @Bool.not_eq_true @Bool.false_eq_true))))))) := (And.intro (And.intro (And.intro (And.intro (And.intro @xMove (And.intro @xPickT @xPickF)) (And.intro @xNil (And.intro @xFld @xExt0))) (And.intro (And.intro @xExt1 (And.intro @xExt30 @xExt31)) (And.intro (And.intro @xExt32 @xAdd) (And.intro @xSub @xMul)))) (And.intro (And.intro (And.intro @xEql (And.intro @xNeq @xLss)) (And.intro @xLeq (And.intro @xGtr @xGeq))) (And.intro (And.intro @xEqPN (And.intro @xEqNN @xNePN)) (And.intro (And.intro @xNeNN @xEqBB) (And.intro @xNeBB @xNot))))) (And.intro (And.intro (And.intro (And.intro @xConv (And.intro @xLen @xMin)) (And.intro @xMax (And.intro @xIfc @xIfT))) (And.intro (And.intro @xIfF (And.intro @xIfD @xJoinE)) (And.intro (And.intro @xOs @xCs) (And.intro @xFldV @List.getD_cons_zero.{0})))) (And.intro (And.intro (And.intro @List.getD_cons_succ.{0} (And.intro @Nat.zero_add @Mem.get_set_same)) (And.intro (And.intro @Mem.set_set @if_true.{1}) (And.intro @if_false.{1} @Bool.not_true))) (And.intro (And.intro @Bool.not_false (And.intro @decide_true @decide_false)) (And.intro (And.intro @decide_eq_true_eq @decide_not) (And.intro @Bool.not_eq_true @Bool.false_eq_true))))))
theorem ruL : type_of% ((And.intro (And.intro (And.intro (And.intro (And.intro @locP_e @gBox_a) (And.intro @gBox_i @gBox_b)) (And.intro (And.intro @gBox_p @gLoad_s) (And.intro @gAlloc_s @gStore_a))) (And.intro (And.intro (And.intro @gStore_i @gStore_b) (And.intro @gStore_p @sub_z)) (And.intro (And.intro @sub_s @lay_z) (And.intro @lay_s @List.length_cons.{0})))) (And.intro (And.intro (And.intro (And.intro @List.length_nil.{0} @Nat.le_refl) (And.intro @List.drop_zero.{0} @List.drop_succ_cons.{0})) (And.intro (And.intro @List.take_succ_cons.{0} @List.take_zero.{0}) (And.intro @List.drop_nil.{0} @List.cons_append.{0}))) (And.intro (And.intro (And.intro @List.nil_append.{0} @List.all_cons.{0}) (And.intro @List.all_nil.{0} @oneB_i)) (And.intro (And.intro @oneB_b @oneB_p) (And.intro @oneB_sl @Bool.and_true)))))) := (And.intro (And.intro (And.intro (And.intro (And.intro @locP_e @gBox_a) (And.intro @gBox_i @gBox_b)) (And.intro (And.intro @gBox_p @gLoad_s) (And.intro @gAlloc_s @gStore_a))) (And.intro (And.intro (And.intro @gStore_i @gStore_b) (And.intro @gStore_p @sub_z)) (And.intro (And.intro @sub_s @lay_z) (And.intro @lay_s @List.length_cons.{0})))) (And.intro (And.intro (And.intro (And.intro @List.length_nil.{0} @Nat.le_refl) (And.intro @List.drop_zero.{0} @List.drop_succ_cons.{0})) (And.intro (And.intro @List.take_succ_cons.{0} @List.take_zero.{0}) (And.intro @List.drop_nil.{0} @List.cons_append.{0}))) (And.intro (And.intro (And.intro @List.nil_append.{0} @List.all_cons.{0}) (And.intro @List.all_nil.{0} @oneB_i)) (And.intro (And.intro @oneB_b @oneB_p) (And.intro @oneB_sl @Bool.and_true)))))
theorem ruX : type_of% (@sub_l) := @sub_l
end Go.Fl
namespace Go.Fl
open Go
set_option linter.unusedVariables false
set_option linter.unusedSimpArgs false
structure Ar where
  n : Nat
  w : Int → Int
  t : Int → Int
  s : Int
  who : Int
  la : Int
  lw : Int
  lc : Bool
structure Nm where
  m : Nat
  w : Nat
  t : Nat
structure Nm.ok (N : Nm) : Prop where
  mw : N.m ≠ N.w
  mt : N.m ≠ N.t
  wt : N.w ≠ N.t
variable {N : Nm} {A B : Ar} {σ : Mem} {K : Value → Mem → Prop}
def Ar.by (A : Ar) (who : Int) : Ar := { A with who := who }
def Ar.step (A : Ar) (a : Int) : Ar := { A with s := IntKind.i64.wrap (A.s + 1), la := a, lw := A.who, lc := false }
def Ar.lay (A : Ar) (a v : Int) : Ar := { A with lc := decide (A.w a ≠ v), t := if A.w a ≠ v then upd A.t a A.s else A.t, w := upd A.w a v }
def Nm.p (N : Nm) : Value := .pointer (some ⟨N.m, 0, none⟩)
def Ar.load (A : Ar) (a : Int) : Ar := A.step a
def Ar.store (A : Ar) (a v : Int) : Ar := (A.step a).lay a v
def Ar.cas (A : Ar) (a o v : Int) : Ar := if A.w a = o then (A.step a).lay a v else A.step a
def Ar.add (A : Ar) (a d : Int) : Ar := (A.step a).lay a (IntKind.u64.wrap (A.w a + d))
structure Cf where
  T : Int
  S : Int
  C : Int
  W : Int
  G : Int
  P : Int
  R : Int
def Cf.l (c : Cf) : List Value := [.int .i64 c.T, .int .i64 c.S, .int .i64 c.C, .int .i64 c.W, .int .i64 c.G, .int .i64 c.P, .int .i64 c.R]
def Cf.v (c : Cf) : Value := .agg #[.int .i64 c.T, .int .i64 c.S, .int .i64 c.C, .int .i64 c.W, .int .i64 c.G, .int .i64 c.P, .int .i64 c.R]
def Nm.env (N : Nm) (c : Cf) (who : Int) : Value := .agg #[.int .i64 c.T, .int .i64 c.S, .int .i64 c.C, .int .i64 c.W, .int .i64 c.G, .int .i64 c.P, .int .i64 c.R, N.p, .int .i64 who]
variable {C : Cf} {who : Int}
def cl (n m : Int) : Int := min (max n 0) m
theorem cl_in {n m : Int} (h0 : 0 ≤ n) (h1 : n ≤ m) : cl n m = n := by unfold cl; omega
def putTop (s c : Int) : Int := cl (min s 65535 + 1) 65536 + cl c 68719476735 * 131072
def topS (w : Int) : Int := w % 131072 - 1
def putSlot (st ad ge ve : Int) : Int := cl st 7 + cl ad 1048575 * 8 + cl ge 65535 * 8388608 + cl ve 4194303 * 549755813888
def Nm.l (N : Nm) : List Nat := [N.m, N.w, N.t]
structure Cf.ok (c : Cf) : Prop where
  T : 1 ≤ c.T ∧ c.T ≤ 8
  S : 1 ≤ c.S ∧ c.S ≤ 65536
  C : 1 ≤ c.C ∧ c.C ≤ 64
  W : 17 ≤ c.W ∧ c.W ≤ 256
  G : 1 ≤ c.G ∧ c.G ≤ 65535
  P : 0 ≤ c.P ∧ c.P ≤ 1000
  R : 1 ≤ c.R ∧ c.R ≤ 16
def Cf.slot (c : Cf) (s : Int) : Int := 6 + c.T + 2 * s
def Cf.chunk (c : Cf) (k : Int) : Int := 6 + c.T + 2 * c.S + 3 * k
def Cf.base (c : Cf) (k : Int) : Int := 6 + c.T + 2 * c.S + 3 * c.C + c.W * k
def Cf.len (c : Cf) : Int := c.base c.C
theorem mulW {c : Cf} (h : c.ok) {k : Int} (h0 : 0 ≤ k) (h1 : k ≤ 1048576) : 0 ≤ c.W * k ∧ c.W * k ≤ 268435456 := by
  have hW := h.W
  refine ⟨Int.mul_nonneg (by omega) h0, ?_⟩
  calc c.W * k ≤ 256 * k := Int.mul_le_mul_of_nonneg_right hW.2 h0
    _ ≤ 268435456 := by omega
section
variable {K : Value → Prop}
end
def classOf (n : Int) : Int := if n < 1 then -1 else if n ≤ 2 then 0 else if n ≤ 4 then 1 else if n ≤ 8 then 2 else if n ≤ 16 then 3 else -1
def roomOf (k : Int) : Int := if k = 0 then 3 else if k = 1 then 5 else if k = 2 then 9 else 17
end Go.Fl
namespace Go.Fl
open Go
set_option linter.unusedVariables false
set_option linter.unusedSimpArgs false
variable {N : Nm} {A B : Ar} {σ : Mem} {K : Value → Mem → Prop} {C : Cf} {who : Int}
def Ar.new (n : Nat) : Ar := ⟨n, fun _ => 0, fun _ => 0, 0, 0, 0, 0, false⟩
structure Nm.fr (N : Nm) (σ : Mem) : Prop where
  m : σ.get N.m = none
  w : σ.get N.w = none
  t : σ.get N.t = none
def Nm.el (N : Nm) (c : Cf) (who : Int) : List Value := [.int .i64 c.T, .int .i64 c.S, .int .i64 c.C, .int .i64 c.W, .int .i64 c.G, .int .i64 c.P, .int .i64 c.R, N.p, .int .i64 who]
section
variable {c : Cf} {l : List Value}
theorem gBoxC : gBox 7 [c.v] l = some c.l := nr rfl
theorem subC : sub c.l 0 7 true = some c.v := nr rfl
theorem subC0 : sub c.l 0 1 false = some (.int .i64 c.T) := nr rfl
theorem subC1 : sub c.l 1 1 false = some (.int .i64 c.S) := nr rfl
theorem subC2 : sub c.l 2 1 false = some (.int .i64 c.C) := nr rfl
theorem subC3 : sub c.l 3 1 false = some (.int .i64 c.W) := nr rfl
theorem subC4 : sub c.l 4 1 false = some (.int .i64 c.G) := nr rfl
theorem subC5 : sub c.l 5 1 false = some (.int .i64 c.P) := nr rfl
theorem subC6 : sub c.l 6 1 false = some (.int .i64 c.R) := nr rfl
theorem gBoxE : gBox 9 [N.env c who] l = some (N.el c who) := nr rfl
theorem subE : sub (N.el c who) 0 9 true = some (N.env c who) := nr rfl
theorem subEC : sub (N.el c who) 0 7 true = some c.v := nr rfl
theorem subE0 : sub (N.el c who) 0 1 false = some (.int .i64 c.T) := nr rfl
theorem subE1 : sub (N.el c who) 1 1 false = some (.int .i64 c.S) := nr rfl
theorem subE2 : sub (N.el c who) 2 1 false = some (.int .i64 c.C) := nr rfl
theorem subE3 : sub (N.el c who) 3 1 false = some (.int .i64 c.W) := nr rfl
theorem subE4 : sub (N.el c who) 4 1 false = some (.int .i64 c.G) := nr rfl
theorem subE6 : sub (N.el c who) 6 1 false = some (.int .i64 c.R) := nr rfl
theorem subE7 : sub (N.el c who) 7 1 false = some N.p := nr rfl
theorem subE8 : sub (N.el c who) 8 1 false = some (.int .i64 who) := nr rfl
end
section
variable {a o v d : Int}
@[simp] theorem by_n : (A.by who).n = A.n := rfl
@[simp] theorem by_w : (A.by who).w = A.w := rfl
@[simp] theorem by_t : (A.by who).t = A.t := rfl
@[simp] theorem by_s : (A.by who).s = A.s := rfl
@[simp] theorem load_n : (A.load a).n = A.n := rfl
@[simp] theorem load_w : (A.load a).w = A.w := rfl
@[simp] theorem load_t : (A.load a).t = A.t := rfl
@[simp] theorem load_s : (A.load a).s = IntKind.i64.wrap (A.s + 1) := rfl
@[simp] theorem load_la : (A.load a).la = a := rfl
@[simp] theorem load_lc : (A.load a).lc = false := rfl
@[simp] theorem store_n : (A.store a v).n = A.n := rfl
@[simp] theorem store_w : (A.store a v).w = upd A.w a v := rfl
@[simp] theorem store_s : (A.store a v).s = IntKind.i64.wrap (A.s + 1) := rfl
@[simp] theorem store_la : (A.store a v).la = a := rfl
@[simp] theorem store_lc : (A.store a v).lc = decide (A.w a ≠ v) := rfl
theorem store_t : (A.store a v).t = if A.w a ≠ v then upd A.t a (IntKind.i64.wrap (A.s + 1)) else A.t := rfl
@[simp] theorem cas_n : (A.cas a o v).n = A.n := by unfold Ar.cas; split <;> rfl
@[simp] theorem cas_s : (A.cas a o v).s = IntKind.i64.wrap (A.s + 1) := by unfold Ar.cas; split <;> rfl
@[simp] theorem cas_la : (A.cas a o v).la = a := by unfold Ar.cas; split <;> rfl
theorem cas_no (h : A.w a ≠ o) : A.cas a o v = A.load a := by unfold Ar.cas; rw [if_neg h]; rfl
theorem cas_yes (h : A.w a = o) : A.cas a o v = A.store a v := by unfold Ar.cas; rw [if_pos h]; rfl
end
structure Ar.ok (A : Ar) (b : Int) : Prop where
  w : ∀ i, 0 ≤ A.w i ∧ A.w i < 18446744073709551616
  s : 0 ≤ A.s ∧ A.s ≤ b
  t : ∀ i, 0 ≤ A.t i ∧ A.t i ≤ A.s
theorem Ar.ok.s1 {b : Int} (h : A.ok b) (hb : b < 9223372036854775807) : IntKind.i64.wrap (A.s + 1) = A.s + 1 := IntWalk.i64_in _ (by have := h.s; omega)
theorem Ar.ok.by {b : Int} (h : A.ok b) : (A.by who).ok b := ⟨h.w, h.s, h.t⟩
theorem Ar.ok.load {b a : Int} (h : A.ok b) (hb : b < 9223372036854775807) : (A.load a).ok (b + 1) := by
  refine ⟨h.w, ?_, fun i => ?_⟩
  · rw [load_s, h.s1 hb]; have := h.s; omega
  · rw [load_s, h.s1 hb, load_t]; have := h.t i; omega
theorem upd_cases {f : Int → Int} {a v i : Int} {P : Int → Prop} (h1 : P v) (h2 : P (f i)) : P (upd f a v i) := by unfold upd; split <;> assumption
theorem Ar.ok.store {b a v : Int} (h : A.ok b) (hb : b < 9223372036854775807) (hv : 0 ≤ v ∧ v < 18446744073709551616) : (A.store a v).ok (b + 1) := by
  refine ⟨fun i => upd_cases (P := fun x => 0 ≤ x ∧ x < 18446744073709551616) hv (h.w i), ?_, fun i => ?_⟩
  · rw [store_s, h.s1 hb]; have := h.s; omega
  · rw [store_s, h.s1 hb, store_t]
    have := h.t i
    have := h.s
    split
    · rw [h.s1 hb]; exact upd_cases (P := fun x => 0 ≤ x ∧ x ≤ A.s + 1) (by omega) (by omega)
    · omega
theorem Ar.ok.cas {b a o v : Int} (h : A.ok b) (hb : b < 9223372036854775807) (hv : 0 ≤ v ∧ v < 18446744073709551616) : (A.cas a o v).ok (b + 1) := by
  by_cases hc : A.w a = o
  · rw [cas_yes hc]; exact h.store hb hv
  · rw [cas_no hc]; exact h.load hb
theorem wrap_in (n : Int) : 0 ≤ IntKind.u64.wrap n ∧ IntKind.u64.wrap n < 18446744073709551616 := by rw [IntKind.wrap_u64]; omega
theorem Ar.ok.add {b a d : Int} (h : A.ok b) (hb : b < 9223372036854775807) : (A.add a d).ok (b + 1) := h.store hb (wrap_in _)
def Cf.fr (c : Cf) (i : Int) (a : Int) : Int :=
  if c.slot 0 ≤ a ∧ a < c.slot i then (if (a - c.slot 0) % 2 = 0 then putSlot 0 0 1 0 else putTop ((a - c.slot 0) / 2 + 1) 0) else 0
def Cf.w0 (c : Cf) (a : Int) : Int := if a = 1 then putTop 0 0 else if a = c.slot (c.S - 1) + 1 then putTop (-1) 0 else c.fr c.S a
theorem len_eq : C.len = 6 + C.T + 2 * C.S + 3 * C.C + C.W * C.C := rfl
theorem len_bd (h : C.ok) : C.chunk C.C + 17 ≤ C.len ∧ C.len ≤ 200000 := by
  have hW := h.W
  have hC := h.C
  have hS := h.S
  have hT := h.T
  have h1 : 17 * 1 ≤ C.W * C.C := Int.mul_le_mul hW.1 hC.1 (by omega) (by omega)
  have h2 : C.W * C.C ≤ 256 * 64 := Int.mul_le_mul hW.2 hC.2 (by omega) (by omega)
  rw [len_eq]; unfold Cf.chunk
  omega
theorem ruE : type_of% ((And.intro (And.intro (And.intro (And.intro @Nat.lt_irrefl @Nat.zero_lt_one) (And.intro @gBoxE (And.intro @gBoxC @subE))) (And.intro (And.intro @subEC (And.intro @subE0 @subE1)) (And.intro @subE2 (And.intro @subE3 @subE4)))) (And.intro (And.intro (And.intro @subE6 @subE7) (And.intro @subE8 (And.intro @subC @subC0))) (And.intro (And.intro @subC1 (And.intro @subC2 @subC3)) (And.intro @subC4 (And.intro @subC5 @subC6)))))) := (And.intro (And.intro (And.intro (And.intro @Nat.lt_irrefl @Nat.zero_lt_one) (And.intro @gBoxE (And.intro @gBoxC @subE))) (And.intro (And.intro @subEC (And.intro @subE0 @subE1)) (And.intro @subE2 (And.intro @subE3 @subE4)))) (And.intro (And.intro (And.intro @subE6 @subE7) (And.intro @subE8 (And.intro @subC @subC0))) (And.intro (And.intro @subC1 (And.intro @subC2 @subC3)) (And.intro @subC4 (And.intro @subC5 @subC6)))))
end Go.Fl
namespace Go.Fl
open Go
set_option linter.unusedVariables false
set_option linter.unusedSimpArgs false
variable {N : Nm} {A B : Ar} {σ : Mem} {K : Value → Mem → Prop} {C : Cf} {who : Int}
section
variable {p o k sz : Nat} {pre L post : List Value} {ag : Bool}
end
structure Aft (A A' : Ar) (k : Int) (w : Int → Int) : Prop where
  n : A'.n = A.n
  w : A'.w = w
  s : A'.s = A.s + k
  t : ∀ i, A'.t i = A.t i ∨ A.s < A'.t i ∧ A'.t i ≤ A'.s
theorem Aft.ok {A' : Ar} {k b : Int} {w : Int → Int} (h : Aft A A' k w) (hk : 0 ≤ k) (ho : A.ok b) (hw : ∀ i, 0 ≤ w i ∧ w i < 18446744073709551616) : A'.ok (b + k) := by
  refine ⟨fun i => by rw [h.w]; exact hw i, ?_, fun i => ?_⟩
  · have := ho.s; have := h.s; omega
  · have := ho.s; have := h.s; have := ho.t i
    rcases h.t i with e | e <;> omega
theorem Aft.trans {A' A'' : Ar} {k k' : Int} {w w' : Int → Int} (h : Aft A A' k w) (h' : Aft A' A'' k' w') (hk : 0 ≤ k) (hk' : 0 ≤ k') : Aft A A'' (k + k') w' := by
  refine ⟨h'.n.trans h.n, h'.w, by rw [h'.s, h.s]; omega, fun i => ?_⟩
  have := h.s; have := h'.s
  rcases h'.t i with e | e
  · rw [e]
    rcases h.t i with e | e <;> omega
  · omega
theorem aft_load {b a : Int} (h : A.ok b) (hb : b < 9223372036854775807) : Aft A ((A.by who).load a) 1 A.w :=
  ⟨rfl, rfl, by rw [load_s, by_s, h.s1 hb], fun i => .inl rfl⟩
theorem aft_store {b a v : Int} (h : A.ok b) (hb : b < 9223372036854775807) : Aft A ((A.by who).store a v) 1 (upd A.w a v) := by
  refine ⟨rfl, rfl, by rw [store_s, by_s, h.s1 hb], fun i => ?_⟩
  rw [store_t, by_s, h.s1 hb, store_s, by_s, h.s1 hb]
  split
  · unfold upd; split
    · right; omega
    · left; rfl
  · left; rfl
theorem aft_cas {b a o v : Int} (h : A.ok b) (hb : b < 9223372036854775807) : Aft A ((A.by who).cas a o v) 1 (if A.w a = o then upd A.w a v else A.w) := by
  by_cases hc : A.w a = o
  · rw [if_pos hc, cas_yes (by exact hc)]; exact aft_store h hb
  · rw [if_neg hc, cas_no (by exact hc)]; exact aft_load h hb
end Go.Fl
namespace Go.Fl
open Go
set_option linter.unusedVariables false
set_option linter.unusedSimpArgs false
variable {N : Nm} {A B : Ar} {σ : Mem} {K : Value → Mem → Prop} {C : Cf} {who : Int}
theorem Nm.fr.all (h : N.fr σ) : ∀ i ∈ N.l, σ.get i = none := by
  intro i hi
  simp only [Nm.l, List.mem_cons, List.not_mem_nil, or_false] at hi
  rcases hi with rfl | rfl | rfl
  · exact h.m
  · exact h.w
  · exact h.t
theorem FlatL.split : ∀ {ks ls : List (Option IntKind)} {cs : List Value}, FlatL (ks ++ ls) cs → FlatL ks (cs.take ks.length) ∧ FlatL ls (cs.drop ks.length)
  | [], ls, cs, h => ⟨.nil, h⟩
  | k :: ks, ls, cs, h => by
    cases h with
    | cons h1 h2 =>
      obtain ⟨a, b⟩ := FlatL.split h2
      exact ⟨.cons h1 a, b⟩
section
variable {b o : Nat} {pre L post : List Value} {rw : Bool}
end
end Go.Fl
namespace Go.Fl
open Go
set_option linter.unusedVariables false
set_option linter.unusedSimpArgs false
variable {N : Nm} {A B : Ar} {σ : Mem} {K : Value → Mem → Prop} {C : Cf} {who : Int}
def slS (w : Int) : Int := w % 8
def slA (w : Int) : Int := w / 8 % 1048576
def slG (w : Int) : Int := w / 8388608 % 65536
def slV (w : Int) : Int := w / 549755813888 % 4194304
def hdS (w : Int) : Int := w / 4 % 65536
def hdO (w : Int) : Bool := decide (w / 1125899906842624 % 2 = 1)
end Go.Fl
namespace Go.Fl
open Go
set_option linter.unusedVariables false
set_option linter.unusedSimpArgs false
variable {N : Nm} {A B : Ar} {σ : Mem} {K : Value → Mem → Prop} {C : Cf} {who : Int}
def chS (w : Int) : Int := w % 4
def chC (w : Int) : Int := w / 4 % 64
def chU (w : Int) : Int := w / 256 % 1048576
def chN (w : Int) : Int := w / 268435456 % 68719476736
def putChunk (st c us sp : Int) : Int := cl st 3 + cl c 63 * 4 + cl us 1048575 * 256 + cl sp 68719476735 * 268435456
theorem putChunk_in (st c us sp : Int) : 0 ≤ putChunk st c us sp ∧ putChunk st c us sp < 18446744073709551616 := by unfold putChunk cl; omega
theorem ch_put {st c us sp : Int} (h1 : 0 ≤ st ∧ st ≤ 3) (h2 : 0 ≤ c ∧ c ≤ 63) (h3 : 0 ≤ us ∧ us ≤ 1048575) (h4 : 0 ≤ sp ∧ sp ≤ 68719476735) :
    chS (putChunk st c us sp) = st ∧ chC (putChunk st c us sp) = c ∧ chU (putChunk st c us sp) = us ∧ chN (putChunk st c us sp) = sp := by
  have e : putChunk st c us sp = st + c * 4 + us * 256 + sp * 268435456 := by unfold putChunk; rw [cl_in h1.1 h1.2, cl_in h2.1 h2.2, cl_in h3.1 h3.2, cl_in h4.1 h4.2]
  rw [e]; unfold chS chC chU chN; omega
structure Pl where
  cls : Int
  pc : Int
  opn : Int
  at' : Int
  w : Int
  sa : Int
  sc : Int
  ok : Bool
def Pl.l (p : Pl) : List Value := [.int .i64 p.cls, .int .i64 p.pc, .int .u64 p.opn, .int .i64 p.at', .int .u64 p.w, .int .i64 p.sa, .int .i64 p.sc, .bool p.ok]
def Pl.new (c : Int) : Pl := ⟨c, 0, 0, 0, 0, 0, 0, false⟩
def Pl.fresh (p : Pl) : Int := putChunk 1 p.cls 0 (chN p.w + 1)
def Pl.next (C : Cf) (p : Pl) : Bool × Pl := (decide (C.C ≤ p.at' + 1), { p with at' := p.at' + 1, pc := 3 })
def Pl.step (C : Cf) (who : Int) (A : Ar) (p : Pl) : Bool × Pl × Ar :=
  if p.pc = 0 then
    let w := A.w (2 + p.cls)
    (false, (if IntKind.i64.wrap w - 1 < 0 then { p with opn := w, at' := 0, pc := 3 } else { p with opn := w, at' := IntKind.i64.wrap w - 1, pc := 1 }), (A.by who).load (2 + p.cls))
  else if p.pc = 1 then
    let w := A.w (C.chunk p.at')
    (false, (if chS w ≠ 1 ∨ chC w ≠ p.cls ∨ C.W < chU w + roomOf p.cls then { p with w := w, at' := 0, pc := 3 } else { p with w := w, pc := 2 }), (A.by who).load (C.chunk p.at'))
  else if p.pc = 2 then
    let good := A.w (C.chunk p.at') = p.w
    (decide good, (if good then { p with pc := 0, sa := C.base p.at' + chU p.w, sc := p.at', ok := true } else { p with pc := 0 }), (A.by who).cas (C.chunk p.at') p.w (putChunk (chS p.w) (chC p.w) (chU p.w + roomOf p.cls) (chN p.w)))
  else if p.pc = 3 then
    let w := A.w (C.chunk p.at')
    let q : Pl := { p with w := w }
    if chS w ≠ 0 then ((q.next C).1, (q.next C).2, (A.by who).load (C.chunk p.at')) else (false, { q with pc := 4 }, (A.by who).load (C.chunk p.at'))
  else if p.pc = 4 then
    if A.w (C.chunk p.at') = p.w then (false, { p with pc := 5 }, (A.by who).cas (C.chunk p.at') p.w p.fresh) else ((p.next C).1, (p.next C).2, (A.by who).cas (C.chunk p.at') p.w p.fresh)
  else if p.pc = 5 then
    (false, (if A.w (2 + p.cls) = p.opn then { p with pc := 0 } else { p with pc := 6 }), (A.by who).cas (2 + p.cls) p.opn (p.at' + 1))
  else (false, { p with pc := 0 }, (A.by who).cas (C.chunk p.at') p.fresh (putChunk 0 0 0 (chN p.w + 2)))
structure Pl.fit (C : Cf) (p : Pl) : Prop where
  cls : 0 ≤ p.cls ∧ p.cls ≤ 3
  opn : 0 ≤ p.opn ∧ p.opn < 18446744073709551616
  at' : 0 ≤ p.at' ∧ p.at' < C.C
  w : 0 ≤ p.w ∧ p.w < 18446744073709551616
end Go.Fl
namespace Go.Fl
open Go
set_option linter.unusedVariables false
set_option linter.unusedSimpArgs false
variable {N : Nm} {A B : Ar} {σ : Mem} {K : Value → Mem → Prop} {C : Cf} {who : Int}
theorem chunk_bd (h : C.ok) {a : Int} (h0 : 0 ≤ a) (h1 : a < C.C) (hn : C.len ≤ A.n) : 0 ≤ C.chunk a ∧ C.chunk a < A.n := by
  have := len_bd h; have := h.T; have := h.S; have := h.C
  unfold Cf.chunk at *; omega
theorem sub4 {a b c d : Value} : sub [a, b, c, d] 0 4 true = some (.agg #[a, b, c, d]) := rfl
end Go.Fl
namespace Go.Fl
open Go
set_option linter.unusedVariables false
set_option linter.unusedSimpArgs false
variable {N : Nm} {A B : Ar} {σ : Mem} {K : Value → Mem → Prop} {C : Cf} {who : Int}
def hdOk (h : Int) : Bool := decide (h / 4294967296 = 0 ∧ h / 65536 ≠ 0)
def hdSl (h : Int) : Int := if hdOk h = true then h % 65536 else 0
def hdGe (h : Int) : Int := if hdOk h = true then h / 65536 else 0
end Go.Fl
namespace Go.Fl
open Go
set_option linter.unusedVariables false
set_option linter.unusedSimpArgs false
variable {N : Nm} {A B : Ar} {σ : Mem} {K : Value → Mem → Prop} {C : Cf} {who : Int}
def ofC (C : Cf) (a : Int) : Int := if C.base 0 ≤ a ∧ a < C.len then (a - C.base 0) / C.W else -1
end Go.Fl
namespace Go.Fl
open Go
set_option linter.unusedVariables false
set_option linter.unusedSimpArgs false
variable {N : Nm} {A B : Ar} {σ : Mem} {K : Value → Mem → Prop} {C : Cf} {who : Int}
structure Pa (C : Cf) (A : Ar) (b : Int) : Prop where
  ok : A.ok b
  n : C.len ≤ A.n
  op : ∀ c, 0 ≤ c → c ≤ 3 → A.w (2 + c) ≤ C.C
theorem Pa.mono {b b' : Int} (h : Pa C A b) (hb : b ≤ b') : Pa C A b' := ⟨⟨h.ok.w, ⟨h.ok.s.1, by have := h.ok.s.2; omega⟩, h.ok.t⟩, h.n, h.op⟩
structure Go1 (C : Cf) (A : Ar) (p : Pl) (r : Bool × Pl × Ar) (a : Int) : Prop where
  wh : a = 2 + p.cls ∨ a = C.chunk p.at'
  la : r.2.2.la = a
  s : r.2.2.s = A.s + 1
  n : r.2.2.n = A.n
  w : ∀ i, i ≠ a → r.2.2.w i = A.w i
  cls : r.2.1.cls = p.cls
theorem aw {w : Int → Int} {a v i : Int} {c : Prop} [Decidable c] (h : i ≠ a) : (if c then upd w a v else w) i = w i := by
  split
  · exact upd_ne _ _ h
  · rfl
theorem Pl.go (hC : C.ok) {b : Int} (hb : b < 4611686018427387904) (h : Pa C A b) {p : Pl} (hf : p.fit C) :
    Pa C (p.step C who A).2.2 (b + 1) ∧ ((p.step C who A).1 = false → (p.step C who A).2.1.fit C) ∧ ∃ a, Go1 C A p (p.step C who A) a := by
  obtain ⟨ok, n, op⟩ := h
  obtain ⟨f1, f2, f3, f4⟩ := hf
  have hC3 := hC.C
  have hT := hC.T
  have hS := hC.S
  have hcb := chunk_bd hC f3.1 f3.2 n
  have hwo := ok.w (2 + p.cls)
  have hwc := ok.w (C.chunk p.at')
  have hoo := op p.cls f1.1 f1.2
  have hwr : IntKind.i64.wrap (A.w (2 + p.cls)) = A.w (2 + p.cls) := IntWalk.i64_in _ (by omega)
  have hne : ∀ c, 0 ≤ c → c ≤ 3 → 2 + c ≠ C.chunk p.at' := fun c c0 c3 => by unfold Cf.chunk; omega
  have L : ∀ a, Pa C ((A.by who).load a) (b + 1) := fun a =>
    ⟨(aft_load ok (by omega)).ok (by decide) ok ok.w, n, op⟩
  have Cs : ∀ o v, 0 ≤ v ∧ v < 18446744073709551616 → Pa C ((A.by who).cas (C.chunk p.at') o v) (b + 1) := by
    intro o v hv
    have a1 := aft_cas (who := who) (a := C.chunk p.at') (o := o) (v := v) ok (by omega)
    refine ⟨a1.ok (by decide) ok (fun i => ?_), by rw [a1.n]; exact n, fun c c0 c3 => ?_⟩
    · split
      · exact upd_cases (P := fun x => 0 ≤ x ∧ x < 18446744073709551616) hv (ok.w i)
      · exact ok.w i
    · rw [a1.w, aw (hne c c0 c3)]; exact op c c0 c3
  have nx : ∀ q : Pl, 0 ≤ q.cls ∧ q.cls ≤ 3 → 0 ≤ q.opn ∧ q.opn < 18446744073709551616 → 0 ≤ q.at' → 0 ≤ q.w ∧ q.w < 18446744073709551616 → (q.next C).1 = false → (q.next C).2.fit C := by
    intro q a b c d e
    have e' : ¬ C.C ≤ q.at' + 1 := of_decide_eq_false e
    exact ⟨a, b, ⟨by show 0 ≤ q.at' + 1; omega, by show q.at' + 1 < C.C; omega⟩, d⟩
  unfold Pl.step
  by_cases c0 : p.pc = 0
  · rw [if_pos c0]
    dsimp only
    rw [hwr]
    refine ⟨L _, fun _ => ?_, 2 + p.cls, ⟨.inl rfl, rfl, (aft_load (who := who) (a := 2 + p.cls) ok (by omega)).s, rfl, fun _ _ => rfl, ?_⟩⟩
    · split
      · exact ⟨f1, hwo, ⟨Int.le_refl 0, by show (0 : Int) < C.C; omega⟩, f4⟩
      · exact ⟨f1, hwo, ⟨by dsimp only; omega, by dsimp only; omega⟩, f4⟩
    · split <;> rfl
  rw [if_neg c0]
  by_cases c1 : p.pc = 1
  · rw [if_pos c1]
    refine ⟨L _, fun _ => ?_, C.chunk p.at', ⟨.inr rfl, rfl, (aft_load (who := who) (a := C.chunk p.at') ok (by omega)).s, rfl, fun _ _ => rfl, ?_⟩⟩
    · dsimp only
      split
      · exact ⟨f1, f2, ⟨Int.le_refl 0, by show (0 : Int) < C.C; omega⟩, hwc⟩
      · exact ⟨f1, f2, f3, hwc⟩
    · dsimp only; split <;> rfl
  rw [if_neg c1]
  by_cases c2 : p.pc = 2
  · rw [if_pos c2]
    have a1 := fun v => aft_cas (who := who) (a := C.chunk p.at') (o := p.w) (v := v) ok (by omega)
    refine ⟨Cs _ _ (putChunk_in _ _ _ _), fun _ => ?_, C.chunk p.at', ⟨.inr rfl, cas_la, (a1 _).s, (a1 _).n, fun i hi => by rw [(a1 _).w, aw hi], ?_⟩⟩
    · dsimp only; split <;> exact ⟨f1, f2, f3, f4⟩
    · dsimp only; split <;> rfl
  rw [if_neg c2]
  by_cases c3 : p.pc = 3
  · rw [if_pos c3]
    dsimp only
    split
    · exact ⟨L _, nx _ f1 f2 f3.1 hwc, C.chunk p.at', ⟨.inr rfl, rfl, (aft_load (who := who) (a := C.chunk p.at') ok (by omega)).s, rfl, fun _ _ => rfl, rfl⟩⟩
    · exact ⟨L _, fun _ => ⟨f1, f2, f3, hwc⟩, C.chunk p.at', ⟨.inr rfl, rfl, (aft_load (who := who) (a := C.chunk p.at') ok (by omega)).s, rfl, fun _ _ => rfl, rfl⟩⟩
  rw [if_neg c3]
  by_cases c4 : p.pc = 4
  · rw [if_pos c4]
    have a1 := fun v => aft_cas (who := who) (a := C.chunk p.at') (o := p.w) (v := v) ok (by omega)
    split
    · exact ⟨Cs _ _ (putChunk_in _ _ _ _), fun _ => ⟨f1, f2, f3, f4⟩, C.chunk p.at', ⟨.inr rfl, cas_la, (a1 _).s, (a1 _).n, fun i hi => by rw [(a1 _).w, aw hi], rfl⟩⟩
    · exact ⟨Cs _ _ (putChunk_in _ _ _ _), nx _ f1 f2 f3.1 f4, C.chunk p.at', ⟨.inr rfl, cas_la, (a1 _).s, (a1 _).n, fun i hi => by rw [(a1 _).w, aw hi], rfl⟩⟩
  rw [if_neg c4]
  by_cases c5 : p.pc = 5
  · rw [if_pos c5]
    have a1 := fun v => aft_cas (who := who) (a := 2 + p.cls) (o := p.opn) (v := v) ok (by omega)
    refine ⟨⟨(a1 _).ok (by decide) ok (fun i => ?_), by rw [(a1 _).n]; exact n, fun c c0 c3 => ?_⟩, fun _ => ?_, 2 + p.cls, ⟨.inl rfl, cas_la, (a1 _).s, (a1 _).n, fun i hi => by rw [(a1 _).w, aw hi], ?_⟩⟩
    · split
      · exact upd_cases (P := fun x => 0 ≤ x ∧ x < 18446744073709551616) (by omega) (ok.w i)
      · exact ok.w i
    · rw [(a1 _).w]
      split
      · exact upd_cases (P := fun x => x ≤ C.C) (by omega) (op c c0 c3)
      · exact op c c0 c3
    · dsimp only; split <;> exact ⟨f1, f2, f3, f4⟩
    · dsimp only; split <;> rfl
  · rw [if_neg c5]
    have a1 := fun v => aft_cas (who := who) (a := C.chunk p.at') (o := p.fresh) (v := v) ok (by omega)
    exact ⟨Cs _ _ (putChunk_in _ _ _ _), fun _ => ⟨f1, f2, f3, f4⟩, C.chunk p.at', ⟨.inr rfl, cas_la, (a1 _).s, (a1 _).n, fun i hi => by rw [(a1 _).w, aw hi], rfl⟩⟩
def Pl.spot (p : Pl) : Value := .tuple #[if p.ok = true then .agg #[.int .i64 p.sa, .int .i64 p.sc] else .agg #[.int .i64 0, .int .i64 0], .bool p.ok]
end Go.Fl
namespace Go.Fl
open Go
set_option linter.unusedVariables false
set_option linter.unusedSimpArgs false
variable {N : Nm} {A B : Ar} {σ : Mem} {K : Value → Mem → Prop} {C : Cf} {who : Int}
theorem chunk_inj {i j : Int} (h : C.chunk i = C.chunk j) : i = j := by unfold Cf.chunk at h; omega
theorem chunk_ne (hC : C.ok) {i c : Int} (h0 : 0 ≤ i) (h1 : c ≤ 3) : C.chunk i ≠ 2 + c := by have := hC.T; have := hC.S; unfold Cf.chunk; omega
section
variable {p : Pl}
end
end Go.Fl
namespace Go.Fl
open Go
set_option linter.unusedVariables false
set_option linter.unusedSimpArgs false
variable {N : Nm} {A B : Ar} {σ : Mem} {K : Value → Mem → Prop} {C : Cf} {who : Int}
def lives (w g : Int) : Prop := (slS w = 1 ∨ slS w = 2 ∨ slS w = 4) ∧ slG w = g
instance (w g : Int) : Decidable (lives w g) := inferInstanceAs (Decidable (_ ∧ _))
theorem c_Live {st ad ge ve s g : Int} : s_drop_Live [.agg #[.int .i64 st, .int .i64 ad, .int .i64 ge, .int .i64 ve], .agg #[.int .i64 s, .int .i64 g]] K σ = K (.bool (decide ((st = 1 ∨ st = 2 ∨ st = 4) ∧ ge = g))) σ := by
  simp only [s_drop_Live, w_drop_Live, ruS, ruL, ruX, Nat.reduceAdd, reduceIte, Int.reduceLT, Int.reduceLE, Int.reduceEq, Int.reduceNeg, Int.reduceAdd, Int.reduceSub, Nat.reduceLeDiff]
  by_cases h1 : st = 1
  · simp [h1, xPickT, xIfT, xIfF, xMove, xIfB]
  · by_cases h2 : st = 2
    · simp [h1, h2, xPickT, xPickF, xIfT, xIfF, xMove, xIfB]
    · by_cases h4 : st = 4
      · simp [h1, h2, h4, xPickT, xPickF, xIfT, xIfF, xMove, xIfB]
      · simp [h1, h2, h4, xPickT, xPickF, xIfT, xIfF, xMove, xIfB]
end Go.Fl
namespace Go.Fl
open Go
set_option linter.unusedVariables false
set_option linter.unusedSimpArgs false
variable {N : Nm} {A B : Ar} {σ : Mem} {K : Value → Mem → Prop} {C : Cf} {who : Int}
theorem c_awake9 : s_law09_awake [] K σ = K (.bool true) σ := by unfold s_law09_awake; exact nr rfl
end Go.Fl
namespace Go.Fl
open Go
set_option linter.unusedVariables false
set_option linter.unusedSimpArgs false
variable {N : Nm} {A B : Ar} {σ : Mem} {K : Value → Mem → Prop} {C : Cf} {who : Int}
structure Alo (C : Cf) (o u : Int → Int) (nx : Int) (w : Int → Int) : Prop where
  bd : 0 ≤ nx ∧ nx ≤ C.C
  op : ∀ c, 0 ≤ c → c ≤ 3 → w (2 + c) = o c + 1 ∧ -1 ≤ o c ∧ o c < nx
  cls : ∀ c, 0 ≤ c → c ≤ 3 → 0 ≤ o c → chC (w (C.chunk (o c))) = c
  old : ∀ j, 0 ≤ j → j < nx → chS (w (C.chunk j)) = 1 ∧ chU (w (C.chunk j)) = u j ∧ 0 ≤ u j ∧ u j ≤ C.W
  new : ∀ j, nx ≤ j → j < C.C → w (C.chunk j) = 0 ∧ u j = 0
def good (C : Cf) (o u : Int → Int) (c : Int) : Prop := 0 ≤ o c ∧ u (o c) + roomOf c ≤ C.W
theorem Alo.take (hC : C.ok) {o u w : Int → Int} {nx c : Int} (h : Alo C o u nx w) (c0 : 0 ≤ c) (c3 : c ≤ 3) (hn : nx < C.C) :
    Alo C (upd o c nx) u (nx + 1) (upd (upd w (C.chunk nx) (putChunk 1 c 0 1)) (2 + c) (nx + 1)) := by
  have hW := hC.W
  obtain ⟨p1, p2, p3, p4⟩ := ch_put (st := 1) (c := c) (us := 0) (sp := 1) (by omega) (by omega) (by omega) (by omega)
  have wc : ∀ j, 0 ≤ j → j ≠ nx → upd (upd w (C.chunk nx) (putChunk 1 c 0 1)) (2 + c) (nx + 1) (C.chunk j) = w (C.chunk j) := by
    intro j j0 hj
    rw [upd_ne _ _ (chunk_ne hC j0 c3), upd_ne _ _ (fun e => hj (chunk_inj e))]
  have wn : upd (upd w (C.chunk nx) (putChunk 1 c 0 1)) (2 + c) (nx + 1) (C.chunk nx) = putChunk 1 c 0 1 := by
    rw [upd_ne _ _ (chunk_ne hC h.bd.1 c3), upd_same]
  have un := (h.new nx (Int.le_refl _) hn).2
  refine ⟨⟨by have := h.bd; omega, by omega⟩, fun k k0 k3 => ?_, fun k k0 k3 hk => ?_, fun j j0 j1 => ?_, fun j j0 j1 => ?_⟩
  · by_cases e : k = c
    · subst e; rw [upd_same, upd_same]; have := h.bd; omega
    · rw [upd_ne _ _ (by omega), upd_ne _ _ (fun q => chunk_ne hC h.bd.1 k3 q.symm), upd_ne _ _ e]
      have := h.op k k0 k3; omega
  · by_cases e : k = c
    · subst e; rw [upd_same] at hk ⊢; rw [wn]; exact p2
    · rw [upd_ne _ _ e] at hk ⊢
      have := h.op k k0 k3
      rw [wc _ hk (by omega)]; exact h.cls k k0 k3 hk
  · by_cases e : j = nx
    · subst e; rw [wn, un]; exact ⟨p1, p3, by omega, by omega⟩
    · rw [wc _ j0 e]; exact h.old j j0 (by omega)
  · have := h.bd
    rw [wc _ (by omega) (by omega)]; exact h.new j (by omega) j1
end Go.Fl
namespace Go.Fl
open Go
set_option linter.unusedVariables false
set_option linter.unusedSimpArgs false
variable {N : Nm} {A B : Ar} {σ : Mem} {K : Value → Mem → Prop} {C : Cf} {who : Int}
def Chn (C : Cf) (w : Int → Int) : Int → List Int → Prop
  | f, [] => f = -1
  | f, s :: l => f = s ∧ 0 ≤ s ∧ s < C.S ∧ Chn C w (topS (w (C.slot s + 1))) l
structure Fre (C : Cf) (w : Int → Int) (l : List Int) : Prop where
  c : Chn C w (topS (w 1)) l
  nd : l.Nodup
theorem Chn.mem {w : Int → Int} : ∀ {l : List Int} {f : Int}, Chn C w f l → ∀ s ∈ l, 0 ≤ s ∧ s < C.S
  | [], _, _, s, h => by cases h
  | x :: l, f, hc, s, h => by
    rcases List.mem_cons.1 h with rfl | h
    · exact ⟨hc.2.1, hc.2.2.1⟩
    · exact Chn.mem hc.2.2.2 s h
theorem Chn.congr {w w' : Int → Int} : ∀ {l : List Int} {f : Int}, Chn C w f l → (∀ s ∈ l, topS (w' (C.slot s + 1)) = topS (w (C.slot s + 1))) → Chn C w' f l
  | [], _, h, _ => h
  | x :: l, f, hc, h => ⟨hc.1, hc.2.1, hc.2.2.1, by rw [h x (by simp)]; exact Chn.congr hc.2.2.2 fun s hs => h s (by simp [hs])⟩
theorem Chn.first {w : Int → Int} {l : List Int} {f : Int} (h : Chn C w f l) : -1 ≤ f ∧ f < C.S ∨ C.S < 0 := by
  cases l with
  | nil => unfold Chn at h; omega
  | cons x l => have := h.1; have := h.2.1; have := h.2.2.1; omega
def upL (i : Int) : Nat → List Int
  | 0 => []
  | n + 1 => i :: upL (i + 1) n
end Go.Fl
namespace Go.Fl
open Go
set_option linter.unusedVariables false
set_option linter.unusedSimpArgs false
variable {N : Nm} {A B : Ar} {σ : Mem} {K : Value → Mem → Prop} {C : Cf} {who : Int}
theorem Alo.congr {o u w w' : Int → Int} {nx : Int} (h : Alo C o u nx w) (h1 : ∀ c, 0 ≤ c → c ≤ 3 → w' (2 + c) = w (2 + c)) (h2 : ∀ j, 0 ≤ j → j < C.C → w' (C.chunk j) = w (C.chunk j)) : Alo C o u nx w' := by
  have hb := h.bd
  refine ⟨h.bd, fun c c0 c3 => by rw [h1 c c0 c3]; exact h.op c c0 c3, fun c c0 c3 hc => ?_, fun j j0 j1 => by rw [h2 j j0 (by omega)]; exact h.old j j0 j1, fun j j0 j1 => by rw [h2 j (by omega) j1]; exact h.new j j0 j1⟩
  have := h.op c c0 c3
  rw [h2 _ hc (by omega)]; exact h.cls c c0 c3 hc
theorem Fre.congr {F : List Int} {w w' : Int → Int} (h : Fre C w F) (h1 : w' 1 = w 1) (h2 : ∀ s, 0 ≤ s → s < C.S → w' (C.slot s + 1) = w (C.slot s + 1)) : Fre C w' F :=
  ⟨by rw [h1]; exact h.c.congr fun s hs => by have := h.c.mem s hs; rw [h2 s this.1 this.2], h.nd⟩
structure Aw (C : Cf) (F : List Int) (o u lv : Int → Int) (nx : Int) (w : Int → Int) : Prop where
  fre : Fre C w F
  alo : Alo C o u nx w
  live : ∀ j, 0 ≤ j → j < C.C → w (C.chunk j + 1) = lv j
  nil : ∀ j i, 0 ≤ j → j < C.C → u j ≤ i → i < C.W → w (C.base j + i) = 0
theorem base_of (hC : C.ok) {j i : Int} (j0 : 0 ≤ j) (j1 : j < C.C) (i0 : 0 ≤ i) (i1 : i < C.W) : ofC C (C.base j + i) = j ∧ 0 ≤ C.base j + i ∧ C.base j + i < C.len := by
  have hW := hC.W
  have hT := hC.T
  have hS := hC.S
  have hC3 := hC.C
  have hm := mulW hC j0 (by omega)
  have hm2 : C.W * (j + 1) ≤ C.W * C.C := Int.mul_le_mul_of_nonneg_left (by omega) (by omega)
  rw [Int.mul_add, Int.mul_one] at hm2
  have e0 : C.base 0 = 6 + C.T + 2 * C.S + 3 * C.C := by unfold Cf.base; omega
  have ej : C.base j = 6 + C.T + 2 * C.S + 3 * C.C + C.W * j := rfl
  have el : C.len = 6 + C.T + 2 * C.S + 3 * C.C + C.W * C.C := rfl
  refine ⟨?_, by omega, by omega⟩
  unfold ofC
  rw [if_pos (by omega), show C.base j + i - C.base 0 = i + C.W * j by omega, Int.add_mul_ediv_left _ _ (by omega), Int.ediv_eq_zero_of_lt i0 i1]
  omega
theorem base_inj (hC : C.ok) {j i k l : Int} (j0 : 0 ≤ j) (j1 : j < C.C) (i0 : 0 ≤ i) (i1 : i < C.W) (k0 : 0 ≤ k) (k1 : k < C.C) (l0 : 0 ≤ l) (l1 : l < C.W) (h : C.base j + i = C.base k + l) : j = k ∧ i = l := by
  have a := (base_of hC j0 j1 i0 i1).1
  have b := (base_of hC k0 k1 l0 l1).1
  rw [h, b] at a
  subst a
  exact ⟨rfl, by omega⟩
theorem base_ge (hC : C.ok) {j i : Int} (j0 : 0 ≤ j) (j1 : j < C.C) (i0 : 0 ≤ i) : 6 + C.T + 2 * C.S + 3 * C.C ≤ C.base j + i := by
  have := mulW hC j0 (by have := hC.C; omega)
  unfold Cf.base; omega
section
variable {F : List Int} {o u lv w w' : Int → Int} {nx : Int}
theorem Aw.keep (hC : C.ok) (h : Aw C F o u lv nx w) (h1 : ∀ a, a = 1 ∨ (2 ≤ a ∧ a < 6) ∨ (∃ s, 0 ≤ s ∧ s < C.S ∧ a = C.slot s + 1) ∨ (∃ j, 0 ≤ j ∧ j < C.C ∧ (a = C.chunk j ∨ a = C.chunk j + 1)) ∨ (∃ j i, 0 ≤ j ∧ j < C.C ∧ u j ≤ i ∧ i < C.W ∧ a = C.base j + i) → w' a = w a) : Aw C F o u lv nx w' :=
  ⟨h.fre.congr (h1 1 (.inl rfl)) fun s s0 s1 => h1 _ (.inr (.inr (.inl ⟨s, s0, s1, rfl⟩))),
   h.alo.congr (fun c c0 c3 => h1 _ (.inr (.inl ⟨by omega, by omega⟩))) fun j j0 j1 => h1 _ (.inr (.inr (.inr (.inl ⟨j, j0, j1, .inl rfl⟩)))),
   fun j j0 j1 => by rw [h1 _ (.inr (.inr (.inr (.inl ⟨j, j0, j1, .inr rfl⟩))))]; exact h.live j j0 j1,
   fun j i j0 j1 i0 i1 => by rw [h1 _ (.inr (.inr (.inr (.inr ⟨j, i, j0, j1, i0, i1, rfl⟩))))]; exact h.nil j i j0 j1 i0 i1⟩
theorem Aw.u0 (h : Aw C F o u lv nx w) {j : Int} (j0 : 0 ≤ j) (j1 : j < C.C) : 0 ≤ u j := by
  by_cases e : j < nx
  · exact (h.alo.old j j0 e).2.2.1
  · rw [(h.alo.new j (by omega) j1).2]; exact Int.le_refl 0
theorem Aw.word (hC : C.ok) (h : Aw C F o u lv nx w) {k l v : Int} (k0 : 0 ≤ k) (k1 : k < C.C) (l0 : 0 ≤ l) (l1 : l < u k) (l2 : l < C.W) : Aw C F o u lv nx (upd w (C.base k + l) v) := by
  have hT := hC.T
  have hb := base_ge hC k0 k1 l0
  have hCC := hC.C
  have hS := hC.S
  refine h.keep hC fun a ha => upd_ne _ _ ?_
  rcases ha with ha | ha | ⟨t, t0, t1, ha⟩ | ⟨j, j0, j1, ha⟩ | ⟨j, i, j0, j1, i0, i1, ha⟩
  · omega
  · omega
  · have : C.slot t = 6 + C.T + 2 * t := rfl
    omega
  · have : C.chunk j = 6 + C.T + 2 * C.S + 3 * j := rfl
    omega
  · have hu := h.u0 j0 j1
    rw [ha]
    intro q
    obtain ⟨rfl, rfl⟩ := base_inj hC j0 j1 (by omega) i1 k0 k1 l0 l2 q
    omega
theorem Aw.lives (hC : C.ok) (h : Aw C F o u lv nx w) {k v : Int} (k0 : 0 ≤ k) (k1 : k < C.C) : Aw C F o u (upd lv k v) nx (upd w (C.chunk k + 1) v) := by
  have hT := hC.T
  have hS := hC.S
  have e : C.chunk k = 6 + C.T + 2 * C.S + 3 * k := rfl
  have n1 : ∀ s, s < C.S → C.slot s + 1 ≠ C.chunk k + 1 := fun s s1 => by
    have : C.slot s = 6 + C.T + 2 * s := rfl
    omega
  have n2 : ∀ j, C.chunk j ≠ C.chunk k + 1 := fun j => by
    have : C.chunk j = 6 + C.T + 2 * C.S + 3 * j := rfl
    omega
  refine ⟨h.fre.congr (upd_ne _ _ (by omega)) fun s s0 s1 => upd_ne _ _ (n1 s s1), h.alo.congr (fun c c0 c3 => upd_ne _ _ (by omega)) fun j j0 j1 => upd_ne _ _ (n2 j), fun j j0 j1 => ?_, fun j i j0 j1 i0 i1 => ?_⟩
  · by_cases q : j = k
    · subst q; rw [upd_same, upd_same]
    · have n3 : C.chunk j + 1 ≠ C.chunk k + 1 := by
        have : C.chunk j = 6 + C.T + 2 * C.S + 3 * j := rfl
        omega
      rw [upd_ne _ _ q, upd_ne _ _ n3]
      exact h.live j j0 j1
  · have hb := base_ge hC j0 j1 (i := i) (by have := h.u0 j0 j1; omega)
    rw [upd_ne _ _ (by omega)]; exact h.nil j i j0 j1 i0 i1
structure Rs (C : Cf) (F : List Int) (u lv : Int → Int) (w : Int → Int) : Prop where
  fre : Fre C w F
  live : ∀ j, 0 ≤ j → j < C.C → w (C.chunk j + 1) = lv j
  nil : ∀ j i, 0 ≤ j → j < C.C → u j ≤ i → i < C.W → w (C.base j + i) = 0
theorem Aw.rs (h : Aw C F o u lv nx w) : Rs C F u lv w := ⟨h.fre, h.live, h.nil⟩
theorem Rs.aw {u' : Int → Int} (h : Rs C F u lv w) (ha : Alo C o u' nx w) (hu : ∀ j, u j ≤ u' j) : Aw C F o u' lv nx w :=
  ⟨h.fre, ha, h.live, fun j i j0 j1 i0 i1 => h.nil j i j0 j1 (by have := hu j; omega) i1⟩
theorem Rs.go (hC : C.ok) (h : Rs C F u lv A.w) (hu : ∀ j, 0 ≤ j → j < C.C → 0 ≤ u j) {p : Pl} {r : Bool × Pl × Ar} {a : Int} (hf : p.fit C) (g : Go1 C A p r a) : Rs C F u lv r.2.2.w := by
  have hT := hC.T
  have hS := hC.S
  have hCC := hC.C
  have hc := hf.cls
  have hj := hf.at'
  have e : C.chunk p.at' = 6 + C.T + 2 * C.S + 3 * p.at' := rfl
  have ne : ∀ i, i ≠ 2 + p.cls → i ≠ C.chunk p.at' → r.2.2.w i = A.w i := fun i h1 h2 => g.w i (by rcases g.wh with q | q <;> rw [q] <;> assumption)
  refine ⟨h.fre.congr (ne _ (by omega) (by omega)) fun s s0 s1 => ne _ ?_ ?_, fun j j0 j1 => ?_, fun j i j0 j1 i0 i1 => ?_⟩
  · have : C.slot s = 6 + C.T + 2 * s := rfl
    omega
  · have : C.slot s = 6 + C.T + 2 * s := rfl
    omega
  · have q : C.chunk j = 6 + C.T + 2 * C.S + 3 * j := rfl
    rw [ne _ (by omega) (by omega)]; exact h.live j j0 j1
  · have hb := base_ge hC j0 j1 (i := i) (by have := hu j j0 j1; omega)
    rw [ne _ (by omega) (by omega)]; exact h.nil j i j0 j1 i0 i1
end
end Go.Fl
namespace Go.Fl
open Go
set_option linter.unusedVariables false
set_option linter.unusedSimpArgs false
variable {N : Nm} {A B : Ar} {σ : Mem} {K : Value → Mem → Prop} {C : Cf} {who : Int}
structure Bg where
  F : List Int
  o : Int → Int
  u : Int → Int
  lv : Int → Int
  nx : Int
end Go.Fl
namespace Go.Fl
open Go
set_option linter.unusedVariables false
set_option linter.unusedSimpArgs false
variable {N : Nm} {A B : Ar} {σ : Mem} {K : Value → Mem → Prop} {C : Cf} {who : Int}
def Bg.aw (b : Bg) (C : Cf) (w : Int → Int) : Prop := Aw C b.F b.o b.u b.lv b.nx w
end Go.Fl
namespace Go.Fl
open Go
set_option linter.unusedVariables false
set_option linter.unusedSimpArgs false
variable {N : Nm} {A B : Ar} {σ : Mem} {K : Value → Mem → Prop} {C : Cf} {who : Int}
def Bg.fr (C : Cf) : Bg := ⟨upL 0 C.S.toNat, fun _ => -1, fun _ => 0, fun _ => 0, 0⟩
end Go.Fl
namespace Go.Fl
open Go
set_option linter.unusedVariables false
set_option linter.unusedSimpArgs false
variable {N : Nm} {A B : Ar} {σ : Mem} {K : Value → Mem → Prop} {C : Cf} {who : Int}
structure Do where
  n : Int
  ws : Int
  z : Int
  own : Bool
  j : Int
  i : Int
def Do.s (d : Do) : Int := hdSl d.n
def Do.ge (d : Do) : Int := hdGe d.n
def Do.a (d : Do) (C : Cf) : Int := C.base d.j + d.i
def Do.v (d : Do) (C : Cf) : Int := putSlot 4 (d.a C) d.ge (slV d.ws + 1)
def Do.nx (d : Do) (C : Cf) : Int := if C.G ≤ d.ge then putSlot 3 0 d.ge 0 else putSlot 0 0 (d.ge + 1) 0
structure Do.ok (d : Do) (C : Cf) (b : Bg) (w : Int → Int) : Prop where
  n : 0 ≤ d.n ∧ d.n < 18446744073709551616
  hok : hdOk d.n = true
  s : 0 ≤ d.s ∧ d.s < C.S
  sF : d.s ∉ b.F
  ge : 0 ≤ d.ge ∧ d.ge ≤ 65535
  ws : w (C.slot d.s) = d.ws
  st : slS d.ws = 1 ∨ slS d.ws = 2
  sa : slA d.ws = d.a C
  sg : slG d.ws = d.ge
  hd : hdS (w (d.a C)) = d.z ∧ hdO (w (d.a C)) = d.own
  cl : 0 ≤ classOf d.z
  j : 0 ≤ d.j ∧ d.j < C.C
  i : 0 ≤ d.i ∧ d.i + roomOf (classOf d.z) ≤ b.u d.j
  z : d.z + 1 ≤ roomOf (classOf d.z)
  lv : roomOf (classOf d.z) ≤ b.lv d.j
def Do.fr (d : Do) (C : Cf) (w0 w : Int → Int) : Prop := ∀ a, a ≠ C.slot d.s → a ≠ 1 → a ≠ C.slot d.s + 1 → a ≠ C.chunk d.j + 1 → ¬ (d.a C < a ∧ a ≤ d.a C + d.z) → w a = w0 a
end Go.Fl
namespace Go.Fl
open Go
set_option linter.unusedVariables false
set_option linter.unusedSimpArgs false
variable {N : Nm} {A B : Ar} {σ : Mem} {K : Value → Mem → Prop} {C : Cf} {who : Int}
theorem Do.ok.keep {d : Do} {b b' : Bg} {w w' : Int → Int} (h : d.ok C b w) (sF : d.s ∉ b'.F) (h1 : w' (C.slot d.s) = w (C.slot d.s)) (h2 : w' (d.a C) = w (d.a C)) (hu : b.u d.j ≤ b'.u d.j) (hlv : roomOf (classOf d.z) ≤ b'.lv d.j) : d.ok C b' w' :=
  ⟨h.n, h.hok, h.s, sF, h.ge, by rw [h1]; exact h.ws, h.st, h.sa, h.sg, by rw [h2]; exact h.hd, h.cl, h.j, ⟨h.i.1, by have := h.i.2; omega⟩, h.z, hlv⟩
theorem flat2 {l : List Value} (h : FlatL [some .i64, some .i64] l) : ∃ a b, l = [.int .i64 a, .int .i64 b] := by
  cases h with
  | cons h1 h => cases h with
    | cons h2 h => cases h with
      | nil => obtain ⟨a, rfl, _⟩ := h1; obtain ⟨b, rfl, _⟩ := h2; exact ⟨a, b, rfl⟩
theorem flat4 {l : List Value} (h : FlatL [some .i64, some .i64, some .i64, some .i64] l) : ∃ a b c d, l = [.int .i64 a, .int .i64 b, .int .i64 c, .int .i64 d] := by
  cases h with
  | cons h1 h => cases h with
    | cons h2 h => cases h with
      | cons h3 h => cases h with
        | cons h4 h => cases h with
          | nil =>
            obtain ⟨a, rfl, _⟩ := h1; obtain ⟨b, rfl, _⟩ := h2; obtain ⟨c, rfl, _⟩ := h3; obtain ⟨d, rfl, _⟩ := h4
            exact ⟨a, b, c, d, rfl⟩
theorem Do.ok.word {d : Do} {b : Bg} {w : Int → Int} {v : Int} (hC : C.ok) (h : d.ok C b w) (ha : C.base 0 ≤ d.a C) (h1 : slS v = 1 ∨ slS v = 2) (h2 : slA v = d.a C) (h3 : slG v = d.ge) : ({ d with ws := v } : Do).ok C b (upd w (C.slot d.s) v) := by
  have hb0 : C.base 0 = 6 + C.T + 2 * C.S + 3 * C.C := by unfold Cf.base; omega
  have hs := h.s
  have hCC := hC.C
  have ne : d.a C ≠ C.slot d.s := by unfold Cf.slot; omega
  refine ⟨h.n, h.hok, h.s, h.sF, h.ge, upd_same _ _ _, h1, h2, h3, ?_, h.cl, h.j, h.i, h.z, h.lv⟩
  show hdS (upd w (C.slot d.s) v (d.a C)) = d.z ∧ hdO (upd w (C.slot d.s) v (d.a C)) = d.own
  rw [upd_ne _ _ ne]; exact h.hd
end Go.Fl
namespace Go.Fl
open Go
set_option linter.unusedVariables false
set_option linter.unusedSimpArgs false
theorem law_DropLive (σ : Mem) (a0 : Array Value) (w0 : FlatL [some .i64, some .i64, some .i64, some .i64] a0.toList) (a1 : Array Value) (w1 : FlatL [some .i64, some .i64] a1.toList) :
    s_law09_DropLive [.agg a0, .agg a1] (fun v _ => v = .bool true) σ := by
  obtain ⟨st, ad, ge, ve, h0⟩ := flat4 w0
  obtain ⟨s, g, h1⟩ := flat2 w1
  have e0 : a0 = #[.int .i64 st, .int .i64 ad, .int .i64 ge, .int .i64 ve] := by apply Array.ext'; simpa using h0
  have e1 : a1 = #[.int .i64 s, .int .i64 g] := by apply Array.ext'; simpa using h1
  subst e0; subst e1
  have s2 : ∀ x y : Value, sub [x, y] 0 2 true = some (.agg #[x, y]) := fun _ _ => rfl
  have f0 : ∀ (x y z w : Value) (K : Value → Prop), xF (fFldV 0 1 false) [.agg #[x, y, z, w]] K = K x := fun _ _ _ _ K => nr rfl
  have D : ∀ (K : Value → Mem → Prop) (σ : Mem), s_drop_Drop_Done [.pointer none] K σ = K (.agg #[.int .i64 1, .int .u64 0, .int .i64 0, .int .i64 0]) σ := by
    intro K σ
    have gs : ∀ x y z w : Int, gStore 4 [.pointer (some ⟨2, 0, some 0⟩), .agg #[.int .i64 x, .int .u64 y, .int .i64 z, .int .i64 w]] [.int .i64 0, .int .u64 0, .int .i64 0, .int .i64 0] = some [.int .i64 x, .int .u64 y, .int .i64 z, .int .i64 w] := fun _ _ _ _ => rfl
    have b : ∀ K : Value → Prop, xF (fBuild [(0, 1), (1, 1), (2, 1), (3, 1)] [.int .i64 0, .int .u64 0, .int .i64 0, .int .i64 0] [0]) [.int .i64 1] K = K (.agg #[.int .i64 1, .int .u64 0, .int .i64 0, .int .i64 0]) := fun K => nr rfl
    simp only [s_drop_Drop_Done, w_drop_Drop_Done, b, gs, sub4, ruS, ruL, ruE, Nat.reduceAdd, reduceIte, Int.reduceLT, Int.reduceLE, Int.reduceEq, Int.reduceNeg, Int.reduceAdd, Int.reduceSub, Nat.reduceLeDiff, Nat.reduceLT]
  simp only [s_law09_DropLive, w_law09_DropLive, c_awake9, s2, sub4, c_Live, D, f0, ruS, ruL, ruX, Nat.reduceAdd, reduceIte, Int.reduceLT, Int.reduceLE, Int.reduceEq, Int.reduceNeg, Int.reduceAdd, Int.reduceSub, Nat.reduceLeDiff]
  by_cases h1 : st = 1
  · by_cases hg : ge = g <;> simp only [h1, hg, true_or, and_self, and_false, true_and, decide_true, decide_false, f0, D, xEqBB, beq_self_eq_true, ruS, ruL, ruX, Nat.reduceAdd, reduceIte, Int.reduceLT, Int.reduceLE, Int.reduceEq, Int.reduceNeg, Int.reduceAdd, Int.reduceSub, Nat.reduceLeDiff]
  · by_cases h2 : st = 2
    · by_cases hg : ge = g <;> simp only [h1, h2, hg, true_or, or_true, and_self, and_false, true_and, decide_true, decide_false, f0, D, xEqBB, beq_self_eq_true, ruS, ruL, ruX, Nat.reduceAdd, reduceIte, Int.reduceLT, Int.reduceLE, Int.reduceEq, Int.reduceNeg, Int.reduceAdd, Int.reduceSub, Nat.reduceLeDiff]
    · by_cases h4 : st = 4
      · by_cases hg : ge = g <;> simp only [h1, h2, h4, hg, true_or, or_true, and_self, and_false, true_and, decide_true, decide_false, f0, D, xEqBB, beq_self_eq_true, ruS, ruL, ruX, Nat.reduceAdd, reduceIte, Int.reduceLT, Int.reduceLE, Int.reduceEq, Int.reduceNeg, Int.reduceAdd, Int.reduceSub, Nat.reduceLeDiff]
      · simp only [h1, h2, h4, or_self, false_and, decide_false, f0, D, xEqBB, beq_self_eq_true, ruS, ruL, ruX, Nat.reduceAdd, reduceIte, Int.reduceLT, Int.reduceLE, Int.reduceEq, Int.reduceNeg, Int.reduceAdd, Int.reduceSub, Nat.reduceLeDiff]
end Go.Fl
