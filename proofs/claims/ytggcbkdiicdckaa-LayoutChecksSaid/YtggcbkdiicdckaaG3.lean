/- What each Go function that the law reaches does, read off its text by a program; that this is the function; the same for the closed evaluator. No condition. -/
import Derived.Test.YtggcbkdiicdckaaG2
namespace Go.Fl
open Go Go.Proofs
set_option linter.unusedVariables false
set_option maxRecDepth 10000000

/-! ### /law06.SlotSteps -/
def w_law06_SlotSteps_j2b (K : Value → Mem → Prop) (v5 : Value) (c6 : List Value) (σ : Mem) : Prop :=
xF (fFld 7) [(locP 6)] fun v101 =>
xO (gLoad 1 false [v101] c6) fun v102 =>
s_layout_Top [] (fun v103 σ =>
s_mem_Mem_Peek [v102, v103] (fun v104 σ =>
s_word_Top [v104] (fun v105 σ =>
xF fMove [v105] fun v100 =>
xF (fExt 0) [v100] fun v106 =>
xF (fExt 1) [v100] fun v107 =>
xF fMove [v106] fun v16 =>
xF fMove [v107] fun v17 =>
xF fMove [(.pointer none)] fun v18 =>
xF fMove [v18] fun v109 =>
s_slot_Take_Slot [v109] (fun v110 σ =>
xF fMove [v110] fun v108 =>
xF (fExt 0) [v108] fun v111 =>
xF (fExt 1) [v108] fun v112 =>
xF fMove [v111] fun v19 =>
xF fMove [v112] fun v20 =>
xF fMove [v16] fun v113 =>
xF fMove [v5] fun v114 =>
xF (fBin .lss .no) [v113, v114] fun v115 =>
xF fMove [v115] fun v116 =>
xIf v116
 (xF fMove [v20] fun v117 =>
xF (fUn .not) [v117] fun v118 =>
xF fPick [(.bool true), v118, (.bool false)] fun v119 =>
xF fMove [v119] fun v4 =>
K v4 σ)
 (xF fPick [(.bool false), undef, (.bool false)] fun v119 =>
xF fMove [v119] fun v4 =>
K v4 σ)) σ) σ) σ) σ

def w_law06_SlotSteps_j2 (K : Value → Mem → Prop) (ts : List Value) (ls : List (List Value)) (σ : Mem) : Prop := w_law06_SlotSteps_j2b K (ts.getD 0 poison) (ls.getD 0 []) σ

def w_law06_SlotSteps_j4b (K : Value → Mem → Prop) (J2 : List Value → List (List Value) → Mem → Prop) (R1 : List Value → List (List Value) → Mem → Prop) (v1 v5 v8 : Value) (c6 : List Value) (σ : Mem) : Prop :=
xF fMove [v8] fun v43 =>
xF (fBin .add .no) [v43, (.int .i64 1)] fun v44 =>
xF fMove [v44] fun v8 =>
R1 [v1, v5, v8] [c6] σ

def w_law06_SlotSteps_j4 (K : Value → Mem → Prop) (J2 : List Value → List (List Value) → Mem → Prop) (R1 : List Value → List (List Value) → Mem → Prop) (ts : List Value) (ls : List (List Value)) (σ : Mem) : Prop := w_law06_SlotSteps_j4b K J2 R1 (ts.getD 0 poison) (ts.getD 1 poison) (ts.getD 2 poison) (ls.getD 0 []) σ

def w_law06_SlotSteps_j6b (K : Value → Mem → Prop) (J2 : List Value → List (List Value) → Mem → Prop) (R1 : List Value → List (List Value) → Mem → Prop) (J4 : List Value → List (List Value) → Mem → Prop) (v1 v5 v8 v14 v96 : Value) (c6 : List Value) (σ : Mem) : Prop :=
xIf v96
 (xO (gLoad 9 true [(locP 6)] c6) fun v97 =>
xF fMove [v14] fun v98 =>
s_law06_give [v97, v98] (fun v99 σ =>
J4 [v1, v5, v8] [c6] σ) σ)
 (J4 [v1, v5, v8] [c6] σ)

def w_law06_SlotSteps_j6 (K : Value → Mem → Prop) (J2 : List Value → List (List Value) → Mem → Prop) (R1 : List Value → List (List Value) → Mem → Prop) (J4 : List Value → List (List Value) → Mem → Prop) (ts : List Value) (ls : List (List Value)) (σ : Mem) : Prop := w_law06_SlotSteps_j6b K J2 R1 J4 (ts.getD 0 poison) (ts.getD 1 poison) (ts.getD 2 poison) (ts.getD 3 poison) (ts.getD 4 poison) (ls.getD 0 []) σ

def w_law06_SlotSteps_j5b (K : Value → Mem → Prop) (J2 : List Value → List (List Value) → Mem → Prop) (R1 : List Value → List (List Value) → Mem → Prop) (J4 : List Value → List (List Value) → Mem → Prop) (v1 v5 v8 v9 : Value) (c6 : List Value) (σ : Mem) : Prop :=
xF fMove [v9] fun v86 =>
s_slot_Take_Slot [v86] (fun v87 σ =>
xF fMove [v87] fun v85 =>
xF (fExt 0) [v85] fun v88 =>
xF (fExt 1) [v85] fun v89 =>
xF fMove [v88] fun v14 =>
xF fMove [v89] fun v15 =>
xJoin (w_law06_SlotSteps_j6 K J2 R1 J4) fun J6 =>
xF fMove [v15] fun v90 =>
xF fMove [v90] fun v91 =>
xIf v91
 (xF fMove [v1] fun v92 =>
xF fMove [v8] fun v93 =>
xF (fIxS 1) [v92, v93] fun v94 =>
hLoad 1 false [v94] (fun v95 σ =>
xF fPick [(.bool true), v95, (.bool false)] fun v96 =>
J6 [v1, v5, v8, v14, v96] [c6] σ) σ)
 (xF fPick [(.bool false), undef, (.bool false)] fun v96 =>
J6 [v1, v5, v8, v14, v96] [c6] σ)) σ

def w_law06_SlotSteps_j5 (K : Value → Mem → Prop) (J2 : List Value → List (List Value) → Mem → Prop) (R1 : List Value → List (List Value) → Mem → Prop) (J4 : List Value → List (List Value) → Mem → Prop) (ts : List Value) (ls : List (List Value)) (σ : Mem) : Prop := w_law06_SlotSteps_j5b K J2 R1 J4 (ts.getD 0 poison) (ts.getD 1 poison) (ts.getD 2 poison) (ts.getD 3 poison) (ls.getD 0 []) σ

def w_law06_SlotSteps_j7b (K : Value → Mem → Prop) (J2 : List Value → List (List Value) → Mem → Prop) (R1 : List Value → List (List Value) → Mem → Prop) (J4 : List Value → List (List Value) → Mem → Prop) (J5 : List Value → List (List Value) → Mem → Prop) (R4 : List Value → List (List Value) → Mem → Prop) (v1 v5 v8 v9 v10 v12 v83 : Value) (c6 : List Value) (σ : Mem) : Prop :=
xIf v83
 (xF fMove [(.bool false)] fun v4 =>
K v4 σ)
 (xF fMove [v12] fun v84 =>
xIf v84
 (J5 [v1, v5, v8, v9] [c6] σ)
 (xF fMove [v10] fun v49 =>
xF (fBin .add .no) [v49, (.int .i64 1)] fun v50 =>
xF fMove [v50] fun v10 =>
R4 [v1, v5, v8, v9, v10] [c6] σ))

def w_law06_SlotSteps_j7 (K : Value → Mem → Prop) (J2 : List Value → List (List Value) → Mem → Prop) (R1 : List Value → List (List Value) → Mem → Prop) (J4 : List Value → List (List Value) → Mem → Prop) (J5 : List Value → List (List Value) → Mem → Prop) (R4 : List Value → List (List Value) → Mem → Prop) (ts : List Value) (ls : List (List Value)) (σ : Mem) : Prop := w_law06_SlotSteps_j7b K J2 R1 J4 J5 R4 (ts.getD 0 poison) (ts.getD 1 poison) (ts.getD 2 poison) (ts.getD 3 poison) (ts.getD 4 poison) (ts.getD 5 poison) (ts.getD 6 poison) (ls.getD 0 []) σ

def w_law06_SlotSteps_l11b (K : Value → Mem → Prop) (J2 : List Value → List (List Value) → Mem → Prop) (R1 : List Value → List (List Value) → Mem → Prop) (J4 : List Value → List (List Value) → Mem → Prop) (J5 : List Value → List (List Value) → Mem → Prop) (R4 : List Value → List (List Value) → Mem → Prop) (v1 v5 v8 v9 v10 : Value) (c6 : List Value) (σ : Mem) : Prop :=
xF fMove [v10] fun v47 =>
xF (fBin .lss .no) [v47, (.int .i64 5)] fun v48 =>
xIf v48
 (xO (gLoad 9 true [(locP 6)] c6) fun v51 =>
s_layout_Env_Now [v51] (fun v52 σ =>
xF fMove [v52] fun v11 =>
xF fMove [v9] fun v53 =>
xO (gLoad 9 true [(locP 6)] c6) fun v54 =>
s_slot_Take_Step [v53, v54] (fun v55 σ =>
xF fMove [v55] fun v12 =>
xF (fFld 7) [(locP 6)] fun v56 =>
xO (gLoad 1 false [v56] c6) fun v57 =>
s_mem_Mem_Last [v57] (fun v58 σ =>
xF (fFldV 0 1 false) [v58] fun v59 =>
xF fMove [v59] fun v13 =>
xJoin (w_law06_SlotSteps_j7 K J2 R1 J4 J5 R4) fun J7 =>
xO (gLoad 9 true [(locP 6)] c6) fun v60 =>
s_layout_Env_Now [v60] (fun v61 σ =>
xF fMove [v11] fun v62 =>
xF (fBin .add .no) [v62, (.int .i64 1)] fun v63 =>
xF (fBin .neq .no) [v61, v63] fun v64 =>
xF fMove [v64] fun v65 =>
xIf v65
 (xF fPick [(.bool true), (.bool true), undef] fun v83 =>
J7 [v1, v5, v8, v9, v10, v12, v83] [c6] σ)
 (xF fMove [v13] fun v66 =>
s_layout_Top [] (fun v67 σ =>
xF (fBin .neq .no) [v66, v67] fun v68 =>
xF fMove [v68] fun v69 =>
xIf v69
 (xF fMove [v13] fun v70 =>
xF (fFld 0) [(locP 6)] fun v71 =>
xO (gLoad 7 true [v71] c6) fun v72 =>
s_layout_Slot [v72, (.int .i64 0)] (fun v73 σ =>
xF (fBin .lss .no) [v70, v73] fun v74 =>
xF fMove [v74] fun v75 =>
xIf v75
 (xF fPick [(.bool true), (.bool true), undef] fun v81 =>
xF fPick [(.bool true), v81, (.bool false)] fun v82 =>
xF fPick [(.bool false), (.bool true), v82] fun v83 =>
J7 [v1, v5, v8, v9, v10, v12, v83] [c6] σ)
 (xF fMove [v13] fun v76 =>
xF (fFld 0) [(locP 6)] fun v77 =>
xO (gLoad 7 true [v77] c6) fun v78 =>
s_layout_Chunk [v78, (.int .i64 0)] (fun v79 σ =>
xF (fBin .geq .no) [v76, v79] fun v80 =>
xF fPick [(.bool false), (.bool true), v80] fun v81 =>
xF fPick [(.bool true), v81, (.bool false)] fun v82 =>
xF fPick [(.bool false), (.bool true), v82] fun v83 =>
J7 [v1, v5, v8, v9, v10, v12, v83] [c6] σ) σ)) σ)
 (xF fPick [(.bool false), undef, (.bool false)] fun v82 =>
xF fPick [(.bool false), (.bool true), v82] fun v83 =>
J7 [v1, v5, v8, v9, v10, v12, v83] [c6] σ)) σ)) σ) σ) σ) σ)
 (J5 [v1, v5, v8, v9] [c6] σ)

def w_law06_SlotSteps_l11 (K : Value → Mem → Prop) (J2 : List Value → List (List Value) → Mem → Prop) (R1 : List Value → List (List Value) → Mem → Prop) (J4 : List Value → List (List Value) → Mem → Prop) (J5 : List Value → List (List Value) → Mem → Prop) (R4 : List Value → List (List Value) → Mem → Prop) (ts : List Value) (ls : List (List Value)) (σ : Mem) : Prop := w_law06_SlotSteps_l11b K J2 R1 J4 J5 R4 (ts.getD 0 poison) (ts.getD 1 poison) (ts.getD 2 poison) (ts.getD 3 poison) (ts.getD 4 poison) (ls.getD 0 []) σ

def w_law06_SlotSteps_j3b (K : Value → Mem → Prop) (J2 : List Value → List (List Value) → Mem → Prop) (R1 : List Value → List (List Value) → Mem → Prop) (v1 v5 v8 : Value) (c6 : List Value) (σ : Mem) : Prop :=
xJoin (w_law06_SlotSteps_j4 K J2 R1) fun J4 =>
xF (fBuild [(0, 1), (1, 1), (2, 1), (3, 1), (4, 1)] [(.int .i64 0), (.int .u64 0), (.int .i64 0), (.int .i64 0), (.bool false)] []) [] fun v45 =>
hBox 5 [v45] (fun v46 σ =>
xF fMove [v46] fun v9 =>
xJoin (w_law06_SlotSteps_j5 K J2 R1 J4) fun J5 =>
xF fMove [(.int .i64 0)] fun v10 =>
xLoop (w_law06_SlotSteps_l11 K J2 R1 J4 J5) [v1, v5, v8, v9, v10] [c6] σ) σ

def w_law06_SlotSteps_j3 (K : Value → Mem → Prop) (J2 : List Value → List (List Value) → Mem → Prop) (R1 : List Value → List (List Value) → Mem → Prop) (ts : List Value) (ls : List (List Value)) (σ : Mem) : Prop := w_law06_SlotSteps_j3b K J2 R1 (ts.getD 0 poison) (ts.getD 1 poison) (ts.getD 2 poison) (ls.getD 0 []) σ

def w_law06_SlotSteps_l7b (K : Value → Mem → Prop) (J2 : List Value → List (List Value) → Mem → Prop) (R1 : List Value → List (List Value) → Mem → Prop) (v1 v5 v8 : Value) (c6 : List Value) (σ : Mem) : Prop :=
xJoin (w_law06_SlotSteps_j3 K J2 R1) fun J3 =>
xF fMove [v8] fun v35 =>
xF fMove [v1] fun v36 =>
xF fLen [v36] fun v37 =>
xF (fBin .lss .no) [v35, v37] fun v38 =>
xF fMove [v38] fun v39 =>
xIf v39
 (xF fMove [v8] fun v40 =>
xF (fBin .lss .no) [v40, (.int .i64 20)] fun v41 =>
xF fPick [(.bool true), v41, (.bool false)] fun v42 =>
xIf v42
 (J3 [v1, v5, v8] [c6] σ)
 (J2 [v5] [c6] σ))
 (xF fPick [(.bool false), undef, (.bool false)] fun v42 =>
xIf v42
 (J3 [v1, v5, v8] [c6] σ)
 (J2 [v5] [c6] σ))

def w_law06_SlotSteps_l7 (K : Value → Mem → Prop) (J2 : List Value → List (List Value) → Mem → Prop) (R1 : List Value → List (List Value) → Mem → Prop) (ts : List Value) (ls : List (List Value)) (σ : Mem) : Prop := w_law06_SlotSteps_l7b K J2 R1 (ts.getD 0 poison) (ts.getD 1 poison) (ts.getD 2 poison) (ls.getD 0 []) σ

def w_law06_SlotSteps_j1b (K : Value → Mem → Prop) (v1 v5 v34 : Value) (c6 : List Value) (σ : Mem) : Prop :=
xIf v34
 (xF fMove [(.bool false)] fun v4 =>
K v4 σ)
 (xJoin (w_law06_SlotSteps_j2 K) fun J2 =>
xF fMove [(.int .i64 0)] fun v8 =>
xLoop (w_law06_SlotSteps_l7 K J2) [v1, v5, v8] [c6] σ)

def w_law06_SlotSteps_j1 (K : Value → Mem → Prop) (ts : List Value) (ls : List (List Value)) (σ : Mem) : Prop := w_law06_SlotSteps_j1b K (ts.getD 0 poison) (ts.getD 1 poison) (ts.getD 2 poison) (ls.getD 0 []) σ

def w_law06_SlotSteps (a0 a1 : Value) (K : Value → Mem → Prop) (σ : Mem) : Prop :=
xF fMove [(.bool false)] fun v4 =>
xF fMove [a0] fun v21 =>
xF (fBin .and .no) [v21, (.int .i64 15)] fun v22 =>
xF (fBin .add .no) [(.int .i64 1), v22] fun v23 =>
xF fMove [v23] fun v5 =>
xF fMove [v5] fun v25 =>
s_law04_Arena [(.int .i64 1), v25, (.int .i64 1), (.int .i64 20)] (fun v26 σ =>
xF fMove [v26] fun v24 =>
xF (fExt 0) [v24] fun v27 =>
xF (fExt 1) [v24] fun v28 =>
xC (gStore 9 [(locP 6), v27] [(.int .i64 0), (.int .i64 0), (.int .i64 0), (.int .i64 0), (.int .i64 0), (.int .i64 0), (.int .i64 0), (.pointer none), (.int .i64 0)]) fun c6 =>
xF fMove [v28] fun v7 =>
xJoin (w_law06_SlotSteps_j1 K) fun J1 =>
s_law06_awake [] (fun v29 σ =>
xF (fUn .not) [v29] fun v30 =>
xF fMove [v30] fun v31 =>
xIf v31
 (xF fPick [(.bool true), (.bool true), undef] fun v34 =>
J1 [a1, v5, v34] [c6] σ)
 (xF fMove [v7] fun v32 =>
xF (fUn .not) [v32] fun v33 =>
xF fPick [(.bool false), (.bool true), v33] fun v34 =>
J1 [a1, v5, v34] [c6] σ)) σ) σ

def s_law06_SlotSteps : Spec := fun args K σ => match args with
  | [a0, a1] => w_law06_SlotSteps a0 a1 K σ
  | _ => False

noncomputable def cx_law06_SlotSteps : Cx := { P := Try.prog, T := [(36, .write, s_law04_Arena), (37, .none, s_law06_awake), (51, .read, s_layout_Env_Now), (39, .write, s_slot_Take_Step), (50, .read, s_mem_Mem_Last), (29, .none, s_layout_Top), (32, .none, s_layout_Slot), (33, .none, s_layout_Chunk), (40, .read, s_slot_Take_Slot), (53, .write, s_law06_give), (27, .read, s_mem_Mem_Peek), (57, .none, s_word_Top)], loc := [(6, 6), (56, 6), (71, 6), (77, 6), (101, 6)], eqt := [], n := 120, keep := [(7, [1, 5, 8], [6]), (11, [1, 5, 8, 9, 10], [6]), (1000005, [1, 5, 34], [6]), (1000008, [1, 5, 8], [6]), (1000009, [1, 5, 8], [6]), (1000017, [1, 5, 8, 9, 10, 12, 83], [6]), (1000019, [1, 5, 8, 9], [6]), (1000021, [1, 5, 8, 14, 96], [6]), (1000022, [5], [6])] }
theorem q_law06_SlotSteps : FnS cx_law06_SlotSteps Try.f13 (bodyOf Try.f13) 2 = s_law06_SlotSteps := by
  funext args K σ
  rcases args with _ | ⟨a0, _ | ⟨a1, _ | ⟨b, r⟩⟩⟩ <;> kernel_rfl
theorem e_law06_SlotSteps : Entry Try.prog 13 .write s_law06_SlotSteps :=
  entry (C := cx_law06_SlotSteps) (TOk.cons e_law04_Arena (TOk.cons e_law06_awake (TOk.cons e_layout_Env_Now (TOk.cons e_slot_Take_Step (TOk.cons e_mem_Mem_Last (TOk.cons e_layout_Top (TOk.cons e_layout_Slot (TOk.cons e_layout_Chunk (TOk.cons e_slot_Take_Slot (TOk.cons e_law06_give (TOk.cons e_mem_Mem_Peek (TOk.cons e_word_Top TOk.nil)))))))))))) mixedOk Try.func13 (by kernel_rfl) (by kernel_rfl) (by kernel_rfl) q_law06_SlotSteps

def xl_law06_SlotSteps : List (Nat × Nat) := [(6, 6), (56, 6), (71, 6), (77, 6), (101, 6)]
noncomputable def xc_law06_SlotSteps : XC XN :=
(.seq none
 (.reg [⟨none, some 4, [(.const (.bool false))], ⟨.f fMove, rMove⟩⟩])
 (.seq none
 (.reg [⟨none, some 21, [(.tmp 0)], ⟨.f fMove, rMove⟩⟩,
  ⟨none, some 22, [(.tmp 21), (.const (.int .i64 15))], ⟨.band .no, rAny xl_law06_SlotSteps (.band .no)⟩⟩,
  ⟨none, some 23, [(.const (.int .i64 1)), (.tmp 22)], ⟨.f (fBin .add .no), rAdd⟩⟩,
  ⟨none, some 5, [(.tmp 23)], ⟨.f fMove, rMove⟩⟩])
 (.seq none
 (.reg [⟨none, some 25, [(.tmp 5)], ⟨.f fMove, rMove⟩⟩,
  ⟨none, some 26, [(.const (.int .i64 1)), (.tmp 25), (.const (.int .i64 1)), (.const (.int .i64 20))], ⟨.call .write s_law04_Arena v_law04_Arena, rCall v_law04_Arena⟩⟩,
  ⟨none, some 24, [(.tmp 26)], ⟨.f fMove, rMove⟩⟩,
  ⟨none, some 27, [(.tmp 24)], ⟨.f (fExt 0), rAny xl_law06_SlotSteps (.f (fExt 0))⟩⟩,
  ⟨none, some 28, [(.tmp 24)], ⟨.f (fExt 1), rAny xl_law06_SlotSteps (.f (fExt 1))⟩⟩,
  ⟨none, some 6, [], ⟨.la 6 [(.int .i64 0), (.int .i64 0), (.int .i64 0), (.int .i64 0), (.int .i64 0), (.int .i64 0), (.int .i64 0), (.pointer none), (.int .i64 0)], rAny xl_law06_SlotSteps (.la 6 [(.int .i64 0), (.int .i64 0), (.int .i64 0), (.int .i64 0), (.int .i64 0), (.int .i64 0), (.int .i64 0), (.pointer none), (.int .i64 0)])⟩⟩,
  ⟨none, none, [(.tmp 6), (.tmp 27)], ⟨.ls 6 9, rAny xl_law06_SlotSteps (.ls 6 9)⟩⟩,
  ⟨none, some 7, [(.tmp 28)], ⟨.f fMove, rMove⟩⟩])
 (.seq none
 (.seq (some ([1, 5, 34], [6]))
 (.reg [⟨none, some 29, [], ⟨.call .none s_law06_awake v_law06_awake, rCall v_law06_awake⟩⟩,
  ⟨none, some 30, [(.tmp 29)], ⟨.f (fUn .not), rNot⟩⟩,
  ⟨none, some 31, [(.tmp 30)], ⟨.f fMove, rMove⟩⟩,
  ⟨(some (3, 2, false, some 31)), some 32, [(.tmp 7)], ⟨.f fMove, rMove⟩⟩,
  ⟨(some (4, 2, false, some 31)), some 33, [(.tmp 32)], ⟨.f (fUn .not), rNot⟩⟩,
  ⟨none, some 34, [(.tmp 31), (.const (.bool true)), (.tmp 33)], ⟨.f fPick, rPick⟩⟩])
 (.cond (.tmp 34)
 (.seq none
 (.reg [⟨none, some 4, [(.const (.bool false))], ⟨.f fMove, rMove⟩⟩])
 .ret)
 .skip))
 (.seq (some ([5], [6]))
 (.seq none
 (.reg [⟨none, some 8, [(.const (.int .i64 0))], ⟨.f fMove, rMove⟩⟩])
 (.block 0
 (.loop ([1, 5, 8], [6])
 (.seq (some ([1, 5, 8], [6]))
 (.seq none
 (.reg [⟨none, some 35, [(.tmp 8)], ⟨.f fMove, rMove⟩⟩,
  ⟨none, some 36, [(.tmp 1)], ⟨.f fMove, rMove⟩⟩,
  ⟨none, some 37, [(.tmp 36)], ⟨.f fLen, rAny xl_law06_SlotSteps (.f fLen)⟩⟩,
  ⟨none, some 38, [(.tmp 35), (.tmp 37)], ⟨.f (fBin .lss .no), rLss⟩⟩,
  ⟨none, some 39, [(.tmp 38)], ⟨.f fMove, rMove⟩⟩,
  ⟨(some (5, 4, true, some 39)), some 40, [(.tmp 8)], ⟨.f fMove, rMove⟩⟩,
  ⟨(some (6, 4, true, some 39)), some 41, [(.tmp 40), (.const (.int .i64 20))], ⟨.f (fBin .lss .no), rLss⟩⟩,
  ⟨none, some 42, [(.tmp 39), (.tmp 41), (.const (.bool false))], ⟨.f fPick, rPick⟩⟩])
 (.cond (.tmp 42)
 .skip
 (.exit 0)))
 (.seq (some ([1, 5, 8], [6]))
 (.block 1
 (.seq none
 (.reg [⟨none, some 45, [], ⟨.f (fBuild [(0, 1), (1, 1), (2, 1), (3, 1), (4, 1)] [(.int .i64 0), (.int .u64 0), (.int .i64 0), (.int .i64 0), (.bool false)] []), rAny xl_law06_SlotSteps (.f (fBuild [(0, 1), (1, 1), (2, 1), (3, 1), (4, 1)] [(.int .i64 0), (.int .u64 0), (.int .i64 0), (.int .i64 0), (.bool false)] []))⟩⟩,
  ⟨none, some 46, [(.tmp 45)], ⟨.box 5, rAny xl_law06_SlotSteps (.box 5)⟩⟩,
  ⟨none, some 9, [(.tmp 46)], ⟨.f fMove, rMove⟩⟩])
 (.seq (some ([1, 5, 8, 9], [6]))
 (.seq none
 (.reg [⟨none, some 10, [(.const (.int .i64 0))], ⟨.f fMove, rMove⟩⟩])
 (.block 2
 (.loop ([1, 5, 8, 9, 10], [6])
 (.seq none
 (.seq none
 (.reg [⟨none, some 47, [(.tmp 10)], ⟨.f fMove, rMove⟩⟩,
  ⟨none, some 48, [(.tmp 47), (.const (.int .i64 5))], ⟨.f (fBin .lss .no), rLss⟩⟩])
 (.cond (.tmp 48)
 .skip
 (.exit 2)))
 (.seq none
 (.block 3
 (.seq none
 (.reg [⟨none, some 51, [(.tmp 6)], ⟨.lr 6 9 true, rAny xl_law06_SlotSteps (.lr 6 9 true)⟩⟩,
  ⟨none, some 52, [(.tmp 51)], ⟨.call .read s_layout_Env_Now v_layout_Env_Now, rCall v_layout_Env_Now⟩⟩,
  ⟨none, some 11, [(.tmp 52)], ⟨.f fMove, rMove⟩⟩])
 (.seq none
 (.reg [⟨none, some 53, [(.tmp 9)], ⟨.f fMove, rMove⟩⟩,
  ⟨none, some 54, [(.tmp 6)], ⟨.lr 6 9 true, rAny xl_law06_SlotSteps (.lr 6 9 true)⟩⟩,
  ⟨none, some 55, [(.tmp 53), (.tmp 54)], ⟨.call .write s_slot_Take_Step v_slot_Take_Step, rCall v_slot_Take_Step⟩⟩,
  ⟨none, some 12, [(.tmp 55)], ⟨.f fMove, rMove⟩⟩])
 (.seq none
 (.reg [⟨none, some 56, [(.tmp 6)], ⟨.f (fFld 7), rFld 7⟩⟩,
  ⟨none, some 57, [(.tmp 56)], ⟨.lr 6 1 false, rLr1 6⟩⟩,
  ⟨none, some 58, [(.tmp 57)], ⟨.call .read s_mem_Mem_Last v_mem_Mem_Last, rCall v_mem_Mem_Last⟩⟩,
  ⟨none, some 59, [(.tmp 58)], ⟨.f (fFldV 0 1 false), rAny xl_law06_SlotSteps (.f (fFldV 0 1 false))⟩⟩,
  ⟨none, some 13, [(.tmp 59)], ⟨.f fMove, rMove⟩⟩])
 (.seq none
 (.seq (some ([1, 5, 8, 9, 10, 12, 83], [6]))
 (.reg [⟨none, some 60, [(.tmp 6)], ⟨.lr 6 9 true, rAny xl_law06_SlotSteps (.lr 6 9 true)⟩⟩,
  ⟨none, some 61, [(.tmp 60)], ⟨.call .read s_layout_Env_Now v_layout_Env_Now, rCall v_layout_Env_Now⟩⟩,
  ⟨none, some 62, [(.tmp 11)], ⟨.f fMove, rMove⟩⟩,
  ⟨none, some 63, [(.tmp 62), (.const (.int .i64 1))], ⟨.f (fBin .add .no), rAdd⟩⟩,
  ⟨none, some 64, [(.tmp 61), (.tmp 63)], ⟨.f (fBin .neq .no), rNeq⟩⟩,
  ⟨none, some 65, [(.tmp 64)], ⟨.f fMove, rMove⟩⟩,
  ⟨(some (6, 5, false, some 65)), some 66, [(.tmp 13)], ⟨.f fMove, rMove⟩⟩,
  ⟨(some (7, 5, false, some 65)), some 67, [], ⟨.call .none s_layout_Top v_layout_Top, rCall v_layout_Top⟩⟩,
  ⟨(some (8, 5, false, some 65)), some 68, [(.tmp 66), (.tmp 67)], ⟨.f (fBin .neq .no), rNeq⟩⟩,
  ⟨(some (9, 5, false, some 65)), some 69, [(.tmp 68)], ⟨.f fMove, rMove⟩⟩,
  ⟨(some (10, 9, true, some 69)), some 70, [(.tmp 13)], ⟨.f fMove, rMove⟩⟩,
  ⟨(some (11, 9, true, some 69)), some 71, [(.tmp 6)], ⟨.f (fFld 0), rFld 0⟩⟩,
  ⟨(some (12, 9, true, some 69)), some 72, [(.tmp 71)], ⟨.lr 6 7 true, rAny xl_law06_SlotSteps (.lr 6 7 true)⟩⟩,
  ⟨(some (13, 9, true, some 69)), some 73, [(.tmp 72), (.const (.int .i64 0))], ⟨.call .none s_layout_Slot v_layout_Slot, rCall v_layout_Slot⟩⟩,
  ⟨(some (14, 9, true, some 69)), some 74, [(.tmp 70), (.tmp 73)], ⟨.f (fBin .lss .no), rLss⟩⟩,
  ⟨(some (15, 9, true, some 69)), some 75, [(.tmp 74)], ⟨.f fMove, rMove⟩⟩,
  ⟨(some (16, 15, false, some 75)), some 76, [(.tmp 13)], ⟨.f fMove, rMove⟩⟩,
  ⟨(some (17, 15, false, some 75)), some 77, [(.tmp 6)], ⟨.f (fFld 0), rFld 0⟩⟩,
  ⟨(some (18, 15, false, some 75)), some 78, [(.tmp 77)], ⟨.lr 6 7 true, rAny xl_law06_SlotSteps (.lr 6 7 true)⟩⟩,
  ⟨(some (19, 15, false, some 75)), some 79, [(.tmp 78), (.const (.int .i64 0))], ⟨.call .none s_layout_Chunk v_layout_Chunk, rCall v_layout_Chunk⟩⟩,
  ⟨(some (20, 15, false, some 75)), some 80, [(.tmp 76), (.tmp 79)], ⟨.f (fBin .geq .no), rGeq⟩⟩,
  ⟨(some (21, 9, true, some 69)), some 81, [(.tmp 75), (.const (.bool true)), (.tmp 80)], ⟨.f fPick, rPick⟩⟩,
  ⟨(some (22, 5, false, some 65)), some 82, [(.tmp 69), (.tmp 81), (.const (.bool false))], ⟨.f fPick, rPick⟩⟩,
  ⟨none, some 83, [(.tmp 65), (.const (.bool true)), (.tmp 82)], ⟨.f fPick, rPick⟩⟩])
 (.cond (.tmp 83)
 (.seq none
 (.reg [⟨none, some 4, [(.const (.bool false))], ⟨.f fMove, rMove⟩⟩])
 .ret)
 .skip))
 (.seq none
 (.reg [⟨none, some 84, [(.tmp 12)], ⟨.f fMove, rMove⟩⟩])
 (.cond (.tmp 84)
 (.exit 2)
 .skip)))))))
 (.reg [⟨none, some 49, [(.tmp 10)], ⟨.f fMove, rMove⟩⟩,
  ⟨none, some 50, [(.tmp 49), (.const (.int .i64 1))], ⟨.f (fBin .add .no), rAdd⟩⟩,
  ⟨none, some 10, [(.tmp 50)], ⟨.f fMove, rMove⟩⟩]))))))
 (.seq none
 (.reg [⟨none, some 86, [(.tmp 9)], ⟨.f fMove, rMove⟩⟩,
  ⟨none, some 87, [(.tmp 86)], ⟨.call .read s_slot_Take_Slot v_slot_Take_Slot, rCall v_slot_Take_Slot⟩⟩,
  ⟨none, some 85, [(.tmp 87)], ⟨.f fMove, rMove⟩⟩,
  ⟨none, some 88, [(.tmp 85)], ⟨.f (fExt 0), rAny xl_law06_SlotSteps (.f (fExt 0))⟩⟩,
  ⟨none, some 89, [(.tmp 85)], ⟨.f (fExt 1), rAny xl_law06_SlotSteps (.f (fExt 1))⟩⟩,
  ⟨none, some 14, [(.tmp 88)], ⟨.f fMove, rMove⟩⟩,
  ⟨none, some 15, [(.tmp 89)], ⟨.f fMove, rMove⟩⟩])
 (.seq (some ([1, 5, 8, 14, 96], [6]))
 (.reg [⟨none, some 90, [(.tmp 15)], ⟨.f fMove, rMove⟩⟩,
  ⟨none, some 91, [(.tmp 90)], ⟨.f fMove, rMove⟩⟩,
  ⟨(some (2, 1, true, some 91)), some 92, [(.tmp 1)], ⟨.f fMove, rMove⟩⟩,
  ⟨(some (3, 1, true, some 91)), some 93, [(.tmp 8)], ⟨.f fMove, rMove⟩⟩,
  ⟨(some (4, 1, true, some 91)), some 94, [(.tmp 92), (.tmp 93)], ⟨.f (fIxS 1), rIxS 1⟩⟩,
  ⟨(some (5, 1, true, some 91)), some 95, [(.tmp 94)], ⟨.load 1 false, rLoad1⟩⟩,
  ⟨none, some 96, [(.tmp 91), (.tmp 95), (.const (.bool false))], ⟨.f fPick, rPick⟩⟩])
 (.cond (.tmp 96)
 (.reg [⟨none, some 97, [(.tmp 6)], ⟨.lr 6 9 true, rAny xl_law06_SlotSteps (.lr 6 9 true)⟩⟩,
  ⟨none, some 98, [(.tmp 14)], ⟨.f fMove, rMove⟩⟩,
  ⟨none, some 99, [(.tmp 97), (.tmp 98)], ⟨.call .write s_law06_give v_law06_give, rCall v_law06_give⟩⟩])
 .skip))))))
 (.reg [⟨none, some 43, [(.tmp 8)], ⟨.f fMove, rMove⟩⟩,
  ⟨none, some 44, [(.tmp 43), (.const (.int .i64 1))], ⟨.f (fBin .add .no), rAdd⟩⟩,
  ⟨none, some 8, [(.tmp 44)], ⟨.f fMove, rMove⟩⟩]))))))
 (.seq none
 (.reg [⟨none, some 101, [(.tmp 6)], ⟨.f (fFld 7), rFld 7⟩⟩,
  ⟨none, some 102, [(.tmp 101)], ⟨.lr 6 1 false, rLr1 6⟩⟩,
  ⟨none, some 103, [], ⟨.call .none s_layout_Top v_layout_Top, rCall v_layout_Top⟩⟩,
  ⟨none, some 104, [(.tmp 102), (.tmp 103)], ⟨.call .read s_mem_Mem_Peek v_mem_Mem_Peek, rCall v_mem_Mem_Peek⟩⟩,
  ⟨none, some 105, [(.tmp 104)], ⟨.call .none s_word_Top v_word_Top, rCall v_word_Top⟩⟩,
  ⟨none, some 100, [(.tmp 105)], ⟨.f fMove, rMove⟩⟩,
  ⟨none, some 106, [(.tmp 100)], ⟨.f (fExt 0), rAny xl_law06_SlotSteps (.f (fExt 0))⟩⟩,
  ⟨none, some 107, [(.tmp 100)], ⟨.f (fExt 1), rAny xl_law06_SlotSteps (.f (fExt 1))⟩⟩,
  ⟨none, some 16, [(.tmp 106)], ⟨.f fMove, rMove⟩⟩,
  ⟨none, some 17, [(.tmp 107)], ⟨.f fMove, rMove⟩⟩])
 (.seq none
 (.reg [⟨none, some 18, [(.const (.pointer none))], ⟨.f fMove, rMove⟩⟩])
 (.seq none
 (.reg [⟨none, some 109, [(.tmp 18)], ⟨.f fMove, rMove⟩⟩,
  ⟨none, some 110, [(.tmp 109)], ⟨.call .read s_slot_Take_Slot v_slot_Take_Slot, rCall v_slot_Take_Slot⟩⟩,
  ⟨none, some 108, [(.tmp 110)], ⟨.f fMove, rMove⟩⟩,
  ⟨none, some 111, [(.tmp 108)], ⟨.f (fExt 0), rAny xl_law06_SlotSteps (.f (fExt 0))⟩⟩,
  ⟨none, some 112, [(.tmp 108)], ⟨.f (fExt 1), rAny xl_law06_SlotSteps (.f (fExt 1))⟩⟩,
  ⟨none, some 19, [(.tmp 111)], ⟨.f fMove, rMove⟩⟩,
  ⟨none, some 20, [(.tmp 112)], ⟨.f fMove, rMove⟩⟩])
 (.seq none
 (.reg [⟨none, some 113, [(.tmp 16)], ⟨.f fMove, rMove⟩⟩,
  ⟨none, some 114, [(.tmp 5)], ⟨.f fMove, rMove⟩⟩,
  ⟨none, some 115, [(.tmp 113), (.tmp 114)], ⟨.f (fBin .lss .no), rLss⟩⟩,
  ⟨none, some 116, [(.tmp 115)], ⟨.f fMove, rMove⟩⟩,
  ⟨(some (4, 3, true, some 116)), some 117, [(.tmp 20)], ⟨.f fMove, rMove⟩⟩,
  ⟨(some (5, 3, true, some 116)), some 118, [(.tmp 117)], ⟨.f (fUn .not), rNot⟩⟩,
  ⟨none, some 119, [(.tmp 116), (.tmp 118), (.const (.bool false))], ⟨.f fPick, rPick⟩⟩,
  ⟨none, some 4, [(.tmp 119)], ⟨.f fMove, rMove⟩⟩])
 .ret)))))))))
noncomputable def v_law06_SlotSteps : EvF := evFn 2 xc_law06_SlotSteps [.t 4]
theorem xt_law06_SlotSteps : toC cx_law06_SlotSteps (bodyOf Try.f13) = some (xc_law06_SlotSteps.map XN.sm) := by kernel_rfl
theorem xr_law06_SlotSteps : toR cx_law06_SlotSteps Try.f13.results.toList = some [.t 4] := by kernel_rfl
theorem xo_law06_SlotSteps : xc_law06_SlotSteps.ok xl_law06_SlotSteps := ⟨⟨rMove_ok, trivial⟩, ⟨⟨rMove_ok, rAny_ok (trivial), rAdd_ok, rMove_ok, trivial⟩, ⟨⟨rMove_ok, rCall_ok ve_law04_Arena, rMove_ok, rAny_ok (eqv_ext _), rAny_ok (eqv_ext _), rAny_ok (trivial), rAny_ok (trivial), rMove_ok, trivial⟩, ⟨⟨⟨rCall_ok ve_law06_awake, rNot_ok, rMove_ok, rMove_ok, rNot_ok, rPick_ok, trivial⟩, ⟨⟨⟨rMove_ok, trivial⟩, trivial⟩, trivial⟩⟩, ⟨⟨⟨rMove_ok, trivial⟩, ⟨⟨⟨rMove_ok, rMove_ok, rAny_ok (eqv_len), rLss_ok, rMove_ok, rMove_ok, rLss_ok, rPick_ok, trivial⟩, ⟨trivial, trivial⟩⟩, ⟨⟨⟨rAny_ok (eqv_build _ rfl _), rAny_ok (trivial), rMove_ok, trivial⟩, ⟨⟨⟨rMove_ok, trivial⟩, ⟨⟨⟨rMove_ok, rLss_ok, trivial⟩, ⟨trivial, trivial⟩⟩, ⟨⟨⟨rAny_ok (trivial), rCall_ok ve_layout_Env_Now, rMove_ok, trivial⟩, ⟨⟨rMove_ok, rAny_ok (trivial), rCall_ok ve_slot_Take_Step, rMove_ok, trivial⟩, ⟨⟨rFld_ok _, rLr1_ok _, rCall_ok ve_mem_Mem_Last, rAny_ok (eqv_fldV _ _ _), rMove_ok, trivial⟩, ⟨⟨⟨rAny_ok (trivial), rCall_ok ve_layout_Env_Now, rMove_ok, rAdd_ok, rNeq_ok, rMove_ok, rMove_ok, rCall_ok ve_layout_Top, rNeq_ok, rMove_ok, rMove_ok, rFld_ok _, rAny_ok (trivial), rCall_ok ve_layout_Slot, rLss_ok, rMove_ok, rMove_ok, rFld_ok _, rAny_ok (trivial), rCall_ok ve_layout_Chunk, rGeq_ok, rPick_ok, rPick_ok, rPick_ok, trivial⟩, ⟨⟨⟨rMove_ok, trivial⟩, trivial⟩, trivial⟩⟩, ⟨⟨rMove_ok, trivial⟩, ⟨trivial, trivial⟩⟩⟩⟩⟩⟩, ⟨rMove_ok, rAdd_ok, rMove_ok, trivial⟩⟩⟩⟩, ⟨⟨rMove_ok, rCall_ok ve_slot_Take_Slot, rMove_ok, rAny_ok (eqv_ext _), rAny_ok (eqv_ext _), rMove_ok, rMove_ok, trivial⟩, ⟨⟨rMove_ok, rMove_ok, rMove_ok, rMove_ok, rIxS_ok _, rLoad1_ok, rPick_ok, trivial⟩, ⟨⟨rAny_ok (trivial), rMove_ok, rCall_ok ve_law06_give, trivial⟩, trivial⟩⟩⟩⟩⟩, ⟨rMove_ok, rAdd_ok, rMove_ok, trivial⟩⟩⟩⟩, ⟨⟨rFld_ok _, rLr1_ok _, rCall_ok ve_layout_Top, rCall_ok ve_mem_Mem_Peek, rCall_ok ve_word_Top, rMove_ok, rAny_ok (eqv_ext _), rAny_ok (eqv_ext _), rMove_ok, rMove_ok, trivial⟩, ⟨⟨rMove_ok, trivial⟩, ⟨⟨rMove_ok, rCall_ok ve_slot_Take_Slot, rMove_ok, rAny_ok (eqv_ext _), rAny_ok (eqv_ext _), rMove_ok, rMove_ok, trivial⟩, ⟨⟨rMove_ok, rMove_ok, rLss_ok, rMove_ok, rMove_ok, rNot_ok, rPick_ok, rMove_ok, trivial⟩, trivial⟩⟩⟩⟩⟩⟩⟩⟩⟩
theorem ve_law06_SlotSteps : EvOk s_law06_SlotSteps v_law06_SlotSteps := EvOk.of (evFn_sound (C := cx_law06_SlotSteps) xt_law06_SlotSteps xr_law06_SlotSteps xo_law06_SlotSteps) q_law06_SlotSteps

attribute [irreducible] w_law06_SlotSteps_j2b w_law06_SlotSteps_j2 w_law06_SlotSteps_j4b w_law06_SlotSteps_j4 w_law06_SlotSteps_j6b w_law06_SlotSteps_j6 w_law06_SlotSteps_j5b w_law06_SlotSteps_j5 w_law06_SlotSteps_j7b w_law06_SlotSteps_j7 w_law06_SlotSteps_l11b w_law06_SlotSteps_l11 w_law06_SlotSteps_j3b w_law06_SlotSteps_j3 w_law06_SlotSteps_l7b w_law06_SlotSteps_l7 w_law06_SlotSteps_j1b w_law06_SlotSteps_j1 w_law06_SlotSteps s_law06_SlotSteps

end Go.Fl
