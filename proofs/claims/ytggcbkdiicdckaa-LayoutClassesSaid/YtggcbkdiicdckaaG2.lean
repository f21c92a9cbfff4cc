/- What each Go function that the law reaches does, read off its text by a program; that this is the function; the same for the closed evaluator. No condition. -/
import Derived.Test.YtggcbkdiicdckaaG1
namespace Go.Fl
open Go Go.Proofs
set_option linter.unusedVariables false
set_option maxRecDepth 10000000

/-! ### /law06.SlotSteps -/
def w_law06_SlotSteps_j2b (K : Value → Mem → Prop) (v5 : Value) (c6 : List Value) (σ : Mem) : Prop :=
xF (fFld 7) [(locP 6)] fun v101 =>
xO (gLoad 1 false [v101] c6) fun v102 =>
s_layout_Top [] (fun v103 σ =>
s_mem_Mem_Peek [v102, v103] (fun v104 σ =>
s_word_Top [v104] (fun v105 σ =>
xF fMove [v105] fun v100 =>
xF (fExt 0) [v100] fun v106 =>
xF (fExt 1) [v100] fun v107 =>
xF fMove [v106] fun v16 =>
xF fMove [v107] fun v17 =>
xF fMove [(.pointer none)] fun v18 =>
xF fMove [v18] fun v109 =>
s_slot_Take_Slot [v109] (fun v110 σ =>
xF fMove [v110] fun v108 =>
xF (fExt 0) [v108] fun v111 =>
xF (fExt 1) [v108] fun v112 =>
xF fMove [v111] fun v19 =>
xF fMove [v112] fun v20 =>
xF fMove [v16] fun v113 =>
xF fMove [v5] fun v114 =>
xF (fBin .lss .no) [v113, v114] fun v115 =>
xF fMove [v115] fun v116 =>
xIf v116
 (xF fMove [v20] fun v117 =>
xF (fUn .not) [v117] fun v118 =>
xF fPick [(.bool true), v118, (.bool false)] fun v119 =>
xF fMove [v119] fun v4 =>
K v4 σ)
 (xF fPick [(.bool false), undef, (.bool false)] fun v119 =>
xF fMove [v119] fun v4 =>
K v4 σ)) σ) σ) σ) σ

def w_law06_SlotSteps_j2 (K : Value → Mem → Prop) (ts : List Value) (ls : List (List Value)) (σ : Mem) : Prop := w_law06_SlotSteps_j2b K (ts.getD 0 poison) (ls.getD 0 []) σ

def w_law06_SlotSteps_j4b (K : Value → Mem → Prop) (J2 : List Value → List (List Value) → Mem → Prop) (R1 : List Value → List (List Value) → Mem → Prop) (v1 v5 v8 : Value) (c6 : List Value) (σ : Mem) : Prop :=
xF fMove [v8] fun v43 =>
xF (fBin .add .no) [v43, (.int .i64 1)] fun v44 =>
xF fMove [v44] fun v8 =>
R1 [v1, v5, v8] [c6] σ

def w_law06_SlotSteps_j4 (K : Value → Mem → Prop) (J2 : List Value → List (List Value) → Mem → Prop) (R1 : List Value → List (List Value) → Mem → Prop) (ts : List Value) (ls : List (List Value)) (σ : Mem) : Prop := w_law06_SlotSteps_j4b K J2 R1 (ts.getD 0 poison) (ts.getD 1 poison) (ts.getD 2 poison) (ls.getD 0 []) σ

def w_law06_SlotSteps_j6b (K : Value → Mem → Prop) (J2 : List Value → List (List Value) → Mem → Prop) (R1 : List Value → List (List Value) → Mem → Prop) (J4 : List Value → List (List Value) → Mem → Prop) (v1 v5 v8 v14 v96 : Value) (c6 : List Value) (σ : Mem) : Prop :=
xIf v96
 (xO (gLoad 9 true [(locP 6)] c6) fun v97 =>
xF fMove [v14] fun v98 =>
s_law06_give [v97, v98] (fun v99 σ =>
J4 [v1, v5, v8] [c6] σ) σ)
 (J4 [v1, v5, v8] [c6] σ)

def w_law06_SlotSteps_j6 (K : Value → Mem → Prop) (J2 : List Value → List (List Value) → Mem → Prop) (R1 : List Value → List (List Value) → Mem → Prop) (J4 : List Value → List (List Value) → Mem → Prop) (ts : List Value) (ls : List (List Value)) (σ : Mem) : Prop := w_law06_SlotSteps_j6b K J2 R1 J4 (ts.getD 0 poison) (ts.getD 1 poison) (ts.getD 2 poison) (ts.getD 3 poison) (ts.getD 4 poison) (ls.getD 0 []) σ

def w_law06_SlotSteps_j5b (K : Value → Mem → Prop) (J2 : List Value → List (List Value) → Mem → Prop) (R1 : List Value → List (List Value) → Mem → Prop) (J4 : List Value → List (List Value) → Mem → Prop) (v1 v5 v8 v9 : Value) (c6 : List Value) (σ : Mem) : Prop :=
xF fMove [v9] fun v86 =>
s_slot_Take_Slot [v86] (fun v87 σ =>
xF fMove [v87] fun v85 =>
xF (fExt 0) [v85] fun v88 =>
xF (fExt 1) [v85] fun v89 =>
xF fMove [v88] fun v14 =>
xF fMove [v89] fun v15 =>
xJoin (w_law06_SlotSteps_j6 K J2 R1 J4) fun J6 =>
xF fMove [v15] fun v90 =>
xF fMove [v90] fun v91 =>
xIf v91
 (xF fMove [v1] fun v92 =>
xF fMove [v8] fun v93 =>
xF (fIxS 1) [v92, v93] fun v94 =>
hLoad 1 false [v94] (fun v95 σ =>
xF fPick [(.bool true), v95, (.bool false)] fun v96 =>
J6 [v1, v5, v8, v14, v96] [c6] σ) σ)
 (xF fPick [(.bool false), undef, (.bool false)] fun v96 =>
J6 [v1, v5, v8, v14, v96] [c6] σ)) σ

def w_law06_SlotSteps_j5 (K : Value → Mem → Prop) (J2 : List Value → List (List Value) → Mem → Prop) (R1 : List Value → List (List Value) → Mem → Prop) (J4 : List Value → List (List Value) → Mem → Prop) (ts : List Value) (ls : List (List Value)) (σ : Mem) : Prop := w_law06_SlotSteps_j5b K J2 R1 J4 (ts.getD 0 poison) (ts.getD 1 poison) (ts.getD 2 poison) (ts.getD 3 poison) (ls.getD 0 []) σ

def w_law06_SlotSteps_j7b (K : Value → Mem → Prop) (J2 : List Value → List (List Value) → Mem → Prop) (R1 : List Value → List (List Value) → Mem → Prop) (J4 : List Value → List (List Value) → Mem → Prop) (J5 : List Value → List (List Value) → Mem → Prop) (R4 : List Value → List (List Value) → Mem → Prop) (v1 v5 v8 v9 v10 v12 v83 : Value) (c6 : List Value) (σ : Mem) : Prop :=
xIf v83
 (xF fMove [(.bool false)] fun v4 =>
K v4 σ)
 (xF fMove [v12] fun v84 =>
xIf v84
 (J5 [v1, v5, v8, v9] [c6] σ)
 (xF fMove [v10] fun v49 =>
xF (fBin .add .no) [v49, (.int .i64 1)] fun v50 =>
xF fMove [v50] fun v10 =>
R4 [v1, v5, v8, v9, v10] [c6] σ))

def w_law06_SlotSteps_j7 (K : Value → Mem → Prop) (J2 : List Value → List (List Value) → Mem → Prop) (R1 : List Value → List (List Value) → Mem → Prop) (J4 : List Value → List (List Value) → Mem → Prop) (J5 : List Value → List (List Value) → Mem → Prop) (R4 : List Value → List (List Value) → Mem → Prop) (ts : List Value) (ls : List (List Value)) (σ : Mem) : Prop := w_law06_SlotSteps_j7b K J2 R1 J4 J5 R4 (ts.getD 0 poison) (ts.getD 1 poison) (ts.getD 2 poison) (ts.getD 3 poison) (ts.getD 4 poison) (ts.getD 5 poison) (ts.getD 6 poison) (ls.getD 0 []) σ

def w_law06_SlotSteps_l11b (K : Value → Mem → Prop) (J2 : List Value → List (List Value) → Mem → Prop) (R1 : List Value → List (List Value) → Mem → Prop) (J4 : List Value → List (List Value) → Mem → Prop) (J5 : List Value → List (List Value) → Mem → Prop) (R4 : List Value → List (List Value) → Mem → Prop) (v1 v5 v8 v9 v10 : Value) (c6 : List Value) (σ : Mem) : Prop :=
xF fMove [v10] fun v47 =>
xF (fBin .lss .no) [v47, (.int .i64 5)] fun v48 =>
xIf v48
 (xO (gLoad 9 true [(locP 6)] c6) fun v51 =>
s_layout_Env_Now [v51] (fun v52 σ =>
xF fMove [v52] fun v11 =>
xF fMove [v9] fun v53 =>
xO (gLoad 9 true [(locP 6)] c6) fun v54 =>
s_slot_Take_Step [v53, v54] (fun v55 σ =>
xF fMove [v55] fun v12 =>
xF (fFld 7) [(locP 6)] fun v56 =>
xO (gLoad 1 false [v56] c6) fun v57 =>
s_mem_Mem_Last [v57] (fun v58 σ =>
xF (fFldV 0 1 false) [v58] fun v59 =>
xF fMove [v59] fun v13 =>
xJoin (w_law06_SlotSteps_j7 K J2 R1 J4 J5 R4) fun J7 =>
xO (gLoad 9 true [(locP 6)] c6) fun v60 =>
s_layout_Env_Now [v60] (fun v61 σ =>
xF fMove [v11] fun v62 =>
xF (fBin .add .no) [v62, (.int .i64 1)] fun v63 =>
xF (fBin .neq .no) [v61, v63] fun v64 =>
xF fMove [v64] fun v65 =>
xIf v65
 (xF fPick [(.bool true), (.bool true), undef] fun v83 =>
J7 [v1, v5, v8, v9, v10, v12, v83] [c6] σ)
 (xF fMove [v13] fun v66 =>
s_layout_Top [] (fun v67 σ =>
xF (fBin .neq .no) [v66, v67] fun v68 =>
xF fMove [v68] fun v69 =>
xIf v69
 (xF fMove [v13] fun v70 =>
xF (fFld 0) [(locP 6)] fun v71 =>
xO (gLoad 7 true [v71] c6) fun v72 =>
s_layout_Slot [v72, (.int .i64 0)] (fun v73 σ =>
xF (fBin .lss .no) [v70, v73] fun v74 =>
xF fMove [v74] fun v75 =>
xIf v75
 (xF fPick [(.bool true), (.bool true), undef] fun v81 =>
xF fPick [(.bool true), v81, (.bool false)] fun v82 =>
xF fPick [(.bool false), (.bool true), v82] fun v83 =>
J7 [v1, v5, v8, v9, v10, v12, v83] [c6] σ)
 (xF fMove [v13] fun v76 =>
xF (fFld 0) [(locP 6)] fun v77 =>
xO (gLoad 7 true [v77] c6) fun v78 =>
s_layout_Chunk [v78, (.int .i64 0)] (fun v79 σ =>
xF (fBin .geq .no) [v76, v79] fun v80 =>
xF fPick [(.bool false), (.bool true), v80] fun v81 =>
xF fPick [(.bool true), v81, (.bool false)] fun v82 =>
xF fPick [(.bool false), (.bool true), v82] fun v83 =>
J7 [v1, v5, v8, v9, v10, v12, v83] [c6] σ) σ)) σ)
 (xF fPick [(.bool false), undef, (.bool false)] fun v82 =>
xF fPick [(.bool false), (.bool true), v82] fun v83 =>
J7 [v1, v5, v8, v9, v10, v12, v83] [c6] σ)) σ)) σ) σ) σ) σ)
 (J5 [v1, v5, v8, v9] [c6] σ)

def w_law06_SlotSteps_l11 (K : Value → Mem → Prop) (J2 : List Value → List (List Value) → Mem → Prop) (R1 : List Value → List (List Value) → Mem → Prop) (J4 : List Value → List (List Value) → Mem → Prop) (J5 : List Value → List (List Value) → Mem → Prop) (R4 : List Value → List (List Value) → Mem → Prop) (ts : List Value) (ls : List (List Value)) (σ : Mem) : Prop := w_law06_SlotSteps_l11b K J2 R1 J4 J5 R4 (ts.getD 0 poison) (ts.getD 1 poison) (ts.getD 2 poison) (ts.getD 3 poison) (ts.getD 4 poison) (ls.getD 0 []) σ

def w_law06_SlotSteps_j3b (K : Value → Mem → Prop) (J2 : List Value → List (List Value) → Mem → Prop) (R1 : List Value → List (List Value) → Mem → Prop) (v1 v5 v8 : Value) (c6 : List Value) (σ : Mem) : Prop :=
xJoin (w_law06_SlotSteps_j4 K J2 R1) fun J4 =>
xF (fBuild [(0, 1), (1, 1), (2, 1), (3, 1), (4, 1)] [(.int .i64 0), (.int .u64 0), (.int .i64 0), (.int .i64 0), (.bool false)] []) [] fun v45 =>
hBox 5 [v45] (fun v46 σ =>
xF fMove [v46] fun v9 =>
xJoin (w_law06_SlotSteps_j5 K J2 R1 J4) fun J5 =>
xF fMove [(.int .i64 0)] fun v10 =>
xLoop (w_law06_SlotSteps_l11 K J2 R1 J4 J5) [v1, v5, v8, v9, v10] [c6] σ) σ

def w_law06_SlotSteps_j3 (K : Value → Mem → Prop) (J2 : List Value → List (List Value) → Mem → Prop) (R1 : List Value → List (List Value) → Mem → Prop) (ts : List Value) (ls : List (List Value)) (σ : Mem) : Prop := w_law06_SlotSteps_j3b K J2 R1 (ts.getD 0 poison) (ts.getD 1 poison) (ts.getD 2 poison) (ls.getD 0 []) σ

def w_law06_SlotSteps_l7b (K : Value → Mem → Prop) (J2 : List Value → List (List Value) → Mem → Prop) (R1 : List Value → List (List Value) → Mem → Prop) (v1 v5 v8 : Value) (c6 : List Value) (σ : Mem) : Prop :=
xJoin (w_law06_SlotSteps_j3 K J2 R1) fun J3 =>
xF fMove [v8] fun v35 =>
xF fMove [v1] fun v36 =>
xF fLen [v36] fun v37 =>
xF (fBin .lss .no) [v35, v37] fun v38 =>
xF fMove [v38] fun v39 =>
xIf v39
 (xF fMove [v8] fun v40 =>
xF (fBin .lss .no) [v40, (.int .i64 20)] fun v41 =>
xF fPick [(.bool true), v41, (.bool false)] fun v42 =>
xIf v42
 (J3 [v1, v5, v8] [c6] σ)
 (J2 [v5] [c6] σ))
 (xF fPick [(.bool false), undef, (.bool false)] fun v42 =>
xIf v42
 (J3 [v1, v5, v8] [c6] σ)
 (J2 [v5] [c6] σ))

def w_law06_SlotSteps_l7 (K : Value → Mem → Prop) (J2 : List Value → List (List Value) → Mem → Prop) (R1 : List Value → List (List Value) → Mem → Prop) (ts : List Value) (ls : List (List Value)) (σ : Mem) : Prop := w_law06_SlotSteps_l7b K J2 R1 (ts.getD 0 poison) (ts.getD 1 poison) (ts.getD 2 poison) (ls.getD 0 []) σ

def w_law06_SlotSteps_j1b (K : Value → Mem → Prop) (v1 v5 v34 : Value) (c6 : List Value) (σ : Mem) : Prop :=
xIf v34
 (xF fMove [(.bool false)] fun v4 =>
K v4 σ)
 (xJoin (w_law06_SlotSteps_j2 K) fun J2 =>
xF fMove [(.int .i64 0)] fun v8 =>
xLoop (w_law06_SlotSteps_l7 K J2) [v1, v5, v8] [c6] σ)

def w_law06_SlotSteps_j1 (K : Value → Mem → Prop) (ts : List Value) (ls : List (List Value)) (σ : Mem) : Prop := w_law06_SlotSteps_j1b K (ts.getD 0 poison) (ts.getD 1 poison) (ts.getD 2 poison) (ls.getD 0 []) σ

def w_law06_SlotSteps (a0 a1 : Value) (K : Value → Mem → Prop) (σ : Mem) : Prop :=
xF fMove [(.bool false)] fun v4 =>
xF fMove [a0] fun v21 =>
xF (fBin .and .no) [v21, (.int .i64 15)] fun v22 =>
xF (fBin .add .no) [(.int .i64 1), v22] fun v23 =>
xF fMove [v23] fun v5 =>
xF fMove [v5] fun v25 =>
s_law04_Arena [(.int .i64 1), v25, (.int .i64 1), (.int .i64 20)] (fun v26 σ =>
xF fMove [v26] fun v24 =>
xF (fExt 0) [v24] fun v27 =>
xF (fExt 1) [v24] fun v28 =>
xC (gStore 9 [(locP 6), v27] [(.int .i64 0), (.int .i64 0), (.int .i64 0), (.int .i64 0), (.int .i64 0), (.int .i64 0), (.int .i64 0), (.pointer none), (.int .i64 0)]) fun c6 =>
xF fMove [v28] fun v7 =>
xJoin (w_law06_SlotSteps_j1 K) fun J1 =>
s_law06_awake [] (fun v29 σ =>
xF (fUn .not) [v29] fun v30 =>
xF fMove [v30] fun v31 =>
xIf v31
 (xF fPick [(.bool true), (.bool true), undef] fun v34 =>
J1 [a1, v5, v34] [c6] σ)
 (xF fMove [v7] fun v32 =>
xF (fUn .not) [v32] fun v33 =>
xF fPick [(.bool false), (.bool true), v33] fun v34 =>
J1 [a1, v5, v34] [c6] σ)) σ) σ

def s_law06_SlotSteps : Spec := fun args K σ => match args with
  | [a0, a1] => w_law06_SlotSteps a0 a1 K σ
  | _ => False

noncomputable def cx_law06_SlotSteps : Cx := { P := Try.prog, T := [(36, .write, s_law04_Arena), (37, .none, s_law06_awake), (51, .read, s_layout_Env_Now), (39, .write, s_slot_Take_Step), (50, .read, s_mem_Mem_Last), (29, .none, s_layout_Top), (32, .none, s_layout_Slot), (33, .none, s_layout_Chunk), (40, .read, s_slot_Take_Slot), (53, .write, s_law06_give), (27, .read, s_mem_Mem_Peek), (57, .none, s_word_Top)], loc := [(6, 6), (56, 6), (71, 6), (77, 6), (101, 6)], eqt := [], n := 120, keep := [(7, [1, 5, 8], [6]), (11, [1, 5, 8, 9, 10], [6]), (1000005, [1, 5, 34], [6]), (1000008, [1, 5, 8], [6]), (1000009, [1, 5, 8], [6]), (1000017, [1, 5, 8, 9, 10, 12, 83], [6]), (1000019, [1, 5, 8, 9], [6]), (1000021, [1, 5, 8, 14, 96], [6]), (1000022, [5], [6])] }
theorem q_law06_SlotSteps : FnS cx_law06_SlotSteps Try.f13 (bodyOf Try.f13) 2 = s_law06_SlotSteps := by
  funext args K σ
  rcases args with _ | ⟨a0, _ | ⟨a1, _ | ⟨b, r⟩⟩⟩ <;> kernel_rfl
theorem e_law06_SlotSteps : Entry Try.prog 13 .write s_law06_SlotSteps :=
  entry (C := cx_law06_SlotSteps) (TOk.cons e_law04_Arena (TOk.cons e_law06_awake (TOk.cons e_layout_Env_Now (TOk.cons e_slot_Take_Step (TOk.cons e_mem_Mem_Last (TOk.cons e_layout_Top (TOk.cons e_layout_Slot (TOk.cons e_layout_Chunk (TOk.cons e_slot_Take_Slot (TOk.cons e_law06_give (TOk.cons e_mem_Mem_Peek (TOk.cons e_word_Top TOk.nil)))))))))))) mixedOk Try.func13 (by kernel_rfl) (by kernel_rfl) (by kernel_rfl) q_law06_SlotSteps


attribute [irreducible] w_law06_SlotSteps_j2b w_law06_SlotSteps_j2 w_law06_SlotSteps_j4b w_law06_SlotSteps_j4 w_law06_SlotSteps_j6b w_law06_SlotSteps_j6 w_law06_SlotSteps_j5b w_law06_SlotSteps_j5 w_law06_SlotSteps_j7b w_law06_SlotSteps_j7 w_law06_SlotSteps_l11b w_law06_SlotSteps_l11 w_law06_SlotSteps_j3b w_law06_SlotSteps_j3 w_law06_SlotSteps_l7b w_law06_SlotSteps_l7 w_law06_SlotSteps_j1b w_law06_SlotSteps_j1 w_law06_SlotSteps s_law06_SlotSteps

end Go.Fl
