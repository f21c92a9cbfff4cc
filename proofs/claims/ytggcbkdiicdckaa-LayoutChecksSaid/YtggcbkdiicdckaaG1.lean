/- What each Go function that the law reaches does, read off its text by a program; that this is the function; the same for the closed evaluator. No condition. -/
import Derived.Test.YtggcbkdiicdckaaG0
namespace Go.Fl
open Go Go.Proofs
set_option linter.unusedVariables false
set_option maxRecDepth 10000000

/-! ### /ref01.Slot -/
def w_ref01_Slot (a0 : Value) (K : Value → Mem → Prop) (σ : Mem) : Prop :=
xC (gBox 4 [a0] []) fun c1 =>
xF fMove [(.int .u64 0)] fun v2 =>
xF (fFld 0) [(locP 1)] fun v3 =>
xO (gLoad 1 false [v3] c1) fun v4 =>
xF (fFld 1) [(locP 1)] fun v5 =>
xO (gLoad 1 false [v5] c1) fun v6 =>
xF (fFld 2) [(locP 1)] fun v7 =>
xO (gLoad 1 false [v7] c1) fun v8 =>
xF (fFld 3) [(locP 1)] fun v9 =>
xO (gLoad 1 false [v9] c1) fun v10 =>
hBuildS 1 4 [(.int .i64 0)] [0, 1, 2, 3] [v4, v6, v8, v10] (fun v11 σ =>
hBuildS 1 4 [(.int .i64 0)] [0, 1, 2, 3] [(.int .i64 3), (.int .i64 20), (.int .i64 16), (.int .i64 22)] (fun v12 σ =>
s_ref01_Put [v11, v12] (fun v13 σ =>
xF fMove [v13] fun v2 =>
K v2 σ) σ) σ) σ

def s_ref01_Slot : Spec := fun args K σ => match args with
  | [a0] => w_ref01_Slot a0 K σ
  | _ => False

noncomputable def cx_ref01_Slot : Cx := { P := Try.prog, T := [(61, .write, s_ref01_Put)], loc := [(1, 1), (3, 1), (5, 1), (7, 1), (9, 1)], eqt := [], n := 14, keep := [] }
theorem q_ref01_Slot : FnS cx_ref01_Slot Try.f26 (bodyOf Try.f26) 1 = s_ref01_Slot := by
  funext args K σ
  rcases args with _ | ⟨a0, _ | ⟨b, r⟩⟩ <;> kernel_rfl
theorem e_ref01_Slot : Entry Try.prog 26 .write s_ref01_Slot :=
  entry (C := cx_ref01_Slot) (TOk.cons e_ref01_Put TOk.nil) mixedOk Try.func26 (by kernel_rfl) (by kernel_rfl) (by kernel_rfl) q_ref01_Slot

def xl_ref01_Slot : List (Nat × Nat) := [(1, 1), (3, 1), (5, 1), (7, 1), (9, 1)]
noncomputable def xc_ref01_Slot : XC XN :=
(.seq none
 (.reg [⟨none, some 1, [(.tmp 0)], ⟨.lb 1 4, rAny xl_ref01_Slot (.lb 1 4)⟩⟩,
  ⟨none, some 2, [(.const (.int .u64 0))], ⟨.f fMove, rMove⟩⟩])
 (.seq none
 (.reg [⟨none, some 3, [(.tmp 1)], ⟨.f (fFld 0), rFld 0⟩⟩,
  ⟨none, some 4, [(.tmp 3)], ⟨.lr 1 1 false, rLr1 1⟩⟩,
  ⟨none, some 5, [(.tmp 1)], ⟨.f (fFld 1), rFld 1⟩⟩,
  ⟨none, some 6, [(.tmp 5)], ⟨.lr 1 1 false, rLr1 1⟩⟩,
  ⟨none, some 7, [(.tmp 1)], ⟨.f (fFld 2), rFld 2⟩⟩,
  ⟨none, some 8, [(.tmp 7)], ⟨.lr 1 1 false, rLr1 1⟩⟩,
  ⟨none, some 9, [(.tmp 1)], ⟨.f (fFld 3), rFld 3⟩⟩,
  ⟨none, some 10, [(.tmp 9)], ⟨.lr 1 1 false, rLr1 1⟩⟩,
  ⟨none, some 11, [(.tmp 4), (.tmp 6), (.tmp 8), (.tmp 10)], ⟨.bs 1 4 [(.int .i64 0)] [0, 1, 2, 3], rAny xl_ref01_Slot (.bs 1 4 [(.int .i64 0)] [0, 1, 2, 3])⟩⟩,
  ⟨none, some 12, [(.const (.int .i64 3)), (.const (.int .i64 20)), (.const (.int .i64 16)), (.const (.int .i64 22))], ⟨.bs 1 4 [(.int .i64 0)] [0, 1, 2, 3], rAny xl_ref01_Slot (.bs 1 4 [(.int .i64 0)] [0, 1, 2, 3])⟩⟩,
  ⟨none, some 13, [(.tmp 11), (.tmp 12)], ⟨.call .write s_ref01_Put v_ref01_Put, rCall v_ref01_Put⟩⟩,
  ⟨none, some 2, [(.tmp 13)], ⟨.f fMove, rMove⟩⟩])
 .ret))
noncomputable def v_ref01_Slot : EvF := evFn 1 xc_ref01_Slot [.t 2]
theorem xt_ref01_Slot : toC cx_ref01_Slot (bodyOf Try.f26) = some (xc_ref01_Slot.map XN.sm) := by kernel_rfl
theorem xr_ref01_Slot : toR cx_ref01_Slot Try.f26.results.toList = some [.t 2] := by kernel_rfl
theorem xo_ref01_Slot : xc_ref01_Slot.ok xl_ref01_Slot := ⟨⟨rAny_ok (trivial), rMove_ok, trivial⟩, ⟨⟨rFld_ok _, rLr1_ok _, rFld_ok _, rLr1_ok _, rFld_ok _, rLr1_ok _, rFld_ok _, rLr1_ok _, rAny_ok (trivial), rAny_ok (trivial), rCall_ok ve_ref01_Put, rMove_ok, trivial⟩, trivial⟩⟩
theorem ve_ref01_Slot : EvOk s_ref01_Slot v_ref01_Slot := EvOk.of (evFn_sound (C := cx_ref01_Slot) xt_ref01_Slot xr_ref01_Slot xo_ref01_Slot) q_ref01_Slot

attribute [irreducible] w_ref01_Slot s_ref01_Slot

/-! ### /law04.LayoutFresh -/
def w_law04_LayoutFresh_j2b (K : Value → Mem → Prop) (c3 : List Value) (σ : Mem) : Prop :=
xO (gLoad 7 true [(locP 3)] c3) fun v70 =>
s_ref04_Check [v70] (fun v71 σ =>
xIf v71
 (xF fMove [(.bool true)] fun v4 =>
K v4 σ)
 (xO (gLoad 7 true [(locP 3)] c3) fun v73 =>
s_layout_Fresh [v73] (fun v74 σ =>
xF fMove [v74] fun v72 =>
xF (fExt 0) [v72] fun v75 =>
xF (fExt 1) [v72] fun v76 =>
xF fMove [v75] fun v13 =>
xF fMove [v76] fun v14 =>
xF fMove [v13] fun v77 =>
xF (fBin .eql .ptr) [v77, (.pointer none)] fun v78 =>
xF fMove [v78] fun v79 =>
xIf v79
 (xF fMove [v14] fun v80 =>
xF (fBin .eql .no) [v80, (.int .i64 1)] fun v81 =>
xF fPick [(.bool true), v81, (.bool false)] fun v82 =>
xF fMove [v82] fun v4 =>
K v4 σ)
 (xF fPick [(.bool false), undef, (.bool false)] fun v82 =>
xF fMove [v82] fun v4 =>
K v4 σ)) σ)) σ

def w_law04_LayoutFresh_j2 (K : Value → Mem → Prop) (ts : List Value) (ls : List (List Value)) (σ : Mem) : Prop := w_law04_LayoutFresh_j2b K (ls.getD 0 []) σ

def w_law04_LayoutFresh_j3b (K : Value → Mem → Prop) (J2 : List Value → List (List Value) → Mem → Prop) (R1 : List Value → List (List Value) → Mem → Prop) (v6 v8 v12 : Value) (c3 c5 : List Value) (σ : Mem) : Prop :=
xF fMove [v6] fun v65 =>
xF fMove [v8] fun v66 =>
s_mem_Mem_Peek [v65, v66] (fun v67 σ =>
xF fMove [v12] fun v68 =>
xF (fBin .neq .no) [v67, v68] fun v69 =>
xIf v69
 (xF fMove [(.bool false)] fun v4 =>
K v4 σ)
 (xF fMove [v8] fun v39 =>
xF (fBin .add .no) [v39, (.int .i64 1)] fun v40 =>
xF fMove [v40] fun v8 =>
R1 [v6, v8] [c3, c5] σ)) σ

def w_law04_LayoutFresh_j3 (K : Value → Mem → Prop) (J2 : List Value → List (List Value) → Mem → Prop) (R1 : List Value → List (List Value) → Mem → Prop) (ts : List Value) (ls : List (List Value)) (σ : Mem) : Prop := w_law04_LayoutFresh_j3b K J2 R1 (ts.getD 0 poison) (ts.getD 1 poison) (ts.getD 2 poison) (ls.getD 0 []) (ls.getD 1 []) σ

def w_law04_LayoutFresh_l7b (K : Value → Mem → Prop) (J2 : List Value → List (List Value) → Mem → Prop) (R1 : List Value → List (List Value) → Mem → Prop) (v6 v8 : Value) (c3 c5 : List Value) (σ : Mem) : Prop :=
xF fMove [v8] fun v35 =>
xF fMove [v6] fun v36 =>
s_mem_Mem_Len [v36] (fun v37 σ =>
xF (fBin .lss .no) [v35, v37] fun v38 =>
xIf v38
 (xO (gLoad 7 true [(locP 5)] c5) fun v42 =>
xF fMove [v8] fun v43 =>
s_ref04_Kind [v42, v43] (fun v44 σ =>
xF fMove [v44] fun v41 =>
xF (fExt 0) [v41] fun v45 =>
xF (fExt 1) [v41] fun v46 =>
xF (fExt 2) [v41] fun v47 =>
xF fMove [v45] fun v9 =>
xF fMove [v46] fun v10 =>
xF fMove [v47] fun v11 =>
xF fMove [(.int .u64 0)] fun v12 =>
xJoin (w_law04_LayoutFresh_j3 K J2 R1) fun J3 =>
xF fMove [v9] fun v48 =>
xF (fBin .eql .no) [v48, (.int .i64 1)] fun v50 =>
xF fMove [v50] fun v49 =>
xIf v49
 (xF fMove [(.int .u64 1)] fun v12 =>
J3 [v6, v8, v12] [c3, c5] σ)
 (xF (fBin .eql .no) [v48, (.int .i64 4)] fun v52 =>
xF fMove [v52] fun v51 =>
xIf v51
 (xF (fBuild [(0, 1), (1, 1), (2, 1), (3, 1)] [(.int .i64 0), (.int .i64 0), (.int .i64 0), (.int .i64 0)] [2]) [(.int .i64 1)] fun v53 =>
s_ref01_Slot [v53] (fun v54 σ =>
xF fMove [v54] fun v12 =>
J3 [v6, v8, v12] [c3, c5] σ) σ)
 (xF (fBin .eql .no) [v48, (.int .i64 5)] fun v56 =>
xF fMove [v56] fun v55 =>
xIf v55
 (xF fMove [v10] fun v57 =>
xF (fBin .add .no) [v57, (.int .i64 2)] fun v58 =>
xF (fConv .u64) [v58] fun v59 =>
xF fMove [v59] fun v12 =>
xF fMove [v10] fun v60 =>
xF (fFld 1) [(locP 5)] fun v61 =>
xO (gLoad 1 false [v61] c5) fun v62 =>
xF (fBin .sub .no) [v62, (.int .i64 1)] fun v63 =>
xF (fBin .eql .no) [v60, v63] fun v64 =>
xIf v64
 (xF fMove [(.int .u64 0)] fun v12 =>
J3 [v6, v8, v12] [c3, c5] σ)
 (J3 [v6, v8, v12] [c3, c5] σ))
 (J3 [v6, v8, v12] [c3, c5] σ)))) σ)
 (J2 [] [c3] σ)) σ

def w_law04_LayoutFresh_l7 (K : Value → Mem → Prop) (J2 : List Value → List (List Value) → Mem → Prop) (R1 : List Value → List (List Value) → Mem → Prop) (ts : List Value) (ls : List (List Value)) (σ : Mem) : Prop := w_law04_LayoutFresh_l7b K J2 R1 (ts.getD 0 poison) (ts.getD 1 poison) (ls.getD 0 []) (ls.getD 1 []) σ

def w_law04_LayoutFresh_j1b (K : Value → Mem → Prop) (v6 v34 : Value) (c3 c5 : List Value) (σ : Mem) : Prop :=
xIf v34
 (xF fMove [(.bool false)] fun v4 =>
K v4 σ)
 (xJoin (w_law04_LayoutFresh_j2 K) fun J2 =>
xF fMove [(.int .i64 0)] fun v8 =>
xLoop (w_law04_LayoutFresh_l7 K J2) [v6, v8] [c3, c5] σ)

def w_law04_LayoutFresh_j1 (K : Value → Mem → Prop) (ts : List Value) (ls : List (List Value)) (σ : Mem) : Prop := w_law04_LayoutFresh_j1b K (ts.getD 0 poison) (ts.getD 1 poison) (ls.getD 0 []) (ls.getD 1 []) σ

def w_law04_LayoutFresh (a0 a1 : Value) (K : Value → Mem → Prop) (σ : Mem) : Prop :=
xC (gBox 7 [a0] []) fun c2 =>
xC (gBox 7 [a1] []) fun c3 =>
xF fMove [(.bool false)] fun v4 =>
xO (gLoad 7 true [(locP 2)] c2) fun v15 =>
s_law04_Config [v15] (fun v16 σ =>
xC (gStore 7 [(locP 5), v16] [(.int .i64 0), (.int .i64 0), (.int .i64 0), (.int .i64 0), (.int .i64 0), (.int .i64 0), (.int .i64 0)]) fun c5 =>
xO (gLoad 7 true [(locP 5)] c5) fun v18 =>
s_layout_Fresh [v18] (fun v19 σ =>
xF fMove [v19] fun v17 =>
xF (fExt 0) [v17] fun v20 =>
xF (fExt 1) [v17] fun v21 =>
xF fMove [v20] fun v6 =>
xF fMove [v21] fun v7 =>
xJoin (w_law04_LayoutFresh_j1 K) fun J1 =>
s_law04_awake [] (fun v22 σ =>
xF (fUn .not) [v22] fun v23 =>
xF fMove [v23] fun v24 =>
xIf v24
 (xF fPick [(.bool true), (.bool true), undef] fun v27 =>
xF fMove [v27] fun v28 =>
xIf v28
 (xF fPick [(.bool true), (.bool true), undef] fun v34 =>
J1 [v6, v34] [c3, c5] σ)
 (xF fMove [v6] fun v29 =>
s_mem_Mem_Len [v29] (fun v30 σ =>
xO (gLoad 7 true [(locP 5)] c5) fun v31 =>
s_layout_Len [v31] (fun v32 σ =>
xF (fBin .neq .no) [v30, v32] fun v33 =>
xF fPick [(.bool false), (.bool true), v33] fun v34 =>
J1 [v6, v34] [c3, c5] σ) σ) σ))
 (xF fMove [v7] fun v25 =>
xF (fBin .neq .no) [v25, (.int .i64 0)] fun v26 =>
xF fPick [(.bool false), (.bool true), v26] fun v27 =>
xF fMove [v27] fun v28 =>
xIf v28
 (xF fPick [(.bool true), (.bool true), undef] fun v34 =>
J1 [v6, v34] [c3, c5] σ)
 (xF fMove [v6] fun v29 =>
s_mem_Mem_Len [v29] (fun v30 σ =>
xO (gLoad 7 true [(locP 5)] c5) fun v31 =>
s_layout_Len [v31] (fun v32 σ =>
xF (fBin .neq .no) [v30, v32] fun v33 =>
xF fPick [(.bool false), (.bool true), v33] fun v34 =>
J1 [v6, v34] [c3, c5] σ) σ) σ))) σ) σ) σ

def s_law04_LayoutFresh : Spec := fun args K σ => match args with
  | [a0, a1] => w_law04_LayoutFresh a0 a1 K σ
  | _ => False

noncomputable def cx_law04_LayoutFresh : Cx := { P := Try.prog, T := [(21, .none, s_law04_Config), (22, .write, s_layout_Fresh), (14, .none, s_law04_awake), (23, .read, s_mem_Mem_Len), (24, .none, s_layout_Len), (25, .write, s_ref04_Kind), (26, .write, s_ref01_Slot), (27, .read, s_mem_Mem_Peek), (16, .write, s_ref04_Check)], loc := [(2, 2), (3, 3), (5, 5), (61, 5)], eqt := [(29, .ptr)], n := 83, keep := [(7, [6, 8], [3, 5]), (1000005, [6, 34], [3, 5]), (1000020, [6, 8, 12], [3, 5]), (1000022, [], [3])] }
theorem q_law04_LayoutFresh : FnS cx_law04_LayoutFresh Try.f5 (bodyOf Try.f5) 2 = s_law04_LayoutFresh := by
  funext args K σ
  rcases args with _ | ⟨a0, _ | ⟨a1, _ | ⟨b, r⟩⟩⟩ <;> kernel_rfl
theorem e_law04_LayoutFresh : Entry Try.prog 5 .write s_law04_LayoutFresh :=
  entry (C := cx_law04_LayoutFresh) (TOk.cons e_law04_Config (TOk.cons e_layout_Fresh (TOk.cons e_law04_awake (TOk.cons e_mem_Mem_Len (TOk.cons e_layout_Len (TOk.cons e_ref04_Kind (TOk.cons e_ref01_Slot (TOk.cons e_mem_Mem_Peek (TOk.cons e_ref04_Check TOk.nil))))))))) mixedOk Try.func5 (by kernel_rfl) (by kernel_rfl) (by kernel_rfl) q_law04_LayoutFresh

def xl_law04_LayoutFresh : List (Nat × Nat) := [(2, 2), (3, 3), (5, 5), (61, 5)]
noncomputable def xc_law04_LayoutFresh : XC XN :=
(.seq none
 (.reg [⟨none, some 2, [(.tmp 0)], ⟨.lb 2 7, rAny xl_law04_LayoutFresh (.lb 2 7)⟩⟩,
  ⟨none, some 3, [(.tmp 1)], ⟨.lb 3 7, rAny xl_law04_LayoutFresh (.lb 3 7)⟩⟩,
  ⟨none, some 4, [(.const (.bool false))], ⟨.f fMove, rMove⟩⟩])
 (.seq none
 (.reg [⟨none, some 15, [(.tmp 2)], ⟨.lr 2 7 true, rAny xl_law04_LayoutFresh (.lr 2 7 true)⟩⟩,
  ⟨none, some 16, [(.tmp 15)], ⟨.call .none s_law04_Config v_law04_Config, rCall v_law04_Config⟩⟩,
  ⟨none, some 5, [], ⟨.la 5 [(.int .i64 0), (.int .i64 0), (.int .i64 0), (.int .i64 0), (.int .i64 0), (.int .i64 0), (.int .i64 0)], rAny xl_law04_LayoutFresh (.la 5 [(.int .i64 0), (.int .i64 0), (.int .i64 0), (.int .i64 0), (.int .i64 0), (.int .i64 0), (.int .i64 0)])⟩⟩,
  ⟨none, none, [(.tmp 5), (.tmp 16)], ⟨.ls 5 7, rAny xl_law04_LayoutFresh (.ls 5 7)⟩⟩])
 (.seq none
 (.reg [⟨none, some 18, [(.tmp 5)], ⟨.lr 5 7 true, rAny xl_law04_LayoutFresh (.lr 5 7 true)⟩⟩,
  ⟨none, some 19, [(.tmp 18)], ⟨.call .write s_layout_Fresh v_layout_Fresh, rCall v_layout_Fresh⟩⟩,
  ⟨none, some 17, [(.tmp 19)], ⟨.f fMove, rMove⟩⟩,
  ⟨none, some 20, [(.tmp 17)], ⟨.f (fExt 0), rAny xl_law04_LayoutFresh (.f (fExt 0))⟩⟩,
  ⟨none, some 21, [(.tmp 17)], ⟨.f (fExt 1), rAny xl_law04_LayoutFresh (.f (fExt 1))⟩⟩,
  ⟨none, some 6, [(.tmp 20)], ⟨.f fMove, rMove⟩⟩,
  ⟨none, some 7, [(.tmp 21)], ⟨.f fMove, rMove⟩⟩])
 (.seq none
 (.seq (some ([6, 34], [3, 5]))
 (.reg [⟨none, some 22, [], ⟨.call .none s_law04_awake v_law04_awake, rCall v_law04_awake⟩⟩,
  ⟨none, some 23, [(.tmp 22)], ⟨.f (fUn .not), rNot⟩⟩,
  ⟨none, some 24, [(.tmp 23)], ⟨.f fMove, rMove⟩⟩,
  ⟨(some (3, 2, false, some 24)), some 25, [(.tmp 7)], ⟨.f fMove, rMove⟩⟩,
  ⟨(some (4, 2, false, some 24)), some 26, [(.tmp 25), (.const (.int .i64 0))], ⟨.f (fBin .neq .no), rNeq⟩⟩,
  ⟨none, some 27, [(.tmp 24), (.const (.bool true)), (.tmp 26)], ⟨.f fPick, rPick⟩⟩,
  ⟨none, some 28, [(.tmp 27)], ⟨.f fMove, rMove⟩⟩,
  ⟨(some (7, 6, false, some 28)), some 29, [(.tmp 6)], ⟨.f fMove, rMove⟩⟩,
  ⟨(some (8, 6, false, some 28)), some 30, [(.tmp 29)], ⟨.call .read s_mem_Mem_Len v_mem_Mem_Len, rCall v_mem_Mem_Len⟩⟩,
  ⟨(some (9, 6, false, some 28)), some 31, [(.tmp 5)], ⟨.lr 5 7 true, rAny xl_law04_LayoutFresh (.lr 5 7 true)⟩⟩,
  ⟨(some (10, 6, false, some 28)), some 32, [(.tmp 31)], ⟨.call .none s_layout_Len v_layout_Len, rCall v_layout_Len⟩⟩,
  ⟨(some (11, 6, false, some 28)), some 33, [(.tmp 30), (.tmp 32)], ⟨.f (fBin .neq .no), rNeq⟩⟩,
  ⟨none, some 34, [(.tmp 28), (.const (.bool true)), (.tmp 33)], ⟨.f fPick, rPick⟩⟩])
 (.cond (.tmp 34)
 (.seq none
 (.reg [⟨none, some 4, [(.const (.bool false))], ⟨.f fMove, rMove⟩⟩])
 .ret)
 .skip))
 (.seq (some ([], [3]))
 (.seq none
 (.reg [⟨none, some 8, [(.const (.int .i64 0))], ⟨.f fMove, rMove⟩⟩])
 (.block 0
 (.loop ([6, 8], [3, 5])
 (.seq none
 (.seq none
 (.reg [⟨none, some 35, [(.tmp 8)], ⟨.f fMove, rMove⟩⟩,
  ⟨none, some 36, [(.tmp 6)], ⟨.f fMove, rMove⟩⟩,
  ⟨none, some 37, [(.tmp 36)], ⟨.call .read s_mem_Mem_Len v_mem_Mem_Len, rCall v_mem_Mem_Len⟩⟩,
  ⟨none, some 38, [(.tmp 35), (.tmp 37)], ⟨.f (fBin .lss .no), rLss⟩⟩])
 (.cond (.tmp 38)
 .skip
 (.exit 0)))
 (.seq none
 (.block 1
 (.seq none
 (.reg [⟨none, some 42, [(.tmp 5)], ⟨.lr 5 7 true, rAny xl_law04_LayoutFresh (.lr 5 7 true)⟩⟩,
  ⟨none, some 43, [(.tmp 8)], ⟨.f fMove, rMove⟩⟩,
  ⟨none, some 44, [(.tmp 42), (.tmp 43)], ⟨.call .write s_ref04_Kind v_ref04_Kind, rCall v_ref04_Kind⟩⟩,
  ⟨none, some 41, [(.tmp 44)], ⟨.f fMove, rMove⟩⟩,
  ⟨none, some 45, [(.tmp 41)], ⟨.f (fExt 0), rAny xl_law04_LayoutFresh (.f (fExt 0))⟩⟩,
  ⟨none, some 46, [(.tmp 41)], ⟨.f (fExt 1), rAny xl_law04_LayoutFresh (.f (fExt 1))⟩⟩,
  ⟨none, some 47, [(.tmp 41)], ⟨.f (fExt 2), rAny xl_law04_LayoutFresh (.f (fExt 2))⟩⟩,
  ⟨none, some 9, [(.tmp 45)], ⟨.f fMove, rMove⟩⟩,
  ⟨none, some 10, [(.tmp 46)], ⟨.f fMove, rMove⟩⟩,
  ⟨none, some 11, [(.tmp 47)], ⟨.f fMove, rMove⟩⟩])
 (.seq none
 (.reg [⟨none, some 12, [(.const (.int .u64 0))], ⟨.f fMove, rMove⟩⟩])
 (.seq (some ([6, 8, 12], [3, 5]))
 (.seq none
 (.reg [⟨none, some 48, [(.tmp 9)], ⟨.f fMove, rMove⟩⟩])
 (.block 2
 (.seq none
 (.reg [⟨none, some 50, [(.tmp 48), (.const (.int .i64 1))], ⟨.f (fBin .eql .no), rEql⟩⟩,
  ⟨none, some 49, [(.tmp 50)], ⟨.f fMove, rMove⟩⟩])
 (.cond (.tmp 49)
 (.reg [⟨none, some 12, [(.const (.int .u64 1))], ⟨.f fMove, rMove⟩⟩])
 (.seq none
 (.reg [⟨none, some 52, [(.tmp 48), (.const (.int .i64 4))], ⟨.f (fBin .eql .no), rEql⟩⟩,
  ⟨none, some 51, [(.tmp 52)], ⟨.f fMove, rMove⟩⟩])
 (.cond (.tmp 51)
 (.reg [⟨none, some 53, [(.const (.int .i64 1))], ⟨.f (fBuild [(0, 1), (1, 1), (2, 1), (3, 1)] [(.int .i64 0), (.int .i64 0), (.int .i64 0), (.int .i64 0)] [2]), rAny xl_law04_LayoutFresh (.f (fBuild [(0, 1), (1, 1), (2, 1), (3, 1)] [(.int .i64 0), (.int .i64 0), (.int .i64 0), (.int .i64 0)] [2]))⟩⟩,
  ⟨none, some 54, [(.tmp 53)], ⟨.call .write s_ref01_Slot v_ref01_Slot, rCall v_ref01_Slot⟩⟩,
  ⟨none, some 12, [(.tmp 54)], ⟨.f fMove, rMove⟩⟩])
 (.seq none
 (.reg [⟨none, some 56, [(.tmp 48), (.const (.int .i64 5))], ⟨.f (fBin .eql .no), rEql⟩⟩,
  ⟨none, some 55, [(.tmp 56)], ⟨.f fMove, rMove⟩⟩])
 (.cond (.tmp 55)
 (.seq none
 (.reg [⟨none, some 57, [(.tmp 10)], ⟨.f fMove, rMove⟩⟩,
  ⟨none, some 58, [(.tmp 57), (.const (.int .i64 2))], ⟨.f (fBin .add .no), rAdd⟩⟩,
  ⟨none, some 59, [(.tmp 58)], ⟨.f (fConv .u64), rConv .u64⟩⟩,
  ⟨none, some 12, [(.tmp 59)], ⟨.f fMove, rMove⟩⟩])
 (.seq none
 (.reg [⟨none, some 60, [(.tmp 10)], ⟨.f fMove, rMove⟩⟩,
  ⟨none, some 61, [(.tmp 5)], ⟨.f (fFld 1), rFld 1⟩⟩,
  ⟨none, some 62, [(.tmp 61)], ⟨.lr 5 1 false, rLr1 5⟩⟩,
  ⟨none, some 63, [(.tmp 62), (.const (.int .i64 1))], ⟨.f (fBin .sub .no), rSub⟩⟩,
  ⟨none, some 64, [(.tmp 60), (.tmp 63)], ⟨.f (fBin .eql .no), rEql⟩⟩])
 (.cond (.tmp 64)
 (.reg [⟨none, some 12, [(.const (.int .u64 0))], ⟨.f fMove, rMove⟩⟩])
 .skip)))
 .skip))))))))
 (.seq none
 (.reg [⟨none, some 65, [(.tmp 6)], ⟨.f fMove, rMove⟩⟩,
  ⟨none, some 66, [(.tmp 8)], ⟨.f fMove, rMove⟩⟩,
  ⟨none, some 67, [(.tmp 65), (.tmp 66)], ⟨.call .read s_mem_Mem_Peek v_mem_Mem_Peek, rCall v_mem_Mem_Peek⟩⟩,
  ⟨none, some 68, [(.tmp 12)], ⟨.f fMove, rMove⟩⟩,
  ⟨none, some 69, [(.tmp 67), (.tmp 68)], ⟨.f (fBin .neq .no), rNeq⟩⟩])
 (.cond (.tmp 69)
 (.seq none
 (.reg [⟨none, some 4, [(.const (.bool false))], ⟨.f fMove, rMove⟩⟩])
 .ret)
 .skip))))))
 (.reg [⟨none, some 39, [(.tmp 8)], ⟨.f fMove, rMove⟩⟩,
  ⟨none, some 40, [(.tmp 39), (.const (.int .i64 1))], ⟨.f (fBin .add .no), rAdd⟩⟩,
  ⟨none, some 8, [(.tmp 40)], ⟨.f fMove, rMove⟩⟩]))))))
 (.seq none
 (.seq none
 (.reg [⟨none, some 70, [(.tmp 3)], ⟨.lr 3 7 true, rAny xl_law04_LayoutFresh (.lr 3 7 true)⟩⟩,
  ⟨none, some 71, [(.tmp 70)], ⟨.call .write s_ref04_Check v_ref04_Check, rCall v_ref04_Check⟩⟩])
 (.cond (.tmp 71)
 (.seq none
 (.reg [⟨none, some 4, [(.const (.bool true))], ⟨.f fMove, rMove⟩⟩])
 .ret)
 .skip))
 (.seq none
 (.reg [⟨none, some 73, [(.tmp 3)], ⟨.lr 3 7 true, rAny xl_law04_LayoutFresh (.lr 3 7 true)⟩⟩,
  ⟨none, some 74, [(.tmp 73)], ⟨.call .write s_layout_Fresh v_layout_Fresh, rCall v_layout_Fresh⟩⟩,
  ⟨none, some 72, [(.tmp 74)], ⟨.f fMove, rMove⟩⟩,
  ⟨none, some 75, [(.tmp 72)], ⟨.f (fExt 0), rAny xl_law04_LayoutFresh (.f (fExt 0))⟩⟩,
  ⟨none, some 76, [(.tmp 72)], ⟨.f (fExt 1), rAny xl_law04_LayoutFresh (.f (fExt 1))⟩⟩,
  ⟨none, some 13, [(.tmp 75)], ⟨.f fMove, rMove⟩⟩,
  ⟨none, some 14, [(.tmp 76)], ⟨.f fMove, rMove⟩⟩])
 (.seq none
 (.reg [⟨none, some 77, [(.tmp 13)], ⟨.f fMove, rMove⟩⟩,
  ⟨none, some 78, [(.tmp 77), (.const (.pointer none))], ⟨.f (fBin .eql .ptr), rAny xl_law04_LayoutFresh (.f (fBin .eql .ptr))⟩⟩,
  ⟨none, some 79, [(.tmp 78)], ⟨.f fMove, rMove⟩⟩,
  ⟨(some (3, 2, true, some 79)), some 80, [(.tmp 14)], ⟨.f fMove, rMove⟩⟩,
  ⟨(some (4, 2, true, some 79)), some 81, [(.tmp 80), (.const (.int .i64 1))], ⟨.f (fBin .eql .no), rEql⟩⟩,
  ⟨none, some 82, [(.tmp 79), (.tmp 81), (.const (.bool false))], ⟨.f fPick, rPick⟩⟩,
  ⟨none, some 4, [(.tmp 82)], ⟨.f fMove, rMove⟩⟩])
 .ret))))))))
noncomputable def v_law04_LayoutFresh : EvF := evFn 2 xc_law04_LayoutFresh [.t 4]
theorem xt_law04_LayoutFresh : toC cx_law04_LayoutFresh (bodyOf Try.f5) = some (xc_law04_LayoutFresh.map XN.sm) := by kernel_rfl
theorem xr_law04_LayoutFresh : toR cx_law04_LayoutFresh Try.f5.results.toList = some [.t 4] := by kernel_rfl
theorem xo_law04_LayoutFresh : xc_law04_LayoutFresh.ok xl_law04_LayoutFresh := ⟨⟨rAny_ok (trivial), rAny_ok (trivial), rMove_ok, trivial⟩, ⟨⟨rAny_ok (trivial), rCall_ok ve_law04_Config, rAny_ok (trivial), rAny_ok (trivial), trivial⟩, ⟨⟨rAny_ok (trivial), rCall_ok ve_layout_Fresh, rMove_ok, rAny_ok (eqv_ext _), rAny_ok (eqv_ext _), rMove_ok, rMove_ok, trivial⟩, ⟨⟨⟨rCall_ok ve_law04_awake, rNot_ok, rMove_ok, rMove_ok, rNeq_ok, rPick_ok, rMove_ok, rMove_ok, rCall_ok ve_mem_Mem_Len, rAny_ok (trivial), rCall_ok ve_layout_Len, rNeq_ok, rPick_ok, trivial⟩, ⟨⟨⟨rMove_ok, trivial⟩, trivial⟩, trivial⟩⟩, ⟨⟨⟨rMove_ok, trivial⟩, ⟨⟨⟨rMove_ok, rMove_ok, rCall_ok ve_mem_Mem_Len, rLss_ok, trivial⟩, ⟨trivial, trivial⟩⟩, ⟨⟨⟨rAny_ok (trivial), rMove_ok, rCall_ok ve_ref04_Kind, rMove_ok, rAny_ok (eqv_ext _), rAny_ok (eqv_ext _), rAny_ok (eqv_ext _), rMove_ok, rMove_ok, rMove_ok, trivial⟩, ⟨⟨rMove_ok, trivial⟩, ⟨⟨⟨rMove_ok, trivial⟩, ⟨⟨rEql_ok, rMove_ok, trivial⟩, ⟨⟨rMove_ok, trivial⟩, ⟨⟨rEql_ok, rMove_ok, trivial⟩, ⟨⟨rAny_ok (eqv_build _ rfl _), rCall_ok ve_ref01_Slot, rMove_ok, trivial⟩, ⟨⟨rEql_ok, rMove_ok, trivial⟩, ⟨⟨⟨rMove_ok, rAdd_ok, rConv_ok _, rMove_ok, trivial⟩, ⟨⟨rMove_ok, rFld_ok _, rLr1_ok _, rSub_ok, rEql_ok, trivial⟩, ⟨⟨rMove_ok, trivial⟩, trivial⟩⟩⟩, trivial⟩⟩⟩⟩⟩⟩⟩, ⟨⟨rMove_ok, rMove_ok, rCall_ok ve_mem_Mem_Peek, rMove_ok, rNeq_ok, trivial⟩, ⟨⟨⟨rMove_ok, trivial⟩, trivial⟩, trivial⟩⟩⟩⟩⟩, ⟨rMove_ok, rAdd_ok, rMove_ok, trivial⟩⟩⟩⟩, ⟨⟨⟨rAny_ok (trivial), rCall_ok ve_ref04_Check, trivial⟩, ⟨⟨⟨rMove_ok, trivial⟩, trivial⟩, trivial⟩⟩, ⟨⟨rAny_ok (trivial), rCall_ok ve_layout_Fresh, rMove_ok, rAny_ok (eqv_ext _), rAny_ok (eqv_ext _), rMove_ok, rMove_ok, trivial⟩, ⟨⟨rMove_ok, rAny_ok (eqv_bin _ _), rMove_ok, rMove_ok, rEql_ok, rPick_ok, rMove_ok, trivial⟩, trivial⟩⟩⟩⟩⟩⟩⟩⟩
theorem ve_law04_LayoutFresh : EvOk s_law04_LayoutFresh v_law04_LayoutFresh := EvOk.of (evFn_sound (C := cx_law04_LayoutFresh) xt_law04_LayoutFresh xr_law04_LayoutFresh xo_law04_LayoutFresh) q_law04_LayoutFresh

attribute [irreducible] w_law04_LayoutFresh_j2b w_law04_LayoutFresh_j2 w_law04_LayoutFresh_j3b w_law04_LayoutFresh_j3 w_law04_LayoutFresh_l7b w_law04_LayoutFresh_l7 w_law04_LayoutFresh_j1b w_law04_LayoutFresh_j1 w_law04_LayoutFresh s_law04_LayoutFresh

/-! ### /layout.Epoch -/
def w_layout_Epoch (K : Value → Mem → Prop) (σ : Mem) : Prop :=
xF fMove [(.int .i64 0)] fun v0 =>
xF fMove [(.int .i64 0)] fun v0 =>
K v0 σ

def s_layout_Epoch : Spec := fun args K σ => match args with
  | [] => w_layout_Epoch  K σ
  | _ => False

noncomputable def cx_layout_Epoch : Cx := { P := Try.prog, T := [], loc := [], eqt := [], n := 1, keep := [] }
theorem q_layout_Epoch : FnS cx_layout_Epoch Try.f28 (bodyOf Try.f28) 0 = s_layout_Epoch := by
  funext args K σ
  rcases args with _ | ⟨b, r⟩ <;> kernel_rfl
theorem e_layout_Epoch : Entry Try.prog 28 .none s_layout_Epoch :=
  entry (C := cx_layout_Epoch) TOk.nil mixedOk Try.func28 (by kernel_rfl) (by kernel_rfl) (by kernel_rfl) q_layout_Epoch

def xl_layout_Epoch : List (Nat × Nat) := []
noncomputable def xc_layout_Epoch : XC XN :=
(.seq none
 (.reg [⟨none, some 0, [(.const (.int .i64 0))], ⟨.f fMove, rMove⟩⟩])
 (.seq none
 (.reg [⟨none, some 0, [(.const (.int .i64 0))], ⟨.f fMove, rMove⟩⟩])
 .ret))
noncomputable def v_layout_Epoch : EvF := evFn 0 xc_layout_Epoch [.t 0]
theorem xt_layout_Epoch : toC cx_layout_Epoch (bodyOf Try.f28) = some (xc_layout_Epoch.map XN.sm) := by kernel_rfl
theorem xr_layout_Epoch : toR cx_layout_Epoch Try.f28.results.toList = some [.t 0] := by kernel_rfl
theorem xo_layout_Epoch : xc_layout_Epoch.ok xl_layout_Epoch := ⟨⟨rMove_ok, trivial⟩, ⟨⟨rMove_ok, trivial⟩, trivial⟩⟩
theorem ve_layout_Epoch : EvOk s_layout_Epoch v_layout_Epoch := EvOk.of (evFn_sound (C := cx_layout_Epoch) xt_layout_Epoch xr_layout_Epoch xo_layout_Epoch) q_layout_Epoch

attribute [irreducible] w_layout_Epoch s_layout_Epoch

/-! ### /layout.Open -/
def w_layout_Open (a0 : Value) (K : Value → Mem → Prop) (σ : Mem) : Prop :=
xF fMove [(.int .i64 0)] fun v2 =>
xF fMove [a0] fun v3 =>
xF (fBin .add .no) [(.int .i64 2), v3] fun v4 =>
xF fMove [v4] fun v2 =>
K v2 σ

def s_layout_Open : Spec := fun args K σ => match args with
  | [a0] => w_layout_Open a0 K σ
  | _ => False

noncomputable def cx_layout_Open : Cx := { P := Try.prog, T := [], loc := [], eqt := [], n := 5, keep := [] }
theorem q_layout_Open : FnS cx_layout_Open Try.f30 (bodyOf Try.f30) 1 = s_layout_Open := by
  funext args K σ
  rcases args with _ | ⟨a0, _ | ⟨b, r⟩⟩ <;> kernel_rfl
theorem e_layout_Open : Entry Try.prog 30 .none s_layout_Open :=
  entry (C := cx_layout_Open) TOk.nil mixedOk Try.func30 (by kernel_rfl) (by kernel_rfl) (by kernel_rfl) q_layout_Open

def xl_layout_Open : List (Nat × Nat) := []
noncomputable def xc_layout_Open : XC XN :=
(.seq none
 (.reg [⟨none, some 2, [(.const (.int .i64 0))], ⟨.f fMove, rMove⟩⟩])
 (.seq none
 (.reg [⟨none, some 3, [(.tmp 0)], ⟨.f fMove, rMove⟩⟩,
  ⟨none, some 4, [(.const (.int .i64 2)), (.tmp 3)], ⟨.f (fBin .add .no), rAdd⟩⟩,
  ⟨none, some 2, [(.tmp 4)], ⟨.f fMove, rMove⟩⟩])
 .ret))
noncomputable def v_layout_Open : EvF := evFn 1 xc_layout_Open [.t 2]
theorem xt_layout_Open : toC cx_layout_Open (bodyOf Try.f30) = some (xc_layout_Open.map XN.sm) := by kernel_rfl
theorem xr_layout_Open : toR cx_layout_Open Try.f30.results.toList = some [.t 2] := by kernel_rfl
theorem xo_layout_Open : xc_layout_Open.ok xl_layout_Open := ⟨⟨rMove_ok, trivial⟩, ⟨⟨rMove_ok, rAdd_ok, rMove_ok, trivial⟩, trivial⟩⟩
theorem ve_layout_Open : EvOk s_layout_Open v_layout_Open := EvOk.of (evFn_sound (C := cx_layout_Open) xt_layout_Open xr_layout_Open xo_layout_Open) q_layout_Open

attribute [irreducible] w_layout_Open s_layout_Open

/-! ### /layout.Pin -/
def w_layout_Pin (a0 : Value) (K : Value → Mem → Prop) (σ : Mem) : Prop :=
xF fMove [(.int .i64 0)] fun v2 =>
xF fMove [a0] fun v3 =>
xF (fBin .add .no) [(.int .i64 6), v3] fun v4 =>
xF fMove [v4] fun v2 =>
K v2 σ

def s_layout_Pin : Spec := fun args K σ => match args with
  | [a0] => w_layout_Pin a0 K σ
  | _ => False

noncomputable def cx_layout_Pin : Cx := { P := Try.prog, T := [], loc := [], eqt := [], n := 5, keep := [] }
theorem q_layout_Pin : FnS cx_layout_Pin Try.f31 (bodyOf Try.f31) 1 = s_layout_Pin := by
  funext args K σ
  rcases args with _ | ⟨a0, _ | ⟨b, r⟩⟩ <;> kernel_rfl
theorem e_layout_Pin : Entry Try.prog 31 .none s_layout_Pin :=
  entry (C := cx_layout_Pin) TOk.nil mixedOk Try.func31 (by kernel_rfl) (by kernel_rfl) (by kernel_rfl) q_layout_Pin

def xl_layout_Pin : List (Nat × Nat) := []
noncomputable def xc_layout_Pin : XC XN :=
(.seq none
 (.reg [⟨none, some 2, [(.const (.int .i64 0))], ⟨.f fMove, rMove⟩⟩])
 (.seq none
 (.reg [⟨none, some 3, [(.tmp 0)], ⟨.f fMove, rMove⟩⟩,
  ⟨none, some 4, [(.const (.int .i64 6)), (.tmp 3)], ⟨.f (fBin .add .no), rAdd⟩⟩,
  ⟨none, some 2, [(.tmp 4)], ⟨.f fMove, rMove⟩⟩])
 .ret))
noncomputable def v_layout_Pin : EvF := evFn 1 xc_layout_Pin [.t 2]
theorem xt_layout_Pin : toC cx_layout_Pin (bodyOf Try.f31) = some (xc_layout_Pin.map XN.sm) := by kernel_rfl
theorem xr_layout_Pin : toR cx_layout_Pin Try.f31.results.toList = some [.t 2] := by kernel_rfl
theorem xo_layout_Pin : xc_layout_Pin.ok xl_layout_Pin := ⟨⟨rMove_ok, trivial⟩, ⟨⟨rMove_ok, rAdd_ok, rMove_ok, trivial⟩, trivial⟩⟩
theorem ve_layout_Pin : EvOk s_layout_Pin v_layout_Pin := EvOk.of (evFn_sound (C := cx_layout_Pin) xt_layout_Pin xr_layout_Pin xo_layout_Pin) q_layout_Pin

attribute [irreducible] w_layout_Pin s_layout_Pin

/-! ### /layout.Chunk -/
def w_layout_Chunk (a0 a1 : Value) (K : Value → Mem → Prop) (σ : Mem) : Prop :=
xC (gBox 7 [a0] []) fun c2 =>
xF fMove [(.int .i64 0)] fun v4 =>
xF (fFld 0) [(locP 2)] fun v5 =>
xO (gLoad 1 false [v5] c2) fun v6 =>
xF (fBin .add .no) [(.int .i64 6), v6] fun v7 =>
xF (fFld 1) [(locP 2)] fun v8 =>
xO (gLoad 1 false [v8] c2) fun v9 =>
xF (fBin .mul .no) [(.int .i64 2), v9] fun v10 =>
xF (fBin .add .no) [v7, v10] fun v11 =>
xF fMove [a1] fun v12 =>
xF (fBin .mul .no) [(.int .i64 3), v12] fun v13 =>
xF (fBin .add .no) [v11, v13] fun v14 =>
xF fMove [v14] fun v4 =>
K v4 σ

def s_layout_Chunk : Spec := fun args K σ => match args with
  | [a0, a1] => w_layout_Chunk a0 a1 K σ
  | _ => False

noncomputable def cx_layout_Chunk : Cx := { P := Try.prog, T := [], loc := [(2, 2), (5, 2), (8, 2)], eqt := [], n := 15, keep := [] }
theorem q_layout_Chunk : FnS cx_layout_Chunk Try.f33 (bodyOf Try.f33) 2 = s_layout_Chunk := by
  funext args K σ
  rcases args with _ | ⟨a0, _ | ⟨a1, _ | ⟨b, r⟩⟩⟩ <;> kernel_rfl
theorem e_layout_Chunk : Entry Try.prog 33 .none s_layout_Chunk :=
  entry (C := cx_layout_Chunk) TOk.nil mixedOk Try.func33 (by kernel_rfl) (by kernel_rfl) (by kernel_rfl) q_layout_Chunk

def xl_layout_Chunk : List (Nat × Nat) := [(2, 2), (5, 2), (8, 2)]
noncomputable def xc_layout_Chunk : XC XN :=
(.seq none
 (.reg [⟨none, some 2, [(.tmp 0)], ⟨.lb 2 7, rAny xl_layout_Chunk (.lb 2 7)⟩⟩,
  ⟨none, some 4, [(.const (.int .i64 0))], ⟨.f fMove, rMove⟩⟩])
 (.seq none
 (.reg [⟨none, some 5, [(.tmp 2)], ⟨.f (fFld 0), rFld 0⟩⟩,
  ⟨none, some 6, [(.tmp 5)], ⟨.lr 2 1 false, rLr1 2⟩⟩,
  ⟨none, some 7, [(.const (.int .i64 6)), (.tmp 6)], ⟨.f (fBin .add .no), rAdd⟩⟩,
  ⟨none, some 8, [(.tmp 2)], ⟨.f (fFld 1), rFld 1⟩⟩,
  ⟨none, some 9, [(.tmp 8)], ⟨.lr 2 1 false, rLr1 2⟩⟩,
  ⟨none, some 10, [(.const (.int .i64 2)), (.tmp 9)], ⟨.f (fBin .mul .no), rMul⟩⟩,
  ⟨none, some 11, [(.tmp 7), (.tmp 10)], ⟨.f (fBin .add .no), rAdd⟩⟩,
  ⟨none, some 12, [(.tmp 1)], ⟨.f fMove, rMove⟩⟩,
  ⟨none, some 13, [(.const (.int .i64 3)), (.tmp 12)], ⟨.f (fBin .mul .no), rMul⟩⟩,
  ⟨none, some 14, [(.tmp 11), (.tmp 13)], ⟨.f (fBin .add .no), rAdd⟩⟩,
  ⟨none, some 4, [(.tmp 14)], ⟨.f fMove, rMove⟩⟩])
 .ret))
noncomputable def v_layout_Chunk : EvF := evFn 2 xc_layout_Chunk [.t 4]
theorem xt_layout_Chunk : toC cx_layout_Chunk (bodyOf Try.f33) = some (xc_layout_Chunk.map XN.sm) := by kernel_rfl
theorem xr_layout_Chunk : toR cx_layout_Chunk Try.f33.results.toList = some [.t 4] := by kernel_rfl
theorem xo_layout_Chunk : xc_layout_Chunk.ok xl_layout_Chunk := ⟨⟨rAny_ok (trivial), rMove_ok, trivial⟩, ⟨⟨rFld_ok _, rLr1_ok _, rAdd_ok, rFld_ok _, rLr1_ok _, rMul_ok, rAdd_ok, rMove_ok, rMul_ok, rAdd_ok, rMove_ok, trivial⟩, trivial⟩⟩
theorem ve_layout_Chunk : EvOk s_layout_Chunk v_layout_Chunk := EvOk.of (evFn_sound (C := cx_layout_Chunk) xt_layout_Chunk xr_layout_Chunk xo_layout_Chunk) q_layout_Chunk

attribute [irreducible] w_layout_Chunk s_layout_Chunk

/-! ### /law04.LayoutPlaces -/
def w_law04_LayoutPlaces_j2b (K : Value → Mem → Prop) (v4 : Value) (c3 : List Value) (σ : Mem) : Prop :=
xO (gLoad 7 true [(locP 3)] c3) fun v93 =>
xF fMove [v4] fun v94 =>
s_ref04_Kind [v93, v94] (fun v95 σ =>
xF fMove [v95] fun v92 =>
xF (fExt 0) [v92] fun v96 =>
xF (fExt 1) [v92] fun v97 =>
xF (fExt 2) [v92] fun v98 =>
xF fMove [v96] fun v10 =>
xF fMove [v97] fun v11 =>
xF fMove [v98] fun v12 =>
xF fMove [v10] fun v99 =>
xF (fBin .eql .no) [v99, (.int .i64 (-1))] fun v100 =>
xF fMove [v100] fun v2 =>
K v2 σ) σ

def w_law04_LayoutPlaces_j2 (K : Value → Mem → Prop) (ts : List Value) (ls : List (List Value)) (σ : Mem) : Prop := w_law04_LayoutPlaces_j2b K (ts.getD 0 poison) (ls.getD 0 []) σ

def w_law04_LayoutPlaces_j3b (K : Value → Mem → Prop) (J2 : List Value → List (List Value) → Mem → Prop) (R1 : List Value → List (List Value) → Mem → Prop) (v4 v5 v9 : Value) (c3 : List Value) (σ : Mem) : Prop :=
xF fMove [v9] fun v89 =>
xF fMove [v5] fun v90 =>
xF (fBin .neq .no) [v89, v90] fun v91 =>
xIf v91
 (xF fMove [(.bool false)] fun v2 =>
K v2 σ)
 (xF fMove [v5] fun v30 =>
xF (fBin .add .no) [v30, (.int .i64 1)] fun v31 =>
xF fMove [v31] fun v5 =>
R1 [v4, v5] [c3] σ)

def w_law04_LayoutPlaces_j3 (K : Value → Mem → Prop) (J2 : List Value → List (List Value) → Mem → Prop) (R1 : List Value → List (List Value) → Mem → Prop) (ts : List Value) (ls : List (List Value)) (σ : Mem) : Prop := w_law04_LayoutPlaces_j3b K J2 R1 (ts.getD 0 poison) (ts.getD 1 poison) (ts.getD 2 poison) (ls.getD 0 []) σ

def w_law04_LayoutPlaces_l7b (K : Value → Mem → Prop) (J2 : List Value → List (List Value) → Mem → Prop) (R1 : List Value → List (List Value) → Mem → Prop) (v4 v5 : Value) (c3 : List Value) (σ : Mem) : Prop :=
xF fMove [v5] fun v27 =>
xF fMove [v4] fun v28 =>
xF (fBin .lss .no) [v27, v28] fun v29 =>
xIf v29
 (xO (gLoad 7 true [(locP 3)] c3) fun v33 =>
xF fMove [v5] fun v34 =>
s_ref04_Kind [v33, v34] (fun v35 σ =>
xF fMove [v35] fun v32 =>
xF (fExt 0) [v32] fun v36 =>
xF (fExt 1) [v32] fun v37 =>
xF (fExt 2) [v32] fun v38 =>
xF fMove [v36] fun v6 =>
xF fMove [v37] fun v7 =>
xF fMove [v38] fun v8 =>
xF fMove [(.int .i64 (-1))] fun v9 =>
xJoin (w_law04_LayoutPlaces_j3 K J2 R1) fun J3 =>
xF fMove [v6] fun v39 =>
xF (fBin .eql .no) [v39, (.int .i64 0)] fun v41 =>
xF fMove [v41] fun v40 =>
xIf v40
 (s_layout_Epoch [] (fun v42 σ =>
xF fMove [v42] fun v9 =>
J3 [v4, v5, v9] [c3] σ) σ)
 (xF (fBin .eql .no) [v39, (.int .i64 1)] fun v44 =>
xF fMove [v44] fun v43 =>
xIf v43
 (s_layout_Top [] (fun v45 σ =>
xF fMove [v45] fun v9 =>
J3 [v4, v5, v9] [c3] σ) σ)
 (xF (fBin .eql .no) [v39, (.int .i64 2)] fun v47 =>
xF fMove [v47] fun v46 =>
xIf v46
 (xF fMove [v7] fun v48 =>
s_layout_Open [v48] (fun v49 σ =>
xF fMove [v49] fun v9 =>
J3 [v4, v5, v9] [c3] σ) σ)
 (xF (fBin .eql .no) [v39, (.int .i64 3)] fun v51 =>
xF fMove [v51] fun v50 =>
xIf v50
 (xF fMove [v7] fun v52 =>
s_layout_Pin [v52] (fun v53 σ =>
xF fMove [v53] fun v9 =>
J3 [v4, v5, v9] [c3] σ) σ)
 (xF (fBin .eql .no) [v39, (.int .i64 4)] fun v55 =>
xF fMove [v55] fun v54 =>
xIf v54
 (xO (gLoad 7 true [(locP 3)] c3) fun v56 =>
xF fMove [v7] fun v57 =>
s_layout_Slot [v56, v57] (fun v58 σ =>
xF fMove [v58] fun v9 =>
J3 [v4, v5, v9] [c3] σ) σ)
 (xF (fBin .eql .no) [v39, (.int .i64 5)] fun v60 =>
xF fMove [v60] fun v59 =>
xIf v59
 (xO (gLoad 7 true [(locP 3)] c3) fun v61 =>
xF fMove [v7] fun v62 =>
s_layout_Slot [v61, v62] (fun v63 σ =>
xF (fBin .add .no) [v63, (.int .i64 1)] fun v64 =>
xF fMove [v64] fun v9 =>
J3 [v4, v5, v9] [c3] σ) σ)
 (xF (fBin .eql .no) [v39, (.int .i64 6)] fun v66 =>
xF fMove [v66] fun v65 =>
xIf v65
 (xO (gLoad 7 true [(locP 3)] c3) fun v67 =>
xF fMove [v7] fun v68 =>
s_layout_Chunk [v67, v68] (fun v69 σ =>
xF fMove [v69] fun v9 =>
J3 [v4, v5, v9] [c3] σ) σ)
 (xF (fBin .eql .no) [v39, (.int .i64 7)] fun v71 =>
xF fMove [v71] fun v70 =>
xIf v70
 (xO (gLoad 7 true [(locP 3)] c3) fun v72 =>
xF fMove [v7] fun v73 =>
s_layout_Chunk [v72, v73] (fun v74 σ =>
xF (fBin .add .no) [v74, (.int .i64 1)] fun v75 =>
xF fMove [v75] fun v9 =>
J3 [v4, v5, v9] [c3] σ) σ)
 (xF (fBin .eql .no) [v39, (.int .i64 8)] fun v77 =>
xF fMove [v77] fun v76 =>
xIf v76
 (xO (gLoad 7 true [(locP 3)] c3) fun v78 =>
xF fMove [v7] fun v79 =>
s_layout_Chunk [v78, v79] (fun v80 σ =>
xF (fBin .add .no) [v80, (.int .i64 2)] fun v81 =>
xF fMove [v81] fun v9 =>
J3 [v4, v5, v9] [c3] σ) σ)
 (xF (fBin .eql .no) [v39, (.int .i64 9)] fun v83 =>
xF fMove [v83] fun v82 =>
xIf v82
 (xO (gLoad 7 true [(locP 3)] c3) fun v84 =>
xF fMove [v7] fun v85 =>
s_layout_Base [v84, v85] (fun v86 σ =>
xF fMove [v8] fun v87 =>
xF (fBin .add .no) [v86, v87] fun v88 =>
xF fMove [v88] fun v9 =>
J3 [v4, v5, v9] [c3] σ) σ)
 (J3 [v4, v5, v9] [c3] σ))))))))))) σ)
 (J2 [v4] [c3] σ)

def w_law04_LayoutPlaces_l7 (K : Value → Mem → Prop) (J2 : List Value → List (List Value) → Mem → Prop) (R1 : List Value → List (List Value) → Mem → Prop) (ts : List Value) (ls : List (List Value)) (σ : Mem) : Prop := w_law04_LayoutPlaces_l7b K J2 R1 (ts.getD 0 poison) (ts.getD 1 poison) (ls.getD 0 []) σ

def w_law04_LayoutPlaces_j1b (K : Value → Mem → Prop) (v4 v26 : Value) (c3 : List Value) (σ : Mem) : Prop :=
xIf v26
 (xF fMove [(.bool false)] fun v2 =>
K v2 σ)
 (xJoin (w_law04_LayoutPlaces_j2 K) fun J2 =>
xF fMove [(.int .i64 0)] fun v5 =>
xLoop (w_law04_LayoutPlaces_l7 K J2) [v4, v5] [c3] σ)

def w_law04_LayoutPlaces_j1 (K : Value → Mem → Prop) (ts : List Value) (ls : List (List Value)) (σ : Mem) : Prop := w_law04_LayoutPlaces_j1b K (ts.getD 0 poison) (ts.getD 1 poison) (ls.getD 0 []) σ

def w_law04_LayoutPlaces (a0 : Value) (K : Value → Mem → Prop) (σ : Mem) : Prop :=
xC (gBox 7 [a0] []) fun c1 =>
xF fMove [(.bool false)] fun v2 =>
xO (gLoad 7 true [(locP 1)] c1) fun v13 =>
s_law04_Config [v13] (fun v14 σ =>
xC (gStore 7 [(locP 3), v14] [(.int .i64 0), (.int .i64 0), (.int .i64 0), (.int .i64 0), (.int .i64 0), (.int .i64 0), (.int .i64 0)]) fun c3 =>
xO (gLoad 7 true [(locP 3)] c3) fun v15 =>
s_layout_Len [v15] (fun v16 σ =>
xF fMove [v16] fun v4 =>
xJoin (w_law04_LayoutPlaces_j1 K) fun J1 =>
s_law04_awake [] (fun v17 σ =>
xF (fUn .not) [v17] fun v18 =>
xF fMove [v18] fun v19 =>
xIf v19
 (xF fPick [(.bool true), (.bool true), undef] fun v22 =>
xF fMove [v22] fun v23 =>
xIf v23
 (xF fPick [(.bool true), (.bool true), undef] fun v26 =>
J1 [v4, v26] [c3] σ)
 (xF fMove [v4] fun v24 =>
xF (fBin .gtr .no) [v24, (.int .i64 4000)] fun v25 =>
xF fPick [(.bool false), (.bool true), v25] fun v26 =>
J1 [v4, v26] [c3] σ))
 (xF fMove [v4] fun v20 =>
xF (fBin .lss .no) [v20, (.int .i64 1)] fun v21 =>
xF fPick [(.bool false), (.bool true), v21] fun v22 =>
xF fMove [v22] fun v23 =>
xIf v23
 (xF fPick [(.bool true), (.bool true), undef] fun v26 =>
J1 [v4, v26] [c3] σ)
 (xF fMove [v4] fun v24 =>
xF (fBin .gtr .no) [v24, (.int .i64 4000)] fun v25 =>
xF fPick [(.bool false), (.bool true), v25] fun v26 =>
J1 [v4, v26] [c3] σ))) σ) σ) σ

def s_law04_LayoutPlaces : Spec := fun args K σ => match args with
  | [a0] => w_law04_LayoutPlaces a0 K σ
  | _ => False

noncomputable def cx_law04_LayoutPlaces : Cx := { P := Try.prog, T := [(21, .none, s_law04_Config), (24, .none, s_layout_Len), (14, .none, s_law04_awake), (25, .write, s_ref04_Kind), (28, .none, s_layout_Epoch), (29, .none, s_layout_Top), (30, .none, s_layout_Open), (31, .none, s_layout_Pin), (32, .none, s_layout_Slot), (33, .none, s_layout_Chunk), (34, .none, s_layout_Base)], loc := [(1, 1), (3, 3)], eqt := [], n := 101, keep := [(7, [4, 5], [3]), (1000005, [4, 26], [3]), (1000032, [4, 5, 9], [3]), (1000034, [4], [3])] }
theorem q_law04_LayoutPlaces : FnS cx_law04_LayoutPlaces Try.f6 (bodyOf Try.f6) 1 = s_law04_LayoutPlaces := by
  funext args K σ
  rcases args with _ | ⟨a0, _ | ⟨b, r⟩⟩ <;> kernel_rfl
theorem e_law04_LayoutPlaces : Entry Try.prog 6 .write s_law04_LayoutPlaces :=
  entry (C := cx_law04_LayoutPlaces) (TOk.cons e_law04_Config (TOk.cons e_layout_Len (TOk.cons e_law04_awake (TOk.cons e_ref04_Kind (TOk.cons e_layout_Epoch (TOk.cons e_layout_Top (TOk.cons e_layout_Open (TOk.cons e_layout_Pin (TOk.cons e_layout_Slot (TOk.cons e_layout_Chunk (TOk.cons e_layout_Base TOk.nil))))))))))) mixedOk Try.func6 (by kernel_rfl) (by kernel_rfl) (by kernel_rfl) q_law04_LayoutPlaces

def xl_law04_LayoutPlaces : List (Nat × Nat) := [(1, 1), (3, 3)]
noncomputable def xc_law04_LayoutPlaces : XC XN :=
(.seq none
 (.reg [⟨none, some 1, [(.tmp 0)], ⟨.lb 1 7, rAny xl_law04_LayoutPlaces (.lb 1 7)⟩⟩,
  ⟨none, some 2, [(.const (.bool false))], ⟨.f fMove, rMove⟩⟩])
 (.seq none
 (.reg [⟨none, some 13, [(.tmp 1)], ⟨.lr 1 7 true, rAny xl_law04_LayoutPlaces (.lr 1 7 true)⟩⟩,
  ⟨none, some 14, [(.tmp 13)], ⟨.call .none s_law04_Config v_law04_Config, rCall v_law04_Config⟩⟩,
  ⟨none, some 3, [], ⟨.la 3 [(.int .i64 0), (.int .i64 0), (.int .i64 0), (.int .i64 0), (.int .i64 0), (.int .i64 0), (.int .i64 0)], rAny xl_law04_LayoutPlaces (.la 3 [(.int .i64 0), (.int .i64 0), (.int .i64 0), (.int .i64 0), (.int .i64 0), (.int .i64 0), (.int .i64 0)])⟩⟩,
  ⟨none, none, [(.tmp 3), (.tmp 14)], ⟨.ls 3 7, rAny xl_law04_LayoutPlaces (.ls 3 7)⟩⟩])
 (.seq none
 (.reg [⟨none, some 15, [(.tmp 3)], ⟨.lr 3 7 true, rAny xl_law04_LayoutPlaces (.lr 3 7 true)⟩⟩,
  ⟨none, some 16, [(.tmp 15)], ⟨.call .none s_layout_Len v_layout_Len, rCall v_layout_Len⟩⟩,
  ⟨none, some 4, [(.tmp 16)], ⟨.f fMove, rMove⟩⟩])
 (.seq none
 (.seq (some ([4, 26], [3]))
 (.reg [⟨none, some 17, [], ⟨.call .none s_law04_awake v_law04_awake, rCall v_law04_awake⟩⟩,
  ⟨none, some 18, [(.tmp 17)], ⟨.f (fUn .not), rNot⟩⟩,
  ⟨none, some 19, [(.tmp 18)], ⟨.f fMove, rMove⟩⟩,
  ⟨(some (3, 2, false, some 19)), some 20, [(.tmp 4)], ⟨.f fMove, rMove⟩⟩,
  ⟨(some (4, 2, false, some 19)), some 21, [(.tmp 20), (.const (.int .i64 1))], ⟨.f (fBin .lss .no), rLss⟩⟩,
  ⟨none, some 22, [(.tmp 19), (.const (.bool true)), (.tmp 21)], ⟨.f fPick, rPick⟩⟩,
  ⟨none, some 23, [(.tmp 22)], ⟨.f fMove, rMove⟩⟩,
  ⟨(some (7, 6, false, some 23)), some 24, [(.tmp 4)], ⟨.f fMove, rMove⟩⟩,
  ⟨(some (8, 6, false, some 23)), some 25, [(.tmp 24), (.const (.int .i64 4000))], ⟨.f (fBin .gtr .no), rGtr⟩⟩,
  ⟨none, some 26, [(.tmp 23), (.const (.bool true)), (.tmp 25)], ⟨.f fPick, rPick⟩⟩])
 (.cond (.tmp 26)
 (.seq none
 (.reg [⟨none, some 2, [(.const (.bool false))], ⟨.f fMove, rMove⟩⟩])
 .ret)
 .skip))
 (.seq (some ([4], [3]))
 (.seq none
 (.reg [⟨none, some 5, [(.const (.int .i64 0))], ⟨.f fMove, rMove⟩⟩])
 (.block 0
 (.loop ([4, 5], [3])
 (.seq none
 (.seq none
 (.reg [⟨none, some 27, [(.tmp 5)], ⟨.f fMove, rMove⟩⟩,
  ⟨none, some 28, [(.tmp 4)], ⟨.f fMove, rMove⟩⟩,
  ⟨none, some 29, [(.tmp 27), (.tmp 28)], ⟨.f (fBin .lss .no), rLss⟩⟩])
 (.cond (.tmp 29)
 .skip
 (.exit 0)))
 (.seq none
 (.block 1
 (.seq none
 (.reg [⟨none, some 33, [(.tmp 3)], ⟨.lr 3 7 true, rAny xl_law04_LayoutPlaces (.lr 3 7 true)⟩⟩,
  ⟨none, some 34, [(.tmp 5)], ⟨.f fMove, rMove⟩⟩,
  ⟨none, some 35, [(.tmp 33), (.tmp 34)], ⟨.call .write s_ref04_Kind v_ref04_Kind, rCall v_ref04_Kind⟩⟩,
  ⟨none, some 32, [(.tmp 35)], ⟨.f fMove, rMove⟩⟩,
  ⟨none, some 36, [(.tmp 32)], ⟨.f (fExt 0), rAny xl_law04_LayoutPlaces (.f (fExt 0))⟩⟩,
  ⟨none, some 37, [(.tmp 32)], ⟨.f (fExt 1), rAny xl_law04_LayoutPlaces (.f (fExt 1))⟩⟩,
  ⟨none, some 38, [(.tmp 32)], ⟨.f (fExt 2), rAny xl_law04_LayoutPlaces (.f (fExt 2))⟩⟩,
  ⟨none, some 6, [(.tmp 36)], ⟨.f fMove, rMove⟩⟩,
  ⟨none, some 7, [(.tmp 37)], ⟨.f fMove, rMove⟩⟩,
  ⟨none, some 8, [(.tmp 38)], ⟨.f fMove, rMove⟩⟩])
 (.seq none
 (.reg [⟨none, some 9, [(.const (.int .i64 (-1)))], ⟨.f fMove, rMove⟩⟩])
 (.seq (some ([4, 5, 9], [3]))
 (.seq none
 (.reg [⟨none, some 39, [(.tmp 6)], ⟨.f fMove, rMove⟩⟩])
 (.block 2
 (.seq none
 (.reg [⟨none, some 41, [(.tmp 39), (.const (.int .i64 0))], ⟨.f (fBin .eql .no), rEql⟩⟩,
  ⟨none, some 40, [(.tmp 41)], ⟨.f fMove, rMove⟩⟩])
 (.cond (.tmp 40)
 (.reg [⟨none, some 42, [], ⟨.call .none s_layout_Epoch v_layout_Epoch, rCall v_layout_Epoch⟩⟩,
  ⟨none, some 9, [(.tmp 42)], ⟨.f fMove, rMove⟩⟩])
 (.seq none
 (.reg [⟨none, some 44, [(.tmp 39), (.const (.int .i64 1))], ⟨.f (fBin .eql .no), rEql⟩⟩,
  ⟨none, some 43, [(.tmp 44)], ⟨.f fMove, rMove⟩⟩])
 (.cond (.tmp 43)
 (.reg [⟨none, some 45, [], ⟨.call .none s_layout_Top v_layout_Top, rCall v_layout_Top⟩⟩,
  ⟨none, some 9, [(.tmp 45)], ⟨.f fMove, rMove⟩⟩])
 (.seq none
 (.reg [⟨none, some 47, [(.tmp 39), (.const (.int .i64 2))], ⟨.f (fBin .eql .no), rEql⟩⟩,
  ⟨none, some 46, [(.tmp 47)], ⟨.f fMove, rMove⟩⟩])
 (.cond (.tmp 46)
 (.reg [⟨none, some 48, [(.tmp 7)], ⟨.f fMove, rMove⟩⟩,
  ⟨none, some 49, [(.tmp 48)], ⟨.call .none s_layout_Open v_layout_Open, rCall v_layout_Open⟩⟩,
  ⟨none, some 9, [(.tmp 49)], ⟨.f fMove, rMove⟩⟩])
 (.seq none
 (.reg [⟨none, some 51, [(.tmp 39), (.const (.int .i64 3))], ⟨.f (fBin .eql .no), rEql⟩⟩,
  ⟨none, some 50, [(.tmp 51)], ⟨.f fMove, rMove⟩⟩])
 (.cond (.tmp 50)
 (.reg [⟨none, some 52, [(.tmp 7)], ⟨.f fMove, rMove⟩⟩,
  ⟨none, some 53, [(.tmp 52)], ⟨.call .none s_layout_Pin v_layout_Pin, rCall v_layout_Pin⟩⟩,
  ⟨none, some 9, [(.tmp 53)], ⟨.f fMove, rMove⟩⟩])
 (.seq none
 (.reg [⟨none, some 55, [(.tmp 39), (.const (.int .i64 4))], ⟨.f (fBin .eql .no), rEql⟩⟩,
  ⟨none, some 54, [(.tmp 55)], ⟨.f fMove, rMove⟩⟩])
 (.cond (.tmp 54)
 (.reg [⟨none, some 56, [(.tmp 3)], ⟨.lr 3 7 true, rAny xl_law04_LayoutPlaces (.lr 3 7 true)⟩⟩,
  ⟨none, some 57, [(.tmp 7)], ⟨.f fMove, rMove⟩⟩,
  ⟨none, some 58, [(.tmp 56), (.tmp 57)], ⟨.call .none s_layout_Slot v_layout_Slot, rCall v_layout_Slot⟩⟩,
  ⟨none, some 9, [(.tmp 58)], ⟨.f fMove, rMove⟩⟩])
 (.seq none
 (.reg [⟨none, some 60, [(.tmp 39), (.const (.int .i64 5))], ⟨.f (fBin .eql .no), rEql⟩⟩,
  ⟨none, some 59, [(.tmp 60)], ⟨.f fMove, rMove⟩⟩])
 (.cond (.tmp 59)
 (.reg [⟨none, some 61, [(.tmp 3)], ⟨.lr 3 7 true, rAny xl_law04_LayoutPlaces (.lr 3 7 true)⟩⟩,
  ⟨none, some 62, [(.tmp 7)], ⟨.f fMove, rMove⟩⟩,
  ⟨none, some 63, [(.tmp 61), (.tmp 62)], ⟨.call .none s_layout_Slot v_layout_Slot, rCall v_layout_Slot⟩⟩,
  ⟨none, some 64, [(.tmp 63), (.const (.int .i64 1))], ⟨.f (fBin .add .no), rAdd⟩⟩,
  ⟨none, some 9, [(.tmp 64)], ⟨.f fMove, rMove⟩⟩])
 (.seq none
 (.reg [⟨none, some 66, [(.tmp 39), (.const (.int .i64 6))], ⟨.f (fBin .eql .no), rEql⟩⟩,
  ⟨none, some 65, [(.tmp 66)], ⟨.f fMove, rMove⟩⟩])
 (.cond (.tmp 65)
 (.reg [⟨none, some 67, [(.tmp 3)], ⟨.lr 3 7 true, rAny xl_law04_LayoutPlaces (.lr 3 7 true)⟩⟩,
  ⟨none, some 68, [(.tmp 7)], ⟨.f fMove, rMove⟩⟩,
  ⟨none, some 69, [(.tmp 67), (.tmp 68)], ⟨.call .none s_layout_Chunk v_layout_Chunk, rCall v_layout_Chunk⟩⟩,
  ⟨none, some 9, [(.tmp 69)], ⟨.f fMove, rMove⟩⟩])
 (.seq none
 (.reg [⟨none, some 71, [(.tmp 39), (.const (.int .i64 7))], ⟨.f (fBin .eql .no), rEql⟩⟩,
  ⟨none, some 70, [(.tmp 71)], ⟨.f fMove, rMove⟩⟩])
 (.cond (.tmp 70)
 (.reg [⟨none, some 72, [(.tmp 3)], ⟨.lr 3 7 true, rAny xl_law04_LayoutPlaces (.lr 3 7 true)⟩⟩,
  ⟨none, some 73, [(.tmp 7)], ⟨.f fMove, rMove⟩⟩,
  ⟨none, some 74, [(.tmp 72), (.tmp 73)], ⟨.call .none s_layout_Chunk v_layout_Chunk, rCall v_layout_Chunk⟩⟩,
  ⟨none, some 75, [(.tmp 74), (.const (.int .i64 1))], ⟨.f (fBin .add .no), rAdd⟩⟩,
  ⟨none, some 9, [(.tmp 75)], ⟨.f fMove, rMove⟩⟩])
 (.seq none
 (.reg [⟨none, some 77, [(.tmp 39), (.const (.int .i64 8))], ⟨.f (fBin .eql .no), rEql⟩⟩,
  ⟨none, some 76, [(.tmp 77)], ⟨.f fMove, rMove⟩⟩])
 (.cond (.tmp 76)
 (.reg [⟨none, some 78, [(.tmp 3)], ⟨.lr 3 7 true, rAny xl_law04_LayoutPlaces (.lr 3 7 true)⟩⟩,
  ⟨none, some 79, [(.tmp 7)], ⟨.f fMove, rMove⟩⟩,
  ⟨none, some 80, [(.tmp 78), (.tmp 79)], ⟨.call .none s_layout_Chunk v_layout_Chunk, rCall v_layout_Chunk⟩⟩,
  ⟨none, some 81, [(.tmp 80), (.const (.int .i64 2))], ⟨.f (fBin .add .no), rAdd⟩⟩,
  ⟨none, some 9, [(.tmp 81)], ⟨.f fMove, rMove⟩⟩])
 (.seq none
 (.reg [⟨none, some 83, [(.tmp 39), (.const (.int .i64 9))], ⟨.f (fBin .eql .no), rEql⟩⟩,
  ⟨none, some 82, [(.tmp 83)], ⟨.f fMove, rMove⟩⟩])
 (.cond (.tmp 82)
 (.reg [⟨none, some 84, [(.tmp 3)], ⟨.lr 3 7 true, rAny xl_law04_LayoutPlaces (.lr 3 7 true)⟩⟩,
  ⟨none, some 85, [(.tmp 7)], ⟨.f fMove, rMove⟩⟩,
  ⟨none, some 86, [(.tmp 84), (.tmp 85)], ⟨.call .none s_layout_Base v_layout_Base, rCall v_layout_Base⟩⟩,
  ⟨none, some 87, [(.tmp 8)], ⟨.f fMove, rMove⟩⟩,
  ⟨none, some 88, [(.tmp 86), (.tmp 87)], ⟨.f (fBin .add .no), rAdd⟩⟩,
  ⟨none, some 9, [(.tmp 88)], ⟨.f fMove, rMove⟩⟩])
 .skip))))))))))))))))))))))
 (.seq none
 (.reg [⟨none, some 89, [(.tmp 9)], ⟨.f fMove, rMove⟩⟩,
  ⟨none, some 90, [(.tmp 5)], ⟨.f fMove, rMove⟩⟩,
  ⟨none, some 91, [(.tmp 89), (.tmp 90)], ⟨.f (fBin .neq .no), rNeq⟩⟩])
 (.cond (.tmp 91)
 (.seq none
 (.reg [⟨none, some 2, [(.const (.bool false))], ⟨.f fMove, rMove⟩⟩])
 .ret)
 .skip))))))
 (.reg [⟨none, some 30, [(.tmp 5)], ⟨.f fMove, rMove⟩⟩,
  ⟨none, some 31, [(.tmp 30), (.const (.int .i64 1))], ⟨.f (fBin .add .no), rAdd⟩⟩,
  ⟨none, some 5, [(.tmp 31)], ⟨.f fMove, rMove⟩⟩]))))))
 (.seq none
 (.reg [⟨none, some 93, [(.tmp 3)], ⟨.lr 3 7 true, rAny xl_law04_LayoutPlaces (.lr 3 7 true)⟩⟩,
  ⟨none, some 94, [(.tmp 4)], ⟨.f fMove, rMove⟩⟩,
  ⟨none, some 95, [(.tmp 93), (.tmp 94)], ⟨.call .write s_ref04_Kind v_ref04_Kind, rCall v_ref04_Kind⟩⟩,
  ⟨none, some 92, [(.tmp 95)], ⟨.f fMove, rMove⟩⟩,
  ⟨none, some 96, [(.tmp 92)], ⟨.f (fExt 0), rAny xl_law04_LayoutPlaces (.f (fExt 0))⟩⟩,
  ⟨none, some 97, [(.tmp 92)], ⟨.f (fExt 1), rAny xl_law04_LayoutPlaces (.f (fExt 1))⟩⟩,
  ⟨none, some 98, [(.tmp 92)], ⟨.f (fExt 2), rAny xl_law04_LayoutPlaces (.f (fExt 2))⟩⟩,
  ⟨none, some 10, [(.tmp 96)], ⟨.f fMove, rMove⟩⟩,
  ⟨none, some 11, [(.tmp 97)], ⟨.f fMove, rMove⟩⟩,
  ⟨none, some 12, [(.tmp 98)], ⟨.f fMove, rMove⟩⟩])
 (.seq none
 (.reg [⟨none, some 99, [(.tmp 10)], ⟨.f fMove, rMove⟩⟩,
  ⟨none, some 100, [(.tmp 99), (.const (.int .i64 (-1)))], ⟨.f (fBin .eql .no), rEql⟩⟩,
  ⟨none, some 2, [(.tmp 100)], ⟨.f fMove, rMove⟩⟩])
 .ret)))))))
noncomputable def v_law04_LayoutPlaces : EvF := evFn 1 xc_law04_LayoutPlaces [.t 2]
theorem xt_law04_LayoutPlaces : toC cx_law04_LayoutPlaces (bodyOf Try.f6) = some (xc_law04_LayoutPlaces.map XN.sm) := by kernel_rfl
theorem xr_law04_LayoutPlaces : toR cx_law04_LayoutPlaces Try.f6.results.toList = some [.t 2] := by kernel_rfl
theorem xo_law04_LayoutPlaces : xc_law04_LayoutPlaces.ok xl_law04_LayoutPlaces := ⟨⟨rAny_ok (trivial), rMove_ok, trivial⟩, ⟨⟨rAny_ok (trivial), rCall_ok ve_law04_Config, rAny_ok (trivial), rAny_ok (trivial), trivial⟩, ⟨⟨rAny_ok (trivial), rCall_ok ve_layout_Len, rMove_ok, trivial⟩, ⟨⟨⟨rCall_ok ve_law04_awake, rNot_ok, rMove_ok, rMove_ok, rLss_ok, rPick_ok, rMove_ok, rMove_ok, rGtr_ok, rPick_ok, trivial⟩, ⟨⟨⟨rMove_ok, trivial⟩, trivial⟩, trivial⟩⟩, ⟨⟨⟨rMove_ok, trivial⟩, ⟨⟨⟨rMove_ok, rMove_ok, rLss_ok, trivial⟩, ⟨trivial, trivial⟩⟩, ⟨⟨⟨rAny_ok (trivial), rMove_ok, rCall_ok ve_ref04_Kind, rMove_ok, rAny_ok (eqv_ext _), rAny_ok (eqv_ext _), rAny_ok (eqv_ext _), rMove_ok, rMove_ok, rMove_ok, trivial⟩, ⟨⟨rMove_ok, trivial⟩, ⟨⟨⟨rMove_ok, trivial⟩, ⟨⟨rEql_ok, rMove_ok, trivial⟩, ⟨⟨rCall_ok ve_layout_Epoch, rMove_ok, trivial⟩, ⟨⟨rEql_ok, rMove_ok, trivial⟩, ⟨⟨rCall_ok ve_layout_Top, rMove_ok, trivial⟩, ⟨⟨rEql_ok, rMove_ok, trivial⟩, ⟨⟨rMove_ok, rCall_ok ve_layout_Open, rMove_ok, trivial⟩, ⟨⟨rEql_ok, rMove_ok, trivial⟩, ⟨⟨rMove_ok, rCall_ok ve_layout_Pin, rMove_ok, trivial⟩, ⟨⟨rEql_ok, rMove_ok, trivial⟩, ⟨⟨rAny_ok (trivial), rMove_ok, rCall_ok ve_layout_Slot, rMove_ok, trivial⟩, ⟨⟨rEql_ok, rMove_ok, trivial⟩, ⟨⟨rAny_ok (trivial), rMove_ok, rCall_ok ve_layout_Slot, rAdd_ok, rMove_ok, trivial⟩, ⟨⟨rEql_ok, rMove_ok, trivial⟩, ⟨⟨rAny_ok (trivial), rMove_ok, rCall_ok ve_layout_Chunk, rMove_ok, trivial⟩, ⟨⟨rEql_ok, rMove_ok, trivial⟩, ⟨⟨rAny_ok (trivial), rMove_ok, rCall_ok ve_layout_Chunk, rAdd_ok, rMove_ok, trivial⟩, ⟨⟨rEql_ok, rMove_ok, trivial⟩, ⟨⟨rAny_ok (trivial), rMove_ok, rCall_ok ve_layout_Chunk, rAdd_ok, rMove_ok, trivial⟩, ⟨⟨rEql_ok, rMove_ok, trivial⟩, ⟨⟨rAny_ok (trivial), rMove_ok, rCall_ok ve_layout_Base, rMove_ok, rAdd_ok, rMove_ok, trivial⟩, trivial⟩⟩⟩⟩⟩⟩⟩⟩⟩⟩⟩⟩⟩⟩⟩⟩⟩⟩⟩⟩⟩, ⟨⟨rMove_ok, rMove_ok, rNeq_ok, trivial⟩, ⟨⟨⟨rMove_ok, trivial⟩, trivial⟩, trivial⟩⟩⟩⟩⟩, ⟨rMove_ok, rAdd_ok, rMove_ok, trivial⟩⟩⟩⟩, ⟨⟨rAny_ok (trivial), rMove_ok, rCall_ok ve_ref04_Kind, rMove_ok, rAny_ok (eqv_ext _), rAny_ok (eqv_ext _), rAny_ok (eqv_ext _), rMove_ok, rMove_ok, rMove_ok, trivial⟩, ⟨⟨rMove_ok, rEql_ok, rMove_ok, trivial⟩, trivial⟩⟩⟩⟩⟩⟩⟩
theorem ve_law04_LayoutPlaces : EvOk s_law04_LayoutPlaces v_law04_LayoutPlaces := EvOk.of (evFn_sound (C := cx_law04_LayoutPlaces) xt_law04_LayoutPlaces xr_law04_LayoutPlaces xo_law04_LayoutPlaces) q_law04_LayoutPlaces

attribute [irreducible] w_law04_LayoutPlaces_j2b w_law04_LayoutPlaces_j2 w_law04_LayoutPlaces_j3b w_law04_LayoutPlaces_j3 w_law04_LayoutPlaces_l7b w_law04_LayoutPlaces_l7 w_law04_LayoutPlaces_j1b w_law04_LayoutPlaces_j1 w_law04_LayoutPlaces s_law04_LayoutPlaces

/-! ### /layout.Of -/
def w_layout_Of_j1b (K : Value → Mem → Prop) (v1 v5 v16 : Value) (c2 : List Value) (σ : Mem) : Prop :=
xIf v16
 (xF fMove [(.int .i64 (-1))] fun v4 =>
K v4 σ)
 (xF fMove [v1] fun v17 =>
xF fMove [v5] fun v18 =>
xF (fBin .sub .no) [v17, v18] fun v19 =>
xF (fFld 3) [(locP 2)] fun v20 =>
xO (gLoad 1 false [v20] c2) fun v21 =>
xF (fBin .quo .no) [v19, v21] fun v22 =>
xF fMove [v22] fun v4 =>
K v4 σ)

def w_layout_Of_j1 (K : Value → Mem → Prop) (ts : List Value) (ls : List (List Value)) (σ : Mem) : Prop := w_layout_Of_j1b K (ts.getD 0 poison) (ts.getD 1 poison) (ts.getD 2 poison) (ls.getD 0 []) σ

def w_layout_Of (a0 a1 : Value) (K : Value → Mem → Prop) (σ : Mem) : Prop :=
xC (gBox 7 [a0] []) fun c2 =>
xF fMove [(.int .i64 0)] fun v4 =>
xO (gLoad 7 true [(locP 2)] c2) fun v6 =>
s_layout_Base [v6, (.int .i64 0)] (fun v7 σ =>
xF fMove [v7] fun v5 =>
xJoin (w_layout_Of_j1 K) fun J1 =>
xF fMove [a1] fun v8 =>
xF fMove [v5] fun v9 =>
xF (fBin .lss .no) [v8, v9] fun v10 =>
xF fMove [v10] fun v11 =>
xIf v11
 (xF fPick [(.bool true), (.bool true), undef] fun v16 =>
J1 [a1, v5, v16] [c2] σ)
 (xF fMove [a1] fun v12 =>
xO (gLoad 7 true [(locP 2)] c2) fun v13 =>
s_layout_Len [v13] (fun v14 σ =>
xF (fBin .geq .no) [v12, v14] fun v15 =>
xF fPick [(.bool false), (.bool true), v15] fun v16 =>
J1 [a1, v5, v16] [c2] σ) σ)) σ

def s_layout_Of : Spec := fun args K σ => match args with
  | [a0, a1] => w_layout_Of a0 a1 K σ
  | _ => False

noncomputable def cx_layout_Of : Cx := { P := Try.prog, T := [(34, .none, s_layout_Base), (24, .none, s_layout_Len)], loc := [(2, 2), (20, 2)], eqt := [], n := 23, keep := [(1000004, [1, 5, 16], [2])] }
theorem q_layout_Of : FnS cx_layout_Of Try.f35 (bodyOf Try.f35) 2 = s_layout_Of := by
  funext args K σ
  rcases args with _ | ⟨a0, _ | ⟨a1, _ | ⟨b, r⟩⟩⟩ <;> kernel_rfl
theorem e_layout_Of : Entry Try.prog 35 .none s_layout_Of :=
  entry (C := cx_layout_Of) (TOk.cons e_layout_Base (TOk.cons e_layout_Len TOk.nil)) mixedOk Try.func35 (by kernel_rfl) (by kernel_rfl) (by kernel_rfl) q_layout_Of

def xl_layout_Of : List (Nat × Nat) := [(2, 2), (20, 2)]
noncomputable def xc_layout_Of : XC XN :=
(.seq none
 (.reg [⟨none, some 2, [(.tmp 0)], ⟨.lb 2 7, rAny xl_layout_Of (.lb 2 7)⟩⟩,
  ⟨none, some 4, [(.const (.int .i64 0))], ⟨.f fMove, rMove⟩⟩])
 (.seq none
 (.reg [⟨none, some 6, [(.tmp 2)], ⟨.lr 2 7 true, rAny xl_layout_Of (.lr 2 7 true)⟩⟩,
  ⟨none, some 7, [(.tmp 6), (.const (.int .i64 0))], ⟨.call .none s_layout_Base v_layout_Base, rCall v_layout_Base⟩⟩,
  ⟨none, some 5, [(.tmp 7)], ⟨.f fMove, rMove⟩⟩])
 (.seq none
 (.seq (some ([1, 5, 16], [2]))
 (.reg [⟨none, some 8, [(.tmp 1)], ⟨.f fMove, rMove⟩⟩,
  ⟨none, some 9, [(.tmp 5)], ⟨.f fMove, rMove⟩⟩,
  ⟨none, some 10, [(.tmp 8), (.tmp 9)], ⟨.f (fBin .lss .no), rLss⟩⟩,
  ⟨none, some 11, [(.tmp 10)], ⟨.f fMove, rMove⟩⟩,
  ⟨(some (4, 3, false, some 11)), some 12, [(.tmp 1)], ⟨.f fMove, rMove⟩⟩,
  ⟨(some (5, 3, false, some 11)), some 13, [(.tmp 2)], ⟨.lr 2 7 true, rAny xl_layout_Of (.lr 2 7 true)⟩⟩,
  ⟨(some (6, 3, false, some 11)), some 14, [(.tmp 13)], ⟨.call .none s_layout_Len v_layout_Len, rCall v_layout_Len⟩⟩,
  ⟨(some (7, 3, false, some 11)), some 15, [(.tmp 12), (.tmp 14)], ⟨.f (fBin .geq .no), rGeq⟩⟩,
  ⟨none, some 16, [(.tmp 11), (.const (.bool true)), (.tmp 15)], ⟨.f fPick, rPick⟩⟩])
 (.cond (.tmp 16)
 (.seq none
 (.reg [⟨none, some 4, [(.const (.int .i64 (-1)))], ⟨.f fMove, rMove⟩⟩])
 .ret)
 .skip))
 (.seq none
 (.reg [⟨none, some 17, [(.tmp 1)], ⟨.f fMove, rMove⟩⟩,
  ⟨none, some 18, [(.tmp 5)], ⟨.f fMove, rMove⟩⟩,
  ⟨none, some 19, [(.tmp 17), (.tmp 18)], ⟨.f (fBin .sub .no), rSub⟩⟩,
  ⟨none, some 20, [(.tmp 2)], ⟨.f (fFld 3), rFld 3⟩⟩,
  ⟨none, some 21, [(.tmp 20)], ⟨.lr 2 1 false, rLr1 2⟩⟩,
  ⟨none, some 22, [(.tmp 19), (.tmp 21)], ⟨.f (fBin .quo .no), rAny xl_layout_Of (.f (fBin .quo .no))⟩⟩,
  ⟨none, some 4, [(.tmp 22)], ⟨.f fMove, rMove⟩⟩])
 .ret))))
noncomputable def v_layout_Of : EvF := evFn 2 xc_layout_Of [.t 4]
theorem xt_layout_Of : toC cx_layout_Of (bodyOf Try.f35) = some (xc_layout_Of.map XN.sm) := by kernel_rfl
theorem xr_layout_Of : toR cx_layout_Of Try.f35.results.toList = some [.t 4] := by kernel_rfl
theorem xo_layout_Of : xc_layout_Of.ok xl_layout_Of := ⟨⟨rAny_ok (trivial), rMove_ok, trivial⟩, ⟨⟨rAny_ok (trivial), rCall_ok ve_layout_Base, rMove_ok, trivial⟩, ⟨⟨⟨rMove_ok, rMove_ok, rLss_ok, rMove_ok, rMove_ok, rAny_ok (trivial), rCall_ok ve_layout_Len, rGeq_ok, rPick_ok, trivial⟩, ⟨⟨⟨rMove_ok, trivial⟩, trivial⟩, trivial⟩⟩, ⟨⟨rMove_ok, rMove_ok, rSub_ok, rFld_ok _, rLr1_ok _, rAny_ok (eqv_bin _ _), rMove_ok, trivial⟩, trivial⟩⟩⟩⟩
theorem ve_layout_Of : EvOk s_layout_Of v_layout_Of := EvOk.of (evFn_sound (C := cx_layout_Of) xt_layout_Of xr_layout_Of xo_layout_Of) q_layout_Of

attribute [irreducible] w_layout_Of_j1b w_layout_Of_j1 w_layout_Of s_layout_Of

/-! ### /law04.LayoutOf -/
def w_law04_LayoutOf_j1b (K : Value → Mem → Prop) (v1 v6 : Value) (c5 : List Value) (σ : Mem) : Prop :=
s_law04_awake [] (fun v22 σ =>
xF fMove [v22] fun v23 =>
xIf v23
 (xO (gLoad 7 true [(locP 5)] c5) fun v24 =>
xF fMove [v1] fun v25 =>
s_layout_Of [v24, v25] (fun v26 σ =>
xF fMove [v6] fun v27 =>
xF (fBin .eql .no) [v26, v27] fun v28 =>
xF fPick [(.bool true), v28, (.bool false)] fun v29 =>
xF fMove [v29] fun v4 =>
K v4 σ) σ)
 (xF fPick [(.bool false), undef, (.bool false)] fun v29 =>
xF fMove [v29] fun v4 =>
K v4 σ)) σ

def w_law04_LayoutOf_j1 (K : Value → Mem → Prop) (ts : List Value) (ls : List (List Value)) (σ : Mem) : Prop := w_law04_LayoutOf_j1b K (ts.getD 0 poison) (ts.getD 1 poison) (ls.getD 0 []) σ

def w_law04_LayoutOf (a0 a1 : Value) (K : Value → Mem → Prop) (σ : Mem) : Prop :=
xC (gBox 7 [a0] []) fun c2 =>
xF fMove [(.bool false)] fun v4 =>
xO (gLoad 7 true [(locP 2)] c2) fun v10 =>
s_law04_Config [v10] (fun v11 σ =>
xC (gStore 7 [(locP 5), v11] [(.int .i64 0), (.int .i64 0), (.int .i64 0), (.int .i64 0), (.int .i64 0), (.int .i64 0), (.int .i64 0)]) fun c5 =>
xF fMove [(.int .i64 (-1))] fun v6 =>
xJoin (w_law04_LayoutOf_j1 K) fun J1 =>
xO (gLoad 7 true [(locP 5)] c5) fun v13 =>
xF fMove [a1] fun v14 =>
s_ref04_Kind [v13, v14] (fun v15 σ =>
xF fMove [v15] fun v12 =>
xF (fExt 0) [v12] fun v16 =>
xF (fExt 1) [v12] fun v17 =>
xF (fExt 2) [v12] fun v18 =>
xF fMove [v16] fun v7 =>
xF fMove [v17] fun v8 =>
xF fMove [v18] fun v9 =>
xF fMove [v7] fun v19 =>
xF (fBin .eql .no) [v19, (.int .i64 9)] fun v20 =>
xIf v20
 (xF fMove [v8] fun v21 =>
xF fMove [v21] fun v6 =>
J1 [a1, v6] [c5] σ)
 (J1 [a1, v6] [c5] σ)) σ) σ

def s_law04_LayoutOf : Spec := fun args K σ => match args with
  | [a0, a1] => w_law04_LayoutOf a0 a1 K σ
  | _ => False

noncomputable def cx_law04_LayoutOf : Cx := { P := Try.prog, T := [(21, .none, s_law04_Config), (25, .write, s_ref04_Kind), (14, .none, s_law04_awake), (35, .none, s_layout_Of)], loc := [(2, 2), (5, 5)], eqt := [], n := 30, keep := [(1000007, [1, 6], [5])] }
theorem q_law04_LayoutOf : FnS cx_law04_LayoutOf Try.f7 (bodyOf Try.f7) 2 = s_law04_LayoutOf := by
  funext args K σ
  rcases args with _ | ⟨a0, _ | ⟨a1, _ | ⟨b, r⟩⟩⟩ <;> kernel_rfl
theorem e_law04_LayoutOf : Entry Try.prog 7 .write s_law04_LayoutOf :=
  entry (C := cx_law04_LayoutOf) (TOk.cons e_law04_Config (TOk.cons e_ref04_Kind (TOk.cons e_law04_awake (TOk.cons e_layout_Of TOk.nil)))) mixedOk Try.func7 (by kernel_rfl) (by kernel_rfl) (by kernel_rfl) q_law04_LayoutOf

def xl_law04_LayoutOf : List (Nat × Nat) := [(2, 2), (5, 5)]
noncomputable def xc_law04_LayoutOf : XC XN :=
(.seq none
 (.reg [⟨none, some 2, [(.tmp 0)], ⟨.lb 2 7, rAny xl_law04_LayoutOf (.lb 2 7)⟩⟩,
  ⟨none, some 4, [(.const (.bool false))], ⟨.f fMove, rMove⟩⟩])
 (.seq none
 (.reg [⟨none, some 10, [(.tmp 2)], ⟨.lr 2 7 true, rAny xl_law04_LayoutOf (.lr 2 7 true)⟩⟩,
  ⟨none, some 11, [(.tmp 10)], ⟨.call .none s_law04_Config v_law04_Config, rCall v_law04_Config⟩⟩,
  ⟨none, some 5, [], ⟨.la 5 [(.int .i64 0), (.int .i64 0), (.int .i64 0), (.int .i64 0), (.int .i64 0), (.int .i64 0), (.int .i64 0)], rAny xl_law04_LayoutOf (.la 5 [(.int .i64 0), (.int .i64 0), (.int .i64 0), (.int .i64 0), (.int .i64 0), (.int .i64 0), (.int .i64 0)])⟩⟩,
  ⟨none, none, [(.tmp 5), (.tmp 11)], ⟨.ls 5 7, rAny xl_law04_LayoutOf (.ls 5 7)⟩⟩])
 (.seq none
 (.reg [⟨none, some 6, [(.const (.int .i64 (-1)))], ⟨.f fMove, rMove⟩⟩])
 (.seq (some ([1, 6], [5]))
 (.seq none
 (.reg [⟨none, some 13, [(.tmp 5)], ⟨.lr 5 7 true, rAny xl_law04_LayoutOf (.lr 5 7 true)⟩⟩,
  ⟨none, some 14, [(.tmp 1)], ⟨.f fMove, rMove⟩⟩,
  ⟨none, some 15, [(.tmp 13), (.tmp 14)], ⟨.call .write s_ref04_Kind v_ref04_Kind, rCall v_ref04_Kind⟩⟩,
  ⟨none, some 12, [(.tmp 15)], ⟨.f fMove, rMove⟩⟩,
  ⟨none, some 16, [(.tmp 12)], ⟨.f (fExt 0), rAny xl_law04_LayoutOf (.f (fExt 0))⟩⟩,
  ⟨none, some 17, [(.tmp 12)], ⟨.f (fExt 1), rAny xl_law04_LayoutOf (.f (fExt 1))⟩⟩,
  ⟨none, some 18, [(.tmp 12)], ⟨.f (fExt 2), rAny xl_law04_LayoutOf (.f (fExt 2))⟩⟩,
  ⟨none, some 7, [(.tmp 16)], ⟨.f fMove, rMove⟩⟩,
  ⟨none, some 8, [(.tmp 17)], ⟨.f fMove, rMove⟩⟩,
  ⟨none, some 9, [(.tmp 18)], ⟨.f fMove, rMove⟩⟩])
 (.seq none
 (.reg [⟨none, some 19, [(.tmp 7)], ⟨.f fMove, rMove⟩⟩,
  ⟨none, some 20, [(.tmp 19), (.const (.int .i64 9))], ⟨.f (fBin .eql .no), rEql⟩⟩])
 (.cond (.tmp 20)
 (.reg [⟨none, some 21, [(.tmp 8)], ⟨.f fMove, rMove⟩⟩,
  ⟨none, some 6, [(.tmp 21)], ⟨.f fMove, rMove⟩⟩])
 .skip)))
 (.seq none
 (.reg [⟨none, some 22, [], ⟨.call .none s_law04_awake v_law04_awake, rCall v_law04_awake⟩⟩,
  ⟨none, some 23, [(.tmp 22)], ⟨.f fMove, rMove⟩⟩,
  ⟨(some (2, 1, true, some 23)), some 24, [(.tmp 5)], ⟨.lr 5 7 true, rAny xl_law04_LayoutOf (.lr 5 7 true)⟩⟩,
  ⟨(some (3, 1, true, some 23)), some 25, [(.tmp 1)], ⟨.f fMove, rMove⟩⟩,
  ⟨(some (4, 1, true, some 23)), some 26, [(.tmp 24), (.tmp 25)], ⟨.call .none s_layout_Of v_layout_Of, rCall v_layout_Of⟩⟩,
  ⟨(some (5, 1, true, some 23)), some 27, [(.tmp 6)], ⟨.f fMove, rMove⟩⟩,
  ⟨(some (6, 1, true, some 23)), some 28, [(.tmp 26), (.tmp 27)], ⟨.f (fBin .eql .no), rEql⟩⟩,
  ⟨none, some 29, [(.tmp 23), (.tmp 28), (.const (.bool false))], ⟨.f fPick, rPick⟩⟩,
  ⟨none, some 4, [(.tmp 29)], ⟨.f fMove, rMove⟩⟩])
 .ret)))))
noncomputable def v_law04_LayoutOf : EvF := evFn 2 xc_law04_LayoutOf [.t 4]
theorem xt_law04_LayoutOf : toC cx_law04_LayoutOf (bodyOf Try.f7) = some (xc_law04_LayoutOf.map XN.sm) := by kernel_rfl
theorem xr_law04_LayoutOf : toR cx_law04_LayoutOf Try.f7.results.toList = some [.t 4] := by kernel_rfl
theorem xo_law04_LayoutOf : xc_law04_LayoutOf.ok xl_law04_LayoutOf := ⟨⟨rAny_ok (trivial), rMove_ok, trivial⟩, ⟨⟨rAny_ok (trivial), rCall_ok ve_law04_Config, rAny_ok (trivial), rAny_ok (trivial), trivial⟩, ⟨⟨rMove_ok, trivial⟩, ⟨⟨⟨rAny_ok (trivial), rMove_ok, rCall_ok ve_ref04_Kind, rMove_ok, rAny_ok (eqv_ext _), rAny_ok (eqv_ext _), rAny_ok (eqv_ext _), rMove_ok, rMove_ok, rMove_ok, trivial⟩, ⟨⟨rMove_ok, rEql_ok, trivial⟩, ⟨⟨rMove_ok, rMove_ok, trivial⟩, trivial⟩⟩⟩, ⟨⟨rCall_ok ve_law04_awake, rMove_ok, rAny_ok (trivial), rMove_ok, rCall_ok ve_layout_Of, rMove_ok, rEql_ok, rPick_ok, rMove_ok, trivial⟩, trivial⟩⟩⟩⟩⟩
theorem ve_law04_LayoutOf : EvOk s_law04_LayoutOf v_law04_LayoutOf := EvOk.of (evFn_sound (C := cx_law04_LayoutOf) xt_law04_LayoutOf xr_law04_LayoutOf xo_law04_LayoutOf) q_law04_LayoutOf

attribute [irreducible] w_law04_LayoutOf_j1b w_law04_LayoutOf_j1 w_law04_LayoutOf s_law04_LayoutOf

/-! ### (*/mem.Mem).By -/
def w_mem_Mem_By (a0 a1 : Value) (K : Value → Mem → Prop) (σ : Mem) : Prop :=
xF fMove [a0] fun v4 =>
xF (fBin .neq .ptr) [v4, (.pointer none)] fun v5 =>
xIf v5
 (xF fMove [a0] fun v6 =>
xF fMove [a1] fun v7 =>
xF fNil [v6] fun v8 =>
xF (fFld 3) [v8] fun v9 =>
hStore 1 [v9, v7] (fun _v σ =>
K (.tuple #[]) σ) σ)
 (K (.tuple #[]) σ)

def s_mem_Mem_By : Spec := fun args K σ => match args with
  | [a0, a1] => w_mem_Mem_By a0 a1 K σ
  | _ => False

noncomputable def cx_mem_Mem_By : Cx := { P := Try.prog, T := [], loc := [], eqt := [(29, .ptr)], n := 10, keep := [] }
theorem q_mem_Mem_By : FnS cx_mem_Mem_By Try.f41 (bodyOf Try.f41) 2 = s_mem_Mem_By := by
  funext args K σ
  rcases args with _ | ⟨a0, _ | ⟨a1, _ | ⟨b, r⟩⟩⟩ <;> kernel_rfl
theorem e_mem_Mem_By : Entry Try.prog 41 .write s_mem_Mem_By :=
  entry (C := cx_mem_Mem_By) TOk.nil mixedOk Try.func41 (by kernel_rfl) (by kernel_rfl) (by kernel_rfl) q_mem_Mem_By

def xl_mem_Mem_By : List (Nat × Nat) := []
noncomputable def xc_mem_Mem_By : XC XN :=
(.seq none
 (.reg [⟨none, some 4, [(.tmp 0)], ⟨.f fMove, rMove⟩⟩,
  ⟨none, some 5, [(.tmp 4), (.const (.pointer none))], ⟨.f (fBin .neq .ptr), rAny xl_mem_Mem_By (.f (fBin .neq .ptr))⟩⟩])
 (.cond (.tmp 5)
 (.reg [⟨none, some 6, [(.tmp 0)], ⟨.f fMove, rMove⟩⟩,
  ⟨none, some 7, [(.tmp 1)], ⟨.f fMove, rMove⟩⟩,
  ⟨none, some 8, [(.tmp 6)], ⟨.f fNil, rNil⟩⟩,
  ⟨none, some 9, [(.tmp 8)], ⟨.f (fFld 3), rFld 3⟩⟩,
  ⟨none, none, [(.tmp 9), (.tmp 7)], ⟨.store 1, rStore1⟩⟩])
 .skip))
noncomputable def v_mem_Mem_By : EvF := evFn 2 xc_mem_Mem_By []
theorem xt_mem_Mem_By : toC cx_mem_Mem_By (bodyOf Try.f41) = some (xc_mem_Mem_By.map XN.sm) := by kernel_rfl
theorem xr_mem_Mem_By : toR cx_mem_Mem_By Try.f41.results.toList = some [] := by kernel_rfl
theorem xo_mem_Mem_By : xc_mem_Mem_By.ok xl_mem_Mem_By := ⟨⟨rMove_ok, rAny_ok (eqv_bin _ _), trivial⟩, ⟨⟨rMove_ok, rMove_ok, rNil_ok, rFld_ok _, rStore1_ok, trivial⟩, trivial⟩⟩
theorem ve_mem_Mem_By : EvOk s_mem_Mem_By v_mem_Mem_By := EvOk.of (evFn_sound (C := cx_mem_Mem_By) xt_mem_Mem_By xr_mem_Mem_By xo_mem_Mem_By) q_mem_Mem_By

attribute [irreducible] w_mem_Mem_By s_mem_Mem_By

/-! ### (*/mem.Mem).Load -/
def w_mem_Mem_Load (a0 a1 : Value) (K : Value → Mem → Prop) (σ : Mem) : Prop :=
xF fMove [(.int .u64 0)] fun v4 =>
xF fMove [(.int .i64 0)] fun v5 =>
xF fMove [a0] fun v6 =>
xF fMove [a1] fun v7 =>
s_mem_Mem_step [v6, v7] (fun v8 σ =>
xF (fUn .not) [v8] fun v9 =>
xIf v9
 (xF fMove [(.int .u64 0)] fun v4 =>
xF fMove [(.int .i64 2)] fun v5 =>
K (.tuple #[v4, v5]) σ)
 (xF fMove [a0] fun v10 =>
xF fNil [v10] fun v11 =>
xF (fFld 0) [v11] fun v12 =>
hLoad 1 false [v12] (fun v13 σ =>
xF fMove [a1] fun v14 =>
xF (fIxS 1) [v13, v14] fun v15 =>
hLoad 1 false [v15] (fun v16 σ =>
xF fMove [v16] fun v4 =>
xF fMove [(.int .i64 0)] fun v5 =>
K (.tuple #[v4, v5]) σ) σ) σ)) σ

def s_mem_Mem_Load : Spec := fun args K σ => match args with
  | [a0, a1] => w_mem_Mem_Load a0 a1 K σ
  | _ => False

noncomputable def cx_mem_Mem_Load : Cx := { P := Try.prog, T := [(62, .write, s_mem_Mem_step)], loc := [], eqt := [], n := 17, keep := [] }
theorem q_mem_Mem_Load : FnS cx_mem_Mem_Load Try.f42 (bodyOf Try.f42) 2 = s_mem_Mem_Load := by
  funext args K σ
  rcases args with _ | ⟨a0, _ | ⟨a1, _ | ⟨b, r⟩⟩⟩ <;> kernel_rfl
theorem e_mem_Mem_Load : Entry Try.prog 42 .write s_mem_Mem_Load :=
  entry (C := cx_mem_Mem_Load) (TOk.cons e_mem_Mem_step TOk.nil) mixedOk Try.func42 (by kernel_rfl) (by kernel_rfl) (by kernel_rfl) q_mem_Mem_Load

def xl_mem_Mem_Load : List (Nat × Nat) := []
noncomputable def xc_mem_Mem_Load : XC XN :=
(.seq none
 (.reg [⟨none, some 4, [(.const (.int .u64 0))], ⟨.f fMove, rMove⟩⟩,
  ⟨none, some 5, [(.const (.int .i64 0))], ⟨.f fMove, rMove⟩⟩])
 (.seq none
 (.seq none
 (.reg [⟨none, some 6, [(.tmp 0)], ⟨.f fMove, rMove⟩⟩,
  ⟨none, some 7, [(.tmp 1)], ⟨.f fMove, rMove⟩⟩,
  ⟨none, some 8, [(.tmp 6), (.tmp 7)], ⟨.call .write s_mem_Mem_step v_mem_Mem_step, rCall v_mem_Mem_step⟩⟩,
  ⟨none, some 9, [(.tmp 8)], ⟨.f (fUn .not), rNot⟩⟩])
 (.cond (.tmp 9)
 (.seq none
 (.reg [⟨none, some 4, [(.const (.int .u64 0))], ⟨.f fMove, rMove⟩⟩,
  ⟨none, some 5, [(.const (.int .i64 2))], ⟨.f fMove, rMove⟩⟩])
 .ret)
 .skip))
 (.seq none
 (.reg [⟨none, some 10, [(.tmp 0)], ⟨.f fMove, rMove⟩⟩,
  ⟨none, some 11, [(.tmp 10)], ⟨.f fNil, rNil⟩⟩,
  ⟨none, some 12, [(.tmp 11)], ⟨.f (fFld 0), rFld 0⟩⟩,
  ⟨none, some 13, [(.tmp 12)], ⟨.load 1 false, rLoad1⟩⟩,
  ⟨none, some 14, [(.tmp 1)], ⟨.f fMove, rMove⟩⟩,
  ⟨none, some 15, [(.tmp 13), (.tmp 14)], ⟨.f (fIxS 1), rIxS 1⟩⟩,
  ⟨none, some 16, [(.tmp 15)], ⟨.load 1 false, rLoad1⟩⟩,
  ⟨none, some 4, [(.tmp 16)], ⟨.f fMove, rMove⟩⟩,
  ⟨none, some 5, [(.const (.int .i64 0))], ⟨.f fMove, rMove⟩⟩])
 .ret)))
noncomputable def v_mem_Mem_Load : EvF := evFn 2 xc_mem_Mem_Load [.t 4, .t 5]
theorem xt_mem_Mem_Load : toC cx_mem_Mem_Load (bodyOf Try.f42) = some (xc_mem_Mem_Load.map XN.sm) := by kernel_rfl
theorem xr_mem_Mem_Load : toR cx_mem_Mem_Load Try.f42.results.toList = some [.t 4, .t 5] := by kernel_rfl
theorem xo_mem_Mem_Load : xc_mem_Mem_Load.ok xl_mem_Mem_Load := ⟨⟨rMove_ok, rMove_ok, trivial⟩, ⟨⟨⟨rMove_ok, rMove_ok, rCall_ok ve_mem_Mem_step, rNot_ok, trivial⟩, ⟨⟨⟨rMove_ok, rMove_ok, trivial⟩, trivial⟩, trivial⟩⟩, ⟨⟨rMove_ok, rNil_ok, rFld_ok _, rLoad1_ok, rMove_ok, rIxS_ok _, rLoad1_ok, rMove_ok, rMove_ok, trivial⟩, trivial⟩⟩⟩
theorem ve_mem_Mem_Load : EvOk s_mem_Mem_Load v_mem_Mem_Load := EvOk.of (evFn_sound (C := cx_mem_Mem_Load) xt_mem_Mem_Load xr_mem_Mem_Load xo_mem_Mem_Load) q_mem_Mem_Load

attribute [irreducible] w_mem_Mem_Load s_mem_Mem_Load

/-! ### (/layout.Env).Load -/
def w_layout_Env_Load (a0 a1 : Value) (K : Value → Mem → Prop) (σ : Mem) : Prop :=
xC (gBox 9 [a0] []) fun c2 =>
xF fMove [(.int .u64 0)] fun v4 =>
xF (fFld 7) [(locP 2)] fun v7 =>
xO (gLoad 1 false [v7] c2) fun v8 =>
xF (fFld 8) [(locP 2)] fun v9 =>
xO (gLoad 1 false [v9] c2) fun v10 =>
s_mem_Mem_By [v8, v10] (fun v11 σ =>
xF (fFld 7) [(locP 2)] fun v13 =>
xO (gLoad 1 false [v13] c2) fun v14 =>
xF fMove [a1] fun v15 =>
s_mem_Mem_Load [v14, v15] (fun v16 σ =>
xF fMove [v16] fun v12 =>
xF (fExt 0) [v12] fun v17 =>
xF (fExt 1) [v12] fun v18 =>
xF fMove [v17] fun v5 =>
xF fMove [v18] fun v6 =>
xF fMove [v5] fun v19 =>
xF fMove [v19] fun v4 =>
K v4 σ) σ) σ

def s_layout_Env_Load : Spec := fun args K σ => match args with
  | [a0, a1] => w_layout_Env_Load a0 a1 K σ
  | _ => False

noncomputable def cx_layout_Env_Load : Cx := { P := Try.prog, T := [(41, .write, s_mem_Mem_By), (42, .write, s_mem_Mem_Load)], loc := [(2, 2), (7, 2), (9, 2), (13, 2)], eqt := [], n := 20, keep := [] }
theorem q_layout_Env_Load : FnS cx_layout_Env_Load Try.f43 (bodyOf Try.f43) 2 = s_layout_Env_Load := by
  funext args K σ
  rcases args with _ | ⟨a0, _ | ⟨a1, _ | ⟨b, r⟩⟩⟩ <;> kernel_rfl
theorem e_layout_Env_Load : Entry Try.prog 43 .write s_layout_Env_Load :=
  entry (C := cx_layout_Env_Load) (TOk.cons e_mem_Mem_By (TOk.cons e_mem_Mem_Load TOk.nil)) mixedOk Try.func43 (by kernel_rfl) (by kernel_rfl) (by kernel_rfl) q_layout_Env_Load

def xl_layout_Env_Load : List (Nat × Nat) := [(2, 2), (7, 2), (9, 2), (13, 2)]
noncomputable def xc_layout_Env_Load : XC XN :=
(.seq none
 (.reg [⟨none, some 2, [(.tmp 0)], ⟨.lb 2 9, rAny xl_layout_Env_Load (.lb 2 9)⟩⟩,
  ⟨none, some 4, [(.const (.int .u64 0))], ⟨.f fMove, rMove⟩⟩])
 (.seq none
 (.reg [⟨none, some 7, [(.tmp 2)], ⟨.f (fFld 7), rFld 7⟩⟩,
  ⟨none, some 8, [(.tmp 7)], ⟨.lr 2 1 false, rLr1 2⟩⟩,
  ⟨none, some 9, [(.tmp 2)], ⟨.f (fFld 8), rFld 8⟩⟩,
  ⟨none, some 10, [(.tmp 9)], ⟨.lr 2 1 false, rLr1 2⟩⟩,
  ⟨none, some 11, [(.tmp 8), (.tmp 10)], ⟨.call .write s_mem_Mem_By v_mem_Mem_By, rCall v_mem_Mem_By⟩⟩])
 (.seq none
 (.reg [⟨none, some 13, [(.tmp 2)], ⟨.f (fFld 7), rFld 7⟩⟩,
  ⟨none, some 14, [(.tmp 13)], ⟨.lr 2 1 false, rLr1 2⟩⟩,
  ⟨none, some 15, [(.tmp 1)], ⟨.f fMove, rMove⟩⟩,
  ⟨none, some 16, [(.tmp 14), (.tmp 15)], ⟨.call .write s_mem_Mem_Load v_mem_Mem_Load, rCall v_mem_Mem_Load⟩⟩,
  ⟨none, some 12, [(.tmp 16)], ⟨.f fMove, rMove⟩⟩,
  ⟨none, some 17, [(.tmp 12)], ⟨.f (fExt 0), rAny xl_layout_Env_Load (.f (fExt 0))⟩⟩,
  ⟨none, some 18, [(.tmp 12)], ⟨.f (fExt 1), rAny xl_layout_Env_Load (.f (fExt 1))⟩⟩,
  ⟨none, some 5, [(.tmp 17)], ⟨.f fMove, rMove⟩⟩,
  ⟨none, some 6, [(.tmp 18)], ⟨.f fMove, rMove⟩⟩])
 (.seq none
 (.reg [⟨none, some 19, [(.tmp 5)], ⟨.f fMove, rMove⟩⟩,
  ⟨none, some 4, [(.tmp 19)], ⟨.f fMove, rMove⟩⟩])
 .ret))))
noncomputable def v_layout_Env_Load : EvF := evFn 2 xc_layout_Env_Load [.t 4]
theorem xt_layout_Env_Load : toC cx_layout_Env_Load (bodyOf Try.f43) = some (xc_layout_Env_Load.map XN.sm) := by kernel_rfl
theorem xr_layout_Env_Load : toR cx_layout_Env_Load Try.f43.results.toList = some [.t 4] := by kernel_rfl
theorem xo_layout_Env_Load : xc_layout_Env_Load.ok xl_layout_Env_Load := ⟨⟨rAny_ok (trivial), rMove_ok, trivial⟩, ⟨⟨rFld_ok _, rLr1_ok _, rFld_ok _, rLr1_ok _, rCall_ok ve_mem_Mem_By, trivial⟩, ⟨⟨rFld_ok _, rLr1_ok _, rMove_ok, rCall_ok ve_mem_Mem_Load, rMove_ok, rAny_ok (eqv_ext _), rAny_ok (eqv_ext _), rMove_ok, rMove_ok, trivial⟩, ⟨⟨rMove_ok, rMove_ok, trivial⟩, trivial⟩⟩⟩⟩
theorem ve_layout_Env_Load : EvOk s_layout_Env_Load v_layout_Env_Load := EvOk.of (evFn_sound (C := cx_layout_Env_Load) xt_layout_Env_Load xr_layout_Env_Load xo_layout_Env_Load) q_layout_Env_Load

attribute [irreducible] w_layout_Env_Load s_layout_Env_Load

/-! ### (/layout.Env).Store -/
def w_layout_Env_Store (a0 a1 a2 : Value) (K : Value → Mem → Prop) (σ : Mem) : Prop :=
xC (gBox 9 [a0] []) fun c3 =>
xF (fFld 7) [(locP 3)] fun v6 =>
xO (gLoad 1 false [v6] c3) fun v7 =>
xF (fFld 8) [(locP 3)] fun v8 =>
xO (gLoad 1 false [v8] c3) fun v9 =>
s_mem_Mem_By [v7, v9] (fun v10 σ =>
xF (fFld 7) [(locP 3)] fun v11 =>
xO (gLoad 1 false [v11] c3) fun v12 =>
xF fMove [a1] fun v13 =>
xF fMove [a2] fun v14 =>
s_mem_Mem_Store [v12, v13, v14] (fun v15 σ =>
K (.tuple #[]) σ) σ) σ

def s_layout_Env_Store : Spec := fun args K σ => match args with
  | [a0, a1, a2] => w_layout_Env_Store a0 a1 a2 K σ
  | _ => False

noncomputable def cx_layout_Env_Store : Cx := { P := Try.prog, T := [(41, .write, s_mem_Mem_By), (45, .write, s_mem_Mem_Store)], loc := [(3, 3), (6, 3), (8, 3), (11, 3)], eqt := [], n := 16, keep := [] }
theorem q_layout_Env_Store : FnS cx_layout_Env_Store Try.f44 (bodyOf Try.f44) 3 = s_layout_Env_Store := by
  funext args K σ
  rcases args with _ | ⟨a0, _ | ⟨a1, _ | ⟨a2, _ | ⟨b, r⟩⟩⟩⟩ <;> kernel_rfl
theorem e_layout_Env_Store : Entry Try.prog 44 .write s_layout_Env_Store :=
  entry (C := cx_layout_Env_Store) (TOk.cons e_mem_Mem_By (TOk.cons e_mem_Mem_Store TOk.nil)) mixedOk Try.func44 (by kernel_rfl) (by kernel_rfl) (by kernel_rfl) q_layout_Env_Store

def xl_layout_Env_Store : List (Nat × Nat) := [(3, 3), (6, 3), (8, 3), (11, 3)]
noncomputable def xc_layout_Env_Store : XC XN :=
(.seq none
 (.reg [⟨none, some 3, [(.tmp 0)], ⟨.lb 3 9, rAny xl_layout_Env_Store (.lb 3 9)⟩⟩])
 (.seq none
 (.reg [⟨none, some 6, [(.tmp 3)], ⟨.f (fFld 7), rFld 7⟩⟩,
  ⟨none, some 7, [(.tmp 6)], ⟨.lr 3 1 false, rLr1 3⟩⟩,
  ⟨none, some 8, [(.tmp 3)], ⟨.f (fFld 8), rFld 8⟩⟩,
  ⟨none, some 9, [(.tmp 8)], ⟨.lr 3 1 false, rLr1 3⟩⟩,
  ⟨none, some 10, [(.tmp 7), (.tmp 9)], ⟨.call .write s_mem_Mem_By v_mem_Mem_By, rCall v_mem_Mem_By⟩⟩])
 (.reg [⟨none, some 11, [(.tmp 3)], ⟨.f (fFld 7), rFld 7⟩⟩,
  ⟨none, some 12, [(.tmp 11)], ⟨.lr 3 1 false, rLr1 3⟩⟩,
  ⟨none, some 13, [(.tmp 1)], ⟨.f fMove, rMove⟩⟩,
  ⟨none, some 14, [(.tmp 2)], ⟨.f fMove, rMove⟩⟩,
  ⟨none, some 15, [(.tmp 12), (.tmp 13), (.tmp 14)], ⟨.call .write s_mem_Mem_Store v_mem_Mem_Store, rCall v_mem_Mem_Store⟩⟩])))
noncomputable def v_layout_Env_Store : EvF := evFn 3 xc_layout_Env_Store []
theorem xt_layout_Env_Store : toC cx_layout_Env_Store (bodyOf Try.f44) = some (xc_layout_Env_Store.map XN.sm) := by kernel_rfl
theorem xr_layout_Env_Store : toR cx_layout_Env_Store Try.f44.results.toList = some [] := by kernel_rfl
theorem xo_layout_Env_Store : xc_layout_Env_Store.ok xl_layout_Env_Store := ⟨⟨rAny_ok (trivial), trivial⟩, ⟨⟨rFld_ok _, rLr1_ok _, rFld_ok _, rLr1_ok _, rCall_ok ve_mem_Mem_By, trivial⟩, ⟨rFld_ok _, rLr1_ok _, rMove_ok, rMove_ok, rCall_ok ve_mem_Mem_Store, trivial⟩⟩⟩
theorem ve_layout_Env_Store : EvOk s_layout_Env_Store v_layout_Env_Store := EvOk.of (evFn_sound (C := cx_layout_Env_Store) xt_layout_Env_Store xr_layout_Env_Store xo_layout_Env_Store) q_layout_Env_Store

attribute [irreducible] w_layout_Env_Store s_layout_Env_Store

/-! ### (*/mem.Mem).Cas -/
def w_mem_Mem_Cas (a0 a1 a2 a3 : Value) (K : Value → Mem → Prop) (σ : Mem) : Prop :=
xF fMove [(.bool false)] fun v8 =>
xF fMove [(.int .i64 0)] fun v9 =>
xF fMove [a0] fun v10 =>
xF fMove [a1] fun v11 =>
s_mem_Mem_step [v10, v11] (fun v12 σ =>
xF (fUn .not) [v12] fun v13 =>
xIf v13
 (xF fMove [(.bool false)] fun v8 =>
xF fMove [(.int .i64 2)] fun v9 =>
K (.tuple #[v8, v9]) σ)
 (xF fMove [a0] fun v14 =>
xF fNil [v14] fun v15 =>
xF (fFld 0) [v15] fun v16 =>
hLoad 1 false [v16] (fun v17 σ =>
xF fMove [a1] fun v18 =>
xF (fIxS 1) [v17, v18] fun v19 =>
hLoad 1 false [v19] (fun v20 σ =>
xF fMove [a2] fun v21 =>
xF (fBin .neq .no) [v20, v21] fun v22 =>
xIf v22
 (xF fMove [(.bool false)] fun v8 =>
xF fMove [(.int .i64 0)] fun v9 =>
K (.tuple #[v8, v9]) σ)
 (xF fMove [a0] fun v23 =>
xF fMove [a1] fun v24 =>
xF fMove [a3] fun v25 =>
s_mem_Mem_set [v23, v24, v25] (fun v26 σ =>
xF fMove [(.bool true)] fun v8 =>
xF fMove [(.int .i64 0)] fun v9 =>
K (.tuple #[v8, v9]) σ) σ)) σ) σ)) σ

def s_mem_Mem_Cas : Spec := fun args K σ => match args with
  | [a0, a1, a2, a3] => w_mem_Mem_Cas a0 a1 a2 a3 K σ
  | _ => False

noncomputable def cx_mem_Mem_Cas : Cx := { P := Try.prog, T := [(62, .write, s_mem_Mem_step), (63, .write, s_mem_Mem_set)], loc := [], eqt := [], n := 27, keep := [] }
theorem q_mem_Mem_Cas : FnS cx_mem_Mem_Cas Try.f46 (bodyOf Try.f46) 4 = s_mem_Mem_Cas := by
  funext args K σ
  rcases args with _ | ⟨a0, _ | ⟨a1, _ | ⟨a2, _ | ⟨a3, _ | ⟨b, r⟩⟩⟩⟩⟩ <;> kernel_rfl
theorem e_mem_Mem_Cas : Entry Try.prog 46 .write s_mem_Mem_Cas :=
  entry (C := cx_mem_Mem_Cas) (TOk.cons e_mem_Mem_step (TOk.cons e_mem_Mem_set TOk.nil)) mixedOk Try.func46 (by kernel_rfl) (by kernel_rfl) (by kernel_rfl) q_mem_Mem_Cas

def xl_mem_Mem_Cas : List (Nat × Nat) := []
noncomputable def xc_mem_Mem_Cas : XC XN :=
(.seq none
 (.reg [⟨none, some 8, [(.const (.bool false))], ⟨.f fMove, rMove⟩⟩,
  ⟨none, some 9, [(.const (.int .i64 0))], ⟨.f fMove, rMove⟩⟩])
 (.seq none
 (.seq none
 (.reg [⟨none, some 10, [(.tmp 0)], ⟨.f fMove, rMove⟩⟩,
  ⟨none, some 11, [(.tmp 1)], ⟨.f fMove, rMove⟩⟩,
  ⟨none, some 12, [(.tmp 10), (.tmp 11)], ⟨.call .write s_mem_Mem_step v_mem_Mem_step, rCall v_mem_Mem_step⟩⟩,
  ⟨none, some 13, [(.tmp 12)], ⟨.f (fUn .not), rNot⟩⟩])
 (.cond (.tmp 13)
 (.seq none
 (.reg [⟨none, some 8, [(.const (.bool false))], ⟨.f fMove, rMove⟩⟩,
  ⟨none, some 9, [(.const (.int .i64 2))], ⟨.f fMove, rMove⟩⟩])
 .ret)
 .skip))
 (.seq none
 (.seq none
 (.reg [⟨none, some 14, [(.tmp 0)], ⟨.f fMove, rMove⟩⟩,
  ⟨none, some 15, [(.tmp 14)], ⟨.f fNil, rNil⟩⟩,
  ⟨none, some 16, [(.tmp 15)], ⟨.f (fFld 0), rFld 0⟩⟩,
  ⟨none, some 17, [(.tmp 16)], ⟨.load 1 false, rLoad1⟩⟩,
  ⟨none, some 18, [(.tmp 1)], ⟨.f fMove, rMove⟩⟩,
  ⟨none, some 19, [(.tmp 17), (.tmp 18)], ⟨.f (fIxS 1), rIxS 1⟩⟩,
  ⟨none, some 20, [(.tmp 19)], ⟨.load 1 false, rLoad1⟩⟩,
  ⟨none, some 21, [(.tmp 2)], ⟨.f fMove, rMove⟩⟩,
  ⟨none, some 22, [(.tmp 20), (.tmp 21)], ⟨.f (fBin .neq .no), rNeq⟩⟩])
 (.cond (.tmp 22)
 (.seq none
 (.reg [⟨none, some 8, [(.const (.bool false))], ⟨.f fMove, rMove⟩⟩,
  ⟨none, some 9, [(.const (.int .i64 0))], ⟨.f fMove, rMove⟩⟩])
 .ret)
 .skip))
 (.seq none
 (.reg [⟨none, some 23, [(.tmp 0)], ⟨.f fMove, rMove⟩⟩,
  ⟨none, some 24, [(.tmp 1)], ⟨.f fMove, rMove⟩⟩,
  ⟨none, some 25, [(.tmp 3)], ⟨.f fMove, rMove⟩⟩,
  ⟨none, some 26, [(.tmp 23), (.tmp 24), (.tmp 25)], ⟨.call .write s_mem_Mem_set v_mem_Mem_set, rCall v_mem_Mem_set⟩⟩])
 (.seq none
 (.reg [⟨none, some 8, [(.const (.bool true))], ⟨.f fMove, rMove⟩⟩,
  ⟨none, some 9, [(.const (.int .i64 0))], ⟨.f fMove, rMove⟩⟩])
 .ret)))))
noncomputable def v_mem_Mem_Cas : EvF := evFn 4 xc_mem_Mem_Cas [.t 8, .t 9]
theorem xt_mem_Mem_Cas : toC cx_mem_Mem_Cas (bodyOf Try.f46) = some (xc_mem_Mem_Cas.map XN.sm) := by kernel_rfl
theorem xr_mem_Mem_Cas : toR cx_mem_Mem_Cas Try.f46.results.toList = some [.t 8, .t 9] := by kernel_rfl
theorem xo_mem_Mem_Cas : xc_mem_Mem_Cas.ok xl_mem_Mem_Cas := ⟨⟨rMove_ok, rMove_ok, trivial⟩, ⟨⟨⟨rMove_ok, rMove_ok, rCall_ok ve_mem_Mem_step, rNot_ok, trivial⟩, ⟨⟨⟨rMove_ok, rMove_ok, trivial⟩, trivial⟩, trivial⟩⟩, ⟨⟨⟨rMove_ok, rNil_ok, rFld_ok _, rLoad1_ok, rMove_ok, rIxS_ok _, rLoad1_ok, rMove_ok, rNeq_ok, trivial⟩, ⟨⟨⟨rMove_ok, rMove_ok, trivial⟩, trivial⟩, trivial⟩⟩, ⟨⟨rMove_ok, rMove_ok, rMove_ok, rCall_ok ve_mem_Mem_set, trivial⟩, ⟨⟨rMove_ok, rMove_ok, trivial⟩, trivial⟩⟩⟩⟩⟩
theorem ve_mem_Mem_Cas : EvOk s_mem_Mem_Cas v_mem_Mem_Cas := EvOk.of (evFn_sound (C := cx_mem_Mem_Cas) xt_mem_Mem_Cas xr_mem_Mem_Cas xo_mem_Mem_Cas) q_mem_Mem_Cas

attribute [irreducible] w_mem_Mem_Cas s_mem_Mem_Cas

/-! ### (/layout.Env).Cas -/
def w_layout_Env_Cas (a0 a1 a2 a3 : Value) (K : Value → Mem → Prop) (σ : Mem) : Prop :=
xC (gBox 9 [a0] []) fun c4 =>
xF fMove [(.bool false)] fun v8 =>
xF (fFld 7) [(locP 4)] fun v11 =>
xO (gLoad 1 false [v11] c4) fun v12 =>
xF (fFld 8) [(locP 4)] fun v13 =>
xO (gLoad 1 false [v13] c4) fun v14 =>
s_mem_Mem_By [v12, v14] (fun v15 σ =>
xF (fFld 7) [(locP 4)] fun v17 =>
xO (gLoad 1 false [v17] c4) fun v18 =>
xF fMove [a1] fun v19 =>
xF fMove [a2] fun v20 =>
xF fMove [a3] fun v21 =>
s_mem_Mem_Cas [v18, v19, v20, v21] (fun v22 σ =>
xF fMove [v22] fun v16 =>
xF (fExt 0) [v16] fun v23 =>
xF (fExt 1) [v16] fun v24 =>
xF fMove [v23] fun v9 =>
xF fMove [v24] fun v10 =>
xF fMove [v9] fun v25 =>
xF fMove [v25] fun v8 =>
K v8 σ) σ) σ

def s_layout_Env_Cas : Spec := fun args K σ => match args with
  | [a0, a1, a2, a3] => w_layout_Env_Cas a0 a1 a2 a3 K σ
  | _ => False

noncomputable def cx_layout_Env_Cas : Cx := { P := Try.prog, T := [(41, .write, s_mem_Mem_By), (46, .write, s_mem_Mem_Cas)], loc := [(4, 4), (11, 4), (13, 4), (17, 4)], eqt := [], n := 26, keep := [] }
theorem q_layout_Env_Cas : FnS cx_layout_Env_Cas Try.f47 (bodyOf Try.f47) 4 = s_layout_Env_Cas := by
  funext args K σ
  rcases args with _ | ⟨a0, _ | ⟨a1, _ | ⟨a2, _ | ⟨a3, _ | ⟨b, r⟩⟩⟩⟩⟩ <;> kernel_rfl
theorem e_layout_Env_Cas : Entry Try.prog 47 .write s_layout_Env_Cas :=
  entry (C := cx_layout_Env_Cas) (TOk.cons e_mem_Mem_By (TOk.cons e_mem_Mem_Cas TOk.nil)) mixedOk Try.func47 (by kernel_rfl) (by kernel_rfl) (by kernel_rfl) q_layout_Env_Cas

def xl_layout_Env_Cas : List (Nat × Nat) := [(4, 4), (11, 4), (13, 4), (17, 4)]
noncomputable def xc_layout_Env_Cas : XC XN :=
(.seq none
 (.reg [⟨none, some 4, [(.tmp 0)], ⟨.lb 4 9, rAny xl_layout_Env_Cas (.lb 4 9)⟩⟩,
  ⟨none, some 8, [(.const (.bool false))], ⟨.f fMove, rMove⟩⟩])
 (.seq none
 (.reg [⟨none, some 11, [(.tmp 4)], ⟨.f (fFld 7), rFld 7⟩⟩,
  ⟨none, some 12, [(.tmp 11)], ⟨.lr 4 1 false, rLr1 4⟩⟩,
  ⟨none, some 13, [(.tmp 4)], ⟨.f (fFld 8), rFld 8⟩⟩,
  ⟨none, some 14, [(.tmp 13)], ⟨.lr 4 1 false, rLr1 4⟩⟩,
  ⟨none, some 15, [(.tmp 12), (.tmp 14)], ⟨.call .write s_mem_Mem_By v_mem_Mem_By, rCall v_mem_Mem_By⟩⟩])
 (.seq none
 (.reg [⟨none, some 17, [(.tmp 4)], ⟨.f (fFld 7), rFld 7⟩⟩,
  ⟨none, some 18, [(.tmp 17)], ⟨.lr 4 1 false, rLr1 4⟩⟩,
  ⟨none, some 19, [(.tmp 1)], ⟨.f fMove, rMove⟩⟩,
  ⟨none, some 20, [(.tmp 2)], ⟨.f fMove, rMove⟩⟩,
  ⟨none, some 21, [(.tmp 3)], ⟨.f fMove, rMove⟩⟩,
  ⟨none, some 22, [(.tmp 18), (.tmp 19), (.tmp 20), (.tmp 21)], ⟨.call .write s_mem_Mem_Cas v_mem_Mem_Cas, rCall v_mem_Mem_Cas⟩⟩,
  ⟨none, some 16, [(.tmp 22)], ⟨.f fMove, rMove⟩⟩,
  ⟨none, some 23, [(.tmp 16)], ⟨.f (fExt 0), rAny xl_layout_Env_Cas (.f (fExt 0))⟩⟩,
  ⟨none, some 24, [(.tmp 16)], ⟨.f (fExt 1), rAny xl_layout_Env_Cas (.f (fExt 1))⟩⟩,
  ⟨none, some 9, [(.tmp 23)], ⟨.f fMove, rMove⟩⟩,
  ⟨none, some 10, [(.tmp 24)], ⟨.f fMove, rMove⟩⟩])
 (.seq none
 (.reg [⟨none, some 25, [(.tmp 9)], ⟨.f fMove, rMove⟩⟩,
  ⟨none, some 8, [(.tmp 25)], ⟨.f fMove, rMove⟩⟩])
 .ret))))
noncomputable def v_layout_Env_Cas : EvF := evFn 4 xc_layout_Env_Cas [.t 8]
theorem xt_layout_Env_Cas : toC cx_layout_Env_Cas (bodyOf Try.f47) = some (xc_layout_Env_Cas.map XN.sm) := by kernel_rfl
theorem xr_layout_Env_Cas : toR cx_layout_Env_Cas Try.f47.results.toList = some [.t 8] := by kernel_rfl
theorem xo_layout_Env_Cas : xc_layout_Env_Cas.ok xl_layout_Env_Cas := ⟨⟨rAny_ok (trivial), rMove_ok, trivial⟩, ⟨⟨rFld_ok _, rLr1_ok _, rFld_ok _, rLr1_ok _, rCall_ok ve_mem_Mem_By, trivial⟩, ⟨⟨rFld_ok _, rLr1_ok _, rMove_ok, rMove_ok, rMove_ok, rCall_ok ve_mem_Mem_Cas, rMove_ok, rAny_ok (eqv_ext _), rAny_ok (eqv_ext _), rMove_ok, rMove_ok, trivial⟩, ⟨⟨rMove_ok, rMove_ok, trivial⟩, trivial⟩⟩⟩⟩
theorem ve_layout_Env_Cas : EvOk s_layout_Env_Cas v_layout_Env_Cas := EvOk.of (evFn_sound (C := cx_layout_Env_Cas) xt_layout_Env_Cas xr_layout_Env_Cas xo_layout_Env_Cas) q_layout_Env_Cas

attribute [irreducible] w_layout_Env_Cas s_layout_Env_Cas

/-! ### (*/mem.Mem).Add -/
def w_mem_Mem_Add (a0 a1 a2 : Value) (K : Value → Mem → Prop) (σ : Mem) : Prop :=
xF fMove [(.int .u64 0)] fun v6 =>
xF fMove [(.int .i64 0)] fun v7 =>
xF fMove [a0] fun v9 =>
xF fMove [a1] fun v10 =>
s_mem_Mem_step [v9, v10] (fun v11 σ =>
xF (fUn .not) [v11] fun v12 =>
xIf v12
 (xF fMove [(.int .u64 0)] fun v6 =>
xF fMove [(.int .i64 2)] fun v7 =>
K (.tuple #[v6, v7]) σ)
 (xF fMove [a0] fun v13 =>
xF fNil [v13] fun v14 =>
xF (fFld 0) [v14] fun v15 =>
hLoad 1 false [v15] (fun v16 σ =>
xF fMove [a1] fun v17 =>
xF (fIxS 1) [v16, v17] fun v18 =>
hLoad 1 false [v18] (fun v19 σ =>
xF fMove [v19] fun v8 =>
xF fMove [a0] fun v20 =>
xF fMove [a1] fun v21 =>
xF fMove [v8] fun v22 =>
xF fMove [a2] fun v23 =>
xF (fBin .add .no) [v22, v23] fun v24 =>
s_mem_Mem_set [v20, v21, v24] (fun v25 σ =>
xF fMove [v8] fun v26 =>
xF fMove [v26] fun v6 =>
xF fMove [(.int .i64 0)] fun v7 =>
K (.tuple #[v6, v7]) σ) σ) σ) σ)) σ

def s_mem_Mem_Add : Spec := fun args K σ => match args with
  | [a0, a1, a2] => w_mem_Mem_Add a0 a1 a2 K σ
  | _ => False

noncomputable def cx_mem_Mem_Add : Cx := { P := Try.prog, T := [(62, .write, s_mem_Mem_step), (63, .write, s_mem_Mem_set)], loc := [], eqt := [], n := 27, keep := [] }
theorem q_mem_Mem_Add : FnS cx_mem_Mem_Add Try.f49 (bodyOf Try.f49) 3 = s_mem_Mem_Add := by
  funext args K σ
  rcases args with _ | ⟨a0, _ | ⟨a1, _ | ⟨a2, _ | ⟨b, r⟩⟩⟩⟩ <;> kernel_rfl
theorem e_mem_Mem_Add : Entry Try.prog 49 .write s_mem_Mem_Add :=
  entry (C := cx_mem_Mem_Add) (TOk.cons e_mem_Mem_step (TOk.cons e_mem_Mem_set TOk.nil)) mixedOk Try.func49 (by kernel_rfl) (by kernel_rfl) (by kernel_rfl) q_mem_Mem_Add

def xl_mem_Mem_Add : List (Nat × Nat) := []
noncomputable def xc_mem_Mem_Add : XC XN :=
(.seq none
 (.reg [⟨none, some 6, [(.const (.int .u64 0))], ⟨.f fMove, rMove⟩⟩,
  ⟨none, some 7, [(.const (.int .i64 0))], ⟨.f fMove, rMove⟩⟩])
 (.seq none
 (.seq none
 (.reg [⟨none, some 9, [(.tmp 0)], ⟨.f fMove, rMove⟩⟩,
  ⟨none, some 10, [(.tmp 1)], ⟨.f fMove, rMove⟩⟩,
  ⟨none, some 11, [(.tmp 9), (.tmp 10)], ⟨.call .write s_mem_Mem_step v_mem_Mem_step, rCall v_mem_Mem_step⟩⟩,
  ⟨none, some 12, [(.tmp 11)], ⟨.f (fUn .not), rNot⟩⟩])
 (.cond (.tmp 12)
 (.seq none
 (.reg [⟨none, some 6, [(.const (.int .u64 0))], ⟨.f fMove, rMove⟩⟩,
  ⟨none, some 7, [(.const (.int .i64 2))], ⟨.f fMove, rMove⟩⟩])
 .ret)
 .skip))
 (.seq none
 (.reg [⟨none, some 13, [(.tmp 0)], ⟨.f fMove, rMove⟩⟩,
  ⟨none, some 14, [(.tmp 13)], ⟨.f fNil, rNil⟩⟩,
  ⟨none, some 15, [(.tmp 14)], ⟨.f (fFld 0), rFld 0⟩⟩,
  ⟨none, some 16, [(.tmp 15)], ⟨.load 1 false, rLoad1⟩⟩,
  ⟨none, some 17, [(.tmp 1)], ⟨.f fMove, rMove⟩⟩,
  ⟨none, some 18, [(.tmp 16), (.tmp 17)], ⟨.f (fIxS 1), rIxS 1⟩⟩,
  ⟨none, some 19, [(.tmp 18)], ⟨.load 1 false, rLoad1⟩⟩,
  ⟨none, some 8, [(.tmp 19)], ⟨.f fMove, rMove⟩⟩])
 (.seq none
 (.reg [⟨none, some 20, [(.tmp 0)], ⟨.f fMove, rMove⟩⟩,
  ⟨none, some 21, [(.tmp 1)], ⟨.f fMove, rMove⟩⟩,
  ⟨none, some 22, [(.tmp 8)], ⟨.f fMove, rMove⟩⟩,
  ⟨none, some 23, [(.tmp 2)], ⟨.f fMove, rMove⟩⟩,
  ⟨none, some 24, [(.tmp 22), (.tmp 23)], ⟨.f (fBin .add .no), rAdd⟩⟩,
  ⟨none, some 25, [(.tmp 20), (.tmp 21), (.tmp 24)], ⟨.call .write s_mem_Mem_set v_mem_Mem_set, rCall v_mem_Mem_set⟩⟩])
 (.seq none
 (.reg [⟨none, some 26, [(.tmp 8)], ⟨.f fMove, rMove⟩⟩,
  ⟨none, some 6, [(.tmp 26)], ⟨.f fMove, rMove⟩⟩,
  ⟨none, some 7, [(.const (.int .i64 0))], ⟨.f fMove, rMove⟩⟩])
 .ret)))))
noncomputable def v_mem_Mem_Add : EvF := evFn 3 xc_mem_Mem_Add [.t 6, .t 7]
theorem xt_mem_Mem_Add : toC cx_mem_Mem_Add (bodyOf Try.f49) = some (xc_mem_Mem_Add.map XN.sm) := by kernel_rfl
theorem xr_mem_Mem_Add : toR cx_mem_Mem_Add Try.f49.results.toList = some [.t 6, .t 7] := by kernel_rfl
theorem xo_mem_Mem_Add : xc_mem_Mem_Add.ok xl_mem_Mem_Add := ⟨⟨rMove_ok, rMove_ok, trivial⟩, ⟨⟨⟨rMove_ok, rMove_ok, rCall_ok ve_mem_Mem_step, rNot_ok, trivial⟩, ⟨⟨⟨rMove_ok, rMove_ok, trivial⟩, trivial⟩, trivial⟩⟩, ⟨⟨rMove_ok, rNil_ok, rFld_ok _, rLoad1_ok, rMove_ok, rIxS_ok _, rLoad1_ok, rMove_ok, trivial⟩, ⟨⟨rMove_ok, rMove_ok, rMove_ok, rMove_ok, rAdd_ok, rCall_ok ve_mem_Mem_set, trivial⟩, ⟨⟨rMove_ok, rMove_ok, rMove_ok, trivial⟩, trivial⟩⟩⟩⟩⟩
theorem ve_mem_Mem_Add : EvOk s_mem_Mem_Add v_mem_Mem_Add := EvOk.of (evFn_sound (C := cx_mem_Mem_Add) xt_mem_Mem_Add xr_mem_Mem_Add xo_mem_Mem_Add) q_mem_Mem_Add

attribute [irreducible] w_mem_Mem_Add s_mem_Mem_Add

/-! ### (/layout.Env).Add -/
def w_layout_Env_Add (a0 a1 a2 : Value) (K : Value → Mem → Prop) (σ : Mem) : Prop :=
xC (gBox 9 [a0] []) fun c3 =>
xF (fFld 7) [(locP 3)] fun v6 =>
xO (gLoad 1 false [v6] c3) fun v7 =>
xF (fFld 8) [(locP 3)] fun v8 =>
xO (gLoad 1 false [v8] c3) fun v9 =>
s_mem_Mem_By [v7, v9] (fun v10 σ =>
xF (fFld 7) [(locP 3)] fun v11 =>
xO (gLoad 1 false [v11] c3) fun v12 =>
xF fMove [a1] fun v13 =>
xF fMove [a2] fun v14 =>
xF (fConv .u64) [v14] fun v15 =>
s_mem_Mem_Add [v12, v13, v15] (fun v16 σ =>
K (.tuple #[]) σ) σ) σ

def s_layout_Env_Add : Spec := fun args K σ => match args with
  | [a0, a1, a2] => w_layout_Env_Add a0 a1 a2 K σ
  | _ => False

noncomputable def cx_layout_Env_Add : Cx := { P := Try.prog, T := [(41, .write, s_mem_Mem_By), (49, .write, s_mem_Mem_Add)], loc := [(3, 3), (6, 3), (8, 3), (11, 3)], eqt := [], n := 17, keep := [] }
theorem q_layout_Env_Add : FnS cx_layout_Env_Add Try.f48 (bodyOf Try.f48) 3 = s_layout_Env_Add := by
  funext args K σ
  rcases args with _ | ⟨a0, _ | ⟨a1, _ | ⟨a2, _ | ⟨b, r⟩⟩⟩⟩ <;> kernel_rfl
theorem e_layout_Env_Add : Entry Try.prog 48 .write s_layout_Env_Add :=
  entry (C := cx_layout_Env_Add) (TOk.cons e_mem_Mem_By (TOk.cons e_mem_Mem_Add TOk.nil)) mixedOk Try.func48 (by kernel_rfl) (by kernel_rfl) (by kernel_rfl) q_layout_Env_Add

def xl_layout_Env_Add : List (Nat × Nat) := [(3, 3), (6, 3), (8, 3), (11, 3)]
noncomputable def xc_layout_Env_Add : XC XN :=
(.seq none
 (.reg [⟨none, some 3, [(.tmp 0)], ⟨.lb 3 9, rAny xl_layout_Env_Add (.lb 3 9)⟩⟩])
 (.seq none
 (.reg [⟨none, some 6, [(.tmp 3)], ⟨.f (fFld 7), rFld 7⟩⟩,
  ⟨none, some 7, [(.tmp 6)], ⟨.lr 3 1 false, rLr1 3⟩⟩,
  ⟨none, some 8, [(.tmp 3)], ⟨.f (fFld 8), rFld 8⟩⟩,
  ⟨none, some 9, [(.tmp 8)], ⟨.lr 3 1 false, rLr1 3⟩⟩,
  ⟨none, some 10, [(.tmp 7), (.tmp 9)], ⟨.call .write s_mem_Mem_By v_mem_Mem_By, rCall v_mem_Mem_By⟩⟩])
 (.reg [⟨none, some 11, [(.tmp 3)], ⟨.f (fFld 7), rFld 7⟩⟩,
  ⟨none, some 12, [(.tmp 11)], ⟨.lr 3 1 false, rLr1 3⟩⟩,
  ⟨none, some 13, [(.tmp 1)], ⟨.f fMove, rMove⟩⟩,
  ⟨none, some 14, [(.tmp 2)], ⟨.f fMove, rMove⟩⟩,
  ⟨none, some 15, [(.tmp 14)], ⟨.f (fConv .u64), rConv .u64⟩⟩,
  ⟨none, some 16, [(.tmp 12), (.tmp 13), (.tmp 15)], ⟨.call .write s_mem_Mem_Add v_mem_Mem_Add, rCall v_mem_Mem_Add⟩⟩])))
noncomputable def v_layout_Env_Add : EvF := evFn 3 xc_layout_Env_Add []
theorem xt_layout_Env_Add : toC cx_layout_Env_Add (bodyOf Try.f48) = some (xc_layout_Env_Add.map XN.sm) := by kernel_rfl
theorem xr_layout_Env_Add : toR cx_layout_Env_Add Try.f48.results.toList = some [] := by kernel_rfl
theorem xo_layout_Env_Add : xc_layout_Env_Add.ok xl_layout_Env_Add := ⟨⟨rAny_ok (trivial), trivial⟩, ⟨⟨rFld_ok _, rLr1_ok _, rFld_ok _, rLr1_ok _, rCall_ok ve_mem_Mem_By, trivial⟩, ⟨rFld_ok _, rLr1_ok _, rMove_ok, rMove_ok, rConv_ok _, rCall_ok ve_mem_Mem_Add, trivial⟩⟩⟩
theorem ve_layout_Env_Add : EvOk s_layout_Env_Add v_layout_Env_Add := EvOk.of (evFn_sound (C := cx_layout_Env_Add) xt_layout_Env_Add xr_layout_Env_Add xo_layout_Env_Add) q_layout_Env_Add

attribute [irreducible] w_layout_Env_Add s_layout_Env_Add

/-! ### (*/mem.Mem).Last -/
def w_mem_Mem_Last (a0 : Value) (K : Value → Mem → Prop) (σ : Mem) : Prop :=
xF fMove [a0] fun v3 =>
xF (fBin .eql .ptr) [v3, (.pointer none)] fun v4 =>
xIf v4
 (xF (fBuild [(0, 1), (1, 1), (2, 1)] [(.int .i64 0), (.int .i64 0), (.bool false)] []) [] fun v5 =>
xC (gStore 3 [(locP 2), v5] [(.int .i64 0), (.int .i64 0), (.bool false)]) fun c2 =>
xO (gLoad 3 true [(locP 2)] c2) fun r2 =>
K r2 σ)
 (xF fMove [a0] fun v6 =>
xF fNil [v6] fun v7 =>
xF (fFld 4) [v7] fun v8 =>
hLoad 3 true [v8] (fun v9 σ =>
xC (gStore 3 [(locP 2), v9] [(.int .i64 0), (.int .i64 0), (.bool false)]) fun c2 =>
xO (gLoad 3 true [(locP 2)] c2) fun r2 =>
K r2 σ) σ)

def s_mem_Mem_Last : Spec := fun args K σ => match args with
  | [a0] => w_mem_Mem_Last a0 K σ
  | _ => False

noncomputable def cx_mem_Mem_Last : Cx := { P := Try.prog, T := [], loc := [(2, 2)], eqt := [(29, .ptr)], n := 10, keep := [] }
theorem q_mem_Mem_Last : FnS cx_mem_Mem_Last Try.f50 (bodyOf Try.f50) 1 = s_mem_Mem_Last := by
  funext args K σ
  rcases args with _ | ⟨a0, _ | ⟨b, r⟩⟩ <;> kernel_rfl
theorem e_mem_Mem_Last : Entry Try.prog 50 .read s_mem_Mem_Last :=
  entry (C := cx_mem_Mem_Last) TOk.nil mixedOk Try.func50 (by kernel_rfl) (by kernel_rfl) (by kernel_rfl) q_mem_Mem_Last

def xl_mem_Mem_Last : List (Nat × Nat) := [(2, 2)]
noncomputable def xc_mem_Mem_Last : XC XN :=
(.seq none
 (.reg [⟨none, some 2, [], ⟨.la 2 [(.int .i64 0), (.int .i64 0), (.bool false)], rAny xl_mem_Mem_Last (.la 2 [(.int .i64 0), (.int .i64 0), (.bool false)])⟩⟩])
 (.seq none
 (.seq none
 (.reg [⟨none, some 3, [(.tmp 0)], ⟨.f fMove, rMove⟩⟩,
  ⟨none, some 4, [(.tmp 3), (.const (.pointer none))], ⟨.f (fBin .eql .ptr), rAny xl_mem_Mem_Last (.f (fBin .eql .ptr))⟩⟩])
 (.cond (.tmp 4)
 (.seq none
 (.reg [⟨none, some 5, [], ⟨.f (fBuild [(0, 1), (1, 1), (2, 1)] [(.int .i64 0), (.int .i64 0), (.bool false)] []), rAny xl_mem_Mem_Last (.f (fBuild [(0, 1), (1, 1), (2, 1)] [(.int .i64 0), (.int .i64 0), (.bool false)] []))⟩⟩,
  ⟨none, none, [(.tmp 2), (.tmp 5)], ⟨.ls 2 3, rAny xl_mem_Mem_Last (.ls 2 3)⟩⟩])
 .ret)
 .skip))
 (.seq none
 (.reg [⟨none, some 6, [(.tmp 0)], ⟨.f fMove, rMove⟩⟩,
  ⟨none, some 7, [(.tmp 6)], ⟨.f fNil, rNil⟩⟩,
  ⟨none, some 8, [(.tmp 7)], ⟨.f (fFld 4), rFld 4⟩⟩,
  ⟨none, some 9, [(.tmp 8)], ⟨.load 3 true, rAny xl_mem_Mem_Last (.load 3 true)⟩⟩,
  ⟨none, none, [(.tmp 2), (.tmp 9)], ⟨.ls 2 3, rAny xl_mem_Mem_Last (.ls 2 3)⟩⟩])
 .ret)))
noncomputable def v_mem_Mem_Last : EvF := evFn 1 xc_mem_Mem_Last [.c 2 2 3 true]
theorem xt_mem_Mem_Last : toC cx_mem_Mem_Last (bodyOf Try.f50) = some (xc_mem_Mem_Last.map XN.sm) := by kernel_rfl
theorem xr_mem_Mem_Last : toR cx_mem_Mem_Last Try.f50.results.toList = some [.c 2 2 3 true] := by kernel_rfl
theorem xo_mem_Mem_Last : xc_mem_Mem_Last.ok xl_mem_Mem_Last := ⟨⟨rAny_ok (trivial), trivial⟩, ⟨⟨⟨rMove_ok, rAny_ok (eqv_bin _ _), trivial⟩, ⟨⟨⟨rAny_ok (eqv_build _ rfl _), rAny_ok (trivial), trivial⟩, trivial⟩, trivial⟩⟩, ⟨⟨rMove_ok, rNil_ok, rFld_ok _, rAny_ok (trivial), rAny_ok (trivial), trivial⟩, trivial⟩⟩⟩
theorem ve_mem_Mem_Last : EvOk s_mem_Mem_Last v_mem_Mem_Last := EvOk.of (evFn_sound (C := cx_mem_Mem_Last) xt_mem_Mem_Last xr_mem_Mem_Last xo_mem_Mem_Last) q_mem_Mem_Last

attribute [irreducible] w_mem_Mem_Last s_mem_Mem_Last

/-! ### (*/mem.Mem).Steps -/
def w_mem_Mem_Steps (a0 : Value) (K : Value → Mem → Prop) (σ : Mem) : Prop :=
xF fMove [(.int .i64 0)] fun v2 =>
xF fMove [a0] fun v3 =>
xF (fBin .eql .ptr) [v3, (.pointer none)] fun v4 =>
xIf v4
 (xF fMove [(.int .i64 0)] fun v2 =>
K v2 σ)
 (xF fMove [a0] fun v5 =>
xF fNil [v5] fun v6 =>
xF (fFld 2) [v6] fun v7 =>
hLoad 1 false [v7] (fun v8 σ =>
xF fMove [v8] fun v2 =>
K v2 σ) σ)

def s_mem_Mem_Steps : Spec := fun args K σ => match args with
  | [a0] => w_mem_Mem_Steps a0 K σ
  | _ => False

noncomputable def cx_mem_Mem_Steps : Cx := { P := Try.prog, T := [], loc := [], eqt := [(29, .ptr)], n := 9, keep := [] }
theorem q_mem_Mem_Steps : FnS cx_mem_Mem_Steps Try.f52 (bodyOf Try.f52) 1 = s_mem_Mem_Steps := by
  funext args K σ
  rcases args with _ | ⟨a0, _ | ⟨b, r⟩⟩ <;> kernel_rfl
theorem e_mem_Mem_Steps : Entry Try.prog 52 .read s_mem_Mem_Steps :=
  entry (C := cx_mem_Mem_Steps) TOk.nil mixedOk Try.func52 (by kernel_rfl) (by kernel_rfl) (by kernel_rfl) q_mem_Mem_Steps

def xl_mem_Mem_Steps : List (Nat × Nat) := []
noncomputable def xc_mem_Mem_Steps : XC XN :=
(.seq none
 (.reg [⟨none, some 2, [(.const (.int .i64 0))], ⟨.f fMove, rMove⟩⟩])
 (.seq none
 (.seq none
 (.reg [⟨none, some 3, [(.tmp 0)], ⟨.f fMove, rMove⟩⟩,
  ⟨none, some 4, [(.tmp 3), (.const (.pointer none))], ⟨.f (fBin .eql .ptr), rAny xl_mem_Mem_Steps (.f (fBin .eql .ptr))⟩⟩])
 (.cond (.tmp 4)
 (.seq none
 (.reg [⟨none, some 2, [(.const (.int .i64 0))], ⟨.f fMove, rMove⟩⟩])
 .ret)
 .skip))
 (.seq none
 (.reg [⟨none, some 5, [(.tmp 0)], ⟨.f fMove, rMove⟩⟩,
  ⟨none, some 6, [(.tmp 5)], ⟨.f fNil, rNil⟩⟩,
  ⟨none, some 7, [(.tmp 6)], ⟨.f (fFld 2), rFld 2⟩⟩,
  ⟨none, some 8, [(.tmp 7)], ⟨.load 1 false, rLoad1⟩⟩,
  ⟨none, some 2, [(.tmp 8)], ⟨.f fMove, rMove⟩⟩])
 .ret)))
noncomputable def v_mem_Mem_Steps : EvF := evFn 1 xc_mem_Mem_Steps [.t 2]
theorem xt_mem_Mem_Steps : toC cx_mem_Mem_Steps (bodyOf Try.f52) = some (xc_mem_Mem_Steps.map XN.sm) := by kernel_rfl
theorem xr_mem_Mem_Steps : toR cx_mem_Mem_Steps Try.f52.results.toList = some [.t 2] := by kernel_rfl
theorem xo_mem_Mem_Steps : xc_mem_Mem_Steps.ok xl_mem_Mem_Steps := ⟨⟨rMove_ok, trivial⟩, ⟨⟨⟨rMove_ok, rAny_ok (eqv_bin _ _), trivial⟩, ⟨⟨⟨rMove_ok, trivial⟩, trivial⟩, trivial⟩⟩, ⟨⟨rMove_ok, rNil_ok, rFld_ok _, rLoad1_ok, rMove_ok, trivial⟩, trivial⟩⟩⟩
theorem ve_mem_Mem_Steps : EvOk s_mem_Mem_Steps v_mem_Mem_Steps := EvOk.of (evFn_sound (C := cx_mem_Mem_Steps) xt_mem_Mem_Steps xr_mem_Mem_Steps xo_mem_Mem_Steps) q_mem_Mem_Steps

attribute [irreducible] w_mem_Mem_Steps s_mem_Mem_Steps

/-! ### (/layout.Env).Now -/
def w_layout_Env_Now (a0 : Value) (K : Value → Mem → Prop) (σ : Mem) : Prop :=
xC (gBox 9 [a0] []) fun c1 =>
xF fMove [(.int .i64 0)] fun v2 =>
xF (fFld 7) [(locP 1)] fun v3 =>
xO (gLoad 1 false [v3] c1) fun v4 =>
s_mem_Mem_Steps [v4] (fun v5 σ =>
xF fMove [v5] fun v2 =>
K v2 σ) σ

def s_layout_Env_Now : Spec := fun args K σ => match args with
  | [a0] => w_layout_Env_Now a0 K σ
  | _ => False

noncomputable def cx_layout_Env_Now : Cx := { P := Try.prog, T := [(52, .read, s_mem_Mem_Steps)], loc := [(1, 1), (3, 1)], eqt := [], n := 6, keep := [] }
theorem q_layout_Env_Now : FnS cx_layout_Env_Now Try.f51 (bodyOf Try.f51) 1 = s_layout_Env_Now := by
  funext args K σ
  rcases args with _ | ⟨a0, _ | ⟨b, r⟩⟩ <;> kernel_rfl
theorem e_layout_Env_Now : Entry Try.prog 51 .read s_layout_Env_Now :=
  entry (C := cx_layout_Env_Now) (TOk.cons e_mem_Mem_Steps TOk.nil) mixedOk Try.func51 (by kernel_rfl) (by kernel_rfl) (by kernel_rfl) q_layout_Env_Now

def xl_layout_Env_Now : List (Nat × Nat) := [(1, 1), (3, 1)]
noncomputable def xc_layout_Env_Now : XC XN :=
(.seq none
 (.reg [⟨none, some 1, [(.tmp 0)], ⟨.lb 1 9, rAny xl_layout_Env_Now (.lb 1 9)⟩⟩,
  ⟨none, some 2, [(.const (.int .i64 0))], ⟨.f fMove, rMove⟩⟩])
 (.seq none
 (.reg [⟨none, some 3, [(.tmp 1)], ⟨.f (fFld 7), rFld 7⟩⟩,
  ⟨none, some 4, [(.tmp 3)], ⟨.lr 1 1 false, rLr1 1⟩⟩,
  ⟨none, some 5, [(.tmp 4)], ⟨.call .read s_mem_Mem_Steps v_mem_Mem_Steps, rCall v_mem_Mem_Steps⟩⟩,
  ⟨none, some 2, [(.tmp 5)], ⟨.f fMove, rMove⟩⟩])
 .ret))
noncomputable def v_layout_Env_Now : EvF := evFn 1 xc_layout_Env_Now [.t 2]
theorem xt_layout_Env_Now : toC cx_layout_Env_Now (bodyOf Try.f51) = some (xc_layout_Env_Now.map XN.sm) := by kernel_rfl
theorem xr_layout_Env_Now : toR cx_layout_Env_Now Try.f51.results.toList = some [.t 2] := by kernel_rfl
theorem xo_layout_Env_Now : xc_layout_Env_Now.ok xl_layout_Env_Now := ⟨⟨rAny_ok (trivial), rMove_ok, trivial⟩, ⟨⟨rFld_ok _, rLr1_ok _, rCall_ok ve_mem_Mem_Steps, rMove_ok, trivial⟩, trivial⟩⟩
theorem ve_layout_Env_Now : EvOk s_layout_Env_Now v_layout_Env_Now := EvOk.of (evFn_sound (C := cx_layout_Env_Now) xt_layout_Env_Now xr_layout_Env_Now xo_layout_Env_Now) q_layout_Env_Now

attribute [irreducible] w_layout_Env_Now s_layout_Env_Now

/-! ### /law04.LayoutEnv -/
def w_law04_LayoutEnv_j2b (K : Value → Mem → Prop) (σ : Mem) : Prop :=
xF fMove [(.bool true)] fun v2 =>
K v2 σ

def w_law04_LayoutEnv_j2 (K : Value → Mem → Prop) (ts : List Value) (ls : List (List Value)) (σ : Mem) : Prop := w_law04_LayoutEnv_j2b K σ

def w_law04_LayoutEnv_j5b (K : Value → Mem → Prop) (J2 : List Value → List (List Value) → Mem → Prop) (R1 : List Value → List (List Value) → Mem → Prop) (v0 v4 v6 v8 v178 : Value) (c3 : List Value) (σ : Mem) : Prop :=
xIf v178
 (xF fMove [(.bool false)] fun v2 =>
K v2 σ)
 (xF fMove [v8] fun v48 =>
xF (fBin .add .no) [v48, (.int .i64 1)] fun v49 =>
xF fMove [v49] fun v8 =>
R1 [v0, v4, v6, v8] [c3] σ)

def w_law04_LayoutEnv_j5 (K : Value → Mem → Prop) (J2 : List Value → List (List Value) → Mem → Prop) (R1 : List Value → List (List Value) → Mem → Prop) (ts : List Value) (ls : List (List Value)) (σ : Mem) : Prop := w_law04_LayoutEnv_j5b K J2 R1 (ts.getD 0 poison) (ts.getD 1 poison) (ts.getD 2 poison) (ts.getD 3 poison) (ts.getD 4 poison) (ls.getD 0 []) σ

def w_law04_LayoutEnv_j4b (K : Value → Mem → Prop) (J2 : List Value → List (List Value) → Mem → Prop) (R1 : List Value → List (List Value) → Mem → Prop) (v0 v4 v6 v8 v11 : Value) (c3 c9 c10 : List Value) (σ : Mem) : Prop :=
xF fMove [v4] fun v147 =>
s_mem_Mem_Last [v147] (fun v148 σ =>
xF fMove [v6] fun v149 =>
s_mem_Mem_Last [v149] (fun v150 σ =>
xC (gStore 3 [(locP 16), v148] [(.int .i64 0), (.int .i64 0), (.bool false)]) fun c16 =>
xC (gStore 3 [(locP 17), v150] [(.int .i64 0), (.int .i64 0), (.bool false)]) fun c17 =>
xJoin (w_law04_LayoutEnv_j5 K J2 R1) fun J5 =>
xF fMove [v4] fun v151 =>
xF fMove [v11] fun v152 =>
s_mem_Mem_Peek [v151, v152] (fun v153 σ =>
xF fMove [v6] fun v154 =>
xF fMove [v11] fun v155 =>
s_mem_Mem_Peek [v154, v155] (fun v156 σ =>
xF (fBin .neq .no) [v153, v156] fun v157 =>
xF fMove [v157] fun v158 =>
xIf v158
 (xF fPick [(.bool true), (.bool true), undef] fun v164 =>
xF fMove [v164] fun v165 =>
xIf v165
 (xF fPick [(.bool true), (.bool true), undef] fun v171 =>
xF fMove [v171] fun v172 =>
xIf v172
 (xF fPick [(.bool true), (.bool true), undef] fun v178 =>
J5 [v0, v4, v6, v8, v178] [c3] σ)
 (xF (fFld 1) [(locP 16)] fun v173 =>
xO (gLoad 1 false [v173] c16) fun v174 =>
xF (fFld 2) [(locP 9)] fun v175 =>
xO (gLoad 1 false [v175] c9) fun v176 =>
xF (fBin .neq .no) [v174, v176] fun v177 =>
xF fPick [(.bool false), (.bool true), v177] fun v178 =>
J5 [v0, v4, v6, v8, v178] [c3] σ))
 (xF (fFld 0) [(locP 16)] fun v166 =>
xO (gLoad 1 false [v166] c16) fun v167 =>
xF (fFld 0) [(locP 17)] fun v168 =>
xO (gLoad 1 false [v168] c17) fun v169 =>
xF (fBin .neq .no) [v167, v169] fun v170 =>
xF fPick [(.bool false), (.bool true), v170] fun v171 =>
xF fMove [v171] fun v172 =>
xIf v172
 (xF fPick [(.bool true), (.bool true), undef] fun v178 =>
J5 [v0, v4, v6, v8, v178] [c3] σ)
 (xF (fFld 1) [(locP 16)] fun v173 =>
xO (gLoad 1 false [v173] c16) fun v174 =>
xF (fFld 2) [(locP 9)] fun v175 =>
xO (gLoad 1 false [v175] c9) fun v176 =>
xF (fBin .neq .no) [v174, v176] fun v177 =>
xF fPick [(.bool false), (.bool true), v177] fun v178 =>
J5 [v0, v4, v6, v8, v178] [c3] σ)))
 (xO (gLoad 9 true [(locP 10)] c10) fun v159 =>
s_layout_Env_Now [v159] (fun v160 σ =>
xF fMove [v6] fun v161 =>
s_mem_Mem_Steps [v161] (fun v162 σ =>
xF (fBin .neq .no) [v160, v162] fun v163 =>
xF fPick [(.bool false), (.bool true), v163] fun v164 =>
xF fMove [v164] fun v165 =>
xIf v165
 (xF fPick [(.bool true), (.bool true), undef] fun v171 =>
xF fMove [v171] fun v172 =>
xIf v172
 (xF fPick [(.bool true), (.bool true), undef] fun v178 =>
J5 [v0, v4, v6, v8, v178] [c3] σ)
 (xF (fFld 1) [(locP 16)] fun v173 =>
xO (gLoad 1 false [v173] c16) fun v174 =>
xF (fFld 2) [(locP 9)] fun v175 =>
xO (gLoad 1 false [v175] c9) fun v176 =>
xF (fBin .neq .no) [v174, v176] fun v177 =>
xF fPick [(.bool false), (.bool true), v177] fun v178 =>
J5 [v0, v4, v6, v8, v178] [c3] σ))
 (xF (fFld 0) [(locP 16)] fun v166 =>
xO (gLoad 1 false [v166] c16) fun v167 =>
xF (fFld 0) [(locP 17)] fun v168 =>
xO (gLoad 1 false [v168] c17) fun v169 =>
xF (fBin .neq .no) [v167, v169] fun v170 =>
xF fPick [(.bool false), (.bool true), v170] fun v171 =>
xF fMove [v171] fun v172 =>
xIf v172
 (xF fPick [(.bool true), (.bool true), undef] fun v178 =>
J5 [v0, v4, v6, v8, v178] [c3] σ)
 (xF (fFld 1) [(locP 16)] fun v173 =>
xO (gLoad 1 false [v173] c16) fun v174 =>
xF (fFld 2) [(locP 9)] fun v175 =>
xO (gLoad 1 false [v175] c9) fun v176 =>
xF (fBin .neq .no) [v174, v176] fun v177 =>
xF fPick [(.bool false), (.bool true), v177] fun v178 =>
J5 [v0, v4, v6, v8, v178] [c3] σ))) σ) σ)) σ) σ) σ) σ

def w_law04_LayoutEnv_j4 (K : Value → Mem → Prop) (J2 : List Value → List (List Value) → Mem → Prop) (R1 : List Value → List (List Value) → Mem → Prop) (ts : List Value) (ls : List (List Value)) (σ : Mem) : Prop := w_law04_LayoutEnv_j4b K J2 R1 (ts.getD 0 poison) (ts.getD 1 poison) (ts.getD 2 poison) (ts.getD 3 poison) (ts.getD 4 poison) (ls.getD 0 []) (ls.getD 1 []) (ls.getD 2 []) σ

def w_law04_LayoutEnv_j6b (K : Value → Mem → Prop) (J2 : List Value → List (List Value) → Mem → Prop) (R1 : List Value → List (List Value) → Mem → Prop) (J4 : List Value → List (List Value) → Mem → Prop) (v0 v4 v6 v8 v11 v143 : Value) (c3 c9 c10 : List Value) (σ : Mem) : Prop :=
xIf v143
 (xF fMove [(.bool false)] fun v2 =>
K v2 σ)
 (xF fMove [v6] fun v144 =>
xF fMove [v11] fun v145 =>
s_mem_Mem_Load [v144, v145] (fun v146 σ =>
J4 [v0, v4, v6, v8, v11] [c3, c9, c10] σ) σ)

def w_law04_LayoutEnv_j6 (K : Value → Mem → Prop) (J2 : List Value → List (List Value) → Mem → Prop) (R1 : List Value → List (List Value) → Mem → Prop) (J4 : List Value → List (List Value) → Mem → Prop) (ts : List Value) (ls : List (List Value)) (σ : Mem) : Prop := w_law04_LayoutEnv_j6b K J2 R1 J4 (ts.getD 0 poison) (ts.getD 1 poison) (ts.getD 2 poison) (ts.getD 3 poison) (ts.getD 4 poison) (ts.getD 5 poison) (ls.getD 0 []) (ls.getD 1 []) (ls.getD 2 []) σ

def w_law04_LayoutEnv_j3b (K : Value → Mem → Prop) (J2 : List Value → List (List Value) → Mem → Prop) (R1 : List Value → List (List Value) → Mem → Prop) (v0 v4 v6 v8 : Value) (c3 : List Value) (σ : Mem) : Prop :=
xF fMove [v0] fun v50 =>
xF fMove [v8] fun v51 =>
xF (fIxS 5) [v50, v51] fun v52 =>
hLoad 5 true [v52] (fun v53 σ =>
xC (gStore 5 [(locP 9), v53] [(.int .i64 0), (.int .i64 0), (.int .i64 0), (.int .i64 0), (.int .u64 0)]) fun c9 =>
xO (gLoad 7 true [(locP 3)] c3) fun v54 =>
xF fMove [v4] fun v55 =>
xF (fFld 2) [(locP 9)] fun v56 =>
xO (gLoad 1 false [v56] c9) fun v57 =>
xF (fBuild [(0, 7), (7, 1), (8, 1)] [(.int .i64 0), (.int .i64 0), (.int .i64 0), (.int .i64 0), (.int .i64 0), (.int .i64 0), (.int .i64 0), (.pointer none), (.int .i64 0)] [0, 1, 2]) [v54, v55, v57] fun v58 =>
xC (gStore 9 [(locP 10), v58] [(.int .i64 0), (.int .i64 0), (.int .i64 0), (.int .i64 0), (.int .i64 0), (.int .i64 0), (.int .i64 0), (.pointer none), (.int .i64 0)]) fun c10 =>
xF (fFld 1) [(locP 9)] fun v59 =>
xO (gLoad 1 false [v59] c9) fun v60 =>
xF fMove [v4] fun v61 =>
s_mem_Mem_Len [v61] (fun v62 σ =>
xF (fBin .rem .no) [v60, v62] fun v63 =>
xF fMove [v4] fun v64 =>
s_mem_Mem_Len [v64] (fun v65 σ =>
xF (fBin .add .no) [v63, v65] fun v66 =>
xF fMove [v4] fun v67 =>
s_mem_Mem_Len [v67] (fun v68 σ =>
xF (fBin .rem .no) [v66, v68] fun v69 =>
xF fMove [v69] fun v11 =>
xF fMove [v6] fun v70 =>
xF (fFld 2) [(locP 9)] fun v71 =>
xO (gLoad 1 false [v71] c9) fun v72 =>
s_mem_Mem_By [v70, v72] (fun v73 σ =>
xJoin (w_law04_LayoutEnv_j4 K J2 R1) fun J4 =>
xF (fFld 0) [(locP 9)] fun v74 =>
xO (gLoad 1 false [v74] c9) fun v75 =>
xF (fBin .eql .no) [v75, (.int .i64 0)] fun v88 =>
xF fMove [v88] fun v87 =>
xIf v87
 (xF fMove [v6] fun v90 =>
xF fMove [v11] fun v91 =>
s_mem_Mem_Load [v90, v91] (fun v92 σ =>
xF fMove [v92] fun v89 =>
xF (fExt 0) [v89] fun v93 =>
xF (fExt 1) [v89] fun v94 =>
xF fMove [v93] fun v12 =>
xF fMove [v94] fun v13 =>
xO (gLoad 9 true [(locP 10)] c10) fun v95 =>
xF fMove [v11] fun v96 =>
s_layout_Env_Load [v95, v96] (fun v97 σ =>
xF fMove [v12] fun v98 =>
xF (fBin .neq .no) [v97, v98] fun v99 =>
xIf v99
 (xF fMove [(.bool false)] fun v2 =>
K v2 σ)
 (J4 [v0, v4, v6, v8, v11] [c3, c9, c10] σ)) σ) σ)
 (xF (fBin .eql .no) [v75, (.int .i64 1)] fun v101 =>
xF fMove [v101] fun v100 =>
xIf v100
 (xO (gLoad 9 true [(locP 10)] c10) fun v102 =>
xF fMove [v11] fun v103 =>
xF (fFld 4) [(locP 9)] fun v104 =>
xO (gLoad 1 false [v104] c9) fun v105 =>
s_layout_Env_Store [v102, v103, v105] (fun v106 σ =>
xF fMove [v6] fun v107 =>
xF fMove [v11] fun v108 =>
xF (fFld 4) [(locP 9)] fun v109 =>
xO (gLoad 1 false [v109] c9) fun v110 =>
s_mem_Mem_Store [v107, v108, v110] (fun v111 σ =>
J4 [v0, v4, v6, v8, v11] [c3, c9, c10] σ) σ) σ)
 (xF (fBin .eql .no) [v75, (.int .i64 2)] fun v113 =>
xF fMove [v113] fun v112 =>
xIf v112
 (xF fMove [v6] fun v115 =>
xF fMove [v11] fun v116 =>
xF fMove [v6] fun v117 =>
xF fMove [v11] fun v118 =>
s_mem_Mem_Peek [v117, v118] (fun v119 σ =>
xF (fFld 4) [(locP 9)] fun v120 =>
xO (gLoad 1 false [v120] c9) fun v121 =>
s_mem_Mem_Cas [v115, v116, v119, v121] (fun v122 σ =>
xF fMove [v122] fun v114 =>
xF (fExt 0) [v114] fun v123 =>
xF (fExt 1) [v114] fun v124 =>
xF fMove [v123] fun v14 =>
xF fMove [v124] fun v15 =>
xJoin (w_law04_LayoutEnv_j6 K J2 R1 J4) fun J6 =>
xO (gLoad 9 true [(locP 10)] c10) fun v125 =>
xF fMove [v11] fun v126 =>
xF fMove [v4] fun v127 =>
xF fMove [v11] fun v128 =>
s_mem_Mem_Peek [v127, v128] (fun v129 σ =>
xF (fFld 4) [(locP 9)] fun v130 =>
xO (gLoad 1 false [v130] c9) fun v131 =>
s_layout_Env_Cas [v125, v126, v129, v131] (fun v132 σ =>
xF fMove [v14] fun v133 =>
xF (fBin .neq .bool) [v132, v133] fun v134 =>
xF fMove [v134] fun v135 =>
xIf v135
 (xF fPick [(.bool true), (.bool true), undef] fun v143 =>
J6 [v0, v4, v6, v8, v11, v143] [c3, c9, c10] σ)
 (xO (gLoad 9 true [(locP 10)] c10) fun v136 =>
xF fMove [v11] fun v137 =>
xF fMove [v4] fun v138 =>
xF fMove [v11] fun v139 =>
s_mem_Mem_Peek [v138, v139] (fun v140 σ =>
xF (fBin .add .no) [v140, (.int .u64 1)] fun v141 =>
s_layout_Env_Cas [v136, v137, v141, (.int .u64 5)] (fun v142 σ =>
xF fPick [(.bool false), (.bool true), v142] fun v143 =>
J6 [v0, v4, v6, v8, v11, v143] [c3, c9, c10] σ) σ) σ)) σ) σ) σ) σ)
 (xO (gLoad 9 true [(locP 10)] c10) fun v76 =>
xF fMove [v11] fun v77 =>
xF (fFld 3) [(locP 9)] fun v78 =>
xO (gLoad 1 false [v78] c9) fun v79 =>
s_layout_Env_Add [v76, v77, v79] (fun v80 σ =>
xF fMove [v6] fun v81 =>
xF fMove [v11] fun v82 =>
xF (fFld 3) [(locP 9)] fun v83 =>
xO (gLoad 1 false [v83] c9) fun v84 =>
xF (fConv .u64) [v84] fun v85 =>
s_mem_Mem_Add [v81, v82, v85] (fun v86 σ =>
J4 [v0, v4, v6, v8, v11] [c3, c9, c10] σ) σ) σ)))) σ) σ) σ) σ) σ

def w_law04_LayoutEnv_j3 (K : Value → Mem → Prop) (J2 : List Value → List (List Value) → Mem → Prop) (R1 : List Value → List (List Value) → Mem → Prop) (ts : List Value) (ls : List (List Value)) (σ : Mem) : Prop := w_law04_LayoutEnv_j3b K J2 R1 (ts.getD 0 poison) (ts.getD 1 poison) (ts.getD 2 poison) (ts.getD 3 poison) (ls.getD 0 []) σ

def w_law04_LayoutEnv_l8b (K : Value → Mem → Prop) (J2 : List Value → List (List Value) → Mem → Prop) (R1 : List Value → List (List Value) → Mem → Prop) (v0 v4 v6 v8 : Value) (c3 : List Value) (σ : Mem) : Prop :=
xJoin (w_law04_LayoutEnv_j3 K J2 R1) fun J3 =>
xF fMove [v8] fun v40 =>
xF fMove [v0] fun v41 =>
xF fLen [v41] fun v42 =>
xF (fBin .lss .no) [v40, v42] fun v43 =>
xF fMove [v43] fun v44 =>
xIf v44
 (xF fMove [v8] fun v45 =>
xF (fBin .lss .no) [v45, (.int .i64 60)] fun v46 =>
xF fPick [(.bool true), v46, (.bool false)] fun v47 =>
xIf v47
 (J3 [v0, v4, v6, v8] [c3] σ)
 (J2 [] [] σ))
 (xF fPick [(.bool false), undef, (.bool false)] fun v47 =>
xIf v47
 (J3 [v0, v4, v6, v8] [c3] σ)
 (J2 [] [] σ))

def w_law04_LayoutEnv_l8 (K : Value → Mem → Prop) (J2 : List Value → List (List Value) → Mem → Prop) (R1 : List Value → List (List Value) → Mem → Prop) (ts : List Value) (ls : List (List Value)) (σ : Mem) : Prop := w_law04_LayoutEnv_l8b K J2 R1 (ts.getD 0 poison) (ts.getD 1 poison) (ts.getD 2 poison) (ts.getD 3 poison) (ls.getD 0 []) σ

def w_law04_LayoutEnv_j1b (K : Value → Mem → Prop) (v0 v4 v6 v39 : Value) (c3 : List Value) (σ : Mem) : Prop :=
xIf v39
 (xF fMove [(.bool false)] fun v2 =>
K v2 σ)
 (xJoin (w_law04_LayoutEnv_j2 K) fun J2 =>
xF fMove [(.int .i64 0)] fun v8 =>
xLoop (w_law04_LayoutEnv_l8 K J2) [v0, v4, v6, v8] [c3] σ)

def w_law04_LayoutEnv_j1 (K : Value → Mem → Prop) (ts : List Value) (ls : List (List Value)) (σ : Mem) : Prop := w_law04_LayoutEnv_j1b K (ts.getD 0 poison) (ts.getD 1 poison) (ts.getD 2 poison) (ts.getD 3 poison) (ls.getD 0 []) σ

def w_law04_LayoutEnv (a0 : Value) (K : Value → Mem → Prop) (σ : Mem) : Prop :=
xF fMove [(.bool false)] fun v2 =>
xF (fBuild [(0, 1), (1, 1), (2, 1), (3, 1), (4, 1), (5, 1), (6, 1)] [(.int .i64 0), (.int .i64 0), (.int .i64 0), (.int .i64 0), (.int .i64 0), (.int .i64 0), (.int .i64 0)] []) [] fun v18 =>
s_law04_Config [v18] (fun v19 σ =>
xC (gStore 7 [(locP 3), v19] [(.int .i64 0), (.int .i64 0), (.int .i64 0), (.int .i64 0), (.int .i64 0), (.int .i64 0), (.int .i64 0)]) fun c3 =>
xO (gLoad 7 true [(locP 3)] c3) fun v21 =>
s_layout_Fresh [v21] (fun v22 σ =>
xF fMove [v22] fun v20 =>
xF (fExt 0) [v20] fun v23 =>
xF (fExt 1) [v20] fun v24 =>
xF fMove [v23] fun v4 =>
xF fMove [v24] fun v5 =>
xO (gLoad 7 true [(locP 3)] c3) fun v26 =>
s_layout_Fresh [v26] (fun v27 σ =>
xF fMove [v27] fun v25 =>
xF (fExt 0) [v25] fun v28 =>
xF (fExt 1) [v25] fun v29 =>
xF fMove [v28] fun v6 =>
xF fMove [v29] fun v7 =>
xJoin (w_law04_LayoutEnv_j1 K) fun J1 =>
s_law04_awake [] (fun v30 σ =>
xF (fUn .not) [v30] fun v31 =>
xF fMove [v31] fun v32 =>
xIf v32
 (xF fPick [(.bool true), (.bool true), undef] fun v35 =>
xF fMove [v35] fun v36 =>
xIf v36
 (xF fPick [(.bool true), (.bool true), undef] fun v39 =>
J1 [a0, v4, v6, v39] [c3] σ)
 (xF fMove [v7] fun v37 =>
xF (fBin .neq .no) [v37, (.int .i64 0)] fun v38 =>
xF fPick [(.bool false), (.bool true), v38] fun v39 =>
J1 [a0, v4, v6, v39] [c3] σ))
 (xF fMove [v5] fun v33 =>
xF (fBin .neq .no) [v33, (.int .i64 0)] fun v34 =>
xF fPick [(.bool false), (.bool true), v34] fun v35 =>
xF fMove [v35] fun v36 =>
xIf v36
 (xF fPick [(.bool true), (.bool true), undef] fun v39 =>
J1 [a0, v4, v6, v39] [c3] σ)
 (xF fMove [v7] fun v37 =>
xF (fBin .neq .no) [v37, (.int .i64 0)] fun v38 =>
xF fPick [(.bool false), (.bool true), v38] fun v39 =>
J1 [a0, v4, v6, v39] [c3] σ))) σ) σ) σ) σ

def s_law04_LayoutEnv : Spec := fun args K σ => match args with
  | [a0] => w_law04_LayoutEnv a0 K σ
  | _ => False

noncomputable def cx_law04_LayoutEnv : Cx := { P := Try.prog, T := [(21, .none, s_law04_Config), (22, .write, s_layout_Fresh), (14, .none, s_law04_awake), (23, .read, s_mem_Mem_Len), (41, .write, s_mem_Mem_By), (42, .write, s_mem_Mem_Load), (43, .write, s_layout_Env_Load), (44, .write, s_layout_Env_Store), (45, .write, s_mem_Mem_Store), (27, .read, s_mem_Mem_Peek), (46, .write, s_mem_Mem_Cas), (47, .write, s_layout_Env_Cas), (48, .write, s_layout_Env_Add), (49, .write, s_mem_Mem_Add), (50, .read, s_mem_Mem_Last), (51, .read, s_layout_Env_Now), (52, .read, s_mem_Mem_Steps)], loc := [(3, 3), (9, 9), (10, 10), (16, 16), (17, 17), (56, 9), (59, 9), (71, 9), (74, 9), (78, 9), (83, 9), (104, 9), (109, 9), (120, 9), (130, 9), (166, 16), (168, 17), (173, 16), (175, 9)], eqt := [(4, .bool)], n := 179, keep := [(8, [0, 4, 6, 8], [3]), (1000006, [0, 4, 6, 39], [3]), (1000010, [0, 4, 6, 8], [3]), (1000027, [0, 4, 6, 8, 11, 143], [3, 9, 10]), (1000029, [0, 4, 6, 8, 11], [3, 9, 10]), (1000031, [0, 4, 6, 8, 178], [3]), (1000032, [], [])] }
theorem q_law04_LayoutEnv : FnS cx_law04_LayoutEnv Try.f9 (bodyOf Try.f9) 1 = s_law04_LayoutEnv := by
  funext args K σ
  rcases args with _ | ⟨a0, _ | ⟨b, r⟩⟩ <;> kernel_rfl
theorem e_law04_LayoutEnv : Entry Try.prog 9 .write s_law04_LayoutEnv :=
  entry (C := cx_law04_LayoutEnv) (TOk.cons e_law04_Config (TOk.cons e_layout_Fresh (TOk.cons e_law04_awake (TOk.cons e_mem_Mem_Len (TOk.cons e_mem_Mem_By (TOk.cons e_mem_Mem_Load (TOk.cons e_layout_Env_Load (TOk.cons e_layout_Env_Store (TOk.cons e_mem_Mem_Store (TOk.cons e_mem_Mem_Peek (TOk.cons e_mem_Mem_Cas (TOk.cons e_layout_Env_Cas (TOk.cons e_layout_Env_Add (TOk.cons e_mem_Mem_Add (TOk.cons e_mem_Mem_Last (TOk.cons e_layout_Env_Now (TOk.cons e_mem_Mem_Steps TOk.nil))))))))))))))))) mixedOk Try.func9 (by kernel_rfl) (by kernel_rfl) (by kernel_rfl) q_law04_LayoutEnv

def xl_law04_LayoutEnv : List (Nat × Nat) := [(3, 3), (9, 9), (10, 10), (16, 16), (17, 17), (56, 9), (59, 9), (71, 9), (74, 9), (78, 9), (83, 9), (104, 9), (109, 9), (120, 9), (130, 9), (166, 16), (168, 17), (173, 16), (175, 9)]
noncomputable def xc_law04_LayoutEnv : XC XN :=
(.seq none
 (.reg [⟨none, some 2, [(.const (.bool false))], ⟨.f fMove, rMove⟩⟩])
 (.seq none
 (.reg [⟨none, some 18, [], ⟨.f (fBuild [(0, 1), (1, 1), (2, 1), (3, 1), (4, 1), (5, 1), (6, 1)] [(.int .i64 0), (.int .i64 0), (.int .i64 0), (.int .i64 0), (.int .i64 0), (.int .i64 0), (.int .i64 0)] []), rAny xl_law04_LayoutEnv (.f (fBuild [(0, 1), (1, 1), (2, 1), (3, 1), (4, 1), (5, 1), (6, 1)] [(.int .i64 0), (.int .i64 0), (.int .i64 0), (.int .i64 0), (.int .i64 0), (.int .i64 0), (.int .i64 0)] []))⟩⟩,
  ⟨none, some 19, [(.tmp 18)], ⟨.call .none s_law04_Config v_law04_Config, rCall v_law04_Config⟩⟩,
  ⟨none, some 3, [], ⟨.la 3 [(.int .i64 0), (.int .i64 0), (.int .i64 0), (.int .i64 0), (.int .i64 0), (.int .i64 0), (.int .i64 0)], rAny xl_law04_LayoutEnv (.la 3 [(.int .i64 0), (.int .i64 0), (.int .i64 0), (.int .i64 0), (.int .i64 0), (.int .i64 0), (.int .i64 0)])⟩⟩,
  ⟨none, none, [(.tmp 3), (.tmp 19)], ⟨.ls 3 7, rAny xl_law04_LayoutEnv (.ls 3 7)⟩⟩])
 (.seq none
 (.reg [⟨none, some 21, [(.tmp 3)], ⟨.lr 3 7 true, rAny xl_law04_LayoutEnv (.lr 3 7 true)⟩⟩,
  ⟨none, some 22, [(.tmp 21)], ⟨.call .write s_layout_Fresh v_layout_Fresh, rCall v_layout_Fresh⟩⟩,
  ⟨none, some 20, [(.tmp 22)], ⟨.f fMove, rMove⟩⟩,
  ⟨none, some 23, [(.tmp 20)], ⟨.f (fExt 0), rAny xl_law04_LayoutEnv (.f (fExt 0))⟩⟩,
  ⟨none, some 24, [(.tmp 20)], ⟨.f (fExt 1), rAny xl_law04_LayoutEnv (.f (fExt 1))⟩⟩,
  ⟨none, some 4, [(.tmp 23)], ⟨.f fMove, rMove⟩⟩,
  ⟨none, some 5, [(.tmp 24)], ⟨.f fMove, rMove⟩⟩])
 (.seq none
 (.reg [⟨none, some 26, [(.tmp 3)], ⟨.lr 3 7 true, rAny xl_law04_LayoutEnv (.lr 3 7 true)⟩⟩,
  ⟨none, some 27, [(.tmp 26)], ⟨.call .write s_layout_Fresh v_layout_Fresh, rCall v_layout_Fresh⟩⟩,
  ⟨none, some 25, [(.tmp 27)], ⟨.f fMove, rMove⟩⟩,
  ⟨none, some 28, [(.tmp 25)], ⟨.f (fExt 0), rAny xl_law04_LayoutEnv (.f (fExt 0))⟩⟩,
  ⟨none, some 29, [(.tmp 25)], ⟨.f (fExt 1), rAny xl_law04_LayoutEnv (.f (fExt 1))⟩⟩,
  ⟨none, some 6, [(.tmp 28)], ⟨.f fMove, rMove⟩⟩,
  ⟨none, some 7, [(.tmp 29)], ⟨.f fMove, rMove⟩⟩])
 (.seq none
 (.seq (some ([0, 4, 6, 39], [3]))
 (.reg [⟨none, some 30, [], ⟨.call .none s_law04_awake v_law04_awake, rCall v_law04_awake⟩⟩,
  ⟨none, some 31, [(.tmp 30)], ⟨.f (fUn .not), rNot⟩⟩,
  ⟨none, some 32, [(.tmp 31)], ⟨.f fMove, rMove⟩⟩,
  ⟨(some (3, 2, false, some 32)), some 33, [(.tmp 5)], ⟨.f fMove, rMove⟩⟩,
  ⟨(some (4, 2, false, some 32)), some 34, [(.tmp 33), (.const (.int .i64 0))], ⟨.f (fBin .neq .no), rNeq⟩⟩,
  ⟨none, some 35, [(.tmp 32), (.const (.bool true)), (.tmp 34)], ⟨.f fPick, rPick⟩⟩,
  ⟨none, some 36, [(.tmp 35)], ⟨.f fMove, rMove⟩⟩,
  ⟨(some (7, 6, false, some 36)), some 37, [(.tmp 7)], ⟨.f fMove, rMove⟩⟩,
  ⟨(some (8, 6, false, some 36)), some 38, [(.tmp 37), (.const (.int .i64 0))], ⟨.f (fBin .neq .no), rNeq⟩⟩,
  ⟨none, some 39, [(.tmp 36), (.const (.bool true)), (.tmp 38)], ⟨.f fPick, rPick⟩⟩])
 (.cond (.tmp 39)
 (.seq none
 (.reg [⟨none, some 2, [(.const (.bool false))], ⟨.f fMove, rMove⟩⟩])
 .ret)
 .skip))
 (.seq (some ([], []))
 (.seq none
 (.reg [⟨none, some 8, [(.const (.int .i64 0))], ⟨.f fMove, rMove⟩⟩])
 (.block 0
 (.loop ([0, 4, 6, 8], [3])
 (.seq (some ([0, 4, 6, 8], [3]))
 (.seq none
 (.reg [⟨none, some 40, [(.tmp 8)], ⟨.f fMove, rMove⟩⟩,
  ⟨none, some 41, [(.tmp 0)], ⟨.f fMove, rMove⟩⟩,
  ⟨none, some 42, [(.tmp 41)], ⟨.f fLen, rAny xl_law04_LayoutEnv (.f fLen)⟩⟩,
  ⟨none, some 43, [(.tmp 40), (.tmp 42)], ⟨.f (fBin .lss .no), rLss⟩⟩,
  ⟨none, some 44, [(.tmp 43)], ⟨.f fMove, rMove⟩⟩,
  ⟨(some (5, 4, true, some 44)), some 45, [(.tmp 8)], ⟨.f fMove, rMove⟩⟩,
  ⟨(some (6, 4, true, some 44)), some 46, [(.tmp 45), (.const (.int .i64 60))], ⟨.f (fBin .lss .no), rLss⟩⟩,
  ⟨none, some 47, [(.tmp 44), (.tmp 46), (.const (.bool false))], ⟨.f fPick, rPick⟩⟩])
 (.cond (.tmp 47)
 .skip
 (.exit 0)))
 (.seq none
 (.block 1
 (.seq none
 (.reg [⟨none, some 50, [(.tmp 0)], ⟨.f fMove, rMove⟩⟩,
  ⟨none, some 51, [(.tmp 8)], ⟨.f fMove, rMove⟩⟩,
  ⟨none, some 52, [(.tmp 50), (.tmp 51)], ⟨.f (fIxS 5), rIxS 5⟩⟩,
  ⟨none, some 53, [(.tmp 52)], ⟨.load 5 true, rAny xl_law04_LayoutEnv (.load 5 true)⟩⟩,
  ⟨none, some 9, [], ⟨.la 9 [(.int .i64 0), (.int .i64 0), (.int .i64 0), (.int .i64 0), (.int .u64 0)], rAny xl_law04_LayoutEnv (.la 9 [(.int .i64 0), (.int .i64 0), (.int .i64 0), (.int .i64 0), (.int .u64 0)])⟩⟩,
  ⟨none, none, [(.tmp 9), (.tmp 53)], ⟨.ls 9 5, rAny xl_law04_LayoutEnv (.ls 9 5)⟩⟩])
 (.seq none
 (.reg [⟨none, some 54, [(.tmp 3)], ⟨.lr 3 7 true, rAny xl_law04_LayoutEnv (.lr 3 7 true)⟩⟩,
  ⟨none, some 55, [(.tmp 4)], ⟨.f fMove, rMove⟩⟩,
  ⟨none, some 56, [(.tmp 9)], ⟨.f (fFld 2), rFld 2⟩⟩,
  ⟨none, some 57, [(.tmp 56)], ⟨.lr 9 1 false, rLr1 9⟩⟩,
  ⟨none, some 58, [(.tmp 54), (.tmp 55), (.tmp 57)], ⟨.f (fBuild [(0, 7), (7, 1), (8, 1)] [(.int .i64 0), (.int .i64 0), (.int .i64 0), (.int .i64 0), (.int .i64 0), (.int .i64 0), (.int .i64 0), (.pointer none), (.int .i64 0)] [0, 1, 2]), rAny xl_law04_LayoutEnv (.f (fBuild [(0, 7), (7, 1), (8, 1)] [(.int .i64 0), (.int .i64 0), (.int .i64 0), (.int .i64 0), (.int .i64 0), (.int .i64 0), (.int .i64 0), (.pointer none), (.int .i64 0)] [0, 1, 2]))⟩⟩,
  ⟨none, some 10, [], ⟨.la 10 [(.int .i64 0), (.int .i64 0), (.int .i64 0), (.int .i64 0), (.int .i64 0), (.int .i64 0), (.int .i64 0), (.pointer none), (.int .i64 0)], rAny xl_law04_LayoutEnv (.la 10 [(.int .i64 0), (.int .i64 0), (.int .i64 0), (.int .i64 0), (.int .i64 0), (.int .i64 0), (.int .i64 0), (.pointer none), (.int .i64 0)])⟩⟩,
  ⟨none, none, [(.tmp 10), (.tmp 58)], ⟨.ls 10 9, rAny xl_law04_LayoutEnv (.ls 10 9)⟩⟩])
 (.seq none
 (.reg [⟨none, some 59, [(.tmp 9)], ⟨.f (fFld 1), rFld 1⟩⟩,
  ⟨none, some 60, [(.tmp 59)], ⟨.lr 9 1 false, rLr1 9⟩⟩,
  ⟨none, some 61, [(.tmp 4)], ⟨.f fMove, rMove⟩⟩,
  ⟨none, some 62, [(.tmp 61)], ⟨.call .read s_mem_Mem_Len v_mem_Mem_Len, rCall v_mem_Mem_Len⟩⟩,
  ⟨none, some 63, [(.tmp 60), (.tmp 62)], ⟨.f (fBin .rem .no), rAny xl_law04_LayoutEnv (.f (fBin .rem .no))⟩⟩,
  ⟨none, some 64, [(.tmp 4)], ⟨.f fMove, rMove⟩⟩,
  ⟨none, some 65, [(.tmp 64)], ⟨.call .read s_mem_Mem_Len v_mem_Mem_Len, rCall v_mem_Mem_Len⟩⟩,
  ⟨none, some 66, [(.tmp 63), (.tmp 65)], ⟨.f (fBin .add .no), rAdd⟩⟩,
  ⟨none, some 67, [(.tmp 4)], ⟨.f fMove, rMove⟩⟩,
  ⟨none, some 68, [(.tmp 67)], ⟨.call .read s_mem_Mem_Len v_mem_Mem_Len, rCall v_mem_Mem_Len⟩⟩,
  ⟨none, some 69, [(.tmp 66), (.tmp 68)], ⟨.f (fBin .rem .no), rAny xl_law04_LayoutEnv (.f (fBin .rem .no))⟩⟩,
  ⟨none, some 11, [(.tmp 69)], ⟨.f fMove, rMove⟩⟩])
 (.seq none
 (.reg [⟨none, some 70, [(.tmp 6)], ⟨.f fMove, rMove⟩⟩,
  ⟨none, some 71, [(.tmp 9)], ⟨.f (fFld 2), rFld 2⟩⟩,
  ⟨none, some 72, [(.tmp 71)], ⟨.lr 9 1 false, rLr1 9⟩⟩,
  ⟨none, some 73, [(.tmp 70), (.tmp 72)], ⟨.call .write s_mem_Mem_By v_mem_Mem_By, rCall v_mem_Mem_By⟩⟩])
 (.seq (some ([0, 4, 6, 8, 11], [3, 9, 10]))
 (.seq none
 (.reg [⟨none, some 74, [(.tmp 9)], ⟨.f (fFld 0), rFld 0⟩⟩,
  ⟨none, some 75, [(.tmp 74)], ⟨.lr 9 1 false, rLr1 9⟩⟩])
 (.block 2
 (.seq none
 (.reg [⟨none, some 88, [(.tmp 75), (.const (.int .i64 0))], ⟨.f (fBin .eql .no), rEql⟩⟩,
  ⟨none, some 87, [(.tmp 88)], ⟨.f fMove, rMove⟩⟩])
 (.cond (.tmp 87)
 (.seq none
 (.reg [⟨none, some 90, [(.tmp 6)], ⟨.f fMove, rMove⟩⟩,
  ⟨none, some 91, [(.tmp 11)], ⟨.f fMove, rMove⟩⟩,
  ⟨none, some 92, [(.tmp 90), (.tmp 91)], ⟨.call .write s_mem_Mem_Load v_mem_Mem_Load, rCall v_mem_Mem_Load⟩⟩,
  ⟨none, some 89, [(.tmp 92)], ⟨.f fMove, rMove⟩⟩,
  ⟨none, some 93, [(.tmp 89)], ⟨.f (fExt 0), rAny xl_law04_LayoutEnv (.f (fExt 0))⟩⟩,
  ⟨none, some 94, [(.tmp 89)], ⟨.f (fExt 1), rAny xl_law04_LayoutEnv (.f (fExt 1))⟩⟩,
  ⟨none, some 12, [(.tmp 93)], ⟨.f fMove, rMove⟩⟩,
  ⟨none, some 13, [(.tmp 94)], ⟨.f fMove, rMove⟩⟩])
 (.seq none
 (.reg [⟨none, some 95, [(.tmp 10)], ⟨.lr 10 9 true, rAny xl_law04_LayoutEnv (.lr 10 9 true)⟩⟩,
  ⟨none, some 96, [(.tmp 11)], ⟨.f fMove, rMove⟩⟩,
  ⟨none, some 97, [(.tmp 95), (.tmp 96)], ⟨.call .write s_layout_Env_Load v_layout_Env_Load, rCall v_layout_Env_Load⟩⟩,
  ⟨none, some 98, [(.tmp 12)], ⟨.f fMove, rMove⟩⟩,
  ⟨none, some 99, [(.tmp 97), (.tmp 98)], ⟨.f (fBin .neq .no), rNeq⟩⟩])
 (.cond (.tmp 99)
 (.seq none
 (.reg [⟨none, some 2, [(.const (.bool false))], ⟨.f fMove, rMove⟩⟩])
 .ret)
 .skip)))
 (.seq none
 (.reg [⟨none, some 101, [(.tmp 75), (.const (.int .i64 1))], ⟨.f (fBin .eql .no), rEql⟩⟩,
  ⟨none, some 100, [(.tmp 101)], ⟨.f fMove, rMove⟩⟩])
 (.cond (.tmp 100)
 (.seq none
 (.reg [⟨none, some 102, [(.tmp 10)], ⟨.lr 10 9 true, rAny xl_law04_LayoutEnv (.lr 10 9 true)⟩⟩,
  ⟨none, some 103, [(.tmp 11)], ⟨.f fMove, rMove⟩⟩,
  ⟨none, some 104, [(.tmp 9)], ⟨.f (fFld 4), rFld 4⟩⟩,
  ⟨none, some 105, [(.tmp 104)], ⟨.lr 9 1 false, rLr1 9⟩⟩,
  ⟨none, some 106, [(.tmp 102), (.tmp 103), (.tmp 105)], ⟨.call .write s_layout_Env_Store v_layout_Env_Store, rCall v_layout_Env_Store⟩⟩])
 (.reg [⟨none, some 107, [(.tmp 6)], ⟨.f fMove, rMove⟩⟩,
  ⟨none, some 108, [(.tmp 11)], ⟨.f fMove, rMove⟩⟩,
  ⟨none, some 109, [(.tmp 9)], ⟨.f (fFld 4), rFld 4⟩⟩,
  ⟨none, some 110, [(.tmp 109)], ⟨.lr 9 1 false, rLr1 9⟩⟩,
  ⟨none, some 111, [(.tmp 107), (.tmp 108), (.tmp 110)], ⟨.call .write s_mem_Mem_Store v_mem_Mem_Store, rCall v_mem_Mem_Store⟩⟩]))
 (.seq none
 (.reg [⟨none, some 113, [(.tmp 75), (.const (.int .i64 2))], ⟨.f (fBin .eql .no), rEql⟩⟩,
  ⟨none, some 112, [(.tmp 113)], ⟨.f fMove, rMove⟩⟩])
 (.cond (.tmp 112)
 (.seq none
 (.reg [⟨none, some 115, [(.tmp 6)], ⟨.f fMove, rMove⟩⟩,
  ⟨none, some 116, [(.tmp 11)], ⟨.f fMove, rMove⟩⟩,
  ⟨none, some 117, [(.tmp 6)], ⟨.f fMove, rMove⟩⟩,
  ⟨none, some 118, [(.tmp 11)], ⟨.f fMove, rMove⟩⟩,
  ⟨none, some 119, [(.tmp 117), (.tmp 118)], ⟨.call .read s_mem_Mem_Peek v_mem_Mem_Peek, rCall v_mem_Mem_Peek⟩⟩,
  ⟨none, some 120, [(.tmp 9)], ⟨.f (fFld 4), rFld 4⟩⟩,
  ⟨none, some 121, [(.tmp 120)], ⟨.lr 9 1 false, rLr1 9⟩⟩,
  ⟨none, some 122, [(.tmp 115), (.tmp 116), (.tmp 119), (.tmp 121)], ⟨.call .write s_mem_Mem_Cas v_mem_Mem_Cas, rCall v_mem_Mem_Cas⟩⟩,
  ⟨none, some 114, [(.tmp 122)], ⟨.f fMove, rMove⟩⟩,
  ⟨none, some 123, [(.tmp 114)], ⟨.f (fExt 0), rAny xl_law04_LayoutEnv (.f (fExt 0))⟩⟩,
  ⟨none, some 124, [(.tmp 114)], ⟨.f (fExt 1), rAny xl_law04_LayoutEnv (.f (fExt 1))⟩⟩,
  ⟨none, some 14, [(.tmp 123)], ⟨.f fMove, rMove⟩⟩,
  ⟨none, some 15, [(.tmp 124)], ⟨.f fMove, rMove⟩⟩])
 (.seq none
 (.seq (some ([0, 4, 6, 8, 11, 143], [3, 9, 10]))
 (.reg [⟨none, some 125, [(.tmp 10)], ⟨.lr 10 9 true, rAny xl_law04_LayoutEnv (.lr 10 9 true)⟩⟩,
  ⟨none, some 126, [(.tmp 11)], ⟨.f fMove, rMove⟩⟩,
  ⟨none, some 127, [(.tmp 4)], ⟨.f fMove, rMove⟩⟩,
  ⟨none, some 128, [(.tmp 11)], ⟨.f fMove, rMove⟩⟩,
  ⟨none, some 129, [(.tmp 127), (.tmp 128)], ⟨.call .read s_mem_Mem_Peek v_mem_Mem_Peek, rCall v_mem_Mem_Peek⟩⟩,
  ⟨none, some 130, [(.tmp 9)], ⟨.f (fFld 4), rFld 4⟩⟩,
  ⟨none, some 131, [(.tmp 130)], ⟨.lr 9 1 false, rLr1 9⟩⟩,
  ⟨none, some 132, [(.tmp 125), (.tmp 126), (.tmp 129), (.tmp 131)], ⟨.call .write s_layout_Env_Cas v_layout_Env_Cas, rCall v_layout_Env_Cas⟩⟩,
  ⟨none, some 133, [(.tmp 14)], ⟨.f fMove, rMove⟩⟩,
  ⟨none, some 134, [(.tmp 132), (.tmp 133)], ⟨.f (fBin .neq .bool), rAny xl_law04_LayoutEnv (.f (fBin .neq .bool))⟩⟩,
  ⟨none, some 135, [(.tmp 134)], ⟨.f fMove, rMove⟩⟩,
  ⟨(some (11, 10, false, some 135)), some 136, [(.tmp 10)], ⟨.lr 10 9 true, rAny xl_law04_LayoutEnv (.lr 10 9 true)⟩⟩,
  ⟨(some (12, 10, false, some 135)), some 137, [(.tmp 11)], ⟨.f fMove, rMove⟩⟩,
  ⟨(some (13, 10, false, some 135)), some 138, [(.tmp 4)], ⟨.f fMove, rMove⟩⟩,
  ⟨(some (14, 10, false, some 135)), some 139, [(.tmp 11)], ⟨.f fMove, rMove⟩⟩,
  ⟨(some (15, 10, false, some 135)), some 140, [(.tmp 138), (.tmp 139)], ⟨.call .read s_mem_Mem_Peek v_mem_Mem_Peek, rCall v_mem_Mem_Peek⟩⟩,
  ⟨(some (16, 10, false, some 135)), some 141, [(.tmp 140), (.const (.int .u64 1))], ⟨.f (fBin .add .no), rAdd⟩⟩,
  ⟨(some (17, 10, false, some 135)), some 142, [(.tmp 136), (.tmp 137), (.tmp 141), (.const (.int .u64 5))], ⟨.call .write s_layout_Env_Cas v_layout_Env_Cas, rCall v_layout_Env_Cas⟩⟩,
  ⟨none, some 143, [(.tmp 135), (.const (.bool true)), (.tmp 142)], ⟨.f fPick, rPick⟩⟩])
 (.cond (.tmp 143)
 (.seq none
 (.reg [⟨none, some 2, [(.const (.bool false))], ⟨.f fMove, rMove⟩⟩])
 .ret)
 .skip))
 (.reg [⟨none, some 144, [(.tmp 6)], ⟨.f fMove, rMove⟩⟩,
  ⟨none, some 145, [(.tmp 11)], ⟨.f fMove, rMove⟩⟩,
  ⟨none, some 146, [(.tmp 144), (.tmp 145)], ⟨.call .write s_mem_Mem_Load v_mem_Mem_Load, rCall v_mem_Mem_Load⟩⟩])))
 (.seq none
 (.reg [⟨none, some 76, [(.tmp 10)], ⟨.lr 10 9 true, rAny xl_law04_LayoutEnv (.lr 10 9 true)⟩⟩,
  ⟨none, some 77, [(.tmp 11)], ⟨.f fMove, rMove⟩⟩,
  ⟨none, some 78, [(.tmp 9)], ⟨.f (fFld 3), rFld 3⟩⟩,
  ⟨none, some 79, [(.tmp 78)], ⟨.lr 9 1 false, rLr1 9⟩⟩,
  ⟨none, some 80, [(.tmp 76), (.tmp 77), (.tmp 79)], ⟨.call .write s_layout_Env_Add v_layout_Env_Add, rCall v_layout_Env_Add⟩⟩])
 (.reg [⟨none, some 81, [(.tmp 6)], ⟨.f fMove, rMove⟩⟩,
  ⟨none, some 82, [(.tmp 11)], ⟨.f fMove, rMove⟩⟩,
  ⟨none, some 83, [(.tmp 9)], ⟨.f (fFld 3), rFld 3⟩⟩,
  ⟨none, some 84, [(.tmp 83)], ⟨.lr 9 1 false, rLr1 9⟩⟩,
  ⟨none, some 85, [(.tmp 84)], ⟨.f (fConv .u64), rConv .u64⟩⟩,
  ⟨none, some 86, [(.tmp 81), (.tmp 82), (.tmp 85)], ⟨.call .write s_mem_Mem_Add v_mem_Mem_Add, rCall v_mem_Mem_Add⟩⟩]))))))))))
 (.seq none
 (.reg [⟨none, some 147, [(.tmp 4)], ⟨.f fMove, rMove⟩⟩,
  ⟨none, some 148, [(.tmp 147)], ⟨.call .read s_mem_Mem_Last v_mem_Mem_Last, rCall v_mem_Mem_Last⟩⟩,
  ⟨none, some 149, [(.tmp 6)], ⟨.f fMove, rMove⟩⟩,
  ⟨none, some 150, [(.tmp 149)], ⟨.call .read s_mem_Mem_Last v_mem_Mem_Last, rCall v_mem_Mem_Last⟩⟩,
  ⟨none, some 16, [], ⟨.la 16 [(.int .i64 0), (.int .i64 0), (.bool false)], rAny xl_law04_LayoutEnv (.la 16 [(.int .i64 0), (.int .i64 0), (.bool false)])⟩⟩,
  ⟨none, some 17, [], ⟨.la 17 [(.int .i64 0), (.int .i64 0), (.bool false)], rAny xl_law04_LayoutEnv (.la 17 [(.int .i64 0), (.int .i64 0), (.bool false)])⟩⟩,
  ⟨none, none, [(.tmp 16), (.tmp 148)], ⟨.ls 16 3, rAny xl_law04_LayoutEnv (.ls 16 3)⟩⟩,
  ⟨none, none, [(.tmp 17), (.tmp 150)], ⟨.ls 17 3, rAny xl_law04_LayoutEnv (.ls 17 3)⟩⟩])
 (.seq (some ([0, 4, 6, 8, 178], [3]))
 (.reg [⟨none, some 151, [(.tmp 4)], ⟨.f fMove, rMove⟩⟩,
  ⟨none, some 152, [(.tmp 11)], ⟨.f fMove, rMove⟩⟩,
  ⟨none, some 153, [(.tmp 151), (.tmp 152)], ⟨.call .read s_mem_Mem_Peek v_mem_Mem_Peek, rCall v_mem_Mem_Peek⟩⟩,
  ⟨none, some 154, [(.tmp 6)], ⟨.f fMove, rMove⟩⟩,
  ⟨none, some 155, [(.tmp 11)], ⟨.f fMove, rMove⟩⟩,
  ⟨none, some 156, [(.tmp 154), (.tmp 155)], ⟨.call .read s_mem_Mem_Peek v_mem_Mem_Peek, rCall v_mem_Mem_Peek⟩⟩,
  ⟨none, some 157, [(.tmp 153), (.tmp 156)], ⟨.f (fBin .neq .no), rNeq⟩⟩,
  ⟨none, some 158, [(.tmp 157)], ⟨.f fMove, rMove⟩⟩,
  ⟨(some (8, 7, false, some 158)), some 159, [(.tmp 10)], ⟨.lr 10 9 true, rAny xl_law04_LayoutEnv (.lr 10 9 true)⟩⟩,
  ⟨(some (9, 7, false, some 158)), some 160, [(.tmp 159)], ⟨.call .read s_layout_Env_Now v_layout_Env_Now, rCall v_layout_Env_Now⟩⟩,
  ⟨(some (10, 7, false, some 158)), some 161, [(.tmp 6)], ⟨.f fMove, rMove⟩⟩,
  ⟨(some (11, 7, false, some 158)), some 162, [(.tmp 161)], ⟨.call .read s_mem_Mem_Steps v_mem_Mem_Steps, rCall v_mem_Mem_Steps⟩⟩,
  ⟨(some (12, 7, false, some 158)), some 163, [(.tmp 160), (.tmp 162)], ⟨.f (fBin .neq .no), rNeq⟩⟩,
  ⟨none, some 164, [(.tmp 158), (.const (.bool true)), (.tmp 163)], ⟨.f fPick, rPick⟩⟩,
  ⟨none, some 165, [(.tmp 164)], ⟨.f fMove, rMove⟩⟩,
  ⟨(some (15, 14, false, some 165)), some 166, [(.tmp 16)], ⟨.f (fFld 0), rFld 0⟩⟩,
  ⟨(some (16, 14, false, some 165)), some 167, [(.tmp 166)], ⟨.lr 16 1 false, rLr1 16⟩⟩,
  ⟨(some (17, 14, false, some 165)), some 168, [(.tmp 17)], ⟨.f (fFld 0), rFld 0⟩⟩,
  ⟨(some (18, 14, false, some 165)), some 169, [(.tmp 168)], ⟨.lr 17 1 false, rLr1 17⟩⟩,
  ⟨(some (19, 14, false, some 165)), some 170, [(.tmp 167), (.tmp 169)], ⟨.f (fBin .neq .no), rNeq⟩⟩,
  ⟨none, some 171, [(.tmp 165), (.const (.bool true)), (.tmp 170)], ⟨.f fPick, rPick⟩⟩,
  ⟨none, some 172, [(.tmp 171)], ⟨.f fMove, rMove⟩⟩,
  ⟨(some (22, 21, false, some 172)), some 173, [(.tmp 16)], ⟨.f (fFld 1), rFld 1⟩⟩,
  ⟨(some (23, 21, false, some 172)), some 174, [(.tmp 173)], ⟨.lr 16 1 false, rLr1 16⟩⟩,
  ⟨(some (24, 21, false, some 172)), some 175, [(.tmp 9)], ⟨.f (fFld 2), rFld 2⟩⟩,
  ⟨(some (25, 21, false, some 172)), some 176, [(.tmp 175)], ⟨.lr 9 1 false, rLr1 9⟩⟩,
  ⟨(some (26, 21, false, some 172)), some 177, [(.tmp 174), (.tmp 176)], ⟨.f (fBin .neq .no), rNeq⟩⟩,
  ⟨none, some 178, [(.tmp 172), (.const (.bool true)), (.tmp 177)], ⟨.f fPick, rPick⟩⟩])
 (.cond (.tmp 178)
 (.seq none
 (.reg [⟨none, some 2, [(.const (.bool false))], ⟨.f fMove, rMove⟩⟩])
 .ret)
 .skip)))))))))
 (.reg [⟨none, some 48, [(.tmp 8)], ⟨.f fMove, rMove⟩⟩,
  ⟨none, some 49, [(.tmp 48), (.const (.int .i64 1))], ⟨.f (fBin .add .no), rAdd⟩⟩,
  ⟨none, some 8, [(.tmp 49)], ⟨.f fMove, rMove⟩⟩]))))))
 (.seq none
 (.reg [⟨none, some 2, [(.const (.bool true))], ⟨.f fMove, rMove⟩⟩])
 .ret)))))))
noncomputable def v_law04_LayoutEnv : EvF := evFn 1 xc_law04_LayoutEnv [.t 2]
theorem xt_law04_LayoutEnv : toC cx_law04_LayoutEnv (bodyOf Try.f9) = some (xc_law04_LayoutEnv.map XN.sm) := by kernel_rfl
theorem xr_law04_LayoutEnv : toR cx_law04_LayoutEnv Try.f9.results.toList = some [.t 2] := by kernel_rfl
theorem xo_law04_LayoutEnv : xc_law04_LayoutEnv.ok xl_law04_LayoutEnv := ⟨⟨rMove_ok, trivial⟩, ⟨⟨rAny_ok (eqv_build _ rfl _), rCall_ok ve_law04_Config, rAny_ok (trivial), rAny_ok (trivial), trivial⟩, ⟨⟨rAny_ok (trivial), rCall_ok ve_layout_Fresh, rMove_ok, rAny_ok (eqv_ext _), rAny_ok (eqv_ext _), rMove_ok, rMove_ok, trivial⟩, ⟨⟨rAny_ok (trivial), rCall_ok ve_layout_Fresh, rMove_ok, rAny_ok (eqv_ext _), rAny_ok (eqv_ext _), rMove_ok, rMove_ok, trivial⟩, ⟨⟨⟨rCall_ok ve_law04_awake, rNot_ok, rMove_ok, rMove_ok, rNeq_ok, rPick_ok, rMove_ok, rMove_ok, rNeq_ok, rPick_ok, trivial⟩, ⟨⟨⟨rMove_ok, trivial⟩, trivial⟩, trivial⟩⟩, ⟨⟨⟨rMove_ok, trivial⟩, ⟨⟨⟨rMove_ok, rMove_ok, rAny_ok (eqv_len), rLss_ok, rMove_ok, rMove_ok, rLss_ok, rPick_ok, trivial⟩, ⟨trivial, trivial⟩⟩, ⟨⟨⟨rMove_ok, rMove_ok, rIxS_ok _, rAny_ok (trivial), rAny_ok (trivial), rAny_ok (trivial), trivial⟩, ⟨⟨rAny_ok (trivial), rMove_ok, rFld_ok _, rLr1_ok _, rAny_ok (eqv_build _ rfl _), rAny_ok (trivial), rAny_ok (trivial), trivial⟩, ⟨⟨rFld_ok _, rLr1_ok _, rMove_ok, rCall_ok ve_mem_Mem_Len, rAny_ok (eqv_bin _ _), rMove_ok, rCall_ok ve_mem_Mem_Len, rAdd_ok, rMove_ok, rCall_ok ve_mem_Mem_Len, rAny_ok (eqv_bin _ _), rMove_ok, trivial⟩, ⟨⟨rMove_ok, rFld_ok _, rLr1_ok _, rCall_ok ve_mem_Mem_By, trivial⟩, ⟨⟨⟨rFld_ok _, rLr1_ok _, trivial⟩, ⟨⟨rEql_ok, rMove_ok, trivial⟩, ⟨⟨⟨rMove_ok, rMove_ok, rCall_ok ve_mem_Mem_Load, rMove_ok, rAny_ok (eqv_ext _), rAny_ok (eqv_ext _), rMove_ok, rMove_ok, trivial⟩, ⟨⟨rAny_ok (trivial), rMove_ok, rCall_ok ve_layout_Env_Load, rMove_ok, rNeq_ok, trivial⟩, ⟨⟨⟨rMove_ok, trivial⟩, trivial⟩, trivial⟩⟩⟩, ⟨⟨rEql_ok, rMove_ok, trivial⟩, ⟨⟨⟨rAny_ok (trivial), rMove_ok, rFld_ok _, rLr1_ok _, rCall_ok ve_layout_Env_Store, trivial⟩, ⟨rMove_ok, rMove_ok, rFld_ok _, rLr1_ok _, rCall_ok ve_mem_Mem_Store, trivial⟩⟩, ⟨⟨rEql_ok, rMove_ok, trivial⟩, ⟨⟨⟨rMove_ok, rMove_ok, rMove_ok, rMove_ok, rCall_ok ve_mem_Mem_Peek, rFld_ok _, rLr1_ok _, rCall_ok ve_mem_Mem_Cas, rMove_ok, rAny_ok (eqv_ext _), rAny_ok (eqv_ext _), rMove_ok, rMove_ok, trivial⟩, ⟨⟨⟨rAny_ok (trivial), rMove_ok, rMove_ok, rMove_ok, rCall_ok ve_mem_Mem_Peek, rFld_ok _, rLr1_ok _, rCall_ok ve_layout_Env_Cas, rMove_ok, rAny_ok (eqv_bin _ _), rMove_ok, rAny_ok (trivial), rMove_ok, rMove_ok, rMove_ok, rCall_ok ve_mem_Mem_Peek, rAdd_ok, rCall_ok ve_layout_Env_Cas, rPick_ok, trivial⟩, ⟨⟨⟨rMove_ok, trivial⟩, trivial⟩, trivial⟩⟩, ⟨rMove_ok, rMove_ok, rCall_ok ve_mem_Mem_Load, trivial⟩⟩⟩, ⟨⟨rAny_ok (trivial), rMove_ok, rFld_ok _, rLr1_ok _, rCall_ok ve_layout_Env_Add, trivial⟩, ⟨rMove_ok, rMove_ok, rFld_ok _, rLr1_ok _, rConv_ok _, rCall_ok ve_mem_Mem_Add, trivial⟩⟩⟩⟩⟩⟩⟩⟩⟩, ⟨⟨rMove_ok, rCall_ok ve_mem_Mem_Last, rMove_ok, rCall_ok ve_mem_Mem_Last, rAny_ok (trivial), rAny_ok (trivial), rAny_ok (trivial), rAny_ok (trivial), trivial⟩, ⟨⟨rMove_ok, rMove_ok, rCall_ok ve_mem_Mem_Peek, rMove_ok, rMove_ok, rCall_ok ve_mem_Mem_Peek, rNeq_ok, rMove_ok, rAny_ok (trivial), rCall_ok ve_layout_Env_Now, rMove_ok, rCall_ok ve_mem_Mem_Steps, rNeq_ok, rPick_ok, rMove_ok, rFld_ok _, rLr1_ok _, rFld_ok _, rLr1_ok _, rNeq_ok, rPick_ok, rMove_ok, rFld_ok _, rLr1_ok _, rFld_ok _, rLr1_ok _, rNeq_ok, rPick_ok, trivial⟩, ⟨⟨⟨rMove_ok, trivial⟩, trivial⟩, trivial⟩⟩⟩⟩⟩⟩⟩⟩, ⟨rMove_ok, rAdd_ok, rMove_ok, trivial⟩⟩⟩⟩, ⟨⟨rMove_ok, trivial⟩, trivial⟩⟩⟩⟩⟩⟩⟩
theorem ve_law04_LayoutEnv : EvOk s_law04_LayoutEnv v_law04_LayoutEnv := EvOk.of (evFn_sound (C := cx_law04_LayoutEnv) xt_law04_LayoutEnv xr_law04_LayoutEnv xo_law04_LayoutEnv) q_law04_LayoutEnv

attribute [irreducible] w_law04_LayoutEnv_j2b w_law04_LayoutEnv_j2 w_law04_LayoutEnv_j5b w_law04_LayoutEnv_j5 w_law04_LayoutEnv_j4b w_law04_LayoutEnv_j4 w_law04_LayoutEnv_j6b w_law04_LayoutEnv_j6 w_law04_LayoutEnv_j3b w_law04_LayoutEnv_j3 w_law04_LayoutEnv_l8b w_law04_LayoutEnv_l8 w_law04_LayoutEnv_j1b w_law04_LayoutEnv_j1 w_law04_LayoutEnv s_law04_LayoutEnv

/-! ### /law04.Arena -/
def w_law04_Arena (a0 a1 a2 a3 : Value) (K : Value → Mem → Prop) (σ : Mem) : Prop :=
xF fMove [(.bool false)] fun v9 =>
xF fMove [a0] fun v13 =>
xF fMove [a1] fun v14 =>
xF fMove [a2] fun v15 =>
xF fMove [a3] fun v16 =>
xF (fBuild [(0, 1), (1, 1), (2, 1), (3, 1), (4, 1), (5, 1), (6, 1)] [(.int .i64 0), (.int .i64 0), (.int .i64 0), (.int .i64 0), (.int .i64 0), (.int .i64 0), (.int .i64 0)] [0, 1, 2, 3, 4, 5, 6]) [v13, v14, v15, v16, (.int .i64 100), (.int .i64 600), (.int .i64 3)] fun v17 =>
xC (gStore 7 [(locP 10), v17] [(.int .i64 0), (.int .i64 0), (.int .i64 0), (.int .i64 0), (.int .i64 0), (.int .i64 0), (.int .i64 0)]) fun c10 =>
xO (gLoad 7 true [(locP 10)] c10) fun v19 =>
s_layout_Fresh [v19] (fun v20 σ =>
xF fMove [v20] fun v18 =>
xF (fExt 0) [v18] fun v21 =>
xF (fExt 1) [v18] fun v22 =>
xF fMove [v21] fun v11 =>
xF fMove [v22] fun v12 =>
xO (gLoad 7 true [(locP 10)] c10) fun v23 =>
xF fMove [v11] fun v24 =>
xF (fBuild [(0, 7), (7, 1), (8, 1)] [(.int .i64 0), (.int .i64 0), (.int .i64 0), (.int .i64 0), (.int .i64 0), (.int .i64 0), (.int .i64 0), (.pointer none), (.int .i64 0)] [0, 1]) [v23, v24] fun v25 =>
xF fMove [v12] fun v26 =>
xF (fBin .eql .no) [v26, (.int .i64 0)] fun v27 =>
xC (gStore 9 [(locP 8), v25] [(.int .i64 0), (.int .i64 0), (.int .i64 0), (.int .i64 0), (.int .i64 0), (.int .i64 0), (.int .i64 0), (.pointer none), (.int .i64 0)]) fun c8 =>
xF fMove [v27] fun v9 =>
xO (gLoad 9 true [(locP 8)] c8) fun r8 =>
K (.tuple #[r8, v9]) σ) σ

def s_law04_Arena : Spec := fun args K σ => match args with
  | [a0, a1, a2, a3] => w_law04_Arena a0 a1 a2 a3 K σ
  | _ => False

noncomputable def cx_law04_Arena : Cx := { P := Try.prog, T := [(22, .write, s_layout_Fresh)], loc := [(8, 8), (10, 10)], eqt := [], n := 28, keep := [] }
theorem q_law04_Arena : FnS cx_law04_Arena Try.f36 (bodyOf Try.f36) 4 = s_law04_Arena := by
  funext args K σ
  rcases args with _ | ⟨a0, _ | ⟨a1, _ | ⟨a2, _ | ⟨a3, _ | ⟨b, r⟩⟩⟩⟩⟩ <;> kernel_rfl
theorem e_law04_Arena : Entry Try.prog 36 .write s_law04_Arena :=
  entry (C := cx_law04_Arena) (TOk.cons e_layout_Fresh TOk.nil) mixedOk Try.func36 (by kernel_rfl) (by kernel_rfl) (by kernel_rfl) q_law04_Arena

def xl_law04_Arena : List (Nat × Nat) := [(8, 8), (10, 10)]
noncomputable def xc_law04_Arena : XC XN :=
(.seq none
 (.reg [⟨none, some 8, [], ⟨.la 8 [(.int .i64 0), (.int .i64 0), (.int .i64 0), (.int .i64 0), (.int .i64 0), (.int .i64 0), (.int .i64 0), (.pointer none), (.int .i64 0)], rAny xl_law04_Arena (.la 8 [(.int .i64 0), (.int .i64 0), (.int .i64 0), (.int .i64 0), (.int .i64 0), (.int .i64 0), (.int .i64 0), (.pointer none), (.int .i64 0)])⟩⟩,
  ⟨none, some 9, [(.const (.bool false))], ⟨.f fMove, rMove⟩⟩])
 (.seq none
 (.reg [⟨none, some 13, [(.tmp 0)], ⟨.f fMove, rMove⟩⟩,
  ⟨none, some 14, [(.tmp 1)], ⟨.f fMove, rMove⟩⟩,
  ⟨none, some 15, [(.tmp 2)], ⟨.f fMove, rMove⟩⟩,
  ⟨none, some 16, [(.tmp 3)], ⟨.f fMove, rMove⟩⟩,
  ⟨none, some 17, [(.tmp 13), (.tmp 14), (.tmp 15), (.tmp 16), (.const (.int .i64 100)), (.const (.int .i64 600)), (.const (.int .i64 3))], ⟨.f (fBuild [(0, 1), (1, 1), (2, 1), (3, 1), (4, 1), (5, 1), (6, 1)] [(.int .i64 0), (.int .i64 0), (.int .i64 0), (.int .i64 0), (.int .i64 0), (.int .i64 0), (.int .i64 0)] [0, 1, 2, 3, 4, 5, 6]), rAny xl_law04_Arena (.f (fBuild [(0, 1), (1, 1), (2, 1), (3, 1), (4, 1), (5, 1), (6, 1)] [(.int .i64 0), (.int .i64 0), (.int .i64 0), (.int .i64 0), (.int .i64 0), (.int .i64 0), (.int .i64 0)] [0, 1, 2, 3, 4, 5, 6]))⟩⟩,
  ⟨none, some 10, [], ⟨.la 10 [(.int .i64 0), (.int .i64 0), (.int .i64 0), (.int .i64 0), (.int .i64 0), (.int .i64 0), (.int .i64 0)], rAny xl_law04_Arena (.la 10 [(.int .i64 0), (.int .i64 0), (.int .i64 0), (.int .i64 0), (.int .i64 0), (.int .i64 0), (.int .i64 0)])⟩⟩,
  ⟨none, none, [(.tmp 10), (.tmp 17)], ⟨.ls 10 7, rAny xl_law04_Arena (.ls 10 7)⟩⟩])
 (.seq none
 (.reg [⟨none, some 19, [(.tmp 10)], ⟨.lr 10 7 true, rAny xl_law04_Arena (.lr 10 7 true)⟩⟩,
  ⟨none, some 20, [(.tmp 19)], ⟨.call .write s_layout_Fresh v_layout_Fresh, rCall v_layout_Fresh⟩⟩,
  ⟨none, some 18, [(.tmp 20)], ⟨.f fMove, rMove⟩⟩,
  ⟨none, some 21, [(.tmp 18)], ⟨.f (fExt 0), rAny xl_law04_Arena (.f (fExt 0))⟩⟩,
  ⟨none, some 22, [(.tmp 18)], ⟨.f (fExt 1), rAny xl_law04_Arena (.f (fExt 1))⟩⟩,
  ⟨none, some 11, [(.tmp 21)], ⟨.f fMove, rMove⟩⟩,
  ⟨none, some 12, [(.tmp 22)], ⟨.f fMove, rMove⟩⟩])
 (.seq none
 (.reg [⟨none, some 23, [(.tmp 10)], ⟨.lr 10 7 true, rAny xl_law04_Arena (.lr 10 7 true)⟩⟩,
  ⟨none, some 24, [(.tmp 11)], ⟨.f fMove, rMove⟩⟩,
  ⟨none, some 25, [(.tmp 23), (.tmp 24)], ⟨.f (fBuild [(0, 7), (7, 1), (8, 1)] [(.int .i64 0), (.int .i64 0), (.int .i64 0), (.int .i64 0), (.int .i64 0), (.int .i64 0), (.int .i64 0), (.pointer none), (.int .i64 0)] [0, 1]), rAny xl_law04_Arena (.f (fBuild [(0, 7), (7, 1), (8, 1)] [(.int .i64 0), (.int .i64 0), (.int .i64 0), (.int .i64 0), (.int .i64 0), (.int .i64 0), (.int .i64 0), (.pointer none), (.int .i64 0)] [0, 1]))⟩⟩,
  ⟨none, some 26, [(.tmp 12)], ⟨.f fMove, rMove⟩⟩,
  ⟨none, some 27, [(.tmp 26), (.const (.int .i64 0))], ⟨.f (fBin .eql .no), rEql⟩⟩,
  ⟨none, none, [(.tmp 8), (.tmp 25)], ⟨.ls 8 9, rAny xl_law04_Arena (.ls 8 9)⟩⟩,
  ⟨none, some 9, [(.tmp 27)], ⟨.f fMove, rMove⟩⟩])
 .ret))))
noncomputable def v_law04_Arena : EvF := evFn 4 xc_law04_Arena [.c 8 8 9 true, .t 9]
theorem xt_law04_Arena : toC cx_law04_Arena (bodyOf Try.f36) = some (xc_law04_Arena.map XN.sm) := by kernel_rfl
theorem xr_law04_Arena : toR cx_law04_Arena Try.f36.results.toList = some [.c 8 8 9 true, .t 9] := by kernel_rfl
theorem xo_law04_Arena : xc_law04_Arena.ok xl_law04_Arena := ⟨⟨rAny_ok (trivial), rMove_ok, trivial⟩, ⟨⟨rMove_ok, rMove_ok, rMove_ok, rMove_ok, rAny_ok (eqv_build _ rfl _), rAny_ok (trivial), rAny_ok (trivial), trivial⟩, ⟨⟨rAny_ok (trivial), rCall_ok ve_layout_Fresh, rMove_ok, rAny_ok (eqv_ext _), rAny_ok (eqv_ext _), rMove_ok, rMove_ok, trivial⟩, ⟨⟨rAny_ok (trivial), rMove_ok, rAny_ok (eqv_build _ rfl _), rMove_ok, rEql_ok, rAny_ok (trivial), rMove_ok, trivial⟩, trivial⟩⟩⟩⟩
theorem ve_law04_Arena : EvOk s_law04_Arena v_law04_Arena := EvOk.of (evFn_sound (C := cx_law04_Arena) xt_law04_Arena xr_law04_Arena xo_law04_Arena) q_law04_Arena

attribute [irreducible] w_law04_Arena s_law04_Arena

/-! ### /word.Top -/
def w_word_Top (a0 : Value) (K : Value → Mem → Prop) (σ : Mem) : Prop :=
xF fMove [(.int .i64 0)] fun v2 =>
xF fMove [(.int .i64 0)] fun v3 =>
xF fMove [a0] fun v4 =>
xF (fBin .and .no) [v4, (.int .u64 131071)] fun v5 =>
xF (fConv .i64) [v5] fun v6 =>
xF (fBin .sub .no) [v6, (.int .i64 1)] fun v7 =>
xF fMove [a0] fun v8 =>
xF (fBin .shr .no) [v8, (.int .u64 17)] fun v9 =>
xF (fBin .and .no) [v9, (.int .u64 68719476735)] fun v10 =>
xF (fConv .i64) [v10] fun v11 =>
xF fMove [v7] fun v2 =>
xF fMove [v11] fun v3 =>
K (.tuple #[v2, v3]) σ

def s_word_Top : Spec := fun args K σ => match args with
  | [a0] => w_word_Top a0 K σ
  | _ => False

noncomputable def cx_word_Top : Cx := { P := Try.prog, T := [], loc := [], eqt := [], n := 12, keep := [] }
theorem q_word_Top : FnS cx_word_Top Try.f57 (bodyOf Try.f57) 1 = s_word_Top := by
  funext args K σ
  rcases args with _ | ⟨a0, _ | ⟨b, r⟩⟩ <;> kernel_rfl
theorem e_word_Top : Entry Try.prog 57 .none s_word_Top :=
  entry (C := cx_word_Top) TOk.nil mixedOk Try.func57 (by kernel_rfl) (by kernel_rfl) (by kernel_rfl) q_word_Top

def xl_word_Top : List (Nat × Nat) := []
noncomputable def xc_word_Top : XC XN :=
(.seq none
 (.reg [⟨none, some 2, [(.const (.int .i64 0))], ⟨.f fMove, rMove⟩⟩,
  ⟨none, some 3, [(.const (.int .i64 0))], ⟨.f fMove, rMove⟩⟩])
 (.seq none
 (.reg [⟨none, some 4, [(.tmp 0)], ⟨.f fMove, rMove⟩⟩,
  ⟨none, some 5, [(.tmp 4), (.const (.int .u64 131071))], ⟨.band .no, rAny xl_word_Top (.band .no)⟩⟩,
  ⟨none, some 6, [(.tmp 5)], ⟨.f (fConv .i64), rConv .i64⟩⟩,
  ⟨none, some 7, [(.tmp 6), (.const (.int .i64 1))], ⟨.f (fBin .sub .no), rSub⟩⟩,
  ⟨none, some 8, [(.tmp 0)], ⟨.f fMove, rMove⟩⟩,
  ⟨none, some 9, [(.tmp 8), (.const (.int .u64 17))], ⟨.f (fBin .shr .no), rAny xl_word_Top (.f (fBin .shr .no))⟩⟩,
  ⟨none, some 10, [(.tmp 9), (.const (.int .u64 68719476735))], ⟨.band .no, rAny xl_word_Top (.band .no)⟩⟩,
  ⟨none, some 11, [(.tmp 10)], ⟨.f (fConv .i64), rConv .i64⟩⟩,
  ⟨none, some 2, [(.tmp 7)], ⟨.f fMove, rMove⟩⟩,
  ⟨none, some 3, [(.tmp 11)], ⟨.f fMove, rMove⟩⟩])
 .ret))
noncomputable def v_word_Top : EvF := evFn 1 xc_word_Top [.t 2, .t 3]
theorem xt_word_Top : toC cx_word_Top (bodyOf Try.f57) = some (xc_word_Top.map XN.sm) := by kernel_rfl
theorem xr_word_Top : toR cx_word_Top Try.f57.results.toList = some [.t 2, .t 3] := by kernel_rfl
theorem xo_word_Top : xc_word_Top.ok xl_word_Top := ⟨⟨rMove_ok, rMove_ok, trivial⟩, ⟨⟨rMove_ok, rAny_ok (trivial), rConv_ok _, rSub_ok, rMove_ok, rAny_ok (eqv_bin _ _), rAny_ok (trivial), rConv_ok _, rMove_ok, rMove_ok, trivial⟩, trivial⟩⟩
theorem ve_word_Top : EvOk s_word_Top v_word_Top := EvOk.of (evFn_sound (C := cx_word_Top) xt_word_Top xr_word_Top xo_word_Top) q_word_Top

attribute [irreducible] w_word_Top s_word_Top

/-! ### (*/slot.Take).Step -/
def w_slot_Take_Step_j1b (K : Value → Mem → Prop) (v0 : Value) (σ : Mem) : Prop :=
xF fMove [v0] fun v88 =>
xF fNil [v88] fun v89 =>
xF (fFld 4) [v89] fun v90 =>
hLoad 1 false [v90] (fun v91 σ =>
xF fMove [v91] fun v4 =>
K v4 σ) σ

def w_slot_Take_Step_j1 (K : Value → Mem → Prop) (ts : List Value) (ls : List (List Value)) (σ : Mem) : Prop := w_slot_Take_Step_j1b K (ts.getD 0 poison) σ

def w_slot_Take_Step (a0 a1 : Value) (K : Value → Mem → Prop) (σ : Mem) : Prop :=
xC (gBox 9 [a1] []) fun c3 =>
xF fMove [(.bool false)] fun v4 =>
xJoin (w_slot_Take_Step_j1 K) fun J1 =>
xF fMove [a0] fun v7 =>
xF fNil [v7] fun v8 =>
xF (fFld 0) [v8] fun v9 =>
hLoad 1 false [v9] (fun v10 σ =>
xF (fBin .eql .no) [v10, (.int .i64 0)] fun v40 =>
xF fMove [v40] fun v39 =>
xIf v39
 (xF fMove [a0] fun v41 =>
xO (gLoad 9 true [(locP 3)] c3) fun v42 =>
s_layout_Top [] (fun v43 σ =>
s_layout_Env_Load [v42, v43] (fun v44 σ =>
xF fNil [v41] fun v45 =>
xF (fFld 1) [v45] fun v46 =>
hStore 1 [v46, v44] (fun _v σ =>
xF fMove [a0] fun v48 =>
xF fMove [a0] fun v49 =>
xF fNil [v49] fun v50 =>
xF (fFld 1) [v50] fun v51 =>
hLoad 1 false [v51] (fun v52 σ =>
s_word_Top [v52] (fun v53 σ =>
xF fMove [v53] fun v47 =>
xF (fExt 0) [v47] fun v54 =>
xF (fExt 1) [v47] fun v55 =>
xF fNil [v48] fun v56 =>
xF (fFld 3) [v56] fun v57 =>
hStore 1 [v57, v54] (fun _v σ =>
xF fMove [a0] fun v58 =>
xF fNil [v58] fun v59 =>
xF (fFld 0) [v59] fun v60 =>
hStore 1 [v60, (.int .i64 1)] (fun _v σ =>
xF fMove [a0] fun v61 =>
xF fNil [v61] fun v62 =>
xF (fFld 3) [v62] fun v63 =>
hLoad 1 false [v63] (fun v64 σ =>
xF (fBin .lss .no) [v64, (.int .i64 0)] fun v65 =>
xF fMove [v65] fun v4 =>
K v4 σ) σ) σ) σ) σ) σ) σ) σ) σ)
 (xF (fBin .eql .no) [v10, (.int .i64 1)] fun v67 =>
xF fMove [v67] fun v66 =>
xIf v66
 (xF fMove [a0] fun v69 =>
xO (gLoad 9 true [(locP 3)] c3) fun v70 =>
xF (fFld 0) [(locP 3)] fun v71 =>
xO (gLoad 7 true [v71] c3) fun v72 =>
xF fMove [a0] fun v73 =>
xF fNil [v73] fun v74 =>
xF (fFld 3) [v74] fun v75 =>
hLoad 1 false [v75] (fun v76 σ =>
s_layout_Slot [v72, v76] (fun v77 σ =>
xF (fBin .add .no) [v77, (.int .i64 1)] fun v78 =>
s_layout_Env_Load [v70, v78] (fun v79 σ =>
s_word_Top [v79] (fun v80 σ =>
xF fMove [v80] fun v68 =>
xF (fExt 0) [v68] fun v81 =>
xF (fExt 1) [v68] fun v82 =>
xF fNil [v69] fun v83 =>
xF (fFld 2) [v83] fun v84 =>
hStore 1 [v84, v81] (fun _v σ =>
xF fMove [a0] fun v85 =>
xF fNil [v85] fun v86 =>
xF (fFld 0) [v86] fun v87 =>
hStore 1 [v87, (.int .i64 2)] (fun _v σ =>
J1 [a0] [] σ) σ) σ) σ) σ) σ) σ)
 (xF fMove [a0] fun v12 =>
xF fNil [v12] fun v13 =>
xF (fFld 1) [v13] fun v14 =>
hLoad 1 false [v14] (fun v15 σ =>
s_word_Top [v15] (fun v16 σ =>
xF fMove [v16] fun v11 =>
xF (fExt 0) [v11] fun v17 =>
xF (fExt 1) [v11] fun v18 =>
xF fMove [v17] fun v5 =>
xF fMove [v18] fun v6 =>
xF fMove [a0] fun v19 =>
xF fNil [v19] fun v20 =>
xF (fFld 0) [v20] fun v21 =>
hStore 1 [v21, (.int .i64 0)] (fun _v σ =>
xF fMove [a0] fun v22 =>
xO (gLoad 9 true [(locP 3)] c3) fun v23 =>
s_layout_Top [] (fun v24 σ =>
xF fMove [a0] fun v25 =>
xF fNil [v25] fun v26 =>
xF (fFld 1) [v26] fun v27 =>
hLoad 1 false [v27] (fun v28 σ =>
xF fMove [a0] fun v29 =>
xF fNil [v29] fun v30 =>
xF (fFld 2) [v30] fun v31 =>
hLoad 1 false [v31] (fun v32 σ =>
xF fMove [v6] fun v33 =>
xF (fBin .add .no) [v33, (.int .i64 1)] fun v34 =>
s_word_PutTop [v32, v34] (fun v35 σ =>
s_layout_Env_Cas [v23, v24, v28, v35] (fun v36 σ =>
xF fNil [v22] fun v37 =>
xF (fFld 4) [v37] fun v38 =>
hStore 1 [v38, v36] (fun _v σ =>
J1 [a0] [] σ) σ) σ) σ) σ) σ) σ) σ) σ) σ))) σ

def s_slot_Take_Step : Spec := fun args K σ => match args with
  | [a0, a1] => w_slot_Take_Step a0 a1 K σ
  | _ => False

noncomputable def cx_slot_Take_Step : Cx := { P := Try.prog, T := [(29, .none, s_layout_Top), (43, .write, s_layout_Env_Load), (57, .none, s_word_Top), (32, .none, s_layout_Slot), (60, .none, s_word_PutTop), (47, .write, s_layout_Env_Cas)], loc := [(3, 3), (71, 3)], eqt := [], n := 92, keep := [(1000014, [0], [])] }
theorem q_slot_Take_Step : FnS cx_slot_Take_Step Try.f39 (bodyOf Try.f39) 2 = s_slot_Take_Step := by
  funext args K σ
  rcases args with _ | ⟨a0, _ | ⟨a1, _ | ⟨b, r⟩⟩⟩ <;> kernel_rfl
theorem e_slot_Take_Step : Entry Try.prog 39 .write s_slot_Take_Step :=
  entry (C := cx_slot_Take_Step) (TOk.cons e_layout_Top (TOk.cons e_layout_Env_Load (TOk.cons e_word_Top (TOk.cons e_layout_Slot (TOk.cons e_word_PutTop (TOk.cons e_layout_Env_Cas TOk.nil)))))) mixedOk Try.func39 (by kernel_rfl) (by kernel_rfl) (by kernel_rfl) q_slot_Take_Step

def xl_slot_Take_Step : List (Nat × Nat) := [(3, 3), (71, 3)]
noncomputable def xc_slot_Take_Step : XC XN :=
(.seq none
 (.reg [⟨none, some 3, [(.tmp 1)], ⟨.lb 3 9, rAny xl_slot_Take_Step (.lb 3 9)⟩⟩,
  ⟨none, some 4, [(.const (.bool false))], ⟨.f fMove, rMove⟩⟩])
 (.seq (some ([0], []))
 (.seq none
 (.reg [⟨none, some 7, [(.tmp 0)], ⟨.f fMove, rMove⟩⟩,
  ⟨none, some 8, [(.tmp 7)], ⟨.f fNil, rNil⟩⟩,
  ⟨none, some 9, [(.tmp 8)], ⟨.f (fFld 0), rFld 0⟩⟩,
  ⟨none, some 10, [(.tmp 9)], ⟨.load 1 false, rLoad1⟩⟩])
 (.block 0
 (.seq none
 (.reg [⟨none, some 40, [(.tmp 10), (.const (.int .i64 0))], ⟨.f (fBin .eql .no), rEql⟩⟩,
  ⟨none, some 39, [(.tmp 40)], ⟨.f fMove, rMove⟩⟩])
 (.cond (.tmp 39)
 (.seq none
 (.reg [⟨none, some 41, [(.tmp 0)], ⟨.f fMove, rMove⟩⟩,
  ⟨none, some 42, [(.tmp 3)], ⟨.lr 3 9 true, rAny xl_slot_Take_Step (.lr 3 9 true)⟩⟩,
  ⟨none, some 43, [], ⟨.call .none s_layout_Top v_layout_Top, rCall v_layout_Top⟩⟩,
  ⟨none, some 44, [(.tmp 42), (.tmp 43)], ⟨.call .write s_layout_Env_Load v_layout_Env_Load, rCall v_layout_Env_Load⟩⟩,
  ⟨none, some 45, [(.tmp 41)], ⟨.f fNil, rNil⟩⟩,
  ⟨none, some 46, [(.tmp 45)], ⟨.f (fFld 1), rFld 1⟩⟩,
  ⟨none, none, [(.tmp 46), (.tmp 44)], ⟨.store 1, rStore1⟩⟩])
 (.seq none
 (.reg [⟨none, some 48, [(.tmp 0)], ⟨.f fMove, rMove⟩⟩,
  ⟨none, some 49, [(.tmp 0)], ⟨.f fMove, rMove⟩⟩,
  ⟨none, some 50, [(.tmp 49)], ⟨.f fNil, rNil⟩⟩,
  ⟨none, some 51, [(.tmp 50)], ⟨.f (fFld 1), rFld 1⟩⟩,
  ⟨none, some 52, [(.tmp 51)], ⟨.load 1 false, rLoad1⟩⟩,
  ⟨none, some 53, [(.tmp 52)], ⟨.call .none s_word_Top v_word_Top, rCall v_word_Top⟩⟩,
  ⟨none, some 47, [(.tmp 53)], ⟨.f fMove, rMove⟩⟩,
  ⟨none, some 54, [(.tmp 47)], ⟨.f (fExt 0), rAny xl_slot_Take_Step (.f (fExt 0))⟩⟩,
  ⟨none, some 55, [(.tmp 47)], ⟨.f (fExt 1), rAny xl_slot_Take_Step (.f (fExt 1))⟩⟩,
  ⟨none, some 56, [(.tmp 48)], ⟨.f fNil, rNil⟩⟩,
  ⟨none, some 57, [(.tmp 56)], ⟨.f (fFld 3), rFld 3⟩⟩,
  ⟨none, none, [(.tmp 57), (.tmp 54)], ⟨.store 1, rStore1⟩⟩])
 (.seq none
 (.reg [⟨none, some 58, [(.tmp 0)], ⟨.f fMove, rMove⟩⟩,
  ⟨none, some 59, [(.tmp 58)], ⟨.f fNil, rNil⟩⟩,
  ⟨none, some 60, [(.tmp 59)], ⟨.f (fFld 0), rFld 0⟩⟩,
  ⟨none, none, [(.tmp 60), (.const (.int .i64 1))], ⟨.store 1, rStore1⟩⟩])
 (.seq none
 (.reg [⟨none, some 61, [(.tmp 0)], ⟨.f fMove, rMove⟩⟩,
  ⟨none, some 62, [(.tmp 61)], ⟨.f fNil, rNil⟩⟩,
  ⟨none, some 63, [(.tmp 62)], ⟨.f (fFld 3), rFld 3⟩⟩,
  ⟨none, some 64, [(.tmp 63)], ⟨.load 1 false, rLoad1⟩⟩,
  ⟨none, some 65, [(.tmp 64), (.const (.int .i64 0))], ⟨.f (fBin .lss .no), rLss⟩⟩,
  ⟨none, some 4, [(.tmp 65)], ⟨.f fMove, rMove⟩⟩])
 .ret))))
 (.seq none
 (.reg [⟨none, some 67, [(.tmp 10), (.const (.int .i64 1))], ⟨.f (fBin .eql .no), rEql⟩⟩,
  ⟨none, some 66, [(.tmp 67)], ⟨.f fMove, rMove⟩⟩])
 (.cond (.tmp 66)
 (.seq none
 (.reg [⟨none, some 69, [(.tmp 0)], ⟨.f fMove, rMove⟩⟩,
  ⟨none, some 70, [(.tmp 3)], ⟨.lr 3 9 true, rAny xl_slot_Take_Step (.lr 3 9 true)⟩⟩,
  ⟨none, some 71, [(.tmp 3)], ⟨.f (fFld 0), rFld 0⟩⟩,
  ⟨none, some 72, [(.tmp 71)], ⟨.lr 3 7 true, rAny xl_slot_Take_Step (.lr 3 7 true)⟩⟩,
  ⟨none, some 73, [(.tmp 0)], ⟨.f fMove, rMove⟩⟩,
  ⟨none, some 74, [(.tmp 73)], ⟨.f fNil, rNil⟩⟩,
  ⟨none, some 75, [(.tmp 74)], ⟨.f (fFld 3), rFld 3⟩⟩,
  ⟨none, some 76, [(.tmp 75)], ⟨.load 1 false, rLoad1⟩⟩,
  ⟨none, some 77, [(.tmp 72), (.tmp 76)], ⟨.call .none s_layout_Slot v_layout_Slot, rCall v_layout_Slot⟩⟩,
  ⟨none, some 78, [(.tmp 77), (.const (.int .i64 1))], ⟨.f (fBin .add .no), rAdd⟩⟩,
  ⟨none, some 79, [(.tmp 70), (.tmp 78)], ⟨.call .write s_layout_Env_Load v_layout_Env_Load, rCall v_layout_Env_Load⟩⟩,
  ⟨none, some 80, [(.tmp 79)], ⟨.call .none s_word_Top v_word_Top, rCall v_word_Top⟩⟩,
  ⟨none, some 68, [(.tmp 80)], ⟨.f fMove, rMove⟩⟩,
  ⟨none, some 81, [(.tmp 68)], ⟨.f (fExt 0), rAny xl_slot_Take_Step (.f (fExt 0))⟩⟩,
  ⟨none, some 82, [(.tmp 68)], ⟨.f (fExt 1), rAny xl_slot_Take_Step (.f (fExt 1))⟩⟩,
  ⟨none, some 83, [(.tmp 69)], ⟨.f fNil, rNil⟩⟩,
  ⟨none, some 84, [(.tmp 83)], ⟨.f (fFld 2), rFld 2⟩⟩,
  ⟨none, none, [(.tmp 84), (.tmp 81)], ⟨.store 1, rStore1⟩⟩])
 (.reg [⟨none, some 85, [(.tmp 0)], ⟨.f fMove, rMove⟩⟩,
  ⟨none, some 86, [(.tmp 85)], ⟨.f fNil, rNil⟩⟩,
  ⟨none, some 87, [(.tmp 86)], ⟨.f (fFld 0), rFld 0⟩⟩,
  ⟨none, none, [(.tmp 87), (.const (.int .i64 2))], ⟨.store 1, rStore1⟩⟩]))
 (.seq none
 (.reg [⟨none, some 12, [(.tmp 0)], ⟨.f fMove, rMove⟩⟩,
  ⟨none, some 13, [(.tmp 12)], ⟨.f fNil, rNil⟩⟩,
  ⟨none, some 14, [(.tmp 13)], ⟨.f (fFld 1), rFld 1⟩⟩,
  ⟨none, some 15, [(.tmp 14)], ⟨.load 1 false, rLoad1⟩⟩,
  ⟨none, some 16, [(.tmp 15)], ⟨.call .none s_word_Top v_word_Top, rCall v_word_Top⟩⟩,
  ⟨none, some 11, [(.tmp 16)], ⟨.f fMove, rMove⟩⟩,
  ⟨none, some 17, [(.tmp 11)], ⟨.f (fExt 0), rAny xl_slot_Take_Step (.f (fExt 0))⟩⟩,
  ⟨none, some 18, [(.tmp 11)], ⟨.f (fExt 1), rAny xl_slot_Take_Step (.f (fExt 1))⟩⟩,
  ⟨none, some 5, [(.tmp 17)], ⟨.f fMove, rMove⟩⟩,
  ⟨none, some 6, [(.tmp 18)], ⟨.f fMove, rMove⟩⟩])
 (.seq none
 (.reg [⟨none, some 19, [(.tmp 0)], ⟨.f fMove, rMove⟩⟩,
  ⟨none, some 20, [(.tmp 19)], ⟨.f fNil, rNil⟩⟩,
  ⟨none, some 21, [(.tmp 20)], ⟨.f (fFld 0), rFld 0⟩⟩,
  ⟨none, none, [(.tmp 21), (.const (.int .i64 0))], ⟨.store 1, rStore1⟩⟩])
 (.reg [⟨none, some 22, [(.tmp 0)], ⟨.f fMove, rMove⟩⟩,
  ⟨none, some 23, [(.tmp 3)], ⟨.lr 3 9 true, rAny xl_slot_Take_Step (.lr 3 9 true)⟩⟩,
  ⟨none, some 24, [], ⟨.call .none s_layout_Top v_layout_Top, rCall v_layout_Top⟩⟩,
  ⟨none, some 25, [(.tmp 0)], ⟨.f fMove, rMove⟩⟩,
  ⟨none, some 26, [(.tmp 25)], ⟨.f fNil, rNil⟩⟩,
  ⟨none, some 27, [(.tmp 26)], ⟨.f (fFld 1), rFld 1⟩⟩,
  ⟨none, some 28, [(.tmp 27)], ⟨.load 1 false, rLoad1⟩⟩,
  ⟨none, some 29, [(.tmp 0)], ⟨.f fMove, rMove⟩⟩,
  ⟨none, some 30, [(.tmp 29)], ⟨.f fNil, rNil⟩⟩,
  ⟨none, some 31, [(.tmp 30)], ⟨.f (fFld 2), rFld 2⟩⟩,
  ⟨none, some 32, [(.tmp 31)], ⟨.load 1 false, rLoad1⟩⟩,
  ⟨none, some 33, [(.tmp 6)], ⟨.f fMove, rMove⟩⟩,
  ⟨none, some 34, [(.tmp 33), (.const (.int .i64 1))], ⟨.f (fBin .add .no), rAdd⟩⟩,
  ⟨none, some 35, [(.tmp 32), (.tmp 34)], ⟨.call .none s_word_PutTop v_word_PutTop, rCall v_word_PutTop⟩⟩,
  ⟨none, some 36, [(.tmp 23), (.tmp 24), (.tmp 28), (.tmp 35)], ⟨.call .write s_layout_Env_Cas v_layout_Env_Cas, rCall v_layout_Env_Cas⟩⟩,
  ⟨none, some 37, [(.tmp 22)], ⟨.f fNil, rNil⟩⟩,
  ⟨none, some 38, [(.tmp 37)], ⟨.f (fFld 4), rFld 4⟩⟩,
  ⟨none, none, [(.tmp 38), (.tmp 36)], ⟨.store 1, rStore1⟩⟩])))))))))
 (.seq none
 (.reg [⟨none, some 88, [(.tmp 0)], ⟨.f fMove, rMove⟩⟩,
  ⟨none, some 89, [(.tmp 88)], ⟨.f fNil, rNil⟩⟩,
  ⟨none, some 90, [(.tmp 89)], ⟨.f (fFld 4), rFld 4⟩⟩,
  ⟨none, some 91, [(.tmp 90)], ⟨.load 1 false, rLoad1⟩⟩,
  ⟨none, some 4, [(.tmp 91)], ⟨.f fMove, rMove⟩⟩])
 .ret)))
noncomputable def v_slot_Take_Step : EvF := evFn 2 xc_slot_Take_Step [.t 4]
theorem xt_slot_Take_Step : toC cx_slot_Take_Step (bodyOf Try.f39) = some (xc_slot_Take_Step.map XN.sm) := by kernel_rfl
theorem xr_slot_Take_Step : toR cx_slot_Take_Step Try.f39.results.toList = some [.t 4] := by kernel_rfl
theorem xo_slot_Take_Step : xc_slot_Take_Step.ok xl_slot_Take_Step := ⟨⟨rAny_ok (trivial), rMove_ok, trivial⟩, ⟨⟨⟨rMove_ok, rNil_ok, rFld_ok _, rLoad1_ok, trivial⟩, ⟨⟨rEql_ok, rMove_ok, trivial⟩, ⟨⟨⟨rMove_ok, rAny_ok (trivial), rCall_ok ve_layout_Top, rCall_ok ve_layout_Env_Load, rNil_ok, rFld_ok _, rStore1_ok, trivial⟩, ⟨⟨rMove_ok, rMove_ok, rNil_ok, rFld_ok _, rLoad1_ok, rCall_ok ve_word_Top, rMove_ok, rAny_ok (eqv_ext _), rAny_ok (eqv_ext _), rNil_ok, rFld_ok _, rStore1_ok, trivial⟩, ⟨⟨rMove_ok, rNil_ok, rFld_ok _, rStore1_ok, trivial⟩, ⟨⟨rMove_ok, rNil_ok, rFld_ok _, rLoad1_ok, rLss_ok, rMove_ok, trivial⟩, trivial⟩⟩⟩⟩, ⟨⟨rEql_ok, rMove_ok, trivial⟩, ⟨⟨⟨rMove_ok, rAny_ok (trivial), rFld_ok _, rAny_ok (trivial), rMove_ok, rNil_ok, rFld_ok _, rLoad1_ok, rCall_ok ve_layout_Slot, rAdd_ok, rCall_ok ve_layout_Env_Load, rCall_ok ve_word_Top, rMove_ok, rAny_ok (eqv_ext _), rAny_ok (eqv_ext _), rNil_ok, rFld_ok _, rStore1_ok, trivial⟩, ⟨rMove_ok, rNil_ok, rFld_ok _, rStore1_ok, trivial⟩⟩, ⟨⟨rMove_ok, rNil_ok, rFld_ok _, rLoad1_ok, rCall_ok ve_word_Top, rMove_ok, rAny_ok (eqv_ext _), rAny_ok (eqv_ext _), rMove_ok, rMove_ok, trivial⟩, ⟨⟨rMove_ok, rNil_ok, rFld_ok _, rStore1_ok, trivial⟩, ⟨rMove_ok, rAny_ok (trivial), rCall_ok ve_layout_Top, rMove_ok, rNil_ok, rFld_ok _, rLoad1_ok, rMove_ok, rNil_ok, rFld_ok _, rLoad1_ok, rMove_ok, rAdd_ok, rCall_ok ve_word_PutTop, rCall_ok ve_layout_Env_Cas, rNil_ok, rFld_ok _, rStore1_ok, trivial⟩⟩⟩⟩⟩⟩⟩⟩, ⟨⟨rMove_ok, rNil_ok, rFld_ok _, rLoad1_ok, rMove_ok, trivial⟩, trivial⟩⟩⟩
theorem ve_slot_Take_Step : EvOk s_slot_Take_Step v_slot_Take_Step := EvOk.of (evFn_sound (C := cx_slot_Take_Step) xt_slot_Take_Step xr_slot_Take_Step xo_slot_Take_Step) q_slot_Take_Step

attribute [irreducible] w_slot_Take_Step_j1b w_slot_Take_Step_j1 w_slot_Take_Step s_slot_Take_Step

/-! ### (*/slot.Take).Slot -/
def w_slot_Take_Slot_j1b (K : Value → Mem → Prop) (v0 v12 : Value) (σ : Mem) : Prop :=
xIf v12
 (xF fMove [(.int .i64 0)] fun v2 =>
xF fMove [(.bool false)] fun v3 =>
K (.tuple #[v2, v3]) σ)
 (xF fMove [v0] fun v13 =>
xF fNil [v13] fun v14 =>
xF (fFld 3) [v14] fun v15 =>
hLoad 1 false [v15] (fun v16 σ =>
xF fMove [v16] fun v2 =>
xF fMove [(.bool true)] fun v3 =>
K (.tuple #[v2, v3]) σ) σ)

def w_slot_Take_Slot_j1 (K : Value → Mem → Prop) (ts : List Value) (ls : List (List Value)) (σ : Mem) : Prop := w_slot_Take_Slot_j1b K (ts.getD 0 poison) (ts.getD 1 poison) σ

def w_slot_Take_Slot (a0 : Value) (K : Value → Mem → Prop) (σ : Mem) : Prop :=
xF fMove [(.int .i64 0)] fun v2 =>
xF fMove [(.bool false)] fun v3 =>
xJoin (w_slot_Take_Slot_j1 K) fun J1 =>
xF fMove [a0] fun v4 =>
xF (fBin .eql .ptr) [v4, (.pointer none)] fun v5 =>
xF fMove [v5] fun v6 =>
xIf v6
 (xF fPick [(.bool true), (.bool true), undef] fun v12 =>
J1 [a0, v12] [] σ)
 (xF fMove [a0] fun v7 =>
xF fNil [v7] fun v8 =>
xF (fFld 4) [v8] fun v9 =>
hLoad 1 false [v9] (fun v10 σ =>
xF (fUn .not) [v10] fun v11 =>
xF fPick [(.bool false), (.bool true), v11] fun v12 =>
J1 [a0, v12] [] σ) σ)

def s_slot_Take_Slot : Spec := fun args K σ => match args with
  | [a0] => w_slot_Take_Slot a0 K σ
  | _ => False

noncomputable def cx_slot_Take_Slot : Cx := { P := Try.prog, T := [], loc := [], eqt := [(52, .ptr)], n := 17, keep := [(1000003, [0, 12], [])] }
theorem q_slot_Take_Slot : FnS cx_slot_Take_Slot Try.f40 (bodyOf Try.f40) 1 = s_slot_Take_Slot := by
  funext args K σ
  rcases args with _ | ⟨a0, _ | ⟨b, r⟩⟩ <;> kernel_rfl
theorem e_slot_Take_Slot : Entry Try.prog 40 .read s_slot_Take_Slot :=
  entry (C := cx_slot_Take_Slot) TOk.nil mixedOk Try.func40 (by kernel_rfl) (by kernel_rfl) (by kernel_rfl) q_slot_Take_Slot

def xl_slot_Take_Slot : List (Nat × Nat) := []
noncomputable def xc_slot_Take_Slot : XC XN :=
(.seq none
 (.reg [⟨none, some 2, [(.const (.int .i64 0))], ⟨.f fMove, rMove⟩⟩,
  ⟨none, some 3, [(.const (.bool false))], ⟨.f fMove, rMove⟩⟩])
 (.seq none
 (.seq (some ([0, 12], []))
 (.reg [⟨none, some 4, [(.tmp 0)], ⟨.f fMove, rMove⟩⟩,
  ⟨none, some 5, [(.tmp 4), (.const (.pointer none))], ⟨.f (fBin .eql .ptr), rAny xl_slot_Take_Slot (.f (fBin .eql .ptr))⟩⟩,
  ⟨none, some 6, [(.tmp 5)], ⟨.f fMove, rMove⟩⟩,
  ⟨(some (3, 2, false, some 6)), some 7, [(.tmp 0)], ⟨.f fMove, rMove⟩⟩,
  ⟨(some (4, 2, false, some 6)), some 8, [(.tmp 7)], ⟨.f fNil, rNil⟩⟩,
  ⟨(some (5, 2, false, some 6)), some 9, [(.tmp 8)], ⟨.f (fFld 4), rFld 4⟩⟩,
  ⟨(some (6, 2, false, some 6)), some 10, [(.tmp 9)], ⟨.load 1 false, rLoad1⟩⟩,
  ⟨(some (7, 2, false, some 6)), some 11, [(.tmp 10)], ⟨.f (fUn .not), rNot⟩⟩,
  ⟨none, some 12, [(.tmp 6), (.const (.bool true)), (.tmp 11)], ⟨.f fPick, rPick⟩⟩])
 (.cond (.tmp 12)
 (.seq none
 (.reg [⟨none, some 2, [(.const (.int .i64 0))], ⟨.f fMove, rMove⟩⟩,
  ⟨none, some 3, [(.const (.bool false))], ⟨.f fMove, rMove⟩⟩])
 .ret)
 .skip))
 (.seq none
 (.reg [⟨none, some 13, [(.tmp 0)], ⟨.f fMove, rMove⟩⟩,
  ⟨none, some 14, [(.tmp 13)], ⟨.f fNil, rNil⟩⟩,
  ⟨none, some 15, [(.tmp 14)], ⟨.f (fFld 3), rFld 3⟩⟩,
  ⟨none, some 16, [(.tmp 15)], ⟨.load 1 false, rLoad1⟩⟩,
  ⟨none, some 2, [(.tmp 16)], ⟨.f fMove, rMove⟩⟩,
  ⟨none, some 3, [(.const (.bool true))], ⟨.f fMove, rMove⟩⟩])
 .ret)))
noncomputable def v_slot_Take_Slot : EvF := evFn 1 xc_slot_Take_Slot [.t 2, .t 3]
theorem xt_slot_Take_Slot : toC cx_slot_Take_Slot (bodyOf Try.f40) = some (xc_slot_Take_Slot.map XN.sm) := by kernel_rfl
theorem xr_slot_Take_Slot : toR cx_slot_Take_Slot Try.f40.results.toList = some [.t 2, .t 3] := by kernel_rfl
theorem xo_slot_Take_Slot : xc_slot_Take_Slot.ok xl_slot_Take_Slot := ⟨⟨rMove_ok, rMove_ok, trivial⟩, ⟨⟨⟨rMove_ok, rAny_ok (eqv_bin _ _), rMove_ok, rMove_ok, rNil_ok, rFld_ok _, rLoad1_ok, rNot_ok, rPick_ok, trivial⟩, ⟨⟨⟨rMove_ok, rMove_ok, trivial⟩, trivial⟩, trivial⟩⟩, ⟨⟨rMove_ok, rNil_ok, rFld_ok _, rLoad1_ok, rMove_ok, rMove_ok, trivial⟩, trivial⟩⟩⟩
theorem ve_slot_Take_Slot : EvOk s_slot_Take_Slot v_slot_Take_Slot := EvOk.of (evFn_sound (C := cx_slot_Take_Slot) xt_slot_Take_Slot xr_slot_Take_Slot xo_slot_Take_Slot) q_slot_Take_Slot

attribute [irreducible] w_slot_Take_Slot_j1b w_slot_Take_Slot_j1 w_slot_Take_Slot s_slot_Take_Slot

/-! ### /law06.take -/
def w_law06_take_j1b (K : Value → Mem → Prop) (v5 v6 : Value) (c1 : List Value) (σ : Mem) : Prop :=
xF fMove [v5] fun v22 =>
s_slot_Take_Slot [v22] (fun v23 σ =>
xF fMove [v23] fun v21 =>
xF (fExt 0) [v21] fun v24 =>
xF (fExt 1) [v21] fun v25 =>
xF fMove [v24] fun v8 =>
xF fMove [v25] fun v9 =>
xF fMove [v8] fun v26 =>
xF fMove [v9] fun v27 =>
xO (gLoad 9 true [(locP 1)] c1) fun v28 =>
s_layout_Env_Now [v28] (fun v29 σ =>
xF fMove [v6] fun v30 =>
xF (fBin .sub .no) [v29, v30] fun v31 =>
xF fMove [v26] fun v2 =>
xF fMove [v27] fun v3 =>
xF fMove [v31] fun v4 =>
K (.tuple #[v2, v3, v4]) σ) σ) σ

def w_law06_take_j1 (K : Value → Mem → Prop) (ts : List Value) (ls : List (List Value)) (σ : Mem) : Prop := w_law06_take_j1b K (ts.getD 0 poison) (ts.getD 1 poison) (ls.getD 0 []) σ

def w_law06_take_l4b (K : Value → Mem → Prop) (J1 : List Value → List (List Value) → Mem → Prop) (R1 : List Value → List (List Value) → Mem → Prop) (v5 v6 v7 : Value) (c1 : List Value) (σ : Mem) : Prop :=
xF fMove [v7] fun v14 =>
xF (fBin .lss .no) [v14, (.int .i64 10)] fun v15 =>
xIf v15
 (xF fMove [v5] fun v18 =>
xO (gLoad 9 true [(locP 1)] c1) fun v19 =>
s_slot_Take_Step [v18, v19] (fun v20 σ =>
xIf v20
 (J1 [v5, v6] [c1] σ)
 (xF fMove [v7] fun v16 =>
xF (fBin .add .no) [v16, (.int .i64 1)] fun v17 =>
xF fMove [v17] fun v7 =>
R1 [v5, v6, v7] [c1] σ)) σ)
 (J1 [v5, v6] [c1] σ)

def w_law06_take_l4 (K : Value → Mem → Prop) (J1 : List Value → List (List Value) → Mem → Prop) (R1 : List Value → List (List Value) → Mem → Prop) (ts : List Value) (ls : List (List Value)) (σ : Mem) : Prop := w_law06_take_l4b K J1 R1 (ts.getD 0 poison) (ts.getD 1 poison) (ts.getD 2 poison) (ls.getD 0 []) σ

def w_law06_take (a0 : Value) (K : Value → Mem → Prop) (σ : Mem) : Prop :=
xC (gBox 9 [a0] []) fun c1 =>
xF fMove [(.int .i64 0)] fun v2 =>
xF fMove [(.bool false)] fun v3 =>
xF fMove [(.int .i64 0)] fun v4 =>
xF (fBuild [(0, 1), (1, 1), (2, 1), (3, 1), (4, 1)] [(.int .i64 0), (.int .u64 0), (.int .i64 0), (.int .i64 0), (.bool false)] []) [] fun v10 =>
hBox 5 [v10] (fun v11 σ =>
xO (gLoad 9 true [(locP 1)] c1) fun v12 =>
s_layout_Env_Now [v12] (fun v13 σ =>
xF fMove [v11] fun v5 =>
xF fMove [v13] fun v6 =>
xJoin (w_law06_take_j1 K) fun J1 =>
xF fMove [(.int .i64 0)] fun v7 =>
xLoop (w_law06_take_l4 K J1) [v5, v6, v7] [c1] σ) σ) σ

def s_law06_take : Spec := fun args K σ => match args with
  | [a0] => w_law06_take a0 K σ
  | _ => False

noncomputable def cx_law06_take : Cx := { P := Try.prog, T := [(51, .read, s_layout_Env_Now), (39, .write, s_slot_Take_Step), (40, .read, s_slot_Take_Slot)], loc := [(1, 1)], eqt := [], n := 32, keep := [(4, [5, 6, 7], [1]), (1000007, [5, 6], [1])] }
theorem q_law06_take : FnS cx_law06_take Try.f38 (bodyOf Try.f38) 1 = s_law06_take := by
  funext args K σ
  rcases args with _ | ⟨a0, _ | ⟨b, r⟩⟩ <;> kernel_rfl
theorem e_law06_take : Entry Try.prog 38 .write s_law06_take :=
  entry (C := cx_law06_take) (TOk.cons e_layout_Env_Now (TOk.cons e_slot_Take_Step (TOk.cons e_slot_Take_Slot TOk.nil))) mixedOk Try.func38 (by kernel_rfl) (by kernel_rfl) (by kernel_rfl) q_law06_take

def xl_law06_take : List (Nat × Nat) := [(1, 1)]
noncomputable def xc_law06_take : XC XN :=
(.seq none
 (.reg [⟨none, some 1, [(.tmp 0)], ⟨.lb 1 9, rAny xl_law06_take (.lb 1 9)⟩⟩,
  ⟨none, some 2, [(.const (.int .i64 0))], ⟨.f fMove, rMove⟩⟩,
  ⟨none, some 3, [(.const (.bool false))], ⟨.f fMove, rMove⟩⟩,
  ⟨none, some 4, [(.const (.int .i64 0))], ⟨.f fMove, rMove⟩⟩])
 (.seq none
 (.reg [⟨none, some 10, [], ⟨.f (fBuild [(0, 1), (1, 1), (2, 1), (3, 1), (4, 1)] [(.int .i64 0), (.int .u64 0), (.int .i64 0), (.int .i64 0), (.bool false)] []), rAny xl_law06_take (.f (fBuild [(0, 1), (1, 1), (2, 1), (3, 1), (4, 1)] [(.int .i64 0), (.int .u64 0), (.int .i64 0), (.int .i64 0), (.bool false)] []))⟩⟩,
  ⟨none, some 11, [(.tmp 10)], ⟨.box 5, rAny xl_law06_take (.box 5)⟩⟩,
  ⟨none, some 12, [(.tmp 1)], ⟨.lr 1 9 true, rAny xl_law06_take (.lr 1 9 true)⟩⟩,
  ⟨none, some 13, [(.tmp 12)], ⟨.call .read s_layout_Env_Now v_layout_Env_Now, rCall v_layout_Env_Now⟩⟩,
  ⟨none, some 5, [(.tmp 11)], ⟨.f fMove, rMove⟩⟩,
  ⟨none, some 6, [(.tmp 13)], ⟨.f fMove, rMove⟩⟩])
 (.seq (some ([5, 6], [1]))
 (.seq none
 (.reg [⟨none, some 7, [(.const (.int .i64 0))], ⟨.f fMove, rMove⟩⟩])
 (.block 0
 (.loop ([5, 6, 7], [1])
 (.seq none
 (.seq none
 (.reg [⟨none, some 14, [(.tmp 7)], ⟨.f fMove, rMove⟩⟩,
  ⟨none, some 15, [(.tmp 14), (.const (.int .i64 10))], ⟨.f (fBin .lss .no), rLss⟩⟩])
 (.cond (.tmp 15)
 .skip
 (.exit 0)))
 (.seq none
 (.block 1
 (.seq none
 (.reg [⟨none, some 18, [(.tmp 5)], ⟨.f fMove, rMove⟩⟩,
  ⟨none, some 19, [(.tmp 1)], ⟨.lr 1 9 true, rAny xl_law06_take (.lr 1 9 true)⟩⟩,
  ⟨none, some 20, [(.tmp 18), (.tmp 19)], ⟨.call .write s_slot_Take_Step v_slot_Take_Step, rCall v_slot_Take_Step⟩⟩])
 (.cond (.tmp 20)
 (.exit 0)
 .skip)))
 (.reg [⟨none, some 16, [(.tmp 7)], ⟨.f fMove, rMove⟩⟩,
  ⟨none, some 17, [(.tmp 16), (.const (.int .i64 1))], ⟨.f (fBin .add .no), rAdd⟩⟩,
  ⟨none, some 7, [(.tmp 17)], ⟨.f fMove, rMove⟩⟩]))))))
 (.seq none
 (.reg [⟨none, some 22, [(.tmp 5)], ⟨.f fMove, rMove⟩⟩,
  ⟨none, some 23, [(.tmp 22)], ⟨.call .read s_slot_Take_Slot v_slot_Take_Slot, rCall v_slot_Take_Slot⟩⟩,
  ⟨none, some 21, [(.tmp 23)], ⟨.f fMove, rMove⟩⟩,
  ⟨none, some 24, [(.tmp 21)], ⟨.f (fExt 0), rAny xl_law06_take (.f (fExt 0))⟩⟩,
  ⟨none, some 25, [(.tmp 21)], ⟨.f (fExt 1), rAny xl_law06_take (.f (fExt 1))⟩⟩,
  ⟨none, some 8, [(.tmp 24)], ⟨.f fMove, rMove⟩⟩,
  ⟨none, some 9, [(.tmp 25)], ⟨.f fMove, rMove⟩⟩])
 (.seq none
 (.reg [⟨none, some 26, [(.tmp 8)], ⟨.f fMove, rMove⟩⟩,
  ⟨none, some 27, [(.tmp 9)], ⟨.f fMove, rMove⟩⟩,
  ⟨none, some 28, [(.tmp 1)], ⟨.lr 1 9 true, rAny xl_law06_take (.lr 1 9 true)⟩⟩,
  ⟨none, some 29, [(.tmp 28)], ⟨.call .read s_layout_Env_Now v_layout_Env_Now, rCall v_layout_Env_Now⟩⟩,
  ⟨none, some 30, [(.tmp 6)], ⟨.f fMove, rMove⟩⟩,
  ⟨none, some 31, [(.tmp 29), (.tmp 30)], ⟨.f (fBin .sub .no), rSub⟩⟩,
  ⟨none, some 2, [(.tmp 26)], ⟨.f fMove, rMove⟩⟩,
  ⟨none, some 3, [(.tmp 27)], ⟨.f fMove, rMove⟩⟩,
  ⟨none, some 4, [(.tmp 31)], ⟨.f fMove, rMove⟩⟩])
 .ret)))))
noncomputable def v_law06_take : EvF := evFn 1 xc_law06_take [.t 2, .t 3, .t 4]
theorem xt_law06_take : toC cx_law06_take (bodyOf Try.f38) = some (xc_law06_take.map XN.sm) := by kernel_rfl
theorem xr_law06_take : toR cx_law06_take Try.f38.results.toList = some [.t 2, .t 3, .t 4] := by kernel_rfl
theorem xo_law06_take : xc_law06_take.ok xl_law06_take := ⟨⟨rAny_ok (trivial), rMove_ok, rMove_ok, rMove_ok, trivial⟩, ⟨⟨rAny_ok (eqv_build _ rfl _), rAny_ok (trivial), rAny_ok (trivial), rCall_ok ve_layout_Env_Now, rMove_ok, rMove_ok, trivial⟩, ⟨⟨⟨rMove_ok, trivial⟩, ⟨⟨⟨rMove_ok, rLss_ok, trivial⟩, ⟨trivial, trivial⟩⟩, ⟨⟨⟨rMove_ok, rAny_ok (trivial), rCall_ok ve_slot_Take_Step, trivial⟩, ⟨trivial, trivial⟩⟩, ⟨rMove_ok, rAdd_ok, rMove_ok, trivial⟩⟩⟩⟩, ⟨⟨rMove_ok, rCall_ok ve_slot_Take_Slot, rMove_ok, rAny_ok (eqv_ext _), rAny_ok (eqv_ext _), rMove_ok, rMove_ok, trivial⟩, ⟨⟨rMove_ok, rMove_ok, rAny_ok (trivial), rCall_ok ve_layout_Env_Now, rMove_ok, rSub_ok, rMove_ok, rMove_ok, rMove_ok, trivial⟩, trivial⟩⟩⟩⟩⟩
theorem ve_law06_take : EvOk s_law06_take v_law06_take := EvOk.of (evFn_sound (C := cx_law06_take) xt_law06_take xr_law06_take xo_law06_take) q_law06_take

attribute [irreducible] w_law06_take_j1b w_law06_take_j1 w_law06_take_l4b w_law06_take_l4 w_law06_take s_law06_take

end Go.Fl
