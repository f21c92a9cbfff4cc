/- What each Go function that the law reaches does, read off its text by a program; that this is the function; the same for the closed evaluator. No condition. -/
import Derived.Test.YtggcbkdiicdckaaG0
namespace Go.Fl
open Go Go.Proofs
set_option linter.unusedVariables false
set_option maxRecDepth 10000000

/-! ### (*/mem.Mem).Load -/
def w_mem_Mem_Load (a0 a1 : Value) (K : Value → Mem → Prop) (σ : Mem) : Prop :=
xF fMove [(.int .u64 0)] fun v4 =>
xF fMove [(.int .i64 0)] fun v5 =>
xF fMove [a0] fun v6 =>
xF fMove [a1] fun v7 =>
s_mem_Mem_step [v6, v7] (fun v8 σ =>
xF (fUn .not) [v8] fun v9 =>
xIf v9
 (xF fMove [(.int .u64 0)] fun v4 =>
xF fMove [(.int .i64 2)] fun v5 =>
K (.tuple #[v4, v5]) σ)
 (xF fMove [a0] fun v10 =>
xF fNil [v10] fun v11 =>
xF (fFld 0) [v11] fun v12 =>
hLoad 1 false [v12] (fun v13 σ =>
xF fMove [a1] fun v14 =>
xF (fIxS 1) [v13, v14] fun v15 =>
hLoad 1 false [v15] (fun v16 σ =>
xF fMove [v16] fun v4 =>
xF fMove [(.int .i64 0)] fun v5 =>
K (.tuple #[v4, v5]) σ) σ) σ)) σ

def s_mem_Mem_Load : Spec := fun args K σ => match args with
  | [a0, a1] => w_mem_Mem_Load a0 a1 K σ
  | _ => False

noncomputable def cx_mem_Mem_Load : Cx := { P := Try.prog, T := [(62, .write, s_mem_Mem_step)], loc := [], eqt := [], n := 17, keep := [] }
theorem q_mem_Mem_Load : FnS cx_mem_Mem_Load Try.f42 (bodyOf Try.f42) 2 = s_mem_Mem_Load := by
  funext args K σ
  rcases args with _ | ⟨a0, _ | ⟨a1, _ | ⟨b, r⟩⟩⟩ <;> kernel_rfl
theorem e_mem_Mem_Load : Entry Try.prog 42 .write s_mem_Mem_Load :=
  entry (C := cx_mem_Mem_Load) (TOk.cons e_mem_Mem_step TOk.nil) mixedOk Try.func42 (by kernel_rfl) (by kernel_rfl) (by kernel_rfl) q_mem_Mem_Load

def xl_mem_Mem_Load : List (Nat × Nat) := []
noncomputable def xc_mem_Mem_Load : XC XN :=
(.seq none
 (.reg [⟨none, some 4, [(.const (.int .u64 0))], ⟨.f fMove, rMove⟩⟩,
  ⟨none, some 5, [(.const (.int .i64 0))], ⟨.f fMove, rMove⟩⟩])
 (.seq none
 (.seq none
 (.reg [⟨none, some 6, [(.tmp 0)], ⟨.f fMove, rMove⟩⟩,
  ⟨none, some 7, [(.tmp 1)], ⟨.f fMove, rMove⟩⟩,
  ⟨none, some 8, [(.tmp 6), (.tmp 7)], ⟨.call .write s_mem_Mem_step v_mem_Mem_step, rCall v_mem_Mem_step⟩⟩,
  ⟨none, some 9, [(.tmp 8)], ⟨.f (fUn .not), rNot⟩⟩])
 (.cond (.tmp 9)
 (.seq none
 (.reg [⟨none, some 4, [(.const (.int .u64 0))], ⟨.f fMove, rMove⟩⟩,
  ⟨none, some 5, [(.const (.int .i64 2))], ⟨.f fMove, rMove⟩⟩])
 .ret)
 .skip))
 (.seq none
 (.reg [⟨none, some 10, [(.tmp 0)], ⟨.f fMove, rMove⟩⟩,
  ⟨none, some 11, [(.tmp 10)], ⟨.f fNil, rNil⟩⟩,
  ⟨none, some 12, [(.tmp 11)], ⟨.f (fFld 0), rFld 0⟩⟩,
  ⟨none, some 13, [(.tmp 12)], ⟨.load 1 false, rLoad1⟩⟩,
  ⟨none, some 14, [(.tmp 1)], ⟨.f fMove, rMove⟩⟩,
  ⟨none, some 15, [(.tmp 13), (.tmp 14)], ⟨.f (fIxS 1), rIxS 1⟩⟩,
  ⟨none, some 16, [(.tmp 15)], ⟨.load 1 false, rLoad1⟩⟩,
  ⟨none, some 4, [(.tmp 16)], ⟨.f fMove, rMove⟩⟩,
  ⟨none, some 5, [(.const (.int .i64 0))], ⟨.f fMove, rMove⟩⟩])
 .ret)))
noncomputable def v_mem_Mem_Load : EvF := evFn 2 xc_mem_Mem_Load [.t 4, .t 5]
theorem xt_mem_Mem_Load : toC cx_mem_Mem_Load (bodyOf Try.f42) = some (xc_mem_Mem_Load.map XN.sm) := by kernel_rfl
theorem xr_mem_Mem_Load : toR cx_mem_Mem_Load Try.f42.results.toList = some [.t 4, .t 5] := by kernel_rfl
theorem xo_mem_Mem_Load : xc_mem_Mem_Load.ok xl_mem_Mem_Load := ⟨⟨rMove_ok, rMove_ok, trivial⟩, ⟨⟨⟨rMove_ok, rMove_ok, rCall_ok ve_mem_Mem_step, rNot_ok, trivial⟩, ⟨⟨⟨rMove_ok, rMove_ok, trivial⟩, trivial⟩, trivial⟩⟩, ⟨⟨rMove_ok, rNil_ok, rFld_ok _, rLoad1_ok, rMove_ok, rIxS_ok _, rLoad1_ok, rMove_ok, rMove_ok, trivial⟩, trivial⟩⟩⟩
theorem ve_mem_Mem_Load : EvOk s_mem_Mem_Load v_mem_Mem_Load := EvOk.of (evFn_sound (C := cx_mem_Mem_Load) xt_mem_Mem_Load xr_mem_Mem_Load xo_mem_Mem_Load) q_mem_Mem_Load

attribute [irreducible] w_mem_Mem_Load s_mem_Mem_Load

/-! ### (/layout.Env).Load -/
def w_layout_Env_Load (a0 a1 : Value) (K : Value → Mem → Prop) (σ : Mem) : Prop :=
xC (gBox 9 [a0] []) fun c2 =>
xF fMove [(.int .u64 0)] fun v4 =>
xF (fFld 7) [(locP 2)] fun v7 =>
xO (gLoad 1 false [v7] c2) fun v8 =>
xF (fFld 8) [(locP 2)] fun v9 =>
xO (gLoad 1 false [v9] c2) fun v10 =>
s_mem_Mem_By [v8, v10] (fun v11 σ =>
xF (fFld 7) [(locP 2)] fun v13 =>
xO (gLoad 1 false [v13] c2) fun v14 =>
xF fMove [a1] fun v15 =>
s_mem_Mem_Load [v14, v15] (fun v16 σ =>
xF fMove [v16] fun v12 =>
xF (fExt 0) [v12] fun v17 =>
xF (fExt 1) [v12] fun v18 =>
xF fMove [v17] fun v5 =>
xF fMove [v18] fun v6 =>
xF fMove [v5] fun v19 =>
xF fMove [v19] fun v4 =>
K v4 σ) σ) σ

def s_layout_Env_Load : Spec := fun args K σ => match args with
  | [a0, a1] => w_layout_Env_Load a0 a1 K σ
  | _ => False

noncomputable def cx_layout_Env_Load : Cx := { P := Try.prog, T := [(41, .write, s_mem_Mem_By), (42, .write, s_mem_Mem_Load)], loc := [(2, 2), (7, 2), (9, 2), (13, 2)], eqt := [], n := 20, keep := [] }
theorem q_layout_Env_Load : FnS cx_layout_Env_Load Try.f43 (bodyOf Try.f43) 2 = s_layout_Env_Load := by
  funext args K σ
  rcases args with _ | ⟨a0, _ | ⟨a1, _ | ⟨b, r⟩⟩⟩ <;> kernel_rfl
theorem e_layout_Env_Load : Entry Try.prog 43 .write s_layout_Env_Load :=
  entry (C := cx_layout_Env_Load) (TOk.cons e_mem_Mem_By (TOk.cons e_mem_Mem_Load TOk.nil)) mixedOk Try.func43 (by kernel_rfl) (by kernel_rfl) (by kernel_rfl) q_layout_Env_Load

def xl_layout_Env_Load : List (Nat × Nat) := [(2, 2), (7, 2), (9, 2), (13, 2)]
noncomputable def xc_layout_Env_Load : XC XN :=
(.seq none
 (.reg [⟨none, some 2, [(.tmp 0)], ⟨.lb 2 9, rAny xl_layout_Env_Load (.lb 2 9)⟩⟩,
  ⟨none, some 4, [(.const (.int .u64 0))], ⟨.f fMove, rMove⟩⟩])
 (.seq none
 (.reg [⟨none, some 7, [(.tmp 2)], ⟨.f (fFld 7), rFld 7⟩⟩,
  ⟨none, some 8, [(.tmp 7)], ⟨.lr 2 1 false, rLr1 2⟩⟩,
  ⟨none, some 9, [(.tmp 2)], ⟨.f (fFld 8), rFld 8⟩⟩,
  ⟨none, some 10, [(.tmp 9)], ⟨.lr 2 1 false, rLr1 2⟩⟩,
  ⟨none, some 11, [(.tmp 8), (.tmp 10)], ⟨.call .write s_mem_Mem_By v_mem_Mem_By, rCall v_mem_Mem_By⟩⟩])
 (.seq none
 (.reg [⟨none, some 13, [(.tmp 2)], ⟨.f (fFld 7), rFld 7⟩⟩,
  ⟨none, some 14, [(.tmp 13)], ⟨.lr 2 1 false, rLr1 2⟩⟩,
  ⟨none, some 15, [(.tmp 1)], ⟨.f fMove, rMove⟩⟩,
  ⟨none, some 16, [(.tmp 14), (.tmp 15)], ⟨.call .write s_mem_Mem_Load v_mem_Mem_Load, rCall v_mem_Mem_Load⟩⟩,
  ⟨none, some 12, [(.tmp 16)], ⟨.f fMove, rMove⟩⟩,
  ⟨none, some 17, [(.tmp 12)], ⟨.f (fExt 0), rAny xl_layout_Env_Load (.f (fExt 0))⟩⟩,
  ⟨none, some 18, [(.tmp 12)], ⟨.f (fExt 1), rAny xl_layout_Env_Load (.f (fExt 1))⟩⟩,
  ⟨none, some 5, [(.tmp 17)], ⟨.f fMove, rMove⟩⟩,
  ⟨none, some 6, [(.tmp 18)], ⟨.f fMove, rMove⟩⟩])
 (.seq none
 (.reg [⟨none, some 19, [(.tmp 5)], ⟨.f fMove, rMove⟩⟩,
  ⟨none, some 4, [(.tmp 19)], ⟨.f fMove, rMove⟩⟩])
 .ret))))
noncomputable def v_layout_Env_Load : EvF := evFn 2 xc_layout_Env_Load [.t 4]
theorem xt_layout_Env_Load : toC cx_layout_Env_Load (bodyOf Try.f43) = some (xc_layout_Env_Load.map XN.sm) := by kernel_rfl
theorem xr_layout_Env_Load : toR cx_layout_Env_Load Try.f43.results.toList = some [.t 4] := by kernel_rfl
theorem xo_layout_Env_Load : xc_layout_Env_Load.ok xl_layout_Env_Load := ⟨⟨rAny_ok (trivial), rMove_ok, trivial⟩, ⟨⟨rFld_ok _, rLr1_ok _, rFld_ok _, rLr1_ok _, rCall_ok ve_mem_Mem_By, trivial⟩, ⟨⟨rFld_ok _, rLr1_ok _, rMove_ok, rCall_ok ve_mem_Mem_Load, rMove_ok, rAny_ok (eqv_ext _), rAny_ok (eqv_ext _), rMove_ok, rMove_ok, trivial⟩, ⟨⟨rMove_ok, rMove_ok, trivial⟩, trivial⟩⟩⟩⟩
theorem ve_layout_Env_Load : EvOk s_layout_Env_Load v_layout_Env_Load := EvOk.of (evFn_sound (C := cx_layout_Env_Load) xt_layout_Env_Load xr_layout_Env_Load xo_layout_Env_Load) q_layout_Env_Load

attribute [irreducible] w_layout_Env_Load s_layout_Env_Load

/-! ### (/layout.Env).Store -/
def w_layout_Env_Store (a0 a1 a2 : Value) (K : Value → Mem → Prop) (σ : Mem) : Prop :=
xC (gBox 9 [a0] []) fun c3 =>
xF (fFld 7) [(locP 3)] fun v6 =>
xO (gLoad 1 false [v6] c3) fun v7 =>
xF (fFld 8) [(locP 3)] fun v8 =>
xO (gLoad 1 false [v8] c3) fun v9 =>
s_mem_Mem_By [v7, v9] (fun v10 σ =>
xF (fFld 7) [(locP 3)] fun v11 =>
xO (gLoad 1 false [v11] c3) fun v12 =>
xF fMove [a1] fun v13 =>
xF fMove [a2] fun v14 =>
s_mem_Mem_Store [v12, v13, v14] (fun v15 σ =>
K (.tuple #[]) σ) σ) σ

def s_layout_Env_Store : Spec := fun args K σ => match args with
  | [a0, a1, a2] => w_layout_Env_Store a0 a1 a2 K σ
  | _ => False

noncomputable def cx_layout_Env_Store : Cx := { P := Try.prog, T := [(41, .write, s_mem_Mem_By), (45, .write, s_mem_Mem_Store)], loc := [(3, 3), (6, 3), (8, 3), (11, 3)], eqt := [], n := 16, keep := [] }
theorem q_layout_Env_Store : FnS cx_layout_Env_Store Try.f44 (bodyOf Try.f44) 3 = s_layout_Env_Store := by
  funext args K σ
  rcases args with _ | ⟨a0, _ | ⟨a1, _ | ⟨a2, _ | ⟨b, r⟩⟩⟩⟩ <;> kernel_rfl
theorem e_layout_Env_Store : Entry Try.prog 44 .write s_layout_Env_Store :=
  entry (C := cx_layout_Env_Store) (TOk.cons e_mem_Mem_By (TOk.cons e_mem_Mem_Store TOk.nil)) mixedOk Try.func44 (by kernel_rfl) (by kernel_rfl) (by kernel_rfl) q_layout_Env_Store


attribute [irreducible] w_layout_Env_Store s_layout_Env_Store

/-! ### (*/mem.Mem).Cas -/
def w_mem_Mem_Cas (a0 a1 a2 a3 : Value) (K : Value → Mem → Prop) (σ : Mem) : Prop :=
xF fMove [(.bool false)] fun v8 =>
xF fMove [(.int .i64 0)] fun v9 =>
xF fMove [a0] fun v10 =>
xF fMove [a1] fun v11 =>
s_mem_Mem_step [v10, v11] (fun v12 σ =>
xF (fUn .not) [v12] fun v13 =>
xIf v13
 (xF fMove [(.bool false)] fun v8 =>
xF fMove [(.int .i64 2)] fun v9 =>
K (.tuple #[v8, v9]) σ)
 (xF fMove [a0] fun v14 =>
xF fNil [v14] fun v15 =>
xF (fFld 0) [v15] fun v16 =>
hLoad 1 false [v16] (fun v17 σ =>
xF fMove [a1] fun v18 =>
xF (fIxS 1) [v17, v18] fun v19 =>
hLoad 1 false [v19] (fun v20 σ =>
xF fMove [a2] fun v21 =>
xF (fBin .neq .no) [v20, v21] fun v22 =>
xIf v22
 (xF fMove [(.bool false)] fun v8 =>
xF fMove [(.int .i64 0)] fun v9 =>
K (.tuple #[v8, v9]) σ)
 (xF fMove [a0] fun v23 =>
xF fMove [a1] fun v24 =>
xF fMove [a3] fun v25 =>
s_mem_Mem_set [v23, v24, v25] (fun v26 σ =>
xF fMove [(.bool true)] fun v8 =>
xF fMove [(.int .i64 0)] fun v9 =>
K (.tuple #[v8, v9]) σ) σ)) σ) σ)) σ

def s_mem_Mem_Cas : Spec := fun args K σ => match args with
  | [a0, a1, a2, a3] => w_mem_Mem_Cas a0 a1 a2 a3 K σ
  | _ => False

noncomputable def cx_mem_Mem_Cas : Cx := { P := Try.prog, T := [(62, .write, s_mem_Mem_step), (63, .write, s_mem_Mem_set)], loc := [], eqt := [], n := 27, keep := [] }
theorem q_mem_Mem_Cas : FnS cx_mem_Mem_Cas Try.f46 (bodyOf Try.f46) 4 = s_mem_Mem_Cas := by
  funext args K σ
  rcases args with _ | ⟨a0, _ | ⟨a1, _ | ⟨a2, _ | ⟨a3, _ | ⟨b, r⟩⟩⟩⟩⟩ <;> kernel_rfl
theorem e_mem_Mem_Cas : Entry Try.prog 46 .write s_mem_Mem_Cas :=
  entry (C := cx_mem_Mem_Cas) (TOk.cons e_mem_Mem_step (TOk.cons e_mem_Mem_set TOk.nil)) mixedOk Try.func46 (by kernel_rfl) (by kernel_rfl) (by kernel_rfl) q_mem_Mem_Cas

def xl_mem_Mem_Cas : List (Nat × Nat) := []
noncomputable def xc_mem_Mem_Cas : XC XN :=
(.seq none
 (.reg [⟨none, some 8, [(.const (.bool false))], ⟨.f fMove, rMove⟩⟩,
  ⟨none, some 9, [(.const (.int .i64 0))], ⟨.f fMove, rMove⟩⟩])
 (.seq none
 (.seq none
 (.reg [⟨none, some 10, [(.tmp 0)], ⟨.f fMove, rMove⟩⟩,
  ⟨none, some 11, [(.tmp 1)], ⟨.f fMove, rMove⟩⟩,
  ⟨none, some 12, [(.tmp 10), (.tmp 11)], ⟨.call .write s_mem_Mem_step v_mem_Mem_step, rCall v_mem_Mem_step⟩⟩,
  ⟨none, some 13, [(.tmp 12)], ⟨.f (fUn .not), rNot⟩⟩])
 (.cond (.tmp 13)
 (.seq none
 (.reg [⟨none, some 8, [(.const (.bool false))], ⟨.f fMove, rMove⟩⟩,
  ⟨none, some 9, [(.const (.int .i64 2))], ⟨.f fMove, rMove⟩⟩])
 .ret)
 .skip))
 (.seq none
 (.seq none
 (.reg [⟨none, some 14, [(.tmp 0)], ⟨.f fMove, rMove⟩⟩,
  ⟨none, some 15, [(.tmp 14)], ⟨.f fNil, rNil⟩⟩,
  ⟨none, some 16, [(.tmp 15)], ⟨.f (fFld 0), rFld 0⟩⟩,
  ⟨none, some 17, [(.tmp 16)], ⟨.load 1 false, rLoad1⟩⟩,
  ⟨none, some 18, [(.tmp 1)], ⟨.f fMove, rMove⟩⟩,
  ⟨none, some 19, [(.tmp 17), (.tmp 18)], ⟨.f (fIxS 1), rIxS 1⟩⟩,
  ⟨none, some 20, [(.tmp 19)], ⟨.load 1 false, rLoad1⟩⟩,
  ⟨none, some 21, [(.tmp 2)], ⟨.f fMove, rMove⟩⟩,
  ⟨none, some 22, [(.tmp 20), (.tmp 21)], ⟨.f (fBin .neq .no), rNeq⟩⟩])
 (.cond (.tmp 22)
 (.seq none
 (.reg [⟨none, some 8, [(.const (.bool false))], ⟨.f fMove, rMove⟩⟩,
  ⟨none, some 9, [(.const (.int .i64 0))], ⟨.f fMove, rMove⟩⟩])
 .ret)
 .skip))
 (.seq none
 (.reg [⟨none, some 23, [(.tmp 0)], ⟨.f fMove, rMove⟩⟩,
  ⟨none, some 24, [(.tmp 1)], ⟨.f fMove, rMove⟩⟩,
  ⟨none, some 25, [(.tmp 3)], ⟨.f fMove, rMove⟩⟩,
  ⟨none, some 26, [(.tmp 23), (.tmp 24), (.tmp 25)], ⟨.call .write s_mem_Mem_set v_mem_Mem_set, rCall v_mem_Mem_set⟩⟩])
 (.seq none
 (.reg [⟨none, some 8, [(.const (.bool true))], ⟨.f fMove, rMove⟩⟩,
  ⟨none, some 9, [(.const (.int .i64 0))], ⟨.f fMove, rMove⟩⟩])
 .ret)))))
noncomputable def v_mem_Mem_Cas : EvF := evFn 4 xc_mem_Mem_Cas [.t 8, .t 9]
theorem xt_mem_Mem_Cas : toC cx_mem_Mem_Cas (bodyOf Try.f46) = some (xc_mem_Mem_Cas.map XN.sm) := by kernel_rfl
theorem xr_mem_Mem_Cas : toR cx_mem_Mem_Cas Try.f46.results.toList = some [.t 8, .t 9] := by kernel_rfl
theorem xo_mem_Mem_Cas : xc_mem_Mem_Cas.ok xl_mem_Mem_Cas := ⟨⟨rMove_ok, rMove_ok, trivial⟩, ⟨⟨⟨rMove_ok, rMove_ok, rCall_ok ve_mem_Mem_step, rNot_ok, trivial⟩, ⟨⟨⟨rMove_ok, rMove_ok, trivial⟩, trivial⟩, trivial⟩⟩, ⟨⟨⟨rMove_ok, rNil_ok, rFld_ok _, rLoad1_ok, rMove_ok, rIxS_ok _, rLoad1_ok, rMove_ok, rNeq_ok, trivial⟩, ⟨⟨⟨rMove_ok, rMove_ok, trivial⟩, trivial⟩, trivial⟩⟩, ⟨⟨rMove_ok, rMove_ok, rMove_ok, rCall_ok ve_mem_Mem_set, trivial⟩, ⟨⟨rMove_ok, rMove_ok, trivial⟩, trivial⟩⟩⟩⟩⟩
theorem ve_mem_Mem_Cas : EvOk s_mem_Mem_Cas v_mem_Mem_Cas := EvOk.of (evFn_sound (C := cx_mem_Mem_Cas) xt_mem_Mem_Cas xr_mem_Mem_Cas xo_mem_Mem_Cas) q_mem_Mem_Cas

attribute [irreducible] w_mem_Mem_Cas s_mem_Mem_Cas

/-! ### (/layout.Env).Cas -/
def w_layout_Env_Cas (a0 a1 a2 a3 : Value) (K : Value → Mem → Prop) (σ : Mem) : Prop :=
xC (gBox 9 [a0] []) fun c4 =>
xF fMove [(.bool false)] fun v8 =>
xF (fFld 7) [(locP 4)] fun v11 =>
xO (gLoad 1 false [v11] c4) fun v12 =>
xF (fFld 8) [(locP 4)] fun v13 =>
xO (gLoad 1 false [v13] c4) fun v14 =>
s_mem_Mem_By [v12, v14] (fun v15 σ =>
xF (fFld 7) [(locP 4)] fun v17 =>
xO (gLoad 1 false [v17] c4) fun v18 =>
xF fMove [a1] fun v19 =>
xF fMove [a2] fun v20 =>
xF fMove [a3] fun v21 =>
s_mem_Mem_Cas [v18, v19, v20, v21] (fun v22 σ =>
xF fMove [v22] fun v16 =>
xF (fExt 0) [v16] fun v23 =>
xF (fExt 1) [v16] fun v24 =>
xF fMove [v23] fun v9 =>
xF fMove [v24] fun v10 =>
xF fMove [v9] fun v25 =>
xF fMove [v25] fun v8 =>
K v8 σ) σ) σ

def s_layout_Env_Cas : Spec := fun args K σ => match args with
  | [a0, a1, a2, a3] => w_layout_Env_Cas a0 a1 a2 a3 K σ
  | _ => False

noncomputable def cx_layout_Env_Cas : Cx := { P := Try.prog, T := [(41, .write, s_mem_Mem_By), (46, .write, s_mem_Mem_Cas)], loc := [(4, 4), (11, 4), (13, 4), (17, 4)], eqt := [], n := 26, keep := [] }
theorem q_layout_Env_Cas : FnS cx_layout_Env_Cas Try.f47 (bodyOf Try.f47) 4 = s_layout_Env_Cas := by
  funext args K σ
  rcases args with _ | ⟨a0, _ | ⟨a1, _ | ⟨a2, _ | ⟨a3, _ | ⟨b, r⟩⟩⟩⟩⟩ <;> kernel_rfl
theorem e_layout_Env_Cas : Entry Try.prog 47 .write s_layout_Env_Cas :=
  entry (C := cx_layout_Env_Cas) (TOk.cons e_mem_Mem_By (TOk.cons e_mem_Mem_Cas TOk.nil)) mixedOk Try.func47 (by kernel_rfl) (by kernel_rfl) (by kernel_rfl) q_layout_Env_Cas

def xl_layout_Env_Cas : List (Nat × Nat) := [(4, 4), (11, 4), (13, 4), (17, 4)]
noncomputable def xc_layout_Env_Cas : XC XN :=
(.seq none
 (.reg [⟨none, some 4, [(.tmp 0)], ⟨.lb 4 9, rAny xl_layout_Env_Cas (.lb 4 9)⟩⟩,
  ⟨none, some 8, [(.const (.bool false))], ⟨.f fMove, rMove⟩⟩])
 (.seq none
 (.reg [⟨none, some 11, [(.tmp 4)], ⟨.f (fFld 7), rFld 7⟩⟩,
  ⟨none, some 12, [(.tmp 11)], ⟨.lr 4 1 false, rLr1 4⟩⟩,
  ⟨none, some 13, [(.tmp 4)], ⟨.f (fFld 8), rFld 8⟩⟩,
  ⟨none, some 14, [(.tmp 13)], ⟨.lr 4 1 false, rLr1 4⟩⟩,
  ⟨none, some 15, [(.tmp 12), (.tmp 14)], ⟨.call .write s_mem_Mem_By v_mem_Mem_By, rCall v_mem_Mem_By⟩⟩])
 (.seq none
 (.reg [⟨none, some 17, [(.tmp 4)], ⟨.f (fFld 7), rFld 7⟩⟩,
  ⟨none, some 18, [(.tmp 17)], ⟨.lr 4 1 false, rLr1 4⟩⟩,
  ⟨none, some 19, [(.tmp 1)], ⟨.f fMove, rMove⟩⟩,
  ⟨none, some 20, [(.tmp 2)], ⟨.f fMove, rMove⟩⟩,
  ⟨none, some 21, [(.tmp 3)], ⟨.f fMove, rMove⟩⟩,
  ⟨none, some 22, [(.tmp 18), (.tmp 19), (.tmp 20), (.tmp 21)], ⟨.call .write s_mem_Mem_Cas v_mem_Mem_Cas, rCall v_mem_Mem_Cas⟩⟩,
  ⟨none, some 16, [(.tmp 22)], ⟨.f fMove, rMove⟩⟩,
  ⟨none, some 23, [(.tmp 16)], ⟨.f (fExt 0), rAny xl_layout_Env_Cas (.f (fExt 0))⟩⟩,
  ⟨none, some 24, [(.tmp 16)], ⟨.f (fExt 1), rAny xl_layout_Env_Cas (.f (fExt 1))⟩⟩,
  ⟨none, some 9, [(.tmp 23)], ⟨.f fMove, rMove⟩⟩,
  ⟨none, some 10, [(.tmp 24)], ⟨.f fMove, rMove⟩⟩])
 (.seq none
 (.reg [⟨none, some 25, [(.tmp 9)], ⟨.f fMove, rMove⟩⟩,
  ⟨none, some 8, [(.tmp 25)], ⟨.f fMove, rMove⟩⟩])
 .ret))))
noncomputable def v_layout_Env_Cas : EvF := evFn 4 xc_layout_Env_Cas [.t 8]
theorem xt_layout_Env_Cas : toC cx_layout_Env_Cas (bodyOf Try.f47) = some (xc_layout_Env_Cas.map XN.sm) := by kernel_rfl
theorem xr_layout_Env_Cas : toR cx_layout_Env_Cas Try.f47.results.toList = some [.t 8] := by kernel_rfl
theorem xo_layout_Env_Cas : xc_layout_Env_Cas.ok xl_layout_Env_Cas := ⟨⟨rAny_ok (trivial), rMove_ok, trivial⟩, ⟨⟨rFld_ok _, rLr1_ok _, rFld_ok _, rLr1_ok _, rCall_ok ve_mem_Mem_By, trivial⟩, ⟨⟨rFld_ok _, rLr1_ok _, rMove_ok, rMove_ok, rMove_ok, rCall_ok ve_mem_Mem_Cas, rMove_ok, rAny_ok (eqv_ext _), rAny_ok (eqv_ext _), rMove_ok, rMove_ok, trivial⟩, ⟨⟨rMove_ok, rMove_ok, trivial⟩, trivial⟩⟩⟩⟩
theorem ve_layout_Env_Cas : EvOk s_layout_Env_Cas v_layout_Env_Cas := EvOk.of (evFn_sound (C := cx_layout_Env_Cas) xt_layout_Env_Cas xr_layout_Env_Cas xo_layout_Env_Cas) q_layout_Env_Cas

attribute [irreducible] w_layout_Env_Cas s_layout_Env_Cas

/-! ### (*/mem.Mem).Add -/
def w_mem_Mem_Add (a0 a1 a2 : Value) (K : Value → Mem → Prop) (σ : Mem) : Prop :=
xF fMove [(.int .u64 0)] fun v6 =>
xF fMove [(.int .i64 0)] fun v7 =>
xF fMove [a0] fun v9 =>
xF fMove [a1] fun v10 =>
s_mem_Mem_step [v9, v10] (fun v11 σ =>
xF (fUn .not) [v11] fun v12 =>
xIf v12
 (xF fMove [(.int .u64 0)] fun v6 =>
xF fMove [(.int .i64 2)] fun v7 =>
K (.tuple #[v6, v7]) σ)
 (xF fMove [a0] fun v13 =>
xF fNil [v13] fun v14 =>
xF (fFld 0) [v14] fun v15 =>
hLoad 1 false [v15] (fun v16 σ =>
xF fMove [a1] fun v17 =>
xF (fIxS 1) [v16, v17] fun v18 =>
hLoad 1 false [v18] (fun v19 σ =>
xF fMove [v19] fun v8 =>
xF fMove [a0] fun v20 =>
xF fMove [a1] fun v21 =>
xF fMove [v8] fun v22 =>
xF fMove [a2] fun v23 =>
xF (fBin .add .no) [v22, v23] fun v24 =>
s_mem_Mem_set [v20, v21, v24] (fun v25 σ =>
xF fMove [v8] fun v26 =>
xF fMove [v26] fun v6 =>
xF fMove [(.int .i64 0)] fun v7 =>
K (.tuple #[v6, v7]) σ) σ) σ) σ)) σ

def s_mem_Mem_Add : Spec := fun args K σ => match args with
  | [a0, a1, a2] => w_mem_Mem_Add a0 a1 a2 K σ
  | _ => False

noncomputable def cx_mem_Mem_Add : Cx := { P := Try.prog, T := [(62, .write, s_mem_Mem_step), (63, .write, s_mem_Mem_set)], loc := [], eqt := [], n := 27, keep := [] }
theorem q_mem_Mem_Add : FnS cx_mem_Mem_Add Try.f49 (bodyOf Try.f49) 3 = s_mem_Mem_Add := by
  funext args K σ
  rcases args with _ | ⟨a0, _ | ⟨a1, _ | ⟨a2, _ | ⟨b, r⟩⟩⟩⟩ <;> kernel_rfl
theorem e_mem_Mem_Add : Entry Try.prog 49 .write s_mem_Mem_Add :=
  entry (C := cx_mem_Mem_Add) (TOk.cons e_mem_Mem_step (TOk.cons e_mem_Mem_set TOk.nil)) mixedOk Try.func49 (by kernel_rfl) (by kernel_rfl) (by kernel_rfl) q_mem_Mem_Add


attribute [irreducible] w_mem_Mem_Add s_mem_Mem_Add

/-! ### (/layout.Env).Add -/
def w_layout_Env_Add (a0 a1 a2 : Value) (K : Value → Mem → Prop) (σ : Mem) : Prop :=
xC (gBox 9 [a0] []) fun c3 =>
xF (fFld 7) [(locP 3)] fun v6 =>
xO (gLoad 1 false [v6] c3) fun v7 =>
xF (fFld 8) [(locP 3)] fun v8 =>
xO (gLoad 1 false [v8] c3) fun v9 =>
s_mem_Mem_By [v7, v9] (fun v10 σ =>
xF (fFld 7) [(locP 3)] fun v11 =>
xO (gLoad 1 false [v11] c3) fun v12 =>
xF fMove [a1] fun v13 =>
xF fMove [a2] fun v14 =>
xF (fConv .u64) [v14] fun v15 =>
s_mem_Mem_Add [v12, v13, v15] (fun v16 σ =>
K (.tuple #[]) σ) σ) σ

def s_layout_Env_Add : Spec := fun args K σ => match args with
  | [a0, a1, a2] => w_layout_Env_Add a0 a1 a2 K σ
  | _ => False

noncomputable def cx_layout_Env_Add : Cx := { P := Try.prog, T := [(41, .write, s_mem_Mem_By), (49, .write, s_mem_Mem_Add)], loc := [(3, 3), (6, 3), (8, 3), (11, 3)], eqt := [], n := 17, keep := [] }
theorem q_layout_Env_Add : FnS cx_layout_Env_Add Try.f48 (bodyOf Try.f48) 3 = s_layout_Env_Add := by
  funext args K σ
  rcases args with _ | ⟨a0, _ | ⟨a1, _ | ⟨a2, _ | ⟨b, r⟩⟩⟩⟩ <;> kernel_rfl
theorem e_layout_Env_Add : Entry Try.prog 48 .write s_layout_Env_Add :=
  entry (C := cx_layout_Env_Add) (TOk.cons e_mem_Mem_By (TOk.cons e_mem_Mem_Add TOk.nil)) mixedOk Try.func48 (by kernel_rfl) (by kernel_rfl) (by kernel_rfl) q_layout_Env_Add


attribute [irreducible] w_layout_Env_Add s_layout_Env_Add

/-! ### (*/mem.Mem).Last -/
def w_mem_Mem_Last (a0 : Value) (K : Value → Mem → Prop) (σ : Mem) : Prop :=
xF fMove [a0] fun v3 =>
xF (fBin .eql .ptr) [v3, (.pointer none)] fun v4 =>
xIf v4
 (xF (fBuild [(0, 1), (1, 1), (2, 1)] [(.int .i64 0), (.int .i64 0), (.bool false)] []) [] fun v5 =>
xC (gStore 3 [(locP 2), v5] [(.int .i64 0), (.int .i64 0), (.bool false)]) fun c2 =>
xO (gLoad 3 true [(locP 2)] c2) fun r2 =>
K r2 σ)
 (xF fMove [a0] fun v6 =>
xF fNil [v6] fun v7 =>
xF (fFld 4) [v7] fun v8 =>
hLoad 3 true [v8] (fun v9 σ =>
xC (gStore 3 [(locP 2), v9] [(.int .i64 0), (.int .i64 0), (.bool false)]) fun c2 =>
xO (gLoad 3 true [(locP 2)] c2) fun r2 =>
K r2 σ) σ)

def s_mem_Mem_Last : Spec := fun args K σ => match args with
  | [a0] => w_mem_Mem_Last a0 K σ
  | _ => False

noncomputable def cx_mem_Mem_Last : Cx := { P := Try.prog, T := [], loc := [(2, 2)], eqt := [(29, .ptr)], n := 10, keep := [] }
theorem q_mem_Mem_Last : FnS cx_mem_Mem_Last Try.f50 (bodyOf Try.f50) 1 = s_mem_Mem_Last := by
  funext args K σ
  rcases args with _ | ⟨a0, _ | ⟨b, r⟩⟩ <;> kernel_rfl
theorem e_mem_Mem_Last : Entry Try.prog 50 .read s_mem_Mem_Last :=
  entry (C := cx_mem_Mem_Last) TOk.nil mixedOk Try.func50 (by kernel_rfl) (by kernel_rfl) (by kernel_rfl) q_mem_Mem_Last


attribute [irreducible] w_mem_Mem_Last s_mem_Mem_Last

/-! ### (*/mem.Mem).Steps -/
def w_mem_Mem_Steps (a0 : Value) (K : Value → Mem → Prop) (σ : Mem) : Prop :=
xF fMove [(.int .i64 0)] fun v2 =>
xF fMove [a0] fun v3 =>
xF (fBin .eql .ptr) [v3, (.pointer none)] fun v4 =>
xIf v4
 (xF fMove [(.int .i64 0)] fun v2 =>
K v2 σ)
 (xF fMove [a0] fun v5 =>
xF fNil [v5] fun v6 =>
xF (fFld 2) [v6] fun v7 =>
hLoad 1 false [v7] (fun v8 σ =>
xF fMove [v8] fun v2 =>
K v2 σ) σ)

def s_mem_Mem_Steps : Spec := fun args K σ => match args with
  | [a0] => w_mem_Mem_Steps a0 K σ
  | _ => False

noncomputable def cx_mem_Mem_Steps : Cx := { P := Try.prog, T := [], loc := [], eqt := [(29, .ptr)], n := 9, keep := [] }
theorem q_mem_Mem_Steps : FnS cx_mem_Mem_Steps Try.f52 (bodyOf Try.f52) 1 = s_mem_Mem_Steps := by
  funext args K σ
  rcases args with _ | ⟨a0, _ | ⟨b, r⟩⟩ <;> kernel_rfl
theorem e_mem_Mem_Steps : Entry Try.prog 52 .read s_mem_Mem_Steps :=
  entry (C := cx_mem_Mem_Steps) TOk.nil mixedOk Try.func52 (by kernel_rfl) (by kernel_rfl) (by kernel_rfl) q_mem_Mem_Steps

def xl_mem_Mem_Steps : List (Nat × Nat) := []
noncomputable def xc_mem_Mem_Steps : XC XN :=
(.seq none
 (.reg [⟨none, some 2, [(.const (.int .i64 0))], ⟨.f fMove, rMove⟩⟩])
 (.seq none
 (.seq none
 (.reg [⟨none, some 3, [(.tmp 0)], ⟨.f fMove, rMove⟩⟩,
  ⟨none, some 4, [(.tmp 3), (.const (.pointer none))], ⟨.f (fBin .eql .ptr), rAny xl_mem_Mem_Steps (.f (fBin .eql .ptr))⟩⟩])
 (.cond (.tmp 4)
 (.seq none
 (.reg [⟨none, some 2, [(.const (.int .i64 0))], ⟨.f fMove, rMove⟩⟩])
 .ret)
 .skip))
 (.seq none
 (.reg [⟨none, some 5, [(.tmp 0)], ⟨.f fMove, rMove⟩⟩,
  ⟨none, some 6, [(.tmp 5)], ⟨.f fNil, rNil⟩⟩,
  ⟨none, some 7, [(.tmp 6)], ⟨.f (fFld 2), rFld 2⟩⟩,
  ⟨none, some 8, [(.tmp 7)], ⟨.load 1 false, rLoad1⟩⟩,
  ⟨none, some 2, [(.tmp 8)], ⟨.f fMove, rMove⟩⟩])
 .ret)))
noncomputable def v_mem_Mem_Steps : EvF := evFn 1 xc_mem_Mem_Steps [.t 2]
theorem xt_mem_Mem_Steps : toC cx_mem_Mem_Steps (bodyOf Try.f52) = some (xc_mem_Mem_Steps.map XN.sm) := by kernel_rfl
theorem xr_mem_Mem_Steps : toR cx_mem_Mem_Steps Try.f52.results.toList = some [.t 2] := by kernel_rfl
theorem xo_mem_Mem_Steps : xc_mem_Mem_Steps.ok xl_mem_Mem_Steps := ⟨⟨rMove_ok, trivial⟩, ⟨⟨⟨rMove_ok, rAny_ok (eqv_bin _ _), trivial⟩, ⟨⟨⟨rMove_ok, trivial⟩, trivial⟩, trivial⟩⟩, ⟨⟨rMove_ok, rNil_ok, rFld_ok _, rLoad1_ok, rMove_ok, trivial⟩, trivial⟩⟩⟩
theorem ve_mem_Mem_Steps : EvOk s_mem_Mem_Steps v_mem_Mem_Steps := EvOk.of (evFn_sound (C := cx_mem_Mem_Steps) xt_mem_Mem_Steps xr_mem_Mem_Steps xo_mem_Mem_Steps) q_mem_Mem_Steps

attribute [irreducible] w_mem_Mem_Steps s_mem_Mem_Steps

/-! ### (/layout.Env).Now -/
def w_layout_Env_Now (a0 : Value) (K : Value → Mem → Prop) (σ : Mem) : Prop :=
xC (gBox 9 [a0] []) fun c1 =>
xF fMove [(.int .i64 0)] fun v2 =>
xF (fFld 7) [(locP 1)] fun v3 =>
xO (gLoad 1 false [v3] c1) fun v4 =>
s_mem_Mem_Steps [v4] (fun v5 σ =>
xF fMove [v5] fun v2 =>
K v2 σ) σ

def s_layout_Env_Now : Spec := fun args K σ => match args with
  | [a0] => w_layout_Env_Now a0 K σ
  | _ => False

noncomputable def cx_layout_Env_Now : Cx := { P := Try.prog, T := [(52, .read, s_mem_Mem_Steps)], loc := [(1, 1), (3, 1)], eqt := [], n := 6, keep := [] }
theorem q_layout_Env_Now : FnS cx_layout_Env_Now Try.f51 (bodyOf Try.f51) 1 = s_layout_Env_Now := by
  funext args K σ
  rcases args with _ | ⟨a0, _ | ⟨b, r⟩⟩ <;> kernel_rfl
theorem e_layout_Env_Now : Entry Try.prog 51 .read s_layout_Env_Now :=
  entry (C := cx_layout_Env_Now) (TOk.cons e_mem_Mem_Steps TOk.nil) mixedOk Try.func51 (by kernel_rfl) (by kernel_rfl) (by kernel_rfl) q_layout_Env_Now

def xl_layout_Env_Now : List (Nat × Nat) := [(1, 1), (3, 1)]
noncomputable def xc_layout_Env_Now : XC XN :=
(.seq none
 (.reg [⟨none, some 1, [(.tmp 0)], ⟨.lb 1 9, rAny xl_layout_Env_Now (.lb 1 9)⟩⟩,
  ⟨none, some 2, [(.const (.int .i64 0))], ⟨.f fMove, rMove⟩⟩])
 (.seq none
 (.reg [⟨none, some 3, [(.tmp 1)], ⟨.f (fFld 7), rFld 7⟩⟩,
  ⟨none, some 4, [(.tmp 3)], ⟨.lr 1 1 false, rLr1 1⟩⟩,
  ⟨none, some 5, [(.tmp 4)], ⟨.call .read s_mem_Mem_Steps v_mem_Mem_Steps, rCall v_mem_Mem_Steps⟩⟩,
  ⟨none, some 2, [(.tmp 5)], ⟨.f fMove, rMove⟩⟩])
 .ret))
noncomputable def v_layout_Env_Now : EvF := evFn 1 xc_layout_Env_Now [.t 2]
theorem xt_layout_Env_Now : toC cx_layout_Env_Now (bodyOf Try.f51) = some (xc_layout_Env_Now.map XN.sm) := by kernel_rfl
theorem xr_layout_Env_Now : toR cx_layout_Env_Now Try.f51.results.toList = some [.t 2] := by kernel_rfl
theorem xo_layout_Env_Now : xc_layout_Env_Now.ok xl_layout_Env_Now := ⟨⟨rAny_ok (trivial), rMove_ok, trivial⟩, ⟨⟨rFld_ok _, rLr1_ok _, rCall_ok ve_mem_Mem_Steps, rMove_ok, trivial⟩, trivial⟩⟩
theorem ve_layout_Env_Now : EvOk s_layout_Env_Now v_layout_Env_Now := EvOk.of (evFn_sound (C := cx_layout_Env_Now) xt_layout_Env_Now xr_layout_Env_Now xo_layout_Env_Now) q_layout_Env_Now

attribute [irreducible] w_layout_Env_Now s_layout_Env_Now

/-! ### /law04.LayoutEnv -/
def w_law04_LayoutEnv_j2b (K : Value → Mem → Prop) (σ : Mem) : Prop :=
xF fMove [(.bool true)] fun v2 =>
K v2 σ

def w_law04_LayoutEnv_j2 (K : Value → Mem → Prop) (ts : List Value) (ls : List (List Value)) (σ : Mem) : Prop := w_law04_LayoutEnv_j2b K σ

def w_law04_LayoutEnv_j5b (K : Value → Mem → Prop) (J2 : List Value → List (List Value) → Mem → Prop) (R1 : List Value → List (List Value) → Mem → Prop) (v0 v4 v6 v8 v178 : Value) (c3 : List Value) (σ : Mem) : Prop :=
xIf v178
 (xF fMove [(.bool false)] fun v2 =>
K v2 σ)
 (xF fMove [v8] fun v48 =>
xF (fBin .add .no) [v48, (.int .i64 1)] fun v49 =>
xF fMove [v49] fun v8 =>
R1 [v0, v4, v6, v8] [c3] σ)

def w_law04_LayoutEnv_j5 (K : Value → Mem → Prop) (J2 : List Value → List (List Value) → Mem → Prop) (R1 : List Value → List (List Value) → Mem → Prop) (ts : List Value) (ls : List (List Value)) (σ : Mem) : Prop := w_law04_LayoutEnv_j5b K J2 R1 (ts.getD 0 poison) (ts.getD 1 poison) (ts.getD 2 poison) (ts.getD 3 poison) (ts.getD 4 poison) (ls.getD 0 []) σ

def w_law04_LayoutEnv_j4b (K : Value → Mem → Prop) (J2 : List Value → List (List Value) → Mem → Prop) (R1 : List Value → List (List Value) → Mem → Prop) (v0 v4 v6 v8 v11 : Value) (c3 c9 c10 : List Value) (σ : Mem) : Prop :=
xF fMove [v4] fun v147 =>
s_mem_Mem_Last [v147] (fun v148 σ =>
xF fMove [v6] fun v149 =>
s_mem_Mem_Last [v149] (fun v150 σ =>
xC (gStore 3 [(locP 16), v148] [(.int .i64 0), (.int .i64 0), (.bool false)]) fun c16 =>
xC (gStore 3 [(locP 17), v150] [(.int .i64 0), (.int .i64 0), (.bool false)]) fun c17 =>
xJoin (w_law04_LayoutEnv_j5 K J2 R1) fun J5 =>
xF fMove [v4] fun v151 =>
xF fMove [v11] fun v152 =>
s_mem_Mem_Peek [v151, v152] (fun v153 σ =>
xF fMove [v6] fun v154 =>
xF fMove [v11] fun v155 =>
s_mem_Mem_Peek [v154, v155] (fun v156 σ =>
xF (fBin .neq .no) [v153, v156] fun v157 =>
xF fMove [v157] fun v158 =>
xIf v158
 (xF fPick [(.bool true), (.bool true), undef] fun v164 =>
xF fMove [v164] fun v165 =>
xIf v165
 (xF fPick [(.bool true), (.bool true), undef] fun v171 =>
xF fMove [v171] fun v172 =>
xIf v172
 (xF fPick [(.bool true), (.bool true), undef] fun v178 =>
J5 [v0, v4, v6, v8, v178] [c3] σ)
 (xF (fFld 1) [(locP 16)] fun v173 =>
xO (gLoad 1 false [v173] c16) fun v174 =>
xF (fFld 2) [(locP 9)] fun v175 =>
xO (gLoad 1 false [v175] c9) fun v176 =>
xF (fBin .neq .no) [v174, v176] fun v177 =>
xF fPick [(.bool false), (.bool true), v177] fun v178 =>
J5 [v0, v4, v6, v8, v178] [c3] σ))
 (xF (fFld 0) [(locP 16)] fun v166 =>
xO (gLoad 1 false [v166] c16) fun v167 =>
xF (fFld 0) [(locP 17)] fun v168 =>
xO (gLoad 1 false [v168] c17) fun v169 =>
xF (fBin .neq .no) [v167, v169] fun v170 =>
xF fPick [(.bool false), (.bool true), v170] fun v171 =>
xF fMove [v171] fun v172 =>
xIf v172
 (xF fPick [(.bool true), (.bool true), undef] fun v178 =>
J5 [v0, v4, v6, v8, v178] [c3] σ)
 (xF (fFld 1) [(locP 16)] fun v173 =>
xO (gLoad 1 false [v173] c16) fun v174 =>
xF (fFld 2) [(locP 9)] fun v175 =>
xO (gLoad 1 false [v175] c9) fun v176 =>
xF (fBin .neq .no) [v174, v176] fun v177 =>
xF fPick [(.bool false), (.bool true), v177] fun v178 =>
J5 [v0, v4, v6, v8, v178] [c3] σ)))
 (xO (gLoad 9 true [(locP 10)] c10) fun v159 =>
s_layout_Env_Now [v159] (fun v160 σ =>
xF fMove [v6] fun v161 =>
s_mem_Mem_Steps [v161] (fun v162 σ =>
xF (fBin .neq .no) [v160, v162] fun v163 =>
xF fPick [(.bool false), (.bool true), v163] fun v164 =>
xF fMove [v164] fun v165 =>
xIf v165
 (xF fPick [(.bool true), (.bool true), undef] fun v171 =>
xF fMove [v171] fun v172 =>
xIf v172
 (xF fPick [(.bool true), (.bool true), undef] fun v178 =>
J5 [v0, v4, v6, v8, v178] [c3] σ)
 (xF (fFld 1) [(locP 16)] fun v173 =>
xO (gLoad 1 false [v173] c16) fun v174 =>
xF (fFld 2) [(locP 9)] fun v175 =>
xO (gLoad 1 false [v175] c9) fun v176 =>
xF (fBin .neq .no) [v174, v176] fun v177 =>
xF fPick [(.bool false), (.bool true), v177] fun v178 =>
J5 [v0, v4, v6, v8, v178] [c3] σ))
 (xF (fFld 0) [(locP 16)] fun v166 =>
xO (gLoad 1 false [v166] c16) fun v167 =>
xF (fFld 0) [(locP 17)] fun v168 =>
xO (gLoad 1 false [v168] c17) fun v169 =>
xF (fBin .neq .no) [v167, v169] fun v170 =>
xF fPick [(.bool false), (.bool true), v170] fun v171 =>
xF fMove [v171] fun v172 =>
xIf v172
 (xF fPick [(.bool true), (.bool true), undef] fun v178 =>
J5 [v0, v4, v6, v8, v178] [c3] σ)
 (xF (fFld 1) [(locP 16)] fun v173 =>
xO (gLoad 1 false [v173] c16) fun v174 =>
xF (fFld 2) [(locP 9)] fun v175 =>
xO (gLoad 1 false [v175] c9) fun v176 =>
xF (fBin .neq .no) [v174, v176] fun v177 =>
xF fPick [(.bool false), (.bool true), v177] fun v178 =>
J5 [v0, v4, v6, v8, v178] [c3] σ))) σ) σ)) σ) σ) σ) σ

def w_law04_LayoutEnv_j4 (K : Value → Mem → Prop) (J2 : List Value → List (List Value) → Mem → Prop) (R1 : List Value → List (List Value) → Mem → Prop) (ts : List Value) (ls : List (List Value)) (σ : Mem) : Prop := w_law04_LayoutEnv_j4b K J2 R1 (ts.getD 0 poison) (ts.getD 1 poison) (ts.getD 2 poison) (ts.getD 3 poison) (ts.getD 4 poison) (ls.getD 0 []) (ls.getD 1 []) (ls.getD 2 []) σ

def w_law04_LayoutEnv_j6b (K : Value → Mem → Prop) (J2 : List Value → List (List Value) → Mem → Prop) (R1 : List Value → List (List Value) → Mem → Prop) (J4 : List Value → List (List Value) → Mem → Prop) (v0 v4 v6 v8 v11 v143 : Value) (c3 c9 c10 : List Value) (σ : Mem) : Prop :=
xIf v143
 (xF fMove [(.bool false)] fun v2 =>
K v2 σ)
 (xF fMove [v6] fun v144 =>
xF fMove [v11] fun v145 =>
s_mem_Mem_Load [v144, v145] (fun v146 σ =>
J4 [v0, v4, v6, v8, v11] [c3, c9, c10] σ) σ)

def w_law04_LayoutEnv_j6 (K : Value → Mem → Prop) (J2 : List Value → List (List Value) → Mem → Prop) (R1 : List Value → List (List Value) → Mem → Prop) (J4 : List Value → List (List Value) → Mem → Prop) (ts : List Value) (ls : List (List Value)) (σ : Mem) : Prop := w_law04_LayoutEnv_j6b K J2 R1 J4 (ts.getD 0 poison) (ts.getD 1 poison) (ts.getD 2 poison) (ts.getD 3 poison) (ts.getD 4 poison) (ts.getD 5 poison) (ls.getD 0 []) (ls.getD 1 []) (ls.getD 2 []) σ

def w_law04_LayoutEnv_j3b (K : Value → Mem → Prop) (J2 : List Value → List (List Value) → Mem → Prop) (R1 : List Value → List (List Value) → Mem → Prop) (v0 v4 v6 v8 : Value) (c3 : List Value) (σ : Mem) : Prop :=
xF fMove [v0] fun v50 =>
xF fMove [v8] fun v51 =>
xF (fIxS 5) [v50, v51] fun v52 =>
hLoad 5 true [v52] (fun v53 σ =>
xC (gStore 5 [(locP 9), v53] [(.int .i64 0), (.int .i64 0), (.int .i64 0), (.int .i64 0), (.int .u64 0)]) fun c9 =>
xO (gLoad 7 true [(locP 3)] c3) fun v54 =>
xF fMove [v4] fun v55 =>
xF (fFld 2) [(locP 9)] fun v56 =>
xO (gLoad 1 false [v56] c9) fun v57 =>
xF (fBuild [(0, 7), (7, 1), (8, 1)] [(.int .i64 0), (.int .i64 0), (.int .i64 0), (.int .i64 0), (.int .i64 0), (.int .i64 0), (.int .i64 0), (.pointer none), (.int .i64 0)] [0, 1, 2]) [v54, v55, v57] fun v58 =>
xC (gStore 9 [(locP 10), v58] [(.int .i64 0), (.int .i64 0), (.int .i64 0), (.int .i64 0), (.int .i64 0), (.int .i64 0), (.int .i64 0), (.pointer none), (.int .i64 0)]) fun c10 =>
xF (fFld 1) [(locP 9)] fun v59 =>
xO (gLoad 1 false [v59] c9) fun v60 =>
xF fMove [v4] fun v61 =>
s_mem_Mem_Len [v61] (fun v62 σ =>
xF (fBin .rem .no) [v60, v62] fun v63 =>
xF fMove [v4] fun v64 =>
s_mem_Mem_Len [v64] (fun v65 σ =>
xF (fBin .add .no) [v63, v65] fun v66 =>
xF fMove [v4] fun v67 =>
s_mem_Mem_Len [v67] (fun v68 σ =>
xF (fBin .rem .no) [v66, v68] fun v69 =>
xF fMove [v69] fun v11 =>
xF fMove [v6] fun v70 =>
xF (fFld 2) [(locP 9)] fun v71 =>
xO (gLoad 1 false [v71] c9) fun v72 =>
s_mem_Mem_By [v70, v72] (fun v73 σ =>
xJoin (w_law04_LayoutEnv_j4 K J2 R1) fun J4 =>
xF (fFld 0) [(locP 9)] fun v74 =>
xO (gLoad 1 false [v74] c9) fun v75 =>
xF (fBin .eql .no) [v75, (.int .i64 0)] fun v88 =>
xF fMove [v88] fun v87 =>
xIf v87
 (xF fMove [v6] fun v90 =>
xF fMove [v11] fun v91 =>
s_mem_Mem_Load [v90, v91] (fun v92 σ =>
xF fMove [v92] fun v89 =>
xF (fExt 0) [v89] fun v93 =>
xF (fExt 1) [v89] fun v94 =>
xF fMove [v93] fun v12 =>
xF fMove [v94] fun v13 =>
xO (gLoad 9 true [(locP 10)] c10) fun v95 =>
xF fMove [v11] fun v96 =>
s_layout_Env_Load [v95, v96] (fun v97 σ =>
xF fMove [v12] fun v98 =>
xF (fBin .neq .no) [v97, v98] fun v99 =>
xIf v99
 (xF fMove [(.bool false)] fun v2 =>
K v2 σ)
 (J4 [v0, v4, v6, v8, v11] [c3, c9, c10] σ)) σ) σ)
 (xF (fBin .eql .no) [v75, (.int .i64 1)] fun v101 =>
xF fMove [v101] fun v100 =>
xIf v100
 (xO (gLoad 9 true [(locP 10)] c10) fun v102 =>
xF fMove [v11] fun v103 =>
xF (fFld 4) [(locP 9)] fun v104 =>
xO (gLoad 1 false [v104] c9) fun v105 =>
s_layout_Env_Store [v102, v103, v105] (fun v106 σ =>
xF fMove [v6] fun v107 =>
xF fMove [v11] fun v108 =>
xF (fFld 4) [(locP 9)] fun v109 =>
xO (gLoad 1 false [v109] c9) fun v110 =>
s_mem_Mem_Store [v107, v108, v110] (fun v111 σ =>
J4 [v0, v4, v6, v8, v11] [c3, c9, c10] σ) σ) σ)
 (xF (fBin .eql .no) [v75, (.int .i64 2)] fun v113 =>
xF fMove [v113] fun v112 =>
xIf v112
 (xF fMove [v6] fun v115 =>
xF fMove [v11] fun v116 =>
xF fMove [v6] fun v117 =>
xF fMove [v11] fun v118 =>
s_mem_Mem_Peek [v117, v118] (fun v119 σ =>
xF (fFld 4) [(locP 9)] fun v120 =>
xO (gLoad 1 false [v120] c9) fun v121 =>
s_mem_Mem_Cas [v115, v116, v119, v121] (fun v122 σ =>
xF fMove [v122] fun v114 =>
xF (fExt 0) [v114] fun v123 =>
xF (fExt 1) [v114] fun v124 =>
xF fMove [v123] fun v14 =>
xF fMove [v124] fun v15 =>
xJoin (w_law04_LayoutEnv_j6 K J2 R1 J4) fun J6 =>
xO (gLoad 9 true [(locP 10)] c10) fun v125 =>
xF fMove [v11] fun v126 =>
xF fMove [v4] fun v127 =>
xF fMove [v11] fun v128 =>
s_mem_Mem_Peek [v127, v128] (fun v129 σ =>
xF (fFld 4) [(locP 9)] fun v130 =>
xO (gLoad 1 false [v130] c9) fun v131 =>
s_layout_Env_Cas [v125, v126, v129, v131] (fun v132 σ =>
xF fMove [v14] fun v133 =>
xF (fBin .neq .bool) [v132, v133] fun v134 =>
xF fMove [v134] fun v135 =>
xIf v135
 (xF fPick [(.bool true), (.bool true), undef] fun v143 =>
J6 [v0, v4, v6, v8, v11, v143] [c3, c9, c10] σ)
 (xO (gLoad 9 true [(locP 10)] c10) fun v136 =>
xF fMove [v11] fun v137 =>
xF fMove [v4] fun v138 =>
xF fMove [v11] fun v139 =>
s_mem_Mem_Peek [v138, v139] (fun v140 σ =>
xF (fBin .add .no) [v140, (.int .u64 1)] fun v141 =>
s_layout_Env_Cas [v136, v137, v141, (.int .u64 5)] (fun v142 σ =>
xF fPick [(.bool false), (.bool true), v142] fun v143 =>
J6 [v0, v4, v6, v8, v11, v143] [c3, c9, c10] σ) σ) σ)) σ) σ) σ) σ)
 (xO (gLoad 9 true [(locP 10)] c10) fun v76 =>
xF fMove [v11] fun v77 =>
xF (fFld 3) [(locP 9)] fun v78 =>
xO (gLoad 1 false [v78] c9) fun v79 =>
s_layout_Env_Add [v76, v77, v79] (fun v80 σ =>
xF fMove [v6] fun v81 =>
xF fMove [v11] fun v82 =>
xF (fFld 3) [(locP 9)] fun v83 =>
xO (gLoad 1 false [v83] c9) fun v84 =>
xF (fConv .u64) [v84] fun v85 =>
s_mem_Mem_Add [v81, v82, v85] (fun v86 σ =>
J4 [v0, v4, v6, v8, v11] [c3, c9, c10] σ) σ) σ)))) σ) σ) σ) σ) σ

def w_law04_LayoutEnv_j3 (K : Value → Mem → Prop) (J2 : List Value → List (List Value) → Mem → Prop) (R1 : List Value → List (List Value) → Mem → Prop) (ts : List Value) (ls : List (List Value)) (σ : Mem) : Prop := w_law04_LayoutEnv_j3b K J2 R1 (ts.getD 0 poison) (ts.getD 1 poison) (ts.getD 2 poison) (ts.getD 3 poison) (ls.getD 0 []) σ

def w_law04_LayoutEnv_l8b (K : Value → Mem → Prop) (J2 : List Value → List (List Value) → Mem → Prop) (R1 : List Value → List (List Value) → Mem → Prop) (v0 v4 v6 v8 : Value) (c3 : List Value) (σ : Mem) : Prop :=
xJoin (w_law04_LayoutEnv_j3 K J2 R1) fun J3 =>
xF fMove [v8] fun v40 =>
xF fMove [v0] fun v41 =>
xF fLen [v41] fun v42 =>
xF (fBin .lss .no) [v40, v42] fun v43 =>
xF fMove [v43] fun v44 =>
xIf v44
 (xF fMove [v8] fun v45 =>
xF (fBin .lss .no) [v45, (.int .i64 60)] fun v46 =>
xF fPick [(.bool true), v46, (.bool false)] fun v47 =>
xIf v47
 (J3 [v0, v4, v6, v8] [c3] σ)
 (J2 [] [] σ))
 (xF fPick [(.bool false), undef, (.bool false)] fun v47 =>
xIf v47
 (J3 [v0, v4, v6, v8] [c3] σ)
 (J2 [] [] σ))

def w_law04_LayoutEnv_l8 (K : Value → Mem → Prop) (J2 : List Value → List (List Value) → Mem → Prop) (R1 : List Value → List (List Value) → Mem → Prop) (ts : List Value) (ls : List (List Value)) (σ : Mem) : Prop := w_law04_LayoutEnv_l8b K J2 R1 (ts.getD 0 poison) (ts.getD 1 poison) (ts.getD 2 poison) (ts.getD 3 poison) (ls.getD 0 []) σ

def w_law04_LayoutEnv_j1b (K : Value → Mem → Prop) (v0 v4 v6 v39 : Value) (c3 : List Value) (σ : Mem) : Prop :=
xIf v39
 (xF fMove [(.bool false)] fun v2 =>
K v2 σ)
 (xJoin (w_law04_LayoutEnv_j2 K) fun J2 =>
xF fMove [(.int .i64 0)] fun v8 =>
xLoop (w_law04_LayoutEnv_l8 K J2) [v0, v4, v6, v8] [c3] σ)

def w_law04_LayoutEnv_j1 (K : Value → Mem → Prop) (ts : List Value) (ls : List (List Value)) (σ : Mem) : Prop := w_law04_LayoutEnv_j1b K (ts.getD 0 poison) (ts.getD 1 poison) (ts.getD 2 poison) (ts.getD 3 poison) (ls.getD 0 []) σ

def w_law04_LayoutEnv (a0 : Value) (K : Value → Mem → Prop) (σ : Mem) : Prop :=
xF fMove [(.bool false)] fun v2 =>
xF (fBuild [(0, 1), (1, 1), (2, 1), (3, 1), (4, 1), (5, 1), (6, 1)] [(.int .i64 0), (.int .i64 0), (.int .i64 0), (.int .i64 0), (.int .i64 0), (.int .i64 0), (.int .i64 0)] []) [] fun v18 =>
s_law04_Config [v18] (fun v19 σ =>
xC (gStore 7 [(locP 3), v19] [(.int .i64 0), (.int .i64 0), (.int .i64 0), (.int .i64 0), (.int .i64 0), (.int .i64 0), (.int .i64 0)]) fun c3 =>
xO (gLoad 7 true [(locP 3)] c3) fun v21 =>
s_layout_Fresh [v21] (fun v22 σ =>
xF fMove [v22] fun v20 =>
xF (fExt 0) [v20] fun v23 =>
xF (fExt 1) [v20] fun v24 =>
xF fMove [v23] fun v4 =>
xF fMove [v24] fun v5 =>
xO (gLoad 7 true [(locP 3)] c3) fun v26 =>
s_layout_Fresh [v26] (fun v27 σ =>
xF fMove [v27] fun v25 =>
xF (fExt 0) [v25] fun v28 =>
xF (fExt 1) [v25] fun v29 =>
xF fMove [v28] fun v6 =>
xF fMove [v29] fun v7 =>
xJoin (w_law04_LayoutEnv_j1 K) fun J1 =>
s_law04_awake [] (fun v30 σ =>
xF (fUn .not) [v30] fun v31 =>
xF fMove [v31] fun v32 =>
xIf v32
 (xF fPick [(.bool true), (.bool true), undef] fun v35 =>
xF fMove [v35] fun v36 =>
xIf v36
 (xF fPick [(.bool true), (.bool true), undef] fun v39 =>
J1 [a0, v4, v6, v39] [c3] σ)
 (xF fMove [v7] fun v37 =>
xF (fBin .neq .no) [v37, (.int .i64 0)] fun v38 =>
xF fPick [(.bool false), (.bool true), v38] fun v39 =>
J1 [a0, v4, v6, v39] [c3] σ))
 (xF fMove [v5] fun v33 =>
xF (fBin .neq .no) [v33, (.int .i64 0)] fun v34 =>
xF fPick [(.bool false), (.bool true), v34] fun v35 =>
xF fMove [v35] fun v36 =>
xIf v36
 (xF fPick [(.bool true), (.bool true), undef] fun v39 =>
J1 [a0, v4, v6, v39] [c3] σ)
 (xF fMove [v7] fun v37 =>
xF (fBin .neq .no) [v37, (.int .i64 0)] fun v38 =>
xF fPick [(.bool false), (.bool true), v38] fun v39 =>
J1 [a0, v4, v6, v39] [c3] σ))) σ) σ) σ) σ

def s_law04_LayoutEnv : Spec := fun args K σ => match args with
  | [a0] => w_law04_LayoutEnv a0 K σ
  | _ => False

noncomputable def cx_law04_LayoutEnv : Cx := { P := Try.prog, T := [(21, .none, s_law04_Config), (22, .write, s_layout_Fresh), (14, .none, s_law04_awake), (23, .read, s_mem_Mem_Len), (41, .write, s_mem_Mem_By), (42, .write, s_mem_Mem_Load), (43, .write, s_layout_Env_Load), (44, .write, s_layout_Env_Store), (45, .write, s_mem_Mem_Store), (27, .read, s_mem_Mem_Peek), (46, .write, s_mem_Mem_Cas), (47, .write, s_layout_Env_Cas), (48, .write, s_layout_Env_Add), (49, .write, s_mem_Mem_Add), (50, .read, s_mem_Mem_Last), (51, .read, s_layout_Env_Now), (52, .read, s_mem_Mem_Steps)], loc := [(3, 3), (9, 9), (10, 10), (16, 16), (17, 17), (56, 9), (59, 9), (71, 9), (74, 9), (78, 9), (83, 9), (104, 9), (109, 9), (120, 9), (130, 9), (166, 16), (168, 17), (173, 16), (175, 9)], eqt := [(4, .bool)], n := 179, keep := [(8, [0, 4, 6, 8], [3]), (1000006, [0, 4, 6, 39], [3]), (1000010, [0, 4, 6, 8], [3]), (1000027, [0, 4, 6, 8, 11, 143], [3, 9, 10]), (1000029, [0, 4, 6, 8, 11], [3, 9, 10]), (1000031, [0, 4, 6, 8, 178], [3]), (1000032, [], [])] }
theorem q_law04_LayoutEnv : FnS cx_law04_LayoutEnv Try.f9 (bodyOf Try.f9) 1 = s_law04_LayoutEnv := by
  funext args K σ
  rcases args with _ | ⟨a0, _ | ⟨b, r⟩⟩ <;> kernel_rfl
theorem e_law04_LayoutEnv : Entry Try.prog 9 .write s_law04_LayoutEnv :=
  entry (C := cx_law04_LayoutEnv) (TOk.cons e_law04_Config (TOk.cons e_layout_Fresh (TOk.cons e_law04_awake (TOk.cons e_mem_Mem_Len (TOk.cons e_mem_Mem_By (TOk.cons e_mem_Mem_Load (TOk.cons e_layout_Env_Load (TOk.cons e_layout_Env_Store (TOk.cons e_mem_Mem_Store (TOk.cons e_mem_Mem_Peek (TOk.cons e_mem_Mem_Cas (TOk.cons e_layout_Env_Cas (TOk.cons e_layout_Env_Add (TOk.cons e_mem_Mem_Add (TOk.cons e_mem_Mem_Last (TOk.cons e_layout_Env_Now (TOk.cons e_mem_Mem_Steps TOk.nil))))))))))))))))) mixedOk Try.func9 (by kernel_rfl) (by kernel_rfl) (by kernel_rfl) q_law04_LayoutEnv


attribute [irreducible] w_law04_LayoutEnv_j2b w_law04_LayoutEnv_j2 w_law04_LayoutEnv_j5b w_law04_LayoutEnv_j5 w_law04_LayoutEnv_j4b w_law04_LayoutEnv_j4 w_law04_LayoutEnv_j6b w_law04_LayoutEnv_j6 w_law04_LayoutEnv_j3b w_law04_LayoutEnv_j3 w_law04_LayoutEnv_l8b w_law04_LayoutEnv_l8 w_law04_LayoutEnv_j1b w_law04_LayoutEnv_j1 w_law04_LayoutEnv s_law04_LayoutEnv

/-! ### /law04.Arena -/
def w_law04_Arena (a0 a1 a2 a3 : Value) (K : Value → Mem → Prop) (σ : Mem) : Prop :=
xF fMove [(.bool false)] fun v9 =>
xF fMove [a0] fun v13 =>
xF fMove [a1] fun v14 =>
xF fMove [a2] fun v15 =>
xF fMove [a3] fun v16 =>
xF (fBuild [(0, 1), (1, 1), (2, 1), (3, 1), (4, 1), (5, 1), (6, 1)] [(.int .i64 0), (.int .i64 0), (.int .i64 0), (.int .i64 0), (.int .i64 0), (.int .i64 0), (.int .i64 0)] [0, 1, 2, 3, 4, 5, 6]) [v13, v14, v15, v16, (.int .i64 100), (.int .i64 600), (.int .i64 3)] fun v17 =>
xC (gStore 7 [(locP 10), v17] [(.int .i64 0), (.int .i64 0), (.int .i64 0), (.int .i64 0), (.int .i64 0), (.int .i64 0), (.int .i64 0)]) fun c10 =>
xO (gLoad 7 true [(locP 10)] c10) fun v19 =>
s_layout_Fresh [v19] (fun v20 σ =>
xF fMove [v20] fun v18 =>
xF (fExt 0) [v18] fun v21 =>
xF (fExt 1) [v18] fun v22 =>
xF fMove [v21] fun v11 =>
xF fMove [v22] fun v12 =>
xO (gLoad 7 true [(locP 10)] c10) fun v23 =>
xF fMove [v11] fun v24 =>
xF (fBuild [(0, 7), (7, 1), (8, 1)] [(.int .i64 0), (.int .i64 0), (.int .i64 0), (.int .i64 0), (.int .i64 0), (.int .i64 0), (.int .i64 0), (.pointer none), (.int .i64 0)] [0, 1]) [v23, v24] fun v25 =>
xF fMove [v12] fun v26 =>
xF (fBin .eql .no) [v26, (.int .i64 0)] fun v27 =>
xC (gStore 9 [(locP 8), v25] [(.int .i64 0), (.int .i64 0), (.int .i64 0), (.int .i64 0), (.int .i64 0), (.int .i64 0), (.int .i64 0), (.pointer none), (.int .i64 0)]) fun c8 =>
xF fMove [v27] fun v9 =>
xO (gLoad 9 true [(locP 8)] c8) fun r8 =>
K (.tuple #[r8, v9]) σ) σ

def s_law04_Arena : Spec := fun args K σ => match args with
  | [a0, a1, a2, a3] => w_law04_Arena a0 a1 a2 a3 K σ
  | _ => False

noncomputable def cx_law04_Arena : Cx := { P := Try.prog, T := [(22, .write, s_layout_Fresh)], loc := [(8, 8), (10, 10)], eqt := [], n := 28, keep := [] }
theorem q_law04_Arena : FnS cx_law04_Arena Try.f36 (bodyOf Try.f36) 4 = s_law04_Arena := by
  funext args K σ
  rcases args with _ | ⟨a0, _ | ⟨a1, _ | ⟨a2, _ | ⟨a3, _ | ⟨b, r⟩⟩⟩⟩⟩ <;> kernel_rfl
theorem e_law04_Arena : Entry Try.prog 36 .write s_law04_Arena :=
  entry (C := cx_law04_Arena) (TOk.cons e_layout_Fresh TOk.nil) mixedOk Try.func36 (by kernel_rfl) (by kernel_rfl) (by kernel_rfl) q_law04_Arena

def xl_law04_Arena : List (Nat × Nat) := [(8, 8), (10, 10)]
noncomputable def xc_law04_Arena : XC XN :=
(.seq none
 (.reg [⟨none, some 8, [], ⟨.la 8 [(.int .i64 0), (.int .i64 0), (.int .i64 0), (.int .i64 0), (.int .i64 0), (.int .i64 0), (.int .i64 0), (.pointer none), (.int .i64 0)], rAny xl_law04_Arena (.la 8 [(.int .i64 0), (.int .i64 0), (.int .i64 0), (.int .i64 0), (.int .i64 0), (.int .i64 0), (.int .i64 0), (.pointer none), (.int .i64 0)])⟩⟩,
  ⟨none, some 9, [(.const (.bool false))], ⟨.f fMove, rMove⟩⟩])
 (.seq none
 (.reg [⟨none, some 13, [(.tmp 0)], ⟨.f fMove, rMove⟩⟩,
  ⟨none, some 14, [(.tmp 1)], ⟨.f fMove, rMove⟩⟩,
  ⟨none, some 15, [(.tmp 2)], ⟨.f fMove, rMove⟩⟩,
  ⟨none, some 16, [(.tmp 3)], ⟨.f fMove, rMove⟩⟩,
  ⟨none, some 17, [(.tmp 13), (.tmp 14), (.tmp 15), (.tmp 16), (.const (.int .i64 100)), (.const (.int .i64 600)), (.const (.int .i64 3))], ⟨.f (fBuild [(0, 1), (1, 1), (2, 1), (3, 1), (4, 1), (5, 1), (6, 1)] [(.int .i64 0), (.int .i64 0), (.int .i64 0), (.int .i64 0), (.int .i64 0), (.int .i64 0), (.int .i64 0)] [0, 1, 2, 3, 4, 5, 6]), rAny xl_law04_Arena (.f (fBuild [(0, 1), (1, 1), (2, 1), (3, 1), (4, 1), (5, 1), (6, 1)] [(.int .i64 0), (.int .i64 0), (.int .i64 0), (.int .i64 0), (.int .i64 0), (.int .i64 0), (.int .i64 0)] [0, 1, 2, 3, 4, 5, 6]))⟩⟩,
  ⟨none, some 10, [], ⟨.la 10 [(.int .i64 0), (.int .i64 0), (.int .i64 0), (.int .i64 0), (.int .i64 0), (.int .i64 0), (.int .i64 0)], rAny xl_law04_Arena (.la 10 [(.int .i64 0), (.int .i64 0), (.int .i64 0), (.int .i64 0), (.int .i64 0), (.int .i64 0), (.int .i64 0)])⟩⟩,
  ⟨none, none, [(.tmp 10), (.tmp 17)], ⟨.ls 10 7, rAny xl_law04_Arena (.ls 10 7)⟩⟩])
 (.seq none
 (.reg [⟨none, some 19, [(.tmp 10)], ⟨.lr 10 7 true, rAny xl_law04_Arena (.lr 10 7 true)⟩⟩,
  ⟨none, some 20, [(.tmp 19)], ⟨.call .write s_layout_Fresh v_layout_Fresh, rCall v_layout_Fresh⟩⟩,
  ⟨none, some 18, [(.tmp 20)], ⟨.f fMove, rMove⟩⟩,
  ⟨none, some 21, [(.tmp 18)], ⟨.f (fExt 0), rAny xl_law04_Arena (.f (fExt 0))⟩⟩,
  ⟨none, some 22, [(.tmp 18)], ⟨.f (fExt 1), rAny xl_law04_Arena (.f (fExt 1))⟩⟩,
  ⟨none, some 11, [(.tmp 21)], ⟨.f fMove, rMove⟩⟩,
  ⟨none, some 12, [(.tmp 22)], ⟨.f fMove, rMove⟩⟩])
 (.seq none
 (.reg [⟨none, some 23, [(.tmp 10)], ⟨.lr 10 7 true, rAny xl_law04_Arena (.lr 10 7 true)⟩⟩,
  ⟨none, some 24, [(.tmp 11)], ⟨.f fMove, rMove⟩⟩,
  ⟨none, some 25, [(.tmp 23), (.tmp 24)], ⟨.f (fBuild [(0, 7), (7, 1), (8, 1)] [(.int .i64 0), (.int .i64 0), (.int .i64 0), (.int .i64 0), (.int .i64 0), (.int .i64 0), (.int .i64 0), (.pointer none), (.int .i64 0)] [0, 1]), rAny xl_law04_Arena (.f (fBuild [(0, 7), (7, 1), (8, 1)] [(.int .i64 0), (.int .i64 0), (.int .i64 0), (.int .i64 0), (.int .i64 0), (.int .i64 0), (.int .i64 0), (.pointer none), (.int .i64 0)] [0, 1]))⟩⟩,
  ⟨none, some 26, [(.tmp 12)], ⟨.f fMove, rMove⟩⟩,
  ⟨none, some 27, [(.tmp 26), (.const (.int .i64 0))], ⟨.f (fBin .eql .no), rEql⟩⟩,
  ⟨none, none, [(.tmp 8), (.tmp 25)], ⟨.ls 8 9, rAny xl_law04_Arena (.ls 8 9)⟩⟩,
  ⟨none, some 9, [(.tmp 27)], ⟨.f fMove, rMove⟩⟩])
 .ret))))
noncomputable def v_law04_Arena : EvF := evFn 4 xc_law04_Arena [.c 8 8 9 true, .t 9]
theorem xt_law04_Arena : toC cx_law04_Arena (bodyOf Try.f36) = some (xc_law04_Arena.map XN.sm) := by kernel_rfl
theorem xr_law04_Arena : toR cx_law04_Arena Try.f36.results.toList = some [.c 8 8 9 true, .t 9] := by kernel_rfl
theorem xo_law04_Arena : xc_law04_Arena.ok xl_law04_Arena := ⟨⟨rAny_ok (trivial), rMove_ok, trivial⟩, ⟨⟨rMove_ok, rMove_ok, rMove_ok, rMove_ok, rAny_ok (eqv_build _ rfl _), rAny_ok (trivial), rAny_ok (trivial), trivial⟩, ⟨⟨rAny_ok (trivial), rCall_ok ve_layout_Fresh, rMove_ok, rAny_ok (eqv_ext _), rAny_ok (eqv_ext _), rMove_ok, rMove_ok, trivial⟩, ⟨⟨rAny_ok (trivial), rMove_ok, rAny_ok (eqv_build _ rfl _), rMove_ok, rEql_ok, rAny_ok (trivial), rMove_ok, trivial⟩, trivial⟩⟩⟩⟩
theorem ve_law04_Arena : EvOk s_law04_Arena v_law04_Arena := EvOk.of (evFn_sound (C := cx_law04_Arena) xt_law04_Arena xr_law04_Arena xo_law04_Arena) q_law04_Arena

attribute [irreducible] w_law04_Arena s_law04_Arena

/-! ### /word.Top -/
def w_word_Top (a0 : Value) (K : Value → Mem → Prop) (σ : Mem) : Prop :=
xF fMove [(.int .i64 0)] fun v2 =>
xF fMove [(.int .i64 0)] fun v3 =>
xF fMove [a0] fun v4 =>
xF (fBin .and .no) [v4, (.int .u64 131071)] fun v5 =>
xF (fConv .i64) [v5] fun v6 =>
xF (fBin .sub .no) [v6, (.int .i64 1)] fun v7 =>
xF fMove [a0] fun v8 =>
xF (fBin .shr .no) [v8, (.int .u64 17)] fun v9 =>
xF (fBin .and .no) [v9, (.int .u64 68719476735)] fun v10 =>
xF (fConv .i64) [v10] fun v11 =>
xF fMove [v7] fun v2 =>
xF fMove [v11] fun v3 =>
K (.tuple #[v2, v3]) σ

def s_word_Top : Spec := fun args K σ => match args with
  | [a0] => w_word_Top a0 K σ
  | _ => False

noncomputable def cx_word_Top : Cx := { P := Try.prog, T := [], loc := [], eqt := [], n := 12, keep := [] }
theorem q_word_Top : FnS cx_word_Top Try.f57 (bodyOf Try.f57) 1 = s_word_Top := by
  funext args K σ
  rcases args with _ | ⟨a0, _ | ⟨b, r⟩⟩ <;> kernel_rfl
theorem e_word_Top : Entry Try.prog 57 .none s_word_Top :=
  entry (C := cx_word_Top) TOk.nil mixedOk Try.func57 (by kernel_rfl) (by kernel_rfl) (by kernel_rfl) q_word_Top

def xl_word_Top : List (Nat × Nat) := []
noncomputable def xc_word_Top : XC XN :=
(.seq none
 (.reg [⟨none, some 2, [(.const (.int .i64 0))], ⟨.f fMove, rMove⟩⟩,
  ⟨none, some 3, [(.const (.int .i64 0))], ⟨.f fMove, rMove⟩⟩])
 (.seq none
 (.reg [⟨none, some 4, [(.tmp 0)], ⟨.f fMove, rMove⟩⟩,
  ⟨none, some 5, [(.tmp 4), (.const (.int .u64 131071))], ⟨.band .no, rAny xl_word_Top (.band .no)⟩⟩,
  ⟨none, some 6, [(.tmp 5)], ⟨.f (fConv .i64), rConv .i64⟩⟩,
  ⟨none, some 7, [(.tmp 6), (.const (.int .i64 1))], ⟨.f (fBin .sub .no), rSub⟩⟩,
  ⟨none, some 8, [(.tmp 0)], ⟨.f fMove, rMove⟩⟩,
  ⟨none, some 9, [(.tmp 8), (.const (.int .u64 17))], ⟨.f (fBin .shr .no), rAny xl_word_Top (.f (fBin .shr .no))⟩⟩,
  ⟨none, some 10, [(.tmp 9), (.const (.int .u64 68719476735))], ⟨.band .no, rAny xl_word_Top (.band .no)⟩⟩,
  ⟨none, some 11, [(.tmp 10)], ⟨.f (fConv .i64), rConv .i64⟩⟩,
  ⟨none, some 2, [(.tmp 7)], ⟨.f fMove, rMove⟩⟩,
  ⟨none, some 3, [(.tmp 11)], ⟨.f fMove, rMove⟩⟩])
 .ret))
noncomputable def v_word_Top : EvF := evFn 1 xc_word_Top [.t 2, .t 3]
theorem xt_word_Top : toC cx_word_Top (bodyOf Try.f57) = some (xc_word_Top.map XN.sm) := by kernel_rfl
theorem xr_word_Top : toR cx_word_Top Try.f57.results.toList = some [.t 2, .t 3] := by kernel_rfl
theorem xo_word_Top : xc_word_Top.ok xl_word_Top := ⟨⟨rMove_ok, rMove_ok, trivial⟩, ⟨⟨rMove_ok, rAny_ok (trivial), rConv_ok _, rSub_ok, rMove_ok, rAny_ok (eqv_bin _ _), rAny_ok (trivial), rConv_ok _, rMove_ok, rMove_ok, trivial⟩, trivial⟩⟩
theorem ve_word_Top : EvOk s_word_Top v_word_Top := EvOk.of (evFn_sound (C := cx_word_Top) xt_word_Top xr_word_Top xo_word_Top) q_word_Top

attribute [irreducible] w_word_Top s_word_Top

/-! ### (*/slot.Take).Step -/
def w_slot_Take_Step_j1b (K : Value → Mem → Prop) (v0 : Value) (σ : Mem) : Prop :=
xF fMove [v0] fun v88 =>
xF fNil [v88] fun v89 =>
xF (fFld 4) [v89] fun v90 =>
hLoad 1 false [v90] (fun v91 σ =>
xF fMove [v91] fun v4 =>
K v4 σ) σ

def w_slot_Take_Step_j1 (K : Value → Mem → Prop) (ts : List Value) (ls : List (List Value)) (σ : Mem) : Prop := w_slot_Take_Step_j1b K (ts.getD 0 poison) σ

def w_slot_Take_Step (a0 a1 : Value) (K : Value → Mem → Prop) (σ : Mem) : Prop :=
xC (gBox 9 [a1] []) fun c3 =>
xF fMove [(.bool false)] fun v4 =>
xJoin (w_slot_Take_Step_j1 K) fun J1 =>
xF fMove [a0] fun v7 =>
xF fNil [v7] fun v8 =>
xF (fFld 0) [v8] fun v9 =>
hLoad 1 false [v9] (fun v10 σ =>
xF (fBin .eql .no) [v10, (.int .i64 0)] fun v40 =>
xF fMove [v40] fun v39 =>
xIf v39
 (xF fMove [a0] fun v41 =>
xO (gLoad 9 true [(locP 3)] c3) fun v42 =>
s_layout_Top [] (fun v43 σ =>
s_layout_Env_Load [v42, v43] (fun v44 σ =>
xF fNil [v41] fun v45 =>
xF (fFld 1) [v45] fun v46 =>
hStore 1 [v46, v44] (fun _v σ =>
xF fMove [a0] fun v48 =>
xF fMove [a0] fun v49 =>
xF fNil [v49] fun v50 =>
xF (fFld 1) [v50] fun v51 =>
hLoad 1 false [v51] (fun v52 σ =>
s_word_Top [v52] (fun v53 σ =>
xF fMove [v53] fun v47 =>
xF (fExt 0) [v47] fun v54 =>
xF (fExt 1) [v47] fun v55 =>
xF fNil [v48] fun v56 =>
xF (fFld 3) [v56] fun v57 =>
hStore 1 [v57, v54] (fun _v σ =>
xF fMove [a0] fun v58 =>
xF fNil [v58] fun v59 =>
xF (fFld 0) [v59] fun v60 =>
hStore 1 [v60, (.int .i64 1)] (fun _v σ =>
xF fMove [a0] fun v61 =>
xF fNil [v61] fun v62 =>
xF (fFld 3) [v62] fun v63 =>
hLoad 1 false [v63] (fun v64 σ =>
xF (fBin .lss .no) [v64, (.int .i64 0)] fun v65 =>
xF fMove [v65] fun v4 =>
K v4 σ) σ) σ) σ) σ) σ) σ) σ) σ)
 (xF (fBin .eql .no) [v10, (.int .i64 1)] fun v67 =>
xF fMove [v67] fun v66 =>
xIf v66
 (xF fMove [a0] fun v69 =>
xO (gLoad 9 true [(locP 3)] c3) fun v70 =>
xF (fFld 0) [(locP 3)] fun v71 =>
xO (gLoad 7 true [v71] c3) fun v72 =>
xF fMove [a0] fun v73 =>
xF fNil [v73] fun v74 =>
xF (fFld 3) [v74] fun v75 =>
hLoad 1 false [v75] (fun v76 σ =>
s_layout_Slot [v72, v76] (fun v77 σ =>
xF (fBin .add .no) [v77, (.int .i64 1)] fun v78 =>
s_layout_Env_Load [v70, v78] (fun v79 σ =>
s_word_Top [v79] (fun v80 σ =>
xF fMove [v80] fun v68 =>
xF (fExt 0) [v68] fun v81 =>
xF (fExt 1) [v68] fun v82 =>
xF fNil [v69] fun v83 =>
xF (fFld 2) [v83] fun v84 =>
hStore 1 [v84, v81] (fun _v σ =>
xF fMove [a0] fun v85 =>
xF fNil [v85] fun v86 =>
xF (fFld 0) [v86] fun v87 =>
hStore 1 [v87, (.int .i64 2)] (fun _v σ =>
J1 [a0] [] σ) σ) σ) σ) σ) σ) σ)
 (xF fMove [a0] fun v12 =>
xF fNil [v12] fun v13 =>
xF (fFld 1) [v13] fun v14 =>
hLoad 1 false [v14] (fun v15 σ =>
s_word_Top [v15] (fun v16 σ =>
xF fMove [v16] fun v11 =>
xF (fExt 0) [v11] fun v17 =>
xF (fExt 1) [v11] fun v18 =>
xF fMove [v17] fun v5 =>
xF fMove [v18] fun v6 =>
xF fMove [a0] fun v19 =>
xF fNil [v19] fun v20 =>
xF (fFld 0) [v20] fun v21 =>
hStore 1 [v21, (.int .i64 0)] (fun _v σ =>
xF fMove [a0] fun v22 =>
xO (gLoad 9 true [(locP 3)] c3) fun v23 =>
s_layout_Top [] (fun v24 σ =>
xF fMove [a0] fun v25 =>
xF fNil [v25] fun v26 =>
xF (fFld 1) [v26] fun v27 =>
hLoad 1 false [v27] (fun v28 σ =>
xF fMove [a0] fun v29 =>
xF fNil [v29] fun v30 =>
xF (fFld 2) [v30] fun v31 =>
hLoad 1 false [v31] (fun v32 σ =>
xF fMove [v6] fun v33 =>
xF (fBin .add .no) [v33, (.int .i64 1)] fun v34 =>
s_word_PutTop [v32, v34] (fun v35 σ =>
s_layout_Env_Cas [v23, v24, v28, v35] (fun v36 σ =>
xF fNil [v22] fun v37 =>
xF (fFld 4) [v37] fun v38 =>
hStore 1 [v38, v36] (fun _v σ =>
J1 [a0] [] σ) σ) σ) σ) σ) σ) σ) σ) σ) σ))) σ

def s_slot_Take_Step : Spec := fun args K σ => match args with
  | [a0, a1] => w_slot_Take_Step a0 a1 K σ
  | _ => False

noncomputable def cx_slot_Take_Step : Cx := { P := Try.prog, T := [(29, .none, s_layout_Top), (43, .write, s_layout_Env_Load), (57, .none, s_word_Top), (32, .none, s_layout_Slot), (60, .none, s_word_PutTop), (47, .write, s_layout_Env_Cas)], loc := [(3, 3), (71, 3)], eqt := [], n := 92, keep := [(1000014, [0], [])] }
theorem q_slot_Take_Step : FnS cx_slot_Take_Step Try.f39 (bodyOf Try.f39) 2 = s_slot_Take_Step := by
  funext args K σ
  rcases args with _ | ⟨a0, _ | ⟨a1, _ | ⟨b, r⟩⟩⟩ <;> kernel_rfl
theorem e_slot_Take_Step : Entry Try.prog 39 .write s_slot_Take_Step :=
  entry (C := cx_slot_Take_Step) (TOk.cons e_layout_Top (TOk.cons e_layout_Env_Load (TOk.cons e_word_Top (TOk.cons e_layout_Slot (TOk.cons e_word_PutTop (TOk.cons e_layout_Env_Cas TOk.nil)))))) mixedOk Try.func39 (by kernel_rfl) (by kernel_rfl) (by kernel_rfl) q_slot_Take_Step

def xl_slot_Take_Step : List (Nat × Nat) := [(3, 3), (71, 3)]
noncomputable def xc_slot_Take_Step : XC XN :=
(.seq none
 (.reg [⟨none, some 3, [(.tmp 1)], ⟨.lb 3 9, rAny xl_slot_Take_Step (.lb 3 9)⟩⟩,
  ⟨none, some 4, [(.const (.bool false))], ⟨.f fMove, rMove⟩⟩])
 (.seq (some ([0], []))
 (.seq none
 (.reg [⟨none, some 7, [(.tmp 0)], ⟨.f fMove, rMove⟩⟩,
  ⟨none, some 8, [(.tmp 7)], ⟨.f fNil, rNil⟩⟩,
  ⟨none, some 9, [(.tmp 8)], ⟨.f (fFld 0), rFld 0⟩⟩,
  ⟨none, some 10, [(.tmp 9)], ⟨.load 1 false, rLoad1⟩⟩])
 (.block 0
 (.seq none
 (.reg [⟨none, some 40, [(.tmp 10), (.const (.int .i64 0))], ⟨.f (fBin .eql .no), rEql⟩⟩,
  ⟨none, some 39, [(.tmp 40)], ⟨.f fMove, rMove⟩⟩])
 (.cond (.tmp 39)
 (.seq none
 (.reg [⟨none, some 41, [(.tmp 0)], ⟨.f fMove, rMove⟩⟩,
  ⟨none, some 42, [(.tmp 3)], ⟨.lr 3 9 true, rAny xl_slot_Take_Step (.lr 3 9 true)⟩⟩,
  ⟨none, some 43, [], ⟨.call .none s_layout_Top v_layout_Top, rCall v_layout_Top⟩⟩,
  ⟨none, some 44, [(.tmp 42), (.tmp 43)], ⟨.call .write s_layout_Env_Load v_layout_Env_Load, rCall v_layout_Env_Load⟩⟩,
  ⟨none, some 45, [(.tmp 41)], ⟨.f fNil, rNil⟩⟩,
  ⟨none, some 46, [(.tmp 45)], ⟨.f (fFld 1), rFld 1⟩⟩,
  ⟨none, none, [(.tmp 46), (.tmp 44)], ⟨.store 1, rStore1⟩⟩])
 (.seq none
 (.reg [⟨none, some 48, [(.tmp 0)], ⟨.f fMove, rMove⟩⟩,
  ⟨none, some 49, [(.tmp 0)], ⟨.f fMove, rMove⟩⟩,
  ⟨none, some 50, [(.tmp 49)], ⟨.f fNil, rNil⟩⟩,
  ⟨none, some 51, [(.tmp 50)], ⟨.f (fFld 1), rFld 1⟩⟩,
  ⟨none, some 52, [(.tmp 51)], ⟨.load 1 false, rLoad1⟩⟩,
  ⟨none, some 53, [(.tmp 52)], ⟨.call .none s_word_Top v_word_Top, rCall v_word_Top⟩⟩,
  ⟨none, some 47, [(.tmp 53)], ⟨.f fMove, rMove⟩⟩,
  ⟨none, some 54, [(.tmp 47)], ⟨.f (fExt 0), rAny xl_slot_Take_Step (.f (fExt 0))⟩⟩,
  ⟨none, some 55, [(.tmp 47)], ⟨.f (fExt 1), rAny xl_slot_Take_Step (.f (fExt 1))⟩⟩,
  ⟨none, some 56, [(.tmp 48)], ⟨.f fNil, rNil⟩⟩,
  ⟨none, some 57, [(.tmp 56)], ⟨.f (fFld 3), rFld 3⟩⟩,
  ⟨none, none, [(.tmp 57), (.tmp 54)], ⟨.store 1, rStore1⟩⟩])
 (.seq none
 (.reg [⟨none, some 58, [(.tmp 0)], ⟨.f fMove, rMove⟩⟩,
  ⟨none, some 59, [(.tmp 58)], ⟨.f fNil, rNil⟩⟩,
  ⟨none, some 60, [(.tmp 59)], ⟨.f (fFld 0), rFld 0⟩⟩,
  ⟨none, none, [(.tmp 60), (.const (.int .i64 1))], ⟨.store 1, rStore1⟩⟩])
 (.seq none
 (.reg [⟨none, some 61, [(.tmp 0)], ⟨.f fMove, rMove⟩⟩,
  ⟨none, some 62, [(.tmp 61)], ⟨.f fNil, rNil⟩⟩,
  ⟨none, some 63, [(.tmp 62)], ⟨.f (fFld 3), rFld 3⟩⟩,
  ⟨none, some 64, [(.tmp 63)], ⟨.load 1 false, rLoad1⟩⟩,
  ⟨none, some 65, [(.tmp 64), (.const (.int .i64 0))], ⟨.f (fBin .lss .no), rLss⟩⟩,
  ⟨none, some 4, [(.tmp 65)], ⟨.f fMove, rMove⟩⟩])
 .ret))))
 (.seq none
 (.reg [⟨none, some 67, [(.tmp 10), (.const (.int .i64 1))], ⟨.f (fBin .eql .no), rEql⟩⟩,
  ⟨none, some 66, [(.tmp 67)], ⟨.f fMove, rMove⟩⟩])
 (.cond (.tmp 66)
 (.seq none
 (.reg [⟨none, some 69, [(.tmp 0)], ⟨.f fMove, rMove⟩⟩,
  ⟨none, some 70, [(.tmp 3)], ⟨.lr 3 9 true, rAny xl_slot_Take_Step (.lr 3 9 true)⟩⟩,
  ⟨none, some 71, [(.tmp 3)], ⟨.f (fFld 0), rFld 0⟩⟩,
  ⟨none, some 72, [(.tmp 71)], ⟨.lr 3 7 true, rAny xl_slot_Take_Step (.lr 3 7 true)⟩⟩,
  ⟨none, some 73, [(.tmp 0)], ⟨.f fMove, rMove⟩⟩,
  ⟨none, some 74, [(.tmp 73)], ⟨.f fNil, rNil⟩⟩,
  ⟨none, some 75, [(.tmp 74)], ⟨.f (fFld 3), rFld 3⟩⟩,
  ⟨none, some 76, [(.tmp 75)], ⟨.load 1 false, rLoad1⟩⟩,
  ⟨none, some 77, [(.tmp 72), (.tmp 76)], ⟨.call .none s_layout_Slot v_layout_Slot, rCall v_layout_Slot⟩⟩,
  ⟨none, some 78, [(.tmp 77), (.const (.int .i64 1))], ⟨.f (fBin .add .no), rAdd⟩⟩,
  ⟨none, some 79, [(.tmp 70), (.tmp 78)], ⟨.call .write s_layout_Env_Load v_layout_Env_Load, rCall v_layout_Env_Load⟩⟩,
  ⟨none, some 80, [(.tmp 79)], ⟨.call .none s_word_Top v_word_Top, rCall v_word_Top⟩⟩,
  ⟨none, some 68, [(.tmp 80)], ⟨.f fMove, rMove⟩⟩,
  ⟨none, some 81, [(.tmp 68)], ⟨.f (fExt 0), rAny xl_slot_Take_Step (.f (fExt 0))⟩⟩,
  ⟨none, some 82, [(.tmp 68)], ⟨.f (fExt 1), rAny xl_slot_Take_Step (.f (fExt 1))⟩⟩,
  ⟨none, some 83, [(.tmp 69)], ⟨.f fNil, rNil⟩⟩,
  ⟨none, some 84, [(.tmp 83)], ⟨.f (fFld 2), rFld 2⟩⟩,
  ⟨none, none, [(.tmp 84), (.tmp 81)], ⟨.store 1, rStore1⟩⟩])
 (.reg [⟨none, some 85, [(.tmp 0)], ⟨.f fMove, rMove⟩⟩,
  ⟨none, some 86, [(.tmp 85)], ⟨.f fNil, rNil⟩⟩,
  ⟨none, some 87, [(.tmp 86)], ⟨.f (fFld 0), rFld 0⟩⟩,
  ⟨none, none, [(.tmp 87), (.const (.int .i64 2))], ⟨.store 1, rStore1⟩⟩]))
 (.seq none
 (.reg [⟨none, some 12, [(.tmp 0)], ⟨.f fMove, rMove⟩⟩,
  ⟨none, some 13, [(.tmp 12)], ⟨.f fNil, rNil⟩⟩,
  ⟨none, some 14, [(.tmp 13)], ⟨.f (fFld 1), rFld 1⟩⟩,
  ⟨none, some 15, [(.tmp 14)], ⟨.load 1 false, rLoad1⟩⟩,
  ⟨none, some 16, [(.tmp 15)], ⟨.call .none s_word_Top v_word_Top, rCall v_word_Top⟩⟩,
  ⟨none, some 11, [(.tmp 16)], ⟨.f fMove, rMove⟩⟩,
  ⟨none, some 17, [(.tmp 11)], ⟨.f (fExt 0), rAny xl_slot_Take_Step (.f (fExt 0))⟩⟩,
  ⟨none, some 18, [(.tmp 11)], ⟨.f (fExt 1), rAny xl_slot_Take_Step (.f (fExt 1))⟩⟩,
  ⟨none, some 5, [(.tmp 17)], ⟨.f fMove, rMove⟩⟩,
  ⟨none, some 6, [(.tmp 18)], ⟨.f fMove, rMove⟩⟩])
 (.seq none
 (.reg [⟨none, some 19, [(.tmp 0)], ⟨.f fMove, rMove⟩⟩,
  ⟨none, some 20, [(.tmp 19)], ⟨.f fNil, rNil⟩⟩,
  ⟨none, some 21, [(.tmp 20)], ⟨.f (fFld 0), rFld 0⟩⟩,
  ⟨none, none, [(.tmp 21), (.const (.int .i64 0))], ⟨.store 1, rStore1⟩⟩])
 (.reg [⟨none, some 22, [(.tmp 0)], ⟨.f fMove, rMove⟩⟩,
  ⟨none, some 23, [(.tmp 3)], ⟨.lr 3 9 true, rAny xl_slot_Take_Step (.lr 3 9 true)⟩⟩,
  ⟨none, some 24, [], ⟨.call .none s_layout_Top v_layout_Top, rCall v_layout_Top⟩⟩,
  ⟨none, some 25, [(.tmp 0)], ⟨.f fMove, rMove⟩⟩,
  ⟨none, some 26, [(.tmp 25)], ⟨.f fNil, rNil⟩⟩,
  ⟨none, some 27, [(.tmp 26)], ⟨.f (fFld 1), rFld 1⟩⟩,
  ⟨none, some 28, [(.tmp 27)], ⟨.load 1 false, rLoad1⟩⟩,
  ⟨none, some 29, [(.tmp 0)], ⟨.f fMove, rMove⟩⟩,
  ⟨none, some 30, [(.tmp 29)], ⟨.f fNil, rNil⟩⟩,
  ⟨none, some 31, [(.tmp 30)], ⟨.f (fFld 2), rFld 2⟩⟩,
  ⟨none, some 32, [(.tmp 31)], ⟨.load 1 false, rLoad1⟩⟩,
  ⟨none, some 33, [(.tmp 6)], ⟨.f fMove, rMove⟩⟩,
  ⟨none, some 34, [(.tmp 33), (.const (.int .i64 1))], ⟨.f (fBin .add .no), rAdd⟩⟩,
  ⟨none, some 35, [(.tmp 32), (.tmp 34)], ⟨.call .none s_word_PutTop v_word_PutTop, rCall v_word_PutTop⟩⟩,
  ⟨none, some 36, [(.tmp 23), (.tmp 24), (.tmp 28), (.tmp 35)], ⟨.call .write s_layout_Env_Cas v_layout_Env_Cas, rCall v_layout_Env_Cas⟩⟩,
  ⟨none, some 37, [(.tmp 22)], ⟨.f fNil, rNil⟩⟩,
  ⟨none, some 38, [(.tmp 37)], ⟨.f (fFld 4), rFld 4⟩⟩,
  ⟨none, none, [(.tmp 38), (.tmp 36)], ⟨.store 1, rStore1⟩⟩])))))))))
 (.seq none
 (.reg [⟨none, some 88, [(.tmp 0)], ⟨.f fMove, rMove⟩⟩,
  ⟨none, some 89, [(.tmp 88)], ⟨.f fNil, rNil⟩⟩,
  ⟨none, some 90, [(.tmp 89)], ⟨.f (fFld 4), rFld 4⟩⟩,
  ⟨none, some 91, [(.tmp 90)], ⟨.load 1 false, rLoad1⟩⟩,
  ⟨none, some 4, [(.tmp 91)], ⟨.f fMove, rMove⟩⟩])
 .ret)))
noncomputable def v_slot_Take_Step : EvF := evFn 2 xc_slot_Take_Step [.t 4]
theorem xt_slot_Take_Step : toC cx_slot_Take_Step (bodyOf Try.f39) = some (xc_slot_Take_Step.map XN.sm) := by kernel_rfl
theorem xr_slot_Take_Step : toR cx_slot_Take_Step Try.f39.results.toList = some [.t 4] := by kernel_rfl
theorem xo_slot_Take_Step : xc_slot_Take_Step.ok xl_slot_Take_Step := ⟨⟨rAny_ok (trivial), rMove_ok, trivial⟩, ⟨⟨⟨rMove_ok, rNil_ok, rFld_ok _, rLoad1_ok, trivial⟩, ⟨⟨rEql_ok, rMove_ok, trivial⟩, ⟨⟨⟨rMove_ok, rAny_ok (trivial), rCall_ok ve_layout_Top, rCall_ok ve_layout_Env_Load, rNil_ok, rFld_ok _, rStore1_ok, trivial⟩, ⟨⟨rMove_ok, rMove_ok, rNil_ok, rFld_ok _, rLoad1_ok, rCall_ok ve_word_Top, rMove_ok, rAny_ok (eqv_ext _), rAny_ok (eqv_ext _), rNil_ok, rFld_ok _, rStore1_ok, trivial⟩, ⟨⟨rMove_ok, rNil_ok, rFld_ok _, rStore1_ok, trivial⟩, ⟨⟨rMove_ok, rNil_ok, rFld_ok _, rLoad1_ok, rLss_ok, rMove_ok, trivial⟩, trivial⟩⟩⟩⟩, ⟨⟨rEql_ok, rMove_ok, trivial⟩, ⟨⟨⟨rMove_ok, rAny_ok (trivial), rFld_ok _, rAny_ok (trivial), rMove_ok, rNil_ok, rFld_ok _, rLoad1_ok, rCall_ok ve_layout_Slot, rAdd_ok, rCall_ok ve_layout_Env_Load, rCall_ok ve_word_Top, rMove_ok, rAny_ok (eqv_ext _), rAny_ok (eqv_ext _), rNil_ok, rFld_ok _, rStore1_ok, trivial⟩, ⟨rMove_ok, rNil_ok, rFld_ok _, rStore1_ok, trivial⟩⟩, ⟨⟨rMove_ok, rNil_ok, rFld_ok _, rLoad1_ok, rCall_ok ve_word_Top, rMove_ok, rAny_ok (eqv_ext _), rAny_ok (eqv_ext _), rMove_ok, rMove_ok, trivial⟩, ⟨⟨rMove_ok, rNil_ok, rFld_ok _, rStore1_ok, trivial⟩, ⟨rMove_ok, rAny_ok (trivial), rCall_ok ve_layout_Top, rMove_ok, rNil_ok, rFld_ok _, rLoad1_ok, rMove_ok, rNil_ok, rFld_ok _, rLoad1_ok, rMove_ok, rAdd_ok, rCall_ok ve_word_PutTop, rCall_ok ve_layout_Env_Cas, rNil_ok, rFld_ok _, rStore1_ok, trivial⟩⟩⟩⟩⟩⟩⟩⟩, ⟨⟨rMove_ok, rNil_ok, rFld_ok _, rLoad1_ok, rMove_ok, trivial⟩, trivial⟩⟩⟩
theorem ve_slot_Take_Step : EvOk s_slot_Take_Step v_slot_Take_Step := EvOk.of (evFn_sound (C := cx_slot_Take_Step) xt_slot_Take_Step xr_slot_Take_Step xo_slot_Take_Step) q_slot_Take_Step

attribute [irreducible] w_slot_Take_Step_j1b w_slot_Take_Step_j1 w_slot_Take_Step s_slot_Take_Step

/-! ### (*/slot.Take).Slot -/
def w_slot_Take_Slot_j1b (K : Value → Mem → Prop) (v0 v12 : Value) (σ : Mem) : Prop :=
xIf v12
 (xF fMove [(.int .i64 0)] fun v2 =>
xF fMove [(.bool false)] fun v3 =>
K (.tuple #[v2, v3]) σ)
 (xF fMove [v0] fun v13 =>
xF fNil [v13] fun v14 =>
xF (fFld 3) [v14] fun v15 =>
hLoad 1 false [v15] (fun v16 σ =>
xF fMove [v16] fun v2 =>
xF fMove [(.bool true)] fun v3 =>
K (.tuple #[v2, v3]) σ) σ)

def w_slot_Take_Slot_j1 (K : Value → Mem → Prop) (ts : List Value) (ls : List (List Value)) (σ : Mem) : Prop := w_slot_Take_Slot_j1b K (ts.getD 0 poison) (ts.getD 1 poison) σ

def w_slot_Take_Slot (a0 : Value) (K : Value → Mem → Prop) (σ : Mem) : Prop :=
xF fMove [(.int .i64 0)] fun v2 =>
xF fMove [(.bool false)] fun v3 =>
xJoin (w_slot_Take_Slot_j1 K) fun J1 =>
xF fMove [a0] fun v4 =>
xF (fBin .eql .ptr) [v4, (.pointer none)] fun v5 =>
xF fMove [v5] fun v6 =>
xIf v6
 (xF fPick [(.bool true), (.bool true), undef] fun v12 =>
J1 [a0, v12] [] σ)
 (xF fMove [a0] fun v7 =>
xF fNil [v7] fun v8 =>
xF (fFld 4) [v8] fun v9 =>
hLoad 1 false [v9] (fun v10 σ =>
xF (fUn .not) [v10] fun v11 =>
xF fPick [(.bool false), (.bool true), v11] fun v12 =>
J1 [a0, v12] [] σ) σ)

def s_slot_Take_Slot : Spec := fun args K σ => match args with
  | [a0] => w_slot_Take_Slot a0 K σ
  | _ => False

noncomputable def cx_slot_Take_Slot : Cx := { P := Try.prog, T := [], loc := [], eqt := [(52, .ptr)], n := 17, keep := [(1000003, [0, 12], [])] }
theorem q_slot_Take_Slot : FnS cx_slot_Take_Slot Try.f40 (bodyOf Try.f40) 1 = s_slot_Take_Slot := by
  funext args K σ
  rcases args with _ | ⟨a0, _ | ⟨b, r⟩⟩ <;> kernel_rfl
theorem e_slot_Take_Slot : Entry Try.prog 40 .read s_slot_Take_Slot :=
  entry (C := cx_slot_Take_Slot) TOk.nil mixedOk Try.func40 (by kernel_rfl) (by kernel_rfl) (by kernel_rfl) q_slot_Take_Slot

def xl_slot_Take_Slot : List (Nat × Nat) := []
noncomputable def xc_slot_Take_Slot : XC XN :=
(.seq none
 (.reg [⟨none, some 2, [(.const (.int .i64 0))], ⟨.f fMove, rMove⟩⟩,
  ⟨none, some 3, [(.const (.bool false))], ⟨.f fMove, rMove⟩⟩])
 (.seq none
 (.seq (some ([0, 12], []))
 (.reg [⟨none, some 4, [(.tmp 0)], ⟨.f fMove, rMove⟩⟩,
  ⟨none, some 5, [(.tmp 4), (.const (.pointer none))], ⟨.f (fBin .eql .ptr), rAny xl_slot_Take_Slot (.f (fBin .eql .ptr))⟩⟩,
  ⟨none, some 6, [(.tmp 5)], ⟨.f fMove, rMove⟩⟩,
  ⟨(some (3, 2, false, some 6)), some 7, [(.tmp 0)], ⟨.f fMove, rMove⟩⟩,
  ⟨(some (4, 2, false, some 6)), some 8, [(.tmp 7)], ⟨.f fNil, rNil⟩⟩,
  ⟨(some (5, 2, false, some 6)), some 9, [(.tmp 8)], ⟨.f (fFld 4), rFld 4⟩⟩,
  ⟨(some (6, 2, false, some 6)), some 10, [(.tmp 9)], ⟨.load 1 false, rLoad1⟩⟩,
  ⟨(some (7, 2, false, some 6)), some 11, [(.tmp 10)], ⟨.f (fUn .not), rNot⟩⟩,
  ⟨none, some 12, [(.tmp 6), (.const (.bool true)), (.tmp 11)], ⟨.f fPick, rPick⟩⟩])
 (.cond (.tmp 12)
 (.seq none
 (.reg [⟨none, some 2, [(.const (.int .i64 0))], ⟨.f fMove, rMove⟩⟩,
  ⟨none, some 3, [(.const (.bool false))], ⟨.f fMove, rMove⟩⟩])
 .ret)
 .skip))
 (.seq none
 (.reg [⟨none, some 13, [(.tmp 0)], ⟨.f fMove, rMove⟩⟩,
  ⟨none, some 14, [(.tmp 13)], ⟨.f fNil, rNil⟩⟩,
  ⟨none, some 15, [(.tmp 14)], ⟨.f (fFld 3), rFld 3⟩⟩,
  ⟨none, some 16, [(.tmp 15)], ⟨.load 1 false, rLoad1⟩⟩,
  ⟨none, some 2, [(.tmp 16)], ⟨.f fMove, rMove⟩⟩,
  ⟨none, some 3, [(.const (.bool true))], ⟨.f fMove, rMove⟩⟩])
 .ret)))
noncomputable def v_slot_Take_Slot : EvF := evFn 1 xc_slot_Take_Slot [.t 2, .t 3]
theorem xt_slot_Take_Slot : toC cx_slot_Take_Slot (bodyOf Try.f40) = some (xc_slot_Take_Slot.map XN.sm) := by kernel_rfl
theorem xr_slot_Take_Slot : toR cx_slot_Take_Slot Try.f40.results.toList = some [.t 2, .t 3] := by kernel_rfl
theorem xo_slot_Take_Slot : xc_slot_Take_Slot.ok xl_slot_Take_Slot := ⟨⟨rMove_ok, rMove_ok, trivial⟩, ⟨⟨⟨rMove_ok, rAny_ok (eqv_bin _ _), rMove_ok, rMove_ok, rNil_ok, rFld_ok _, rLoad1_ok, rNot_ok, rPick_ok, trivial⟩, ⟨⟨⟨rMove_ok, rMove_ok, trivial⟩, trivial⟩, trivial⟩⟩, ⟨⟨rMove_ok, rNil_ok, rFld_ok _, rLoad1_ok, rMove_ok, rMove_ok, trivial⟩, trivial⟩⟩⟩
theorem ve_slot_Take_Slot : EvOk s_slot_Take_Slot v_slot_Take_Slot := EvOk.of (evFn_sound (C := cx_slot_Take_Slot) xt_slot_Take_Slot xr_slot_Take_Slot xo_slot_Take_Slot) q_slot_Take_Slot

attribute [irreducible] w_slot_Take_Slot_j1b w_slot_Take_Slot_j1 w_slot_Take_Slot s_slot_Take_Slot

/-! ### /law06.take -/
def w_law06_take_j1b (K : Value → Mem → Prop) (v5 v6 : Value) (c1 : List Value) (σ : Mem) : Prop :=
xF fMove [v5] fun v22 =>
s_slot_Take_Slot [v22] (fun v23 σ =>
xF fMove [v23] fun v21 =>
xF (fExt 0) [v21] fun v24 =>
xF (fExt 1) [v21] fun v25 =>
xF fMove [v24] fun v8 =>
xF fMove [v25] fun v9 =>
xF fMove [v8] fun v26 =>
xF fMove [v9] fun v27 =>
xO (gLoad 9 true [(locP 1)] c1) fun v28 =>
s_layout_Env_Now [v28] (fun v29 σ =>
xF fMove [v6] fun v30 =>
xF (fBin .sub .no) [v29, v30] fun v31 =>
xF fMove [v26] fun v2 =>
xF fMove [v27] fun v3 =>
xF fMove [v31] fun v4 =>
K (.tuple #[v2, v3, v4]) σ) σ) σ

def w_law06_take_j1 (K : Value → Mem → Prop) (ts : List Value) (ls : List (List Value)) (σ : Mem) : Prop := w_law06_take_j1b K (ts.getD 0 poison) (ts.getD 1 poison) (ls.getD 0 []) σ

def w_law06_take_l4b (K : Value → Mem → Prop) (J1 : List Value → List (List Value) → Mem → Prop) (R1 : List Value → List (List Value) → Mem → Prop) (v5 v6 v7 : Value) (c1 : List Value) (σ : Mem) : Prop :=
xF fMove [v7] fun v14 =>
xF (fBin .lss .no) [v14, (.int .i64 10)] fun v15 =>
xIf v15
 (xF fMove [v5] fun v18 =>
xO (gLoad 9 true [(locP 1)] c1) fun v19 =>
s_slot_Take_Step [v18, v19] (fun v20 σ =>
xIf v20
 (J1 [v5, v6] [c1] σ)
 (xF fMove [v7] fun v16 =>
xF (fBin .add .no) [v16, (.int .i64 1)] fun v17 =>
xF fMove [v17] fun v7 =>
R1 [v5, v6, v7] [c1] σ)) σ)
 (J1 [v5, v6] [c1] σ)

def w_law06_take_l4 (K : Value → Mem → Prop) (J1 : List Value → List (List Value) → Mem → Prop) (R1 : List Value → List (List Value) → Mem → Prop) (ts : List Value) (ls : List (List Value)) (σ : Mem) : Prop := w_law06_take_l4b K J1 R1 (ts.getD 0 poison) (ts.getD 1 poison) (ts.getD 2 poison) (ls.getD 0 []) σ

def w_law06_take (a0 : Value) (K : Value → Mem → Prop) (σ : Mem) : Prop :=
xC (gBox 9 [a0] []) fun c1 =>
xF fMove [(.int .i64 0)] fun v2 =>
xF fMove [(.bool false)] fun v3 =>
xF fMove [(.int .i64 0)] fun v4 =>
xF (fBuild [(0, 1), (1, 1), (2, 1), (3, 1), (4, 1)] [(.int .i64 0), (.int .u64 0), (.int .i64 0), (.int .i64 0), (.bool false)] []) [] fun v10 =>
hBox 5 [v10] (fun v11 σ =>
xO (gLoad 9 true [(locP 1)] c1) fun v12 =>
s_layout_Env_Now [v12] (fun v13 σ =>
xF fMove [v11] fun v5 =>
xF fMove [v13] fun v6 =>
xJoin (w_law06_take_j1 K) fun J1 =>
xF fMove [(.int .i64 0)] fun v7 =>
xLoop (w_law06_take_l4 K J1) [v5, v6, v7] [c1] σ) σ) σ

def s_law06_take : Spec := fun args K σ => match args with
  | [a0] => w_law06_take a0 K σ
  | _ => False

noncomputable def cx_law06_take : Cx := { P := Try.prog, T := [(51, .read, s_layout_Env_Now), (39, .write, s_slot_Take_Step), (40, .read, s_slot_Take_Slot)], loc := [(1, 1)], eqt := [], n := 32, keep := [(4, [5, 6, 7], [1]), (1000007, [5, 6], [1])] }
theorem q_law06_take : FnS cx_law06_take Try.f38 (bodyOf Try.f38) 1 = s_law06_take := by
  funext args K σ
  rcases args with _ | ⟨a0, _ | ⟨b, r⟩⟩ <;> kernel_rfl
theorem e_law06_take : Entry Try.prog 38 .write s_law06_take :=
  entry (C := cx_law06_take) (TOk.cons e_layout_Env_Now (TOk.cons e_slot_Take_Step (TOk.cons e_slot_Take_Slot TOk.nil))) mixedOk Try.func38 (by kernel_rfl) (by kernel_rfl) (by kernel_rfl) q_law06_take

def xl_law06_take : List (Nat × Nat) := [(1, 1)]
noncomputable def xc_law06_take : XC XN :=
(.seq none
 (.reg [⟨none, some 1, [(.tmp 0)], ⟨.lb 1 9, rAny xl_law06_take (.lb 1 9)⟩⟩,
  ⟨none, some 2, [(.const (.int .i64 0))], ⟨.f fMove, rMove⟩⟩,
  ⟨none, some 3, [(.const (.bool false))], ⟨.f fMove, rMove⟩⟩,
  ⟨none, some 4, [(.const (.int .i64 0))], ⟨.f fMove, rMove⟩⟩])
 (.seq none
 (.reg [⟨none, some 10, [], ⟨.f (fBuild [(0, 1), (1, 1), (2, 1), (3, 1), (4, 1)] [(.int .i64 0), (.int .u64 0), (.int .i64 0), (.int .i64 0), (.bool false)] []), rAny xl_law06_take (.f (fBuild [(0, 1), (1, 1), (2, 1), (3, 1), (4, 1)] [(.int .i64 0), (.int .u64 0), (.int .i64 0), (.int .i64 0), (.bool false)] []))⟩⟩,
  ⟨none, some 11, [(.tmp 10)], ⟨.box 5, rAny xl_law06_take (.box 5)⟩⟩,
  ⟨none, some 12, [(.tmp 1)], ⟨.lr 1 9 true, rAny xl_law06_take (.lr 1 9 true)⟩⟩,
  ⟨none, some 13, [(.tmp 12)], ⟨.call .read s_layout_Env_Now v_layout_Env_Now, rCall v_layout_Env_Now⟩⟩,
  ⟨none, some 5, [(.tmp 11)], ⟨.f fMove, rMove⟩⟩,
  ⟨none, some 6, [(.tmp 13)], ⟨.f fMove, rMove⟩⟩])
 (.seq (some ([5, 6], [1]))
 (.seq none
 (.reg [⟨none, some 7, [(.const (.int .i64 0))], ⟨.f fMove, rMove⟩⟩])
 (.block 0
 (.loop ([5, 6, 7], [1])
 (.seq none
 (.seq none
 (.reg [⟨none, some 14, [(.tmp 7)], ⟨.f fMove, rMove⟩⟩,
  ⟨none, some 15, [(.tmp 14), (.const (.int .i64 10))], ⟨.f (fBin .lss .no), rLss⟩⟩])
 (.cond (.tmp 15)
 .skip
 (.exit 0)))
 (.seq none
 (.block 1
 (.seq none
 (.reg [⟨none, some 18, [(.tmp 5)], ⟨.f fMove, rMove⟩⟩,
  ⟨none, some 19, [(.tmp 1)], ⟨.lr 1 9 true, rAny xl_law06_take (.lr 1 9 true)⟩⟩,
  ⟨none, some 20, [(.tmp 18), (.tmp 19)], ⟨.call .write s_slot_Take_Step v_slot_Take_Step, rCall v_slot_Take_Step⟩⟩])
 (.cond (.tmp 20)
 (.exit 0)
 .skip)))
 (.reg [⟨none, some 16, [(.tmp 7)], ⟨.f fMove, rMove⟩⟩,
  ⟨none, some 17, [(.tmp 16), (.const (.int .i64 1))], ⟨.f (fBin .add .no), rAdd⟩⟩,
  ⟨none, some 7, [(.tmp 17)], ⟨.f fMove, rMove⟩⟩]))))))
 (.seq none
 (.reg [⟨none, some 22, [(.tmp 5)], ⟨.f fMove, rMove⟩⟩,
  ⟨none, some 23, [(.tmp 22)], ⟨.call .read s_slot_Take_Slot v_slot_Take_Slot, rCall v_slot_Take_Slot⟩⟩,
  ⟨none, some 21, [(.tmp 23)], ⟨.f fMove, rMove⟩⟩,
  ⟨none, some 24, [(.tmp 21)], ⟨.f (fExt 0), rAny xl_law06_take (.f (fExt 0))⟩⟩,
  ⟨none, some 25, [(.tmp 21)], ⟨.f (fExt 1), rAny xl_law06_take (.f (fExt 1))⟩⟩,
  ⟨none, some 8, [(.tmp 24)], ⟨.f fMove, rMove⟩⟩,
  ⟨none, some 9, [(.tmp 25)], ⟨.f fMove, rMove⟩⟩])
 (.seq none
 (.reg [⟨none, some 26, [(.tmp 8)], ⟨.f fMove, rMove⟩⟩,
  ⟨none, some 27, [(.tmp 9)], ⟨.f fMove, rMove⟩⟩,
  ⟨none, some 28, [(.tmp 1)], ⟨.lr 1 9 true, rAny xl_law06_take (.lr 1 9 true)⟩⟩,
  ⟨none, some 29, [(.tmp 28)], ⟨.call .read s_layout_Env_Now v_layout_Env_Now, rCall v_layout_Env_Now⟩⟩,
  ⟨none, some 30, [(.tmp 6)], ⟨.f fMove, rMove⟩⟩,
  ⟨none, some 31, [(.tmp 29), (.tmp 30)], ⟨.f (fBin .sub .no), rSub⟩⟩,
  ⟨none, some 2, [(.tmp 26)], ⟨.f fMove, rMove⟩⟩,
  ⟨none, some 3, [(.tmp 27)], ⟨.f fMove, rMove⟩⟩,
  ⟨none, some 4, [(.tmp 31)], ⟨.f fMove, rMove⟩⟩])
 .ret)))))
noncomputable def v_law06_take : EvF := evFn 1 xc_law06_take [.t 2, .t 3, .t 4]
theorem xt_law06_take : toC cx_law06_take (bodyOf Try.f38) = some (xc_law06_take.map XN.sm) := by kernel_rfl
theorem xr_law06_take : toR cx_law06_take Try.f38.results.toList = some [.t 2, .t 3, .t 4] := by kernel_rfl
theorem xo_law06_take : xc_law06_take.ok xl_law06_take := ⟨⟨rAny_ok (trivial), rMove_ok, rMove_ok, rMove_ok, trivial⟩, ⟨⟨rAny_ok (eqv_build _ rfl _), rAny_ok (trivial), rAny_ok (trivial), rCall_ok ve_layout_Env_Now, rMove_ok, rMove_ok, trivial⟩, ⟨⟨⟨rMove_ok, trivial⟩, ⟨⟨⟨rMove_ok, rLss_ok, trivial⟩, ⟨trivial, trivial⟩⟩, ⟨⟨⟨rMove_ok, rAny_ok (trivial), rCall_ok ve_slot_Take_Step, trivial⟩, ⟨trivial, trivial⟩⟩, ⟨rMove_ok, rAdd_ok, rMove_ok, trivial⟩⟩⟩⟩, ⟨⟨rMove_ok, rCall_ok ve_slot_Take_Slot, rMove_ok, rAny_ok (eqv_ext _), rAny_ok (eqv_ext _), rMove_ok, rMove_ok, trivial⟩, ⟨⟨rMove_ok, rMove_ok, rAny_ok (trivial), rCall_ok ve_layout_Env_Now, rMove_ok, rSub_ok, rMove_ok, rMove_ok, rMove_ok, trivial⟩, trivial⟩⟩⟩⟩⟩
theorem ve_law06_take : EvOk s_law06_take v_law06_take := EvOk.of (evFn_sound (C := cx_law06_take) xt_law06_take xr_law06_take xo_law06_take) q_law06_take

attribute [irreducible] w_law06_take_j1b w_law06_take_j1 w_law06_take_l4b w_law06_take_l4 w_law06_take s_law06_take

/-! ### /law06.awake -/
def w_law06_awake_r (K : Value → Mem → Prop) (σ : Mem) : Prop :=
xF fMove [(.bool false)] fun v0 =>
s_law04_Arena [(.int .i64 2), (.int .i64 2), (.int .i64 1), (.int .i64 20)] (fun v13 σ =>
xF fMove [v13] fun v12 =>
xF (fExt 0) [v12] fun v14 =>
xF (fExt 1) [v12] fun v15 =>
xC (gStore 9 [(locP 1), v14] [(.int .i64 0), (.int .i64 0), (.int .i64 0), (.int .i64 0), (.int .i64 0), (.int .i64 0), (.int .i64 0), (.pointer none), (.int .i64 0)]) fun c1 =>
xF fMove [v15] fun v2 =>
xF fMove [v2] fun v16 =>
xF (fUn .not) [v16] fun v17 =>
xIf v17
 (xF fMove [(.bool false)] fun v0 =>
K v0 σ)
 (xO (gLoad 9 true [(locP 1)] c1) fun v19 =>
s_law06_take [v19] (fun v20 σ =>
xF fMove [v20] fun v18 =>
xF (fExt 0) [v18] fun v21 =>
xF (fExt 1) [v18] fun v22 =>
xF (fExt 2) [v18] fun v23 =>
xF fMove [v21] fun v3 =>
xF fMove [v22] fun v4 =>
xF fMove [v23] fun v5 =>
xO (gLoad 9 true [(locP 1)] c1) fun v25 =>
s_law06_take [v25] (fun v26 σ =>
xF fMove [v26] fun v24 =>
xF (fExt 0) [v24] fun v27 =>
xF (fExt 1) [v24] fun v28 =>
xF (fExt 2) [v24] fun v29 =>
xF fMove [v27] fun v6 =>
xF fMove [v28] fun v7 =>
xF fMove [v29] fun v8 =>
xO (gLoad 9 true [(locP 1)] c1) fun v31 =>
s_law06_take [v31] (fun v32 σ =>
xF fMove [v32] fun v30 =>
xF (fExt 0) [v30] fun v33 =>
xF (fExt 1) [v30] fun v34 =>
xF (fExt 2) [v30] fun v35 =>
xF fMove [v33] fun v9 =>
xF fMove [v34] fun v10 =>
xF fMove [v35] fun v11 =>
xF fMove [v4] fun v36 =>
xF fMove [v36] fun v37 =>
xIf v37
 (xF fMove [v7] fun v38 =>
xF fPick [(.bool true), v38, (.bool false)] fun v39 =>
xF fMove [v39] fun v40 =>
xIf v40
 (xF fMove [v10] fun v41 =>
xF (fUn .not) [v41] fun v42 =>
xF fPick [(.bool true), v42, (.bool false)] fun v43 =>
xF fMove [v43] fun v44 =>
xIf v44
 (xF fMove [v3] fun v45 =>
xF (fBin .eql .no) [v45, (.int .i64 0)] fun v46 =>
xF fPick [(.bool true), v46, (.bool false)] fun v47 =>
xF fMove [v47] fun v48 =>
xIf v48
 (xF fMove [v6] fun v49 =>
xF (fBin .eql .no) [v49, (.int .i64 1)] fun v50 =>
xF fPick [(.bool true), v50, (.bool false)] fun v51 =>
xF fMove [v51] fun v52 =>
xIf v52
 (xF fMove [v5] fun v53 =>
xF (fBin .eql .no) [v53, (.int .i64 3)] fun v54 =>
xF fPick [(.bool true), v54, (.bool false)] fun v55 =>
xF fMove [v55] fun v0 =>
K v0 σ)
 (xF fPick [(.bool false), undef, (.bool false)] fun v55 =>
xF fMove [v55] fun v0 =>
K v0 σ))
 (xF fPick [(.bool false), undef, (.bool false)] fun v51 =>
xF fMove [v51] fun v52 =>
xIf v52
 (xF fMove [v5] fun v53 =>
xF (fBin .eql .no) [v53, (.int .i64 3)] fun v54 =>
xF fPick [(.bool true), v54, (.bool false)] fun v55 =>
xF fMove [v55] fun v0 =>
K v0 σ)
 (xF fPick [(.bool false), undef, (.bool false)] fun v55 =>
xF fMove [v55] fun v0 =>
K v0 σ)))
 (xF fPick [(.bool false), undef, (.bool false)] fun v47 =>
xF fMove [v47] fun v48 =>
xIf v48
 (xF fMove [v6] fun v49 =>
xF (fBin .eql .no) [v49, (.int .i64 1)] fun v50 =>
xF fPick [(.bool true), v50, (.bool false)] fun v51 =>
xF fMove [v51] fun v52 =>
xIf v52
 (xF fMove [v5] fun v53 =>
xF (fBin .eql .no) [v53, (.int .i64 3)] fun v54 =>
xF fPick [(.bool true), v54, (.bool false)] fun v55 =>
xF fMove [v55] fun v0 =>
K v0 σ)
 (xF fPick [(.bool false), undef, (.bool false)] fun v55 =>
xF fMove [v55] fun v0 =>
K v0 σ))
 (xF fPick [(.bool false), undef, (.bool false)] fun v51 =>
xF fMove [v51] fun v52 =>
xIf v52
 (xF fMove [v5] fun v53 =>
xF (fBin .eql .no) [v53, (.int .i64 3)] fun v54 =>
xF fPick [(.bool true), v54, (.bool false)] fun v55 =>
xF fMove [v55] fun v0 =>
K v0 σ)
 (xF fPick [(.bool false), undef, (.bool false)] fun v55 =>
xF fMove [v55] fun v0 =>
K v0 σ))))
 (xF fPick [(.bool false), undef, (.bool false)] fun v43 =>
xF fMove [v43] fun v44 =>
xIf v44
 (xF fMove [v3] fun v45 =>
xF (fBin .eql .no) [v45, (.int .i64 0)] fun v46 =>
xF fPick [(.bool true), v46, (.bool false)] fun v47 =>
xF fMove [v47] fun v48 =>
xIf v48
 (xF fMove [v6] fun v49 =>
xF (fBin .eql .no) [v49, (.int .i64 1)] fun v50 =>
xF fPick [(.bool true), v50, (.bool false)] fun v51 =>
xF fMove [v51] fun v52 =>
xIf v52
 (xF fMove [v5] fun v53 =>
xF (fBin .eql .no) [v53, (.int .i64 3)] fun v54 =>
xF fPick [(.bool true), v54, (.bool false)] fun v55 =>
xF fMove [v55] fun v0 =>
K v0 σ)
 (xF fPick [(.bool false), undef, (.bool false)] fun v55 =>
xF fMove [v55] fun v0 =>
K v0 σ))
 (xF fPick [(.bool false), undef, (.bool false)] fun v51 =>
xF fMove [v51] fun v52 =>
xIf v52
 (xF fMove [v5] fun v53 =>
xF (fBin .eql .no) [v53, (.int .i64 3)] fun v54 =>
xF fPick [(.bool true), v54, (.bool false)] fun v55 =>
xF fMove [v55] fun v0 =>
K v0 σ)
 (xF fPick [(.bool false), undef, (.bool false)] fun v55 =>
xF fMove [v55] fun v0 =>
K v0 σ)))
 (xF fPick [(.bool false), undef, (.bool false)] fun v47 =>
xF fMove [v47] fun v48 =>
xIf v48
 (xF fMove [v6] fun v49 =>
xF (fBin .eql .no) [v49, (.int .i64 1)] fun v50 =>
xF fPick [(.bool true), v50, (.bool false)] fun v51 =>
xF fMove [v51] fun v52 =>
xIf v52
 (xF fMove [v5] fun v53 =>
xF (fBin .eql .no) [v53, (.int .i64 3)] fun v54 =>
xF fPick [(.bool true), v54, (.bool false)] fun v55 =>
xF fMove [v55] fun v0 =>
K v0 σ)
 (xF fPick [(.bool false), undef, (.bool false)] fun v55 =>
xF fMove [v55] fun v0 =>
K v0 σ))
 (xF fPick [(.bool false), undef, (.bool false)] fun v51 =>
xF fMove [v51] fun v52 =>
xIf v52
 (xF fMove [v5] fun v53 =>
xF (fBin .eql .no) [v53, (.int .i64 3)] fun v54 =>
xF fPick [(.bool true), v54, (.bool false)] fun v55 =>
xF fMove [v55] fun v0 =>
K v0 σ)
 (xF fPick [(.bool false), undef, (.bool false)] fun v55 =>
xF fMove [v55] fun v0 =>
K v0 σ)))))
 (xF fPick [(.bool false), undef, (.bool false)] fun v39 =>
xF fMove [v39] fun v40 =>
xIf v40
 (xF fMove [v10] fun v41 =>
xF (fUn .not) [v41] fun v42 =>
xF fPick [(.bool true), v42, (.bool false)] fun v43 =>
xF fMove [v43] fun v44 =>
xIf v44
 (xF fMove [v3] fun v45 =>
xF (fBin .eql .no) [v45, (.int .i64 0)] fun v46 =>
xF fPick [(.bool true), v46, (.bool false)] fun v47 =>
xF fMove [v47] fun v48 =>
xIf v48
 (xF fMove [v6] fun v49 =>
xF (fBin .eql .no) [v49, (.int .i64 1)] fun v50 =>
xF fPick [(.bool true), v50, (.bool false)] fun v51 =>
xF fMove [v51] fun v52 =>
xIf v52
 (xF fMove [v5] fun v53 =>
xF (fBin .eql .no) [v53, (.int .i64 3)] fun v54 =>
xF fPick [(.bool true), v54, (.bool false)] fun v55 =>
xF fMove [v55] fun v0 =>
K v0 σ)
 (xF fPick [(.bool false), undef, (.bool false)] fun v55 =>
xF fMove [v55] fun v0 =>
K v0 σ))
 (xF fPick [(.bool false), undef, (.bool false)] fun v51 =>
xF fMove [v51] fun v52 =>
xIf v52
 (xF fMove [v5] fun v53 =>
xF (fBin .eql .no) [v53, (.int .i64 3)] fun v54 =>
xF fPick [(.bool true), v54, (.bool false)] fun v55 =>
xF fMove [v55] fun v0 =>
K v0 σ)
 (xF fPick [(.bool false), undef, (.bool false)] fun v55 =>
xF fMove [v55] fun v0 =>
K v0 σ)))
 (xF fPick [(.bool false), undef, (.bool false)] fun v47 =>
xF fMove [v47] fun v48 =>
xIf v48
 (xF fMove [v6] fun v49 =>
xF (fBin .eql .no) [v49, (.int .i64 1)] fun v50 =>
xF fPick [(.bool true), v50, (.bool false)] fun v51 =>
xF fMove [v51] fun v52 =>
xIf v52
 (xF fMove [v5] fun v53 =>
xF (fBin .eql .no) [v53, (.int .i64 3)] fun v54 =>
xF fPick [(.bool true), v54, (.bool false)] fun v55 =>
xF fMove [v55] fun v0 =>
K v0 σ)
 (xF fPick [(.bool false), undef, (.bool false)] fun v55 =>
xF fMove [v55] fun v0 =>
K v0 σ))
 (xF fPick [(.bool false), undef, (.bool false)] fun v51 =>
xF fMove [v51] fun v52 =>
xIf v52
 (xF fMove [v5] fun v53 =>
xF (fBin .eql .no) [v53, (.int .i64 3)] fun v54 =>
xF fPick [(.bool true), v54, (.bool false)] fun v55 =>
xF fMove [v55] fun v0 =>
K v0 σ)
 (xF fPick [(.bool false), undef, (.bool false)] fun v55 =>
xF fMove [v55] fun v0 =>
K v0 σ))))
 (xF fPick [(.bool false), undef, (.bool false)] fun v43 =>
xF fMove [v43] fun v44 =>
xIf v44
 (xF fMove [v3] fun v45 =>
xF (fBin .eql .no) [v45, (.int .i64 0)] fun v46 =>
xF fPick [(.bool true), v46, (.bool false)] fun v47 =>
xF fMove [v47] fun v48 =>
xIf v48
 (xF fMove [v6] fun v49 =>
xF (fBin .eql .no) [v49, (.int .i64 1)] fun v50 =>
xF fPick [(.bool true), v50, (.bool false)] fun v51 =>
xF fMove [v51] fun v52 =>
xIf v52
 (xF fMove [v5] fun v53 =>
xF (fBin .eql .no) [v53, (.int .i64 3)] fun v54 =>
xF fPick [(.bool true), v54, (.bool false)] fun v55 =>
xF fMove [v55] fun v0 =>
K v0 σ)
 (xF fPick [(.bool false), undef, (.bool false)] fun v55 =>
xF fMove [v55] fun v0 =>
K v0 σ))
 (xF fPick [(.bool false), undef, (.bool false)] fun v51 =>
xF fMove [v51] fun v52 =>
xIf v52
 (xF fMove [v5] fun v53 =>
xF (fBin .eql .no) [v53, (.int .i64 3)] fun v54 =>
xF fPick [(.bool true), v54, (.bool false)] fun v55 =>
xF fMove [v55] fun v0 =>
K v0 σ)
 (xF fPick [(.bool false), undef, (.bool false)] fun v55 =>
xF fMove [v55] fun v0 =>
K v0 σ)))
 (xF fPick [(.bool false), undef, (.bool false)] fun v47 =>
xF fMove [v47] fun v48 =>
xIf v48
 (xF fMove [v6] fun v49 =>
xF (fBin .eql .no) [v49, (.int .i64 1)] fun v50 =>
xF fPick [(.bool true), v50, (.bool false)] fun v51 =>
xF fMove [v51] fun v52 =>
xIf v52
 (xF fMove [v5] fun v53 =>
xF (fBin .eql .no) [v53, (.int .i64 3)] fun v54 =>
xF fPick [(.bool true), v54, (.bool false)] fun v55 =>
xF fMove [v55] fun v0 =>
K v0 σ)
 (xF fPick [(.bool false), undef, (.bool false)] fun v55 =>
xF fMove [v55] fun v0 =>
K v0 σ))
 (xF fPick [(.bool false), undef, (.bool false)] fun v51 =>
xF fMove [v51] fun v52 =>
xIf v52
 (xF fMove [v5] fun v53 =>
xF (fBin .eql .no) [v53, (.int .i64 3)] fun v54 =>
xF fPick [(.bool true), v54, (.bool false)] fun v55 =>
xF fMove [v55] fun v0 =>
K v0 σ)
 (xF fPick [(.bool false), undef, (.bool false)] fun v55 =>
xF fMove [v55] fun v0 =>
K v0 σ)))))) σ) σ) σ)) σ

def s_law06_awake_r : Spec := fun args K σ => match args with
  | [] => w_law06_awake_r  K σ
  | _ => False

noncomputable def cx_law06_awake_r : Cx := { P := Try.prog, T := [(36, .write, s_law04_Arena), (38, .write, s_law06_take)], loc := [(1, 1)], eqt := [], n := 56, keep := [] }
theorem q_law06_awake_r : FnS cx_law06_awake_r Try.f37 (bodyOf Try.f37) 0 = s_law06_awake_r := by
  funext args K σ
  rcases args with _ | ⟨b, r⟩ <;> kernel_rfl
theorem e_law06_awake_r : Entry Try.prog 37 .write s_law06_awake_r :=
  entry (C := cx_law06_awake_r) (TOk.cons e_law04_Arena (TOk.cons e_law06_take TOk.nil)) mixedOk Try.func37 (by kernel_rfl) (by kernel_rfl) (by kernel_rfl) q_law06_awake_r

def xl_law06_awake_r : List (Nat × Nat) := [(1, 1)]
noncomputable def xc_law06_awake_r : XC XN :=
(.seq none
 (.reg [⟨none, some 0, [(.const (.bool false))], ⟨.f fMove, rMove⟩⟩])
 (.seq none
 (.reg [⟨none, some 13, [(.const (.int .i64 2)), (.const (.int .i64 2)), (.const (.int .i64 1)), (.const (.int .i64 20))], ⟨.call .write s_law04_Arena v_law04_Arena, rCall v_law04_Arena⟩⟩,
  ⟨none, some 12, [(.tmp 13)], ⟨.f fMove, rMove⟩⟩,
  ⟨none, some 14, [(.tmp 12)], ⟨.f (fExt 0), rAny xl_law06_awake_r (.f (fExt 0))⟩⟩,
  ⟨none, some 15, [(.tmp 12)], ⟨.f (fExt 1), rAny xl_law06_awake_r (.f (fExt 1))⟩⟩,
  ⟨none, some 1, [], ⟨.la 1 [(.int .i64 0), (.int .i64 0), (.int .i64 0), (.int .i64 0), (.int .i64 0), (.int .i64 0), (.int .i64 0), (.pointer none), (.int .i64 0)], rAny xl_law06_awake_r (.la 1 [(.int .i64 0), (.int .i64 0), (.int .i64 0), (.int .i64 0), (.int .i64 0), (.int .i64 0), (.int .i64 0), (.pointer none), (.int .i64 0)])⟩⟩,
  ⟨none, none, [(.tmp 1), (.tmp 14)], ⟨.ls 1 9, rAny xl_law06_awake_r (.ls 1 9)⟩⟩,
  ⟨none, some 2, [(.tmp 15)], ⟨.f fMove, rMove⟩⟩])
 (.seq none
 (.seq none
 (.reg [⟨none, some 16, [(.tmp 2)], ⟨.f fMove, rMove⟩⟩,
  ⟨none, some 17, [(.tmp 16)], ⟨.f (fUn .not), rNot⟩⟩])
 (.cond (.tmp 17)
 (.seq none
 (.reg [⟨none, some 0, [(.const (.bool false))], ⟨.f fMove, rMove⟩⟩])
 .ret)
 .skip))
 (.seq none
 (.reg [⟨none, some 19, [(.tmp 1)], ⟨.lr 1 9 true, rAny xl_law06_awake_r (.lr 1 9 true)⟩⟩,
  ⟨none, some 20, [(.tmp 19)], ⟨.call .write s_law06_take v_law06_take, rCall v_law06_take⟩⟩,
  ⟨none, some 18, [(.tmp 20)], ⟨.f fMove, rMove⟩⟩,
  ⟨none, some 21, [(.tmp 18)], ⟨.f (fExt 0), rAny xl_law06_awake_r (.f (fExt 0))⟩⟩,
  ⟨none, some 22, [(.tmp 18)], ⟨.f (fExt 1), rAny xl_law06_awake_r (.f (fExt 1))⟩⟩,
  ⟨none, some 23, [(.tmp 18)], ⟨.f (fExt 2), rAny xl_law06_awake_r (.f (fExt 2))⟩⟩,
  ⟨none, some 3, [(.tmp 21)], ⟨.f fMove, rMove⟩⟩,
  ⟨none, some 4, [(.tmp 22)], ⟨.f fMove, rMove⟩⟩,
  ⟨none, some 5, [(.tmp 23)], ⟨.f fMove, rMove⟩⟩])
 (.seq none
 (.reg [⟨none, some 25, [(.tmp 1)], ⟨.lr 1 9 true, rAny xl_law06_awake_r (.lr 1 9 true)⟩⟩,
  ⟨none, some 26, [(.tmp 25)], ⟨.call .write s_law06_take v_law06_take, rCall v_law06_take⟩⟩,
  ⟨none, some 24, [(.tmp 26)], ⟨.f fMove, rMove⟩⟩,
  ⟨none, some 27, [(.tmp 24)], ⟨.f (fExt 0), rAny xl_law06_awake_r (.f (fExt 0))⟩⟩,
  ⟨none, some 28, [(.tmp 24)], ⟨.f (fExt 1), rAny xl_law06_awake_r (.f (fExt 1))⟩⟩,
  ⟨none, some 29, [(.tmp 24)], ⟨.f (fExt 2), rAny xl_law06_awake_r (.f (fExt 2))⟩⟩,
  ⟨none, some 6, [(.tmp 27)], ⟨.f fMove, rMove⟩⟩,
  ⟨none, some 7, [(.tmp 28)], ⟨.f fMove, rMove⟩⟩,
  ⟨none, some 8, [(.tmp 29)], ⟨.f fMove, rMove⟩⟩])
 (.seq none
 (.reg [⟨none, some 31, [(.tmp 1)], ⟨.lr 1 9 true, rAny xl_law06_awake_r (.lr 1 9 true)⟩⟩,
  ⟨none, some 32, [(.tmp 31)], ⟨.call .write s_law06_take v_law06_take, rCall v_law06_take⟩⟩,
  ⟨none, some 30, [(.tmp 32)], ⟨.f fMove, rMove⟩⟩,
  ⟨none, some 33, [(.tmp 30)], ⟨.f (fExt 0), rAny xl_law06_awake_r (.f (fExt 0))⟩⟩,
  ⟨none, some 34, [(.tmp 30)], ⟨.f (fExt 1), rAny xl_law06_awake_r (.f (fExt 1))⟩⟩,
  ⟨none, some 35, [(.tmp 30)], ⟨.f (fExt 2), rAny xl_law06_awake_r (.f (fExt 2))⟩⟩,
  ⟨none, some 9, [(.tmp 33)], ⟨.f fMove, rMove⟩⟩,
  ⟨none, some 10, [(.tmp 34)], ⟨.f fMove, rMove⟩⟩,
  ⟨none, some 11, [(.tmp 35)], ⟨.f fMove, rMove⟩⟩])
 (.seq none
 (.reg [⟨none, some 36, [(.tmp 4)], ⟨.f fMove, rMove⟩⟩,
  ⟨none, some 37, [(.tmp 36)], ⟨.f fMove, rMove⟩⟩,
  ⟨(some (2, 1, true, some 37)), some 38, [(.tmp 7)], ⟨.f fMove, rMove⟩⟩,
  ⟨none, some 39, [(.tmp 37), (.tmp 38), (.const (.bool false))], ⟨.f fPick, rPick⟩⟩,
  ⟨none, some 40, [(.tmp 39)], ⟨.f fMove, rMove⟩⟩,
  ⟨(some (5, 4, true, some 40)), some 41, [(.tmp 10)], ⟨.f fMove, rMove⟩⟩,
  ⟨(some (6, 4, true, some 40)), some 42, [(.tmp 41)], ⟨.f (fUn .not), rNot⟩⟩,
  ⟨none, some 43, [(.tmp 40), (.tmp 42), (.const (.bool false))], ⟨.f fPick, rPick⟩⟩,
  ⟨none, some 44, [(.tmp 43)], ⟨.f fMove, rMove⟩⟩,
  ⟨(some (9, 8, true, some 44)), some 45, [(.tmp 3)], ⟨.f fMove, rMove⟩⟩,
  ⟨(some (10, 8, true, some 44)), some 46, [(.tmp 45), (.const (.int .i64 0))], ⟨.f (fBin .eql .no), rEql⟩⟩,
  ⟨none, some 47, [(.tmp 44), (.tmp 46), (.const (.bool false))], ⟨.f fPick, rPick⟩⟩,
  ⟨none, some 48, [(.tmp 47)], ⟨.f fMove, rMove⟩⟩,
  ⟨(some (13, 12, true, some 48)), some 49, [(.tmp 6)], ⟨.f fMove, rMove⟩⟩,
  ⟨(some (14, 12, true, some 48)), some 50, [(.tmp 49), (.const (.int .i64 1))], ⟨.f (fBin .eql .no), rEql⟩⟩,
  ⟨none, some 51, [(.tmp 48), (.tmp 50), (.const (.bool false))], ⟨.f fPick, rPick⟩⟩,
  ⟨none, some 52, [(.tmp 51)], ⟨.f fMove, rMove⟩⟩,
  ⟨(some (17, 16, true, some 52)), some 53, [(.tmp 5)], ⟨.f fMove, rMove⟩⟩,
  ⟨(some (18, 16, true, some 52)), some 54, [(.tmp 53), (.const (.int .i64 3))], ⟨.f (fBin .eql .no), rEql⟩⟩,
  ⟨none, some 55, [(.tmp 52), (.tmp 54), (.const (.bool false))], ⟨.f fPick, rPick⟩⟩,
  ⟨none, some 0, [(.tmp 55)], ⟨.f fMove, rMove⟩⟩])
 .ret)))))))
noncomputable def v_law06_awake_r : EvF := evFn 0 xc_law06_awake_r [.t 0]
theorem xt_law06_awake_r : toC cx_law06_awake_r (bodyOf Try.f37) = some (xc_law06_awake_r.map XN.sm) := by kernel_rfl
theorem xr_law06_awake_r : toR cx_law06_awake_r Try.f37.results.toList = some [.t 0] := by kernel_rfl
theorem xo_law06_awake_r : xc_law06_awake_r.ok xl_law06_awake_r := ⟨⟨rMove_ok, trivial⟩, ⟨⟨rCall_ok ve_law04_Arena, rMove_ok, rAny_ok (eqv_ext _), rAny_ok (eqv_ext _), rAny_ok (trivial), rAny_ok (trivial), rMove_ok, trivial⟩, ⟨⟨⟨rMove_ok, rNot_ok, trivial⟩, ⟨⟨⟨rMove_ok, trivial⟩, trivial⟩, trivial⟩⟩, ⟨⟨rAny_ok (trivial), rCall_ok ve_law06_take, rMove_ok, rAny_ok (eqv_ext _), rAny_ok (eqv_ext _), rAny_ok (eqv_ext _), rMove_ok, rMove_ok, rMove_ok, trivial⟩, ⟨⟨rAny_ok (trivial), rCall_ok ve_law06_take, rMove_ok, rAny_ok (eqv_ext _), rAny_ok (eqv_ext _), rAny_ok (eqv_ext _), rMove_ok, rMove_ok, rMove_ok, trivial⟩, ⟨⟨rAny_ok (trivial), rCall_ok ve_law06_take, rMove_ok, rAny_ok (eqv_ext _), rAny_ok (eqv_ext _), rAny_ok (eqv_ext _), rMove_ok, rMove_ok, rMove_ok, trivial⟩, ⟨⟨rMove_ok, rMove_ok, rMove_ok, rPick_ok, rMove_ok, rMove_ok, rNot_ok, rPick_ok, rMove_ok, rMove_ok, rEql_ok, rPick_ok, rMove_ok, rMove_ok, rEql_ok, rPick_ok, rMove_ok, rMove_ok, rEql_ok, rPick_ok, rMove_ok, trivial⟩, trivial⟩⟩⟩⟩⟩⟩⟩
theorem ve_law06_awake_r : EvOk s_law06_awake_r v_law06_awake_r := EvOk.of (evFn_sound (C := cx_law06_awake_r) xt_law06_awake_r xr_law06_awake_r xo_law06_awake_r) q_law06_awake_r

theorem a_law06_awake : v_law06_awake_r [] ⟨.e, 0⟩ (fun v _ => isT v) = true := by kernel_rfl
def s_law06_awake : Spec := sTrue
theorem e_law06_awake : Entry Try.prog 37 .none s_law06_awake := e_law06_awake_r.awake ve_law06_awake_r a_law06_awake
noncomputable def v_law06_awake : EvF := vTrue
theorem ve_law06_awake : EvOk s_law06_awake v_law06_awake := vTrue_ok

attribute [irreducible] w_law06_awake_r s_law06_awake_r s_law06_awake

/-! ### /law06.SlotEmpty -/
def w_law06_SlotEmpty_j5b (K : Value → Mem → Prop) (σ : Mem) : Prop :=
xF fMove [(.bool true)] fun v4 =>
K v4 σ

def w_law06_SlotEmpty_j5 (K : Value → Mem → Prop) (ts : List Value) (ls : List (List Value)) (σ : Mem) : Prop := w_law06_SlotEmpty_j5b K σ

def w_law06_SlotEmpty_l27b (K : Value → Mem → Prop) (J5 : List Value → List (List Value) → Mem → Prop) (R1 : List Value → List (List Value) → Mem → Prop) (v12 v18 : Value) (c6 : List Value) (σ : Mem) : Prop :=
xF fMove [v18] fun v81 =>
xF fMove [v12] fun v82 =>
xF fLen [v82] fun v83 =>
xF (fBin .lss .no) [v81, v83] fun v84 =>
xIf v84
 (xF (fFld 7) [(locP 6)] fun v87 =>
xO (gLoad 1 false [v87] c6) fun v88 =>
xF fMove [v18] fun v89 =>
s_mem_Mem_Peek [v88, v89] (fun v90 σ =>
xF fMove [v12] fun v91 =>
xF fMove [v18] fun v92 =>
xF (fIxS 1) [v91, v92] fun v93 =>
hLoad 1 false [v93] (fun v94 σ =>
xF (fBin .neq .no) [v90, v94] fun v95 =>
xIf v95
 (xF fMove [(.bool false)] fun v4 =>
K v4 σ)
 (xF fMove [v18] fun v85 =>
xF (fBin .add .no) [v85, (.int .i64 1)] fun v86 =>
xF fMove [v86] fun v18 =>
R1 [v12, v18] [c6] σ)) σ) σ)
 (J5 [] [] σ)

def w_law06_SlotEmpty_l27 (K : Value → Mem → Prop) (J5 : List Value → List (List Value) → Mem → Prop) (R1 : List Value → List (List Value) → Mem → Prop) (ts : List Value) (ls : List (List Value)) (σ : Mem) : Prop := w_law06_SlotEmpty_l27b K J5 R1 (ts.getD 0 poison) (ts.getD 1 poison) (ls.getD 0 []) σ

def w_law06_SlotEmpty_j4b (K : Value → Mem → Prop) (v12 : Value) (c6 : List Value) (σ : Mem) : Prop :=
xJoin (w_law06_SlotEmpty_j5 K) fun J5 =>
xF fMove [(.int .i64 0)] fun v18 =>
xLoop (w_law06_SlotEmpty_l27 K J5) [v12, v18] [c6] σ

def w_law06_SlotEmpty_j4 (K : Value → Mem → Prop) (ts : List Value) (ls : List (List Value)) (σ : Mem) : Prop := w_law06_SlotEmpty_j4b K (ts.getD 0 poison) (ls.getD 0 []) σ

def w_law06_SlotEmpty_l18b (K : Value → Mem → Prop) (J4 : List Value → List (List Value) → Mem → Prop) (R1 : List Value → List (List Value) → Mem → Prop) (v1 v12 v14 : Value) (c6 : List Value) (σ : Mem) : Prop :=
xF fMove [v14] fun v63 =>
xF fMove [v1] fun v64 =>
xF (fBin .and .no) [v64, (.int .i64 15)] fun v65 =>
xF (fBin .lss .no) [v63, v65] fun v66 =>
xIf v66
 (xF (fBuild [(0, 1), (1, 1), (2, 1), (3, 1), (4, 1)] [(.int .i64 0), (.int .u64 0), (.int .i64 0), (.int .i64 0), (.bool false)] []) [] fun v69 =>
hBox 5 [v69] (fun v70 σ =>
xF fMove [v70] fun v15 =>
xF fMove [v15] fun v71 =>
xO (gLoad 9 true [(locP 6)] c6) fun v72 =>
s_slot_Take_Step [v71, v72] (fun v73 σ =>
xF (fUn .not) [v73] fun v74 =>
xIf v74
 (xF fMove [(.bool false)] fun v4 =>
K v4 σ)
 (xF fMove [v15] fun v76 =>
s_slot_Take_Slot [v76] (fun v77 σ =>
xF fMove [v77] fun v75 =>
xF (fExt 0) [v75] fun v78 =>
xF (fExt 1) [v75] fun v79 =>
xF fMove [v78] fun v16 =>
xF fMove [v79] fun v17 =>
xF fMove [v17] fun v80 =>
xIf v80
 (xF fMove [(.bool false)] fun v4 =>
K v4 σ)
 (xF fMove [v14] fun v67 =>
xF (fBin .add .no) [v67, (.int .i64 1)] fun v68 =>
xF fMove [v68] fun v14 =>
R1 [v1, v12, v14] [c6] σ)) σ)) σ) σ)
 (J4 [v12] [c6] σ)

def w_law06_SlotEmpty_l18 (K : Value → Mem → Prop) (J4 : List Value → List (List Value) → Mem → Prop) (R1 : List Value → List (List Value) → Mem → Prop) (ts : List Value) (ls : List (List Value)) (σ : Mem) : Prop := w_law06_SlotEmpty_l18b K J4 R1 (ts.getD 0 poison) (ts.getD 1 poison) (ts.getD 2 poison) (ls.getD 0 []) σ

def w_law06_SlotEmpty_j3b (K : Value → Mem → Prop) (v1 v12 : Value) (c6 : List Value) (σ : Mem) : Prop :=
xJoin (w_law06_SlotEmpty_j4 K) fun J4 =>
xF fMove [(.int .i64 0)] fun v14 =>
xLoop (w_law06_SlotEmpty_l18 K J4) [v1, v12, v14] [c6] σ

def w_law06_SlotEmpty_j3 (K : Value → Mem → Prop) (ts : List Value) (ls : List (List Value)) (σ : Mem) : Prop := w_law06_SlotEmpty_j3b K (ts.getD 0 poison) (ts.getD 1 poison) (ls.getD 0 []) σ

def w_law06_SlotEmpty_l14b (K : Value → Mem → Prop) (J3 : List Value → List (List Value) → Mem → Prop) (R1 : List Value → List (List Value) → Mem → Prop) (v1 v12 v13 : Value) (c6 : List Value) (σ : Mem) : Prop :=
xF fMove [v13] fun v50 =>
xF fMove [v12] fun v51 =>
xF fLen [v51] fun v52 =>
xF (fBin .lss .no) [v50, v52] fun v53 =>
xIf v53
 (xF fMove [v12] fun v56 =>
xF fMove [v13] fun v57 =>
xF (fFld 7) [(locP 6)] fun v58 =>
xO (gLoad 1 false [v58] c6) fun v59 =>
xF fMove [v13] fun v60 =>
s_mem_Mem_Peek [v59, v60] (fun v61 σ =>
xF (fIxS 1) [v56, v57] fun v62 =>
hStore 1 [v62, v61] (fun _v σ =>
xF fMove [v13] fun v54 =>
xF (fBin .add .no) [v54, (.int .i64 1)] fun v55 =>
xF fMove [v55] fun v13 =>
R1 [v1, v12, v13] [c6] σ) σ) σ)
 (J3 [v1, v12] [c6] σ)

def w_law06_SlotEmpty_l14 (K : Value → Mem → Prop) (J3 : List Value → List (List Value) → Mem → Prop) (R1 : List Value → List (List Value) → Mem → Prop) (ts : List Value) (ls : List (List Value)) (σ : Mem) : Prop := w_law06_SlotEmpty_l14b K J3 R1 (ts.getD 0 poison) (ts.getD 1 poison) (ts.getD 2 poison) (ls.getD 0 []) σ

def w_law06_SlotEmpty_j2b (K : Value → Mem → Prop) (v1 : Value) (c6 : List Value) (σ : Mem) : Prop :=
xF (fFld 7) [(locP 6)] fun v46 =>
xO (gLoad 1 false [v46] c6) fun v47 =>
s_mem_Mem_Len [v47] (fun v48 σ =>
hMakeS 1 8 [(.int .u64 0)] [v48, v48] (fun v49 σ =>
xF fMove [v49] fun v12 =>
xJoin (w_law06_SlotEmpty_j3 K) fun J3 =>
xF fMove [(.int .i64 0)] fun v13 =>
xLoop (w_law06_SlotEmpty_l14 K J3) [v1, v12, v13] [c6] σ) σ) σ

def w_law06_SlotEmpty_j2 (K : Value → Mem → Prop) (ts : List Value) (ls : List (List Value)) (σ : Mem) : Prop := w_law06_SlotEmpty_j2b K (ts.getD 0 poison) (ls.getD 0 []) σ

def w_law06_SlotEmpty_l7b (K : Value → Mem → Prop) (J2 : List Value → List (List Value) → Mem → Prop) (R1 : List Value → List (List Value) → Mem → Prop) (v1 v5 v8 : Value) (c6 : List Value) (σ : Mem) : Prop :=
xF fMove [v8] fun v33 =>
xF fMove [v5] fun v34 =>
xF (fBin .lss .no) [v33, v34] fun v35 =>
xIf v35
 (xO (gLoad 9 true [(locP 6)] c6) fun v39 =>
s_law06_take [v39] (fun v40 σ =>
xF fMove [v40] fun v38 =>
xF (fExt 0) [v38] fun v41 =>
xF (fExt 1) [v38] fun v42 =>
xF (fExt 2) [v38] fun v43 =>
xF fMove [v41] fun v9 =>
xF fMove [v42] fun v10 =>
xF fMove [v43] fun v11 =>
xF fMove [v10] fun v44 =>
xF (fUn .not) [v44] fun v45 =>
xIf v45
 (xF fMove [(.bool false)] fun v4 =>
K v4 σ)
 (xF fMove [v8] fun v36 =>
xF (fBin .add .no) [v36, (.int .i64 1)] fun v37 =>
xF fMove [v37] fun v8 =>
R1 [v1, v5, v8] [c6] σ)) σ)
 (J2 [v1] [c6] σ)

def w_law06_SlotEmpty_l7 (K : Value → Mem → Prop) (J2 : List Value → List (List Value) → Mem → Prop) (R1 : List Value → List (List Value) → Mem → Prop) (ts : List Value) (ls : List (List Value)) (σ : Mem) : Prop := w_law06_SlotEmpty_l7b K J2 R1 (ts.getD 0 poison) (ts.getD 1 poison) (ts.getD 2 poison) (ls.getD 0 []) σ

def w_law06_SlotEmpty_j1b (K : Value → Mem → Prop) (v1 v5 v32 : Value) (c6 : List Value) (σ : Mem) : Prop :=
xIf v32
 (xF fMove [(.bool false)] fun v4 =>
K v4 σ)
 (xJoin (w_law06_SlotEmpty_j2 K) fun J2 =>
xF fMove [(.int .i64 0)] fun v8 =>
xLoop (w_law06_SlotEmpty_l7 K J2) [v1, v5, v8] [c6] σ)

def w_law06_SlotEmpty_j1 (K : Value → Mem → Prop) (ts : List Value) (ls : List (List Value)) (σ : Mem) : Prop := w_law06_SlotEmpty_j1b K (ts.getD 0 poison) (ts.getD 1 poison) (ts.getD 2 poison) (ls.getD 0 []) σ

def w_law06_SlotEmpty (a0 a1 : Value) (K : Value → Mem → Prop) (σ : Mem) : Prop :=
xF fMove [(.bool false)] fun v4 =>
xF fMove [a0] fun v19 =>
xF (fBin .and .no) [v19, (.int .i64 7)] fun v20 =>
xF (fBin .add .no) [(.int .i64 1), v20] fun v21 =>
xF fMove [v21] fun v5 =>
xF fMove [v5] fun v23 =>
s_law04_Arena [(.int .i64 1), v23, (.int .i64 1), (.int .i64 20)] (fun v24 σ =>
xF fMove [v24] fun v22 =>
xF (fExt 0) [v22] fun v25 =>
xF (fExt 1) [v22] fun v26 =>
xC (gStore 9 [(locP 6), v25] [(.int .i64 0), (.int .i64 0), (.int .i64 0), (.int .i64 0), (.int .i64 0), (.int .i64 0), (.int .i64 0), (.pointer none), (.int .i64 0)]) fun c6 =>
xF fMove [v26] fun v7 =>
xJoin (w_law06_SlotEmpty_j1 K) fun J1 =>
s_law06_awake [] (fun v27 σ =>
xF (fUn .not) [v27] fun v28 =>
xF fMove [v28] fun v29 =>
xIf v29
 (xF fPick [(.bool true), (.bool true), undef] fun v32 =>
J1 [a1, v5, v32] [c6] σ)
 (xF fMove [v7] fun v30 =>
xF (fUn .not) [v30] fun v31 =>
xF fPick [(.bool false), (.bool true), v31] fun v32 =>
J1 [a1, v5, v32] [c6] σ)) σ) σ

def s_law06_SlotEmpty : Spec := fun args K σ => match args with
  | [a0, a1] => w_law06_SlotEmpty a0 a1 K σ
  | _ => False

noncomputable def cx_law06_SlotEmpty : Cx := { P := Try.prog, T := [(36, .write, s_law04_Arena), (37, .none, s_law06_awake), (38, .write, s_law06_take), (23, .read, s_mem_Mem_Len), (27, .read, s_mem_Mem_Peek), (39, .write, s_slot_Take_Step), (40, .read, s_slot_Take_Slot)], loc := [(6, 6), (46, 6), (58, 6), (87, 6)], eqt := [], n := 96, keep := [(7, [1, 5, 8], [6]), (14, [1, 12, 13], [6]), (18, [1, 12, 14], [6]), (27, [12, 18], [6]), (1000005, [1, 5, 32], [6]), (1000012, [1], [6]), (1000017, [1, 12], [6]), (1000026, [12], [6]), (1000031, [], [])] }
theorem q_law06_SlotEmpty : FnS cx_law06_SlotEmpty Try.f8 (bodyOf Try.f8) 2 = s_law06_SlotEmpty := by
  funext args K σ
  rcases args with _ | ⟨a0, _ | ⟨a1, _ | ⟨b, r⟩⟩⟩ <;> kernel_rfl
theorem e_law06_SlotEmpty : Entry Try.prog 8 .write s_law06_SlotEmpty :=
  entry (C := cx_law06_SlotEmpty) (TOk.cons e_law04_Arena (TOk.cons e_law06_awake (TOk.cons e_law06_take (TOk.cons e_mem_Mem_Len (TOk.cons e_mem_Mem_Peek (TOk.cons e_slot_Take_Step (TOk.cons e_slot_Take_Slot TOk.nil))))))) mixedOk Try.func8 (by kernel_rfl) (by kernel_rfl) (by kernel_rfl) q_law06_SlotEmpty


attribute [irreducible] w_law06_SlotEmpty_j5b w_law06_SlotEmpty_j5 w_law06_SlotEmpty_l27b w_law06_SlotEmpty_l27 w_law06_SlotEmpty_j4b w_law06_SlotEmpty_j4 w_law06_SlotEmpty_l18b w_law06_SlotEmpty_l18 w_law06_SlotEmpty_j3b w_law06_SlotEmpty_j3 w_law06_SlotEmpty_l14b w_law06_SlotEmpty_l14 w_law06_SlotEmpty_j2b w_law06_SlotEmpty_j2 w_law06_SlotEmpty_l7b w_law06_SlotEmpty_l7 w_law06_SlotEmpty_j1b w_law06_SlotEmpty_j1 w_law06_SlotEmpty s_law06_SlotEmpty

/-! ### /slot.NewGive -/
def w_slot_NewGive (a0 : Value) (K : Value → Mem → Prop) (σ : Mem) : Prop :=
xF fMove [(.pointer none)] fun v2 =>
xF fMove [a0] fun v3 =>
xF (fBuild [(0, 1), (1, 1), (2, 1)] [(.int .i64 0), (.int .i64 0), (.int .u64 0)] [1]) [v3] fun v4 =>
hBox 3 [v4] (fun v5 σ =>
xF fMove [v5] fun v2 =>
K v2 σ) σ

def s_slot_NewGive : Spec := fun args K σ => match args with
  | [a0] => w_slot_NewGive a0 K σ
  | _ => False

noncomputable def cx_slot_NewGive : Cx := { P := Try.prog, T := [], loc := [], eqt := [], n := 6, keep := [] }
theorem q_slot_NewGive : FnS cx_slot_NewGive Try.f55 (bodyOf Try.f55) 1 = s_slot_NewGive := by
  funext args K σ
  rcases args with _ | ⟨a0, _ | ⟨b, r⟩⟩ <;> kernel_rfl
theorem e_slot_NewGive : Entry Try.prog 55 .write s_slot_NewGive :=
  entry (C := cx_slot_NewGive) TOk.nil mixedOk Try.func55 (by kernel_rfl) (by kernel_rfl) (by kernel_rfl) q_slot_NewGive


attribute [irreducible] w_slot_NewGive s_slot_NewGive

/-! ### (*/slot.Give).Step -/
def w_slot_Give_Step_j1b (K : Value → Mem → Prop) (σ : Mem) : Prop :=
xF fMove [(.bool false)] fun v4 =>
K v4 σ

def w_slot_Give_Step_j1 (K : Value → Mem → Prop) (ts : List Value) (ls : List (List Value)) (σ : Mem) : Prop := w_slot_Give_Step_j1b K σ

def w_slot_Give_Step (a0 a1 : Value) (K : Value → Mem → Prop) (σ : Mem) : Prop :=
xC (gBox 9 [a1] []) fun c3 =>
xF fMove [(.bool false)] fun v4 =>
xF fMove [a0] fun v8 =>
xF fNil [v8] fun v9 =>
xF (fFld 2) [v9] fun v10 =>
hLoad 1 false [v10] (fun v11 σ =>
s_word_Top [v11] (fun v12 σ =>
xF fMove [v12] fun v7 =>
xF (fExt 0) [v7] fun v13 =>
xF (fExt 1) [v7] fun v14 =>
xF fMove [v13] fun v5 =>
xF fMove [v14] fun v6 =>
xJoin (w_slot_Give_Step_j1 K) fun J1 =>
xF fMove [a0] fun v15 =>
xF fNil [v15] fun v16 =>
xF (fFld 0) [v16] fun v17 =>
hLoad 1 false [v17] (fun v18 σ =>
xF (fBin .eql .no) [v18, (.int .i64 0)] fun v37 =>
xF fMove [v37] fun v36 =>
xIf v36
 (xF fMove [a0] fun v38 =>
xF fMove [a0] fun v39 =>
xO (gLoad 9 true [(locP 3)] c3) fun v40 =>
s_layout_Top [] (fun v41 σ =>
s_layout_Env_Load [v40, v41] (fun v42 σ =>
xF fNil [v38] fun v43 =>
xF (fFld 2) [v43] fun v44 =>
hStore 1 [v44, v42] (fun _v σ =>
xF fNil [v39] fun v45 =>
xF (fFld 0) [v45] fun v46 =>
hStore 1 [v46, (.int .i64 1)] (fun _v σ =>
J1 [] [] σ) σ) σ) σ) σ)
 (xF (fBin .eql .no) [v18, (.int .i64 1)] fun v48 =>
xF fMove [v48] fun v47 =>
xIf v47
 (xO (gLoad 9 true [(locP 3)] c3) fun v49 =>
xF (fFld 0) [(locP 3)] fun v50 =>
xO (gLoad 7 true [v50] c3) fun v51 =>
xF fMove [a0] fun v52 =>
xF fNil [v52] fun v53 =>
xF (fFld 1) [v53] fun v54 =>
hLoad 1 false [v54] (fun v55 σ =>
s_layout_Slot [v51, v55] (fun v56 σ =>
xF (fBin .add .no) [v56, (.int .i64 1)] fun v57 =>
xF fMove [v5] fun v58 =>
s_word_PutTop [v58, (.int .i64 0)] (fun v59 σ =>
s_layout_Env_Store [v49, v57, v59] (fun v60 σ =>
xF fMove [a0] fun v61 =>
xF fNil [v61] fun v62 =>
xF (fFld 0) [v62] fun v63 =>
hStore 1 [v63, (.int .i64 2)] (fun _v σ =>
J1 [] [] σ) σ) σ) σ) σ) σ)
 (xF fMove [a0] fun v19 =>
xF fNil [v19] fun v20 =>
xF (fFld 0) [v20] fun v21 =>
hStore 1 [v21, (.int .i64 0)] (fun _v σ =>
xO (gLoad 9 true [(locP 3)] c3) fun v22 =>
s_layout_Top [] (fun v23 σ =>
xF fMove [a0] fun v24 =>
xF fNil [v24] fun v25 =>
xF (fFld 2) [v25] fun v26 =>
hLoad 1 false [v26] (fun v27 σ =>
xF fMove [a0] fun v28 =>
xF fNil [v28] fun v29 =>
xF (fFld 1) [v29] fun v30 =>
hLoad 1 false [v30] (fun v31 σ =>
xF fMove [v6] fun v32 =>
xF (fBin .add .no) [v32, (.int .i64 1)] fun v33 =>
s_word_PutTop [v31, v33] (fun v34 σ =>
s_layout_Env_Cas [v22, v23, v27, v34] (fun v35 σ =>
xF fMove [v35] fun v4 =>
K v4 σ) σ) σ) σ) σ) σ) σ))) σ) σ) σ

def s_slot_Give_Step : Spec := fun args K σ => match args with
  | [a0, a1] => w_slot_Give_Step a0 a1 K σ
  | _ => False

noncomputable def cx_slot_Give_Step : Cx := { P := Try.prog, T := [(57, .none, s_word_Top), (29, .none, s_layout_Top), (43, .write, s_layout_Env_Load), (32, .none, s_layout_Slot), (60, .none, s_word_PutTop), (44, .write, s_layout_Env_Store), (47, .write, s_layout_Env_Cas)], loc := [(3, 3), (50, 3)], eqt := [], n := 64, keep := [(1000011, [], [])] }
theorem q_slot_Give_Step : FnS cx_slot_Give_Step Try.f54 (bodyOf Try.f54) 2 = s_slot_Give_Step := by
  funext args K σ
  rcases args with _ | ⟨a0, _ | ⟨a1, _ | ⟨b, r⟩⟩⟩ <;> kernel_rfl
theorem e_slot_Give_Step : Entry Try.prog 54 .write s_slot_Give_Step :=
  entry (C := cx_slot_Give_Step) (TOk.cons e_word_Top (TOk.cons e_layout_Top (TOk.cons e_layout_Env_Load (TOk.cons e_layout_Slot (TOk.cons e_word_PutTop (TOk.cons e_layout_Env_Store (TOk.cons e_layout_Env_Cas TOk.nil))))))) mixedOk Try.func54 (by kernel_rfl) (by kernel_rfl) (by kernel_rfl) q_slot_Give_Step


attribute [irreducible] w_slot_Give_Step_j1b w_slot_Give_Step_j1 w_slot_Give_Step s_slot_Give_Step

/-! ### /law06.give -/
def w_law06_give_j1b (K : Value → Mem → Prop) (v6 : Value) (c2 : List Value) (σ : Mem) : Prop :=
xO (gLoad 9 true [(locP 2)] c2) fun v19 =>
s_layout_Env_Now [v19] (fun v20 σ =>
xF fMove [v6] fun v21 =>
xF (fBin .sub .no) [v20, v21] fun v22 =>
xF fMove [v22] fun v4 =>
K v4 σ) σ

def w_law06_give_j1 (K : Value → Mem → Prop) (ts : List Value) (ls : List (List Value)) (σ : Mem) : Prop := w_law06_give_j1b K (ts.getD 0 poison) (ls.getD 0 []) σ

def w_law06_give_l4b (K : Value → Mem → Prop) (J1 : List Value → List (List Value) → Mem → Prop) (R1 : List Value → List (List Value) → Mem → Prop) (v5 v6 v7 : Value) (c2 : List Value) (σ : Mem) : Prop :=
xF fMove [v7] fun v12 =>
xF (fBin .lss .no) [v12, (.int .i64 10)] fun v13 =>
xIf v13
 (xF fMove [v5] fun v16 =>
xO (gLoad 9 true [(locP 2)] c2) fun v17 =>
s_slot_Give_Step [v16, v17] (fun v18 σ =>
xIf v18
 (J1 [v6] [c2] σ)
 (xF fMove [v7] fun v14 =>
xF (fBin .add .no) [v14, (.int .i64 1)] fun v15 =>
xF fMove [v15] fun v7 =>
R1 [v5, v6, v7] [c2] σ)) σ)
 (J1 [v6] [c2] σ)

def w_law06_give_l4 (K : Value → Mem → Prop) (J1 : List Value → List (List Value) → Mem → Prop) (R1 : List Value → List (List Value) → Mem → Prop) (ts : List Value) (ls : List (List Value)) (σ : Mem) : Prop := w_law06_give_l4b K J1 R1 (ts.getD 0 poison) (ts.getD 1 poison) (ts.getD 2 poison) (ls.getD 0 []) σ

def w_law06_give (a0 a1 : Value) (K : Value → Mem → Prop) (σ : Mem) : Prop :=
xC (gBox 9 [a0] []) fun c2 =>
xF fMove [(.int .i64 0)] fun v4 =>
xF fMove [a1] fun v8 =>
s_slot_NewGive [v8] (fun v9 σ =>
xO (gLoad 9 true [(locP 2)] c2) fun v10 =>
s_layout_Env_Now [v10] (fun v11 σ =>
xF fMove [v9] fun v5 =>
xF fMove [v11] fun v6 =>
xJoin (w_law06_give_j1 K) fun J1 =>
xF fMove [(.int .i64 0)] fun v7 =>
xLoop (w_law06_give_l4 K J1) [v5, v6, v7] [c2] σ) σ) σ

def s_law06_give : Spec := fun args K σ => match args with
  | [a0, a1] => w_law06_give a0 a1 K σ
  | _ => False

noncomputable def cx_law06_give : Cx := { P := Try.prog, T := [(55, .write, s_slot_NewGive), (51, .read, s_layout_Env_Now), (54, .write, s_slot_Give_Step)], loc := [(2, 2)], eqt := [], n := 23, keep := [(4, [5, 6, 7], [2]), (1000007, [6], [2])] }
theorem q_law06_give : FnS cx_law06_give Try.f53 (bodyOf Try.f53) 2 = s_law06_give := by
  funext args K σ
  rcases args with _ | ⟨a0, _ | ⟨a1, _ | ⟨b, r⟩⟩⟩ <;> kernel_rfl
theorem e_law06_give : Entry Try.prog 53 .write s_law06_give :=
  entry (C := cx_law06_give) (TOk.cons e_slot_NewGive (TOk.cons e_layout_Env_Now (TOk.cons e_slot_Give_Step TOk.nil))) mixedOk Try.func53 (by kernel_rfl) (by kernel_rfl) (by kernel_rfl) q_law06_give


attribute [irreducible] w_law06_give_j1b w_law06_give_j1 w_law06_give_l4b w_law06_give_l4 w_law06_give s_law06_give

/-! ### /law06.SlotAlone -/
def w_law06_SlotAlone_j3b (K : Value → Mem → Prop) (σ : Mem) : Prop :=
xF fMove [(.bool true)] fun v4 =>
K v4 σ

def w_law06_SlotAlone_j3 (K : Value → Mem → Prop) (ts : List Value) (ls : List (List Value)) (σ : Mem) : Prop := w_law06_SlotAlone_j3b K σ

def w_law06_SlotAlone_j5b (K : Value → Mem → Prop) (J3 : List Value → List (List Value) → Mem → Prop) (R1 : List Value → List (List Value) → Mem → Prop) (v1 v8 v9 v11 : Value) (c6 : List Value) (σ : Mem) : Prop :=
xF fMove [v11] fun v50 =>
xF (fBin .add .no) [v50, (.int .i64 1)] fun v51 =>
xF fMove [v51] fun v11 =>
R1 [v1, v8, v9, v11] [c6] σ

def w_law06_SlotAlone_j5 (K : Value → Mem → Prop) (J3 : List Value → List (List Value) → Mem → Prop) (R1 : List Value → List (List Value) → Mem → Prop) (ts : List Value) (ls : List (List Value)) (σ : Mem) : Prop := w_law06_SlotAlone_j5b K J3 R1 (ts.getD 0 poison) (ts.getD 1 poison) (ts.getD 2 poison) (ts.getD 3 poison) (ls.getD 0 []) σ

def w_law06_SlotAlone_j6b (K : Value → Mem → Prop) (J3 : List Value → List (List Value) → Mem → Prop) (R1 : List Value → List (List Value) → Mem → Prop) (J5 : List Value → List (List Value) → Mem → Prop) (v1 v8 v9 v11 v12 v13 v91 : Value) (c6 : List Value) (σ : Mem) : Prop :=
xIf v91
 (xF fMove [(.bool false)] fun v4 =>
K v4 σ)
 (xF fMove [v13] fun v92 =>
xIf v92
 (xF fMove [v8] fun v93 =>
xF fMove [v8] fun v94 =>
xF fLen [v94] fun v95 =>
xF (fBin .sub .no) [v95, (.int .i64 1)] fun v96 =>
xF (fSl 1 false true) [v93, v96] fun v97 =>
xF fMove [v9] fun v98 =>
xF fMove [v12] fun v99 =>
xC (gBuildS 1 1 [(.int .i64 0)] [0] [v99] []) fun c100 =>
hAppendL 1 8 c100 [v98, (locS 100 1 1)] (fun v101 σ =>
xF fMove [v97] fun v8 =>
xF fMove [v101] fun v9 =>
J5 [v1, v8, v9, v11] [c6] σ) σ)
 (J5 [v1, v8, v9, v11] [c6] σ))

def w_law06_SlotAlone_j6 (K : Value → Mem → Prop) (J3 : List Value → List (List Value) → Mem → Prop) (R1 : List Value → List (List Value) → Mem → Prop) (J5 : List Value → List (List Value) → Mem → Prop) (ts : List Value) (ls : List (List Value)) (σ : Mem) : Prop := w_law06_SlotAlone_j6b K J3 R1 J5 (ts.getD 0 poison) (ts.getD 1 poison) (ts.getD 2 poison) (ts.getD 3 poison) (ts.getD 4 poison) (ts.getD 5 poison) (ts.getD 6 poison) (ls.getD 0 []) σ

def w_law06_SlotAlone_j4b (K : Value → Mem → Prop) (J3 : List Value → List (List Value) → Mem → Prop) (R1 : List Value → List (List Value) → Mem → Prop) (v1 v8 v9 v11 : Value) (c6 : List Value) (σ : Mem) : Prop :=
xJoin (w_law06_SlotAlone_j5 K J3 R1) fun J5 =>
xF fMove [v1] fun v52 =>
xF fMove [v11] fun v53 =>
xF (fIxS 1) [v52, v53] fun v54 =>
hLoad 1 false [v54] (fun v55 σ =>
xIf v55
 (xO (gLoad 9 true [(locP 6)] c6) fun v57 =>
s_law06_take [v57] (fun v58 σ =>
xF fMove [v58] fun v56 =>
xF (fExt 0) [v56] fun v59 =>
xF (fExt 1) [v56] fun v60 =>
xF (fExt 2) [v56] fun v61 =>
xF fMove [v59] fun v12 =>
xF fMove [v60] fun v13 =>
xF fMove [v61] fun v14 =>
xJoin (w_law06_SlotAlone_j6 K J3 R1 J5) fun J6 =>
xF fMove [v13] fun v62 =>
xF fMove [v8] fun v63 =>
xF fLen [v63] fun v64 =>
xF (fBin .gtr .no) [v64, (.int .i64 0)] fun v65 =>
xF (fBin .neq .bool) [v62, v65] fun v66 =>
xF fMove [v66] fun v67 =>
xIf v67
 (xF fPick [(.bool true), (.bool true), undef] fun v83 =>
xF fMove [v83] fun v84 =>
xIf v84
 (xF fPick [(.bool true), (.bool true), undef] fun v91 =>
J6 [v1, v8, v9, v11, v12, v13, v91] [c6] σ)
 (xF fMove [v13] fun v85 =>
xF (fUn .not) [v85] fun v86 =>
xF fMove [v86] fun v87 =>
xIf v87
 (xF fMove [v14] fun v88 =>
xF (fBin .neq .no) [v88, (.int .i64 1)] fun v89 =>
xF fPick [(.bool true), v89, (.bool false)] fun v90 =>
xF fPick [(.bool false), (.bool true), v90] fun v91 =>
J6 [v1, v8, v9, v11, v12, v13, v91] [c6] σ)
 (xF fPick [(.bool false), undef, (.bool false)] fun v90 =>
xF fPick [(.bool false), (.bool true), v90] fun v91 =>
J6 [v1, v8, v9, v11, v12, v13, v91] [c6] σ)))
 (xF fMove [v13] fun v68 =>
xF fMove [v68] fun v69 =>
xIf v69
 (xF fMove [v12] fun v70 =>
xF fMove [v8] fun v71 =>
xF fMove [v8] fun v72 =>
xF fLen [v72] fun v73 =>
xF (fBin .sub .no) [v73, (.int .i64 1)] fun v74 =>
xF (fIxS 1) [v71, v74] fun v75 =>
hLoad 1 false [v75] (fun v76 σ =>
xF (fBin .neq .no) [v70, v76] fun v77 =>
xF fMove [v77] fun v78 =>
xIf v78
 (xF fPick [(.bool true), (.bool true), undef] fun v81 =>
xF fPick [(.bool true), v81, (.bool false)] fun v82 =>
xF fPick [(.bool false), (.bool true), v82] fun v83 =>
xF fMove [v83] fun v84 =>
xIf v84
 (xF fPick [(.bool true), (.bool true), undef] fun v91 =>
J6 [v1, v8, v9, v11, v12, v13, v91] [c6] σ)
 (xF fMove [v13] fun v85 =>
xF (fUn .not) [v85] fun v86 =>
xF fMove [v86] fun v87 =>
xIf v87
 (xF fMove [v14] fun v88 =>
xF (fBin .neq .no) [v88, (.int .i64 1)] fun v89 =>
xF fPick [(.bool true), v89, (.bool false)] fun v90 =>
xF fPick [(.bool false), (.bool true), v90] fun v91 =>
J6 [v1, v8, v9, v11, v12, v13, v91] [c6] σ)
 (xF fPick [(.bool false), undef, (.bool false)] fun v90 =>
xF fPick [(.bool false), (.bool true), v90] fun v91 =>
J6 [v1, v8, v9, v11, v12, v13, v91] [c6] σ)))
 (xF fMove [v14] fun v79 =>
xF (fBin .neq .no) [v79, (.int .i64 3)] fun v80 =>
xF fPick [(.bool false), (.bool true), v80] fun v81 =>
xF fPick [(.bool true), v81, (.bool false)] fun v82 =>
xF fPick [(.bool false), (.bool true), v82] fun v83 =>
xF fMove [v83] fun v84 =>
xIf v84
 (xF fPick [(.bool true), (.bool true), undef] fun v91 =>
J6 [v1, v8, v9, v11, v12, v13, v91] [c6] σ)
 (xF fMove [v13] fun v85 =>
xF (fUn .not) [v85] fun v86 =>
xF fMove [v86] fun v87 =>
xIf v87
 (xF fMove [v14] fun v88 =>
xF (fBin .neq .no) [v88, (.int .i64 1)] fun v89 =>
xF fPick [(.bool true), v89, (.bool false)] fun v90 =>
xF fPick [(.bool false), (.bool true), v90] fun v91 =>
J6 [v1, v8, v9, v11, v12, v13, v91] [c6] σ)
 (xF fPick [(.bool false), undef, (.bool false)] fun v90 =>
xF fPick [(.bool false), (.bool true), v90] fun v91 =>
J6 [v1, v8, v9, v11, v12, v13, v91] [c6] σ)))) σ)
 (xF fPick [(.bool false), undef, (.bool false)] fun v82 =>
xF fPick [(.bool false), (.bool true), v82] fun v83 =>
xF fMove [v83] fun v84 =>
xIf v84
 (xF fPick [(.bool true), (.bool true), undef] fun v91 =>
J6 [v1, v8, v9, v11, v12, v13, v91] [c6] σ)
 (xF fMove [v13] fun v85 =>
xF (fUn .not) [v85] fun v86 =>
xF fMove [v86] fun v87 =>
xIf v87
 (xF fMove [v14] fun v88 =>
xF (fBin .neq .no) [v88, (.int .i64 1)] fun v89 =>
xF fPick [(.bool true), v89, (.bool false)] fun v90 =>
xF fPick [(.bool false), (.bool true), v90] fun v91 =>
J6 [v1, v8, v9, v11, v12, v13, v91] [c6] σ)
 (xF fPick [(.bool false), undef, (.bool false)] fun v90 =>
xF fPick [(.bool false), (.bool true), v90] fun v91 =>
J6 [v1, v8, v9, v11, v12, v13, v91] [c6] σ))))) σ)
 (xF fMove [v9] fun v102 =>
xF fLen [v102] fun v103 =>
xF (fBin .gtr .no) [v103, (.int .i64 0)] fun v104 =>
xIf v104
 (xF fMove [v9] fun v105 =>
xF (fIxS 1) [v105, (.int .i64 0)] fun v106 =>
hLoad 1 false [v106] (fun v107 σ =>
xF fMove [v107] fun v15 =>
xF fMove [v9] fun v108 =>
xF (fSl 1 true false) [v108, (.int .i64 1)] fun v109 =>
xF fMove [v109] fun v9 =>
xO (gLoad 9 true [(locP 6)] c6) fun v110 =>
xF fMove [v15] fun v111 =>
s_law06_give [v110, v111] (fun v112 σ =>
xF (fBin .neq .no) [v112, (.int .i64 3)] fun v113 =>
xIf v113
 (xF fMove [(.bool false)] fun v4 =>
K v4 σ)
 (hBuildS 1 0 [(.int .i64 0)] [] [] (fun v114 σ =>
xF fMove [v8] fun v115 =>
hAppend 1 8 [v114, v115] (fun v116 σ =>
xF fMove [v15] fun v117 =>
xC (gBuildS 1 1 [(.int .i64 0)] [0] [v117] []) fun c118 =>
hAppendL 1 8 c118 [v116, (locS 118 1 1)] (fun v119 σ =>
xF fMove [v119] fun v8 =>
J5 [v1, v8, v9, v11] [c6] σ) σ) σ) σ)) σ) σ)
 (J5 [v1, v8, v9, v11] [c6] σ))) σ

def w_law06_SlotAlone_j4 (K : Value → Mem → Prop) (J3 : List Value → List (List Value) → Mem → Prop) (R1 : List Value → List (List Value) → Mem → Prop) (ts : List Value) (ls : List (List Value)) (σ : Mem) : Prop := w_law06_SlotAlone_j4b K J3 R1 (ts.getD 0 poison) (ts.getD 1 poison) (ts.getD 2 poison) (ts.getD 3 poison) (ls.getD 0 []) σ

def w_law06_SlotAlone_l12b (K : Value → Mem → Prop) (J3 : List Value → List (List Value) → Mem → Prop) (R1 : List Value → List (List Value) → Mem → Prop) (v1 v8 v9 v11 : Value) (c6 : List Value) (σ : Mem) : Prop :=
xJoin (w_law06_SlotAlone_j4 K J3 R1) fun J4 =>
xF fMove [v11] fun v42 =>
xF fMove [v1] fun v43 =>
xF fLen [v43] fun v44 =>
xF (fBin .lss .no) [v42, v44] fun v45 =>
xF fMove [v45] fun v46 =>
xIf v46
 (xF fMove [v11] fun v47 =>
xF (fBin .lss .no) [v47, (.int .i64 60)] fun v48 =>
xF fPick [(.bool true), v48, (.bool false)] fun v49 =>
xIf v49
 (J4 [v1, v8, v9, v11] [c6] σ)
 (J3 [] [] σ))
 (xF fPick [(.bool false), undef, (.bool false)] fun v49 =>
xIf v49
 (J4 [v1, v8, v9, v11] [c6] σ)
 (J3 [] [] σ))

def w_law06_SlotAlone_l12 (K : Value → Mem → Prop) (J3 : List Value → List (List Value) → Mem → Prop) (R1 : List Value → List (List Value) → Mem → Prop) (ts : List Value) (ls : List (List Value)) (σ : Mem) : Prop := w_law06_SlotAlone_l12b K J3 R1 (ts.getD 0 poison) (ts.getD 1 poison) (ts.getD 2 poison) (ts.getD 3 poison) (ls.getD 0 []) σ

def w_law06_SlotAlone_j2b (K : Value → Mem → Prop) (v1 v8 v9 : Value) (c6 : List Value) (σ : Mem) : Prop :=
xJoin (w_law06_SlotAlone_j3 K) fun J3 =>
xF fMove [(.int .i64 0)] fun v11 =>
xLoop (w_law06_SlotAlone_l12 K J3) [v1, v8, v9, v11] [c6] σ

def w_law06_SlotAlone_j2 (K : Value → Mem → Prop) (ts : List Value) (ls : List (List Value)) (σ : Mem) : Prop := w_law06_SlotAlone_j2b K (ts.getD 0 poison) (ts.getD 1 poison) (ts.getD 2 poison) (ls.getD 0 []) σ

def w_law06_SlotAlone_l8b (K : Value → Mem → Prop) (J2 : List Value → List (List Value) → Mem → Prop) (R1 : List Value → List (List Value) → Mem → Prop) (v1 v8 v9 v10 : Value) (c6 : List Value) (σ : Mem) : Prop :=
xF fMove [v10] fun v34 =>
xF (fBin .geq .no) [v34, (.int .i64 0)] fun v35 =>
xIf v35
 (xF fMove [v8] fun v38 =>
xF fMove [v10] fun v39 =>
xC (gBuildS 1 1 [(.int .i64 0)] [0] [v39] []) fun c40 =>
hAppendL 1 8 c40 [v38, (locS 40 1 1)] (fun v41 σ =>
xF fMove [v41] fun v8 =>
xF fMove [v10] fun v36 =>
xF (fBin .sub .no) [v36, (.int .i64 1)] fun v37 =>
xF fMove [v37] fun v10 =>
R1 [v1, v8, v9, v10] [c6] σ) σ)
 (J2 [v1, v8, v9] [c6] σ)

def w_law06_SlotAlone_l8 (K : Value → Mem → Prop) (J2 : List Value → List (List Value) → Mem → Prop) (R1 : List Value → List (List Value) → Mem → Prop) (ts : List Value) (ls : List (List Value)) (σ : Mem) : Prop := w_law06_SlotAlone_l8b K J2 R1 (ts.getD 0 poison) (ts.getD 1 poison) (ts.getD 2 poison) (ts.getD 3 poison) (ls.getD 0 []) σ

def w_law06_SlotAlone_j1b (K : Value → Mem → Prop) (v1 v5 v29 : Value) (c6 : List Value) (σ : Mem) : Prop :=
xIf v29
 (xF fMove [(.bool false)] fun v4 =>
K v4 σ)
 (hBuildS 1 0 [(.int .i64 0)] [] [] (fun v30 σ =>
hBuildS 1 0 [(.int .i64 0)] [] [] (fun v31 σ =>
xF fMove [v30] fun v8 =>
xF fMove [v31] fun v9 =>
xJoin (w_law06_SlotAlone_j2 K) fun J2 =>
xF fMove [v5] fun v32 =>
xF (fBin .sub .no) [v32, (.int .i64 1)] fun v33 =>
xF fMove [v33] fun v10 =>
xLoop (w_law06_SlotAlone_l8 K J2) [v1, v8, v9, v10] [c6] σ) σ) σ)

def w_law06_SlotAlone_j1 (K : Value → Mem → Prop) (ts : List Value) (ls : List (List Value)) (σ : Mem) : Prop := w_law06_SlotAlone_j1b K (ts.getD 0 poison) (ts.getD 1 poison) (ts.getD 2 poison) (ls.getD 0 []) σ

def w_law06_SlotAlone (a0 a1 : Value) (K : Value → Mem → Prop) (σ : Mem) : Prop :=
xF fMove [(.bool false)] fun v4 =>
xF fMove [a0] fun v16 =>
xF (fBin .and .no) [v16, (.int .i64 15)] fun v17 =>
xF (fBin .add .no) [(.int .i64 1), v17] fun v18 =>
xF fMove [v18] fun v5 =>
xF fMove [v5] fun v20 =>
s_law04_Arena [(.int .i64 1), v20, (.int .i64 1), (.int .i64 20)] (fun v21 σ =>
xF fMove [v21] fun v19 =>
xF (fExt 0) [v19] fun v22 =>
xF (fExt 1) [v19] fun v23 =>
xC (gStore 9 [(locP 6), v22] [(.int .i64 0), (.int .i64 0), (.int .i64 0), (.int .i64 0), (.int .i64 0), (.int .i64 0), (.int .i64 0), (.pointer none), (.int .i64 0)]) fun c6 =>
xF fMove [v23] fun v7 =>
xJoin (w_law06_SlotAlone_j1 K) fun J1 =>
s_law06_awake [] (fun v24 σ =>
xF (fUn .not) [v24] fun v25 =>
xF fMove [v25] fun v26 =>
xIf v26
 (xF fPick [(.bool true), (.bool true), undef] fun v29 =>
J1 [a1, v5, v29] [c6] σ)
 (xF fMove [v7] fun v27 =>
xF (fUn .not) [v27] fun v28 =>
xF fPick [(.bool false), (.bool true), v28] fun v29 =>
J1 [a1, v5, v29] [c6] σ)) σ) σ

def s_law06_SlotAlone : Spec := fun args K σ => match args with
  | [a0, a1] => w_law06_SlotAlone a0 a1 K σ
  | _ => False

noncomputable def cx_law06_SlotAlone : Cx := { P := Try.prog, T := [(36, .write, s_law04_Arena), (37, .none, s_law06_awake), (38, .write, s_law06_take), (53, .write, s_law06_give)], loc := [(6, 6), (40, 40), (100, 100), (118, 118)], eqt := [(4, .bool)], n := 120, keep := [(8, [1, 8, 9, 10], [6]), (12, [1, 8, 9, 11], [6]), (1000005, [1, 5, 29], [6]), (1000011, [1, 8, 9], [6]), (1000013, [1, 8, 9, 11], [6]), (1000014, [1, 8, 9, 11], [6]), (1000017, [1, 8, 9, 11, 12, 13, 91], [6]), (1000026, [], [])] }
theorem q_law06_SlotAlone : FnS cx_law06_SlotAlone Try.f10 (bodyOf Try.f10) 2 = s_law06_SlotAlone := by
  funext args K σ
  rcases args with _ | ⟨a0, _ | ⟨a1, _ | ⟨b, r⟩⟩⟩ <;> kernel_rfl
theorem e_law06_SlotAlone : Entry Try.prog 10 .write s_law06_SlotAlone :=
  entry (C := cx_law06_SlotAlone) (TOk.cons e_law04_Arena (TOk.cons e_law06_awake (TOk.cons e_law06_take (TOk.cons e_law06_give TOk.nil)))) mixedOk Try.func10 (by kernel_rfl) (by kernel_rfl) (by kernel_rfl) q_law06_SlotAlone


attribute [irreducible] w_law06_SlotAlone_j3b w_law06_SlotAlone_j3 w_law06_SlotAlone_j5b w_law06_SlotAlone_j5 w_law06_SlotAlone_j6b w_law06_SlotAlone_j6 w_law06_SlotAlone_j4b w_law06_SlotAlone_j4 w_law06_SlotAlone_l12b w_law06_SlotAlone_l12 w_law06_SlotAlone_j2b w_law06_SlotAlone_j2 w_law06_SlotAlone_l8b w_law06_SlotAlone_l8 w_law06_SlotAlone_j1b w_law06_SlotAlone_j1 w_law06_SlotAlone s_law06_SlotAlone

/-! ### /law06.free -/
def w_law06_free_j2b (K : Value → Mem → Prop) (c3 : List Value) (σ : Mem) : Prop :=
xO (gLoad 9 true [(locP 3)] c3) fun v75 =>
s_law06_take [v75] (fun v76 σ =>
xF fMove [v76] fun v74 =>
xF (fExt 0) [v74] fun v77 =>
xF (fExt 1) [v74] fun v78 =>
xF (fExt 2) [v74] fun v79 =>
xF fMove [v77] fun v14 =>
xF fMove [v78] fun v15 =>
xF fMove [v79] fun v16 =>
xF fMove [v15] fun v80 =>
xF (fUn .not) [v80] fun v81 =>
xF fMove [v81] fun v6 =>
K v6 σ) σ

def w_law06_free_j2 (K : Value → Mem → Prop) (ts : List Value) (ls : List (List Value)) (σ : Mem) : Prop := w_law06_free_j2b K (ls.getD 0 []) σ

def w_law06_free_j3b (K : Value → Mem → Prop) (J2 : List Value → List (List Value) → Mem → Prop) (R1 : List Value → List (List Value) → Mem → Prop) (v1 v9 v10 v11 v70 : Value) (c3 : List Value) (σ : Mem) : Prop :=
xIf v70
 (xF fMove [(.bool false)] fun v6 =>
K v6 σ)
 (xF fMove [v9] fun v71 =>
xF fMove [v11] fun v72 =>
xF (fIxS 1) [v71, v72] fun v73 =>
hStore 1 [v73, (.bool true)] (fun _v σ =>
xF fMove [v10] fun v46 =>
xF (fBin .add .no) [v46, (.int .i64 1)] fun v47 =>
xF fMove [v47] fun v10 =>
R1 [v1, v9, v10] [c3] σ) σ)

def w_law06_free_j3 (K : Value → Mem → Prop) (J2 : List Value → List (List Value) → Mem → Prop) (R1 : List Value → List (List Value) → Mem → Prop) (ts : List Value) (ls : List (List Value)) (σ : Mem) : Prop := w_law06_free_j3b K J2 R1 (ts.getD 0 poison) (ts.getD 1 poison) (ts.getD 2 poison) (ts.getD 3 poison) (ts.getD 4 poison) (ls.getD 0 []) σ

def w_law06_free_l12b (K : Value → Mem → Prop) (J2 : List Value → List (List Value) → Mem → Prop) (R1 : List Value → List (List Value) → Mem → Prop) (v1 v9 v10 : Value) (c3 : List Value) (σ : Mem) : Prop :=
xF fMove [v10] fun v43 =>
xF fMove [v1] fun v44 =>
xF (fBin .lss .no) [v43, v44] fun v45 =>
xIf v45
 (xO (gLoad 9 true [(locP 3)] c3) fun v49 =>
s_law06_take [v49] (fun v50 σ =>
xF fMove [v50] fun v48 =>
xF (fExt 0) [v48] fun v51 =>
xF (fExt 1) [v48] fun v52 =>
xF (fExt 2) [v48] fun v53 =>
xF fMove [v51] fun v11 =>
xF fMove [v52] fun v12 =>
xF fMove [v53] fun v13 =>
xJoin (w_law06_free_j3 K J2 R1) fun J3 =>
xF fMove [v12] fun v54 =>
xF (fUn .not) [v54] fun v55 =>
xF fMove [v55] fun v56 =>
xIf v56
 (xF fPick [(.bool true), (.bool true), undef] fun v59 =>
xF fMove [v59] fun v60 =>
xIf v60
 (xF fPick [(.bool true), (.bool true), undef] fun v64 =>
xF fMove [v64] fun v65 =>
xIf v65
 (xF fPick [(.bool true), (.bool true), undef] fun v70 =>
J3 [v1, v9, v10, v11, v70] [c3] σ)
 (xF fMove [v9] fun v66 =>
xF fMove [v11] fun v67 =>
xF (fIxS 1) [v66, v67] fun v68 =>
hLoad 1 false [v68] (fun v69 σ =>
xF fPick [(.bool false), (.bool true), v69] fun v70 =>
J3 [v1, v9, v10, v11, v70] [c3] σ) σ))
 (xF fMove [v11] fun v61 =>
xF fMove [v1] fun v62 =>
xF (fBin .geq .no) [v61, v62] fun v63 =>
xF fPick [(.bool false), (.bool true), v63] fun v64 =>
xF fMove [v64] fun v65 =>
xIf v65
 (xF fPick [(.bool true), (.bool true), undef] fun v70 =>
J3 [v1, v9, v10, v11, v70] [c3] σ)
 (xF fMove [v9] fun v66 =>
xF fMove [v11] fun v67 =>
xF (fIxS 1) [v66, v67] fun v68 =>
hLoad 1 false [v68] (fun v69 σ =>
xF fPick [(.bool false), (.bool true), v69] fun v70 =>
J3 [v1, v9, v10, v11, v70] [c3] σ) σ)))
 (xF fMove [v11] fun v57 =>
xF (fBin .lss .no) [v57, (.int .i64 0)] fun v58 =>
xF fPick [(.bool false), (.bool true), v58] fun v59 =>
xF fMove [v59] fun v60 =>
xIf v60
 (xF fPick [(.bool true), (.bool true), undef] fun v64 =>
xF fMove [v64] fun v65 =>
xIf v65
 (xF fPick [(.bool true), (.bool true), undef] fun v70 =>
J3 [v1, v9, v10, v11, v70] [c3] σ)
 (xF fMove [v9] fun v66 =>
xF fMove [v11] fun v67 =>
xF (fIxS 1) [v66, v67] fun v68 =>
hLoad 1 false [v68] (fun v69 σ =>
xF fPick [(.bool false), (.bool true), v69] fun v70 =>
J3 [v1, v9, v10, v11, v70] [c3] σ) σ))
 (xF fMove [v11] fun v61 =>
xF fMove [v1] fun v62 =>
xF (fBin .geq .no) [v61, v62] fun v63 =>
xF fPick [(.bool false), (.bool true), v63] fun v64 =>
xF fMove [v64] fun v65 =>
xIf v65
 (xF fPick [(.bool true), (.bool true), undef] fun v70 =>
J3 [v1, v9, v10, v11, v70] [c3] σ)
 (xF fMove [v9] fun v66 =>
xF fMove [v11] fun v67 =>
xF (fIxS 1) [v66, v67] fun v68 =>
hLoad 1 false [v68] (fun v69 σ =>
xF fPick [(.bool false), (.bool true), v69] fun v70 =>
J3 [v1, v9, v10, v11, v70] [c3] σ) σ)))) σ)
 (J2 [] [c3] σ)

def w_law06_free_l12 (K : Value → Mem → Prop) (J2 : List Value → List (List Value) → Mem → Prop) (R1 : List Value → List (List Value) → Mem → Prop) (ts : List Value) (ls : List (List Value)) (σ : Mem) : Prop := w_law06_free_l12b K J2 R1 (ts.getD 0 poison) (ts.getD 1 poison) (ts.getD 2 poison) (ls.getD 0 []) σ

def w_law06_free_j1b (K : Value → Mem → Prop) (v1 : Value) (c3 : List Value) (σ : Mem) : Prop :=
xF fMove [v1] fun v41 =>
hMakeS 1 1 [(.bool false)] [v41, v41] (fun v42 σ =>
xF fMove [v42] fun v9 =>
xJoin (w_law06_free_j2 K) fun J2 =>
xF fMove [(.int .i64 0)] fun v10 =>
xLoop (w_law06_free_l12 K J2) [v1, v9, v10] [c3] σ) σ

def w_law06_free_j1 (K : Value → Mem → Prop) (ts : List Value) (ls : List (List Value)) (σ : Mem) : Prop := w_law06_free_j1b K (ts.getD 0 poison) (ls.getD 0 []) σ

def w_law06_free_j4b (K : Value → Mem → Prop) (J1 : List Value → List (List Value) → Mem → Prop) (R1 : List Value → List (List Value) → Mem → Prop) (v1 v7 : Value) (c3 c5 : List Value) (σ : Mem) : Prop :=
xF fMove [v7] fun v19 =>
xF (fBin .add .no) [v19, (.int .i64 1)] fun v20 =>
xF fMove [v20] fun v7 =>
R1 [v1, v7] [c3, c5] σ

def w_law06_free_j4 (K : Value → Mem → Prop) (J1 : List Value → List (List Value) → Mem → Prop) (R1 : List Value → List (List Value) → Mem → Prop) (ts : List Value) (ls : List (List Value)) (σ : Mem) : Prop := w_law06_free_j4b K J1 R1 (ts.getD 0 poison) (ts.getD 1 poison) (ls.getD 0 []) (ls.getD 1 []) σ

def w_law06_free_j6b (K : Value → Mem → Prop) (J1 : List Value → List (List Value) → Mem → Prop) (R1 : List Value → List (List Value) → Mem → Prop) (J4 : List Value → List (List Value) → Mem → Prop) (R3 : List Value → List (List Value) → Mem → Prop) (v1 v7 v8 : Value) (c3 c5 : List Value) (σ : Mem) : Prop :=
xF fMove [v8] fun v30 =>
xF (fBin .add .no) [v30, (.int .i64 1)] fun v31 =>
xF fMove [v31] fun v8 =>
R3 [v1, v7, v8] [c3, c5] σ

def w_law06_free_j6 (K : Value → Mem → Prop) (J1 : List Value → List (List Value) → Mem → Prop) (R1 : List Value → List (List Value) → Mem → Prop) (J4 : List Value → List (List Value) → Mem → Prop) (R3 : List Value → List (List Value) → Mem → Prop) (ts : List Value) (ls : List (List Value)) (σ : Mem) : Prop := w_law06_free_j6b K J1 R1 J4 R3 (ts.getD 0 poison) (ts.getD 1 poison) (ts.getD 2 poison) (ls.getD 0 []) (ls.getD 1 []) σ

def w_law06_free_j5b (K : Value → Mem → Prop) (J1 : List Value → List (List Value) → Mem → Prop) (R1 : List Value → List (List Value) → Mem → Prop) (J4 : List Value → List (List Value) → Mem → Prop) (R3 : List Value → List (List Value) → Mem → Prop) (v1 v7 v8 : Value) (c3 c5 : List Value) (σ : Mem) : Prop :=
xJoin (w_law06_free_j6 K J1 R1 J4 R3) fun J6 =>
xF fMove [v7] fun v32 =>
xF (fIxA 3 3) [(locP 5), v32] fun v33 =>
xF (fFld 1) [v33] fun v34 =>
xO (gLoad 1 false [v34] c5) fun v35 =>
xO (gLoad 9 true [(locP 3)] c3) fun v36 =>
s_slot_Give_Step [v35, v36] (fun v37 σ =>
xIf v37
 (xF fMove [v7] fun v38 =>
xF (fIxA 3 3) [(locP 5), v38] fun v39 =>
xF (fFld 1) [v39] fun v40 =>
xC (gStore 1 [v40, (.pointer none)] c5) fun c5 =>
J6 [v1, v7, v8] [c3, c5] σ)
 (J6 [v1, v7, v8] [c3, c5] σ)) σ

def w_law06_free_j5 (K : Value → Mem → Prop) (J1 : List Value → List (List Value) → Mem → Prop) (R1 : List Value → List (List Value) → Mem → Prop) (J4 : List Value → List (List Value) → Mem → Prop) (R3 : List Value → List (List Value) → Mem → Prop) (ts : List Value) (ls : List (List Value)) (σ : Mem) : Prop := w_law06_free_j5b K J1 R1 J4 R3 (ts.getD 0 poison) (ts.getD 1 poison) (ts.getD 2 poison) (ls.getD 0 []) (ls.getD 1 []) σ

def w_law06_free_l6b (K : Value → Mem → Prop) (J1 : List Value → List (List Value) → Mem → Prop) (R1 : List Value → List (List Value) → Mem → Prop) (J4 : List Value → List (List Value) → Mem → Prop) (R3 : List Value → List (List Value) → Mem → Prop) (v1 v7 v8 : Value) (c3 c5 : List Value) (σ : Mem) : Prop :=
xJoin (w_law06_free_j5 K J1 R1 J4 R3) fun J5 =>
xF fMove [v8] fun v21 =>
xF (fBin .lss .no) [v21, (.int .i64 40)] fun v22 =>
xF fMove [v22] fun v23 =>
xIf v23
 (xF fMove [v7] fun v24 =>
xF (fIxA 3 3) [(locP 5), v24] fun v25 =>
xF (fFld 1) [v25] fun v26 =>
xO (gLoad 1 false [v26] c5) fun v27 =>
xF (fBin .neq .ptr) [v27, (.pointer none)] fun v28 =>
xF fPick [(.bool true), v28, (.bool false)] fun v29 =>
xIf v29
 (J5 [v1, v7, v8] [c3, c5] σ)
 (J4 [v1, v7] [c3, c5] σ))
 (xF fPick [(.bool false), undef, (.bool false)] fun v29 =>
xIf v29
 (J5 [v1, v7, v8] [c3, c5] σ)
 (J4 [v1, v7] [c3, c5] σ))

def w_law06_free_l6 (K : Value → Mem → Prop) (J1 : List Value → List (List Value) → Mem → Prop) (R1 : List Value → List (List Value) → Mem → Prop) (J4 : List Value → List (List Value) → Mem → Prop) (R3 : List Value → List (List Value) → Mem → Prop) (ts : List Value) (ls : List (List Value)) (σ : Mem) : Prop := w_law06_free_l6b K J1 R1 J4 R3 (ts.getD 0 poison) (ts.getD 1 poison) (ts.getD 2 poison) (ls.getD 0 []) (ls.getD 1 []) σ

def w_law06_free_l3b (K : Value → Mem → Prop) (J1 : List Value → List (List Value) → Mem → Prop) (R1 : List Value → List (List Value) → Mem → Prop) (v1 v7 : Value) (c3 c5 : List Value) (σ : Mem) : Prop :=
xF fMove [v7] fun v17 =>
xF (fBin .lss .no) [v17, (.int .i64 3)] fun v18 =>
xIf v18
 (xJoin (w_law06_free_j4 K J1 R1) fun J4 =>
xF fMove [(.int .i64 0)] fun v8 =>
xLoop (w_law06_free_l6 K J1 R1 J4) [v1, v7, v8] [c3, c5] σ)
 (J1 [v1] [c3] σ)

def w_law06_free_l3 (K : Value → Mem → Prop) (J1 : List Value → List (List Value) → Mem → Prop) (R1 : List Value → List (List Value) → Mem → Prop) (ts : List Value) (ls : List (List Value)) (σ : Mem) : Prop := w_law06_free_l3b K J1 R1 (ts.getD 0 poison) (ts.getD 1 poison) (ls.getD 0 []) (ls.getD 1 []) σ

def w_law06_free (a0 a1 a2 : Value) (K : Value → Mem → Prop) (σ : Mem) : Prop :=
xC (gBox 9 [a0] []) fun c3 =>
xC (gBox 9 [a2] []) fun c5 =>
xF fMove [(.bool false)] fun v6 =>
xJoin (w_law06_free_j1 K) fun J1 =>
xF fMove [(.int .i64 0)] fun v7 =>
xLoop (w_law06_free_l3 K J1) [a1, v7] [c3, c5] σ

def s_law06_free : Spec := fun args K σ => match args with
  | [a0, a1, a2] => w_law06_free a0 a1 a2 K σ
  | _ => False

noncomputable def cx_law06_free : Cx := { P := Try.prog, T := [(54, .write, s_slot_Give_Step), (38, .write, s_law06_take)], loc := [(3, 3), (5, 5), (25, 5), (26, 5), (33, 5), (34, 5), (39, 5), (40, 5)], eqt := [(80, .ptr)], n := 82, keep := [(3, [1, 7], [3, 5]), (6, [1, 7, 8], [3, 5]), (12, [1, 9, 10], [3]), (1000004, [1, 7], [3, 5]), (1000007, [1, 7, 8], [3, 5]), (1000008, [1, 7, 8], [3, 5]), (1000010, [1], [3]), (1000016, [1, 9, 10, 11, 70], [3]), (1000018, [], [3])] }
theorem q_law06_free : FnS cx_law06_free Try.f56 (bodyOf Try.f56) 3 = s_law06_free := by
  funext args K σ
  rcases args with _ | ⟨a0, _ | ⟨a1, _ | ⟨a2, _ | ⟨b, r⟩⟩⟩⟩ <;> kernel_rfl
theorem e_law06_free : Entry Try.prog 56 .write s_law06_free :=
  entry (C := cx_law06_free) (TOk.cons e_slot_Give_Step (TOk.cons e_law06_take TOk.nil)) mixedOk Try.func56 (by kernel_rfl) (by kernel_rfl) (by kernel_rfl) q_law06_free


attribute [irreducible] w_law06_free_j2b w_law06_free_j2 w_law06_free_j3b w_law06_free_j3 w_law06_free_l12b w_law06_free_l12 w_law06_free_j1b w_law06_free_j1 w_law06_free_j4b w_law06_free_j4 w_law06_free_j6b w_law06_free_j6 w_law06_free_j5b w_law06_free_j5 w_law06_free_l6b w_law06_free_l6 w_law06_free_l3b w_law06_free_l3 w_law06_free s_law06_free

/-! ### /law06.SlotShares -/
def w_law06_SlotShares_j3b (K : Value → Mem → Prop) (v5 : Value) (c6 c8 : List Value) (σ : Mem) : Prop :=
xO (gLoad 9 true [(locP 6)] c6) fun v120 =>
xF fMove [v5] fun v121 =>
xO (gLoad 9 true [(locP 8)] c8) fun v122 =>
s_law06_free [v120, v121, v122] (fun v123 σ =>
xF fMove [v123] fun v4 =>
K v4 σ) σ

def w_law06_SlotShares_j3 (K : Value → Mem → Prop) (ts : List Value) (ls : List (List Value)) (σ : Mem) : Prop := w_law06_SlotShares_j3b K (ts.getD 0 poison) (ls.getD 0 []) (ls.getD 1 []) σ

def w_law06_SlotShares_j4b (K : Value → Mem → Prop) (J3 : List Value → List (List Value) → Mem → Prop) (R1 : List Value → List (List Value) → Mem → Prop) (v1 v5 v10 : Value) (c6 c8 : List Value) (σ : Mem) : Prop :=
xF fMove [v10] fun v45 =>
xF (fBin .add .no) [v45, (.int .i64 1)] fun v46 =>
xF fMove [v46] fun v10 =>
R1 [v1, v5, v10] [c6, c8] σ

def w_law06_SlotShares_j4 (K : Value → Mem → Prop) (J3 : List Value → List (List Value) → Mem → Prop) (R1 : List Value → List (List Value) → Mem → Prop) (ts : List Value) (ls : List (List Value)) (σ : Mem) : Prop := w_law06_SlotShares_j4b K J3 R1 (ts.getD 0 poison) (ts.getD 1 poison) (ts.getD 2 poison) (ls.getD 0 []) (ls.getD 1 []) σ

def w_law06_SlotShares_j6b (K : Value → Mem → Prop) (J3 : List Value → List (List Value) → Mem → Prop) (R1 : List Value → List (List Value) → Mem → Prop) (J4 : List Value → List (List Value) → Mem → Prop) (v1 v5 v10 v11 : Value) (c6 c8 c12 : List Value) (σ : Mem) : Prop :=
xF fMove [v11] fun v117 =>
xO (gLoad 3 true [(locP 12)] c12) fun v118 =>
xF (fIxA 3 3) [(locP 8), v117] fun v119 =>
xC (gStore 3 [v119, v118] c8) fun c8 =>
J4 [v1, v5, v10] [c6, c8] σ

def w_law06_SlotShares_j6 (K : Value → Mem → Prop) (J3 : List Value → List (List Value) → Mem → Prop) (R1 : List Value → List (List Value) → Mem → Prop) (J4 : List Value → List (List Value) → Mem → Prop) (ts : List Value) (ls : List (List Value)) (σ : Mem) : Prop := w_law06_SlotShares_j6b K J3 R1 J4 (ts.getD 0 poison) (ts.getD 1 poison) (ts.getD 2 poison) (ts.getD 3 poison) (ls.getD 0 []) (ls.getD 1 []) (ls.getD 2 []) σ

def w_law06_SlotShares_j7b (K : Value → Mem → Prop) (J3 : List Value → List (List Value) → Mem → Prop) (R1 : List Value → List (List Value) → Mem → Prop) (J4 : List Value → List (List Value) → Mem → Prop) (J6 : List Value → List (List Value) → Mem → Prop) (v1 v5 v10 v11 v13 : Value) (c6 c8 c12 : List Value) (σ : Mem) : Prop :=
xF fMove [v13] fun v113 =>
s_slot_NewGive [v113] (fun v114 σ =>
xF fMove [v13] fun v115 =>
xF (fBuild [(0, 1), (1, 1), (2, 1)] [(.pointer none), (.pointer none), (.int .i64 0)] [1, 2]) [v114, v115] fun v116 =>
xC (gStore 3 [(locP 12), v116] c12) fun c12 =>
J6 [v1, v5, v10, v11] [c6, c8, c12] σ) σ

def w_law06_SlotShares_j7 (K : Value → Mem → Prop) (J3 : List Value → List (List Value) → Mem → Prop) (R1 : List Value → List (List Value) → Mem → Prop) (J4 : List Value → List (List Value) → Mem → Prop) (J6 : List Value → List (List Value) → Mem → Prop) (ts : List Value) (ls : List (List Value)) (σ : Mem) : Prop := w_law06_SlotShares_j7b K J3 R1 J4 J6 (ts.getD 0 poison) (ts.getD 1 poison) (ts.getD 2 poison) (ts.getD 3 poison) (ts.getD 4 poison) (ls.getD 0 []) (ls.getD 1 []) (ls.getD 2 []) σ

def w_law06_SlotShares_j8b (K : Value → Mem → Prop) (J3 : List Value → List (List Value) → Mem → Prop) (R1 : List Value → List (List Value) → Mem → Prop) (J4 : List Value → List (List Value) → Mem → Prop) (J6 : List Value → List (List Value) → Mem → Prop) (J7 : List Value → List (List Value) → Mem → Prop) (R5 : List Value → List (List Value) → Mem → Prop) (v1 v5 v10 v11 v13 v15 v112 : Value) (c6 c8 c12 : List Value) (σ : Mem) : Prop :=
xIf v112
 (xF fMove [(.bool false)] fun v4 =>
K v4 σ)
 (xF fMove [v15] fun v98 =>
xF (fBin .add .no) [v98, (.int .i64 1)] fun v99 =>
xF fMove [v99] fun v15 =>
R5 [v1, v5, v10, v11, v13, v15] [c6, c8, c12] σ)

def w_law06_SlotShares_j8 (K : Value → Mem → Prop) (J3 : List Value → List (List Value) → Mem → Prop) (R1 : List Value → List (List Value) → Mem → Prop) (J4 : List Value → List (List Value) → Mem → Prop) (J6 : List Value → List (List Value) → Mem → Prop) (J7 : List Value → List (List Value) → Mem → Prop) (R5 : List Value → List (List Value) → Mem → Prop) (ts : List Value) (ls : List (List Value)) (σ : Mem) : Prop := w_law06_SlotShares_j8b K J3 R1 J4 J6 J7 R5 (ts.getD 0 poison) (ts.getD 1 poison) (ts.getD 2 poison) (ts.getD 3 poison) (ts.getD 4 poison) (ts.getD 5 poison) (ts.getD 6 poison) (ls.getD 0 []) (ls.getD 1 []) (ls.getD 2 []) σ

def w_law06_SlotShares_l27b (K : Value → Mem → Prop) (J3 : List Value → List (List Value) → Mem → Prop) (R1 : List Value → List (List Value) → Mem → Prop) (J4 : List Value → List (List Value) → Mem → Prop) (J6 : List Value → List (List Value) → Mem → Prop) (J7 : List Value → List (List Value) → Mem → Prop) (R5 : List Value → List (List Value) → Mem → Prop) (v1 v5 v10 v11 v13 v15 : Value) (c6 c8 c12 : List Value) (σ : Mem) : Prop :=
xF fMove [v15] fun v96 =>
xF (fBin .lss .no) [v96, (.int .i64 3)] fun v97 =>
xIf v97
 (xJoin (w_law06_SlotShares_j8 K J3 R1 J4 J6 J7 R5) fun J8 =>
xF fMove [v15] fun v100 =>
xF (fIxA 3 3) [(locP 8), v100] fun v101 =>
xF (fFld 2) [v101] fun v102 =>
xO (gLoad 1 false [v102] c8) fun v103 =>
xF fMove [v13] fun v104 =>
xF (fBin .eql .no) [v103, v104] fun v105 =>
xF fMove [v105] fun v106 =>
xIf v106
 (xF fMove [v15] fun v107 =>
xF (fIxA 3 3) [(locP 8), v107] fun v108 =>
xF (fFld 1) [v108] fun v109 =>
xO (gLoad 1 false [v109] c8) fun v110 =>
xF (fBin .eql .ptr) [v110, (.pointer none)] fun v111 =>
xF fPick [(.bool true), v111, (.bool false)] fun v112 =>
J8 [v1, v5, v10, v11, v13, v15, v112] [c6, c8, c12] σ)
 (xF fPick [(.bool false), undef, (.bool false)] fun v112 =>
J8 [v1, v5, v10, v11, v13, v15, v112] [c6, c8, c12] σ))
 (J7 [v1, v5, v10, v11, v13] [c6, c8, c12] σ)

def w_law06_SlotShares_l27 (K : Value → Mem → Prop) (J3 : List Value → List (List Value) → Mem → Prop) (R1 : List Value → List (List Value) → Mem → Prop) (J4 : List Value → List (List Value) → Mem → Prop) (J6 : List Value → List (List Value) → Mem → Prop) (J7 : List Value → List (List Value) → Mem → Prop) (R5 : List Value → List (List Value) → Mem → Prop) (ts : List Value) (ls : List (List Value)) (σ : Mem) : Prop := w_law06_SlotShares_l27b K J3 R1 J4 J6 J7 R5 (ts.getD 0 poison) (ts.getD 1 poison) (ts.getD 2 poison) (ts.getD 3 poison) (ts.getD 4 poison) (ts.getD 5 poison) (ls.getD 0 []) (ls.getD 1 []) (ls.getD 2 []) σ

def w_law06_SlotShares_j5b (K : Value → Mem → Prop) (J3 : List Value → List (List Value) → Mem → Prop) (R1 : List Value → List (List Value) → Mem → Prop) (J4 : List Value → List (List Value) → Mem → Prop) (v1 v5 v10 v11 : Value) (c6 c8 : List Value) (σ : Mem) : Prop :=
xF fMove [v11] fun v66 =>
xF (fIxA 3 3) [(locP 8), v66] fun v67 =>
xO (gLoad 3 true [v67] c8) fun v68 =>
xC (gStore 3 [(locP 12), v68] [(.pointer none), (.pointer none), (.int .i64 0)]) fun c12 =>
xJoin (w_law06_SlotShares_j6 K J3 R1 J4) fun J6 =>
xF (fFld 1) [(locP 12)] fun v70 =>
xO (gLoad 1 false [v70] c12) fun v71 =>
xF (fBin .neq .ptr) [v71, (.pointer none)] fun v72 =>
xF fMove [v72] fun v69 =>
xIf v69
 (xF (fFld 1) [(locP 12)] fun v73 =>
xO (gLoad 1 false [v73] c12) fun v74 =>
xO (gLoad 9 true [(locP 6)] c6) fun v75 =>
s_slot_Give_Step [v74, v75] (fun v76 σ =>
xIf v76
 (xF (fBuild [(0, 1), (1, 1), (2, 1), (3, 1), (4, 1)] [(.int .i64 0), (.int .u64 0), (.int .i64 0), (.int .i64 0), (.bool false)] []) [] fun v77 =>
hBox 5 [v77] (fun v78 σ =>
xF (fBuild [(0, 1), (1, 1), (2, 1)] [(.pointer none), (.pointer none), (.int .i64 0)] [0, 2]) [v78, (.int .i64 (-1))] fun v79 =>
xC (gStore 3 [(locP 12), v79] c12) fun c12 =>
J6 [v1, v5, v10, v11] [c6, c8, c12] σ) σ)
 (J6 [v1, v5, v10, v11] [c6, c8, c12] σ)) σ)
 (xF (fFld 0) [(locP 12)] fun v81 =>
xO (gLoad 1 false [v81] c12) fun v82 =>
xO (gLoad 9 true [(locP 6)] c6) fun v83 =>
s_slot_Take_Step [v82, v83] (fun v84 σ =>
xF fMove [v84] fun v80 =>
xIf v80
 (xF (fFld 0) [(locP 12)] fun v86 =>
xO (gLoad 1 false [v86] c12) fun v87 =>
s_slot_Take_Slot [v87] (fun v88 σ =>
xF fMove [v88] fun v85 =>
xF (fExt 0) [v85] fun v89 =>
xF (fExt 1) [v85] fun v90 =>
xF fMove [v89] fun v13 =>
xF fMove [v90] fun v14 =>
xF fMove [v14] fun v91 =>
xF (fUn .not) [v91] fun v92 =>
xIf v92
 (xF (fBuild [(0, 1), (1, 1), (2, 1), (3, 1), (4, 1)] [(.int .i64 0), (.int .u64 0), (.int .i64 0), (.int .i64 0), (.bool false)] []) [] fun v93 =>
hBox 5 [v93] (fun v94 σ =>
xF (fFld 0) [(locP 12)] fun v95 =>
xC (gStore 1 [v95, v94] c12) fun c12 =>
J6 [v1, v5, v10, v11] [c6, c8, c12] σ) σ)
 (xJoin (w_law06_SlotShares_j7 K J3 R1 J4 J6) fun J7 =>
xF fMove [(.int .i64 0)] fun v15 =>
xLoop (w_law06_SlotShares_l27 K J3 R1 J4 J6 J7) [v1, v5, v10, v11, v13, v15] [c6, c8, c12] σ)) σ)
 (J6 [v1, v5, v10, v11] [c6, c8, c12] σ)) σ)

def w_law06_SlotShares_j5 (K : Value → Mem → Prop) (J3 : List Value → List (List Value) → Mem → Prop) (R1 : List Value → List (List Value) → Mem → Prop) (J4 : List Value → List (List Value) → Mem → Prop) (ts : List Value) (ls : List (List Value)) (σ : Mem) : Prop := w_law06_SlotShares_j5b K J3 R1 J4 (ts.getD 0 poison) (ts.getD 1 poison) (ts.getD 2 poison) (ts.getD 3 poison) (ls.getD 0 []) (ls.getD 1 []) σ

def w_law06_SlotShares_j9b (K : Value → Mem → Prop) (J3 : List Value → List (List Value) → Mem → Prop) (R1 : List Value → List (List Value) → Mem → Prop) (J4 : List Value → List (List Value) → Mem → Prop) (J5 : List Value → List (List Value) → Mem → Prop) (v1 v5 v10 v11 v56 : Value) (c6 c8 : List Value) (σ : Mem) : Prop :=
xIf v56
 (xF fMove [v1] fun v57 =>
xF fMove [v10] fun v58 =>
xF (fIxS 1) [v57, v58] fun v59 =>
hLoad 1 false [v59] (fun v60 σ =>
xF (fBin .rem .no) [v60, (.int .i64 3)] fun v61 =>
xF (fBin .add .no) [v61, (.int .i64 3)] fun v62 =>
xF (fBin .rem .no) [v62, (.int .i64 3)] fun v63 =>
xF fMove [v63] fun v11 =>
J5 [v1, v5, v10, v11] [c6, c8] σ) σ)
 (xF fMove [v10] fun v64 =>
xF (fBin .gtr .no) [v64, (.int .i64 360)] fun v65 =>
xIf v65
 (J3 [v5] [c6, c8] σ)
 (J5 [v1, v5, v10, v11] [c6, c8] σ))

def w_law06_SlotShares_j9 (K : Value → Mem → Prop) (J3 : List Value → List (List Value) → Mem → Prop) (R1 : List Value → List (List Value) → Mem → Prop) (J4 : List Value → List (List Value) → Mem → Prop) (J5 : List Value → List (List Value) → Mem → Prop) (ts : List Value) (ls : List (List Value)) (σ : Mem) : Prop := w_law06_SlotShares_j9b K J3 R1 J4 J5 (ts.getD 0 poison) (ts.getD 1 poison) (ts.getD 2 poison) (ts.getD 3 poison) (ts.getD 4 poison) (ls.getD 0 []) (ls.getD 1 []) σ

def w_law06_SlotShares_l12b (K : Value → Mem → Prop) (J3 : List Value → List (List Value) → Mem → Prop) (R1 : List Value → List (List Value) → Mem → Prop) (v1 v5 v10 : Value) (c6 c8 : List Value) (σ : Mem) : Prop :=
xF fMove [v10] fun v40 =>
xF fMove [v1] fun v41 =>
xF fLen [v41] fun v42 =>
xF (fBin .add .no) [v42, (.int .i64 60)] fun v43 =>
xF (fBin .lss .no) [v40, v43] fun v44 =>
xIf v44
 (xJoin (w_law06_SlotShares_j4 K J3 R1) fun J4 =>
xF fMove [v10] fun v47 =>
xF (fBin .rem .no) [v47, (.int .i64 3)] fun v48 =>
xF fMove [v48] fun v11 =>
xJoin (w_law06_SlotShares_j5 K J3 R1 J4) fun J5 =>
xJoin (w_law06_SlotShares_j9 K J3 R1 J4 J5) fun J9 =>
xF fMove [v10] fun v49 =>
xF fMove [v1] fun v50 =>
xF fLen [v50] fun v51 =>
xF (fBin .lss .no) [v49, v51] fun v52 =>
xF fMove [v52] fun v53 =>
xIf v53
 (xF fMove [v10] fun v54 =>
xF (fBin .lss .no) [v54, (.int .i64 300)] fun v55 =>
xF fPick [(.bool true), v55, (.bool false)] fun v56 =>
J9 [v1, v5, v10, v11, v56] [c6, c8] σ)
 (xF fPick [(.bool false), undef, (.bool false)] fun v56 =>
J9 [v1, v5, v10, v11, v56] [c6, c8] σ))
 (J3 [v5] [c6, c8] σ)

def w_law06_SlotShares_l12 (K : Value → Mem → Prop) (J3 : List Value → List (List Value) → Mem → Prop) (R1 : List Value → List (List Value) → Mem → Prop) (ts : List Value) (ls : List (List Value)) (σ : Mem) : Prop := w_law06_SlotShares_l12b K J3 R1 (ts.getD 0 poison) (ts.getD 1 poison) (ts.getD 2 poison) (ls.getD 0 []) (ls.getD 1 []) σ

def w_law06_SlotShares_j2b (K : Value → Mem → Prop) (v1 v5 : Value) (c6 c8 : List Value) (σ : Mem) : Prop :=
xJoin (w_law06_SlotShares_j3 K) fun J3 =>
xF fMove [(.int .i64 0)] fun v10 =>
xLoop (w_law06_SlotShares_l12 K J3) [v1, v5, v10] [c6, c8] σ

def w_law06_SlotShares_j2 (K : Value → Mem → Prop) (ts : List Value) (ls : List (List Value)) (σ : Mem) : Prop := w_law06_SlotShares_j2b K (ts.getD 0 poison) (ts.getD 1 poison) (ls.getD 0 []) (ls.getD 1 []) σ

def w_law06_SlotShares_l8b (K : Value → Mem → Prop) (J2 : List Value → List (List Value) → Mem → Prop) (R1 : List Value → List (List Value) → Mem → Prop) (v1 v5 v9 : Value) (c6 c8 : List Value) (σ : Mem) : Prop :=
xF fMove [v9] fun v31 =>
xF (fBin .lss .no) [v31, (.int .i64 3)] fun v32 =>
xIf v32
 (xF fMove [v9] fun v35 =>
xF (fBuild [(0, 1), (1, 1), (2, 1), (3, 1), (4, 1)] [(.int .i64 0), (.int .u64 0), (.int .i64 0), (.int .i64 0), (.bool false)] []) [] fun v36 =>
hBox 5 [v36] (fun v37 σ =>
xF (fBuild [(0, 1), (1, 1), (2, 1)] [(.pointer none), (.pointer none), (.int .i64 0)] [0, 2]) [v37, (.int .i64 (-1))] fun v38 =>
xF (fIxA 3 3) [(locP 8), v35] fun v39 =>
xC (gStore 3 [v39, v38] c8) fun c8 =>
xF fMove [v9] fun v33 =>
xF (fBin .add .no) [v33, (.int .i64 1)] fun v34 =>
xF fMove [v34] fun v9 =>
R1 [v1, v5, v9] [c6, c8] σ) σ)
 (J2 [v1, v5] [c6, c8] σ)

def w_law06_SlotShares_l8 (K : Value → Mem → Prop) (J2 : List Value → List (List Value) → Mem → Prop) (R1 : List Value → List (List Value) → Mem → Prop) (ts : List Value) (ls : List (List Value)) (σ : Mem) : Prop := w_law06_SlotShares_l8b K J2 R1 (ts.getD 0 poison) (ts.getD 1 poison) (ts.getD 2 poison) (ls.getD 0 []) (ls.getD 1 []) σ

def w_law06_SlotShares_j1b (K : Value → Mem → Prop) (v1 v5 v29 : Value) (c6 : List Value) (σ : Mem) : Prop :=
xIf v29
 (xF fMove [(.bool false)] fun v4 =>
K v4 σ)
 (xF (fBuild [(0, 3), (3, 3), (6, 3)] [(.pointer none), (.pointer none), (.int .i64 0), (.pointer none), (.pointer none), (.int .i64 0), (.pointer none), (.pointer none), (.int .i64 0)] []) [] fun v30 =>
xC (gStore 9 [(locP 8), v30] [(.pointer none), (.pointer none), (.int .i64 0), (.pointer none), (.pointer none), (.int .i64 0), (.pointer none), (.pointer none), (.int .i64 0)]) fun c8 =>
xJoin (w_law06_SlotShares_j2 K) fun J2 =>
xF fMove [(.int .i64 0)] fun v9 =>
xLoop (w_law06_SlotShares_l8 K J2) [v1, v5, v9] [c6, c8] σ)

def w_law06_SlotShares_j1 (K : Value → Mem → Prop) (ts : List Value) (ls : List (List Value)) (σ : Mem) : Prop := w_law06_SlotShares_j1b K (ts.getD 0 poison) (ts.getD 1 poison) (ts.getD 2 poison) (ls.getD 0 []) σ

def w_law06_SlotShares (a0 a1 : Value) (K : Value → Mem → Prop) (σ : Mem) : Prop :=
xF fMove [(.bool false)] fun v4 =>
xF fMove [a0] fun v16 =>
xF (fBin .and .no) [v16, (.int .i64 3)] fun v17 =>
xF (fBin .add .no) [(.int .i64 1), v17] fun v18 =>
xF fMove [v18] fun v5 =>
xF fMove [v5] fun v20 =>
s_law04_Arena [(.int .i64 4), v20, (.int .i64 1), (.int .i64 20)] (fun v21 σ =>
xF fMove [v21] fun v19 =>
xF (fExt 0) [v19] fun v22 =>
xF (fExt 1) [v19] fun v23 =>
xC (gStore 9 [(locP 6), v22] [(.int .i64 0), (.int .i64 0), (.int .i64 0), (.int .i64 0), (.int .i64 0), (.int .i64 0), (.int .i64 0), (.pointer none), (.int .i64 0)]) fun c6 =>
xF fMove [v23] fun v7 =>
xJoin (w_law06_SlotShares_j1 K) fun J1 =>
s_law06_awake [] (fun v24 σ =>
xF (fUn .not) [v24] fun v25 =>
xF fMove [v25] fun v26 =>
xIf v26
 (xF fPick [(.bool true), (.bool true), undef] fun v29 =>
J1 [a1, v5, v29] [c6] σ)
 (xF fMove [v7] fun v27 =>
xF (fUn .not) [v27] fun v28 =>
xF fPick [(.bool false), (.bool true), v28] fun v29 =>
J1 [a1, v5, v29] [c6] σ)) σ) σ

def s_law06_SlotShares : Spec := fun args K σ => match args with
  | [a0, a1] => w_law06_SlotShares a0 a1 K σ
  | _ => False

noncomputable def cx_law06_SlotShares : Cx := { P := Try.prog, T := [(36, .write, s_law04_Arena), (37, .none, s_law06_awake), (54, .write, s_slot_Give_Step), (39, .write, s_slot_Take_Step), (40, .read, s_slot_Take_Slot), (55, .write, s_slot_NewGive), (56, .write, s_law06_free)], loc := [(6, 6), (8, 8), (12, 12), (39, 8), (67, 8), (70, 12), (73, 12), (81, 12), (86, 12), (95, 12), (101, 8), (102, 8), (108, 8), (109, 8), (119, 8)], eqt := [(80, .ptr)], n := 124, keep := [(8, [1, 5, 9], [6, 8]), (12, [1, 5, 10], [6, 8]), (27, [1, 5, 10, 11, 13, 15], [6, 8, 12]), (1000005, [1, 5, 29], [6]), (1000011, [1, 5], [6, 8]), (1000013, [1, 5, 10], [6, 8]), (1000016, [1, 5, 10, 11, 56], [6, 8]), (1000018, [1, 5, 10, 11], [6, 8]), (1000030, [1, 5, 10, 11, 13, 15, 112], [6, 8, 12]), (1000031, [1, 5, 10, 11, 13], [6, 8, 12]), (1000032, [1, 5, 10, 11], [6, 8, 12]), (1000033, [5], [6, 8])] }
theorem q_law06_SlotShares : FnS cx_law06_SlotShares Try.f11 (bodyOf Try.f11) 2 = s_law06_SlotShares := by
  funext args K σ
  rcases args with _ | ⟨a0, _ | ⟨a1, _ | ⟨b, r⟩⟩⟩ <;> kernel_rfl
theorem e_law06_SlotShares : Entry Try.prog 11 .write s_law06_SlotShares :=
  entry (C := cx_law06_SlotShares) (TOk.cons e_law04_Arena (TOk.cons e_law06_awake (TOk.cons e_slot_Give_Step (TOk.cons e_slot_Take_Step (TOk.cons e_slot_Take_Slot (TOk.cons e_slot_NewGive (TOk.cons e_law06_free TOk.nil))))))) mixedOk Try.func11 (by kernel_rfl) (by kernel_rfl) (by kernel_rfl) q_law06_SlotShares


attribute [irreducible] w_law06_SlotShares_j3b w_law06_SlotShares_j3 w_law06_SlotShares_j4b w_law06_SlotShares_j4 w_law06_SlotShares_j6b w_law06_SlotShares_j6 w_law06_SlotShares_j7b w_law06_SlotShares_j7 w_law06_SlotShares_j8b w_law06_SlotShares_j8 w_law06_SlotShares_l27b w_law06_SlotShares_l27 w_law06_SlotShares_j5b w_law06_SlotShares_j5 w_law06_SlotShares_j9b w_law06_SlotShares_j9 w_law06_SlotShares_l12b w_law06_SlotShares_l12 w_law06_SlotShares_j2b w_law06_SlotShares_j2 w_law06_SlotShares_l8b w_law06_SlotShares_l8 w_law06_SlotShares_j1b w_law06_SlotShares_j1 w_law06_SlotShares s_law06_SlotShares

/-! ### /law06.SlotAgain -/
def w_law06_SlotAgain_j4b (K : Value → Mem → Prop) (v8 v11 v18 : Value) (σ : Mem) : Prop :=
xF fMove [v8] fun v107 =>
s_slot_Take_Slot [v107] (fun v108 σ =>
xF fMove [v108] fun v106 =>
xF (fExt 0) [v106] fun v109 =>
xF (fExt 1) [v106] fun v110 =>
xF fMove [v109] fun v20 =>
xF fMove [v110] fun v21 =>
xF fMove [v18] fun v111 =>
xF fMove [v111] fun v112 =>
xIf v112
 (xF fMove [v21] fun v113 =>
xF fPick [(.bool true), v113, (.bool false)] fun v114 =>
xF fMove [v114] fun v115 =>
xIf v115
 (xF fMove [v20] fun v116 =>
xF fMove [v11] fun v117 =>
xF (fBin .eql .no) [v116, v117] fun v118 =>
xF fPick [(.bool true), v118, (.bool false)] fun v119 =>
xF fMove [v119] fun v4 =>
K v4 σ)
 (xF fPick [(.bool false), undef, (.bool false)] fun v119 =>
xF fMove [v119] fun v4 =>
K v4 σ))
 (xF fPick [(.bool false), undef, (.bool false)] fun v114 =>
xF fMove [v114] fun v115 =>
xIf v115
 (xF fMove [v20] fun v116 =>
xF fMove [v11] fun v117 =>
xF (fBin .eql .no) [v116, v117] fun v118 =>
xF fPick [(.bool true), v118, (.bool false)] fun v119 =>
xF fMove [v119] fun v4 =>
K v4 σ)
 (xF fPick [(.bool false), undef, (.bool false)] fun v119 =>
xF fMove [v119] fun v4 =>
K v4 σ))) σ

def w_law06_SlotAgain_j4 (K : Value → Mem → Prop) (ts : List Value) (ls : List (List Value)) (σ : Mem) : Prop := w_law06_SlotAgain_j4b K (ts.getD 0 poison) (ts.getD 1 poison) (ts.getD 2 poison) σ

def w_law06_SlotAgain_j5b (K : Value → Mem → Prop) (J4 : List Value → List (List Value) → Mem → Prop) (R1 : List Value → List (List Value) → Mem → Prop) (v8 v11 v19 : Value) (c6 : List Value) (σ : Mem) : Prop :=
xF fMove [v8] fun v103 =>
xO (gLoad 9 true [(locP 6)] c6) fun v104 =>
s_slot_Take_Step [v103, v104] (fun v105 σ =>
xF fMove [v105] fun v18 =>
xF fMove [v19] fun v101 =>
xF (fBin .add .no) [v101, (.int .i64 1)] fun v102 =>
xF fMove [v102] fun v19 =>
R1 [v8, v11, v18, v19] [c6] σ) σ

def w_law06_SlotAgain_j5 (K : Value → Mem → Prop) (J4 : List Value → List (List Value) → Mem → Prop) (R1 : List Value → List (List Value) → Mem → Prop) (ts : List Value) (ls : List (List Value)) (σ : Mem) : Prop := w_law06_SlotAgain_j5b K J4 R1 (ts.getD 0 poison) (ts.getD 1 poison) (ts.getD 2 poison) (ls.getD 0 []) σ

def w_law06_SlotAgain_l22b (K : Value → Mem → Prop) (J4 : List Value → List (List Value) → Mem → Prop) (R1 : List Value → List (List Value) → Mem → Prop) (v8 v11 v18 v19 : Value) (c6 : List Value) (σ : Mem) : Prop :=
xJoin (w_law06_SlotAgain_j5 K J4 R1) fun J5 =>
xF fMove [v19] fun v95 =>
xF (fBin .lss .no) [v95, (.int .i64 10)] fun v96 =>
xF fMove [v96] fun v97 =>
xIf v97
 (xF fMove [v18] fun v98 =>
xF (fUn .not) [v98] fun v99 =>
xF fPick [(.bool true), v99, (.bool false)] fun v100 =>
xIf v100
 (J5 [v8, v11, v19] [c6] σ)
 (J4 [v8, v11, v18] [] σ))
 (xF fPick [(.bool false), undef, (.bool false)] fun v100 =>
xIf v100
 (J5 [v8, v11, v19] [c6] σ)
 (J4 [v8, v11, v18] [] σ))

def w_law06_SlotAgain_l22 (K : Value → Mem → Prop) (J4 : List Value → List (List Value) → Mem → Prop) (R1 : List Value → List (List Value) → Mem → Prop) (ts : List Value) (ls : List (List Value)) (σ : Mem) : Prop := w_law06_SlotAgain_l22b K J4 R1 (ts.getD 0 poison) (ts.getD 1 poison) (ts.getD 2 poison) (ts.getD 3 poison) (ls.getD 0 []) σ

def w_law06_SlotAgain_j3b (K : Value → Mem → Prop) (v8 v11 v90 : Value) (c6 : List Value) (σ : Mem) : Prop :=
xIf v90
 (xF fMove [(.bool false)] fun v4 =>
K v4 σ)
 (xF fMove [v8] fun v91 =>
xO (gLoad 9 true [(locP 6)] c6) fun v92 =>
s_slot_Take_Step [v91, v92] (fun v93 σ =>
xF fMove [v93] fun v18 =>
xF fMove [v18] fun v94 =>
xIf v94
 (xF fMove [(.bool false)] fun v4 =>
K v4 σ)
 (xJoin (w_law06_SlotAgain_j4 K) fun J4 =>
xF fMove [(.int .i64 0)] fun v19 =>
xLoop (w_law06_SlotAgain_l22 K J4) [v8, v11, v18, v19] [c6] σ)) σ)

def w_law06_SlotAgain_j3 (K : Value → Mem → Prop) (ts : List Value) (ls : List (List Value)) (σ : Mem) : Prop := w_law06_SlotAgain_j3b K (ts.getD 0 poison) (ts.getD 1 poison) (ts.getD 2 poison) (ls.getD 0 []) σ

def w_law06_SlotAgain_j2b (K : Value → Mem → Prop) (v8 v9 v10 v11 v12 v14 v15 : Value) (c6 : List Value) (σ : Mem) : Prop :=
xO (gLoad 9 true [(locP 6)] c6) fun v71 =>
xF fMove [v11] fun v72 =>
s_law06_give [v71, v72] (fun v73 σ =>
xJoin (w_law06_SlotAgain_j3 K) fun J3 =>
xF fMove [v9] fun v74 =>
xF fMove [v74] fun v75 =>
xIf v75
 (xF fPick [(.bool true), (.bool true), undef] fun v77 =>
xF fMove [v77] fun v78 =>
xIf v78
 (xF fPick [(.bool true), (.bool true), undef] fun v81 =>
xF fMove [v81] fun v82 =>
xIf v82
 (xF fPick [(.bool true), (.bool true), undef] fun v85 =>
xF fMove [v85] fun v86 =>
xIf v86
 (xF fPick [(.bool true), (.bool true), undef] fun v90 =>
J3 [v8, v11, v90] [c6] σ)
 (xF fMove [v11] fun v87 =>
xF fMove [v14] fun v88 =>
xF (fBin .eql .no) [v87, v88] fun v89 =>
xF fPick [(.bool false), (.bool true), v89] fun v90 =>
J3 [v8, v11, v90] [c6] σ))
 (xF fMove [v15] fun v83 =>
xF (fUn .not) [v83] fun v84 =>
xF fPick [(.bool false), (.bool true), v84] fun v85 =>
xF fMove [v85] fun v86 =>
xIf v86
 (xF fPick [(.bool true), (.bool true), undef] fun v90 =>
J3 [v8, v11, v90] [c6] σ)
 (xF fMove [v11] fun v87 =>
xF fMove [v14] fun v88 =>
xF (fBin .eql .no) [v87, v88] fun v89 =>
xF fPick [(.bool false), (.bool true), v89] fun v90 =>
J3 [v8, v11, v90] [c6] σ)))
 (xF fMove [v12] fun v79 =>
xF (fUn .not) [v79] fun v80 =>
xF fPick [(.bool false), (.bool true), v80] fun v81 =>
xF fMove [v81] fun v82 =>
xIf v82
 (xF fPick [(.bool true), (.bool true), undef] fun v85 =>
xF fMove [v85] fun v86 =>
xIf v86
 (xF fPick [(.bool true), (.bool true), undef] fun v90 =>
J3 [v8, v11, v90] [c6] σ)
 (xF fMove [v11] fun v87 =>
xF fMove [v14] fun v88 =>
xF (fBin .eql .no) [v87, v88] fun v89 =>
xF fPick [(.bool false), (.bool true), v89] fun v90 =>
J3 [v8, v11, v90] [c6] σ))
 (xF fMove [v15] fun v83 =>
xF (fUn .not) [v83] fun v84 =>
xF fPick [(.bool false), (.bool true), v84] fun v85 =>
xF fMove [v85] fun v86 =>
xIf v86
 (xF fPick [(.bool true), (.bool true), undef] fun v90 =>
J3 [v8, v11, v90] [c6] σ)
 (xF fMove [v11] fun v87 =>
xF fMove [v14] fun v88 =>
xF (fBin .eql .no) [v87, v88] fun v89 =>
xF fPick [(.bool false), (.bool true), v89] fun v90 =>
J3 [v8, v11, v90] [c6] σ))))
 (xF fMove [v10] fun v76 =>
xF fPick [(.bool false), (.bool true), v76] fun v77 =>
xF fMove [v77] fun v78 =>
xIf v78
 (xF fPick [(.bool true), (.bool true), undef] fun v81 =>
xF fMove [v81] fun v82 =>
xIf v82
 (xF fPick [(.bool true), (.bool true), undef] fun v85 =>
xF fMove [v85] fun v86 =>
xIf v86
 (xF fPick [(.bool true), (.bool true), undef] fun v90 =>
J3 [v8, v11, v90] [c6] σ)
 (xF fMove [v11] fun v87 =>
xF fMove [v14] fun v88 =>
xF (fBin .eql .no) [v87, v88] fun v89 =>
xF fPick [(.bool false), (.bool true), v89] fun v90 =>
J3 [v8, v11, v90] [c6] σ))
 (xF fMove [v15] fun v83 =>
xF (fUn .not) [v83] fun v84 =>
xF fPick [(.bool false), (.bool true), v84] fun v85 =>
xF fMove [v85] fun v86 =>
xIf v86
 (xF fPick [(.bool true), (.bool true), undef] fun v90 =>
J3 [v8, v11, v90] [c6] σ)
 (xF fMove [v11] fun v87 =>
xF fMove [v14] fun v88 =>
xF (fBin .eql .no) [v87, v88] fun v89 =>
xF fPick [(.bool false), (.bool true), v89] fun v90 =>
J3 [v8, v11, v90] [c6] σ)))
 (xF fMove [v12] fun v79 =>
xF (fUn .not) [v79] fun v80 =>
xF fPick [(.bool false), (.bool true), v80] fun v81 =>
xF fMove [v81] fun v82 =>
xIf v82
 (xF fPick [(.bool true), (.bool true), undef] fun v85 =>
xF fMove [v85] fun v86 =>
xIf v86
 (xF fPick [(.bool true), (.bool true), undef] fun v90 =>
J3 [v8, v11, v90] [c6] σ)
 (xF fMove [v11] fun v87 =>
xF fMove [v14] fun v88 =>
xF (fBin .eql .no) [v87, v88] fun v89 =>
xF fPick [(.bool false), (.bool true), v89] fun v90 =>
J3 [v8, v11, v90] [c6] σ))
 (xF fMove [v15] fun v83 =>
xF (fUn .not) [v83] fun v84 =>
xF fPick [(.bool false), (.bool true), v84] fun v85 =>
xF fMove [v85] fun v86 =>
xIf v86
 (xF fPick [(.bool true), (.bool true), undef] fun v90 =>
J3 [v8, v11, v90] [c6] σ)
 (xF fMove [v11] fun v87 =>
xF fMove [v14] fun v88 =>
xF (fBin .eql .no) [v87, v88] fun v89 =>
xF fPick [(.bool false), (.bool true), v89] fun v90 =>
J3 [v8, v11, v90] [c6] σ))))) σ

def w_law06_SlotAgain_j2 (K : Value → Mem → Prop) (ts : List Value) (ls : List (List Value)) (σ : Mem) : Prop := w_law06_SlotAgain_j2b K (ts.getD 0 poison) (ts.getD 1 poison) (ts.getD 2 poison) (ts.getD 3 poison) (ts.getD 4 poison) (ts.getD 5 poison) (ts.getD 6 poison) (ls.getD 0 []) σ

def w_law06_SlotAgain_l11b (K : Value → Mem → Prop) (J2 : List Value → List (List Value) → Mem → Prop) (R1 : List Value → List (List Value) → Mem → Prop) (v1 v8 v9 v10 v11 v12 v14 v15 v17 : Value) (c6 : List Value) (σ : Mem) : Prop :=
xF fMove [v17] fun v56 =>
xF fMove [v1] fun v57 =>
xF (fBin .and .no) [v57, (.int .i64 3)] fun v58 =>
xF (fBin .lss .no) [v56, v58] fun v59 =>
xIf v59
 (xO (gLoad 9 true [(locP 6)] c6) fun v62 =>
xF fMove [v11] fun v63 =>
s_law06_give [v62, v63] (fun v64 σ =>
xO (gLoad 9 true [(locP 6)] c6) fun v66 =>
s_law06_take [v66] (fun v67 σ =>
xF fMove [v67] fun v65 =>
xF (fExt 0) [v65] fun v68 =>
xF (fExt 1) [v65] fun v69 =>
xF (fExt 2) [v65] fun v70 =>
xF fMove [v68] fun v11 =>
xF fMove [v69] fun v12 =>
xF fMove [v17] fun v60 =>
xF (fBin .add .no) [v60, (.int .i64 1)] fun v61 =>
xF fMove [v61] fun v17 =>
R1 [v1, v8, v9, v10, v11, v12, v14, v15, v17] [c6] σ) σ) σ)
 (J2 [v8, v9, v10, v11, v12, v14, v15] [c6] σ)

def w_law06_SlotAgain_l11 (K : Value → Mem → Prop) (J2 : List Value → List (List Value) → Mem → Prop) (R1 : List Value → List (List Value) → Mem → Prop) (ts : List Value) (ls : List (List Value)) (σ : Mem) : Prop := w_law06_SlotAgain_l11b K J2 R1 (ts.getD 0 poison) (ts.getD 1 poison) (ts.getD 2 poison) (ts.getD 3 poison) (ts.getD 4 poison) (ts.getD 5 poison) (ts.getD 6 poison) (ts.getD 7 poison) (ts.getD 8 poison) (ls.getD 0 []) σ

def w_law06_SlotAgain_j1b (K : Value → Mem → Prop) (v1 v35 : Value) (c6 : List Value) (σ : Mem) : Prop :=
xIf v35
 (xF fMove [(.bool false)] fun v4 =>
K v4 σ)
 (xF (fBuild [(0, 1), (1, 1), (2, 1), (3, 1), (4, 1)] [(.int .i64 0), (.int .u64 0), (.int .i64 0), (.int .i64 0), (.bool false)] []) [] fun v36 =>
hBox 5 [v36] (fun v37 σ =>
xF fMove [v37] fun v8 =>
xF fMove [v8] fun v38 =>
xO (gLoad 9 true [(locP 6)] c6) fun v39 =>
s_slot_Take_Step [v38, v39] (fun v40 σ =>
xF fMove [v8] fun v41 =>
xO (gLoad 9 true [(locP 6)] c6) fun v42 =>
s_slot_Take_Step [v41, v42] (fun v43 σ =>
xF fMove [v40] fun v9 =>
xF fMove [v43] fun v10 =>
xO (gLoad 9 true [(locP 6)] c6) fun v45 =>
s_law06_take [v45] (fun v46 σ =>
xF fMove [v46] fun v44 =>
xF (fExt 0) [v44] fun v47 =>
xF (fExt 1) [v44] fun v48 =>
xF (fExt 2) [v44] fun v49 =>
xF fMove [v47] fun v11 =>
xF fMove [v48] fun v12 =>
xF fMove [v49] fun v13 =>
xO (gLoad 9 true [(locP 6)] c6) fun v51 =>
s_law06_take [v51] (fun v52 σ =>
xF fMove [v52] fun v50 =>
xF (fExt 0) [v50] fun v53 =>
xF (fExt 1) [v50] fun v54 =>
xF (fExt 2) [v50] fun v55 =>
xF fMove [v53] fun v14 =>
xF fMove [v54] fun v15 =>
xF fMove [v55] fun v16 =>
xJoin (w_law06_SlotAgain_j2 K) fun J2 =>
xF fMove [(.int .i64 0)] fun v17 =>
xLoop (w_law06_SlotAgain_l11 K J2) [v1, v8, v9, v10, v11, v12, v14, v15, v17] [c6] σ) σ) σ) σ) σ) σ)

def w_law06_SlotAgain_j1 (K : Value → Mem → Prop) (ts : List Value) (ls : List (List Value)) (σ : Mem) : Prop := w_law06_SlotAgain_j1b K (ts.getD 0 poison) (ts.getD 1 poison) (ls.getD 0 []) σ

def w_law06_SlotAgain (a0 a1 : Value) (K : Value → Mem → Prop) (σ : Mem) : Prop :=
xF fMove [(.bool false)] fun v4 =>
xF fMove [a0] fun v22 =>
xF (fBin .and .no) [v22, (.int .i64 7)] fun v23 =>
xF (fBin .add .no) [(.int .i64 2), v23] fun v24 =>
xF fMove [v24] fun v5 =>
xF fMove [v5] fun v26 =>
s_law04_Arena [(.int .i64 2), v26, (.int .i64 1), (.int .i64 20)] (fun v27 σ =>
xF fMove [v27] fun v25 =>
xF (fExt 0) [v25] fun v28 =>
xF (fExt 1) [v25] fun v29 =>
xC (gStore 9 [(locP 6), v28] [(.int .i64 0), (.int .i64 0), (.int .i64 0), (.int .i64 0), (.int .i64 0), (.int .i64 0), (.int .i64 0), (.pointer none), (.int .i64 0)]) fun c6 =>
xF fMove [v29] fun v7 =>
xJoin (w_law06_SlotAgain_j1 K) fun J1 =>
s_law06_awake [] (fun v30 σ =>
xF (fUn .not) [v30] fun v31 =>
xF fMove [v31] fun v32 =>
xIf v32
 (xF fPick [(.bool true), (.bool true), undef] fun v35 =>
J1 [a1, v35] [c6] σ)
 (xF fMove [v7] fun v33 =>
xF (fUn .not) [v33] fun v34 =>
xF fPick [(.bool false), (.bool true), v34] fun v35 =>
J1 [a1, v35] [c6] σ)) σ) σ

def s_law06_SlotAgain : Spec := fun args K σ => match args with
  | [a0, a1] => w_law06_SlotAgain a0 a1 K σ
  | _ => False

noncomputable def cx_law06_SlotAgain : Cx := { P := Try.prog, T := [(36, .write, s_law04_Arena), (37, .none, s_law06_awake), (39, .write, s_slot_Take_Step), (38, .write, s_law06_take), (53, .write, s_law06_give), (40, .read, s_slot_Take_Slot)], loc := [(6, 6)], eqt := [], n := 120, keep := [(11, [1, 8, 9, 10, 11, 12, 14, 15, 17], [6]), (22, [8, 11, 18, 19], [6]), (1000005, [1, 35], [6]), (1000015, [8, 9, 10, 11, 12, 14, 15], [6]), (1000017, [8, 11, 90], [6]), (1000024, [8, 11, 19], [6]), (1000025, [8, 11, 18], [])] }
theorem q_law06_SlotAgain : FnS cx_law06_SlotAgain Try.f12 (bodyOf Try.f12) 2 = s_law06_SlotAgain := by
  funext args K σ
  rcases args with _ | ⟨a0, _ | ⟨a1, _ | ⟨b, r⟩⟩⟩ <;> kernel_rfl
theorem e_law06_SlotAgain : Entry Try.prog 12 .write s_law06_SlotAgain :=
  entry (C := cx_law06_SlotAgain) (TOk.cons e_law04_Arena (TOk.cons e_law06_awake (TOk.cons e_slot_Take_Step (TOk.cons e_law06_take (TOk.cons e_law06_give (TOk.cons e_slot_Take_Slot TOk.nil)))))) mixedOk Try.func12 (by kernel_rfl) (by kernel_rfl) (by kernel_rfl) q_law06_SlotAgain


attribute [irreducible] w_law06_SlotAgain_j4b w_law06_SlotAgain_j4 w_law06_SlotAgain_j5b w_law06_SlotAgain_j5 w_law06_SlotAgain_l22b w_law06_SlotAgain_l22 w_law06_SlotAgain_j3b w_law06_SlotAgain_j3 w_law06_SlotAgain_j2b w_law06_SlotAgain_j2 w_law06_SlotAgain_l11b w_law06_SlotAgain_l11 w_law06_SlotAgain_j1b w_law06_SlotAgain_j1 w_law06_SlotAgain s_law06_SlotAgain

end Go.Fl
