/- What each Go function that the law reaches does, read off its text by a program; that this is the function; the same for the closed evaluator. No condition. -/
import Derived.Test.YthibiempfkcinaaG1
namespace Go.Fl
open Go Go.Proofs
set_option linter.unusedVariables false
set_option maxRecDepth 10000000

/-! ### (/layout.Env).Add -/
def w_layout_Env_Add (a0 a1 a2 : Value) (K : Value → Mem → Prop) (σ : Mem) : Prop :=
xC (gBox 9 [a0] []) fun c3 =>
xF (fFld 7) [(locP 3)] fun v6 =>
xO (gLoad 1 false [v6] c3) fun v7 =>
xF (fFld 8) [(locP 3)] fun v8 =>
xO (gLoad 1 false [v8] c3) fun v9 =>
s_mem_Mem_By [v7, v9] (fun v10 σ =>
xF (fFld 7) [(locP 3)] fun v11 =>
xO (gLoad 1 false [v11] c3) fun v12 =>
xF fMove [a1] fun v13 =>
xF fMove [a2] fun v14 =>
xF (fConv .u64) [v14] fun v15 =>
s_mem_Mem_Add [v12, v13, v15] (fun v16 σ =>
K (.tuple #[]) σ) σ) σ

def s_layout_Env_Add : Spec := fun args K σ => match args with
  | [a0, a1, a2] => w_layout_Env_Add a0 a1 a2 K σ
  | _ => False

noncomputable def cx_layout_Env_Add : Cx := { P := Try.prog, T := [(67, .write, s_mem_Mem_By), (72, .write, s_mem_Mem_Add)], loc := [(3, 3), (6, 3), (8, 3), (11, 3)], eqt := [], n := 17, keep := [] }
theorem q_layout_Env_Add : FnS cx_layout_Env_Add Try.f54 (bodyOf Try.f54) 3 = s_layout_Env_Add := by
  funext args K σ
  rcases args with _ | ⟨a0, _ | ⟨a1, _ | ⟨a2, _ | ⟨b, r⟩⟩⟩⟩ <;> kernel_rfl
theorem e_layout_Env_Add : Entry Try.prog 54 .write s_layout_Env_Add :=
  entry (C := cx_layout_Env_Add) (TOk.cons e_mem_Mem_By (TOk.cons e_mem_Mem_Add TOk.nil)) mixedOk Try.func54 (by kernel_rfl) (by kernel_rfl) (by kernel_rfl) q_layout_Env_Add

def xl_layout_Env_Add : List (Nat × Nat) := [(3, 3), (6, 3), (8, 3), (11, 3)]
noncomputable def xc_layout_Env_Add : XC XN :=
(.seq none
 (.reg [⟨none, some 3, [(.tmp 0)], ⟨.lb 3 9, rAny xl_layout_Env_Add (.lb 3 9)⟩⟩])
 (.seq none
 (.reg [⟨none, some 6, [(.tmp 3)], ⟨.f (fFld 7), rFld 7⟩⟩,
  ⟨none, some 7, [(.tmp 6)], ⟨.lr 3 1 false, rLr1 3⟩⟩,
  ⟨none, some 8, [(.tmp 3)], ⟨.f (fFld 8), rFld 8⟩⟩,
  ⟨none, some 9, [(.tmp 8)], ⟨.lr 3 1 false, rLr1 3⟩⟩,
  ⟨none, some 10, [(.tmp 7), (.tmp 9)], ⟨.call .write s_mem_Mem_By v_mem_Mem_By, rCall v_mem_Mem_By⟩⟩])
 (.reg [⟨none, some 11, [(.tmp 3)], ⟨.f (fFld 7), rFld 7⟩⟩,
  ⟨none, some 12, [(.tmp 11)], ⟨.lr 3 1 false, rLr1 3⟩⟩,
  ⟨none, some 13, [(.tmp 1)], ⟨.f fMove, rMove⟩⟩,
  ⟨none, some 14, [(.tmp 2)], ⟨.f fMove, rMove⟩⟩,
  ⟨none, some 15, [(.tmp 14)], ⟨.f (fConv .u64), rConv .u64⟩⟩,
  ⟨none, some 16, [(.tmp 12), (.tmp 13), (.tmp 15)], ⟨.call .write s_mem_Mem_Add v_mem_Mem_Add, rCall v_mem_Mem_Add⟩⟩])))
noncomputable def v_layout_Env_Add : EvF := evFn 3 xc_layout_Env_Add []
theorem xt_layout_Env_Add : toC cx_layout_Env_Add (bodyOf Try.f54) = some (xc_layout_Env_Add.map XN.sm) := by kernel_rfl
theorem xr_layout_Env_Add : toR cx_layout_Env_Add Try.f54.results.toList = some [] := by kernel_rfl
theorem xo_layout_Env_Add : xc_layout_Env_Add.ok xl_layout_Env_Add := ⟨⟨rAny_ok (trivial), trivial⟩, ⟨⟨rFld_ok _, rLr1_ok _, rFld_ok _, rLr1_ok _, rCall_ok ve_mem_Mem_By, trivial⟩, ⟨rFld_ok _, rLr1_ok _, rMove_ok, rMove_ok, rConv_ok _, rCall_ok ve_mem_Mem_Add, trivial⟩⟩⟩
theorem ve_layout_Env_Add : EvOk s_layout_Env_Add v_layout_Env_Add := EvOk.of (evFn_sound (C := cx_layout_Env_Add) xt_layout_Env_Add xr_layout_Env_Add xo_layout_Env_Add) q_layout_Env_Add

attribute [irreducible] w_layout_Env_Add s_layout_Env_Add

/-! ### /word.PutHead -/
def w_word_PutHead_j1b (K : Value → Mem → Prop) (v3 : Value) (σ : Mem) : Prop :=
xF fMove [v3] fun v26 =>
xF fMove [v26] fun v2 =>
K v2 σ

def w_word_PutHead_j1 (K : Value → Mem → Prop) (ts : List Value) (ls : List (List Value)) (σ : Mem) : Prop := w_word_PutHead_j1b K (ts.getD 0 poison) σ

def w_word_PutHead (a0 : Value) (K : Value → Mem → Prop) (σ : Mem) : Prop :=
xC (gBox 5 [a0] []) fun c1 =>
xF fMove [(.int .u64 0)] fun v2 =>
xF (fFld 0) [(locP 1)] fun v4 =>
xO (gLoad 1 false [v4] c1) fun v5 =>
s_word_fit [v5, (.int .i64 3)] (fun v6 σ =>
xF (fFld 1) [(locP 1)] fun v7 =>
xO (gLoad 1 false [v7] c1) fun v8 =>
s_word_fit [v8, (.int .i64 65535)] (fun v9 σ =>
xF (fBin .shl .no) [v9, (.int .u64 2)] fun v10 =>
xF (fBin .or .no) [v6, v10] fun v11 =>
xF (fFld 2) [(locP 1)] fun v12 =>
xO (gLoad 1 false [v12] c1) fun v13 =>
s_word_fit [v13, (.int .i64 65535)] (fun v14 σ =>
xF (fBin .shl .no) [v14, (.int .u64 18)] fun v15 =>
xF (fBin .or .no) [v11, v15] fun v16 =>
xF (fFld 3) [(locP 1)] fun v17 =>
xO (gLoad 1 false [v17] c1) fun v18 =>
s_word_fit [v18, (.int .i64 65535)] (fun v19 σ =>
xF (fBin .shl .no) [v19, (.int .u64 34)] fun v20 =>
xF (fBin .or .no) [v16, v20] fun v21 =>
xF fMove [v21] fun v3 =>
xJoin (w_word_PutHead_j1 K) fun J1 =>
xF (fFld 4) [(locP 1)] fun v22 =>
xO (gLoad 1 false [v22] c1) fun v23 =>
xIf v23
 (xF fMove [v3] fun v24 =>
xF (fBin .or .no) [v24, (.int .u64 1125899906842624)] fun v25 =>
xF fMove [v25] fun v3 =>
J1 [v3] [] σ)
 (J1 [v3] [] σ)) σ) σ) σ) σ

def s_word_PutHead : Spec := fun args K σ => match args with
  | [a0] => w_word_PutHead a0 K σ
  | _ => False

noncomputable def cx_word_PutHead : Cx := { P := Try.prog, T := [(70, .none, s_word_fit)], loc := [(1, 1), (4, 1), (7, 1), (12, 1), (17, 1), (22, 1)], eqt := [], n := 27, keep := [(1000005, [3], [])] }
theorem q_word_PutHead : FnS cx_word_PutHead Try.f73 (bodyOf Try.f73) 1 = s_word_PutHead := by
  funext args K σ
  rcases args with _ | ⟨a0, _ | ⟨b, r⟩⟩ <;> kernel_rfl
theorem e_word_PutHead : Entry Try.prog 73 .none s_word_PutHead :=
  entry (C := cx_word_PutHead) (TOk.cons e_word_fit TOk.nil) mixedOk Try.func73 (by kernel_rfl) (by kernel_rfl) (by kernel_rfl) q_word_PutHead

def xl_word_PutHead : List (Nat × Nat) := [(1, 1), (4, 1), (7, 1), (12, 1), (17, 1), (22, 1)]
noncomputable def xc_word_PutHead : XC XN :=
(.seq none
 (.reg [⟨none, some 1, [(.tmp 0)], ⟨.lb 1 5, rAny xl_word_PutHead (.lb 1 5)⟩⟩,
  ⟨none, some 2, [(.const (.int .u64 0))], ⟨.f fMove, rMove⟩⟩])
 (.seq none
 (.reg [⟨none, some 4, [(.tmp 1)], ⟨.f (fFld 0), rFld 0⟩⟩,
  ⟨none, some 5, [(.tmp 4)], ⟨.lr 1 1 false, rLr1 1⟩⟩,
  ⟨none, some 6, [(.tmp 5), (.const (.int .i64 3))], ⟨.call .none s_word_fit v_word_fit, rCall v_word_fit⟩⟩,
  ⟨none, some 7, [(.tmp 1)], ⟨.f (fFld 1), rFld 1⟩⟩,
  ⟨none, some 8, [(.tmp 7)], ⟨.lr 1 1 false, rLr1 1⟩⟩,
  ⟨none, some 9, [(.tmp 8), (.const (.int .i64 65535))], ⟨.call .none s_word_fit v_word_fit, rCall v_word_fit⟩⟩,
  ⟨none, some 10, [(.tmp 9), (.const (.int .u64 2))], ⟨.f (fBin .shl .no), rAny xl_word_PutHead (.f (fBin .shl .no))⟩⟩,
  ⟨none, some 11, [(.tmp 6), (.tmp 10)], ⟨.f (fBin .or .no), rAny xl_word_PutHead (.f (fBin .or .no))⟩⟩,
  ⟨none, some 12, [(.tmp 1)], ⟨.f (fFld 2), rFld 2⟩⟩,
  ⟨none, some 13, [(.tmp 12)], ⟨.lr 1 1 false, rLr1 1⟩⟩,
  ⟨none, some 14, [(.tmp 13), (.const (.int .i64 65535))], ⟨.call .none s_word_fit v_word_fit, rCall v_word_fit⟩⟩,
  ⟨none, some 15, [(.tmp 14), (.const (.int .u64 18))], ⟨.f (fBin .shl .no), rAny xl_word_PutHead (.f (fBin .shl .no))⟩⟩,
  ⟨none, some 16, [(.tmp 11), (.tmp 15)], ⟨.f (fBin .or .no), rAny xl_word_PutHead (.f (fBin .or .no))⟩⟩,
  ⟨none, some 17, [(.tmp 1)], ⟨.f (fFld 3), rFld 3⟩⟩,
  ⟨none, some 18, [(.tmp 17)], ⟨.lr 1 1 false, rLr1 1⟩⟩,
  ⟨none, some 19, [(.tmp 18), (.const (.int .i64 65535))], ⟨.call .none s_word_fit v_word_fit, rCall v_word_fit⟩⟩,
  ⟨none, some 20, [(.tmp 19), (.const (.int .u64 34))], ⟨.f (fBin .shl .no), rAny xl_word_PutHead (.f (fBin .shl .no))⟩⟩,
  ⟨none, some 21, [(.tmp 16), (.tmp 20)], ⟨.f (fBin .or .no), rAny xl_word_PutHead (.f (fBin .or .no))⟩⟩,
  ⟨none, some 3, [(.tmp 21)], ⟨.f fMove, rMove⟩⟩])
 (.seq (some ([3], []))
 (.seq none
 (.reg [⟨none, some 22, [(.tmp 1)], ⟨.f (fFld 4), rFld 4⟩⟩,
  ⟨none, some 23, [(.tmp 22)], ⟨.lr 1 1 false, rLr1 1⟩⟩])
 (.cond (.tmp 23)
 (.reg [⟨none, some 24, [(.tmp 3)], ⟨.f fMove, rMove⟩⟩,
  ⟨none, some 25, [(.tmp 24), (.const (.int .u64 1125899906842624))], ⟨.f (fBin .or .no), rAny xl_word_PutHead (.f (fBin .or .no))⟩⟩,
  ⟨none, some 3, [(.tmp 25)], ⟨.f fMove, rMove⟩⟩])
 .skip))
 (.seq none
 (.reg [⟨none, some 26, [(.tmp 3)], ⟨.f fMove, rMove⟩⟩,
  ⟨none, some 2, [(.tmp 26)], ⟨.f fMove, rMove⟩⟩])
 .ret))))
noncomputable def v_word_PutHead : EvF := evFn 1 xc_word_PutHead [.t 2]
theorem xt_word_PutHead : toC cx_word_PutHead (bodyOf Try.f73) = some (xc_word_PutHead.map XN.sm) := by kernel_rfl
theorem xr_word_PutHead : toR cx_word_PutHead Try.f73.results.toList = some [.t 2] := by kernel_rfl
theorem xo_word_PutHead : xc_word_PutHead.ok xl_word_PutHead := ⟨⟨rAny_ok (trivial), rMove_ok, trivial⟩, ⟨⟨rFld_ok _, rLr1_ok _, rCall_ok ve_word_fit, rFld_ok _, rLr1_ok _, rCall_ok ve_word_fit, rAny_ok (eqv_bin _ _), rAny_ok (eqv_bin _ _), rFld_ok _, rLr1_ok _, rCall_ok ve_word_fit, rAny_ok (eqv_bin _ _), rAny_ok (eqv_bin _ _), rFld_ok _, rLr1_ok _, rCall_ok ve_word_fit, rAny_ok (eqv_bin _ _), rAny_ok (eqv_bin _ _), rMove_ok, trivial⟩, ⟨⟨⟨rFld_ok _, rLr1_ok _, trivial⟩, ⟨⟨rMove_ok, rAny_ok (eqv_bin _ _), rMove_ok, trivial⟩, trivial⟩⟩, ⟨⟨rMove_ok, rMove_ok, trivial⟩, trivial⟩⟩⟩⟩
theorem ve_word_PutHead : EvOk s_word_PutHead v_word_PutHead := EvOk.of (evFn_sound (C := cx_word_PutHead) xt_word_PutHead xr_word_PutHead xo_word_PutHead) q_word_PutHead

attribute [irreducible] w_word_PutHead_j1b w_word_PutHead_j1 w_word_PutHead s_word_PutHead

/-! ### (*/alloc.Alloc).head -/
def w_alloc_Alloc_head (a0 a1 : Value) (K : Value → Mem → Prop) (σ : Mem) : Prop :=
xF fMove [(.int .u64 0)] fun v4 =>
xF fMove [a1] fun v5 =>
xF fMove [a0] fun v6 =>
xF fNil [v6] fun v7 =>
xF (fFld 0) [v7] fun v8 =>
hLoad 1 false [v8] (fun v9 σ =>
xF fMove [a0] fun v10 =>
xF fNil [v10] fun v11 =>
xF (fFld 8) [v11] fun v12 =>
hLoad 1 false [v12] (fun v13 σ =>
xF fMove [a0] fun v14 =>
xF fNil [v14] fun v15 =>
xF (fFld 9) [v15] fun v16 =>
hLoad 1 false [v16] (fun v17 σ =>
xF fMove [a0] fun v18 =>
xF fNil [v18] fun v19 =>
xF (fFld 1) [v19] fun v20 =>
hLoad 1 false [v20] (fun v21 σ =>
xF (fBuild [(0, 1), (1, 1), (2, 1), (3, 1), (4, 1)] [(.int .i64 0), (.int .i64 0), (.int .i64 0), (.int .i64 0), (.bool false)] [0, 1, 2, 3, 4]) [v5, v9, v13, v17, v21] fun v22 =>
s_word_PutHead [v22] (fun v23 σ =>
xF fMove [v23] fun v4 =>
K v4 σ) σ) σ) σ) σ) σ

def s_alloc_Alloc_head : Spec := fun args K σ => match args with
  | [a0, a1] => w_alloc_Alloc_head a0 a1 K σ
  | _ => False

noncomputable def cx_alloc_Alloc_head : Cx := { P := Try.prog, T := [(73, .none, s_word_PutHead)], loc := [], eqt := [], n := 24, keep := [] }
theorem q_alloc_Alloc_head : FnS cx_alloc_Alloc_head Try.f56 (bodyOf Try.f56) 2 = s_alloc_Alloc_head := by
  funext args K σ
  rcases args with _ | ⟨a0, _ | ⟨a1, _ | ⟨b, r⟩⟩⟩ <;> kernel_rfl
theorem e_alloc_Alloc_head : Entry Try.prog 56 .read s_alloc_Alloc_head :=
  entry (C := cx_alloc_Alloc_head) (TOk.cons e_word_PutHead TOk.nil) mixedOk Try.func56 (by kernel_rfl) (by kernel_rfl) (by kernel_rfl) q_alloc_Alloc_head

def xl_alloc_Alloc_head : List (Nat × Nat) := []
noncomputable def xc_alloc_Alloc_head : XC XN :=
(.seq none
 (.reg [⟨none, some 4, [(.const (.int .u64 0))], ⟨.f fMove, rMove⟩⟩])
 (.seq none
 (.reg [⟨none, some 5, [(.tmp 1)], ⟨.f fMove, rMove⟩⟩,
  ⟨none, some 6, [(.tmp 0)], ⟨.f fMove, rMove⟩⟩,
  ⟨none, some 7, [(.tmp 6)], ⟨.f fNil, rNil⟩⟩,
  ⟨none, some 8, [(.tmp 7)], ⟨.f (fFld 0), rFld 0⟩⟩,
  ⟨none, some 9, [(.tmp 8)], ⟨.load 1 false, rLoad1⟩⟩,
  ⟨none, some 10, [(.tmp 0)], ⟨.f fMove, rMove⟩⟩,
  ⟨none, some 11, [(.tmp 10)], ⟨.f fNil, rNil⟩⟩,
  ⟨none, some 12, [(.tmp 11)], ⟨.f (fFld 8), rFld 8⟩⟩,
  ⟨none, some 13, [(.tmp 12)], ⟨.load 1 false, rLoad1⟩⟩,
  ⟨none, some 14, [(.tmp 0)], ⟨.f fMove, rMove⟩⟩,
  ⟨none, some 15, [(.tmp 14)], ⟨.f fNil, rNil⟩⟩,
  ⟨none, some 16, [(.tmp 15)], ⟨.f (fFld 9), rFld 9⟩⟩,
  ⟨none, some 17, [(.tmp 16)], ⟨.load 1 false, rLoad1⟩⟩,
  ⟨none, some 18, [(.tmp 0)], ⟨.f fMove, rMove⟩⟩,
  ⟨none, some 19, [(.tmp 18)], ⟨.f fNil, rNil⟩⟩,
  ⟨none, some 20, [(.tmp 19)], ⟨.f (fFld 1), rFld 1⟩⟩,
  ⟨none, some 21, [(.tmp 20)], ⟨.load 1 false, rLoad1⟩⟩,
  ⟨none, some 22, [(.tmp 5), (.tmp 9), (.tmp 13), (.tmp 17), (.tmp 21)], ⟨.f (fBuild [(0, 1), (1, 1), (2, 1), (3, 1), (4, 1)] [(.int .i64 0), (.int .i64 0), (.int .i64 0), (.int .i64 0), (.bool false)] [0, 1, 2, 3, 4]), rAny xl_alloc_Alloc_head (.f (fBuild [(0, 1), (1, 1), (2, 1), (3, 1), (4, 1)] [(.int .i64 0), (.int .i64 0), (.int .i64 0), (.int .i64 0), (.bool false)] [0, 1, 2, 3, 4]))⟩⟩,
  ⟨none, some 23, [(.tmp 22)], ⟨.call .none s_word_PutHead v_word_PutHead, rCall v_word_PutHead⟩⟩,
  ⟨none, some 4, [(.tmp 23)], ⟨.f fMove, rMove⟩⟩])
 .ret))
noncomputable def v_alloc_Alloc_head : EvF := evFn 2 xc_alloc_Alloc_head [.t 4]
theorem xt_alloc_Alloc_head : toC cx_alloc_Alloc_head (bodyOf Try.f56) = some (xc_alloc_Alloc_head.map XN.sm) := by kernel_rfl
theorem xr_alloc_Alloc_head : toR cx_alloc_Alloc_head Try.f56.results.toList = some [.t 4] := by kernel_rfl
theorem xo_alloc_Alloc_head : xc_alloc_Alloc_head.ok xl_alloc_Alloc_head := ⟨⟨rMove_ok, trivial⟩, ⟨⟨rMove_ok, rMove_ok, rNil_ok, rFld_ok _, rLoad1_ok, rMove_ok, rNil_ok, rFld_ok _, rLoad1_ok, rMove_ok, rNil_ok, rFld_ok _, rLoad1_ok, rMove_ok, rNil_ok, rFld_ok _, rLoad1_ok, rAny_ok (eqv_build _ rfl _), rCall_ok ve_word_PutHead, rMove_ok, trivial⟩, trivial⟩⟩
theorem ve_alloc_Alloc_head : EvOk s_alloc_Alloc_head v_alloc_Alloc_head := EvOk.of (evFn_sound (C := cx_alloc_Alloc_head) xt_alloc_Alloc_head xr_alloc_Alloc_head xo_alloc_Alloc_head) q_alloc_Alloc_head

attribute [irreducible] w_alloc_Alloc_head s_alloc_Alloc_head

/-! ### (/layout.Env).Store -/
def w_layout_Env_Store (a0 a1 a2 : Value) (K : Value → Mem → Prop) (σ : Mem) : Prop :=
xC (gBox 9 [a0] []) fun c3 =>
xF (fFld 7) [(locP 3)] fun v6 =>
xO (gLoad 1 false [v6] c3) fun v7 =>
xF (fFld 8) [(locP 3)] fun v8 =>
xO (gLoad 1 false [v8] c3) fun v9 =>
s_mem_Mem_By [v7, v9] (fun v10 σ =>
xF (fFld 7) [(locP 3)] fun v11 =>
xO (gLoad 1 false [v11] c3) fun v12 =>
xF fMove [a1] fun v13 =>
xF fMove [a2] fun v14 =>
s_mem_Mem_Store [v12, v13, v14] (fun v15 σ =>
K (.tuple #[]) σ) σ) σ

def s_layout_Env_Store : Spec := fun args K σ => match args with
  | [a0, a1, a2] => w_layout_Env_Store a0 a1 a2 K σ
  | _ => False

noncomputable def cx_layout_Env_Store : Cx := { P := Try.prog, T := [(67, .write, s_mem_Mem_By), (64, .write, s_mem_Mem_Store)], loc := [(3, 3), (6, 3), (8, 3), (11, 3)], eqt := [], n := 16, keep := [] }
theorem q_layout_Env_Store : FnS cx_layout_Env_Store Try.f55 (bodyOf Try.f55) 3 = s_layout_Env_Store := by
  funext args K σ
  rcases args with _ | ⟨a0, _ | ⟨a1, _ | ⟨a2, _ | ⟨b, r⟩⟩⟩⟩ <;> kernel_rfl
theorem e_layout_Env_Store : Entry Try.prog 55 .write s_layout_Env_Store :=
  entry (C := cx_layout_Env_Store) (TOk.cons e_mem_Mem_By (TOk.cons e_mem_Mem_Store TOk.nil)) mixedOk Try.func55 (by kernel_rfl) (by kernel_rfl) (by kernel_rfl) q_layout_Env_Store

def xl_layout_Env_Store : List (Nat × Nat) := [(3, 3), (6, 3), (8, 3), (11, 3)]
noncomputable def xc_layout_Env_Store : XC XN :=
(.seq none
 (.reg [⟨none, some 3, [(.tmp 0)], ⟨.lb 3 9, rAny xl_layout_Env_Store (.lb 3 9)⟩⟩])
 (.seq none
 (.reg [⟨none, some 6, [(.tmp 3)], ⟨.f (fFld 7), rFld 7⟩⟩,
  ⟨none, some 7, [(.tmp 6)], ⟨.lr 3 1 false, rLr1 3⟩⟩,
  ⟨none, some 8, [(.tmp 3)], ⟨.f (fFld 8), rFld 8⟩⟩,
  ⟨none, some 9, [(.tmp 8)], ⟨.lr 3 1 false, rLr1 3⟩⟩,
  ⟨none, some 10, [(.tmp 7), (.tmp 9)], ⟨.call .write s_mem_Mem_By v_mem_Mem_By, rCall v_mem_Mem_By⟩⟩])
 (.reg [⟨none, some 11, [(.tmp 3)], ⟨.f (fFld 7), rFld 7⟩⟩,
  ⟨none, some 12, [(.tmp 11)], ⟨.lr 3 1 false, rLr1 3⟩⟩,
  ⟨none, some 13, [(.tmp 1)], ⟨.f fMove, rMove⟩⟩,
  ⟨none, some 14, [(.tmp 2)], ⟨.f fMove, rMove⟩⟩,
  ⟨none, some 15, [(.tmp 12), (.tmp 13), (.tmp 14)], ⟨.call .write s_mem_Mem_Store v_mem_Mem_Store, rCall v_mem_Mem_Store⟩⟩])))
noncomputable def v_layout_Env_Store : EvF := evFn 3 xc_layout_Env_Store []
theorem xt_layout_Env_Store : toC cx_layout_Env_Store (bodyOf Try.f55) = some (xc_layout_Env_Store.map XN.sm) := by kernel_rfl
theorem xr_layout_Env_Store : toR cx_layout_Env_Store Try.f55.results.toList = some [] := by kernel_rfl
theorem xo_layout_Env_Store : xc_layout_Env_Store.ok xl_layout_Env_Store := ⟨⟨rAny_ok (trivial), trivial⟩, ⟨⟨rFld_ok _, rLr1_ok _, rFld_ok _, rLr1_ok _, rCall_ok ve_mem_Mem_By, trivial⟩, ⟨rFld_ok _, rLr1_ok _, rMove_ok, rMove_ok, rCall_ok ve_mem_Mem_Store, trivial⟩⟩⟩
theorem ve_layout_Env_Store : EvOk s_layout_Env_Store v_layout_Env_Store := EvOk.of (evFn_sound (C := cx_layout_Env_Store) xt_layout_Env_Store xr_layout_Env_Store xo_layout_Env_Store) q_layout_Env_Store

attribute [irreducible] w_layout_Env_Store s_layout_Env_Store

/-! ### /word.PutHandle -/
def w_word_PutHandle (a0 : Value) (K : Value → Mem → Prop) (σ : Mem) : Prop :=
xC (gBox 2 [a0] []) fun c1 =>
xF fMove [(.int .u64 0)] fun v2 =>
xF (fFld 0) [(locP 1)] fun v3 =>
xO (gLoad 1 false [v3] c1) fun v4 =>
s_word_fit [v4, (.int .i64 65535)] (fun v5 σ =>
xF (fFld 1) [(locP 1)] fun v6 =>
xO (gLoad 1 false [v6] c1) fun v7 =>
s_word_fit [v7, (.int .i64 65535)] (fun v8 σ =>
xF (fBin .shl .no) [v8, (.int .u64 16)] fun v9 =>
xF (fBin .or .no) [v5, v9] fun v10 =>
xF fMove [v10] fun v2 =>
K v2 σ) σ) σ

def s_word_PutHandle : Spec := fun args K σ => match args with
  | [a0] => w_word_PutHandle a0 K σ
  | _ => False

noncomputable def cx_word_PutHandle : Cx := { P := Try.prog, T := [(70, .none, s_word_fit)], loc := [(1, 1), (3, 1), (6, 1)], eqt := [], n := 11, keep := [] }
theorem q_word_PutHandle : FnS cx_word_PutHandle Try.f58 (bodyOf Try.f58) 1 = s_word_PutHandle := by
  funext args K σ
  rcases args with _ | ⟨a0, _ | ⟨b, r⟩⟩ <;> kernel_rfl
theorem e_word_PutHandle : Entry Try.prog 58 .none s_word_PutHandle :=
  entry (C := cx_word_PutHandle) (TOk.cons e_word_fit TOk.nil) mixedOk Try.func58 (by kernel_rfl) (by kernel_rfl) (by kernel_rfl) q_word_PutHandle

def xl_word_PutHandle : List (Nat × Nat) := [(1, 1), (3, 1), (6, 1)]
noncomputable def xc_word_PutHandle : XC XN :=
(.seq none
 (.reg [⟨none, some 1, [(.tmp 0)], ⟨.lb 1 2, rAny xl_word_PutHandle (.lb 1 2)⟩⟩,
  ⟨none, some 2, [(.const (.int .u64 0))], ⟨.f fMove, rMove⟩⟩])
 (.seq none
 (.reg [⟨none, some 3, [(.tmp 1)], ⟨.f (fFld 0), rFld 0⟩⟩,
  ⟨none, some 4, [(.tmp 3)], ⟨.lr 1 1 false, rLr1 1⟩⟩,
  ⟨none, some 5, [(.tmp 4), (.const (.int .i64 65535))], ⟨.call .none s_word_fit v_word_fit, rCall v_word_fit⟩⟩,
  ⟨none, some 6, [(.tmp 1)], ⟨.f (fFld 1), rFld 1⟩⟩,
  ⟨none, some 7, [(.tmp 6)], ⟨.lr 1 1 false, rLr1 1⟩⟩,
  ⟨none, some 8, [(.tmp 7), (.const (.int .i64 65535))], ⟨.call .none s_word_fit v_word_fit, rCall v_word_fit⟩⟩,
  ⟨none, some 9, [(.tmp 8), (.const (.int .u64 16))], ⟨.f (fBin .shl .no), rAny xl_word_PutHandle (.f (fBin .shl .no))⟩⟩,
  ⟨none, some 10, [(.tmp 5), (.tmp 9)], ⟨.f (fBin .or .no), rAny xl_word_PutHandle (.f (fBin .or .no))⟩⟩,
  ⟨none, some 2, [(.tmp 10)], ⟨.f fMove, rMove⟩⟩])
 .ret))
noncomputable def v_word_PutHandle : EvF := evFn 1 xc_word_PutHandle [.t 2]
theorem xt_word_PutHandle : toC cx_word_PutHandle (bodyOf Try.f58) = some (xc_word_PutHandle.map XN.sm) := by kernel_rfl
theorem xr_word_PutHandle : toR cx_word_PutHandle Try.f58.results.toList = some [.t 2] := by kernel_rfl
theorem xo_word_PutHandle : xc_word_PutHandle.ok xl_word_PutHandle := ⟨⟨rAny_ok (trivial), rMove_ok, trivial⟩, ⟨⟨rFld_ok _, rLr1_ok _, rCall_ok ve_word_fit, rFld_ok _, rLr1_ok _, rCall_ok ve_word_fit, rAny_ok (eqv_bin _ _), rAny_ok (eqv_bin _ _), rMove_ok, trivial⟩, trivial⟩⟩
theorem ve_word_PutHandle : EvOk s_word_PutHandle v_word_PutHandle := EvOk.of (evFn_sound (C := cx_word_PutHandle) xt_word_PutHandle xr_word_PutHandle xo_word_PutHandle) q_word_PutHandle

attribute [irreducible] w_word_PutHandle s_word_PutHandle

/-! ### (*/slot.Give).Step -/
def w_slot_Give_Step_j1b (K : Value → Mem → Prop) (σ : Mem) : Prop :=
xF fMove [(.bool false)] fun v4 =>
K v4 σ

def w_slot_Give_Step_j1 (K : Value → Mem → Prop) (ts : List Value) (ls : List (List Value)) (σ : Mem) : Prop := w_slot_Give_Step_j1b K σ

def w_slot_Give_Step (a0 a1 : Value) (K : Value → Mem → Prop) (σ : Mem) : Prop :=
xC (gBox 9 [a1] []) fun c3 =>
xF fMove [(.bool false)] fun v4 =>
xF fMove [a0] fun v8 =>
xF fNil [v8] fun v9 =>
xF (fFld 2) [v9] fun v10 =>
hLoad 1 false [v10] (fun v11 σ =>
s_word_Top [v11] (fun v12 σ =>
xF fMove [v12] fun v7 =>
xF (fExt 0) [v7] fun v13 =>
xF (fExt 1) [v7] fun v14 =>
xF fMove [v13] fun v5 =>
xF fMove [v14] fun v6 =>
xJoin (w_slot_Give_Step_j1 K) fun J1 =>
xF fMove [a0] fun v15 =>
xF fNil [v15] fun v16 =>
xF (fFld 0) [v16] fun v17 =>
hLoad 1 false [v17] (fun v18 σ =>
xF (fBin .eql .no) [v18, (.int .i64 0)] fun v37 =>
xF fMove [v37] fun v36 =>
xIf v36
 (xF fMove [a0] fun v38 =>
xF fMove [a0] fun v39 =>
xO (gLoad 9 true [(locP 3)] c3) fun v40 =>
s_layout_Top [] (fun v41 σ =>
s_layout_Env_Load [v40, v41] (fun v42 σ =>
xF fNil [v38] fun v43 =>
xF (fFld 2) [v43] fun v44 =>
hStore 1 [v44, v42] (fun _v σ =>
xF fNil [v39] fun v45 =>
xF (fFld 0) [v45] fun v46 =>
hStore 1 [v46, (.int .i64 1)] (fun _v σ =>
J1 [] [] σ) σ) σ) σ) σ)
 (xF (fBin .eql .no) [v18, (.int .i64 1)] fun v48 =>
xF fMove [v48] fun v47 =>
xIf v47
 (xO (gLoad 9 true [(locP 3)] c3) fun v49 =>
xF (fFld 0) [(locP 3)] fun v50 =>
xO (gLoad 7 true [v50] c3) fun v51 =>
xF fMove [a0] fun v52 =>
xF fNil [v52] fun v53 =>
xF (fFld 1) [v53] fun v54 =>
hLoad 1 false [v54] (fun v55 σ =>
s_layout_Slot [v51, v55] (fun v56 σ =>
xF (fBin .add .no) [v56, (.int .i64 1)] fun v57 =>
xF fMove [v5] fun v58 =>
s_word_PutTop [v58, (.int .i64 0)] (fun v59 σ =>
s_layout_Env_Store [v49, v57, v59] (fun v60 σ =>
xF fMove [a0] fun v61 =>
xF fNil [v61] fun v62 =>
xF (fFld 0) [v62] fun v63 =>
hStore 1 [v63, (.int .i64 2)] (fun _v σ =>
J1 [] [] σ) σ) σ) σ) σ) σ)
 (xF fMove [a0] fun v19 =>
xF fNil [v19] fun v20 =>
xF (fFld 0) [v20] fun v21 =>
hStore 1 [v21, (.int .i64 0)] (fun _v σ =>
xO (gLoad 9 true [(locP 3)] c3) fun v22 =>
s_layout_Top [] (fun v23 σ =>
xF fMove [a0] fun v24 =>
xF fNil [v24] fun v25 =>
xF (fFld 2) [v25] fun v26 =>
hLoad 1 false [v26] (fun v27 σ =>
xF fMove [a0] fun v28 =>
xF fNil [v28] fun v29 =>
xF (fFld 1) [v29] fun v30 =>
hLoad 1 false [v30] (fun v31 σ =>
xF fMove [v6] fun v32 =>
xF (fBin .add .no) [v32, (.int .i64 1)] fun v33 =>
s_word_PutTop [v31, v33] (fun v34 σ =>
s_layout_Env_Cas [v22, v23, v27, v34] (fun v35 σ =>
xF fMove [v35] fun v4 =>
K v4 σ) σ) σ) σ) σ) σ) σ))) σ) σ) σ

def s_slot_Give_Step : Spec := fun args K σ => match args with
  | [a0, a1] => w_slot_Give_Step a0 a1 K σ
  | _ => False

noncomputable def cx_slot_Give_Step : Cx := { P := Try.prog, T := [(71, .none, s_word_Top), (66, .none, s_layout_Top), (41, .write, s_layout_Env_Load), (37, .none, s_layout_Slot), (65, .none, s_word_PutTop), (55, .write, s_layout_Env_Store), (45, .write, s_layout_Env_Cas)], loc := [(3, 3), (50, 3)], eqt := [], n := 64, keep := [(1000011, [], [])] }
theorem q_slot_Give_Step : FnS cx_slot_Give_Step Try.f59 (bodyOf Try.f59) 2 = s_slot_Give_Step := by
  funext args K σ
  rcases args with _ | ⟨a0, _ | ⟨a1, _ | ⟨b, r⟩⟩⟩ <;> kernel_rfl
theorem e_slot_Give_Step : Entry Try.prog 59 .write s_slot_Give_Step :=
  entry (C := cx_slot_Give_Step) (TOk.cons e_word_Top (TOk.cons e_layout_Top (TOk.cons e_layout_Env_Load (TOk.cons e_layout_Slot (TOk.cons e_word_PutTop (TOk.cons e_layout_Env_Store (TOk.cons e_layout_Env_Cas TOk.nil))))))) mixedOk Try.func59 (by kernel_rfl) (by kernel_rfl) (by kernel_rfl) q_slot_Give_Step

def xl_slot_Give_Step : List (Nat × Nat) := [(3, 3), (50, 3)]
noncomputable def xc_slot_Give_Step : XC XN :=
(.seq none
 (.reg [⟨none, some 3, [(.tmp 1)], ⟨.lb 3 9, rAny xl_slot_Give_Step (.lb 3 9)⟩⟩,
  ⟨none, some 4, [(.const (.bool false))], ⟨.f fMove, rMove⟩⟩])
 (.seq none
 (.reg [⟨none, some 8, [(.tmp 0)], ⟨.f fMove, rMove⟩⟩,
  ⟨none, some 9, [(.tmp 8)], ⟨.f fNil, rNil⟩⟩,
  ⟨none, some 10, [(.tmp 9)], ⟨.f (fFld 2), rFld 2⟩⟩,
  ⟨none, some 11, [(.tmp 10)], ⟨.load 1 false, rLoad1⟩⟩,
  ⟨none, some 12, [(.tmp 11)], ⟨.call .none s_word_Top v_word_Top, rCall v_word_Top⟩⟩,
  ⟨none, some 7, [(.tmp 12)], ⟨.f fMove, rMove⟩⟩,
  ⟨none, some 13, [(.tmp 7)], ⟨.f (fExt 0), rAny xl_slot_Give_Step (.f (fExt 0))⟩⟩,
  ⟨none, some 14, [(.tmp 7)], ⟨.f (fExt 1), rAny xl_slot_Give_Step (.f (fExt 1))⟩⟩,
  ⟨none, some 5, [(.tmp 13)], ⟨.f fMove, rMove⟩⟩,
  ⟨none, some 6, [(.tmp 14)], ⟨.f fMove, rMove⟩⟩])
 (.seq (some ([], []))
 (.seq none
 (.reg [⟨none, some 15, [(.tmp 0)], ⟨.f fMove, rMove⟩⟩,
  ⟨none, some 16, [(.tmp 15)], ⟨.f fNil, rNil⟩⟩,
  ⟨none, some 17, [(.tmp 16)], ⟨.f (fFld 0), rFld 0⟩⟩,
  ⟨none, some 18, [(.tmp 17)], ⟨.load 1 false, rLoad1⟩⟩])
 (.block 0
 (.seq none
 (.reg [⟨none, some 37, [(.tmp 18), (.const (.int .i64 0))], ⟨.f (fBin .eql .no), rEql⟩⟩,
  ⟨none, some 36, [(.tmp 37)], ⟨.f fMove, rMove⟩⟩])
 (.cond (.tmp 36)
 (.reg [⟨none, some 38, [(.tmp 0)], ⟨.f fMove, rMove⟩⟩,
  ⟨none, some 39, [(.tmp 0)], ⟨.f fMove, rMove⟩⟩,
  ⟨none, some 40, [(.tmp 3)], ⟨.lr 3 9 true, rAny xl_slot_Give_Step (.lr 3 9 true)⟩⟩,
  ⟨none, some 41, [], ⟨.call .none s_layout_Top v_layout_Top, rCall v_layout_Top⟩⟩,
  ⟨none, some 42, [(.tmp 40), (.tmp 41)], ⟨.call .write s_layout_Env_Load v_layout_Env_Load, rCall v_layout_Env_Load⟩⟩,
  ⟨none, some 43, [(.tmp 38)], ⟨.f fNil, rNil⟩⟩,
  ⟨none, some 44, [(.tmp 43)], ⟨.f (fFld 2), rFld 2⟩⟩,
  ⟨none, none, [(.tmp 44), (.tmp 42)], ⟨.store 1, rStore1⟩⟩,
  ⟨none, some 45, [(.tmp 39)], ⟨.f fNil, rNil⟩⟩,
  ⟨none, some 46, [(.tmp 45)], ⟨.f (fFld 0), rFld 0⟩⟩,
  ⟨none, none, [(.tmp 46), (.const (.int .i64 1))], ⟨.store 1, rStore1⟩⟩])
 (.seq none
 (.reg [⟨none, some 48, [(.tmp 18), (.const (.int .i64 1))], ⟨.f (fBin .eql .no), rEql⟩⟩,
  ⟨none, some 47, [(.tmp 48)], ⟨.f fMove, rMove⟩⟩])
 (.cond (.tmp 47)
 (.seq none
 (.reg [⟨none, some 49, [(.tmp 3)], ⟨.lr 3 9 true, rAny xl_slot_Give_Step (.lr 3 9 true)⟩⟩,
  ⟨none, some 50, [(.tmp 3)], ⟨.f (fFld 0), rFld 0⟩⟩,
  ⟨none, some 51, [(.tmp 50)], ⟨.lr 3 7 true, rAny xl_slot_Give_Step (.lr 3 7 true)⟩⟩,
  ⟨none, some 52, [(.tmp 0)], ⟨.f fMove, rMove⟩⟩,
  ⟨none, some 53, [(.tmp 52)], ⟨.f fNil, rNil⟩⟩,
  ⟨none, some 54, [(.tmp 53)], ⟨.f (fFld 1), rFld 1⟩⟩,
  ⟨none, some 55, [(.tmp 54)], ⟨.load 1 false, rLoad1⟩⟩,
  ⟨none, some 56, [(.tmp 51), (.tmp 55)], ⟨.call .none s_layout_Slot v_layout_Slot, rCall v_layout_Slot⟩⟩,
  ⟨none, some 57, [(.tmp 56), (.const (.int .i64 1))], ⟨.f (fBin .add .no), rAdd⟩⟩,
  ⟨none, some 58, [(.tmp 5)], ⟨.f fMove, rMove⟩⟩,
  ⟨none, some 59, [(.tmp 58), (.const (.int .i64 0))], ⟨.call .none s_word_PutTop v_word_PutTop, rCall v_word_PutTop⟩⟩,
  ⟨none, some 60, [(.tmp 49), (.tmp 57), (.tmp 59)], ⟨.call .write s_layout_Env_Store v_layout_Env_Store, rCall v_layout_Env_Store⟩⟩])
 (.reg [⟨none, some 61, [(.tmp 0)], ⟨.f fMove, rMove⟩⟩,
  ⟨none, some 62, [(.tmp 61)], ⟨.f fNil, rNil⟩⟩,
  ⟨none, some 63, [(.tmp 62)], ⟨.f (fFld 0), rFld 0⟩⟩,
  ⟨none, none, [(.tmp 63), (.const (.int .i64 2))], ⟨.store 1, rStore1⟩⟩]))
 (.seq none
 (.reg [⟨none, some 19, [(.tmp 0)], ⟨.f fMove, rMove⟩⟩,
  ⟨none, some 20, [(.tmp 19)], ⟨.f fNil, rNil⟩⟩,
  ⟨none, some 21, [(.tmp 20)], ⟨.f (fFld 0), rFld 0⟩⟩,
  ⟨none, none, [(.tmp 21), (.const (.int .i64 0))], ⟨.store 1, rStore1⟩⟩])
 (.seq none
 (.reg [⟨none, some 22, [(.tmp 3)], ⟨.lr 3 9 true, rAny xl_slot_Give_Step (.lr 3 9 true)⟩⟩,
  ⟨none, some 23, [], ⟨.call .none s_layout_Top v_layout_Top, rCall v_layout_Top⟩⟩,
  ⟨none, some 24, [(.tmp 0)], ⟨.f fMove, rMove⟩⟩,
  ⟨none, some 25, [(.tmp 24)], ⟨.f fNil, rNil⟩⟩,
  ⟨none, some 26, [(.tmp 25)], ⟨.f (fFld 2), rFld 2⟩⟩,
  ⟨none, some 27, [(.tmp 26)], ⟨.load 1 false, rLoad1⟩⟩,
  ⟨none, some 28, [(.tmp 0)], ⟨.f fMove, rMove⟩⟩,
  ⟨none, some 29, [(.tmp 28)], ⟨.f fNil, rNil⟩⟩,
  ⟨none, some 30, [(.tmp 29)], ⟨.f (fFld 1), rFld 1⟩⟩,
  ⟨none, some 31, [(.tmp 30)], ⟨.load 1 false, rLoad1⟩⟩,
  ⟨none, some 32, [(.tmp 6)], ⟨.f fMove, rMove⟩⟩,
  ⟨none, some 33, [(.tmp 32), (.const (.int .i64 1))], ⟨.f (fBin .add .no), rAdd⟩⟩,
  ⟨none, some 34, [(.tmp 31), (.tmp 33)], ⟨.call .none s_word_PutTop v_word_PutTop, rCall v_word_PutTop⟩⟩,
  ⟨none, some 35, [(.tmp 22), (.tmp 23), (.tmp 27), (.tmp 34)], ⟨.call .write s_layout_Env_Cas v_layout_Env_Cas, rCall v_layout_Env_Cas⟩⟩,
  ⟨none, some 4, [(.tmp 35)], ⟨.f fMove, rMove⟩⟩])
 .ret))))))))
 (.seq none
 (.reg [⟨none, some 4, [(.const (.bool false))], ⟨.f fMove, rMove⟩⟩])
 .ret))))
noncomputable def v_slot_Give_Step : EvF := evFn 2 xc_slot_Give_Step [.t 4]
theorem xt_slot_Give_Step : toC cx_slot_Give_Step (bodyOf Try.f59) = some (xc_slot_Give_Step.map XN.sm) := by kernel_rfl
theorem xr_slot_Give_Step : toR cx_slot_Give_Step Try.f59.results.toList = some [.t 4] := by kernel_rfl
theorem xo_slot_Give_Step : xc_slot_Give_Step.ok xl_slot_Give_Step := ⟨⟨rAny_ok (trivial), rMove_ok, trivial⟩, ⟨⟨rMove_ok, rNil_ok, rFld_ok _, rLoad1_ok, rCall_ok ve_word_Top, rMove_ok, rAny_ok (eqv_ext _), rAny_ok (eqv_ext _), rMove_ok, rMove_ok, trivial⟩, ⟨⟨⟨rMove_ok, rNil_ok, rFld_ok _, rLoad1_ok, trivial⟩, ⟨⟨rEql_ok, rMove_ok, trivial⟩, ⟨⟨rMove_ok, rMove_ok, rAny_ok (trivial), rCall_ok ve_layout_Top, rCall_ok ve_layout_Env_Load, rNil_ok, rFld_ok _, rStore1_ok, rNil_ok, rFld_ok _, rStore1_ok, trivial⟩, ⟨⟨rEql_ok, rMove_ok, trivial⟩, ⟨⟨⟨rAny_ok (trivial), rFld_ok _, rAny_ok (trivial), rMove_ok, rNil_ok, rFld_ok _, rLoad1_ok, rCall_ok ve_layout_Slot, rAdd_ok, rMove_ok, rCall_ok ve_word_PutTop, rCall_ok ve_layout_Env_Store, trivial⟩, ⟨rMove_ok, rNil_ok, rFld_ok _, rStore1_ok, trivial⟩⟩, ⟨⟨rMove_ok, rNil_ok, rFld_ok _, rStore1_ok, trivial⟩, ⟨⟨rAny_ok (trivial), rCall_ok ve_layout_Top, rMove_ok, rNil_ok, rFld_ok _, rLoad1_ok, rMove_ok, rNil_ok, rFld_ok _, rLoad1_ok, rMove_ok, rAdd_ok, rCall_ok ve_word_PutTop, rCall_ok ve_layout_Env_Cas, rMove_ok, trivial⟩, trivial⟩⟩⟩⟩⟩⟩⟩, ⟨⟨rMove_ok, trivial⟩, trivial⟩⟩⟩⟩
theorem ve_slot_Give_Step : EvOk s_slot_Give_Step v_slot_Give_Step := EvOk.of (evFn_sound (C := cx_slot_Give_Step) xt_slot_Give_Step xr_slot_Give_Step xo_slot_Give_Step) q_slot_Give_Step

attribute [irreducible] w_slot_Give_Step_j1b w_slot_Give_Step_j1 w_slot_Give_Step s_slot_Give_Step

/-! ### (*/alloc.Alloc).Step -/
def w_alloc_Alloc_Step_j1b (K : Value → Mem → Prop) (σ : Mem) : Prop :=
xF fMove [(.bool false)] fun v4 =>
K v4 σ

def w_alloc_Alloc_Step_j1 (K : Value → Mem → Prop) (ts : List Value) (ls : List (List Value)) (σ : Mem) : Prop := w_alloc_Alloc_Step_j1b K σ

def w_alloc_Alloc_Step (a0 a1 : Value) (K : Value → Mem → Prop) (σ : Mem) : Prop :=
xC (gBox 9 [a1] []) fun c3 =>
xF fMove [(.bool false)] fun v4 =>
xJoin (w_alloc_Alloc_Step_j1 K) fun J1 =>
xF fMove [a0] fun v9 =>
xF fNil [v9] fun v10 =>
xF (fFld 2) [v10] fun v11 =>
hLoad 1 false [v11] (fun v12 σ =>
xF (fBin .eql .no) [v12, (.int .i64 0)] fun v20 =>
xF fMove [v20] fun v19 =>
xIf v19
 (xF fMove [a0] fun v21 =>
xF fNil [v21] fun v22 =>
xF (fFld 0) [v22] fun v23 =>
hLoad 1 false [v23] (fun v24 σ =>
s_layout_Class [v24] (fun v25 σ =>
xF (fBin .lss .no) [v25, (.int .i64 0)] fun v26 =>
xIf v26
 (xF fMove [a0] fun v27 =>
xO (gLoad 9 true [(locP 3)] c3) fun v28 =>
s_alloc_Alloc_end [v27, v28, (.int .i64 5)] (fun v29 σ =>
xF fMove [(.bool true)] fun v4 =>
K v4 σ) σ)
 (xF fMove [a0] fun v30 =>
xF fNil [v30] fun v31 =>
xF (fFld 3) [v31] fun v32 =>
xO (gLoad 9 true [(locP 3)] c3) fun v33 =>
s_slot_Take_Step [v32, v33] (fun v34 σ =>
xIf v34
 (xF fMove [a0] fun v36 =>
xF fNil [v36] fun v37 =>
xF (fFld 3) [v37] fun v38 =>
s_slot_Take_Slot [v38] (fun v39 σ =>
xF fMove [v39] fun v35 =>
xF (fExt 0) [v35] fun v40 =>
xF (fExt 1) [v35] fun v41 =>
xF fMove [v40] fun v5 =>
xF fMove [v41] fun v6 =>
xF fMove [a0] fun v42 =>
xF fMove [a0] fun v43 =>
xF fMove [v5] fun v44 =>
xF fNil [v42] fun v45 =>
xF (fFld 8) [v45] fun v46 =>
hStore 1 [v46, v44] (fun _v σ =>
xF fNil [v43] fun v47 =>
xF (fFld 2) [v47] fun v48 =>
hStore 1 [v48, (.int .i64 1)] (fun _v σ =>
xF fMove [v6] fun v49 =>
xF (fUn .not) [v49] fun v50 =>
xIf v50
 (xF fMove [a0] fun v51 =>
xO (gLoad 9 true [(locP 3)] c3) fun v52 =>
s_alloc_Alloc_end [v51, v52, (.int .i64 7)] (fun v53 σ =>
xF fMove [(.bool true)] fun v4 =>
K v4 σ) σ)
 (J1 [] [] σ)) σ) σ) σ)
 (J1 [] [] σ)) σ)) σ) σ)
 (xF (fBin .eql .no) [v12, (.int .i64 1)] fun v55 =>
xF fMove [v55] fun v54 =>
xIf v54
 (xF fMove [a0] fun v56 =>
xF fMove [a0] fun v57 =>
xO (gLoad 9 true [(locP 3)] c3) fun v58 =>
xF (fFld 0) [(locP 3)] fun v59 =>
xO (gLoad 7 true [v59] c3) fun v60 =>
xF fMove [a0] fun v61 =>
xF fNil [v61] fun v62 =>
xF (fFld 8) [v62] fun v63 =>
hLoad 1 false [v63] (fun v64 σ =>
s_layout_Slot [v60, v64] (fun v65 σ =>
s_layout_Env_Load [v58, v65] (fun v66 σ =>
s_word_Slot [v66] (fun v67 σ =>
xF (fFldV 2 1 false) [v67] fun v68 =>
xF fNil [v56] fun v69 =>
xF (fFld 9) [v69] fun v70 =>
hStore 1 [v70, v68] (fun _v σ =>
xF fNil [v57] fun v71 =>
xF (fFld 2) [v71] fun v72 =>
hStore 1 [v72, (.int .i64 2)] (fun _v σ =>
xF fMove [a0] fun v73 =>
xF fMove [a0] fun v74 =>
xF fNil [v74] fun v75 =>
xF (fFld 0) [v75] fun v76 =>
hLoad 1 false [v76] (fun v77 σ =>
s_layout_Class [v77] (fun v78 σ =>
s_place_New [v78] (fun v79 σ =>
xF fNil [v73] fun v80 =>
xF (fFld 10) [v80] fun v81 =>
hStore 1 [v81, v79] (fun _v σ =>
J1 [] [] σ) σ) σ) σ) σ) σ) σ) σ) σ) σ) σ)
 (xF (fBin .eql .no) [v12, (.int .i64 2)] fun v83 =>
xF fMove [v83] fun v82 =>
xIf v82
 (xF fMove [a0] fun v84 =>
xF fNil [v84] fun v85 =>
xF (fFld 10) [v85] fun v86 =>
hLoad 1 false [v86] (fun v87 σ =>
xO (gLoad 9 true [(locP 3)] c3) fun v88 =>
s_place_Place_Step [v87, v88] (fun v89 σ =>
xIf v89
 (xF fMove [a0] fun v91 =>
xF fNil [v91] fun v92 =>
xF (fFld 10) [v92] fun v93 =>
hLoad 1 false [v93] (fun v94 σ =>
s_place_Place_Spot [v94] (fun v95 σ =>
xF fMove [v95] fun v90 =>
xF (fExt 0) [v90] fun v96 =>
xF (fExt 1) [v90] fun v97 =>
xC (gStore 2 [(locP 7), v96] [(.int .i64 0), (.int .i64 0)]) fun c7 =>
xF fMove [v97] fun v8 =>
xF fMove [a0] fun v98 =>
xF fMove [a0] fun v99 =>
xO (gLoad 2 true [(locP 7)] c7) fun v100 =>
xF fNil [v98] fun v101 =>
xF (fFld 11) [v101] fun v102 =>
hStore 2 [v102, v100] (fun _v σ =>
xF fNil [v99] fun v103 =>
xF (fFld 2) [v103] fun v104 =>
hStore 1 [v104, (.int .i64 3)] (fun _v σ =>
xF fMove [v8] fun v105 =>
xF (fUn .not) [v105] fun v106 =>
xIf v106
 (xF fMove [a0] fun v107 =>
xO (gLoad 9 true [(locP 3)] c3) fun v108 =>
s_alloc_Alloc_end [v107, v108, (.int .i64 6)] (fun v109 σ =>
xF fMove [a0] fun v110 =>
xF fMove [a0] fun v111 =>
xF fMove [a0] fun v112 =>
xF fNil [v112] fun v113 =>
xF (fFld 8) [v113] fun v114 =>
hLoad 1 false [v114] (fun v115 σ =>
s_slot_NewGive [v115] (fun v116 σ =>
xF fNil [v110] fun v117 =>
xF (fFld 13) [v117] fun v118 =>
hStore 1 [v118, v116] (fun _v σ =>
xF fNil [v111] fun v119 =>
xF (fFld 2) [v119] fun v120 =>
hStore 1 [v120, (.int .i64 7)] (fun _v σ =>
J1 [] [] σ) σ) σ) σ) σ) σ)
 (J1 [] [] σ)) σ) σ) σ) σ)
 (J1 [] [] σ)) σ) σ)
 (xF (fBin .eql .no) [v12, (.int .i64 3)] fun v122 =>
xF fMove [v122] fun v121 =>
xIf v121
 (xO (gLoad 9 true [(locP 3)] c3) fun v123 =>
xF (fFld 0) [(locP 3)] fun v124 =>
xO (gLoad 7 true [v124] c3) fun v125 =>
xF fMove [a0] fun v126 =>
xF fNil [v126] fun v127 =>
xF (fFld 11) [v127] fun v128 =>
xF (fFld 1) [v128] fun v129 =>
hLoad 1 false [v129] (fun v130 σ =>
s_layout_Chunk [v125, v130] (fun v131 σ =>
xF (fBin .add .no) [v131, (.int .i64 1)] fun v132 =>
xF fMove [a0] fun v133 =>
xF fNil [v133] fun v134 =>
xF (fFld 0) [v134] fun v135 =>
hLoad 1 false [v135] (fun v136 σ =>
s_layout_Class [v136] (fun v137 σ =>
s_layout_Room [v137] (fun v138 σ =>
s_layout_Env_Add [v123, v132, v138] (fun v139 σ =>
xF fMove [a0] fun v140 =>
xF fNil [v140] fun v141 =>
xF (fFld 2) [v141] fun v142 =>
hStore 1 [v142, (.int .i64 4)] (fun _v σ =>
J1 [] [] σ) σ) σ) σ) σ) σ) σ) σ)
 (xF (fBin .eql .no) [v12, (.int .i64 4)] fun v144 =>
xF fMove [v144] fun v143 =>
xIf v143
 (xO (gLoad 9 true [(locP 3)] c3) fun v145 =>
xF fMove [a0] fun v146 =>
xF fNil [v146] fun v147 =>
xF (fFld 11) [v147] fun v148 =>
xF (fFld 0) [v148] fun v149 =>
hLoad 1 false [v149] (fun v150 σ =>
xF fMove [a0] fun v151 =>
s_alloc_Alloc_head [v151, (.int .i64 1)] (fun v152 σ =>
s_layout_Env_Store [v145, v150, v152] (fun v153 σ =>
xF fMove [a0] fun v154 =>
xF fNil [v154] fun v155 =>
xF (fFld 2) [v155] fun v156 =>
hStore 1 [v156, (.int .i64 5)] (fun _v σ =>
J1 [] [] σ) σ) σ) σ) σ)
 (xF (fBin .eql .no) [v12, (.int .i64 5)] fun v158 =>
xF fMove [v158] fun v157 =>
xIf v157
 (xO (gLoad 9 true [(locP 3)] c3) fun v159 =>
xF (fFld 0) [(locP 3)] fun v160 =>
xO (gLoad 7 true [v160] c3) fun v161 =>
xF fMove [a0] fun v162 =>
xF fNil [v162] fun v163 =>
xF (fFld 8) [v163] fun v164 =>
hLoad 1 false [v164] (fun v165 σ =>
s_layout_Slot [v161, v165] (fun v166 σ =>
xF fMove [a0] fun v167 =>
xF fNil [v167] fun v168 =>
xF (fFld 11) [v168] fun v169 =>
xF (fFld 0) [v169] fun v170 =>
hLoad 1 false [v170] (fun v171 σ =>
xF fMove [a0] fun v172 =>
xF fNil [v172] fun v173 =>
xF (fFld 9) [v173] fun v174 =>
hLoad 1 false [v174] (fun v175 σ =>
xF (fBuild [(0, 1), (1, 1), (2, 1), (3, 1)] [(.int .i64 0), (.int .i64 0), (.int .i64 0), (.int .i64 0)] [0, 1, 2]) [(.int .i64 1), v171, v175] fun v176 =>
s_word_PutSlot [v176] (fun v177 σ =>
s_layout_Env_Store [v159, v166, v177] (fun v178 σ =>
xF fMove [a0] fun v179 =>
xF fMove [a0] fun v180 =>
xF fNil [v180] fun v181 =>
xF (fFld 8) [v181] fun v182 =>
hLoad 1 false [v182] (fun v183 σ =>
xF fMove [a0] fun v184 =>
xF fNil [v184] fun v185 =>
xF (fFld 9) [v185] fun v186 =>
hLoad 1 false [v186] (fun v187 σ =>
xF (fBuild [(0, 1), (1, 1)] [(.int .i64 0), (.int .i64 0)] [0, 1]) [v183, v187] fun v188 =>
s_word_PutHandle [v188] (fun v189 σ =>
xO (gLoad 9 true [(locP 3)] c3) fun v190 =>
s_layout_Env_Now [v190] (fun v191 σ =>
xF (fBuild [(0, 1), (1, 1), (2, 1), (3, 1)] [(.int .i64 0), (.int .u64 0), (.int .i64 0), (.int .i64 0)] [1, 3]) [v189, v191] fun v192 =>
xF fNil [v179] fun v193 =>
xF (fFld 14) [v193] fun v194 =>
hStore 4 [v194, v192] (fun _v σ =>
xF fMove [a0] fun v195 =>
xF fNil [v195] fun v196 =>
xF (fFld 2) [v196] fun v197 =>
hStore 1 [v197, (.int .i64 6)] (fun _v σ =>
J1 [] [] σ) σ) σ) σ) σ) σ) σ) σ) σ) σ) σ) σ) σ)
 (xF (fBin .eql .no) [v12, (.int .i64 6)] fun v199 =>
xF fMove [v199] fun v198 =>
xIf v198
 (xO (gLoad 9 true [(locP 3)] c3) fun v200 =>
xF fMove [a0] fun v201 =>
xF fNil [v201] fun v202 =>
xF (fFld 11) [v202] fun v203 =>
xF (fFld 0) [v203] fun v204 =>
hLoad 1 false [v204] (fun v205 σ =>
xF fMove [a0] fun v206 =>
s_alloc_Alloc_head [v206, (.int .i64 2)] (fun v207 σ =>
s_layout_Env_Store [v200, v205, v207] (fun v208 σ =>
xF fMove [(.bool true)] fun v4 =>
K v4 σ) σ) σ) σ)
 (xF fMove [a0] fun v13 =>
xF fNil [v13] fun v14 =>
xF (fFld 13) [v14] fun v15 =>
hLoad 1 false [v15] (fun v16 σ =>
xO (gLoad 9 true [(locP 3)] c3) fun v17 =>
s_slot_Give_Step [v16, v17] (fun v18 σ =>
xF fMove [v18] fun v4 =>
K v4 σ) σ) σ)))))))) σ

def s_alloc_Alloc_Step : Spec := fun args K σ => match args with
  | [a0, a1] => w_alloc_Alloc_Step a0 a1 K σ
  | _ => False

noncomputable def cx_alloc_Alloc_Step : Cx := { P := Try.prog, T := [(49, .write, s_layout_Class), (50, .write, s_alloc_Alloc_end), (51, .write, s_slot_Take_Step), (52, .read, s_slot_Take_Slot), (37, .none, s_layout_Slot), (41, .write, s_layout_Env_Load), (36, .none, s_word_Slot), (21, .write, s_place_New), (22, .write, s_place_Place_Step), (27, .read, s_place_Place_Spot), (53, .write, s_slot_NewGive), (20, .none, s_layout_Chunk), (42, .none, s_layout_Room), (54, .write, s_layout_Env_Add), (56, .read, s_alloc_Alloc_head), (55, .write, s_layout_Env_Store), (57, .none, s_word_PutSlot), (58, .none, s_word_PutHandle), (29, .read, s_layout_Env_Now), (59, .write, s_slot_Give_Step)], loc := [(3, 3), (7, 7), (59, 3), (124, 3), (160, 3)], eqt := [], n := 209, keep := [(1000037, [], [])] }
theorem q_alloc_Alloc_Step : FnS cx_alloc_Alloc_Step Try.f35 (bodyOf Try.f35) 2 = s_alloc_Alloc_Step := by
  funext args K σ
  rcases args with _ | ⟨a0, _ | ⟨a1, _ | ⟨b, r⟩⟩⟩ <;> kernel_rfl
theorem e_alloc_Alloc_Step : Entry Try.prog 35 .write s_alloc_Alloc_Step :=
  entry (C := cx_alloc_Alloc_Step) (TOk.cons e_layout_Class (TOk.cons e_alloc_Alloc_end (TOk.cons e_slot_Take_Step (TOk.cons e_slot_Take_Slot (TOk.cons e_layout_Slot (TOk.cons e_layout_Env_Load (TOk.cons e_word_Slot (TOk.cons e_place_New (TOk.cons e_place_Place_Step (TOk.cons e_place_Place_Spot (TOk.cons e_slot_NewGive (TOk.cons e_layout_Chunk (TOk.cons e_layout_Room (TOk.cons e_layout_Env_Add (TOk.cons e_alloc_Alloc_head (TOk.cons e_layout_Env_Store (TOk.cons e_word_PutSlot (TOk.cons e_word_PutHandle (TOk.cons e_layout_Env_Now (TOk.cons e_slot_Give_Step TOk.nil)))))))))))))))))))) mixedOk Try.func35 (by kernel_rfl) (by kernel_rfl) (by kernel_rfl) q_alloc_Alloc_Step

def xl_alloc_Alloc_Step : List (Nat × Nat) := [(3, 3), (7, 7), (59, 3), (124, 3), (160, 3)]
noncomputable def xc_alloc_Alloc_Step : XC XN :=
(.seq none
 (.reg [⟨none, some 3, [(.tmp 1)], ⟨.lb 3 9, rAny xl_alloc_Alloc_Step (.lb 3 9)⟩⟩,
  ⟨none, some 4, [(.const (.bool false))], ⟨.f fMove, rMove⟩⟩])
 (.seq (some ([], []))
 (.seq none
 (.reg [⟨none, some 9, [(.tmp 0)], ⟨.f fMove, rMove⟩⟩,
  ⟨none, some 10, [(.tmp 9)], ⟨.f fNil, rNil⟩⟩,
  ⟨none, some 11, [(.tmp 10)], ⟨.f (fFld 2), rFld 2⟩⟩,
  ⟨none, some 12, [(.tmp 11)], ⟨.load 1 false, rLoad1⟩⟩])
 (.block 0
 (.seq none
 (.reg [⟨none, some 20, [(.tmp 12), (.const (.int .i64 0))], ⟨.f (fBin .eql .no), rEql⟩⟩,
  ⟨none, some 19, [(.tmp 20)], ⟨.f fMove, rMove⟩⟩])
 (.cond (.tmp 19)
 (.seq none
 (.seq none
 (.reg [⟨none, some 21, [(.tmp 0)], ⟨.f fMove, rMove⟩⟩,
  ⟨none, some 22, [(.tmp 21)], ⟨.f fNil, rNil⟩⟩,
  ⟨none, some 23, [(.tmp 22)], ⟨.f (fFld 0), rFld 0⟩⟩,
  ⟨none, some 24, [(.tmp 23)], ⟨.load 1 false, rLoad1⟩⟩,
  ⟨none, some 25, [(.tmp 24)], ⟨.call .write s_layout_Class v_layout_Class, rCall v_layout_Class⟩⟩,
  ⟨none, some 26, [(.tmp 25), (.const (.int .i64 0))], ⟨.f (fBin .lss .no), rLss⟩⟩])
 (.cond (.tmp 26)
 (.seq none
 (.reg [⟨none, some 27, [(.tmp 0)], ⟨.f fMove, rMove⟩⟩,
  ⟨none, some 28, [(.tmp 3)], ⟨.lr 3 9 true, rAny xl_alloc_Alloc_Step (.lr 3 9 true)⟩⟩,
  ⟨none, some 29, [(.tmp 27), (.tmp 28), (.const (.int .i64 5))], ⟨.call .write s_alloc_Alloc_end v_alloc_Alloc_end, rCall v_alloc_Alloc_end⟩⟩])
 (.seq none
 (.reg [⟨none, some 4, [(.const (.bool true))], ⟨.f fMove, rMove⟩⟩])
 .ret))
 .skip))
 (.seq none
 (.reg [⟨none, some 30, [(.tmp 0)], ⟨.f fMove, rMove⟩⟩,
  ⟨none, some 31, [(.tmp 30)], ⟨.f fNil, rNil⟩⟩,
  ⟨none, some 32, [(.tmp 31)], ⟨.f (fFld 3), rFld 3⟩⟩,
  ⟨none, some 33, [(.tmp 3)], ⟨.lr 3 9 true, rAny xl_alloc_Alloc_Step (.lr 3 9 true)⟩⟩,
  ⟨none, some 34, [(.tmp 32), (.tmp 33)], ⟨.call .write s_slot_Take_Step v_slot_Take_Step, rCall v_slot_Take_Step⟩⟩])
 (.cond (.tmp 34)
 (.seq none
 (.reg [⟨none, some 36, [(.tmp 0)], ⟨.f fMove, rMove⟩⟩,
  ⟨none, some 37, [(.tmp 36)], ⟨.f fNil, rNil⟩⟩,
  ⟨none, some 38, [(.tmp 37)], ⟨.f (fFld 3), rFld 3⟩⟩,
  ⟨none, some 39, [(.tmp 38)], ⟨.call .read s_slot_Take_Slot v_slot_Take_Slot, rCall v_slot_Take_Slot⟩⟩,
  ⟨none, some 35, [(.tmp 39)], ⟨.f fMove, rMove⟩⟩,
  ⟨none, some 40, [(.tmp 35)], ⟨.f (fExt 0), rAny xl_alloc_Alloc_Step (.f (fExt 0))⟩⟩,
  ⟨none, some 41, [(.tmp 35)], ⟨.f (fExt 1), rAny xl_alloc_Alloc_Step (.f (fExt 1))⟩⟩,
  ⟨none, some 5, [(.tmp 40)], ⟨.f fMove, rMove⟩⟩,
  ⟨none, some 6, [(.tmp 41)], ⟨.f fMove, rMove⟩⟩])
 (.seq none
 (.reg [⟨none, some 42, [(.tmp 0)], ⟨.f fMove, rMove⟩⟩,
  ⟨none, some 43, [(.tmp 0)], ⟨.f fMove, rMove⟩⟩,
  ⟨none, some 44, [(.tmp 5)], ⟨.f fMove, rMove⟩⟩,
  ⟨none, some 45, [(.tmp 42)], ⟨.f fNil, rNil⟩⟩,
  ⟨none, some 46, [(.tmp 45)], ⟨.f (fFld 8), rFld 8⟩⟩,
  ⟨none, none, [(.tmp 46), (.tmp 44)], ⟨.store 1, rStore1⟩⟩,
  ⟨none, some 47, [(.tmp 43)], ⟨.f fNil, rNil⟩⟩,
  ⟨none, some 48, [(.tmp 47)], ⟨.f (fFld 2), rFld 2⟩⟩,
  ⟨none, none, [(.tmp 48), (.const (.int .i64 1))], ⟨.store 1, rStore1⟩⟩])
 (.seq none
 (.reg [⟨none, some 49, [(.tmp 6)], ⟨.f fMove, rMove⟩⟩,
  ⟨none, some 50, [(.tmp 49)], ⟨.f (fUn .not), rNot⟩⟩])
 (.cond (.tmp 50)
 (.seq none
 (.reg [⟨none, some 51, [(.tmp 0)], ⟨.f fMove, rMove⟩⟩,
  ⟨none, some 52, [(.tmp 3)], ⟨.lr 3 9 true, rAny xl_alloc_Alloc_Step (.lr 3 9 true)⟩⟩,
  ⟨none, some 53, [(.tmp 51), (.tmp 52), (.const (.int .i64 7))], ⟨.call .write s_alloc_Alloc_end v_alloc_Alloc_end, rCall v_alloc_Alloc_end⟩⟩])
 (.seq none
 (.reg [⟨none, some 4, [(.const (.bool true))], ⟨.f fMove, rMove⟩⟩])
 .ret))
 .skip))))
 .skip)))
 (.seq none
 (.reg [⟨none, some 55, [(.tmp 12), (.const (.int .i64 1))], ⟨.f (fBin .eql .no), rEql⟩⟩,
  ⟨none, some 54, [(.tmp 55)], ⟨.f fMove, rMove⟩⟩])
 (.cond (.tmp 54)
 (.seq none
 (.reg [⟨none, some 56, [(.tmp 0)], ⟨.f fMove, rMove⟩⟩,
  ⟨none, some 57, [(.tmp 0)], ⟨.f fMove, rMove⟩⟩,
  ⟨none, some 58, [(.tmp 3)], ⟨.lr 3 9 true, rAny xl_alloc_Alloc_Step (.lr 3 9 true)⟩⟩,
  ⟨none, some 59, [(.tmp 3)], ⟨.f (fFld 0), rFld 0⟩⟩,
  ⟨none, some 60, [(.tmp 59)], ⟨.lr 3 7 true, rAny xl_alloc_Alloc_Step (.lr 3 7 true)⟩⟩,
  ⟨none, some 61, [(.tmp 0)], ⟨.f fMove, rMove⟩⟩,
  ⟨none, some 62, [(.tmp 61)], ⟨.f fNil, rNil⟩⟩,
  ⟨none, some 63, [(.tmp 62)], ⟨.f (fFld 8), rFld 8⟩⟩,
  ⟨none, some 64, [(.tmp 63)], ⟨.load 1 false, rLoad1⟩⟩,
  ⟨none, some 65, [(.tmp 60), (.tmp 64)], ⟨.call .none s_layout_Slot v_layout_Slot, rCall v_layout_Slot⟩⟩,
  ⟨none, some 66, [(.tmp 58), (.tmp 65)], ⟨.call .write s_layout_Env_Load v_layout_Env_Load, rCall v_layout_Env_Load⟩⟩,
  ⟨none, some 67, [(.tmp 66)], ⟨.call .none s_word_Slot v_word_Slot, rCall v_word_Slot⟩⟩,
  ⟨none, some 68, [(.tmp 67)], ⟨.f (fFldV 2 1 false), rAny xl_alloc_Alloc_Step (.f (fFldV 2 1 false))⟩⟩,
  ⟨none, some 69, [(.tmp 56)], ⟨.f fNil, rNil⟩⟩,
  ⟨none, some 70, [(.tmp 69)], ⟨.f (fFld 9), rFld 9⟩⟩,
  ⟨none, none, [(.tmp 70), (.tmp 68)], ⟨.store 1, rStore1⟩⟩,
  ⟨none, some 71, [(.tmp 57)], ⟨.f fNil, rNil⟩⟩,
  ⟨none, some 72, [(.tmp 71)], ⟨.f (fFld 2), rFld 2⟩⟩,
  ⟨none, none, [(.tmp 72), (.const (.int .i64 2))], ⟨.store 1, rStore1⟩⟩])
 (.reg [⟨none, some 73, [(.tmp 0)], ⟨.f fMove, rMove⟩⟩,
  ⟨none, some 74, [(.tmp 0)], ⟨.f fMove, rMove⟩⟩,
  ⟨none, some 75, [(.tmp 74)], ⟨.f fNil, rNil⟩⟩,
  ⟨none, some 76, [(.tmp 75)], ⟨.f (fFld 0), rFld 0⟩⟩,
  ⟨none, some 77, [(.tmp 76)], ⟨.load 1 false, rLoad1⟩⟩,
  ⟨none, some 78, [(.tmp 77)], ⟨.call .write s_layout_Class v_layout_Class, rCall v_layout_Class⟩⟩,
  ⟨none, some 79, [(.tmp 78)], ⟨.call .write s_place_New v_place_New, rCall v_place_New⟩⟩,
  ⟨none, some 80, [(.tmp 73)], ⟨.f fNil, rNil⟩⟩,
  ⟨none, some 81, [(.tmp 80)], ⟨.f (fFld 10), rFld 10⟩⟩,
  ⟨none, none, [(.tmp 81), (.tmp 79)], ⟨.store 1, rStore1⟩⟩]))
 (.seq none
 (.reg [⟨none, some 83, [(.tmp 12), (.const (.int .i64 2))], ⟨.f (fBin .eql .no), rEql⟩⟩,
  ⟨none, some 82, [(.tmp 83)], ⟨.f fMove, rMove⟩⟩])
 (.cond (.tmp 82)
 (.seq none
 (.reg [⟨none, some 84, [(.tmp 0)], ⟨.f fMove, rMove⟩⟩,
  ⟨none, some 85, [(.tmp 84)], ⟨.f fNil, rNil⟩⟩,
  ⟨none, some 86, [(.tmp 85)], ⟨.f (fFld 10), rFld 10⟩⟩,
  ⟨none, some 87, [(.tmp 86)], ⟨.load 1 false, rLoad1⟩⟩,
  ⟨none, some 88, [(.tmp 3)], ⟨.lr 3 9 true, rAny xl_alloc_Alloc_Step (.lr 3 9 true)⟩⟩,
  ⟨none, some 89, [(.tmp 87), (.tmp 88)], ⟨.call .write s_place_Place_Step v_place_Place_Step, rCall v_place_Place_Step⟩⟩])
 (.cond (.tmp 89)
 (.seq none
 (.reg [⟨none, some 91, [(.tmp 0)], ⟨.f fMove, rMove⟩⟩,
  ⟨none, some 92, [(.tmp 91)], ⟨.f fNil, rNil⟩⟩,
  ⟨none, some 93, [(.tmp 92)], ⟨.f (fFld 10), rFld 10⟩⟩,
  ⟨none, some 94, [(.tmp 93)], ⟨.load 1 false, rLoad1⟩⟩,
  ⟨none, some 95, [(.tmp 94)], ⟨.call .read s_place_Place_Spot v_place_Place_Spot, rCall v_place_Place_Spot⟩⟩,
  ⟨none, some 90, [(.tmp 95)], ⟨.f fMove, rMove⟩⟩,
  ⟨none, some 96, [(.tmp 90)], ⟨.f (fExt 0), rAny xl_alloc_Alloc_Step (.f (fExt 0))⟩⟩,
  ⟨none, some 97, [(.tmp 90)], ⟨.f (fExt 1), rAny xl_alloc_Alloc_Step (.f (fExt 1))⟩⟩,
  ⟨none, some 7, [], ⟨.la 7 [(.int .i64 0), (.int .i64 0)], rAny xl_alloc_Alloc_Step (.la 7 [(.int .i64 0), (.int .i64 0)])⟩⟩,
  ⟨none, none, [(.tmp 7), (.tmp 96)], ⟨.ls 7 2, rAny xl_alloc_Alloc_Step (.ls 7 2)⟩⟩,
  ⟨none, some 8, [(.tmp 97)], ⟨.f fMove, rMove⟩⟩])
 (.seq none
 (.reg [⟨none, some 98, [(.tmp 0)], ⟨.f fMove, rMove⟩⟩,
  ⟨none, some 99, [(.tmp 0)], ⟨.f fMove, rMove⟩⟩,
  ⟨none, some 100, [(.tmp 7)], ⟨.lr 7 2 true, rAny xl_alloc_Alloc_Step (.lr 7 2 true)⟩⟩,
  ⟨none, some 101, [(.tmp 98)], ⟨.f fNil, rNil⟩⟩,
  ⟨none, some 102, [(.tmp 101)], ⟨.f (fFld 11), rFld 11⟩⟩,
  ⟨none, none, [(.tmp 102), (.tmp 100)], ⟨.store 2, rAny xl_alloc_Alloc_Step (.store 2)⟩⟩,
  ⟨none, some 103, [(.tmp 99)], ⟨.f fNil, rNil⟩⟩,
  ⟨none, some 104, [(.tmp 103)], ⟨.f (fFld 2), rFld 2⟩⟩,
  ⟨none, none, [(.tmp 104), (.const (.int .i64 3))], ⟨.store 1, rStore1⟩⟩])
 (.seq none
 (.reg [⟨none, some 105, [(.tmp 8)], ⟨.f fMove, rMove⟩⟩,
  ⟨none, some 106, [(.tmp 105)], ⟨.f (fUn .not), rNot⟩⟩])
 (.cond (.tmp 106)
 (.seq none
 (.reg [⟨none, some 107, [(.tmp 0)], ⟨.f fMove, rMove⟩⟩,
  ⟨none, some 108, [(.tmp 3)], ⟨.lr 3 9 true, rAny xl_alloc_Alloc_Step (.lr 3 9 true)⟩⟩,
  ⟨none, some 109, [(.tmp 107), (.tmp 108), (.const (.int .i64 6))], ⟨.call .write s_alloc_Alloc_end v_alloc_Alloc_end, rCall v_alloc_Alloc_end⟩⟩])
 (.reg [⟨none, some 110, [(.tmp 0)], ⟨.f fMove, rMove⟩⟩,
  ⟨none, some 111, [(.tmp 0)], ⟨.f fMove, rMove⟩⟩,
  ⟨none, some 112, [(.tmp 0)], ⟨.f fMove, rMove⟩⟩,
  ⟨none, some 113, [(.tmp 112)], ⟨.f fNil, rNil⟩⟩,
  ⟨none, some 114, [(.tmp 113)], ⟨.f (fFld 8), rFld 8⟩⟩,
  ⟨none, some 115, [(.tmp 114)], ⟨.load 1 false, rLoad1⟩⟩,
  ⟨none, some 116, [(.tmp 115)], ⟨.call .write s_slot_NewGive v_slot_NewGive, rCall v_slot_NewGive⟩⟩,
  ⟨none, some 117, [(.tmp 110)], ⟨.f fNil, rNil⟩⟩,
  ⟨none, some 118, [(.tmp 117)], ⟨.f (fFld 13), rFld 13⟩⟩,
  ⟨none, none, [(.tmp 118), (.tmp 116)], ⟨.store 1, rStore1⟩⟩,
  ⟨none, some 119, [(.tmp 111)], ⟨.f fNil, rNil⟩⟩,
  ⟨none, some 120, [(.tmp 119)], ⟨.f (fFld 2), rFld 2⟩⟩,
  ⟨none, none, [(.tmp 120), (.const (.int .i64 7))], ⟨.store 1, rStore1⟩⟩]))
 .skip))))
 .skip))
 (.seq none
 (.reg [⟨none, some 122, [(.tmp 12), (.const (.int .i64 3))], ⟨.f (fBin .eql .no), rEql⟩⟩,
  ⟨none, some 121, [(.tmp 122)], ⟨.f fMove, rMove⟩⟩])
 (.cond (.tmp 121)
 (.seq none
 (.reg [⟨none, some 123, [(.tmp 3)], ⟨.lr 3 9 true, rAny xl_alloc_Alloc_Step (.lr 3 9 true)⟩⟩,
  ⟨none, some 124, [(.tmp 3)], ⟨.f (fFld 0), rFld 0⟩⟩,
  ⟨none, some 125, [(.tmp 124)], ⟨.lr 3 7 true, rAny xl_alloc_Alloc_Step (.lr 3 7 true)⟩⟩,
  ⟨none, some 126, [(.tmp 0)], ⟨.f fMove, rMove⟩⟩,
  ⟨none, some 127, [(.tmp 126)], ⟨.f fNil, rNil⟩⟩,
  ⟨none, some 128, [(.tmp 127)], ⟨.f (fFld 11), rFld 11⟩⟩,
  ⟨none, some 129, [(.tmp 128)], ⟨.f (fFld 1), rFld 1⟩⟩,
  ⟨none, some 130, [(.tmp 129)], ⟨.load 1 false, rLoad1⟩⟩,
  ⟨none, some 131, [(.tmp 125), (.tmp 130)], ⟨.call .none s_layout_Chunk v_layout_Chunk, rCall v_layout_Chunk⟩⟩,
  ⟨none, some 132, [(.tmp 131), (.const (.int .i64 1))], ⟨.f (fBin .add .no), rAdd⟩⟩,
  ⟨none, some 133, [(.tmp 0)], ⟨.f fMove, rMove⟩⟩,
  ⟨none, some 134, [(.tmp 133)], ⟨.f fNil, rNil⟩⟩,
  ⟨none, some 135, [(.tmp 134)], ⟨.f (fFld 0), rFld 0⟩⟩,
  ⟨none, some 136, [(.tmp 135)], ⟨.load 1 false, rLoad1⟩⟩,
  ⟨none, some 137, [(.tmp 136)], ⟨.call .write s_layout_Class v_layout_Class, rCall v_layout_Class⟩⟩,
  ⟨none, some 138, [(.tmp 137)], ⟨.call .none s_layout_Room v_layout_Room, rCall v_layout_Room⟩⟩,
  ⟨none, some 139, [(.tmp 123), (.tmp 132), (.tmp 138)], ⟨.call .write s_layout_Env_Add v_layout_Env_Add, rCall v_layout_Env_Add⟩⟩])
 (.reg [⟨none, some 140, [(.tmp 0)], ⟨.f fMove, rMove⟩⟩,
  ⟨none, some 141, [(.tmp 140)], ⟨.f fNil, rNil⟩⟩,
  ⟨none, some 142, [(.tmp 141)], ⟨.f (fFld 2), rFld 2⟩⟩,
  ⟨none, none, [(.tmp 142), (.const (.int .i64 4))], ⟨.store 1, rStore1⟩⟩]))
 (.seq none
 (.reg [⟨none, some 144, [(.tmp 12), (.const (.int .i64 4))], ⟨.f (fBin .eql .no), rEql⟩⟩,
  ⟨none, some 143, [(.tmp 144)], ⟨.f fMove, rMove⟩⟩])
 (.cond (.tmp 143)
 (.seq none
 (.reg [⟨none, some 145, [(.tmp 3)], ⟨.lr 3 9 true, rAny xl_alloc_Alloc_Step (.lr 3 9 true)⟩⟩,
  ⟨none, some 146, [(.tmp 0)], ⟨.f fMove, rMove⟩⟩,
  ⟨none, some 147, [(.tmp 146)], ⟨.f fNil, rNil⟩⟩,
  ⟨none, some 148, [(.tmp 147)], ⟨.f (fFld 11), rFld 11⟩⟩,
  ⟨none, some 149, [(.tmp 148)], ⟨.f (fFld 0), rFld 0⟩⟩,
  ⟨none, some 150, [(.tmp 149)], ⟨.load 1 false, rLoad1⟩⟩,
  ⟨none, some 151, [(.tmp 0)], ⟨.f fMove, rMove⟩⟩,
  ⟨none, some 152, [(.tmp 151), (.const (.int .i64 1))], ⟨.call .read s_alloc_Alloc_head v_alloc_Alloc_head, rCall v_alloc_Alloc_head⟩⟩,
  ⟨none, some 153, [(.tmp 145), (.tmp 150), (.tmp 152)], ⟨.call .write s_layout_Env_Store v_layout_Env_Store, rCall v_layout_Env_Store⟩⟩])
 (.reg [⟨none, some 154, [(.tmp 0)], ⟨.f fMove, rMove⟩⟩,
  ⟨none, some 155, [(.tmp 154)], ⟨.f fNil, rNil⟩⟩,
  ⟨none, some 156, [(.tmp 155)], ⟨.f (fFld 2), rFld 2⟩⟩,
  ⟨none, none, [(.tmp 156), (.const (.int .i64 5))], ⟨.store 1, rStore1⟩⟩]))
 (.seq none
 (.reg [⟨none, some 158, [(.tmp 12), (.const (.int .i64 5))], ⟨.f (fBin .eql .no), rEql⟩⟩,
  ⟨none, some 157, [(.tmp 158)], ⟨.f fMove, rMove⟩⟩])
 (.cond (.tmp 157)
 (.seq none
 (.reg [⟨none, some 159, [(.tmp 3)], ⟨.lr 3 9 true, rAny xl_alloc_Alloc_Step (.lr 3 9 true)⟩⟩,
  ⟨none, some 160, [(.tmp 3)], ⟨.f (fFld 0), rFld 0⟩⟩,
  ⟨none, some 161, [(.tmp 160)], ⟨.lr 3 7 true, rAny xl_alloc_Alloc_Step (.lr 3 7 true)⟩⟩,
  ⟨none, some 162, [(.tmp 0)], ⟨.f fMove, rMove⟩⟩,
  ⟨none, some 163, [(.tmp 162)], ⟨.f fNil, rNil⟩⟩,
  ⟨none, some 164, [(.tmp 163)], ⟨.f (fFld 8), rFld 8⟩⟩,
  ⟨none, some 165, [(.tmp 164)], ⟨.load 1 false, rLoad1⟩⟩,
  ⟨none, some 166, [(.tmp 161), (.tmp 165)], ⟨.call .none s_layout_Slot v_layout_Slot, rCall v_layout_Slot⟩⟩,
  ⟨none, some 167, [(.tmp 0)], ⟨.f fMove, rMove⟩⟩,
  ⟨none, some 168, [(.tmp 167)], ⟨.f fNil, rNil⟩⟩,
  ⟨none, some 169, [(.tmp 168)], ⟨.f (fFld 11), rFld 11⟩⟩,
  ⟨none, some 170, [(.tmp 169)], ⟨.f (fFld 0), rFld 0⟩⟩,
  ⟨none, some 171, [(.tmp 170)], ⟨.load 1 false, rLoad1⟩⟩,
  ⟨none, some 172, [(.tmp 0)], ⟨.f fMove, rMove⟩⟩,
  ⟨none, some 173, [(.tmp 172)], ⟨.f fNil, rNil⟩⟩,
  ⟨none, some 174, [(.tmp 173)], ⟨.f (fFld 9), rFld 9⟩⟩,
  ⟨none, some 175, [(.tmp 174)], ⟨.load 1 false, rLoad1⟩⟩,
  ⟨none, some 176, [(.const (.int .i64 1)), (.tmp 171), (.tmp 175)], ⟨.f (fBuild [(0, 1), (1, 1), (2, 1), (3, 1)] [(.int .i64 0), (.int .i64 0), (.int .i64 0), (.int .i64 0)] [0, 1, 2]), rAny xl_alloc_Alloc_Step (.f (fBuild [(0, 1), (1, 1), (2, 1), (3, 1)] [(.int .i64 0), (.int .i64 0), (.int .i64 0), (.int .i64 0)] [0, 1, 2]))⟩⟩,
  ⟨none, some 177, [(.tmp 176)], ⟨.call .none s_word_PutSlot v_word_PutSlot, rCall v_word_PutSlot⟩⟩,
  ⟨none, some 178, [(.tmp 159), (.tmp 166), (.tmp 177)], ⟨.call .write s_layout_Env_Store v_layout_Env_Store, rCall v_layout_Env_Store⟩⟩])
 (.seq none
 (.reg [⟨none, some 179, [(.tmp 0)], ⟨.f fMove, rMove⟩⟩,
  ⟨none, some 180, [(.tmp 0)], ⟨.f fMove, rMove⟩⟩,
  ⟨none, some 181, [(.tmp 180)], ⟨.f fNil, rNil⟩⟩,
  ⟨none, some 182, [(.tmp 181)], ⟨.f (fFld 8), rFld 8⟩⟩,
  ⟨none, some 183, [(.tmp 182)], ⟨.load 1 false, rLoad1⟩⟩,
  ⟨none, some 184, [(.tmp 0)], ⟨.f fMove, rMove⟩⟩,
  ⟨none, some 185, [(.tmp 184)], ⟨.f fNil, rNil⟩⟩,
  ⟨none, some 186, [(.tmp 185)], ⟨.f (fFld 9), rFld 9⟩⟩,
  ⟨none, some 187, [(.tmp 186)], ⟨.load 1 false, rLoad1⟩⟩,
  ⟨none, some 188, [(.tmp 183), (.tmp 187)], ⟨.f (fBuild [(0, 1), (1, 1)] [(.int .i64 0), (.int .i64 0)] [0, 1]), rAny xl_alloc_Alloc_Step (.f (fBuild [(0, 1), (1, 1)] [(.int .i64 0), (.int .i64 0)] [0, 1]))⟩⟩,
  ⟨none, some 189, [(.tmp 188)], ⟨.call .none s_word_PutHandle v_word_PutHandle, rCall v_word_PutHandle⟩⟩,
  ⟨none, some 190, [(.tmp 3)], ⟨.lr 3 9 true, rAny xl_alloc_Alloc_Step (.lr 3 9 true)⟩⟩,
  ⟨none, some 191, [(.tmp 190)], ⟨.call .read s_layout_Env_Now v_layout_Env_Now, rCall v_layout_Env_Now⟩⟩,
  ⟨none, some 192, [(.tmp 189), (.tmp 191)], ⟨.f (fBuild [(0, 1), (1, 1), (2, 1), (3, 1)] [(.int .i64 0), (.int .u64 0), (.int .i64 0), (.int .i64 0)] [1, 3]), rAny xl_alloc_Alloc_Step (.f (fBuild [(0, 1), (1, 1), (2, 1), (3, 1)] [(.int .i64 0), (.int .u64 0), (.int .i64 0), (.int .i64 0)] [1, 3]))⟩⟩,
  ⟨none, some 193, [(.tmp 179)], ⟨.f fNil, rNil⟩⟩,
  ⟨none, some 194, [(.tmp 193)], ⟨.f (fFld 14), rFld 14⟩⟩,
  ⟨none, none, [(.tmp 194), (.tmp 192)], ⟨.store 4, rAny xl_alloc_Alloc_Step (.store 4)⟩⟩])
 (.reg [⟨none, some 195, [(.tmp 0)], ⟨.f fMove, rMove⟩⟩,
  ⟨none, some 196, [(.tmp 195)], ⟨.f fNil, rNil⟩⟩,
  ⟨none, some 197, [(.tmp 196)], ⟨.f (fFld 2), rFld 2⟩⟩,
  ⟨none, none, [(.tmp 197), (.const (.int .i64 6))], ⟨.store 1, rStore1⟩⟩])))
 (.seq none
 (.reg [⟨none, some 199, [(.tmp 12), (.const (.int .i64 6))], ⟨.f (fBin .eql .no), rEql⟩⟩,
  ⟨none, some 198, [(.tmp 199)], ⟨.f fMove, rMove⟩⟩])
 (.cond (.tmp 198)
 (.seq none
 (.reg [⟨none, some 200, [(.tmp 3)], ⟨.lr 3 9 true, rAny xl_alloc_Alloc_Step (.lr 3 9 true)⟩⟩,
  ⟨none, some 201, [(.tmp 0)], ⟨.f fMove, rMove⟩⟩,
  ⟨none, some 202, [(.tmp 201)], ⟨.f fNil, rNil⟩⟩,
  ⟨none, some 203, [(.tmp 202)], ⟨.f (fFld 11), rFld 11⟩⟩,
  ⟨none, some 204, [(.tmp 203)], ⟨.f (fFld 0), rFld 0⟩⟩,
  ⟨none, some 205, [(.tmp 204)], ⟨.load 1 false, rLoad1⟩⟩,
  ⟨none, some 206, [(.tmp 0)], ⟨.f fMove, rMove⟩⟩,
  ⟨none, some 207, [(.tmp 206), (.const (.int .i64 2))], ⟨.call .read s_alloc_Alloc_head v_alloc_Alloc_head, rCall v_alloc_Alloc_head⟩⟩,
  ⟨none, some 208, [(.tmp 200), (.tmp 205), (.tmp 207)], ⟨.call .write s_layout_Env_Store v_layout_Env_Store, rCall v_layout_Env_Store⟩⟩])
 (.seq none
 (.reg [⟨none, some 4, [(.const (.bool true))], ⟨.f fMove, rMove⟩⟩])
 .ret))
 (.seq none
 (.reg [⟨none, some 13, [(.tmp 0)], ⟨.f fMove, rMove⟩⟩,
  ⟨none, some 14, [(.tmp 13)], ⟨.f fNil, rNil⟩⟩,
  ⟨none, some 15, [(.tmp 14)], ⟨.f (fFld 13), rFld 13⟩⟩,
  ⟨none, some 16, [(.tmp 15)], ⟨.load 1 false, rLoad1⟩⟩,
  ⟨none, some 17, [(.tmp 3)], ⟨.lr 3 9 true, rAny xl_alloc_Alloc_Step (.lr 3 9 true)⟩⟩,
  ⟨none, some 18, [(.tmp 16), (.tmp 17)], ⟨.call .write s_slot_Give_Step v_slot_Give_Step, rCall v_slot_Give_Step⟩⟩,
  ⟨none, some 4, [(.tmp 18)], ⟨.f fMove, rMove⟩⟩])
 .ret)))))))))))))))))
 (.seq none
 (.reg [⟨none, some 4, [(.const (.bool false))], ⟨.f fMove, rMove⟩⟩])
 .ret)))
noncomputable def v_alloc_Alloc_Step : EvF := evFn 2 xc_alloc_Alloc_Step [.t 4]
theorem xt_alloc_Alloc_Step : toC cx_alloc_Alloc_Step (bodyOf Try.f35) = some (xc_alloc_Alloc_Step.map XN.sm) := by kernel_rfl
theorem xr_alloc_Alloc_Step : toR cx_alloc_Alloc_Step Try.f35.results.toList = some [.t 4] := by kernel_rfl
theorem xo_alloc_Alloc_Step : xc_alloc_Alloc_Step.ok xl_alloc_Alloc_Step := ⟨⟨rAny_ok (trivial), rMove_ok, trivial⟩, ⟨⟨⟨rMove_ok, rNil_ok, rFld_ok _, rLoad1_ok, trivial⟩, ⟨⟨rEql_ok, rMove_ok, trivial⟩, ⟨⟨⟨⟨rMove_ok, rNil_ok, rFld_ok _, rLoad1_ok, rCall_ok ve_layout_Class, rLss_ok, trivial⟩, ⟨⟨⟨rMove_ok, rAny_ok (trivial), rCall_ok ve_alloc_Alloc_end, trivial⟩, ⟨⟨rMove_ok, trivial⟩, trivial⟩⟩, trivial⟩⟩, ⟨⟨rMove_ok, rNil_ok, rFld_ok _, rAny_ok (trivial), rCall_ok ve_slot_Take_Step, trivial⟩, ⟨⟨⟨rMove_ok, rNil_ok, rFld_ok _, rCall_ok ve_slot_Take_Slot, rMove_ok, rAny_ok (eqv_ext _), rAny_ok (eqv_ext _), rMove_ok, rMove_ok, trivial⟩, ⟨⟨rMove_ok, rMove_ok, rMove_ok, rNil_ok, rFld_ok _, rStore1_ok, rNil_ok, rFld_ok _, rStore1_ok, trivial⟩, ⟨⟨rMove_ok, rNot_ok, trivial⟩, ⟨⟨⟨rMove_ok, rAny_ok (trivial), rCall_ok ve_alloc_Alloc_end, trivial⟩, ⟨⟨rMove_ok, trivial⟩, trivial⟩⟩, trivial⟩⟩⟩⟩, trivial⟩⟩⟩, ⟨⟨rEql_ok, rMove_ok, trivial⟩, ⟨⟨⟨rMove_ok, rMove_ok, rAny_ok (trivial), rFld_ok _, rAny_ok (trivial), rMove_ok, rNil_ok, rFld_ok _, rLoad1_ok, rCall_ok ve_layout_Slot, rCall_ok ve_layout_Env_Load, rCall_ok ve_word_Slot, rAny_ok (eqv_fldV _ _ _), rNil_ok, rFld_ok _, rStore1_ok, rNil_ok, rFld_ok _, rStore1_ok, trivial⟩, ⟨rMove_ok, rMove_ok, rNil_ok, rFld_ok _, rLoad1_ok, rCall_ok ve_layout_Class, rCall_ok ve_place_New, rNil_ok, rFld_ok _, rStore1_ok, trivial⟩⟩, ⟨⟨rEql_ok, rMove_ok, trivial⟩, ⟨⟨⟨rMove_ok, rNil_ok, rFld_ok _, rLoad1_ok, rAny_ok (trivial), rCall_ok ve_place_Place_Step, trivial⟩, ⟨⟨⟨rMove_ok, rNil_ok, rFld_ok _, rLoad1_ok, rCall_ok ve_place_Place_Spot, rMove_ok, rAny_ok (eqv_ext _), rAny_ok (eqv_ext _), rAny_ok (trivial), rAny_ok (trivial), rMove_ok, trivial⟩, ⟨⟨rMove_ok, rMove_ok, rAny_ok (trivial), rNil_ok, rFld_ok _, rAny_ok (trivial), rNil_ok, rFld_ok _, rStore1_ok, trivial⟩, ⟨⟨rMove_ok, rNot_ok, trivial⟩, ⟨⟨⟨rMove_ok, rAny_ok (trivial), rCall_ok ve_alloc_Alloc_end, trivial⟩, ⟨rMove_ok, rMove_ok, rMove_ok, rNil_ok, rFld_ok _, rLoad1_ok, rCall_ok ve_slot_NewGive, rNil_ok, rFld_ok _, rStore1_ok, rNil_ok, rFld_ok _, rStore1_ok, trivial⟩⟩, trivial⟩⟩⟩⟩, trivial⟩⟩, ⟨⟨rEql_ok, rMove_ok, trivial⟩, ⟨⟨⟨rAny_ok (trivial), rFld_ok _, rAny_ok (trivial), rMove_ok, rNil_ok, rFld_ok _, rFld_ok _, rLoad1_ok, rCall_ok ve_layout_Chunk, rAdd_ok, rMove_ok, rNil_ok, rFld_ok _, rLoad1_ok, rCall_ok ve_layout_Class, rCall_ok ve_layout_Room, rCall_ok ve_layout_Env_Add, trivial⟩, ⟨rMove_ok, rNil_ok, rFld_ok _, rStore1_ok, trivial⟩⟩, ⟨⟨rEql_ok, rMove_ok, trivial⟩, ⟨⟨⟨rAny_ok (trivial), rMove_ok, rNil_ok, rFld_ok _, rFld_ok _, rLoad1_ok, rMove_ok, rCall_ok ve_alloc_Alloc_head, rCall_ok ve_layout_Env_Store, trivial⟩, ⟨rMove_ok, rNil_ok, rFld_ok _, rStore1_ok, trivial⟩⟩, ⟨⟨rEql_ok, rMove_ok, trivial⟩, ⟨⟨⟨rAny_ok (trivial), rFld_ok _, rAny_ok (trivial), rMove_ok, rNil_ok, rFld_ok _, rLoad1_ok, rCall_ok ve_layout_Slot, rMove_ok, rNil_ok, rFld_ok _, rFld_ok _, rLoad1_ok, rMove_ok, rNil_ok, rFld_ok _, rLoad1_ok, rAny_ok (eqv_build _ rfl _), rCall_ok ve_word_PutSlot, rCall_ok ve_layout_Env_Store, trivial⟩, ⟨⟨rMove_ok, rMove_ok, rNil_ok, rFld_ok _, rLoad1_ok, rMove_ok, rNil_ok, rFld_ok _, rLoad1_ok, rAny_ok (eqv_build _ rfl _), rCall_ok ve_word_PutHandle, rAny_ok (trivial), rCall_ok ve_layout_Env_Now, rAny_ok (eqv_build _ rfl _), rNil_ok, rFld_ok _, rAny_ok (trivial), trivial⟩, ⟨rMove_ok, rNil_ok, rFld_ok _, rStore1_ok, trivial⟩⟩⟩, ⟨⟨rEql_ok, rMove_ok, trivial⟩, ⟨⟨⟨rAny_ok (trivial), rMove_ok, rNil_ok, rFld_ok _, rFld_ok _, rLoad1_ok, rMove_ok, rCall_ok ve_alloc_Alloc_head, rCall_ok ve_layout_Env_Store, trivial⟩, ⟨⟨rMove_ok, trivial⟩, trivial⟩⟩, ⟨⟨rMove_ok, rNil_ok, rFld_ok _, rLoad1_ok, rAny_ok (trivial), rCall_ok ve_slot_Give_Step, rMove_ok, trivial⟩, trivial⟩⟩⟩⟩⟩⟩⟩⟩⟩⟩⟩⟩⟩⟩⟩⟩, ⟨⟨rMove_ok, trivial⟩, trivial⟩⟩⟩
theorem ve_alloc_Alloc_Step : EvOk s_alloc_Alloc_Step v_alloc_Alloc_Step := EvOk.of (evFn_sound (C := cx_alloc_Alloc_Step) xt_alloc_Alloc_Step xr_alloc_Alloc_Step xo_alloc_Alloc_Step) q_alloc_Alloc_Step

attribute [irreducible] w_alloc_Alloc_Step_j1b w_alloc_Alloc_Step_j1 w_alloc_Alloc_Step s_alloc_Alloc_Step

/-! ### (*/alloc.Alloc).Done -/
def w_alloc_Alloc_Done (a0 : Value) (K : Value → Mem → Prop) (σ : Mem) : Prop :=
xF fMove [a0] fun v3 =>
xF (fBin .eql .ptr) [v3, (.pointer none)] fun v4 =>
xIf v4
 (xF (fBuild [(0, 1), (1, 1), (2, 1), (3, 1)] [(.int .i64 0), (.int .u64 0), (.int .i64 0), (.int .i64 0)] [0]) [(.int .i64 1)] fun v5 =>
xC (gStore 4 [(locP 2), v5] [(.int .i64 0), (.int .u64 0), (.int .i64 0), (.int .i64 0)]) fun c2 =>
xO (gLoad 4 true [(locP 2)] c2) fun r2 =>
K r2 σ)
 (xF fMove [a0] fun v6 =>
xF fNil [v6] fun v7 =>
xF (fFld 14) [v7] fun v8 =>
hLoad 4 true [v8] (fun v9 σ =>
xC (gStore 4 [(locP 2), v9] [(.int .i64 0), (.int .u64 0), (.int .i64 0), (.int .i64 0)]) fun c2 =>
xO (gLoad 4 true [(locP 2)] c2) fun r2 =>
K r2 σ) σ)

def s_alloc_Alloc_Done : Spec := fun args K σ => match args with
  | [a0] => w_alloc_Alloc_Done a0 K σ
  | _ => False

noncomputable def cx_alloc_Alloc_Done : Cx := { P := Try.prog, T := [], loc := [(2, 2)], eqt := [(66, .ptr)], n := 10, keep := [] }
theorem q_alloc_Alloc_Done : FnS cx_alloc_Alloc_Done Try.f33 (bodyOf Try.f33) 1 = s_alloc_Alloc_Done := by
  funext args K σ
  rcases args with _ | ⟨a0, _ | ⟨b, r⟩⟩ <;> kernel_rfl
theorem e_alloc_Alloc_Done : Entry Try.prog 33 .read s_alloc_Alloc_Done :=
  entry (C := cx_alloc_Alloc_Done) TOk.nil mixedOk Try.func33 (by kernel_rfl) (by kernel_rfl) (by kernel_rfl) q_alloc_Alloc_Done

def xl_alloc_Alloc_Done : List (Nat × Nat) := [(2, 2)]
noncomputable def xc_alloc_Alloc_Done : XC XN :=
(.seq none
 (.reg [⟨none, some 2, [], ⟨.la 2 [(.int .i64 0), (.int .u64 0), (.int .i64 0), (.int .i64 0)], rAny xl_alloc_Alloc_Done (.la 2 [(.int .i64 0), (.int .u64 0), (.int .i64 0), (.int .i64 0)])⟩⟩])
 (.seq none
 (.seq none
 (.reg [⟨none, some 3, [(.tmp 0)], ⟨.f fMove, rMove⟩⟩,
  ⟨none, some 4, [(.tmp 3), (.const (.pointer none))], ⟨.f (fBin .eql .ptr), rAny xl_alloc_Alloc_Done (.f (fBin .eql .ptr))⟩⟩])
 (.cond (.tmp 4)
 (.seq none
 (.reg [⟨none, some 5, [(.const (.int .i64 1))], ⟨.f (fBuild [(0, 1), (1, 1), (2, 1), (3, 1)] [(.int .i64 0), (.int .u64 0), (.int .i64 0), (.int .i64 0)] [0]), rAny xl_alloc_Alloc_Done (.f (fBuild [(0, 1), (1, 1), (2, 1), (3, 1)] [(.int .i64 0), (.int .u64 0), (.int .i64 0), (.int .i64 0)] [0]))⟩⟩,
  ⟨none, none, [(.tmp 2), (.tmp 5)], ⟨.ls 2 4, rAny xl_alloc_Alloc_Done (.ls 2 4)⟩⟩])
 .ret)
 .skip))
 (.seq none
 (.reg [⟨none, some 6, [(.tmp 0)], ⟨.f fMove, rMove⟩⟩,
  ⟨none, some 7, [(.tmp 6)], ⟨.f fNil, rNil⟩⟩,
  ⟨none, some 8, [(.tmp 7)], ⟨.f (fFld 14), rFld 14⟩⟩,
  ⟨none, some 9, [(.tmp 8)], ⟨.load 4 true, rAny xl_alloc_Alloc_Done (.load 4 true)⟩⟩,
  ⟨none, none, [(.tmp 2), (.tmp 9)], ⟨.ls 2 4, rAny xl_alloc_Alloc_Done (.ls 2 4)⟩⟩])
 .ret)))
noncomputable def v_alloc_Alloc_Done : EvF := evFn 1 xc_alloc_Alloc_Done [.c 2 2 4 true]
theorem xt_alloc_Alloc_Done : toC cx_alloc_Alloc_Done (bodyOf Try.f33) = some (xc_alloc_Alloc_Done.map XN.sm) := by kernel_rfl
theorem xr_alloc_Alloc_Done : toR cx_alloc_Alloc_Done Try.f33.results.toList = some [.c 2 2 4 true] := by kernel_rfl
theorem xo_alloc_Alloc_Done : xc_alloc_Alloc_Done.ok xl_alloc_Alloc_Done := ⟨⟨rAny_ok (trivial), trivial⟩, ⟨⟨⟨rMove_ok, rAny_ok (eqv_bin _ _), trivial⟩, ⟨⟨⟨rAny_ok (eqv_build _ rfl _), rAny_ok (trivial), trivial⟩, trivial⟩, trivial⟩⟩, ⟨⟨rMove_ok, rNil_ok, rFld_ok _, rAny_ok (trivial), rAny_ok (trivial), trivial⟩, trivial⟩⟩⟩
theorem ve_alloc_Alloc_Done : EvOk s_alloc_Alloc_Done v_alloc_Alloc_Done := EvOk.of (evFn_sound (C := cx_alloc_Alloc_Done) xt_alloc_Alloc_Done xr_alloc_Alloc_Done xo_alloc_Alloc_Done) q_alloc_Alloc_Done

attribute [irreducible] w_alloc_Alloc_Done s_alloc_Alloc_Done

/-! ### /law08.Make -/
def w_law08_Make_j1b (K : Value → Mem → Prop) (v7 : Value) (c6 : List Value) (σ : Mem) : Prop :=
xF fMove [v7] fun v19 =>
s_alloc_Alloc_Done [v19] (fun v20 σ =>
xC (gStore 4 [(locP 6), v20] c6) fun c6 =>
xO (gLoad 4 true [(locP 6)] c6) fun r6 =>
K r6 σ) σ

def w_law08_Make_j1 (K : Value → Mem → Prop) (ts : List Value) (ls : List (List Value)) (σ : Mem) : Prop := w_law08_Make_j1b K (ts.getD 0 poison) (ls.getD 0 []) σ

def w_law08_Make_l4b (K : Value → Mem → Prop) (J1 : List Value → List (List Value) → Mem → Prop) (R1 : List Value → List (List Value) → Mem → Prop) (v7 v8 : Value) (c3 c6 : List Value) (σ : Mem) : Prop :=
xF fMove [v8] fun v12 =>
xF (fBin .lss .no) [v12, (.int .i64 400)] fun v13 =>
xIf v13
 (xF fMove [v7] fun v16 =>
xO (gLoad 9 true [(locP 3)] c3) fun v17 =>
s_alloc_Alloc_Step [v16, v17] (fun v18 σ =>
xIf v18
 (J1 [v7] [c6] σ)
 (xF fMove [v8] fun v14 =>
xF (fBin .add .no) [v14, (.int .i64 1)] fun v15 =>
xF fMove [v15] fun v8 =>
R1 [v7, v8] [c3, c6] σ)) σ)
 (J1 [v7] [c6] σ)

def w_law08_Make_l4 (K : Value → Mem → Prop) (J1 : List Value → List (List Value) → Mem → Prop) (R1 : List Value → List (List Value) → Mem → Prop) (ts : List Value) (ls : List (List Value)) (σ : Mem) : Prop := w_law08_Make_l4b K J1 R1 (ts.getD 0 poison) (ts.getD 1 poison) (ls.getD 0 []) (ls.getD 1 []) σ

def w_law08_Make (a0 a1 a2 : Value) (K : Value → Mem → Prop) (σ : Mem) : Prop :=
xC (gBox 9 [a0] []) fun c3 =>
xF fMove [a1] fun v9 =>
xF fMove [a2] fun v10 =>
s_alloc_New [v9, v10] (fun v11 σ =>
xF fMove [v11] fun v7 =>
xJoin (w_law08_Make_j1 K) fun J1 =>
xF fMove [(.int .i64 0)] fun v8 =>
xLoop (w_law08_Make_l4 K J1) [v7, v8] [c3, [(.int .i64 0), (.int .u64 0), (.int .i64 0), (.int .i64 0)]] σ) σ

def s_law08_Make : Spec := fun args K σ => match args with
  | [a0, a1, a2] => w_law08_Make a0 a1 a2 K σ
  | _ => False

noncomputable def cx_law08_Make : Cx := { P := Try.prog, T := [(34, .write, s_alloc_New), (35, .write, s_alloc_Alloc_Step), (33, .read, s_alloc_Alloc_Done)], loc := [(3, 3), (6, 6)], eqt := [], n := 21, keep := [(4, [7, 8], [3, 6]), (1000007, [7], [6])] }
theorem q_law08_Make : FnS cx_law08_Make Try.f32 (bodyOf Try.f32) 3 = s_law08_Make := by
  funext args K σ
  rcases args with _ | ⟨a0, _ | ⟨a1, _ | ⟨a2, _ | ⟨b, r⟩⟩⟩⟩ <;> kernel_rfl
theorem e_law08_Make : Entry Try.prog 32 .write s_law08_Make :=
  entry (C := cx_law08_Make) (TOk.cons e_alloc_New (TOk.cons e_alloc_Alloc_Step (TOk.cons e_alloc_Alloc_Done TOk.nil))) mixedOk Try.func32 (by kernel_rfl) (by kernel_rfl) (by kernel_rfl) q_law08_Make

def xl_law08_Make : List (Nat × Nat) := [(3, 3), (6, 6)]
noncomputable def xc_law08_Make : XC XN :=
(.seq none
 (.reg [⟨none, some 3, [(.tmp 0)], ⟨.lb 3 9, rAny xl_law08_Make (.lb 3 9)⟩⟩,
  ⟨none, some 6, [], ⟨.la 6 [(.int .i64 0), (.int .u64 0), (.int .i64 0), (.int .i64 0)], rAny xl_law08_Make (.la 6 [(.int .i64 0), (.int .u64 0), (.int .i64 0), (.int .i64 0)])⟩⟩])
 (.seq none
 (.reg [⟨none, some 9, [(.tmp 1)], ⟨.f fMove, rMove⟩⟩,
  ⟨none, some 10, [(.tmp 2)], ⟨.f fMove, rMove⟩⟩,
  ⟨none, some 11, [(.tmp 9), (.tmp 10)], ⟨.call .write s_alloc_New v_alloc_New, rCall v_alloc_New⟩⟩,
  ⟨none, some 7, [(.tmp 11)], ⟨.f fMove, rMove⟩⟩])
 (.seq (some ([7], [6]))
 (.seq none
 (.reg [⟨none, some 8, [(.const (.int .i64 0))], ⟨.f fMove, rMove⟩⟩])
 (.block 0
 (.loop ([7, 8], [3, 6])
 (.seq none
 (.seq none
 (.reg [⟨none, some 12, [(.tmp 8)], ⟨.f fMove, rMove⟩⟩,
  ⟨none, some 13, [(.tmp 12), (.const (.int .i64 400))], ⟨.f (fBin .lss .no), rLss⟩⟩])
 (.cond (.tmp 13)
 .skip
 (.exit 0)))
 (.seq none
 (.block 1
 (.seq none
 (.reg [⟨none, some 16, [(.tmp 7)], ⟨.f fMove, rMove⟩⟩,
  ⟨none, some 17, [(.tmp 3)], ⟨.lr 3 9 true, rAny xl_law08_Make (.lr 3 9 true)⟩⟩,
  ⟨none, some 18, [(.tmp 16), (.tmp 17)], ⟨.call .write s_alloc_Alloc_Step v_alloc_Alloc_Step, rCall v_alloc_Alloc_Step⟩⟩])
 (.cond (.tmp 18)
 (.exit 0)
 .skip)))
 (.reg [⟨none, some 14, [(.tmp 8)], ⟨.f fMove, rMove⟩⟩,
  ⟨none, some 15, [(.tmp 14), (.const (.int .i64 1))], ⟨.f (fBin .add .no), rAdd⟩⟩,
  ⟨none, some 8, [(.tmp 15)], ⟨.f fMove, rMove⟩⟩]))))))
 (.seq none
 (.reg [⟨none, some 19, [(.tmp 7)], ⟨.f fMove, rMove⟩⟩,
  ⟨none, some 20, [(.tmp 19)], ⟨.call .read s_alloc_Alloc_Done v_alloc_Alloc_Done, rCall v_alloc_Alloc_Done⟩⟩,
  ⟨none, none, [(.tmp 6), (.tmp 20)], ⟨.ls 6 4, rAny xl_law08_Make (.ls 6 4)⟩⟩])
 .ret))))
noncomputable def v_law08_Make : EvF := evFn 3 xc_law08_Make [.c 6 6 4 true]
theorem xt_law08_Make : toC cx_law08_Make (bodyOf Try.f32) = some (xc_law08_Make.map XN.sm) := by kernel_rfl
theorem xr_law08_Make : toR cx_law08_Make Try.f32.results.toList = some [.c 6 6 4 true] := by kernel_rfl
theorem xo_law08_Make : xc_law08_Make.ok xl_law08_Make := ⟨⟨rAny_ok (trivial), rAny_ok (trivial), trivial⟩, ⟨⟨rMove_ok, rMove_ok, rCall_ok ve_alloc_New, rMove_ok, trivial⟩, ⟨⟨⟨rMove_ok, trivial⟩, ⟨⟨⟨rMove_ok, rLss_ok, trivial⟩, ⟨trivial, trivial⟩⟩, ⟨⟨⟨rMove_ok, rAny_ok (trivial), rCall_ok ve_alloc_Alloc_Step, trivial⟩, ⟨trivial, trivial⟩⟩, ⟨rMove_ok, rAdd_ok, rMove_ok, trivial⟩⟩⟩⟩, ⟨⟨rMove_ok, rCall_ok ve_alloc_Alloc_Done, rAny_ok (trivial), trivial⟩, trivial⟩⟩⟩⟩
theorem ve_law08_Make : EvOk s_law08_Make v_law08_Make := EvOk.of (evFn_sound (C := cx_law08_Make) xt_law08_Make xr_law08_Make xo_law08_Make) q_law08_Make

attribute [irreducible] w_law08_Make_j1b w_law08_Make_j1 w_law08_Make_l4b w_law08_Make_l4 w_law08_Make s_law08_Make

/-! ### /law08.awake -/
def w_law08_awake_r (K : Value → Mem → Prop) (σ : Mem) : Prop :=
xF fMove [(.bool false)] fun v0 =>
s_law04_Arena [(.int .i64 1), (.int .i64 4), (.int .i64 2), (.int .i64 20)] (fun v6 σ =>
xF fMove [v6] fun v5 =>
xF (fExt 0) [v5] fun v7 =>
xF (fExt 1) [v5] fun v8 =>
xC (gStore 9 [(locP 1), v7] [(.int .i64 0), (.int .i64 0), (.int .i64 0), (.int .i64 0), (.int .i64 0), (.int .i64 0), (.int .i64 0), (.pointer none), (.int .i64 0)]) fun c1 =>
xF fMove [v8] fun v2 =>
xF fMove [v2] fun v9 =>
xF (fUn .not) [v9] fun v10 =>
xIf v10
 (xF fMove [(.bool false)] fun v0 =>
K v0 σ)
 (xO (gLoad 9 true [(locP 1)] c1) fun v11 =>
s_law08_Make [v11, (.int .i64 2), (.bool false)] (fun v12 σ =>
xO (gLoad 9 true [(locP 1)] c1) fun v13 =>
s_law08_Make [v13, (.int .i64 2), (.bool true)] (fun v14 σ =>
xC (gStore 4 [(locP 3), v12] [(.int .i64 0), (.int .u64 0), (.int .i64 0), (.int .i64 0)]) fun c3 =>
xC (gStore 4 [(locP 4), v14] [(.int .i64 0), (.int .u64 0), (.int .i64 0), (.int .i64 0)]) fun c4 =>
xF (fFld 0) [(locP 3)] fun v15 =>
xO (gLoad 1 false [v15] c3) fun v16 =>
xF (fBin .eql .no) [v16, (.int .i64 0)] fun v17 =>
xF fMove [v17] fun v18 =>
xIf v18
 (xF (fFld 1) [(locP 3)] fun v19 =>
xO (gLoad 1 false [v19] c3) fun v20 =>
xF (fBin .eql .no) [v20, (.int .u64 65536)] fun v21 =>
xF fPick [(.bool true), v21, (.bool false)] fun v22 =>
xF fMove [v22] fun v23 =>
xIf v23
 (xF (fFld 1) [(locP 4)] fun v24 =>
xO (gLoad 1 false [v24] c4) fun v25 =>
xF (fBin .eql .no) [v25, (.int .u64 65537)] fun v26 =>
xF fPick [(.bool true), v26, (.bool false)] fun v27 =>
xF fMove [v27] fun v28 =>
xIf v28
 (xF (fFld 3) [(locP 3)] fun v29 =>
xO (gLoad 1 false [v29] c3) fun v30 =>
xF (fBin .gtr .no) [v30, (.int .i64 0)] fun v31 =>
xF fPick [(.bool true), v31, (.bool false)] fun v32 =>
xF fMove [v32] fun v33 =>
xIf v33
 (xF (fFld 3) [(locP 4)] fun v34 =>
xO (gLoad 1 false [v34] c4) fun v35 =>
xF (fFld 3) [(locP 3)] fun v36 =>
xO (gLoad 1 false [v36] c3) fun v37 =>
xF (fBin .gtr .no) [v35, v37] fun v38 =>
xF fPick [(.bool true), v38, (.bool false)] fun v39 =>
xF fMove [v39] fun v0 =>
K v0 σ)
 (xF fPick [(.bool false), undef, (.bool false)] fun v39 =>
xF fMove [v39] fun v0 =>
K v0 σ))
 (xF fPick [(.bool false), undef, (.bool false)] fun v32 =>
xF fMove [v32] fun v33 =>
xIf v33
 (xF (fFld 3) [(locP 4)] fun v34 =>
xO (gLoad 1 false [v34] c4) fun v35 =>
xF (fFld 3) [(locP 3)] fun v36 =>
xO (gLoad 1 false [v36] c3) fun v37 =>
xF (fBin .gtr .no) [v35, v37] fun v38 =>
xF fPick [(.bool true), v38, (.bool false)] fun v39 =>
xF fMove [v39] fun v0 =>
K v0 σ)
 (xF fPick [(.bool false), undef, (.bool false)] fun v39 =>
xF fMove [v39] fun v0 =>
K v0 σ)))
 (xF fPick [(.bool false), undef, (.bool false)] fun v27 =>
xF fMove [v27] fun v28 =>
xIf v28
 (xF (fFld 3) [(locP 3)] fun v29 =>
xO (gLoad 1 false [v29] c3) fun v30 =>
xF (fBin .gtr .no) [v30, (.int .i64 0)] fun v31 =>
xF fPick [(.bool true), v31, (.bool false)] fun v32 =>
xF fMove [v32] fun v33 =>
xIf v33
 (xF (fFld 3) [(locP 4)] fun v34 =>
xO (gLoad 1 false [v34] c4) fun v35 =>
xF (fFld 3) [(locP 3)] fun v36 =>
xO (gLoad 1 false [v36] c3) fun v37 =>
xF (fBin .gtr .no) [v35, v37] fun v38 =>
xF fPick [(.bool true), v38, (.bool false)] fun v39 =>
xF fMove [v39] fun v0 =>
K v0 σ)
 (xF fPick [(.bool false), undef, (.bool false)] fun v39 =>
xF fMove [v39] fun v0 =>
K v0 σ))
 (xF fPick [(.bool false), undef, (.bool false)] fun v32 =>
xF fMove [v32] fun v33 =>
xIf v33
 (xF (fFld 3) [(locP 4)] fun v34 =>
xO (gLoad 1 false [v34] c4) fun v35 =>
xF (fFld 3) [(locP 3)] fun v36 =>
xO (gLoad 1 false [v36] c3) fun v37 =>
xF (fBin .gtr .no) [v35, v37] fun v38 =>
xF fPick [(.bool true), v38, (.bool false)] fun v39 =>
xF fMove [v39] fun v0 =>
K v0 σ)
 (xF fPick [(.bool false), undef, (.bool false)] fun v39 =>
xF fMove [v39] fun v0 =>
K v0 σ))))
 (xF fPick [(.bool false), undef, (.bool false)] fun v22 =>
xF fMove [v22] fun v23 =>
xIf v23
 (xF (fFld 1) [(locP 4)] fun v24 =>
xO (gLoad 1 false [v24] c4) fun v25 =>
xF (fBin .eql .no) [v25, (.int .u64 65537)] fun v26 =>
xF fPick [(.bool true), v26, (.bool false)] fun v27 =>
xF fMove [v27] fun v28 =>
xIf v28
 (xF (fFld 3) [(locP 3)] fun v29 =>
xO (gLoad 1 false [v29] c3) fun v30 =>
xF (fBin .gtr .no) [v30, (.int .i64 0)] fun v31 =>
xF fPick [(.bool true), v31, (.bool false)] fun v32 =>
xF fMove [v32] fun v33 =>
xIf v33
 (xF (fFld 3) [(locP 4)] fun v34 =>
xO (gLoad 1 false [v34] c4) fun v35 =>
xF (fFld 3) [(locP 3)] fun v36 =>
xO (gLoad 1 false [v36] c3) fun v37 =>
xF (fBin .gtr .no) [v35, v37] fun v38 =>
xF fPick [(.bool true), v38, (.bool false)] fun v39 =>
xF fMove [v39] fun v0 =>
K v0 σ)
 (xF fPick [(.bool false), undef, (.bool false)] fun v39 =>
xF fMove [v39] fun v0 =>
K v0 σ))
 (xF fPick [(.bool false), undef, (.bool false)] fun v32 =>
xF fMove [v32] fun v33 =>
xIf v33
 (xF (fFld 3) [(locP 4)] fun v34 =>
xO (gLoad 1 false [v34] c4) fun v35 =>
xF (fFld 3) [(locP 3)] fun v36 =>
xO (gLoad 1 false [v36] c3) fun v37 =>
xF (fBin .gtr .no) [v35, v37] fun v38 =>
xF fPick [(.bool true), v38, (.bool false)] fun v39 =>
xF fMove [v39] fun v0 =>
K v0 σ)
 (xF fPick [(.bool false), undef, (.bool false)] fun v39 =>
xF fMove [v39] fun v0 =>
K v0 σ)))
 (xF fPick [(.bool false), undef, (.bool false)] fun v27 =>
xF fMove [v27] fun v28 =>
xIf v28
 (xF (fFld 3) [(locP 3)] fun v29 =>
xO (gLoad 1 false [v29] c3) fun v30 =>
xF (fBin .gtr .no) [v30, (.int .i64 0)] fun v31 =>
xF fPick [(.bool true), v31, (.bool false)] fun v32 =>
xF fMove [v32] fun v33 =>
xIf v33
 (xF (fFld 3) [(locP 4)] fun v34 =>
xO (gLoad 1 false [v34] c4) fun v35 =>
xF (fFld 3) [(locP 3)] fun v36 =>
xO (gLoad 1 false [v36] c3) fun v37 =>
xF (fBin .gtr .no) [v35, v37] fun v38 =>
xF fPick [(.bool true), v38, (.bool false)] fun v39 =>
xF fMove [v39] fun v0 =>
K v0 σ)
 (xF fPick [(.bool false), undef, (.bool false)] fun v39 =>
xF fMove [v39] fun v0 =>
K v0 σ))
 (xF fPick [(.bool false), undef, (.bool false)] fun v32 =>
xF fMove [v32] fun v33 =>
xIf v33
 (xF (fFld 3) [(locP 4)] fun v34 =>
xO (gLoad 1 false [v34] c4) fun v35 =>
xF (fFld 3) [(locP 3)] fun v36 =>
xO (gLoad 1 false [v36] c3) fun v37 =>
xF (fBin .gtr .no) [v35, v37] fun v38 =>
xF fPick [(.bool true), v38, (.bool false)] fun v39 =>
xF fMove [v39] fun v0 =>
K v0 σ)
 (xF fPick [(.bool false), undef, (.bool false)] fun v39 =>
xF fMove [v39] fun v0 =>
K v0 σ))))) σ) σ)) σ

def s_law08_awake_r : Spec := fun args K σ => match args with
  | [] => w_law08_awake_r  K σ
  | _ => False

noncomputable def cx_law08_awake_r : Cx := { P := Try.prog, T := [(13, .write, s_law04_Arena), (32, .write, s_law08_Make)], loc := [(1, 1), (3, 3), (4, 4), (15, 3), (19, 3), (24, 4), (29, 3), (34, 4), (36, 3)], eqt := [], n := 40, keep := [] }
theorem q_law08_awake_r : FnS cx_law08_awake_r Try.f31 (bodyOf Try.f31) 0 = s_law08_awake_r := by
  funext args K σ
  rcases args with _ | ⟨b, r⟩ <;> kernel_rfl
theorem e_law08_awake_r : Entry Try.prog 31 .write s_law08_awake_r :=
  entry (C := cx_law08_awake_r) (TOk.cons e_law04_Arena (TOk.cons e_law08_Make TOk.nil)) mixedOk Try.func31 (by kernel_rfl) (by kernel_rfl) (by kernel_rfl) q_law08_awake_r

def xl_law08_awake_r : List (Nat × Nat) := [(1, 1), (3, 3), (4, 4), (15, 3), (19, 3), (24, 4), (29, 3), (34, 4), (36, 3)]
noncomputable def xc_law08_awake_r : XC XN :=
(.seq none
 (.reg [⟨none, some 0, [(.const (.bool false))], ⟨.f fMove, rMove⟩⟩])
 (.seq none
 (.reg [⟨none, some 6, [(.const (.int .i64 1)), (.const (.int .i64 4)), (.const (.int .i64 2)), (.const (.int .i64 20))], ⟨.call .write s_law04_Arena v_law04_Arena, rCall v_law04_Arena⟩⟩,
  ⟨none, some 5, [(.tmp 6)], ⟨.f fMove, rMove⟩⟩,
  ⟨none, some 7, [(.tmp 5)], ⟨.f (fExt 0), rAny xl_law08_awake_r (.f (fExt 0))⟩⟩,
  ⟨none, some 8, [(.tmp 5)], ⟨.f (fExt 1), rAny xl_law08_awake_r (.f (fExt 1))⟩⟩,
  ⟨none, some 1, [], ⟨.la 1 [(.int .i64 0), (.int .i64 0), (.int .i64 0), (.int .i64 0), (.int .i64 0), (.int .i64 0), (.int .i64 0), (.pointer none), (.int .i64 0)], rAny xl_law08_awake_r (.la 1 [(.int .i64 0), (.int .i64 0), (.int .i64 0), (.int .i64 0), (.int .i64 0), (.int .i64 0), (.int .i64 0), (.pointer none), (.int .i64 0)])⟩⟩,
  ⟨none, none, [(.tmp 1), (.tmp 7)], ⟨.ls 1 9, rAny xl_law08_awake_r (.ls 1 9)⟩⟩,
  ⟨none, some 2, [(.tmp 8)], ⟨.f fMove, rMove⟩⟩])
 (.seq none
 (.seq none
 (.reg [⟨none, some 9, [(.tmp 2)], ⟨.f fMove, rMove⟩⟩,
  ⟨none, some 10, [(.tmp 9)], ⟨.f (fUn .not), rNot⟩⟩])
 (.cond (.tmp 10)
 (.seq none
 (.reg [⟨none, some 0, [(.const (.bool false))], ⟨.f fMove, rMove⟩⟩])
 .ret)
 .skip))
 (.seq none
 (.reg [⟨none, some 11, [(.tmp 1)], ⟨.lr 1 9 true, rAny xl_law08_awake_r (.lr 1 9 true)⟩⟩,
  ⟨none, some 12, [(.tmp 11), (.const (.int .i64 2)), (.const (.bool false))], ⟨.call .write s_law08_Make v_law08_Make, rCall v_law08_Make⟩⟩,
  ⟨none, some 13, [(.tmp 1)], ⟨.lr 1 9 true, rAny xl_law08_awake_r (.lr 1 9 true)⟩⟩,
  ⟨none, some 14, [(.tmp 13), (.const (.int .i64 2)), (.const (.bool true))], ⟨.call .write s_law08_Make v_law08_Make, rCall v_law08_Make⟩⟩,
  ⟨none, some 3, [], ⟨.la 3 [(.int .i64 0), (.int .u64 0), (.int .i64 0), (.int .i64 0)], rAny xl_law08_awake_r (.la 3 [(.int .i64 0), (.int .u64 0), (.int .i64 0), (.int .i64 0)])⟩⟩,
  ⟨none, some 4, [], ⟨.la 4 [(.int .i64 0), (.int .u64 0), (.int .i64 0), (.int .i64 0)], rAny xl_law08_awake_r (.la 4 [(.int .i64 0), (.int .u64 0), (.int .i64 0), (.int .i64 0)])⟩⟩,
  ⟨none, none, [(.tmp 3), (.tmp 12)], ⟨.ls 3 4, rAny xl_law08_awake_r (.ls 3 4)⟩⟩,
  ⟨none, none, [(.tmp 4), (.tmp 14)], ⟨.ls 4 4, rAny xl_law08_awake_r (.ls 4 4)⟩⟩])
 (.seq none
 (.reg [⟨none, some 15, [(.tmp 3)], ⟨.f (fFld 0), rFld 0⟩⟩,
  ⟨none, some 16, [(.tmp 15)], ⟨.lr 3 1 false, rLr1 3⟩⟩,
  ⟨none, some 17, [(.tmp 16), (.const (.int .i64 0))], ⟨.f (fBin .eql .no), rEql⟩⟩,
  ⟨none, some 18, [(.tmp 17)], ⟨.f fMove, rMove⟩⟩,
  ⟨(some (4, 3, true, some 18)), some 19, [(.tmp 3)], ⟨.f (fFld 1), rFld 1⟩⟩,
  ⟨(some (5, 3, true, some 18)), some 20, [(.tmp 19)], ⟨.lr 3 1 false, rLr1 3⟩⟩,
  ⟨(some (6, 3, true, some 18)), some 21, [(.tmp 20), (.const (.int .u64 65536))], ⟨.f (fBin .eql .no), rEql⟩⟩,
  ⟨none, some 22, [(.tmp 18), (.tmp 21), (.const (.bool false))], ⟨.f fPick, rPick⟩⟩,
  ⟨none, some 23, [(.tmp 22)], ⟨.f fMove, rMove⟩⟩,
  ⟨(some (9, 8, true, some 23)), some 24, [(.tmp 4)], ⟨.f (fFld 1), rFld 1⟩⟩,
  ⟨(some (10, 8, true, some 23)), some 25, [(.tmp 24)], ⟨.lr 4 1 false, rLr1 4⟩⟩,
  ⟨(some (11, 8, true, some 23)), some 26, [(.tmp 25), (.const (.int .u64 65537))], ⟨.f (fBin .eql .no), rEql⟩⟩,
  ⟨none, some 27, [(.tmp 23), (.tmp 26), (.const (.bool false))], ⟨.f fPick, rPick⟩⟩,
  ⟨none, some 28, [(.tmp 27)], ⟨.f fMove, rMove⟩⟩,
  ⟨(some (14, 13, true, some 28)), some 29, [(.tmp 3)], ⟨.f (fFld 3), rFld 3⟩⟩,
  ⟨(some (15, 13, true, some 28)), some 30, [(.tmp 29)], ⟨.lr 3 1 false, rLr1 3⟩⟩,
  ⟨(some (16, 13, true, some 28)), some 31, [(.tmp 30), (.const (.int .i64 0))], ⟨.f (fBin .gtr .no), rGtr⟩⟩,
  ⟨none, some 32, [(.tmp 28), (.tmp 31), (.const (.bool false))], ⟨.f fPick, rPick⟩⟩,
  ⟨none, some 33, [(.tmp 32)], ⟨.f fMove, rMove⟩⟩,
  ⟨(some (19, 18, true, some 33)), some 34, [(.tmp 4)], ⟨.f (fFld 3), rFld 3⟩⟩,
  ⟨(some (20, 18, true, some 33)), some 35, [(.tmp 34)], ⟨.lr 4 1 false, rLr1 4⟩⟩,
  ⟨(some (21, 18, true, some 33)), some 36, [(.tmp 3)], ⟨.f (fFld 3), rFld 3⟩⟩,
  ⟨(some (22, 18, true, some 33)), some 37, [(.tmp 36)], ⟨.lr 3 1 false, rLr1 3⟩⟩,
  ⟨(some (23, 18, true, some 33)), some 38, [(.tmp 35), (.tmp 37)], ⟨.f (fBin .gtr .no), rGtr⟩⟩,
  ⟨none, some 39, [(.tmp 33), (.tmp 38), (.const (.bool false))], ⟨.f fPick, rPick⟩⟩,
  ⟨none, some 0, [(.tmp 39)], ⟨.f fMove, rMove⟩⟩])
 .ret)))))
noncomputable def v_law08_awake_r : EvF := evFn 0 xc_law08_awake_r [.t 0]
theorem xt_law08_awake_r : toC cx_law08_awake_r (bodyOf Try.f31) = some (xc_law08_awake_r.map XN.sm) := by kernel_rfl
theorem xr_law08_awake_r : toR cx_law08_awake_r Try.f31.results.toList = some [.t 0] := by kernel_rfl
theorem xo_law08_awake_r : xc_law08_awake_r.ok xl_law08_awake_r := ⟨⟨rMove_ok, trivial⟩, ⟨⟨rCall_ok ve_law04_Arena, rMove_ok, rAny_ok (eqv_ext _), rAny_ok (eqv_ext _), rAny_ok (trivial), rAny_ok (trivial), rMove_ok, trivial⟩, ⟨⟨⟨rMove_ok, rNot_ok, trivial⟩, ⟨⟨⟨rMove_ok, trivial⟩, trivial⟩, trivial⟩⟩, ⟨⟨rAny_ok (trivial), rCall_ok ve_law08_Make, rAny_ok (trivial), rCall_ok ve_law08_Make, rAny_ok (trivial), rAny_ok (trivial), rAny_ok (trivial), rAny_ok (trivial), trivial⟩, ⟨⟨rFld_ok _, rLr1_ok _, rEql_ok, rMove_ok, rFld_ok _, rLr1_ok _, rEql_ok, rPick_ok, rMove_ok, rFld_ok _, rLr1_ok _, rEql_ok, rPick_ok, rMove_ok, rFld_ok _, rLr1_ok _, rGtr_ok, rPick_ok, rMove_ok, rFld_ok _, rLr1_ok _, rFld_ok _, rLr1_ok _, rGtr_ok, rPick_ok, rMove_ok, trivial⟩, trivial⟩⟩⟩⟩⟩
theorem ve_law08_awake_r : EvOk s_law08_awake_r v_law08_awake_r := EvOk.of (evFn_sound (C := cx_law08_awake_r) xt_law08_awake_r xr_law08_awake_r xo_law08_awake_r) q_law08_awake_r

theorem a_law08_awake : v_law08_awake_r [] ⟨.e, 0⟩ (fun v _ => isT v) = true := by kernel_rfl
def s_law08_awake : Spec := sTrue
theorem e_law08_awake : Entry Try.prog 31 .none s_law08_awake := e_law08_awake_r.awake ve_law08_awake_r a_law08_awake
noncomputable def v_law08_awake : EvF := vTrue
theorem ve_law08_awake : EvOk s_law08_awake v_law08_awake := vTrue_ok

attribute [irreducible] w_law08_awake_r s_law08_awake_r s_law08_awake

/-! ### /law08.AllocGives -/
def w_law08_AllocGives_j3b (K : Value → Mem → Prop) (σ : Mem) : Prop :=
xF fMove [(.pointer none)] fun v11 =>
xF fMove [v11] fun v67 =>
s_alloc_Alloc_Done [v67] (fun v68 σ =>
xF (fFldV 0 1 false) [v68] fun v69 =>
xF (fBin .eql .no) [v69, (.int .i64 1)] fun v70 =>
xF fMove [v70] fun v4 =>
K v4 σ) σ

def w_law08_AllocGives_j3 (K : Value → Mem → Prop) (ts : List Value) (ls : List (List Value)) (σ : Mem) : Prop := w_law08_AllocGives_j3b K σ

def w_law08_AllocGives_j4b (K : Value → Mem → Prop) (J3 : List Value → List (List Value) → Mem → Prop) (R1 : List Value → List (List Value) → Mem → Prop) (v5 v10 : Value) (c6 : List Value) (σ : Mem) : Prop :=
xO (gLoad 9 true [(locP 6)] c6) fun v63 =>
s_law08_Make [v63, (.int .i64 1), (.bool false)] (fun v64 σ =>
xF (fFldV 0 1 false) [v64] fun v65 =>
xF (fBin .neq .no) [v65, (.int .i64 0)] fun v66 =>
xIf v66
 (xF fMove [(.bool false)] fun v4 =>
K v4 σ)
 (xF fMove [v10] fun v61 =>
xF (fBin .add .no) [v61, (.int .i64 1)] fun v62 =>
xF fMove [v62] fun v10 =>
R1 [v5, v10] [c6] σ)) σ

def w_law08_AllocGives_j4 (K : Value → Mem → Prop) (J3 : List Value → List (List Value) → Mem → Prop) (R1 : List Value → List (List Value) → Mem → Prop) (ts : List Value) (ls : List (List Value)) (σ : Mem) : Prop := w_law08_AllocGives_j4b K J3 R1 (ts.getD 0 poison) (ts.getD 1 poison) (ls.getD 0 []) σ

def w_law08_AllocGives_l15b (K : Value → Mem → Prop) (J3 : List Value → List (List Value) → Mem → Prop) (R1 : List Value → List (List Value) → Mem → Prop) (v5 v10 : Value) (c6 : List Value) (σ : Mem) : Prop :=
xJoin (w_law08_AllocGives_j4 K J3 R1) fun J4 =>
xF fMove [v10] fun v54 =>
xF fMove [v5] fun v55 =>
xF (fBin .lss .no) [v54, v55] fun v56 =>
xF fMove [v56] fun v57 =>
xIf v57
 (xF fMove [v10] fun v58 =>
xF (fBin .lss .no) [v58, (.int .i64 5)] fun v59 =>
xF fPick [(.bool true), v59, (.bool false)] fun v60 =>
xIf v60
 (J4 [v5, v10] [c6] σ)
 (J3 [] [] σ))
 (xF fPick [(.bool false), undef, (.bool false)] fun v60 =>
xIf v60
 (J4 [v5, v10] [c6] σ)
 (J3 [] [] σ))

def w_law08_AllocGives_l15 (K : Value → Mem → Prop) (J3 : List Value → List (List Value) → Mem → Prop) (R1 : List Value → List (List Value) → Mem → Prop) (ts : List Value) (ls : List (List Value)) (σ : Mem) : Prop := w_law08_AllocGives_l15b K J3 R1 (ts.getD 0 poison) (ts.getD 1 poison) (ls.getD 0 []) σ

def w_law08_AllocGives_j2b (K : Value → Mem → Prop) (v5 : Value) (c6 : List Value) (σ : Mem) : Prop :=
xJoin (w_law08_AllocGives_j3 K) fun J3 =>
xF fMove [(.int .i64 1)] fun v10 =>
xLoop (w_law08_AllocGives_l15 K J3) [v5, v10] [c6] σ

def w_law08_AllocGives_j2 (K : Value → Mem → Prop) (ts : List Value) (ls : List (List Value)) (σ : Mem) : Prop := w_law08_AllocGives_j2b K (ts.getD 0 poison) (ls.getD 0 []) σ

def w_law08_AllocGives_j5b (K : Value → Mem → Prop) (J2 : List Value → List (List Value) → Mem → Prop) (R1 : List Value → List (List Value) → Mem → Prop) (v1 v5 v8 v53 : Value) (c6 : List Value) (σ : Mem) : Prop :=
xIf v53
 (xF fMove [(.bool false)] fun v4 =>
K v4 σ)
 (xF fMove [v8] fun v34 =>
xF (fBin .add .no) [v34, (.int .i64 1)] fun v35 =>
xF fMove [v35] fun v8 =>
R1 [v1, v5, v8] [c6] σ)

def w_law08_AllocGives_j5 (K : Value → Mem → Prop) (J2 : List Value → List (List Value) → Mem → Prop) (R1 : List Value → List (List Value) → Mem → Prop) (ts : List Value) (ls : List (List Value)) (σ : Mem) : Prop := w_law08_AllocGives_j5b K J2 R1 (ts.getD 0 poison) (ts.getD 1 poison) (ts.getD 2 poison) (ts.getD 3 poison) (ls.getD 0 []) σ

def w_law08_AllocGives_l9b (K : Value → Mem → Prop) (J2 : List Value → List (List Value) → Mem → Prop) (R1 : List Value → List (List Value) → Mem → Prop) (v1 v5 v8 : Value) (c6 : List Value) (σ : Mem) : Prop :=
xF fMove [v8] fun v30 =>
xF fMove [v1] fun v31 =>
xF (fBin .and .no) [v31, (.int .i64 15)] fun v32 =>
xF (fBin .lss .no) [v30, v32] fun v33 =>
xIf v33
 (xO (gLoad 9 true [(locP 6)] c6) fun v36 =>
s_law08_Make [v36, (.int .i64 16), (.bool false)] (fun v37 σ =>
xC (gStore 4 [(locP 9), v37] [(.int .i64 0), (.int .u64 0), (.int .i64 0), (.int .i64 0)]) fun c9 =>
xJoin (w_law08_AllocGives_j5 K J2 R1) fun J5 =>
xF fMove [v5] fun v38 =>
xF (fBin .gtr .no) [v38, (.int .i64 1)] fun v39 =>
xF fMove [v39] fun v40 =>
xIf v40
 (xF (fFld 0) [(locP 9)] fun v41 =>
xO (gLoad 1 false [v41] c9) fun v42 =>
xF (fBin .neq .no) [v42, (.int .i64 6)] fun v43 =>
xF fPick [(.bool true), v43, (.bool false)] fun v44 =>
xF fMove [v44] fun v45 =>
xIf v45
 (xF fPick [(.bool true), (.bool true), undef] fun v53 =>
J5 [v1, v5, v8, v53] [c6] σ)
 (xF fMove [v5] fun v46 =>
xF (fBin .eql .no) [v46, (.int .i64 1)] fun v47 =>
xF fMove [v47] fun v48 =>
xIf v48
 (xF (fFld 0) [(locP 9)] fun v49 =>
xO (gLoad 1 false [v49] c9) fun v50 =>
xF (fBin .neq .no) [v50, (.int .i64 7)] fun v51 =>
xF fPick [(.bool true), v51, (.bool false)] fun v52 =>
xF fPick [(.bool false), (.bool true), v52] fun v53 =>
J5 [v1, v5, v8, v53] [c6] σ)
 (xF fPick [(.bool false), undef, (.bool false)] fun v52 =>
xF fPick [(.bool false), (.bool true), v52] fun v53 =>
J5 [v1, v5, v8, v53] [c6] σ)))
 (xF fPick [(.bool false), undef, (.bool false)] fun v44 =>
xF fMove [v44] fun v45 =>
xIf v45
 (xF fPick [(.bool true), (.bool true), undef] fun v53 =>
J5 [v1, v5, v8, v53] [c6] σ)
 (xF fMove [v5] fun v46 =>
xF (fBin .eql .no) [v46, (.int .i64 1)] fun v47 =>
xF fMove [v47] fun v48 =>
xIf v48
 (xF (fFld 0) [(locP 9)] fun v49 =>
xO (gLoad 1 false [v49] c9) fun v50 =>
xF (fBin .neq .no) [v50, (.int .i64 7)] fun v51 =>
xF fPick [(.bool true), v51, (.bool false)] fun v52 =>
xF fPick [(.bool false), (.bool true), v52] fun v53 =>
J5 [v1, v5, v8, v53] [c6] σ)
 (xF fPick [(.bool false), undef, (.bool false)] fun v52 =>
xF fPick [(.bool false), (.bool true), v52] fun v53 =>
J5 [v1, v5, v8, v53] [c6] σ)))) σ)
 (J2 [v5] [c6] σ)

def w_law08_AllocGives_l9 (K : Value → Mem → Prop) (J2 : List Value → List (List Value) → Mem → Prop) (R1 : List Value → List (List Value) → Mem → Prop) (ts : List Value) (ls : List (List Value)) (σ : Mem) : Prop := w_law08_AllocGives_l9b K J2 R1 (ts.getD 0 poison) (ts.getD 1 poison) (ts.getD 2 poison) (ls.getD 0 []) σ

def w_law08_AllocGives_j1b (K : Value → Mem → Prop) (v1 v5 v25 : Value) (c6 : List Value) (σ : Mem) : Prop :=
xIf v25
 (xF fMove [(.bool false)] fun v4 =>
K v4 σ)
 (xO (gLoad 9 true [(locP 6)] c6) fun v26 =>
s_law08_Make [v26, (.int .i64 2), (.bool false)] (fun v27 σ =>
xF (fFldV 0 1 false) [v27] fun v28 =>
xF (fBin .neq .no) [v28, (.int .i64 0)] fun v29 =>
xIf v29
 (xF fMove [(.bool false)] fun v4 =>
K v4 σ)
 (xJoin (w_law08_AllocGives_j2 K) fun J2 =>
xF fMove [(.int .i64 0)] fun v8 =>
xLoop (w_law08_AllocGives_l9 K J2) [v1, v5, v8] [c6] σ)) σ)

def w_law08_AllocGives_j1 (K : Value → Mem → Prop) (ts : List Value) (ls : List (List Value)) (σ : Mem) : Prop := w_law08_AllocGives_j1b K (ts.getD 0 poison) (ts.getD 1 poison) (ts.getD 2 poison) (ls.getD 0 []) σ

def w_law08_AllocGives (a0 a1 : Value) (K : Value → Mem → Prop) (σ : Mem) : Prop :=
xF fMove [(.bool false)] fun v4 =>
xF fMove [a0] fun v12 =>
xF (fBin .and .no) [v12, (.int .i64 7)] fun v13 =>
xF (fBin .add .no) [(.int .i64 1), v13] fun v14 =>
xF fMove [v14] fun v5 =>
xF fMove [v5] fun v16 =>
s_law04_Arena [(.int .i64 1), v16, (.int .i64 1), (.int .i64 17)] (fun v17 σ =>
xF fMove [v17] fun v15 =>
xF (fExt 0) [v15] fun v18 =>
xF (fExt 1) [v15] fun v19 =>
xC (gStore 9 [(locP 6), v18] [(.int .i64 0), (.int .i64 0), (.int .i64 0), (.int .i64 0), (.int .i64 0), (.int .i64 0), (.int .i64 0), (.pointer none), (.int .i64 0)]) fun c6 =>
xF fMove [v19] fun v7 =>
xJoin (w_law08_AllocGives_j1 K) fun J1 =>
s_law08_awake [] (fun v20 σ =>
xF (fUn .not) [v20] fun v21 =>
xF fMove [v21] fun v22 =>
xIf v22
 (xF fPick [(.bool true), (.bool true), undef] fun v25 =>
J1 [a1, v5, v25] [c6] σ)
 (xF fMove [v7] fun v23 =>
xF (fUn .not) [v23] fun v24 =>
xF fPick [(.bool false), (.bool true), v24] fun v25 =>
J1 [a1, v5, v25] [c6] σ)) σ) σ

def s_law08_AllocGives : Spec := fun args K σ => match args with
  | [a0, a1] => w_law08_AllocGives a0 a1 K σ
  | _ => False

noncomputable def cx_law08_AllocGives : Cx := { P := Try.prog, T := [(13, .write, s_law04_Arena), (31, .none, s_law08_awake), (32, .write, s_law08_Make), (33, .read, s_alloc_Alloc_Done)], loc := [(6, 6), (9, 9), (41, 9), (49, 9)], eqt := [], n := 71, keep := [(9, [1, 5, 8], [6]), (15, [5, 10], [6]), (1000005, [1, 5, 25], [6]), (1000013, [1, 5, 8, 53], [6]), (1000014, [5], [6]), (1000017, [5, 10], [6]), (1000019, [], [])] }
theorem q_law08_AllocGives : FnS cx_law08_AllocGives Try.f8 (bodyOf Try.f8) 2 = s_law08_AllocGives := by
  funext args K σ
  rcases args with _ | ⟨a0, _ | ⟨a1, _ | ⟨b, r⟩⟩⟩ <;> kernel_rfl
theorem e_law08_AllocGives : Entry Try.prog 8 .write s_law08_AllocGives :=
  entry (C := cx_law08_AllocGives) (TOk.cons e_law04_Arena (TOk.cons e_law08_awake (TOk.cons e_law08_Make (TOk.cons e_alloc_Alloc_Done TOk.nil)))) mixedOk Try.func8 (by kernel_rfl) (by kernel_rfl) (by kernel_rfl) q_law08_AllocGives

def xl_law08_AllocGives : List (Nat × Nat) := [(6, 6), (9, 9), (41, 9), (49, 9)]
noncomputable def xc_law08_AllocGives : XC XN :=
(.seq none
 (.reg [⟨none, some 4, [(.const (.bool false))], ⟨.f fMove, rMove⟩⟩])
 (.seq none
 (.reg [⟨none, some 12, [(.tmp 0)], ⟨.f fMove, rMove⟩⟩,
  ⟨none, some 13, [(.tmp 12), (.const (.int .i64 7))], ⟨.band .no, rAny xl_law08_AllocGives (.band .no)⟩⟩,
  ⟨none, some 14, [(.const (.int .i64 1)), (.tmp 13)], ⟨.f (fBin .add .no), rAdd⟩⟩,
  ⟨none, some 5, [(.tmp 14)], ⟨.f fMove, rMove⟩⟩])
 (.seq none
 (.reg [⟨none, some 16, [(.tmp 5)], ⟨.f fMove, rMove⟩⟩,
  ⟨none, some 17, [(.const (.int .i64 1)), (.tmp 16), (.const (.int .i64 1)), (.const (.int .i64 17))], ⟨.call .write s_law04_Arena v_law04_Arena, rCall v_law04_Arena⟩⟩,
  ⟨none, some 15, [(.tmp 17)], ⟨.f fMove, rMove⟩⟩,
  ⟨none, some 18, [(.tmp 15)], ⟨.f (fExt 0), rAny xl_law08_AllocGives (.f (fExt 0))⟩⟩,
  ⟨none, some 19, [(.tmp 15)], ⟨.f (fExt 1), rAny xl_law08_AllocGives (.f (fExt 1))⟩⟩,
  ⟨none, some 6, [], ⟨.la 6 [(.int .i64 0), (.int .i64 0), (.int .i64 0), (.int .i64 0), (.int .i64 0), (.int .i64 0), (.int .i64 0), (.pointer none), (.int .i64 0)], rAny xl_law08_AllocGives (.la 6 [(.int .i64 0), (.int .i64 0), (.int .i64 0), (.int .i64 0), (.int .i64 0), (.int .i64 0), (.int .i64 0), (.pointer none), (.int .i64 0)])⟩⟩,
  ⟨none, none, [(.tmp 6), (.tmp 18)], ⟨.ls 6 9, rAny xl_law08_AllocGives (.ls 6 9)⟩⟩,
  ⟨none, some 7, [(.tmp 19)], ⟨.f fMove, rMove⟩⟩])
 (.seq none
 (.seq (some ([1, 5, 25], [6]))
 (.reg [⟨none, some 20, [], ⟨.call .none s_law08_awake v_law08_awake, rCall v_law08_awake⟩⟩,
  ⟨none, some 21, [(.tmp 20)], ⟨.f (fUn .not), rNot⟩⟩,
  ⟨none, some 22, [(.tmp 21)], ⟨.f fMove, rMove⟩⟩,
  ⟨(some (3, 2, false, some 22)), some 23, [(.tmp 7)], ⟨.f fMove, rMove⟩⟩,
  ⟨(some (4, 2, false, some 22)), some 24, [(.tmp 23)], ⟨.f (fUn .not), rNot⟩⟩,
  ⟨none, some 25, [(.tmp 22), (.const (.bool true)), (.tmp 24)], ⟨.f fPick, rPick⟩⟩])
 (.cond (.tmp 25)
 (.seq none
 (.reg [⟨none, some 4, [(.const (.bool false))], ⟨.f fMove, rMove⟩⟩])
 .ret)
 .skip))
 (.seq none
 (.seq none
 (.reg [⟨none, some 26, [(.tmp 6)], ⟨.lr 6 9 true, rAny xl_law08_AllocGives (.lr 6 9 true)⟩⟩,
  ⟨none, some 27, [(.tmp 26), (.const (.int .i64 2)), (.const (.bool false))], ⟨.call .write s_law08_Make v_law08_Make, rCall v_law08_Make⟩⟩,
  ⟨none, some 28, [(.tmp 27)], ⟨.f (fFldV 0 1 false), rAny xl_law08_AllocGives (.f (fFldV 0 1 false))⟩⟩,
  ⟨none, some 29, [(.tmp 28), (.const (.int .i64 0))], ⟨.f (fBin .neq .no), rNeq⟩⟩])
 (.cond (.tmp 29)
 (.seq none
 (.reg [⟨none, some 4, [(.const (.bool false))], ⟨.f fMove, rMove⟩⟩])
 .ret)
 .skip))
 (.seq (some ([5], [6]))
 (.seq none
 (.reg [⟨none, some 8, [(.const (.int .i64 0))], ⟨.f fMove, rMove⟩⟩])
 (.block 0
 (.loop ([1, 5, 8], [6])
 (.seq none
 (.seq none
 (.reg [⟨none, some 30, [(.tmp 8)], ⟨.f fMove, rMove⟩⟩,
  ⟨none, some 31, [(.tmp 1)], ⟨.f fMove, rMove⟩⟩,
  ⟨none, some 32, [(.tmp 31), (.const (.int .i64 15))], ⟨.band .no, rAny xl_law08_AllocGives (.band .no)⟩⟩,
  ⟨none, some 33, [(.tmp 30), (.tmp 32)], ⟨.f (fBin .lss .no), rLss⟩⟩])
 (.cond (.tmp 33)
 .skip
 (.exit 0)))
 (.seq none
 (.block 1
 (.seq none
 (.reg [⟨none, some 36, [(.tmp 6)], ⟨.lr 6 9 true, rAny xl_law08_AllocGives (.lr 6 9 true)⟩⟩,
  ⟨none, some 37, [(.tmp 36), (.const (.int .i64 16)), (.const (.bool false))], ⟨.call .write s_law08_Make v_law08_Make, rCall v_law08_Make⟩⟩,
  ⟨none, some 9, [], ⟨.la 9 [(.int .i64 0), (.int .u64 0), (.int .i64 0), (.int .i64 0)], rAny xl_law08_AllocGives (.la 9 [(.int .i64 0), (.int .u64 0), (.int .i64 0), (.int .i64 0)])⟩⟩,
  ⟨none, none, [(.tmp 9), (.tmp 37)], ⟨.ls 9 4, rAny xl_law08_AllocGives (.ls 9 4)⟩⟩])
 (.seq (some ([1, 5, 8, 53], [6]))
 (.reg [⟨none, some 38, [(.tmp 5)], ⟨.f fMove, rMove⟩⟩,
  ⟨none, some 39, [(.tmp 38), (.const (.int .i64 1))], ⟨.f (fBin .gtr .no), rGtr⟩⟩,
  ⟨none, some 40, [(.tmp 39)], ⟨.f fMove, rMove⟩⟩,
  ⟨(some (3, 2, true, some 40)), some 41, [(.tmp 9)], ⟨.f (fFld 0), rFld 0⟩⟩,
  ⟨(some (4, 2, true, some 40)), some 42, [(.tmp 41)], ⟨.lr 9 1 false, rLr1 9⟩⟩,
  ⟨(some (5, 2, true, some 40)), some 43, [(.tmp 42), (.const (.int .i64 6))], ⟨.f (fBin .neq .no), rNeq⟩⟩,
  ⟨none, some 44, [(.tmp 40), (.tmp 43), (.const (.bool false))], ⟨.f fPick, rPick⟩⟩,
  ⟨none, some 45, [(.tmp 44)], ⟨.f fMove, rMove⟩⟩,
  ⟨(some (8, 7, false, some 45)), some 46, [(.tmp 5)], ⟨.f fMove, rMove⟩⟩,
  ⟨(some (9, 7, false, some 45)), some 47, [(.tmp 46), (.const (.int .i64 1))], ⟨.f (fBin .eql .no), rEql⟩⟩,
  ⟨(some (10, 7, false, some 45)), some 48, [(.tmp 47)], ⟨.f fMove, rMove⟩⟩,
  ⟨(some (11, 10, true, some 48)), some 49, [(.tmp 9)], ⟨.f (fFld 0), rFld 0⟩⟩,
  ⟨(some (12, 10, true, some 48)), some 50, [(.tmp 49)], ⟨.lr 9 1 false, rLr1 9⟩⟩,
  ⟨(some (13, 10, true, some 48)), some 51, [(.tmp 50), (.const (.int .i64 7))], ⟨.f (fBin .neq .no), rNeq⟩⟩,
  ⟨(some (14, 7, false, some 45)), some 52, [(.tmp 48), (.tmp 51), (.const (.bool false))], ⟨.f fPick, rPick⟩⟩,
  ⟨none, some 53, [(.tmp 45), (.const (.bool true)), (.tmp 52)], ⟨.f fPick, rPick⟩⟩])
 (.cond (.tmp 53)
 (.seq none
 (.reg [⟨none, some 4, [(.const (.bool false))], ⟨.f fMove, rMove⟩⟩])
 .ret)
 .skip))))
 (.reg [⟨none, some 34, [(.tmp 8)], ⟨.f fMove, rMove⟩⟩,
  ⟨none, some 35, [(.tmp 34), (.const (.int .i64 1))], ⟨.f (fBin .add .no), rAdd⟩⟩,
  ⟨none, some 8, [(.tmp 35)], ⟨.f fMove, rMove⟩⟩]))))))
 (.seq (some ([], []))
 (.seq none
 (.reg [⟨none, some 10, [(.const (.int .i64 1))], ⟨.f fMove, rMove⟩⟩])
 (.block 2
 (.loop ([5, 10], [6])
 (.seq (some ([5, 10], [6]))
 (.seq none
 (.reg [⟨none, some 54, [(.tmp 10)], ⟨.f fMove, rMove⟩⟩,
  ⟨none, some 55, [(.tmp 5)], ⟨.f fMove, rMove⟩⟩,
  ⟨none, some 56, [(.tmp 54), (.tmp 55)], ⟨.f (fBin .lss .no), rLss⟩⟩,
  ⟨none, some 57, [(.tmp 56)], ⟨.f fMove, rMove⟩⟩,
  ⟨(some (4, 3, true, some 57)), some 58, [(.tmp 10)], ⟨.f fMove, rMove⟩⟩,
  ⟨(some (5, 3, true, some 57)), some 59, [(.tmp 58), (.const (.int .i64 5))], ⟨.f (fBin .lss .no), rLss⟩⟩,
  ⟨none, some 60, [(.tmp 57), (.tmp 59), (.const (.bool false))], ⟨.f fPick, rPick⟩⟩])
 (.cond (.tmp 60)
 .skip
 (.exit 2)))
 (.seq none
 (.block 3
 (.seq none
 (.reg [⟨none, some 63, [(.tmp 6)], ⟨.lr 6 9 true, rAny xl_law08_AllocGives (.lr 6 9 true)⟩⟩,
  ⟨none, some 64, [(.tmp 63), (.const (.int .i64 1)), (.const (.bool false))], ⟨.call .write s_law08_Make v_law08_Make, rCall v_law08_Make⟩⟩,
  ⟨none, some 65, [(.tmp 64)], ⟨.f (fFldV 0 1 false), rAny xl_law08_AllocGives (.f (fFldV 0 1 false))⟩⟩,
  ⟨none, some 66, [(.tmp 65), (.const (.int .i64 0))], ⟨.f (fBin .neq .no), rNeq⟩⟩])
 (.cond (.tmp 66)
 (.seq none
 (.reg [⟨none, some 4, [(.const (.bool false))], ⟨.f fMove, rMove⟩⟩])
 .ret)
 .skip)))
 (.reg [⟨none, some 61, [(.tmp 10)], ⟨.f fMove, rMove⟩⟩,
  ⟨none, some 62, [(.tmp 61), (.const (.int .i64 1))], ⟨.f (fBin .add .no), rAdd⟩⟩,
  ⟨none, some 10, [(.tmp 62)], ⟨.f fMove, rMove⟩⟩]))))))
 (.seq none
 (.reg [⟨none, some 11, [(.const (.pointer none))], ⟨.f fMove, rMove⟩⟩])
 (.seq none
 (.reg [⟨none, some 67, [(.tmp 11)], ⟨.f fMove, rMove⟩⟩,
  ⟨none, some 68, [(.tmp 67)], ⟨.call .read s_alloc_Alloc_Done v_alloc_Alloc_Done, rCall v_alloc_Alloc_Done⟩⟩,
  ⟨none, some 69, [(.tmp 68)], ⟨.f (fFldV 0 1 false), rAny xl_law08_AllocGives (.f (fFldV 0 1 false))⟩⟩,
  ⟨none, some 70, [(.tmp 69), (.const (.int .i64 1))], ⟨.f (fBin .eql .no), rEql⟩⟩,
  ⟨none, some 4, [(.tmp 70)], ⟨.f fMove, rMove⟩⟩])
 .ret)))))))))
noncomputable def v_law08_AllocGives : EvF := evFn 2 xc_law08_AllocGives [.t 4]
theorem xt_law08_AllocGives : toC cx_law08_AllocGives (bodyOf Try.f8) = some (xc_law08_AllocGives.map XN.sm) := by kernel_rfl
theorem xr_law08_AllocGives : toR cx_law08_AllocGives Try.f8.results.toList = some [.t 4] := by kernel_rfl
theorem xo_law08_AllocGives : xc_law08_AllocGives.ok xl_law08_AllocGives := ⟨⟨rMove_ok, trivial⟩, ⟨⟨rMove_ok, rAny_ok (trivial), rAdd_ok, rMove_ok, trivial⟩, ⟨⟨rMove_ok, rCall_ok ve_law04_Arena, rMove_ok, rAny_ok (eqv_ext _), rAny_ok (eqv_ext _), rAny_ok (trivial), rAny_ok (trivial), rMove_ok, trivial⟩, ⟨⟨⟨rCall_ok ve_law08_awake, rNot_ok, rMove_ok, rMove_ok, rNot_ok, rPick_ok, trivial⟩, ⟨⟨⟨rMove_ok, trivial⟩, trivial⟩, trivial⟩⟩, ⟨⟨⟨rAny_ok (trivial), rCall_ok ve_law08_Make, rAny_ok (eqv_fldV _ _ _), rNeq_ok, trivial⟩, ⟨⟨⟨rMove_ok, trivial⟩, trivial⟩, trivial⟩⟩, ⟨⟨⟨rMove_ok, trivial⟩, ⟨⟨⟨rMove_ok, rMove_ok, rAny_ok (trivial), rLss_ok, trivial⟩, ⟨trivial, trivial⟩⟩, ⟨⟨⟨rAny_ok (trivial), rCall_ok ve_law08_Make, rAny_ok (trivial), rAny_ok (trivial), trivial⟩, ⟨⟨rMove_ok, rGtr_ok, rMove_ok, rFld_ok _, rLr1_ok _, rNeq_ok, rPick_ok, rMove_ok, rMove_ok, rEql_ok, rMove_ok, rFld_ok _, rLr1_ok _, rNeq_ok, rPick_ok, rPick_ok, trivial⟩, ⟨⟨⟨rMove_ok, trivial⟩, trivial⟩, trivial⟩⟩⟩, ⟨rMove_ok, rAdd_ok, rMove_ok, trivial⟩⟩⟩⟩, ⟨⟨⟨rMove_ok, trivial⟩, ⟨⟨⟨rMove_ok, rMove_ok, rLss_ok, rMove_ok, rMove_ok, rLss_ok, rPick_ok, trivial⟩, ⟨trivial, trivial⟩⟩, ⟨⟨⟨rAny_ok (trivial), rCall_ok ve_law08_Make, rAny_ok (eqv_fldV _ _ _), rNeq_ok, trivial⟩, ⟨⟨⟨rMove_ok, trivial⟩, trivial⟩, trivial⟩⟩, ⟨rMove_ok, rAdd_ok, rMove_ok, trivial⟩⟩⟩⟩, ⟨⟨rMove_ok, trivial⟩, ⟨⟨rMove_ok, rCall_ok ve_alloc_Alloc_Done, rAny_ok (eqv_fldV _ _ _), rEql_ok, rMove_ok, trivial⟩, trivial⟩⟩⟩⟩⟩⟩⟩⟩⟩
theorem ve_law08_AllocGives : EvOk s_law08_AllocGives v_law08_AllocGives := EvOk.of (evFn_sound (C := cx_law08_AllocGives) xt_law08_AllocGives xr_law08_AllocGives xo_law08_AllocGives) q_law08_AllocGives

attribute [irreducible] w_law08_AllocGives_j3b w_law08_AllocGives_j3 w_law08_AllocGives_j4b w_law08_AllocGives_j4 w_law08_AllocGives_l15b w_law08_AllocGives_l15 w_law08_AllocGives_j2b w_law08_AllocGives_j2 w_law08_AllocGives_j5b w_law08_AllocGives_j5 w_law08_AllocGives_l9b w_law08_AllocGives_l9 w_law08_AllocGives_j1b w_law08_AllocGives_j1 w_law08_AllocGives s_law08_AllocGives

/-! ### /law08.AllocStamps -/
def w_law08_AllocStamps_j2b (K : Value → Mem → Prop) (v6 v7 : Value) (c3 : List Value) (σ : Mem) : Prop :=
xF fMove [v6] fun v49 =>
s_alloc_Alloc_Done [v49] (fun v50 σ =>
xC (gStore 4 [(locP 10), v50] [(.int .i64 0), (.int .u64 0), (.int .i64 0), (.int .i64 0)]) fun c10 =>
xF (fFld 0) [(locP 10)] fun v51 =>
xO (gLoad 1 false [v51] c10) fun v52 =>
xF (fBin .eql .no) [v52, (.int .i64 0)] fun v53 =>
xF fMove [v53] fun v54 =>
xIf v54
 (xF fMove [v7] fun v55 =>
xF (fBin .gtr .no) [v55, (.int .i64 0)] fun v56 =>
xF fPick [(.bool true), v56, (.bool false)] fun v57 =>
xF fMove [v57] fun v58 =>
xIf v58
 (xF (fFld 3) [(locP 10)] fun v59 =>
xO (gLoad 1 false [v59] c10) fun v60 =>
xF fMove [v7] fun v61 =>
xF (fBin .eql .no) [v60, v61] fun v62 =>
xF fPick [(.bool true), v62, (.bool false)] fun v63 =>
xF fMove [v63] fun v64 =>
xIf v64
 (xO (gLoad 9 true [(locP 3)] c3) fun v65 =>
s_layout_Env_Now [v65] (fun v66 σ =>
xF fMove [v7] fun v67 =>
xF (fBin .add .no) [v67, (.int .i64 1)] fun v68 =>
xF (fBin .eql .no) [v66, v68] fun v69 =>
xF fPick [(.bool true), v69, (.bool false)] fun v70 =>
xF fMove [v70] fun v2 =>
K v2 σ) σ)
 (xF fPick [(.bool false), undef, (.bool false)] fun v70 =>
xF fMove [v70] fun v2 =>
K v2 σ))
 (xF fPick [(.bool false), undef, (.bool false)] fun v63 =>
xF fMove [v63] fun v64 =>
xIf v64
 (xO (gLoad 9 true [(locP 3)] c3) fun v65 =>
s_layout_Env_Now [v65] (fun v66 σ =>
xF fMove [v7] fun v67 =>
xF (fBin .add .no) [v67, (.int .i64 1)] fun v68 =>
xF (fBin .eql .no) [v66, v68] fun v69 =>
xF fPick [(.bool true), v69, (.bool false)] fun v70 =>
xF fMove [v70] fun v2 =>
K v2 σ) σ)
 (xF fPick [(.bool false), undef, (.bool false)] fun v70 =>
xF fMove [v70] fun v2 =>
K v2 σ)))
 (xF fPick [(.bool false), undef, (.bool false)] fun v57 =>
xF fMove [v57] fun v58 =>
xIf v58
 (xF (fFld 3) [(locP 10)] fun v59 =>
xO (gLoad 1 false [v59] c10) fun v60 =>
xF fMove [v7] fun v61 =>
xF (fBin .eql .no) [v60, v61] fun v62 =>
xF fPick [(.bool true), v62, (.bool false)] fun v63 =>
xF fMove [v63] fun v64 =>
xIf v64
 (xO (gLoad 9 true [(locP 3)] c3) fun v65 =>
s_layout_Env_Now [v65] (fun v66 σ =>
xF fMove [v7] fun v67 =>
xF (fBin .add .no) [v67, (.int .i64 1)] fun v68 =>
xF (fBin .eql .no) [v66, v68] fun v69 =>
xF fPick [(.bool true), v69, (.bool false)] fun v70 =>
xF fMove [v70] fun v2 =>
K v2 σ) σ)
 (xF fPick [(.bool false), undef, (.bool false)] fun v70 =>
xF fMove [v70] fun v2 =>
K v2 σ))
 (xF fPick [(.bool false), undef, (.bool false)] fun v63 =>
xF fMove [v63] fun v64 =>
xIf v64
 (xO (gLoad 9 true [(locP 3)] c3) fun v65 =>
s_layout_Env_Now [v65] (fun v66 σ =>
xF fMove [v7] fun v67 =>
xF (fBin .add .no) [v67, (.int .i64 1)] fun v68 =>
xF (fBin .eql .no) [v66, v68] fun v69 =>
xF fPick [(.bool true), v69, (.bool false)] fun v70 =>
xF fMove [v70] fun v2 =>
K v2 σ) σ)
 (xF fPick [(.bool false), undef, (.bool false)] fun v70 =>
xF fMove [v70] fun v2 =>
K v2 σ)))) σ

def w_law08_AllocStamps_j2 (K : Value → Mem → Prop) (ts : List Value) (ls : List (List Value)) (σ : Mem) : Prop := w_law08_AllocStamps_j2b K (ts.getD 0 poison) (ts.getD 1 poison) (ls.getD 0 []) σ

def w_law08_AllocStamps_j3b (K : Value → Mem → Prop) (J2 : List Value → List (List Value) → Mem → Prop) (R1 : List Value → List (List Value) → Mem → Prop) (v6 v7 v8 v9 : Value) (c3 : List Value) (σ : Mem) : Prop :=
xF fMove [v9] fun v48 =>
xIf v48
 (J2 [v6, v7] [c3] σ)
 (xF fMove [v8] fun v28 =>
xF (fBin .add .no) [v28, (.int .i64 1)] fun v29 =>
xF fMove [v29] fun v8 =>
R1 [v6, v7, v8] [c3] σ)

def w_law08_AllocStamps_j3 (K : Value → Mem → Prop) (J2 : List Value → List (List Value) → Mem → Prop) (R1 : List Value → List (List Value) → Mem → Prop) (ts : List Value) (ls : List (List Value)) (σ : Mem) : Prop := w_law08_AllocStamps_j3b K J2 R1 (ts.getD 0 poison) (ts.getD 1 poison) (ts.getD 2 poison) (ts.getD 3 poison) (ls.getD 0 []) σ

def w_law08_AllocStamps_j4b (K : Value → Mem → Prop) (J2 : List Value → List (List Value) → Mem → Prop) (R1 : List Value → List (List Value) → Mem → Prop) (J3 : List Value → List (List Value) → Mem → Prop) (v6 v7 v8 v9 v45 : Value) (c3 : List Value) (σ : Mem) : Prop :=
xIf v45
 (xO (gLoad 9 true [(locP 3)] c3) fun v46 =>
s_layout_Env_Now [v46] (fun v47 σ =>
xF fMove [v47] fun v7 =>
J3 [v6, v7, v8, v9] [c3] σ) σ)
 (J3 [v6, v7, v8, v9] [c3] σ)

def w_law08_AllocStamps_j4 (K : Value → Mem → Prop) (J2 : List Value → List (List Value) → Mem → Prop) (R1 : List Value → List (List Value) → Mem → Prop) (J3 : List Value → List (List Value) → Mem → Prop) (ts : List Value) (ls : List (List Value)) (σ : Mem) : Prop := w_law08_AllocStamps_j4b K J2 R1 J3 (ts.getD 0 poison) (ts.getD 1 poison) (ts.getD 2 poison) (ts.getD 3 poison) (ts.getD 4 poison) (ls.getD 0 []) σ

def w_law08_AllocStamps_l9b (K : Value → Mem → Prop) (J2 : List Value → List (List Value) → Mem → Prop) (R1 : List Value → List (List Value) → Mem → Prop) (v6 v7 v8 : Value) (c3 : List Value) (σ : Mem) : Prop :=
xF fMove [v8] fun v26 =>
xF (fBin .lss .no) [v26, (.int .i64 60)] fun v27 =>
xIf v27
 (xF fMove [v6] fun v30 =>
xO (gLoad 9 true [(locP 3)] c3) fun v31 =>
s_alloc_Alloc_Step [v30, v31] (fun v32 σ =>
xF fMove [v32] fun v9 =>
xJoin (w_law08_AllocStamps_j3 K J2 R1) fun J3 =>
xJoin (w_law08_AllocStamps_j4 K J2 R1 J3) fun J4 =>
xF fMove [v7] fun v33 =>
xF (fBin .eql .no) [v33, (.int .i64 0)] fun v34 =>
xF fMove [v34] fun v35 =>
xIf v35
 (xF (fFld 7) [(locP 3)] fun v36 =>
xO (gLoad 1 false [v36] c3) fun v37 =>
xF (fFld 0) [(locP 3)] fun v38 =>
xO (gLoad 7 true [v38] c3) fun v39 =>
s_layout_Slot [v39, (.int .i64 0)] (fun v40 σ =>
s_mem_Mem_Peek [v37, v40] (fun v41 σ =>
s_word_Slot [v41] (fun v42 σ =>
xF (fFldV 0 1 false) [v42] fun v43 =>
xF (fBin .eql .no) [v43, (.int .i64 1)] fun v44 =>
xF fPick [(.bool true), v44, (.bool false)] fun v45 =>
J4 [v6, v7, v8, v9, v45] [c3] σ) σ) σ) σ)
 (xF fPick [(.bool false), undef, (.bool false)] fun v45 =>
J4 [v6, v7, v8, v9, v45] [c3] σ)) σ)
 (J2 [v6, v7] [c3] σ)

def w_law08_AllocStamps_l9 (K : Value → Mem → Prop) (J2 : List Value → List (List Value) → Mem → Prop) (R1 : List Value → List (List Value) → Mem → Prop) (ts : List Value) (ls : List (List Value)) (σ : Mem) : Prop := w_law08_AllocStamps_l9b K J2 R1 (ts.getD 0 poison) (ts.getD 1 poison) (ts.getD 2 poison) (ls.getD 0 []) σ

def w_law08_AllocStamps_j1b (K : Value → Mem → Prop) (v0 v20 : Value) (c3 : List Value) (σ : Mem) : Prop :=
xIf v20
 (xF fMove [(.bool false)] fun v2 =>
K v2 σ)
 (xF fMove [v0] fun v21 =>
xF (fBin .and .no) [v21, (.int .i64 15)] fun v22 =>
xF (fBin .add .no) [(.int .i64 1), v22] fun v23 =>
xF fMove [v23] fun v5 =>
xF fMove [v5] fun v24 =>
s_alloc_New [v24, (.bool false)] (fun v25 σ =>
xF fMove [v25] fun v6 =>
xF fMove [(.int .i64 0)] fun v7 =>
xJoin (w_law08_AllocStamps_j2 K) fun J2 =>
xF fMove [(.int .i64 0)] fun v8 =>
xLoop (w_law08_AllocStamps_l9 K J2) [v6, v7, v8] [c3] σ) σ)

def w_law08_AllocStamps_j1 (K : Value → Mem → Prop) (ts : List Value) (ls : List (List Value)) (σ : Mem) : Prop := w_law08_AllocStamps_j1b K (ts.getD 0 poison) (ts.getD 1 poison) (ls.getD 0 []) σ

def w_law08_AllocStamps (a0 : Value) (K : Value → Mem → Prop) (σ : Mem) : Prop :=
xF fMove [(.bool false)] fun v2 =>
s_law04_Arena [(.int .i64 1), (.int .i64 4), (.int .i64 4), (.int .i64 20)] (fun v12 σ =>
xF fMove [v12] fun v11 =>
xF (fExt 0) [v11] fun v13 =>
xF (fExt 1) [v11] fun v14 =>
xC (gStore 9 [(locP 3), v13] [(.int .i64 0), (.int .i64 0), (.int .i64 0), (.int .i64 0), (.int .i64 0), (.int .i64 0), (.int .i64 0), (.pointer none), (.int .i64 0)]) fun c3 =>
xF fMove [v14] fun v4 =>
xJoin (w_law08_AllocStamps_j1 K) fun J1 =>
s_law08_awake [] (fun v15 σ =>
xF (fUn .not) [v15] fun v16 =>
xF fMove [v16] fun v17 =>
xIf v17
 (xF fPick [(.bool true), (.bool true), undef] fun v20 =>
J1 [a0, v20] [c3] σ)
 (xF fMove [v4] fun v18 =>
xF (fUn .not) [v18] fun v19 =>
xF fPick [(.bool false), (.bool true), v19] fun v20 =>
J1 [a0, v20] [c3] σ)) σ) σ

def s_law08_AllocStamps : Spec := fun args K σ => match args with
  | [a0] => w_law08_AllocStamps a0 K σ
  | _ => False

noncomputable def cx_law08_AllocStamps : Cx := { P := Try.prog, T := [(13, .write, s_law04_Arena), (31, .none, s_law08_awake), (34, .write, s_alloc_New), (35, .write, s_alloc_Alloc_Step), (37, .none, s_layout_Slot), (19, .read, s_mem_Mem_Peek), (36, .none, s_word_Slot), (29, .read, s_layout_Env_Now), (33, .read, s_alloc_Alloc_Done)], loc := [(3, 3), (10, 10), (36, 3), (38, 3), (51, 10), (59, 10)], eqt := [], n := 71, keep := [(9, [6, 7, 8], [3]), (1000004, [0, 20], [3]), (1000013, [6, 7, 8, 9, 45], [3]), (1000014, [6, 7, 8, 9], [3]), (1000015, [6, 7], [3])] }
theorem q_law08_AllocStamps : FnS cx_law08_AllocStamps Try.f9 (bodyOf Try.f9) 1 = s_law08_AllocStamps := by
  funext args K σ
  rcases args with _ | ⟨a0, _ | ⟨b, r⟩⟩ <;> kernel_rfl
theorem e_law08_AllocStamps : Entry Try.prog 9 .write s_law08_AllocStamps :=
  entry (C := cx_law08_AllocStamps) (TOk.cons e_law04_Arena (TOk.cons e_law08_awake (TOk.cons e_alloc_New (TOk.cons e_alloc_Alloc_Step (TOk.cons e_layout_Slot (TOk.cons e_mem_Mem_Peek (TOk.cons e_word_Slot (TOk.cons e_layout_Env_Now (TOk.cons e_alloc_Alloc_Done TOk.nil))))))))) mixedOk Try.func9 (by kernel_rfl) (by kernel_rfl) (by kernel_rfl) q_law08_AllocStamps

def xl_law08_AllocStamps : List (Nat × Nat) := [(3, 3), (10, 10), (36, 3), (38, 3), (51, 10), (59, 10)]
noncomputable def xc_law08_AllocStamps : XC XN :=
(.seq none
 (.reg [⟨none, some 2, [(.const (.bool false))], ⟨.f fMove, rMove⟩⟩])
 (.seq none
 (.reg [⟨none, some 12, [(.const (.int .i64 1)), (.const (.int .i64 4)), (.const (.int .i64 4)), (.const (.int .i64 20))], ⟨.call .write s_law04_Arena v_law04_Arena, rCall v_law04_Arena⟩⟩,
  ⟨none, some 11, [(.tmp 12)], ⟨.f fMove, rMove⟩⟩,
  ⟨none, some 13, [(.tmp 11)], ⟨.f (fExt 0), rAny xl_law08_AllocStamps (.f (fExt 0))⟩⟩,
  ⟨none, some 14, [(.tmp 11)], ⟨.f (fExt 1), rAny xl_law08_AllocStamps (.f (fExt 1))⟩⟩,
  ⟨none, some 3, [], ⟨.la 3 [(.int .i64 0), (.int .i64 0), (.int .i64 0), (.int .i64 0), (.int .i64 0), (.int .i64 0), (.int .i64 0), (.pointer none), (.int .i64 0)], rAny xl_law08_AllocStamps (.la 3 [(.int .i64 0), (.int .i64 0), (.int .i64 0), (.int .i64 0), (.int .i64 0), (.int .i64 0), (.int .i64 0), (.pointer none), (.int .i64 0)])⟩⟩,
  ⟨none, none, [(.tmp 3), (.tmp 13)], ⟨.ls 3 9, rAny xl_law08_AllocStamps (.ls 3 9)⟩⟩,
  ⟨none, some 4, [(.tmp 14)], ⟨.f fMove, rMove⟩⟩])
 (.seq none
 (.seq (some ([0, 20], [3]))
 (.reg [⟨none, some 15, [], ⟨.call .none s_law08_awake v_law08_awake, rCall v_law08_awake⟩⟩,
  ⟨none, some 16, [(.tmp 15)], ⟨.f (fUn .not), rNot⟩⟩,
  ⟨none, some 17, [(.tmp 16)], ⟨.f fMove, rMove⟩⟩,
  ⟨(some (3, 2, false, some 17)), some 18, [(.tmp 4)], ⟨.f fMove, rMove⟩⟩,
  ⟨(some (4, 2, false, some 17)), some 19, [(.tmp 18)], ⟨.f (fUn .not), rNot⟩⟩,
  ⟨none, some 20, [(.tmp 17), (.const (.bool true)), (.tmp 19)], ⟨.f fPick, rPick⟩⟩])
 (.cond (.tmp 20)
 (.seq none
 (.reg [⟨none, some 2, [(.const (.bool false))], ⟨.f fMove, rMove⟩⟩])
 .ret)
 .skip))
 (.seq none
 (.reg [⟨none, some 21, [(.tmp 0)], ⟨.f fMove, rMove⟩⟩,
  ⟨none, some 22, [(.tmp 21), (.const (.int .i64 15))], ⟨.band .no, rAny xl_law08_AllocStamps (.band .no)⟩⟩,
  ⟨none, some 23, [(.const (.int .i64 1)), (.tmp 22)], ⟨.f (fBin .add .no), rAdd⟩⟩,
  ⟨none, some 5, [(.tmp 23)], ⟨.f fMove, rMove⟩⟩])
 (.seq none
 (.reg [⟨none, some 24, [(.tmp 5)], ⟨.f fMove, rMove⟩⟩,
  ⟨none, some 25, [(.tmp 24), (.const (.bool false))], ⟨.call .write s_alloc_New v_alloc_New, rCall v_alloc_New⟩⟩,
  ⟨none, some 6, [(.tmp 25)], ⟨.f fMove, rMove⟩⟩])
 (.seq none
 (.reg [⟨none, some 7, [(.const (.int .i64 0))], ⟨.f fMove, rMove⟩⟩])
 (.seq (some ([6, 7], [3]))
 (.seq none
 (.reg [⟨none, some 8, [(.const (.int .i64 0))], ⟨.f fMove, rMove⟩⟩])
 (.block 0
 (.loop ([6, 7, 8], [3])
 (.seq none
 (.seq none
 (.reg [⟨none, some 26, [(.tmp 8)], ⟨.f fMove, rMove⟩⟩,
  ⟨none, some 27, [(.tmp 26), (.const (.int .i64 60))], ⟨.f (fBin .lss .no), rLss⟩⟩])
 (.cond (.tmp 27)
 .skip
 (.exit 0)))
 (.seq none
 (.block 1
 (.seq none
 (.reg [⟨none, some 30, [(.tmp 6)], ⟨.f fMove, rMove⟩⟩,
  ⟨none, some 31, [(.tmp 3)], ⟨.lr 3 9 true, rAny xl_law08_AllocStamps (.lr 3 9 true)⟩⟩,
  ⟨none, some 32, [(.tmp 30), (.tmp 31)], ⟨.call .write s_alloc_Alloc_Step v_alloc_Alloc_Step, rCall v_alloc_Alloc_Step⟩⟩,
  ⟨none, some 9, [(.tmp 32)], ⟨.f fMove, rMove⟩⟩])
 (.seq (some ([6, 7, 8, 9], [3]))
 (.seq (some ([6, 7, 8, 9, 45], [3]))
 (.reg [⟨none, some 33, [(.tmp 7)], ⟨.f fMove, rMove⟩⟩,
  ⟨none, some 34, [(.tmp 33), (.const (.int .i64 0))], ⟨.f (fBin .eql .no), rEql⟩⟩,
  ⟨none, some 35, [(.tmp 34)], ⟨.f fMove, rMove⟩⟩,
  ⟨(some (3, 2, true, some 35)), some 36, [(.tmp 3)], ⟨.f (fFld 7), rFld 7⟩⟩,
  ⟨(some (4, 2, true, some 35)), some 37, [(.tmp 36)], ⟨.lr 3 1 false, rLr1 3⟩⟩,
  ⟨(some (5, 2, true, some 35)), some 38, [(.tmp 3)], ⟨.f (fFld 0), rFld 0⟩⟩,
  ⟨(some (6, 2, true, some 35)), some 39, [(.tmp 38)], ⟨.lr 3 7 true, rAny xl_law08_AllocStamps (.lr 3 7 true)⟩⟩,
  ⟨(some (7, 2, true, some 35)), some 40, [(.tmp 39), (.const (.int .i64 0))], ⟨.call .none s_layout_Slot v_layout_Slot, rCall v_layout_Slot⟩⟩,
  ⟨(some (8, 2, true, some 35)), some 41, [(.tmp 37), (.tmp 40)], ⟨.call .read s_mem_Mem_Peek v_mem_Mem_Peek, rCall v_mem_Mem_Peek⟩⟩,
  ⟨(some (9, 2, true, some 35)), some 42, [(.tmp 41)], ⟨.call .none s_word_Slot v_word_Slot, rCall v_word_Slot⟩⟩,
  ⟨(some (10, 2, true, some 35)), some 43, [(.tmp 42)], ⟨.f (fFldV 0 1 false), rAny xl_law08_AllocStamps (.f (fFldV 0 1 false))⟩⟩,
  ⟨(some (11, 2, true, some 35)), some 44, [(.tmp 43), (.const (.int .i64 1))], ⟨.f (fBin .eql .no), rEql⟩⟩,
  ⟨none, some 45, [(.tmp 35), (.tmp 44), (.const (.bool false))], ⟨.f fPick, rPick⟩⟩])
 (.cond (.tmp 45)
 (.reg [⟨none, some 46, [(.tmp 3)], ⟨.lr 3 9 true, rAny xl_law08_AllocStamps (.lr 3 9 true)⟩⟩,
  ⟨none, some 47, [(.tmp 46)], ⟨.call .read s_layout_Env_Now v_layout_Env_Now, rCall v_layout_Env_Now⟩⟩,
  ⟨none, some 7, [(.tmp 47)], ⟨.f fMove, rMove⟩⟩])
 .skip))
 (.seq none
 (.reg [⟨none, some 48, [(.tmp 9)], ⟨.f fMove, rMove⟩⟩])
 (.cond (.tmp 48)
 (.exit 0)
 .skip)))))
 (.reg [⟨none, some 28, [(.tmp 8)], ⟨.f fMove, rMove⟩⟩,
  ⟨none, some 29, [(.tmp 28), (.const (.int .i64 1))], ⟨.f (fBin .add .no), rAdd⟩⟩,
  ⟨none, some 8, [(.tmp 29)], ⟨.f fMove, rMove⟩⟩]))))))
 (.seq none
 (.reg [⟨none, some 49, [(.tmp 6)], ⟨.f fMove, rMove⟩⟩,
  ⟨none, some 50, [(.tmp 49)], ⟨.call .read s_alloc_Alloc_Done v_alloc_Alloc_Done, rCall v_alloc_Alloc_Done⟩⟩,
  ⟨none, some 10, [], ⟨.la 10 [(.int .i64 0), (.int .u64 0), (.int .i64 0), (.int .i64 0)], rAny xl_law08_AllocStamps (.la 10 [(.int .i64 0), (.int .u64 0), (.int .i64 0), (.int .i64 0)])⟩⟩,
  ⟨none, none, [(.tmp 10), (.tmp 50)], ⟨.ls 10 4, rAny xl_law08_AllocStamps (.ls 10 4)⟩⟩])
 (.seq none
 (.reg [⟨none, some 51, [(.tmp 10)], ⟨.f (fFld 0), rFld 0⟩⟩,
  ⟨none, some 52, [(.tmp 51)], ⟨.lr 10 1 false, rLr1 10⟩⟩,
  ⟨none, some 53, [(.tmp 52), (.const (.int .i64 0))], ⟨.f (fBin .eql .no), rEql⟩⟩,
  ⟨none, some 54, [(.tmp 53)], ⟨.f fMove, rMove⟩⟩,
  ⟨(some (4, 3, true, some 54)), some 55, [(.tmp 7)], ⟨.f fMove, rMove⟩⟩,
  ⟨(some (5, 3, true, some 54)), some 56, [(.tmp 55), (.const (.int .i64 0))], ⟨.f (fBin .gtr .no), rGtr⟩⟩,
  ⟨none, some 57, [(.tmp 54), (.tmp 56), (.const (.bool false))], ⟨.f fPick, rPick⟩⟩,
  ⟨none, some 58, [(.tmp 57)], ⟨.f fMove, rMove⟩⟩,
  ⟨(some (8, 7, true, some 58)), some 59, [(.tmp 10)], ⟨.f (fFld 3), rFld 3⟩⟩,
  ⟨(some (9, 7, true, some 58)), some 60, [(.tmp 59)], ⟨.lr 10 1 false, rLr1 10⟩⟩,
  ⟨(some (10, 7, true, some 58)), some 61, [(.tmp 7)], ⟨.f fMove, rMove⟩⟩,
  ⟨(some (11, 7, true, some 58)), some 62, [(.tmp 60), (.tmp 61)], ⟨.f (fBin .eql .no), rEql⟩⟩,
  ⟨none, some 63, [(.tmp 58), (.tmp 62), (.const (.bool false))], ⟨.f fPick, rPick⟩⟩,
  ⟨none, some 64, [(.tmp 63)], ⟨.f fMove, rMove⟩⟩,
  ⟨(some (14, 13, true, some 64)), some 65, [(.tmp 3)], ⟨.lr 3 9 true, rAny xl_law08_AllocStamps (.lr 3 9 true)⟩⟩,
  ⟨(some (15, 13, true, some 64)), some 66, [(.tmp 65)], ⟨.call .read s_layout_Env_Now v_layout_Env_Now, rCall v_layout_Env_Now⟩⟩,
  ⟨(some (16, 13, true, some 64)), some 67, [(.tmp 7)], ⟨.f fMove, rMove⟩⟩,
  ⟨(some (17, 13, true, some 64)), some 68, [(.tmp 67), (.const (.int .i64 1))], ⟨.f (fBin .add .no), rAdd⟩⟩,
  ⟨(some (18, 13, true, some 64)), some 69, [(.tmp 66), (.tmp 68)], ⟨.f (fBin .eql .no), rEql⟩⟩,
  ⟨none, some 70, [(.tmp 64), (.tmp 69), (.const (.bool false))], ⟨.f fPick, rPick⟩⟩,
  ⟨none, some 2, [(.tmp 70)], ⟨.f fMove, rMove⟩⟩])
 .ret)))))))))
noncomputable def v_law08_AllocStamps : EvF := evFn 1 xc_law08_AllocStamps [.t 2]
theorem xt_law08_AllocStamps : toC cx_law08_AllocStamps (bodyOf Try.f9) = some (xc_law08_AllocStamps.map XN.sm) := by kernel_rfl
theorem xr_law08_AllocStamps : toR cx_law08_AllocStamps Try.f9.results.toList = some [.t 2] := by kernel_rfl
theorem xo_law08_AllocStamps : xc_law08_AllocStamps.ok xl_law08_AllocStamps := ⟨⟨rMove_ok, trivial⟩, ⟨⟨rCall_ok ve_law04_Arena, rMove_ok, rAny_ok (eqv_ext _), rAny_ok (eqv_ext _), rAny_ok (trivial), rAny_ok (trivial), rMove_ok, trivial⟩, ⟨⟨⟨rCall_ok ve_law08_awake, rNot_ok, rMove_ok, rMove_ok, rNot_ok, rPick_ok, trivial⟩, ⟨⟨⟨rMove_ok, trivial⟩, trivial⟩, trivial⟩⟩, ⟨⟨rMove_ok, rAny_ok (trivial), rAdd_ok, rMove_ok, trivial⟩, ⟨⟨rMove_ok, rCall_ok ve_alloc_New, rMove_ok, trivial⟩, ⟨⟨rMove_ok, trivial⟩, ⟨⟨⟨rMove_ok, trivial⟩, ⟨⟨⟨rMove_ok, rLss_ok, trivial⟩, ⟨trivial, trivial⟩⟩, ⟨⟨⟨rMove_ok, rAny_ok (trivial), rCall_ok ve_alloc_Alloc_Step, rMove_ok, trivial⟩, ⟨⟨⟨rMove_ok, rEql_ok, rMove_ok, rFld_ok _, rLr1_ok _, rFld_ok _, rAny_ok (trivial), rCall_ok ve_layout_Slot, rCall_ok ve_mem_Mem_Peek, rCall_ok ve_word_Slot, rAny_ok (eqv_fldV _ _ _), rEql_ok, rPick_ok, trivial⟩, ⟨⟨rAny_ok (trivial), rCall_ok ve_layout_Env_Now, rMove_ok, trivial⟩, trivial⟩⟩, ⟨⟨rMove_ok, trivial⟩, ⟨trivial, trivial⟩⟩⟩⟩, ⟨rMove_ok, rAdd_ok, rMove_ok, trivial⟩⟩⟩⟩, ⟨⟨rMove_ok, rCall_ok ve_alloc_Alloc_Done, rAny_ok (trivial), rAny_ok (trivial), trivial⟩, ⟨⟨rFld_ok _, rLr1_ok _, rEql_ok, rMove_ok, rMove_ok, rGtr_ok, rPick_ok, rMove_ok, rFld_ok _, rLr1_ok _, rMove_ok, rEql_ok, rPick_ok, rMove_ok, rAny_ok (trivial), rCall_ok ve_layout_Env_Now, rMove_ok, rAdd_ok, rEql_ok, rPick_ok, rMove_ok, trivial⟩, trivial⟩⟩⟩⟩⟩⟩⟩⟩⟩
theorem ve_law08_AllocStamps : EvOk s_law08_AllocStamps v_law08_AllocStamps := EvOk.of (evFn_sound (C := cx_law08_AllocStamps) xt_law08_AllocStamps xr_law08_AllocStamps xo_law08_AllocStamps) q_law08_AllocStamps

attribute [irreducible] w_law08_AllocStamps_j2b w_law08_AllocStamps_j2 w_law08_AllocStamps_j3b w_law08_AllocStamps_j3 w_law08_AllocStamps_j4b w_law08_AllocStamps_j4 w_law08_AllocStamps_l9b w_law08_AllocStamps_l9 w_law08_AllocStamps_j1b w_law08_AllocStamps_j1 w_law08_AllocStamps s_law08_AllocStamps

/-! ### /law08.AllocSteps -/
def w_law08_AllocSteps_j2b (K : Value → Mem → Prop) (σ : Mem) : Prop :=
xF fMove [(.bool true)] fun v2 =>
K v2 σ

def w_law08_AllocSteps_j2 (K : Value → Mem → Prop) (ts : List Value) (ls : List (List Value)) (σ : Mem) : Prop := w_law08_AllocSteps_j2b K σ

def w_law08_AllocSteps_j4b (K : Value → Mem → Prop) (J2 : List Value → List (List Value) → Mem → Prop) (R1 : List Value → List (List Value) → Mem → Prop) (v0 v5 : Value) (c3 : List Value) (σ : Mem) : Prop :=
xF fMove [v5] fun v33 =>
xF (fBin .add .no) [v33, (.int .i64 1)] fun v34 =>
xF fMove [v34] fun v5 =>
R1 [v0, v5] [c3] σ

def w_law08_AllocSteps_j4 (K : Value → Mem → Prop) (J2 : List Value → List (List Value) → Mem → Prop) (R1 : List Value → List (List Value) → Mem → Prop) (ts : List Value) (ls : List (List Value)) (σ : Mem) : Prop := w_law08_AllocSteps_j4b K J2 R1 (ts.getD 0 poison) (ts.getD 1 poison) (ls.getD 0 []) σ

def w_law08_AllocSteps_j6b (K : Value → Mem → Prop) (J2 : List Value → List (List Value) → Mem → Prop) (R1 : List Value → List (List Value) → Mem → Prop) (J4 : List Value → List (List Value) → Mem → Prop) (v0 v5 v100 : Value) (c3 : List Value) (σ : Mem) : Prop :=
xIf v100
 (xF fMove [(.bool false)] fun v2 =>
K v2 σ)
 (J4 [v0, v5] [c3] σ)

def w_law08_AllocSteps_j6 (K : Value → Mem → Prop) (J2 : List Value → List (List Value) → Mem → Prop) (R1 : List Value → List (List Value) → Mem → Prop) (J4 : List Value → List (List Value) → Mem → Prop) (ts : List Value) (ls : List (List Value)) (σ : Mem) : Prop := w_law08_AllocSteps_j6b K J2 R1 J4 (ts.getD 0 poison) (ts.getD 1 poison) (ts.getD 2 poison) (ls.getD 0 []) σ

def w_law08_AllocSteps_j5b (K : Value → Mem → Prop) (J2 : List Value → List (List Value) → Mem → Prop) (R1 : List Value → List (List Value) → Mem → Prop) (J4 : List Value → List (List Value) → Mem → Prop) (v0 v5 v6 v7 : Value) (c3 : List Value) (σ : Mem) : Prop :=
xJoin (w_law08_AllocSteps_j6 K J2 R1 J4) fun J6 =>
xF fMove [v6] fun v90 =>
s_alloc_Alloc_Done [v90] (fun v91 σ =>
xF (fFldV 0 1 false) [v91] fun v92 =>
xF (fBin .eql .no) [v92, (.int .i64 0)] fun v93 =>
xF fMove [v93] fun v94 =>
xIf v94
 (xF (fFld 0) [(locP 3)] fun v95 =>
xO (gLoad 7 true [v95] c3) fun v96 =>
xF fMove [v7] fun v97 =>
s_layout_Of [v96, v97] (fun v98 σ =>
xF (fBin .lss .no) [v98, (.int .i64 0)] fun v99 =>
xF fPick [(.bool true), v99, (.bool false)] fun v100 =>
J6 [v0, v5, v100] [c3] σ) σ)
 (xF fPick [(.bool false), undef, (.bool false)] fun v100 =>
J6 [v0, v5, v100] [c3] σ)) σ

def w_law08_AllocSteps_j5 (K : Value → Mem → Prop) (J2 : List Value → List (List Value) → Mem → Prop) (R1 : List Value → List (List Value) → Mem → Prop) (J4 : List Value → List (List Value) → Mem → Prop) (ts : List Value) (ls : List (List Value)) (σ : Mem) : Prop := w_law08_AllocSteps_j5b K J2 R1 J4 (ts.getD 0 poison) (ts.getD 1 poison) (ts.getD 2 poison) (ts.getD 3 poison) (ls.getD 0 []) σ

def w_law08_AllocSteps_j7b (K : Value → Mem → Prop) (J2 : List Value → List (List Value) → Mem → Prop) (R1 : List Value → List (List Value) → Mem → Prop) (J4 : List Value → List (List Value) → Mem → Prop) (J5 : List Value → List (List Value) → Mem → Prop) (R4 : List Value → List (List Value) → Mem → Prop) (v0 v5 v6 v7 v8 v10 : Value) (c3 : List Value) (σ : Mem) : Prop :=
xF fMove [v10] fun v89 =>
xIf v89
 (J5 [v0, v5, v6, v7] [c3] σ)
 (xF fMove [v8] fun v43 =>
xF (fBin .add .no) [v43, (.int .i64 1)] fun v44 =>
xF fMove [v44] fun v8 =>
R4 [v0, v5, v6, v7, v8] [c3] σ)

def w_law08_AllocSteps_j7 (K : Value → Mem → Prop) (J2 : List Value → List (List Value) → Mem → Prop) (R1 : List Value → List (List Value) → Mem → Prop) (J4 : List Value → List (List Value) → Mem → Prop) (J5 : List Value → List (List Value) → Mem → Prop) (R4 : List Value → List (List Value) → Mem → Prop) (ts : List Value) (ls : List (List Value)) (σ : Mem) : Prop := w_law08_AllocSteps_j7b K J2 R1 J4 J5 R4 (ts.getD 0 poison) (ts.getD 1 poison) (ts.getD 2 poison) (ts.getD 3 poison) (ts.getD 4 poison) (ts.getD 5 poison) (ls.getD 0 []) σ

def w_law08_AllocSteps_j9b (K : Value → Mem → Prop) (J2 : List Value → List (List Value) → Mem → Prop) (R1 : List Value → List (List Value) → Mem → Prop) (J4 : List Value → List (List Value) → Mem → Prop) (J5 : List Value → List (List Value) → Mem → Prop) (R4 : List Value → List (List Value) → Mem → Prop) (J7 : List Value → List (List Value) → Mem → Prop) (v0 v5 v6 v8 v10 v86 : Value) (c3 c11 : List Value) (σ : Mem) : Prop :=
xIf v86
 (xF fMove [(.bool false)] fun v2 =>
K v2 σ)
 (xF (fFld 0) [(locP 11)] fun v87 =>
xO (gLoad 1 false [v87] c11) fun v88 =>
xF fMove [v88] fun v7 =>
J7 [v0, v5, v6, v7, v8, v10] [c3] σ)

def w_law08_AllocSteps_j9 (K : Value → Mem → Prop) (J2 : List Value → List (List Value) → Mem → Prop) (R1 : List Value → List (List Value) → Mem → Prop) (J4 : List Value → List (List Value) → Mem → Prop) (J5 : List Value → List (List Value) → Mem → Prop) (R4 : List Value → List (List Value) → Mem → Prop) (J7 : List Value → List (List Value) → Mem → Prop) (ts : List Value) (ls : List (List Value)) (σ : Mem) : Prop := w_law08_AllocSteps_j9b K J2 R1 J4 J5 R4 J7 (ts.getD 0 poison) (ts.getD 1 poison) (ts.getD 2 poison) (ts.getD 3 poison) (ts.getD 4 poison) (ts.getD 5 poison) (ls.getD 0 []) (ls.getD 1 []) σ

def w_law08_AllocSteps_j8b (K : Value → Mem → Prop) (J2 : List Value → List (List Value) → Mem → Prop) (R1 : List Value → List (List Value) → Mem → Prop) (J4 : List Value → List (List Value) → Mem → Prop) (J5 : List Value → List (List Value) → Mem → Prop) (R4 : List Value → List (List Value) → Mem → Prop) (J7 : List Value → List (List Value) → Mem → Prop) (v0 v5 v6 v7 v8 v10 v78 : Value) (c3 c11 : List Value) (σ : Mem) : Prop :=
xIf v78
 (xJoin (w_law08_AllocSteps_j9 K J2 R1 J4 J5 R4 J7) fun J9 =>
xF fMove [v7] fun v79 =>
xF (fBin .geq .no) [v79, (.int .i64 0)] fun v80 =>
xF fMove [v80] fun v81 =>
xIf v81
 (xF fMove [v7] fun v82 =>
xF (fFld 0) [(locP 11)] fun v83 =>
xO (gLoad 1 false [v83] c11) fun v84 =>
xF (fBin .neq .no) [v82, v84] fun v85 =>
xF fPick [(.bool true), v85, (.bool false)] fun v86 =>
J9 [v0, v5, v6, v8, v10, v86] [c3, c11] σ)
 (xF fPick [(.bool false), undef, (.bool false)] fun v86 =>
J9 [v0, v5, v6, v8, v10, v86] [c3, c11] σ))
 (J7 [v0, v5, v6, v7, v8, v10] [c3] σ)

def w_law08_AllocSteps_j8 (K : Value → Mem → Prop) (J2 : List Value → List (List Value) → Mem → Prop) (R1 : List Value → List (List Value) → Mem → Prop) (J4 : List Value → List (List Value) → Mem → Prop) (J5 : List Value → List (List Value) → Mem → Prop) (R4 : List Value → List (List Value) → Mem → Prop) (J7 : List Value → List (List Value) → Mem → Prop) (ts : List Value) (ls : List (List Value)) (σ : Mem) : Prop := w_law08_AllocSteps_j8b K J2 R1 J4 J5 R4 J7 (ts.getD 0 poison) (ts.getD 1 poison) (ts.getD 2 poison) (ts.getD 3 poison) (ts.getD 4 poison) (ts.getD 5 poison) (ts.getD 6 poison) (ls.getD 0 []) (ls.getD 1 []) σ

def w_law08_AllocSteps_l11b (K : Value → Mem → Prop) (J2 : List Value → List (List Value) → Mem → Prop) (R1 : List Value → List (List Value) → Mem → Prop) (J4 : List Value → List (List Value) → Mem → Prop) (J5 : List Value → List (List Value) → Mem → Prop) (R4 : List Value → List (List Value) → Mem → Prop) (v0 v5 v6 v7 v8 : Value) (c3 : List Value) (σ : Mem) : Prop :=
xF fMove [v8] fun v41 =>
xF (fBin .lss .no) [v41, (.int .i64 80)] fun v42 =>
xIf v42
 (xO (gLoad 9 true [(locP 3)] c3) fun v45 =>
s_layout_Env_Now [v45] (fun v46 σ =>
xF fMove [v46] fun v9 =>
xF fMove [v6] fun v47 =>
xO (gLoad 9 true [(locP 3)] c3) fun v48 =>
s_alloc_Alloc_Step [v47, v48] (fun v49 σ =>
xF fMove [v49] fun v10 =>
xF (fFld 7) [(locP 3)] fun v50 =>
xO (gLoad 1 false [v50] c3) fun v51 =>
s_mem_Mem_Last [v51] (fun v52 σ =>
xC (gStore 3 [(locP 11), v52] [(.int .i64 0), (.int .i64 0), (.bool false)]) fun c11 =>
xO (gLoad 9 true [(locP 3)] c3) fun v53 =>
s_layout_Env_Now [v53] (fun v54 σ =>
xF fMove [v9] fun v55 =>
xF (fBin .add .no) [v55, (.int .i64 1)] fun v56 =>
xF (fBin .gtr .no) [v54, v56] fun v57 =>
xIf v57
 (xF fMove [(.bool false)] fun v2 =>
K v2 σ)
 (xJoin (w_law08_AllocSteps_j7 K J2 R1 J4 J5 R4) fun J7 =>
xF (fFld 0) [(locP 3)] fun v59 =>
xO (gLoad 7 true [v59] c3) fun v60 =>
xF (fFld 0) [(locP 11)] fun v61 =>
xO (gLoad 1 false [v61] c11) fun v62 =>
s_ref04_Kind [v60, v62] (fun v63 σ =>
xF fMove [v63] fun v58 =>
xF (fExt 0) [v58] fun v64 =>
xF (fExt 1) [v58] fun v65 =>
xF (fExt 2) [v58] fun v66 =>
xF fMove [v64] fun v12 =>
xF fMove [v65] fun v13 =>
xF fMove [v66] fun v14 =>
xJoin (w_law08_AllocSteps_j8 K J2 R1 J4 J5 R4 J7) fun J8 =>
xO (gLoad 9 true [(locP 3)] c3) fun v67 =>
s_layout_Env_Now [v67] (fun v68 σ =>
xF fMove [v9] fun v69 =>
xF (fBin .gtr .no) [v68, v69] fun v70 =>
xF fMove [v70] fun v71 =>
xIf v71
 (xF fMove [v12] fun v72 =>
xF (fBin .eql .no) [v72, (.int .i64 9)] fun v73 =>
xF fPick [(.bool true), v73, (.bool false)] fun v74 =>
xF fMove [v74] fun v75 =>
xIf v75
 (xF (fFld 2) [(locP 11)] fun v76 =>
xO (gLoad 1 false [v76] c11) fun v77 =>
xF fPick [(.bool true), v77, (.bool false)] fun v78 =>
J8 [v0, v5, v6, v7, v8, v10, v78] [c3, c11] σ)
 (xF fPick [(.bool false), undef, (.bool false)] fun v78 =>
J8 [v0, v5, v6, v7, v8, v10, v78] [c3, c11] σ))
 (xF fPick [(.bool false), undef, (.bool false)] fun v74 =>
xF fMove [v74] fun v75 =>
xIf v75
 (xF (fFld 2) [(locP 11)] fun v76 =>
xO (gLoad 1 false [v76] c11) fun v77 =>
xF fPick [(.bool true), v77, (.bool false)] fun v78 =>
J8 [v0, v5, v6, v7, v8, v10, v78] [c3, c11] σ)
 (xF fPick [(.bool false), undef, (.bool false)] fun v78 =>
J8 [v0, v5, v6, v7, v8, v10, v78] [c3, c11] σ))) σ) σ)) σ) σ) σ) σ)
 (J5 [v0, v5, v6, v7] [c3] σ)

def w_law08_AllocSteps_l11 (K : Value → Mem → Prop) (J2 : List Value → List (List Value) → Mem → Prop) (R1 : List Value → List (List Value) → Mem → Prop) (J4 : List Value → List (List Value) → Mem → Prop) (J5 : List Value → List (List Value) → Mem → Prop) (R4 : List Value → List (List Value) → Mem → Prop) (ts : List Value) (ls : List (List Value)) (σ : Mem) : Prop := w_law08_AllocSteps_l11b K J2 R1 J4 J5 R4 (ts.getD 0 poison) (ts.getD 1 poison) (ts.getD 2 poison) (ts.getD 3 poison) (ts.getD 4 poison) (ls.getD 0 []) σ

def w_law08_AllocSteps_j3b (K : Value → Mem → Prop) (J2 : List Value → List (List Value) → Mem → Prop) (R1 : List Value → List (List Value) → Mem → Prop) (v0 v5 : Value) (c3 : List Value) (σ : Mem) : Prop :=
xJoin (w_law08_AllocSteps_j4 K J2 R1) fun J4 =>
xF fMove [v0] fun v35 =>
xF fMove [v5] fun v36 =>
xF (fIxS 1) [v35, v36] fun v37 =>
hLoad 1 false [v37] (fun v38 σ =>
xF (fBin .rem .no) [v38, (.int .i64 20)] fun v39 =>
s_alloc_New [v39, (.bool false)] (fun v40 σ =>
xF fMove [v40] fun v6 =>
xF fMove [(.int .i64 (-1))] fun v7 =>
xJoin (w_law08_AllocSteps_j5 K J2 R1 J4) fun J5 =>
xF fMove [(.int .i64 0)] fun v8 =>
xLoop (w_law08_AllocSteps_l11 K J2 R1 J4 J5) [v0, v5, v6, v7, v8] [c3] σ) σ) σ

def w_law08_AllocSteps_j3 (K : Value → Mem → Prop) (J2 : List Value → List (List Value) → Mem → Prop) (R1 : List Value → List (List Value) → Mem → Prop) (ts : List Value) (ls : List (List Value)) (σ : Mem) : Prop := w_law08_AllocSteps_j3b K J2 R1 (ts.getD 0 poison) (ts.getD 1 poison) (ls.getD 0 []) σ

def w_law08_AllocSteps_l6b (K : Value → Mem → Prop) (J2 : List Value → List (List Value) → Mem → Prop) (R1 : List Value → List (List Value) → Mem → Prop) (v0 v5 : Value) (c3 : List Value) (σ : Mem) : Prop :=
xJoin (w_law08_AllocSteps_j3 K J2 R1) fun J3 =>
xF fMove [v5] fun v25 =>
xF fMove [v0] fun v26 =>
xF fLen [v26] fun v27 =>
xF (fBin .lss .no) [v25, v27] fun v28 =>
xF fMove [v28] fun v29 =>
xIf v29
 (xF fMove [v5] fun v30 =>
xF (fBin .lss .no) [v30, (.int .i64 12)] fun v31 =>
xF fPick [(.bool true), v31, (.bool false)] fun v32 =>
xIf v32
 (J3 [v0, v5] [c3] σ)
 (J2 [] [] σ))
 (xF fPick [(.bool false), undef, (.bool false)] fun v32 =>
xIf v32
 (J3 [v0, v5] [c3] σ)
 (J2 [] [] σ))

def w_law08_AllocSteps_l6 (K : Value → Mem → Prop) (J2 : List Value → List (List Value) → Mem → Prop) (R1 : List Value → List (List Value) → Mem → Prop) (ts : List Value) (ls : List (List Value)) (σ : Mem) : Prop := w_law08_AllocSteps_l6b K J2 R1 (ts.getD 0 poison) (ts.getD 1 poison) (ls.getD 0 []) σ

def w_law08_AllocSteps_j1b (K : Value → Mem → Prop) (v0 v24 : Value) (c3 : List Value) (σ : Mem) : Prop :=
xIf v24
 (xF fMove [(.bool false)] fun v2 =>
K v2 σ)
 (xJoin (w_law08_AllocSteps_j2 K) fun J2 =>
xF fMove [(.int .i64 0)] fun v5 =>
xLoop (w_law08_AllocSteps_l6 K J2) [v0, v5] [c3] σ)

def w_law08_AllocSteps_j1 (K : Value → Mem → Prop) (ts : List Value) (ls : List (List Value)) (σ : Mem) : Prop := w_law08_AllocSteps_j1b K (ts.getD 0 poison) (ts.getD 1 poison) (ls.getD 0 []) σ

def w_law08_AllocSteps (a0 : Value) (K : Value → Mem → Prop) (σ : Mem) : Prop :=
xF fMove [(.bool false)] fun v2 =>
s_law04_Arena [(.int .i64 1), (.int .i64 8), (.int .i64 6), (.int .i64 20)] (fun v16 σ =>
xF fMove [v16] fun v15 =>
xF (fExt 0) [v15] fun v17 =>
xF (fExt 1) [v15] fun v18 =>
xC (gStore 9 [(locP 3), v17] [(.int .i64 0), (.int .i64 0), (.int .i64 0), (.int .i64 0), (.int .i64 0), (.int .i64 0), (.int .i64 0), (.pointer none), (.int .i64 0)]) fun c3 =>
xF fMove [v18] fun v4 =>
xJoin (w_law08_AllocSteps_j1 K) fun J1 =>
s_law08_awake [] (fun v19 σ =>
xF (fUn .not) [v19] fun v20 =>
xF fMove [v20] fun v21 =>
xIf v21
 (xF fPick [(.bool true), (.bool true), undef] fun v24 =>
J1 [a0, v24] [c3] σ)
 (xF fMove [v4] fun v22 =>
xF (fUn .not) [v22] fun v23 =>
xF fPick [(.bool false), (.bool true), v23] fun v24 =>
J1 [a0, v24] [c3] σ)) σ) σ

def s_law08_AllocSteps : Spec := fun args K σ => match args with
  | [a0] => w_law08_AllocSteps a0 K σ
  | _ => False

noncomputable def cx_law08_AllocSteps : Cx := { P := Try.prog, T := [(13, .write, s_law04_Arena), (31, .none, s_law08_awake), (34, .write, s_alloc_New), (29, .read, s_layout_Env_Now), (35, .write, s_alloc_Alloc_Step), (30, .read, s_mem_Mem_Last), (25, .write, s_ref04_Kind), (33, .read, s_alloc_Alloc_Done), (28, .none, s_layout_Of)], loc := [(3, 3), (11, 11), (50, 3), (59, 3), (61, 11), (76, 11), (83, 11), (87, 11), (95, 3)], eqt := [], n := 101, keep := [(6, [0, 5], [3]), (11, [0, 5, 6, 7, 8], [3]), (1000004, [0, 24], [3]), (1000007, [0, 5], [3]), (1000008, [0, 5], [3]), (1000020, [0, 5, 6, 7, 8, 10, 78], [3, 11]), (1000021, [0, 5, 6, 8, 10, 86], [3, 11]), (1000023, [0, 5, 6, 7, 8, 10], [3]), (1000024, [0, 5, 6, 7], [3]), (1000025, [0, 5, 100], [3]), (1000026, [], [])] }
theorem q_law08_AllocSteps : FnS cx_law08_AllocSteps Try.f10 (bodyOf Try.f10) 1 = s_law08_AllocSteps := by
  funext args K σ
  rcases args with _ | ⟨a0, _ | ⟨b, r⟩⟩ <;> kernel_rfl
theorem e_law08_AllocSteps : Entry Try.prog 10 .write s_law08_AllocSteps :=
  entry (C := cx_law08_AllocSteps) (TOk.cons e_law04_Arena (TOk.cons e_law08_awake (TOk.cons e_alloc_New (TOk.cons e_layout_Env_Now (TOk.cons e_alloc_Alloc_Step (TOk.cons e_mem_Mem_Last (TOk.cons e_ref04_Kind (TOk.cons e_alloc_Alloc_Done (TOk.cons e_layout_Of TOk.nil))))))))) mixedOk Try.func10 (by kernel_rfl) (by kernel_rfl) (by kernel_rfl) q_law08_AllocSteps


attribute [irreducible] w_law08_AllocSteps_j2b w_law08_AllocSteps_j2 w_law08_AllocSteps_j4b w_law08_AllocSteps_j4 w_law08_AllocSteps_j6b w_law08_AllocSteps_j6 w_law08_AllocSteps_j5b w_law08_AllocSteps_j5 w_law08_AllocSteps_j7b w_law08_AllocSteps_j7 w_law08_AllocSteps_j9b w_law08_AllocSteps_j9 w_law08_AllocSteps_j8b w_law08_AllocSteps_j8 w_law08_AllocSteps_l11b w_law08_AllocSteps_l11 w_law08_AllocSteps_j3b w_law08_AllocSteps_j3 w_law08_AllocSteps_l6b w_law08_AllocSteps_l6 w_law08_AllocSteps_j1b w_law08_AllocSteps_j1 w_law08_AllocSteps s_law08_AllocSteps

/-! ### /ref04.Class -/
def w_ref04_Class_j1b (K : Value → Mem → Prop) (σ : Mem) : Prop :=
xF fMove [(.int .i64 (-1))] fun v2 =>
K v2 σ

def w_ref04_Class_j1 (K : Value → Mem → Prop) (ts : List Value) (ls : List (List Value)) (σ : Mem) : Prop := w_ref04_Class_j1b K σ

def w_ref04_Class_l6b (K : Value → Mem → Prop) (J1 : List Value → List (List Value) → Mem → Prop) (R1 : List Value → List (List Value) → Mem → Prop) (v0 v3 v4 : Value) (σ : Mem) : Prop :=
xF fMove [v4] fun v8 =>
xF (fBin .lss .no) [v8, (.int .i64 4)] fun v9 =>
xIf v9
 (xF fMove [v0] fun v12 =>
xF fMove [v3] fun v13 =>
xF fMove [v4] fun v14 =>
xF (fIxS 1) [v13, v14] fun v15 =>
hLoad 1 false [v15] (fun v16 σ =>
xF (fBin .leq .no) [v12, v16] fun v17 =>
xIf v17
 (xF fMove [v4] fun v18 =>
xF fMove [v18] fun v2 =>
K v2 σ)
 (xF fMove [v4] fun v10 =>
xF (fBin .add .no) [v10, (.int .i64 1)] fun v11 =>
xF fMove [v11] fun v4 =>
R1 [v0, v3, v4] [] σ)) σ)
 (J1 [] [] σ)

def w_ref04_Class_l6 (K : Value → Mem → Prop) (J1 : List Value → List (List Value) → Mem → Prop) (R1 : List Value → List (List Value) → Mem → Prop) (ts : List Value) (ls : List (List Value)) (σ : Mem) : Prop := w_ref04_Class_l6b K J1 R1 (ts.getD 0 poison) (ts.getD 1 poison) (ts.getD 2 poison) σ

def w_ref04_Class (a0 : Value) (K : Value → Mem → Prop) (σ : Mem) : Prop :=
xF fMove [(.int .i64 0)] fun v2 =>
hBuildS 1 4 [(.int .i64 0)] [0, 1, 2, 3] [(.int .i64 2), (.int .i64 4), (.int .i64 8), (.int .i64 16)] (fun v5 σ =>
xF fMove [v5] fun v3 =>
xF fMove [a0] fun v6 =>
xF (fBin .lss .no) [v6, (.int .i64 1)] fun v7 =>
xIf v7
 (xF fMove [(.int .i64 (-1))] fun v2 =>
K v2 σ)
 (xJoin (w_ref04_Class_j1 K) fun J1 =>
xF fMove [(.int .i64 0)] fun v4 =>
xLoop (w_ref04_Class_l6 K J1) [a0, v3, v4] [] σ)) σ

def s_ref04_Class : Spec := fun args K σ => match args with
  | [a0] => w_ref04_Class a0 K σ
  | _ => False

noncomputable def cx_ref04_Class : Cx := { P := Try.prog, T := [], loc := [], eqt := [], n := 19, keep := [(6, [0, 3, 4], []), (1000010, [], [])] }
theorem q_ref04_Class : FnS cx_ref04_Class Try.f38 (bodyOf Try.f38) 1 = s_ref04_Class := by
  funext args K σ
  rcases args with _ | ⟨a0, _ | ⟨b, r⟩⟩ <;> kernel_rfl
theorem e_ref04_Class : Entry Try.prog 38 .write s_ref04_Class :=
  entry (C := cx_ref04_Class) TOk.nil mixedOk Try.func38 (by kernel_rfl) (by kernel_rfl) (by kernel_rfl) q_ref04_Class


attribute [irreducible] w_ref04_Class_j1b w_ref04_Class_j1 w_ref04_Class_l6b w_ref04_Class_l6 w_ref04_Class s_ref04_Class

/-! ### /word.Handle -/
def w_word_Handle_j1b (K : Value → Mem → Prop) (v0 v11 : Value) (c2 : List Value) (σ : Mem) : Prop :=
xIf v11
 (xF (fBuild [(0, 1), (1, 1)] [(.int .i64 0), (.int .i64 0)] []) [] fun v12 =>
xC (gStore 2 [(locP 2), v12] c2) fun c2 =>
xF fMove [(.bool false)] fun v3 =>
xO (gLoad 2 true [(locP 2)] c2) fun r2 =>
K (.tuple #[r2, v3]) σ)
 (xF fMove [v0] fun v13 =>
xF (fBin .and .no) [v13, (.int .u64 65535)] fun v14 =>
xF (fConv .i64) [v14] fun v15 =>
xF fMove [v0] fun v16 =>
xF (fBin .shr .no) [v16, (.int .u64 16)] fun v17 =>
xF (fConv .i64) [v17] fun v18 =>
xF (fBuild [(0, 1), (1, 1)] [(.int .i64 0), (.int .i64 0)] [0, 1]) [v15, v18] fun v19 =>
xC (gStore 2 [(locP 2), v19] c2) fun c2 =>
xF fMove [(.bool true)] fun v3 =>
xO (gLoad 2 true [(locP 2)] c2) fun r2 =>
K (.tuple #[r2, v3]) σ)

def w_word_Handle_j1 (K : Value → Mem → Prop) (ts : List Value) (ls : List (List Value)) (σ : Mem) : Prop := w_word_Handle_j1b K (ts.getD 0 poison) (ts.getD 1 poison) (ls.getD 0 []) σ

def w_word_Handle (a0 : Value) (K : Value → Mem → Prop) (σ : Mem) : Prop :=
if true = true then (xC (gAlloc [(.int .i64 0), (.int .i64 0)] [] []) fun c2 =>
xF fMove [(.bool false)] fun v3 =>
xJoin (w_word_Handle_j1 K) fun J1 =>
xF fMove [a0] fun v4 =>
xF (fBin .shr .no) [v4, (.int .u64 32)] fun v5 =>
xF (fBin .neq .no) [v5, (.int .u64 0)] fun v6 =>
xF fMove [v6] fun v7 =>
xIf v7
 (xF fPick [(.bool true), (.bool true), undef] fun v11 =>
J1 [a0, v11] [c2] σ)
 (xF fMove [a0] fun v8 =>
xF (fBin .shr .no) [v8, (.int .u64 16)] fun v9 =>
xF (fBin .eql .no) [v9, (.int .u64 0)] fun v10 =>
xF fPick [(.bool false), (.bool true), v10] fun v11 =>
J1 [a0, v11] [c2] σ)) else False

def s_word_Handle : Spec := fun args K σ => match args with
  | [a0] => w_word_Handle a0 K σ
  | _ => False

noncomputable def cx_word_Handle : Cx := { P := Try.prog, T := [], loc := [(2, 2)], eqt := [], n := 20, keep := [(1000003, [0, 11], [2])] }
theorem q_word_Handle : FnS cx_word_Handle Try.f60 (bodyOf Try.f60) 1 = s_word_Handle := by
  funext args K σ
  rcases args with _ | ⟨a0, _ | ⟨b, r⟩⟩ <;> kernel_rfl
theorem e_word_Handle : Entry Try.prog 60 .none s_word_Handle :=
  entry (C := cx_word_Handle) TOk.nil mixedOk Try.func60 (by kernel_rfl) (by kernel_rfl) (by kernel_rfl) q_word_Handle


attribute [irreducible] w_word_Handle_j1b w_word_Handle_j1 w_word_Handle s_word_Handle

/-! ### /word.Head -/
def w_word_Head (a0 : Value) (K : Value → Mem → Prop) (σ : Mem) : Prop :=
if true = true then (xC (gAlloc [(.int .i64 0), (.int .i64 0), (.int .i64 0), (.int .i64 0), (.bool false)] [] []) fun c2 =>
xF fMove [a0] fun v3 =>
xF (fBin .and .no) [v3, (.int .u64 3)] fun v4 =>
xF (fConv .i64) [v4] fun v5 =>
xF fMove [a0] fun v6 =>
xF (fBin .shr .no) [v6, (.int .u64 2)] fun v7 =>
xF (fBin .and .no) [v7, (.int .u64 65535)] fun v8 =>
xF (fConv .i64) [v8] fun v9 =>
xF fMove [a0] fun v10 =>
xF (fBin .shr .no) [v10, (.int .u64 18)] fun v11 =>
xF (fBin .and .no) [v11, (.int .u64 65535)] fun v12 =>
xF (fConv .i64) [v12] fun v13 =>
xF fMove [a0] fun v14 =>
xF (fBin .shr .no) [v14, (.int .u64 34)] fun v15 =>
xF (fBin .and .no) [v15, (.int .u64 65535)] fun v16 =>
xF (fConv .i64) [v16] fun v17 =>
xF fMove [a0] fun v18 =>
xF (fBin .shr .no) [v18, (.int .u64 50)] fun v19 =>
xF (fBin .and .no) [v19, (.int .u64 1)] fun v20 =>
xF (fBin .eql .no) [v20, (.int .u64 1)] fun v21 =>
xF (fBuild [(0, 1), (1, 1), (2, 1), (3, 1), (4, 1)] [(.int .i64 0), (.int .i64 0), (.int .i64 0), (.int .i64 0), (.bool false)] [0, 1, 2, 3, 4]) [v5, v9, v13, v17, v21] fun v22 =>
xC (gStore 5 [(locP 2), v22] c2) fun c2 =>
xO (gLoad 5 true [(locP 2)] c2) fun r2 =>
K r2 σ) else False

def s_word_Head : Spec := fun args K σ => match args with
  | [a0] => w_word_Head a0 K σ
  | _ => False

noncomputable def cx_word_Head : Cx := { P := Try.prog, T := [], loc := [(2, 2)], eqt := [], n := 23, keep := [] }
theorem q_word_Head : FnS cx_word_Head Try.f61 (bodyOf Try.f61) 1 = s_word_Head := by
  funext args K σ
  rcases args with _ | ⟨a0, _ | ⟨b, r⟩⟩ <;> kernel_rfl
theorem e_word_Head : Entry Try.prog 61 .none s_word_Head :=
  entry (C := cx_word_Head) TOk.nil mixedOk Try.func61 (by kernel_rfl) (by kernel_rfl) (by kernel_rfl) q_word_Head


attribute [irreducible] w_word_Head s_word_Head

/-! ### /law08.sound -/
def w_law08_sound_j3b (K : Value → Mem → Prop) (v2 : Value) (c4 c11 : List Value) (σ : Mem) : Prop :=
xF (fFld 7) [(locP 4)] fun v85 =>
xO (gLoad 1 false [v85] c4) fun v86 =>
xF (fFld 0) [(locP 4)] fun v87 =>
xO (gLoad 7 true [v87] c4) fun v88 =>
xF (fFld 0) [(locP 4)] fun v89 =>
xO (gLoad 7 true [v89] c4) fun v90 =>
xF (fFld 1) [(locP 11)] fun v91 =>
xO (gLoad 1 false [v91] c11) fun v92 =>
s_layout_Of [v90, v92] (fun v93 σ =>
s_layout_Chunk [v88, v93] (fun v94 σ =>
s_mem_Mem_Peek [v86, v94] (fun v95 σ =>
s_word_Chunk [v95] (fun v96 σ =>
xC (gStore 4 [(locP 14), v96] [(.int .i64 0), (.int .i64 0), (.int .i64 0), (.int .i64 0)]) fun c14 =>
xF (fFld 0) [(locP 14)] fun v97 =>
xO (gLoad 1 false [v97] c14) fun v98 =>
xF (fBin .eql .no) [v98, (.int .i64 1)] fun v99 =>
xF fMove [v99] fun v100 =>
xIf v100
 (xF (fFld 1) [(locP 14)] fun v101 =>
xO (gLoad 1 false [v101] c14) fun v102 =>
xF fMove [v2] fun v103 =>
s_ref04_Class [v103] (fun v104 σ =>
xF (fBin .eql .no) [v102, v104] fun v105 =>
xF fPick [(.bool true), v105, (.bool false)] fun v106 =>
xF fMove [v106] fun v8 =>
K v8 σ) σ)
 (xF fPick [(.bool false), undef, (.bool false)] fun v106 =>
xF fMove [v106] fun v8 =>
K v8 σ)) σ) σ) σ) σ

def w_law08_sound_j3 (K : Value → Mem → Prop) (ts : List Value) (ls : List (List Value)) (σ : Mem) : Prop := w_law08_sound_j3b K (ts.getD 0 poison) (ls.getD 0 []) (ls.getD 1 []) σ

def w_law08_sound_l10b (K : Value → Mem → Prop) (J3 : List Value → List (List Value) → Mem → Prop) (R1 : List Value → List (List Value) → Mem → Prop) (v2 v13 : Value) (c4 c11 : List Value) (σ : Mem) : Prop :=
xF fMove [v13] fun v71 =>
xF fMove [v2] fun v72 =>
xF (fBin .lss .no) [v71, v72] fun v73 =>
xIf v73
 (xF (fFld 7) [(locP 4)] fun v76 =>
xO (gLoad 1 false [v76] c4) fun v77 =>
xF (fFld 1) [(locP 11)] fun v78 =>
xO (gLoad 1 false [v78] c11) fun v79 =>
xF (fBin .add .no) [v79, (.int .i64 1)] fun v80 =>
xF fMove [v13] fun v81 =>
xF (fBin .add .no) [v80, v81] fun v82 =>
s_mem_Mem_Peek [v77, v82] (fun v83 σ =>
xF (fBin .neq .no) [v83, (.int .u64 0)] fun v84 =>
xIf v84
 (xF fMove [(.bool false)] fun v8 =>
K v8 σ)
 (xF fMove [v13] fun v74 =>
xF (fBin .add .no) [v74, (.int .i64 1)] fun v75 =>
xF fMove [v75] fun v13 =>
R1 [v2, v13] [c4, c11] σ)) σ)
 (J3 [v2] [c4, c11] σ)

def w_law08_sound_l10 (K : Value → Mem → Prop) (J3 : List Value → List (List Value) → Mem → Prop) (R1 : List Value → List (List Value) → Mem → Prop) (ts : List Value) (ls : List (List Value)) (σ : Mem) : Prop := w_law08_sound_l10b K J3 R1 (ts.getD 0 poison) (ts.getD 1 poison) (ls.getD 0 []) (ls.getD 1 []) σ

def w_law08_sound_j2b (K : Value → Mem → Prop) (v2 v70 : Value) (c4 c11 : List Value) (σ : Mem) : Prop :=
xIf v70
 (xF fMove [(.bool false)] fun v8 =>
K v8 σ)
 (xJoin (w_law08_sound_j3 K) fun J3 =>
xF fMove [(.int .i64 0)] fun v13 =>
xLoop (w_law08_sound_l10 K J3) [v2, v13] [c4, c11] σ)

def w_law08_sound_j2 (K : Value → Mem → Prop) (ts : List Value) (ls : List (List Value)) (σ : Mem) : Prop := w_law08_sound_j2b K (ts.getD 0 poison) (ts.getD 1 poison) (ls.getD 0 []) (ls.getD 1 []) σ

def w_law08_sound_j1b (K : Value → Mem → Prop) (v2 v3 v29 : Value) (c4 c9 : List Value) (σ : Mem) : Prop :=
xIf v29
 (xF fMove [(.bool false)] fun v8 =>
K v8 σ)
 (xF (fFld 7) [(locP 4)] fun v30 =>
xO (gLoad 1 false [v30] c4) fun v31 =>
xF (fFld 0) [(locP 4)] fun v32 =>
xO (gLoad 7 true [v32] c4) fun v33 =>
xF (fFld 0) [(locP 9)] fun v34 =>
xO (gLoad 1 false [v34] c9) fun v35 =>
s_layout_Slot [v33, v35] (fun v36 σ =>
s_mem_Mem_Peek [v31, v36] (fun v37 σ =>
s_word_Slot [v37] (fun v38 σ =>
xC (gStore 4 [(locP 11), v38] [(.int .i64 0), (.int .i64 0), (.int .i64 0), (.int .i64 0)]) fun c11 =>
xF (fFld 7) [(locP 4)] fun v39 =>
xO (gLoad 1 false [v39] c4) fun v40 =>
xF (fFld 1) [(locP 11)] fun v41 =>
xO (gLoad 1 false [v41] c11) fun v42 =>
s_mem_Mem_Peek [v40, v42] (fun v43 σ =>
s_word_Head [v43] (fun v44 σ =>
xC (gStore 5 [(locP 12), v44] [(.int .i64 0), (.int .i64 0), (.int .i64 0), (.int .i64 0), (.bool false)]) fun c12 =>
xJoin (w_law08_sound_j2 K) fun J2 =>
xF (fFld 0) [(locP 11)] fun v45 =>
xO (gLoad 1 false [v45] c11) fun v46 =>
xF (fBin .neq .no) [v46, (.int .i64 1)] fun v47 =>
xF fMove [v47] fun v48 =>
xIf v48
 (xF fPick [(.bool true), (.bool true), undef] fun v54 =>
xF fMove [v54] fun v55 =>
xIf v55
 (xF fPick [(.bool true), (.bool true), undef] fun v59 =>
xF fMove [v59] fun v60 =>
xIf v60
 (xF fPick [(.bool true), (.bool true), undef] fun v70 =>
J2 [v2, v70] [c4, c11] σ)
 (xO (gLoad 5 true [(locP 12)] c12) fun v61 =>
xF fMove [v2] fun v62 =>
xF (fFld 0) [(locP 9)] fun v63 =>
xO (gLoad 1 false [v63] c9) fun v64 =>
xF (fFld 1) [(locP 9)] fun v65 =>
xO (gLoad 1 false [v65] c9) fun v66 =>
xF fMove [v3] fun v67 =>
xF (fBuild [(0, 1), (1, 1), (2, 1), (3, 1), (4, 1)] [(.int .i64 0), (.int .i64 0), (.int .i64 0), (.int .i64 0), (.bool false)] [0, 1, 2, 3, 4]) [(.int .i64 2), v62, v64, v66, v67] fun v68 =>
xF (fBin .neq (.flat [true, true, true, true, false])) [v61, v68] fun v69 =>
xF fPick [(.bool false), (.bool true), v69] fun v70 =>
J2 [v2, v70] [c4, c11] σ))
 (xF (fFld 3) [(locP 11)] fun v56 =>
xO (gLoad 1 false [v56] c11) fun v57 =>
xF (fBin .neq .no) [v57, (.int .i64 0)] fun v58 =>
xF fPick [(.bool false), (.bool true), v58] fun v59 =>
xF fMove [v59] fun v60 =>
xIf v60
 (xF fPick [(.bool true), (.bool true), undef] fun v70 =>
J2 [v2, v70] [c4, c11] σ)
 (xO (gLoad 5 true [(locP 12)] c12) fun v61 =>
xF fMove [v2] fun v62 =>
xF (fFld 0) [(locP 9)] fun v63 =>
xO (gLoad 1 false [v63] c9) fun v64 =>
xF (fFld 1) [(locP 9)] fun v65 =>
xO (gLoad 1 false [v65] c9) fun v66 =>
xF fMove [v3] fun v67 =>
xF (fBuild [(0, 1), (1, 1), (2, 1), (3, 1), (4, 1)] [(.int .i64 0), (.int .i64 0), (.int .i64 0), (.int .i64 0), (.bool false)] [0, 1, 2, 3, 4]) [(.int .i64 2), v62, v64, v66, v67] fun v68 =>
xF (fBin .neq (.flat [true, true, true, true, false])) [v61, v68] fun v69 =>
xF fPick [(.bool false), (.bool true), v69] fun v70 =>
J2 [v2, v70] [c4, c11] σ)))
 (xF (fFld 2) [(locP 11)] fun v49 =>
xO (gLoad 1 false [v49] c11) fun v50 =>
xF (fFld 1) [(locP 9)] fun v51 =>
xO (gLoad 1 false [v51] c9) fun v52 =>
xF (fBin .neq .no) [v50, v52] fun v53 =>
xF fPick [(.bool false), (.bool true), v53] fun v54 =>
xF fMove [v54] fun v55 =>
xIf v55
 (xF fPick [(.bool true), (.bool true), undef] fun v59 =>
xF fMove [v59] fun v60 =>
xIf v60
 (xF fPick [(.bool true), (.bool true), undef] fun v70 =>
J2 [v2, v70] [c4, c11] σ)
 (xO (gLoad 5 true [(locP 12)] c12) fun v61 =>
xF fMove [v2] fun v62 =>
xF (fFld 0) [(locP 9)] fun v63 =>
xO (gLoad 1 false [v63] c9) fun v64 =>
xF (fFld 1) [(locP 9)] fun v65 =>
xO (gLoad 1 false [v65] c9) fun v66 =>
xF fMove [v3] fun v67 =>
xF (fBuild [(0, 1), (1, 1), (2, 1), (3, 1), (4, 1)] [(.int .i64 0), (.int .i64 0), (.int .i64 0), (.int .i64 0), (.bool false)] [0, 1, 2, 3, 4]) [(.int .i64 2), v62, v64, v66, v67] fun v68 =>
xF (fBin .neq (.flat [true, true, true, true, false])) [v61, v68] fun v69 =>
xF fPick [(.bool false), (.bool true), v69] fun v70 =>
J2 [v2, v70] [c4, c11] σ))
 (xF (fFld 3) [(locP 11)] fun v56 =>
xO (gLoad 1 false [v56] c11) fun v57 =>
xF (fBin .neq .no) [v57, (.int .i64 0)] fun v58 =>
xF fPick [(.bool false), (.bool true), v58] fun v59 =>
xF fMove [v59] fun v60 =>
xIf v60
 (xF fPick [(.bool true), (.bool true), undef] fun v70 =>
J2 [v2, v70] [c4, c11] σ)
 (xO (gLoad 5 true [(locP 12)] c12) fun v61 =>
xF fMove [v2] fun v62 =>
xF (fFld 0) [(locP 9)] fun v63 =>
xO (gLoad 1 false [v63] c9) fun v64 =>
xF (fFld 1) [(locP 9)] fun v65 =>
xO (gLoad 1 false [v65] c9) fun v66 =>
xF fMove [v3] fun v67 =>
xF (fBuild [(0, 1), (1, 1), (2, 1), (3, 1), (4, 1)] [(.int .i64 0), (.int .i64 0), (.int .i64 0), (.int .i64 0), (.bool false)] [0, 1, 2, 3, 4]) [(.int .i64 2), v62, v64, v66, v67] fun v68 =>
xF (fBin .neq (.flat [true, true, true, true, false])) [v61, v68] fun v69 =>
xF fPick [(.bool false), (.bool true), v69] fun v70 =>
J2 [v2, v70] [c4, c11] σ)))) σ) σ) σ) σ) σ)

def w_law08_sound_j1 (K : Value → Mem → Prop) (ts : List Value) (ls : List (List Value)) (σ : Mem) : Prop := w_law08_sound_j1b K (ts.getD 0 poison) (ts.getD 1 poison) (ts.getD 2 poison) (ls.getD 0 []) (ls.getD 1 []) σ

def w_law08_sound (a0 a1 a2 a3 : Value) (K : Value → Mem → Prop) (σ : Mem) : Prop :=
xC (gBox 9 [a0] []) fun c4 =>
xF fMove [(.bool false)] fun v8 =>
xF fMove [a1] fun v16 =>
s_word_Handle [v16] (fun v17 σ =>
xF fMove [v17] fun v15 =>
xF (fExt 0) [v15] fun v18 =>
xF (fExt 1) [v15] fun v19 =>
xC (gStore 2 [(locP 9), v18] [(.int .i64 0), (.int .i64 0)]) fun c9 =>
xF fMove [v19] fun v10 =>
xJoin (w_law08_sound_j1 K) fun J1 =>
xF fMove [v10] fun v20 =>
xF (fUn .not) [v20] fun v21 =>
xF fMove [v21] fun v22 =>
xIf v22
 (xF fPick [(.bool true), (.bool true), undef] fun v29 =>
J1 [a2, a3, v29] [c4, c9] σ)
 (xF (fFld 0) [(locP 9)] fun v23 =>
xO (gLoad 1 false [v23] c9) fun v24 =>
xF (fFld 0) [(locP 4)] fun v25 =>
xF (fFld 1) [v25] fun v26 =>
xO (gLoad 1 false [v26] c4) fun v27 =>
xF (fBin .geq .no) [v24, v27] fun v28 =>
xF fPick [(.bool false), (.bool true), v28] fun v29 =>
J1 [a2, a3, v29] [c4, c9] σ)) σ

def s_law08_sound : Spec := fun args K σ => match args with
  | [a0, a1, a2, a3] => w_law08_sound a0 a1 a2 a3 K σ
  | _ => False

noncomputable def cx_law08_sound : Cx := { P := Try.prog, T := [(60, .none, s_word_Handle), (37, .none, s_layout_Slot), (19, .read, s_mem_Mem_Peek), (36, .none, s_word_Slot), (61, .none, s_word_Head), (28, .none, s_layout_Of), (20, .none, s_layout_Chunk), (18, .none, s_word_Chunk), (38, .write, s_ref04_Class)], loc := [(4, 4), (9, 9), (11, 11), (12, 12), (14, 14), (23, 9), (25, 4), (26, 4), (30, 4), (32, 4), (34, 9), (39, 4), (41, 11), (45, 11), (49, 11), (51, 9), (56, 11), (63, 9), (65, 9), (76, 4), (78, 11), (85, 4), (87, 4), (89, 4), (91, 11), (97, 14), (101, 14)], eqt := [(108, (.flat [true, true, true, true, false]))], n := 107, keep := [(10, [2, 13], [4, 11]), (1000004, [2, 3, 29], [4, 9]), (1000008, [2, 70], [4, 11]), (1000014, [2], [4, 11])] }
theorem q_law08_sound : FnS cx_law08_sound Try.f39 (bodyOf Try.f39) 4 = s_law08_sound := by
  funext args K σ
  rcases args with _ | ⟨a0, _ | ⟨a1, _ | ⟨a2, _ | ⟨a3, _ | ⟨b, r⟩⟩⟩⟩⟩ <;> kernel_rfl
theorem e_law08_sound : Entry Try.prog 39 .write s_law08_sound :=
  entry (C := cx_law08_sound) (TOk.cons e_word_Handle (TOk.cons e_layout_Slot (TOk.cons e_mem_Mem_Peek (TOk.cons e_word_Slot (TOk.cons e_word_Head (TOk.cons e_layout_Of (TOk.cons e_layout_Chunk (TOk.cons e_word_Chunk (TOk.cons e_ref04_Class TOk.nil))))))))) mixedOk Try.func39 (by kernel_rfl) (by kernel_rfl) (by kernel_rfl) q_law08_sound


attribute [irreducible] w_law08_sound_j3b w_law08_sound_j3 w_law08_sound_l10b w_law08_sound_l10 w_law08_sound_j2b w_law08_sound_j2 w_law08_sound_j1b w_law08_sound_j1 w_law08_sound s_law08_sound

/-! ### /law08.AllocAlone -/
def w_law08_AllocAlone_j3b (K : Value → Mem → Prop) (v14 v19 : Value) (σ : Mem) : Prop :=
xF fMove [v19] fun v158 =>
xF (fBin .gtr .no) [v158, (.int .i64 0)] fun v159 =>
xF fMove [v159] fun v160 =>
xIf v160
 (xF fPick [(.bool true), (.bool true), undef] fun v163 =>
xF fMove [v163] fun v6 =>
K v6 σ)
 (xF fMove [v14] fun v161 =>
xF (fBin .eql .no) [v161, (.int .i64 0)] fun v162 =>
xF fPick [(.bool false), (.bool true), v162] fun v163 =>
xF fMove [v163] fun v6 =>
K v6 σ)

def w_law08_AllocAlone_j3 (K : Value → Mem → Prop) (ts : List Value) (ls : List (List Value)) (σ : Mem) : Prop := w_law08_AllocAlone_j3b K (ts.getD 0 poison) (ts.getD 1 poison) σ

def w_law08_AllocAlone_l31b (K : Value → Mem → Prop) (J3 : List Value → List (List Value) → Mem → Prop) (R1 : List Value → List (List Value) → Mem → Prop) (v8 v12 v14 v19 v20 : Value) (c9 : List Value) (σ : Mem) : Prop :=
xF fMove [v20] fun v133 =>
xF fMove [v8] fun v134 =>
xF (fBin .lss .no) [v133, v134] fun v135 =>
xIf v135
 (xF (fFld 7) [(locP 9)] fun v138 =>
xO (gLoad 1 false [v138] c9) fun v139 =>
xF (fFld 0) [(locP 9)] fun v140 =>
xO (gLoad 7 true [v140] c9) fun v141 =>
xF fMove [v20] fun v142 =>
s_layout_Chunk [v141, v142] (fun v143 σ =>
xF (fBin .add .no) [v143, (.int .i64 1)] fun v144 =>
s_mem_Mem_Peek [v139, v144] (fun v145 σ =>
xF fMove [v12] fun v146 =>
xF fMove [v20] fun v147 =>
xF (fIxS 1) [v146, v147] fun v148 =>
hLoad 1 false [v148] (fun v149 σ =>
xF (fConv .u64) [v149] fun v150 =>
xF (fBin .neq .no) [v145, v150] fun v151 =>
xIf v151
 (xF fMove [(.bool false)] fun v6 =>
K v6 σ)
 (xF fMove [v19] fun v152 =>
xF fMove [v12] fun v153 =>
xF fMove [v20] fun v154 =>
xF (fIxS 1) [v153, v154] fun v155 =>
hLoad 1 false [v155] (fun v156 σ =>
xF (fBin .add .no) [v152, v156] fun v157 =>
xF fMove [v157] fun v19 =>
xF fMove [v20] fun v136 =>
xF (fBin .add .no) [v136, (.int .i64 1)] fun v137 =>
xF fMove [v137] fun v20 =>
R1 [v8, v12, v14, v19, v20] [c9] σ) σ)) σ) σ) σ)
 (J3 [v14, v19] [] σ)

def w_law08_AllocAlone_l31 (K : Value → Mem → Prop) (J3 : List Value → List (List Value) → Mem → Prop) (R1 : List Value → List (List Value) → Mem → Prop) (ts : List Value) (ls : List (List Value)) (σ : Mem) : Prop := w_law08_AllocAlone_l31b K J3 R1 (ts.getD 0 poison) (ts.getD 1 poison) (ts.getD 2 poison) (ts.getD 3 poison) (ts.getD 4 poison) (ls.getD 0 []) σ

def w_law08_AllocAlone_j2b (K : Value → Mem → Prop) (v8 v12 v14 : Value) (c9 : List Value) (σ : Mem) : Prop :=
xF fMove [(.int .i64 0)] fun v19 =>
xJoin (w_law08_AllocAlone_j3 K) fun J3 =>
xF fMove [(.int .i64 0)] fun v20 =>
xLoop (w_law08_AllocAlone_l31 K J3) [v8, v12, v14, v19, v20] [c9] σ

def w_law08_AllocAlone_j2 (K : Value → Mem → Prop) (ts : List Value) (ls : List (List Value)) (σ : Mem) : Prop := w_law08_AllocAlone_j2b K (ts.getD 0 poison) (ts.getD 1 poison) (ts.getD 2 poison) (ls.getD 0 []) σ

def w_law08_AllocAlone_j5b (K : Value → Mem → Prop) (J2 : List Value → List (List Value) → Mem → Prop) (R1 : List Value → List (List Value) → Mem → Prop) (v2 v7 v8 v12 v13 v14 v15 : Value) (c9 c11 : List Value) (σ : Mem) : Prop :=
xF fMove [v15] fun v50 =>
xF (fBin .add .no) [v50, (.int .i64 1)] fun v51 =>
xF fMove [v51] fun v15 =>
R1 [v2, v7, v8, v12, v13, v14, v15] [c9, c11] σ

def w_law08_AllocAlone_j5 (K : Value → Mem → Prop) (J2 : List Value → List (List Value) → Mem → Prop) (R1 : List Value → List (List Value) → Mem → Prop) (ts : List Value) (ls : List (List Value)) (σ : Mem) : Prop := w_law08_AllocAlone_j5b K J2 R1 (ts.getD 0 poison) (ts.getD 1 poison) (ts.getD 2 poison) (ts.getD 3 poison) (ts.getD 4 poison) (ts.getD 5 poison) (ts.getD 6 poison) (ls.getD 0 []) (ls.getD 1 []) σ

def w_law08_AllocAlone_j7b (K : Value → Mem → Prop) (J2 : List Value → List (List Value) → Mem → Prop) (R1 : List Value → List (List Value) → Mem → Prop) (J5 : List Value → List (List Value) → Mem → Prop) (v2 v7 v8 v12 v13 v14 v15 v132 : Value) (c9 c11 : List Value) (σ : Mem) : Prop :=
xIf v132
 (xF fMove [(.bool false)] fun v6 =>
K v6 σ)
 (J5 [v2, v7, v8, v12, v13, v14, v15] [c9, c11] σ)

def w_law08_AllocAlone_j7 (K : Value → Mem → Prop) (J2 : List Value → List (List Value) → Mem → Prop) (R1 : List Value → List (List Value) → Mem → Prop) (J5 : List Value → List (List Value) → Mem → Prop) (ts : List Value) (ls : List (List Value)) (σ : Mem) : Prop := w_law08_AllocAlone_j7b K J2 R1 J5 (ts.getD 0 poison) (ts.getD 1 poison) (ts.getD 2 poison) (ts.getD 3 poison) (ts.getD 4 poison) (ts.getD 5 poison) (ts.getD 6 poison) (ts.getD 7 poison) (ls.getD 0 []) (ls.getD 1 []) σ

def w_law08_AllocAlone_j6b (K : Value → Mem → Prop) (J2 : List Value → List (List Value) → Mem → Prop) (R1 : List Value → List (List Value) → Mem → Prop) (J5 : List Value → List (List Value) → Mem → Prop) (v2 v7 v8 v12 v13 v14 v15 v16 v18 : Value) (c9 c11 c17 : List Value) (σ : Mem) : Prop :=
xF fMove [v12] fun v105 =>
xF fMove [v16] fun v106 =>
xF (fIxA 4 1) [(locP 11), v106] fun v107 =>
xO (gLoad 1 false [v107] c11) fun v108 =>
xF (fIxS 1) [v105, v108] fun v109 =>
hLoad 1 false [v109] (fun v110 σ =>
xF fMove [v18] fun v111 =>
xF (fBin .add .no) [v110, v111] fun v112 =>
xF (fIxS 1) [v105, v108] fun v113 =>
hStore 1 [v113, v112] (fun _v σ =>
xF fMove [v14] fun v114 =>
xF (fBin .add .no) [v114, (.int .i64 1)] fun v115 =>
xF fMove [v115] fun v14 =>
xJoin (w_law08_AllocAlone_j7 K J2 R1 J5) fun J7 =>
xF (fFld 0) [(locP 17)] fun v116 =>
xO (gLoad 1 false [v116] c17) fun v117 =>
xF (fBin .neq .no) [v117, (.int .i64 0)] fun v118 =>
xF fMove [v118] fun v119 =>
xIf v119
 (xF fPick [(.bool true), (.bool true), undef] fun v132 =>
J7 [v2, v7, v8, v12, v13, v14, v15, v132] [c9, c11] σ)
 (xO (gLoad 9 true [(locP 9)] c9) fun v120 =>
xF (fFld 1) [(locP 17)] fun v121 =>
xO (gLoad 1 false [v121] c17) fun v122 =>
xF fMove [v2] fun v123 =>
xF fMove [v15] fun v124 =>
xF (fIxS 1) [v123, v124] fun v125 =>
hLoad 1 false [v125] (fun v126 σ =>
xF fMove [v15] fun v127 =>
xF (fBin .rem .no) [v127, (.int .i64 2)] fun v128 =>
xF (fBin .eql .no) [v128, (.int .i64 0)] fun v129 =>
s_law08_sound [v120, v122, v126, v129] (fun v130 σ =>
xF (fUn .not) [v130] fun v131 =>
xF fPick [(.bool false), (.bool true), v131] fun v132 =>
J7 [v2, v7, v8, v12, v13, v14, v15, v132] [c9, c11] σ) σ) σ)) σ) σ

def w_law08_AllocAlone_j6 (K : Value → Mem → Prop) (J2 : List Value → List (List Value) → Mem → Prop) (R1 : List Value → List (List Value) → Mem → Prop) (J5 : List Value → List (List Value) → Mem → Prop) (ts : List Value) (ls : List (List Value)) (σ : Mem) : Prop := w_law08_AllocAlone_j6b K J2 R1 J5 (ts.getD 0 poison) (ts.getD 1 poison) (ts.getD 2 poison) (ts.getD 3 poison) (ts.getD 4 poison) (ts.getD 5 poison) (ts.getD 6 poison) (ts.getD 7 poison) (ts.getD 8 poison) (ls.getD 0 []) (ls.getD 1 []) (ls.getD 2 []) σ

def w_law08_AllocAlone_j8b (K : Value → Mem → Prop) (J2 : List Value → List (List Value) → Mem → Prop) (R1 : List Value → List (List Value) → Mem → Prop) (J5 : List Value → List (List Value) → Mem → Prop) (J6 : List Value → List (List Value) → Mem → Prop) (v2 v7 v8 v12 v13 v14 v15 v16 v18 v93 : Value) (c9 c11 c17 : List Value) (σ : Mem) : Prop :=
xIf v93
 (xF fMove [v13] fun v94 =>
xF fMove [v8] fun v95 =>
xF (fBin .geq .no) [v94, v95] fun v96 =>
xIf v96
 (xF (fFld 0) [(locP 17)] fun v97 =>
xO (gLoad 1 false [v97] c17) fun v98 =>
xF (fBin .neq .no) [v98, (.int .i64 6)] fun v99 =>
xIf v99
 (xF fMove [(.bool false)] fun v6 =>
K v6 σ)
 (J5 [v2, v7, v8, v12, v13, v14, v15] [c9, c11] σ))
 (xF fMove [v16] fun v100 =>
xF fMove [v13] fun v101 =>
xF (fIxA 4 1) [(locP 11), v100] fun v102 =>
xC (gStore 1 [v102, v101] c11) fun c11 =>
xF fMove [v13] fun v103 =>
xF (fBin .add .no) [v103, (.int .i64 1)] fun v104 =>
xF fMove [v104] fun v13 =>
J6 [v2, v7, v8, v12, v13, v14, v15, v16, v18] [c9, c11, c17] σ))
 (J6 [v2, v7, v8, v12, v13, v14, v15, v16, v18] [c9, c11, c17] σ)

def w_law08_AllocAlone_j8 (K : Value → Mem → Prop) (J2 : List Value → List (List Value) → Mem → Prop) (R1 : List Value → List (List Value) → Mem → Prop) (J5 : List Value → List (List Value) → Mem → Prop) (J6 : List Value → List (List Value) → Mem → Prop) (ts : List Value) (ls : List (List Value)) (σ : Mem) : Prop := w_law08_AllocAlone_j8b K J2 R1 J5 J6 (ts.getD 0 poison) (ts.getD 1 poison) (ts.getD 2 poison) (ts.getD 3 poison) (ts.getD 4 poison) (ts.getD 5 poison) (ts.getD 6 poison) (ts.getD 7 poison) (ts.getD 8 poison) (ts.getD 9 poison) (ls.getD 0 []) (ls.getD 1 []) (ls.getD 2 []) σ

def w_law08_AllocAlone_j4b (K : Value → Mem → Prop) (J2 : List Value → List (List Value) → Mem → Prop) (R1 : List Value → List (List Value) → Mem → Prop) (v2 v7 v8 v12 v13 v14 v15 : Value) (c9 c11 : List Value) (σ : Mem) : Prop :=
xJoin (w_law08_AllocAlone_j5 K J2 R1) fun J5 =>
xF fMove [v2] fun v52 =>
xF fMove [v15] fun v53 =>
xF (fIxS 1) [v52, v53] fun v54 =>
hLoad 1 false [v54] (fun v55 σ =>
s_ref04_Class [v55] (fun v56 σ =>
xF fMove [v56] fun v16 =>
xO (gLoad 9 true [(locP 9)] c9) fun v57 =>
xF fMove [v2] fun v58 =>
xF fMove [v15] fun v59 =>
xF (fIxS 1) [v58, v59] fun v60 =>
hLoad 1 false [v60] (fun v61 σ =>
xF fMove [v15] fun v62 =>
xF (fBin .rem .no) [v62, (.int .i64 2)] fun v63 =>
xF (fBin .eql .no) [v63, (.int .i64 0)] fun v64 =>
s_law08_Make [v57, v61, v64] (fun v65 σ =>
xC (gStore 4 [(locP 17), v65] [(.int .i64 0), (.int .u64 0), (.int .i64 0), (.int .i64 0)]) fun c17 =>
xF fMove [v16] fun v66 =>
xF (fBin .lss .no) [v66, (.int .i64 0)] fun v67 =>
xIf v67
 (xF (fFld 0) [(locP 17)] fun v68 =>
xO (gLoad 1 false [v68] c17) fun v69 =>
xF (fBin .neq .no) [v69, (.int .i64 5)] fun v70 =>
xIf v70
 (xF fMove [(.bool false)] fun v6 =>
K v6 σ)
 (J5 [v2, v7, v8, v12, v13, v14, v15] [c9, c11] σ))
 (xF fMove [v14] fun v71 =>
xF fMove [v7] fun v72 =>
xF (fBin .geq .no) [v71, v72] fun v73 =>
xIf v73
 (xF (fFld 0) [(locP 17)] fun v74 =>
xO (gLoad 1 false [v74] c17) fun v75 =>
xF (fBin .neq .no) [v75, (.int .i64 7)] fun v76 =>
xIf v76
 (xF fMove [(.bool false)] fun v6 =>
K v6 σ)
 (J5 [v2, v7, v8, v12, v13, v14, v15] [c9, c11] σ))
 (xF fMove [v16] fun v77 =>
s_ref04_Room [v77] (fun v78 σ =>
xF fMove [v78] fun v18 =>
xJoin (w_law08_AllocAlone_j6 K J2 R1 J5) fun J6 =>
xJoin (w_law08_AllocAlone_j8 K J2 R1 J5 J6) fun J8 =>
xF fMove [v16] fun v79 =>
xF (fIxA 4 1) [(locP 11), v79] fun v80 =>
xO (gLoad 1 false [v80] c11) fun v81 =>
xF (fBin .lss .no) [v81, (.int .i64 0)] fun v82 =>
xF fMove [v82] fun v83 =>
xIf v83
 (xF fPick [(.bool true), (.bool true), undef] fun v93 =>
J8 [v2, v7, v8, v12, v13, v14, v15, v16, v18, v93] [c9, c11, c17] σ)
 (xF fMove [v12] fun v84 =>
xF fMove [v16] fun v85 =>
xF (fIxA 4 1) [(locP 11), v85] fun v86 =>
xO (gLoad 1 false [v86] c11) fun v87 =>
xF (fIxS 1) [v84, v87] fun v88 =>
hLoad 1 false [v88] (fun v89 σ =>
xF fMove [v18] fun v90 =>
xF (fBin .add .no) [v89, v90] fun v91 =>
xF (fBin .gtr .no) [v91, (.int .i64 20)] fun v92 =>
xF fPick [(.bool false), (.bool true), v92] fun v93 =>
J8 [v2, v7, v8, v12, v13, v14, v15, v16, v18, v93] [c9, c11, c17] σ) σ)) σ))) σ) σ) σ) σ

def w_law08_AllocAlone_j4 (K : Value → Mem → Prop) (J2 : List Value → List (List Value) → Mem → Prop) (R1 : List Value → List (List Value) → Mem → Prop) (ts : List Value) (ls : List (List Value)) (σ : Mem) : Prop := w_law08_AllocAlone_j4b K J2 R1 (ts.getD 0 poison) (ts.getD 1 poison) (ts.getD 2 poison) (ts.getD 3 poison) (ts.getD 4 poison) (ts.getD 5 poison) (ts.getD 6 poison) (ls.getD 0 []) (ls.getD 1 []) σ

def w_law08_AllocAlone_l8b (K : Value → Mem → Prop) (J2 : List Value → List (List Value) → Mem → Prop) (R1 : List Value → List (List Value) → Mem → Prop) (v2 v7 v8 v12 v13 v14 v15 : Value) (c9 c11 : List Value) (σ : Mem) : Prop :=
xJoin (w_law08_AllocAlone_j4 K J2 R1) fun J4 =>
xF fMove [v15] fun v42 =>
xF fMove [v2] fun v43 =>
xF fLen [v43] fun v44 =>
xF (fBin .lss .no) [v42, v44] fun v45 =>
xF fMove [v45] fun v46 =>
xIf v46
 (xF fMove [v15] fun v47 =>
xF (fBin .lss .no) [v47, (.int .i64 40)] fun v48 =>
xF fPick [(.bool true), v48, (.bool false)] fun v49 =>
xIf v49
 (J4 [v2, v7, v8, v12, v13, v14, v15] [c9, c11] σ)
 (J2 [v8, v12, v14] [c9] σ))
 (xF fPick [(.bool false), undef, (.bool false)] fun v49 =>
xIf v49
 (J4 [v2, v7, v8, v12, v13, v14, v15] [c9, c11] σ)
 (J2 [v8, v12, v14] [c9] σ))

def w_law08_AllocAlone_l8 (K : Value → Mem → Prop) (J2 : List Value → List (List Value) → Mem → Prop) (R1 : List Value → List (List Value) → Mem → Prop) (ts : List Value) (ls : List (List Value)) (σ : Mem) : Prop := w_law08_AllocAlone_l8b K J2 R1 (ts.getD 0 poison) (ts.getD 1 poison) (ts.getD 2 poison) (ts.getD 3 poison) (ts.getD 4 poison) (ts.getD 5 poison) (ts.getD 6 poison) (ls.getD 0 []) (ls.getD 1 []) σ

def w_law08_AllocAlone_j1b (K : Value → Mem → Prop) (v2 v7 v8 v38 : Value) (c9 : List Value) (σ : Mem) : Prop :=
xIf v38
 (xF fMove [(.bool false)] fun v6 =>
K v6 σ)
 (xF (fBuild [(0, 1), (1, 1), (2, 1), (3, 1)] [(.int .i64 0), (.int .i64 0), (.int .i64 0), (.int .i64 0)] [0, 1, 2, 3]) [(.int .i64 (-1)), (.int .i64 (-1)), (.int .i64 (-1)), (.int .i64 (-1))] fun v39 =>
xF fMove [v8] fun v40 =>
hMakeS 1 8 [(.int .i64 0)] [v40, v40] (fun v41 σ =>
xC (gStore 4 [(locP 11), v39] [(.int .i64 0), (.int .i64 0), (.int .i64 0), (.int .i64 0)]) fun c11 =>
xF fMove [v41] fun v12 =>
xF fMove [(.int .i64 0)] fun v13 =>
xF fMove [(.int .i64 0)] fun v14 =>
xJoin (w_law08_AllocAlone_j2 K) fun J2 =>
xF fMove [(.int .i64 0)] fun v15 =>
xLoop (w_law08_AllocAlone_l8 K J2) [v2, v7, v8, v12, v13, v14, v15] [c9, c11] σ) σ)

def w_law08_AllocAlone_j1 (K : Value → Mem → Prop) (ts : List Value) (ls : List (List Value)) (σ : Mem) : Prop := w_law08_AllocAlone_j1b K (ts.getD 0 poison) (ts.getD 1 poison) (ts.getD 2 poison) (ts.getD 3 poison) (ls.getD 0 []) σ

def w_law08_AllocAlone (a0 a1 a2 : Value) (K : Value → Mem → Prop) (σ : Mem) : Prop :=
xF fMove [(.bool false)] fun v6 =>
xF fMove [a0] fun v21 =>
xF (fBin .and .no) [v21, (.int .i64 15)] fun v22 =>
xF (fBin .add .no) [(.int .i64 1), v22] fun v23 =>
xF fMove [a1] fun v24 =>
xF (fBin .and .no) [v24, (.int .i64 7)] fun v25 =>
xF (fBin .add .no) [(.int .i64 1), v25] fun v26 =>
xF fMove [v23] fun v7 =>
xF fMove [v26] fun v8 =>
xF fMove [v7] fun v28 =>
xF fMove [v8] fun v29 =>
s_law04_Arena [(.int .i64 1), v28, v29, (.int .i64 20)] (fun v30 σ =>
xF fMove [v30] fun v27 =>
xF (fExt 0) [v27] fun v31 =>
xF (fExt 1) [v27] fun v32 =>
xC (gStore 9 [(locP 9), v31] [(.int .i64 0), (.int .i64 0), (.int .i64 0), (.int .i64 0), (.int .i64 0), (.int .i64 0), (.int .i64 0), (.pointer none), (.int .i64 0)]) fun c9 =>
xF fMove [v32] fun v10 =>
xJoin (w_law08_AllocAlone_j1 K) fun J1 =>
s_law08_awake [] (fun v33 σ =>
xF (fUn .not) [v33] fun v34 =>
xF fMove [v34] fun v35 =>
xIf v35
 (xF fPick [(.bool true), (.bool true), undef] fun v38 =>
J1 [a2, v7, v8, v38] [c9] σ)
 (xF fMove [v10] fun v36 =>
xF (fUn .not) [v36] fun v37 =>
xF fPick [(.bool false), (.bool true), v37] fun v38 =>
J1 [a2, v7, v8, v38] [c9] σ)) σ) σ

def s_law08_AllocAlone : Spec := fun args K σ => match args with
  | [a0, a1, a2] => w_law08_AllocAlone a0 a1 a2 K σ
  | _ => False

noncomputable def cx_law08_AllocAlone : Cx := { P := Try.prog, T := [(13, .write, s_law04_Arena), (31, .none, s_law08_awake), (38, .write, s_ref04_Class), (32, .write, s_law08_Make), (15, .write, s_ref04_Room), (39, .write, s_law08_sound), (20, .none, s_layout_Chunk), (19, .read, s_mem_Mem_Peek)], loc := [(9, 9), (11, 11), (17, 17), (68, 17), (74, 17), (80, 11), (86, 11), (97, 17), (102, 11), (107, 11), (116, 17), (121, 17), (138, 9), (140, 9)], eqt := [], n := 164, keep := [(8, [2, 7, 8, 12, 13, 14, 15], [9, 11]), (31, [8, 12, 14, 19, 20], [9]), (1000005, [2, 7, 8, 38], [9]), (1000009, [2, 7, 8, 12, 13, 14, 15], [9, 11]), (1000010, [2, 7, 8, 12, 13, 14, 15], [9, 11]), (1000020, [2, 7, 8, 12, 13, 14, 15, 16, 18, 93], [9, 11, 17]), (1000025, [2, 7, 8, 12, 13, 14, 15, 16, 18], [9, 11, 17]), (1000028, [2, 7, 8, 12, 13, 14, 15, 132], [9, 11]), (1000029, [8, 12, 14], [9]), (1000036, [14, 19], [])] }
theorem q_law08_AllocAlone : FnS cx_law08_AllocAlone Try.f11 (bodyOf Try.f11) 3 = s_law08_AllocAlone := by
  funext args K σ
  rcases args with _ | ⟨a0, _ | ⟨a1, _ | ⟨a2, _ | ⟨b, r⟩⟩⟩⟩ <;> kernel_rfl
theorem e_law08_AllocAlone : Entry Try.prog 11 .write s_law08_AllocAlone :=
  entry (C := cx_law08_AllocAlone) (TOk.cons e_law04_Arena (TOk.cons e_law08_awake (TOk.cons e_ref04_Class (TOk.cons e_law08_Make (TOk.cons e_ref04_Room (TOk.cons e_law08_sound (TOk.cons e_layout_Chunk (TOk.cons e_mem_Mem_Peek TOk.nil)))))))) mixedOk Try.func11 (by kernel_rfl) (by kernel_rfl) (by kernel_rfl) q_law08_AllocAlone


attribute [irreducible] w_law08_AllocAlone_j3b w_law08_AllocAlone_j3 w_law08_AllocAlone_l31b w_law08_AllocAlone_l31 w_law08_AllocAlone_j2b w_law08_AllocAlone_j2 w_law08_AllocAlone_j5b w_law08_AllocAlone_j5 w_law08_AllocAlone_j7b w_law08_AllocAlone_j7 w_law08_AllocAlone_j6b w_law08_AllocAlone_j6 w_law08_AllocAlone_j8b w_law08_AllocAlone_j8 w_law08_AllocAlone_j4b w_law08_AllocAlone_j4 w_law08_AllocAlone_l8b w_law08_AllocAlone_l8 w_law08_AllocAlone_j1b w_law08_AllocAlone_j1 w_law08_AllocAlone s_law08_AllocAlone

end Go.Fl
