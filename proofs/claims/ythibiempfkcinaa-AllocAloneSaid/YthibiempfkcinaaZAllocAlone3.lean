/- What the claim leans on, part 3: own readings of the program's functions, what they come to, laws of them. No condition. -/
import Derived.Test.YthibiempfkcinaaZAllocAlone2
namespace Go.Fl
open Go Go.Proofs
set_option linter.unusedVariables false
set_option maxRecDepth 10000000
def w_layout_Env_Add (a0 a1 a2 : Value) (K : Value → Mem → Prop) (σ : Mem) : Prop :=
xC (gBox 9 [a0] []) fun c3 =>
xF (fFld 7) [(locP 3)] fun v6 =>
xO (gLoad 1 false [v6] c3) fun v7 =>
xF (fFld 8) [(locP 3)] fun v8 =>
xO (gLoad 1 false [v8] c3) fun v9 =>
s_mem_Mem_By [v7, v9] (fun v10 σ =>
xF (fFld 7) [(locP 3)] fun v11 =>
xO (gLoad 1 false [v11] c3) fun v12 =>
xF fMove [a1] fun v13 =>
xF fMove [a2] fun v14 =>
xF (fConv .u64) [v14] fun v15 =>
s_mem_Mem_Add [v12, v13, v15] (fun v16 σ =>
K (.tuple #[]) σ) σ) σ
def s_layout_Env_Add : Spec := fun args K σ => match args with
  | [a0, a1, a2] => w_layout_Env_Add a0 a1 a2 K σ
  | _ => False
noncomputable def cx_layout_Env_Add : Cx := { P := Try.prog, T := [(67, .write, s_mem_Mem_By), (72, .write, s_mem_Mem_Add)], loc := [(3, 3), (6, 3), (8, 3), (11, 3)], eqt := [], n := 17, keep := [] }
theorem q_layout_Env_Add : FnS cx_layout_Env_Add Try.f54 (bodyOf Try.f54) 3 = s_layout_Env_Add := by
  funext args K σ
  rcases args with _ | ⟨a0, _ | ⟨a1, _ | ⟨a2, _ | ⟨b, r⟩⟩⟩⟩ <;> kernel_rfl
theorem e_layout_Env_Add : Entry Try.prog 54 .write s_layout_Env_Add :=
  entry (C := cx_layout_Env_Add) (TOk.cons e_mem_Mem_By (TOk.cons e_mem_Mem_Add TOk.nil)) mixedOk Try.func54 (by kernel_rfl) (by kernel_rfl) (by kernel_rfl) q_layout_Env_Add
def xl_layout_Env_Add : List (Nat × Nat) := [(3, 3), (6, 3), (8, 3), (11, 3)]
noncomputable def xc_layout_Env_Add : XC XN :=
(.seq none
 (.reg [⟨none, some 3, [(.tmp 0)], ⟨.lb 3 9, rAny xl_layout_Env_Add (.lb 3 9)⟩⟩])
 (.seq none
 (.reg [⟨none, some 6, [(.tmp 3)], ⟨.f (fFld 7), rFld 7⟩⟩,
  ⟨none, some 7, [(.tmp 6)], ⟨.lr 3 1 false, rLr1 3⟩⟩,
  ⟨none, some 8, [(.tmp 3)], ⟨.f (fFld 8), rFld 8⟩⟩,
  ⟨none, some 9, [(.tmp 8)], ⟨.lr 3 1 false, rLr1 3⟩⟩,
  ⟨none, some 10, [(.tmp 7), (.tmp 9)], ⟨.call .write s_mem_Mem_By v_mem_Mem_By, rCall v_mem_Mem_By⟩⟩])
 (.reg [⟨none, some 11, [(.tmp 3)], ⟨.f (fFld 7), rFld 7⟩⟩,
  ⟨none, some 12, [(.tmp 11)], ⟨.lr 3 1 false, rLr1 3⟩⟩,
  ⟨none, some 13, [(.tmp 1)], ⟨.f fMove, rMove⟩⟩,
  ⟨none, some 14, [(.tmp 2)], ⟨.f fMove, rMove⟩⟩,
  ⟨none, some 15, [(.tmp 14)], ⟨.f (fConv .u64), rConv .u64⟩⟩,
  ⟨none, some 16, [(.tmp 12), (.tmp 13), (.tmp 15)], ⟨.call .write s_mem_Mem_Add v_mem_Mem_Add, rCall v_mem_Mem_Add⟩⟩])))
noncomputable def v_layout_Env_Add : EvF := evFn 3 xc_layout_Env_Add []
theorem xt_layout_Env_Add : toC cx_layout_Env_Add (bodyOf Try.f54) = some (xc_layout_Env_Add.map XN.sm) := by kernel_rfl
theorem xr_layout_Env_Add : toR cx_layout_Env_Add Try.f54.results.toList = some [] := by kernel_rfl
theorem xo_layout_Env_Add : xc_layout_Env_Add.ok xl_layout_Env_Add := ⟨⟨rAny_ok (trivial), trivial⟩, ⟨⟨rFld_ok _, rLr1_ok _, rFld_ok _, rLr1_ok _, rCall_ok ve_mem_Mem_By, trivial⟩, ⟨rFld_ok _, rLr1_ok _, rMove_ok, rMove_ok, rConv_ok _, rCall_ok ve_mem_Mem_Add, trivial⟩⟩⟩
theorem ve_layout_Env_Add : EvOk s_layout_Env_Add v_layout_Env_Add := EvOk.of (evFn_sound (C := cx_layout_Env_Add) xt_layout_Env_Add xr_layout_Env_Add xo_layout_Env_Add) q_layout_Env_Add
attribute [irreducible] w_layout_Env_Add s_layout_Env_Add
def w_word_PutHead_j1b (K : Value → Mem → Prop) (v3 : Value) (σ : Mem) : Prop :=
xF fMove [v3] fun v26 =>
xF fMove [v26] fun v2 =>
K v2 σ
def w_word_PutHead_j1 (K : Value → Mem → Prop) (ts : List Value) (ls : List (List Value)) (σ : Mem) : Prop := w_word_PutHead_j1b K (ts.getD 0 poison) σ
def w_word_PutHead (a0 : Value) (K : Value → Mem → Prop) (σ : Mem) : Prop :=
xC (gBox 5 [a0] []) fun c1 =>
xF fMove [(.int .u64 0)] fun v2 =>
xF (fFld 0) [(locP 1)] fun v4 =>
xO (gLoad 1 false [v4] c1) fun v5 =>
s_word_fit [v5, (.int .i64 3)] (fun v6 σ =>
xF (fFld 1) [(locP 1)] fun v7 =>
xO (gLoad 1 false [v7] c1) fun v8 =>
s_word_fit [v8, (.int .i64 65535)] (fun v9 σ =>
xF (fBin .shl .no) [v9, (.int .u64 2)] fun v10 =>
xF (fBin .or .no) [v6, v10] fun v11 =>
xF (fFld 2) [(locP 1)] fun v12 =>
xO (gLoad 1 false [v12] c1) fun v13 =>
s_word_fit [v13, (.int .i64 65535)] (fun v14 σ =>
xF (fBin .shl .no) [v14, (.int .u64 18)] fun v15 =>
xF (fBin .or .no) [v11, v15] fun v16 =>
xF (fFld 3) [(locP 1)] fun v17 =>
xO (gLoad 1 false [v17] c1) fun v18 =>
s_word_fit [v18, (.int .i64 65535)] (fun v19 σ =>
xF (fBin .shl .no) [v19, (.int .u64 34)] fun v20 =>
xF (fBin .or .no) [v16, v20] fun v21 =>
xF fMove [v21] fun v3 =>
xJoin (w_word_PutHead_j1 K) fun J1 =>
xF (fFld 4) [(locP 1)] fun v22 =>
xO (gLoad 1 false [v22] c1) fun v23 =>
xIf v23
 (xF fMove [v3] fun v24 =>
xF (fBin .or .no) [v24, (.int .u64 1125899906842624)] fun v25 =>
xF fMove [v25] fun v3 =>
J1 [v3] [] σ)
 (J1 [v3] [] σ)) σ) σ) σ) σ
def s_word_PutHead : Spec := fun args K σ => match args with
  | [a0] => w_word_PutHead a0 K σ
  | _ => False
noncomputable def cx_word_PutHead : Cx := { P := Try.prog, T := [(70, .none, s_word_fit)], loc := [(1, 1), (4, 1), (7, 1), (12, 1), (17, 1), (22, 1)], eqt := [], n := 27, keep := [(1000005, [3], [])] }
theorem q_word_PutHead : FnS cx_word_PutHead Try.f73 (bodyOf Try.f73) 1 = s_word_PutHead := by
  funext args K σ
  rcases args with _ | ⟨a0, _ | ⟨b, r⟩⟩ <;> kernel_rfl
theorem e_word_PutHead : Entry Try.prog 73 .none s_word_PutHead :=
  entry (C := cx_word_PutHead) (TOk.cons e_word_fit TOk.nil) mixedOk Try.func73 (by kernel_rfl) (by kernel_rfl) (by kernel_rfl) q_word_PutHead
def xl_word_PutHead : List (Nat × Nat) := [(1, 1), (4, 1), (7, 1), (12, 1), (17, 1), (22, 1)]
noncomputable def xc_word_PutHead : XC XN :=
(.seq none
 (.reg [⟨none, some 1, [(.tmp 0)], ⟨.lb 1 5, rAny xl_word_PutHead (.lb 1 5)⟩⟩,
  ⟨none, some 2, [(.const (.int .u64 0))], ⟨.f fMove, rMove⟩⟩])
 (.seq none
 (.reg [⟨none, some 4, [(.tmp 1)], ⟨.f (fFld 0), rFld 0⟩⟩,
  ⟨none, some 5, [(.tmp 4)], ⟨.lr 1 1 false, rLr1 1⟩⟩,
  ⟨none, some 6, [(.tmp 5), (.const (.int .i64 3))], ⟨.call .none s_word_fit v_word_fit, rCall v_word_fit⟩⟩,
  ⟨none, some 7, [(.tmp 1)], ⟨.f (fFld 1), rFld 1⟩⟩,
  ⟨none, some 8, [(.tmp 7)], ⟨.lr 1 1 false, rLr1 1⟩⟩,
  ⟨none, some 9, [(.tmp 8), (.const (.int .i64 65535))], ⟨.call .none s_word_fit v_word_fit, rCall v_word_fit⟩⟩,
  ⟨none, some 10, [(.tmp 9), (.const (.int .u64 2))], ⟨.f (fBin .shl .no), rAny xl_word_PutHead (.f (fBin .shl .no))⟩⟩,
  ⟨none, some 11, [(.tmp 6), (.tmp 10)], ⟨.f (fBin .or .no), rAny xl_word_PutHead (.f (fBin .or .no))⟩⟩,
  ⟨none, some 12, [(.tmp 1)], ⟨.f (fFld 2), rFld 2⟩⟩,
  ⟨none, some 13, [(.tmp 12)], ⟨.lr 1 1 false, rLr1 1⟩⟩,
  ⟨none, some 14, [(.tmp 13), (.const (.int .i64 65535))], ⟨.call .none s_word_fit v_word_fit, rCall v_word_fit⟩⟩,
  ⟨none, some 15, [(.tmp 14), (.const (.int .u64 18))], ⟨.f (fBin .shl .no), rAny xl_word_PutHead (.f (fBin .shl .no))⟩⟩,
  ⟨none, some 16, [(.tmp 11), (.tmp 15)], ⟨.f (fBin .or .no), rAny xl_word_PutHead (.f (fBin .or .no))⟩⟩,
  ⟨none, some 17, [(.tmp 1)], ⟨.f (fFld 3), rFld 3⟩⟩,
  ⟨none, some 18, [(.tmp 17)], ⟨.lr 1 1 false, rLr1 1⟩⟩,
  ⟨none, some 19, [(.tmp 18), (.const (.int .i64 65535))], ⟨.call .none s_word_fit v_word_fit, rCall v_word_fit⟩⟩,
  ⟨none, some 20, [(.tmp 19), (.const (.int .u64 34))], ⟨.f (fBin .shl .no), rAny xl_word_PutHead (.f (fBin .shl .no))⟩⟩,
  ⟨none, some 21, [(.tmp 16), (.tmp 20)], ⟨.f (fBin .or .no), rAny xl_word_PutHead (.f (fBin .or .no))⟩⟩,
  ⟨none, some 3, [(.tmp 21)], ⟨.f fMove, rMove⟩⟩])
 (.seq (some ([3], []))
 (.seq none
 (.reg [⟨none, some 22, [(.tmp 1)], ⟨.f (fFld 4), rFld 4⟩⟩,
  ⟨none, some 23, [(.tmp 22)], ⟨.lr 1 1 false, rLr1 1⟩⟩])
 (.cond (.tmp 23)
 (.reg [⟨none, some 24, [(.tmp 3)], ⟨.f fMove, rMove⟩⟩,
  ⟨none, some 25, [(.tmp 24), (.const (.int .u64 1125899906842624))], ⟨.f (fBin .or .no), rAny xl_word_PutHead (.f (fBin .or .no))⟩⟩,
  ⟨none, some 3, [(.tmp 25)], ⟨.f fMove, rMove⟩⟩])
 .skip))
 (.seq none
 (.reg [⟨none, some 26, [(.tmp 3)], ⟨.f fMove, rMove⟩⟩,
  ⟨none, some 2, [(.tmp 26)], ⟨.f fMove, rMove⟩⟩])
 .ret))))
noncomputable def v_word_PutHead : EvF := evFn 1 xc_word_PutHead [.t 2]
theorem xt_word_PutHead : toC cx_word_PutHead (bodyOf Try.f73) = some (xc_word_PutHead.map XN.sm) := by kernel_rfl
theorem xr_word_PutHead : toR cx_word_PutHead Try.f73.results.toList = some [.t 2] := by kernel_rfl
theorem xo_word_PutHead : xc_word_PutHead.ok xl_word_PutHead := ⟨⟨rAny_ok (trivial), rMove_ok, trivial⟩, ⟨⟨rFld_ok _, rLr1_ok _, rCall_ok ve_word_fit, rFld_ok _, rLr1_ok _, rCall_ok ve_word_fit, rAny_ok (eqv_bin _ _), rAny_ok (eqv_bin _ _), rFld_ok _, rLr1_ok _, rCall_ok ve_word_fit, rAny_ok (eqv_bin _ _), rAny_ok (eqv_bin _ _), rFld_ok _, rLr1_ok _, rCall_ok ve_word_fit, rAny_ok (eqv_bin _ _), rAny_ok (eqv_bin _ _), rMove_ok, trivial⟩, ⟨⟨⟨rFld_ok _, rLr1_ok _, trivial⟩, ⟨⟨rMove_ok, rAny_ok (eqv_bin _ _), rMove_ok, trivial⟩, trivial⟩⟩, ⟨⟨rMove_ok, rMove_ok, trivial⟩, trivial⟩⟩⟩⟩
theorem ve_word_PutHead : EvOk s_word_PutHead v_word_PutHead := EvOk.of (evFn_sound (C := cx_word_PutHead) xt_word_PutHead xr_word_PutHead xo_word_PutHead) q_word_PutHead
attribute [irreducible] w_word_PutHead_j1b w_word_PutHead_j1 w_word_PutHead s_word_PutHead
def w_alloc_Alloc_head (a0 a1 : Value) (K : Value → Mem → Prop) (σ : Mem) : Prop :=
xF fMove [(.int .u64 0)] fun v4 =>
xF fMove [a1] fun v5 =>
xF fMove [a0] fun v6 =>
xF fNil [v6] fun v7 =>
xF (fFld 0) [v7] fun v8 =>
hLoad 1 false [v8] (fun v9 σ =>
xF fMove [a0] fun v10 =>
xF fNil [v10] fun v11 =>
xF (fFld 8) [v11] fun v12 =>
hLoad 1 false [v12] (fun v13 σ =>
xF fMove [a0] fun v14 =>
xF fNil [v14] fun v15 =>
xF (fFld 9) [v15] fun v16 =>
hLoad 1 false [v16] (fun v17 σ =>
xF fMove [a0] fun v18 =>
xF fNil [v18] fun v19 =>
xF (fFld 1) [v19] fun v20 =>
hLoad 1 false [v20] (fun v21 σ =>
xF (fBuild [(0, 1), (1, 1), (2, 1), (3, 1), (4, 1)] [(.int .i64 0), (.int .i64 0), (.int .i64 0), (.int .i64 0), (.bool false)] [0, 1, 2, 3, 4]) [v5, v9, v13, v17, v21] fun v22 =>
s_word_PutHead [v22] (fun v23 σ =>
xF fMove [v23] fun v4 =>
K v4 σ) σ) σ) σ) σ) σ
def s_alloc_Alloc_head : Spec := fun args K σ => match args with
  | [a0, a1] => w_alloc_Alloc_head a0 a1 K σ
  | _ => False
noncomputable def cx_alloc_Alloc_head : Cx := { P := Try.prog, T := [(73, .none, s_word_PutHead)], loc := [], eqt := [], n := 24, keep := [] }
theorem q_alloc_Alloc_head : FnS cx_alloc_Alloc_head Try.f56 (bodyOf Try.f56) 2 = s_alloc_Alloc_head := by
  funext args K σ
  rcases args with _ | ⟨a0, _ | ⟨a1, _ | ⟨b, r⟩⟩⟩ <;> kernel_rfl
theorem e_alloc_Alloc_head : Entry Try.prog 56 .read s_alloc_Alloc_head :=
  entry (C := cx_alloc_Alloc_head) (TOk.cons e_word_PutHead TOk.nil) mixedOk Try.func56 (by kernel_rfl) (by kernel_rfl) (by kernel_rfl) q_alloc_Alloc_head
def xl_alloc_Alloc_head : List (Nat × Nat) := []
noncomputable def xc_alloc_Alloc_head : XC XN :=
(.seq none
 (.reg [⟨none, some 4, [(.const (.int .u64 0))], ⟨.f fMove, rMove⟩⟩])
 (.seq none
 (.reg [⟨none, some 5, [(.tmp 1)], ⟨.f fMove, rMove⟩⟩,
  ⟨none, some 6, [(.tmp 0)], ⟨.f fMove, rMove⟩⟩,
  ⟨none, some 7, [(.tmp 6)], ⟨.f fNil, rNil⟩⟩,
  ⟨none, some 8, [(.tmp 7)], ⟨.f (fFld 0), rFld 0⟩⟩,
  ⟨none, some 9, [(.tmp 8)], ⟨.load 1 false, rLoad1⟩⟩,
  ⟨none, some 10, [(.tmp 0)], ⟨.f fMove, rMove⟩⟩,
  ⟨none, some 11, [(.tmp 10)], ⟨.f fNil, rNil⟩⟩,
  ⟨none, some 12, [(.tmp 11)], ⟨.f (fFld 8), rFld 8⟩⟩,
  ⟨none, some 13, [(.tmp 12)], ⟨.load 1 false, rLoad1⟩⟩,
  ⟨none, some 14, [(.tmp 0)], ⟨.f fMove, rMove⟩⟩,
  ⟨none, some 15, [(.tmp 14)], ⟨.f fNil, rNil⟩⟩,
  ⟨none, some 16, [(.tmp 15)], ⟨.f (fFld 9), rFld 9⟩⟩,
  ⟨none, some 17, [(.tmp 16)], ⟨.load 1 false, rLoad1⟩⟩,
  ⟨none, some 18, [(.tmp 0)], ⟨.f fMove, rMove⟩⟩,
  ⟨none, some 19, [(.tmp 18)], ⟨.f fNil, rNil⟩⟩,
  ⟨none, some 20, [(.tmp 19)], ⟨.f (fFld 1), rFld 1⟩⟩,
  ⟨none, some 21, [(.tmp 20)], ⟨.load 1 false, rLoad1⟩⟩,
  ⟨none, some 22, [(.tmp 5), (.tmp 9), (.tmp 13), (.tmp 17), (.tmp 21)], ⟨.f (fBuild [(0, 1), (1, 1), (2, 1), (3, 1), (4, 1)] [(.int .i64 0), (.int .i64 0), (.int .i64 0), (.int .i64 0), (.bool false)] [0, 1, 2, 3, 4]), rAny xl_alloc_Alloc_head (.f (fBuild [(0, 1), (1, 1), (2, 1), (3, 1), (4, 1)] [(.int .i64 0), (.int .i64 0), (.int .i64 0), (.int .i64 0), (.bool false)] [0, 1, 2, 3, 4]))⟩⟩,
  ⟨none, some 23, [(.tmp 22)], ⟨.call .none s_word_PutHead v_word_PutHead, rCall v_word_PutHead⟩⟩,
  ⟨none, some 4, [(.tmp 23)], ⟨.f fMove, rMove⟩⟩])
 .ret))
noncomputable def v_alloc_Alloc_head : EvF := evFn 2 xc_alloc_Alloc_head [.t 4]
theorem xt_alloc_Alloc_head : toC cx_alloc_Alloc_head (bodyOf Try.f56) = some (xc_alloc_Alloc_head.map XN.sm) := by kernel_rfl
theorem xr_alloc_Alloc_head : toR cx_alloc_Alloc_head Try.f56.results.toList = some [.t 4] := by kernel_rfl
theorem xo_alloc_Alloc_head : xc_alloc_Alloc_head.ok xl_alloc_Alloc_head := ⟨⟨rMove_ok, trivial⟩, ⟨⟨rMove_ok, rMove_ok, rNil_ok, rFld_ok _, rLoad1_ok, rMove_ok, rNil_ok, rFld_ok _, rLoad1_ok, rMove_ok, rNil_ok, rFld_ok _, rLoad1_ok, rMove_ok, rNil_ok, rFld_ok _, rLoad1_ok, rAny_ok (eqv_build _ rfl _), rCall_ok ve_word_PutHead, rMove_ok, trivial⟩, trivial⟩⟩
theorem ve_alloc_Alloc_head : EvOk s_alloc_Alloc_head v_alloc_Alloc_head := EvOk.of (evFn_sound (C := cx_alloc_Alloc_head) xt_alloc_Alloc_head xr_alloc_Alloc_head xo_alloc_Alloc_head) q_alloc_Alloc_head
attribute [irreducible] w_alloc_Alloc_head s_alloc_Alloc_head
def w_layout_Env_Store (a0 a1 a2 : Value) (K : Value → Mem → Prop) (σ : Mem) : Prop :=
xC (gBox 9 [a0] []) fun c3 =>
xF (fFld 7) [(locP 3)] fun v6 =>
xO (gLoad 1 false [v6] c3) fun v7 =>
xF (fFld 8) [(locP 3)] fun v8 =>
xO (gLoad 1 false [v8] c3) fun v9 =>
s_mem_Mem_By [v7, v9] (fun v10 σ =>
xF (fFld 7) [(locP 3)] fun v11 =>
xO (gLoad 1 false [v11] c3) fun v12 =>
xF fMove [a1] fun v13 =>
xF fMove [a2] fun v14 =>
s_mem_Mem_Store [v12, v13, v14] (fun v15 σ =>
K (.tuple #[]) σ) σ) σ
def s_layout_Env_Store : Spec := fun args K σ => match args with
  | [a0, a1, a2] => w_layout_Env_Store a0 a1 a2 K σ
  | _ => False
noncomputable def cx_layout_Env_Store : Cx := { P := Try.prog, T := [(67, .write, s_mem_Mem_By), (64, .write, s_mem_Mem_Store)], loc := [(3, 3), (6, 3), (8, 3), (11, 3)], eqt := [], n := 16, keep := [] }
theorem q_layout_Env_Store : FnS cx_layout_Env_Store Try.f55 (bodyOf Try.f55) 3 = s_layout_Env_Store := by
  funext args K σ
  rcases args with _ | ⟨a0, _ | ⟨a1, _ | ⟨a2, _ | ⟨b, r⟩⟩⟩⟩ <;> kernel_rfl
theorem e_layout_Env_Store : Entry Try.prog 55 .write s_layout_Env_Store :=
  entry (C := cx_layout_Env_Store) (TOk.cons e_mem_Mem_By (TOk.cons e_mem_Mem_Store TOk.nil)) mixedOk Try.func55 (by kernel_rfl) (by kernel_rfl) (by kernel_rfl) q_layout_Env_Store
def xl_layout_Env_Store : List (Nat × Nat) := [(3, 3), (6, 3), (8, 3), (11, 3)]
noncomputable def xc_layout_Env_Store : XC XN :=
(.seq none
 (.reg [⟨none, some 3, [(.tmp 0)], ⟨.lb 3 9, rAny xl_layout_Env_Store (.lb 3 9)⟩⟩])
 (.seq none
 (.reg [⟨none, some 6, [(.tmp 3)], ⟨.f (fFld 7), rFld 7⟩⟩,
  ⟨none, some 7, [(.tmp 6)], ⟨.lr 3 1 false, rLr1 3⟩⟩,
  ⟨none, some 8, [(.tmp 3)], ⟨.f (fFld 8), rFld 8⟩⟩,
  ⟨none, some 9, [(.tmp 8)], ⟨.lr 3 1 false, rLr1 3⟩⟩,
  ⟨none, some 10, [(.tmp 7), (.tmp 9)], ⟨.call .write s_mem_Mem_By v_mem_Mem_By, rCall v_mem_Mem_By⟩⟩])
 (.reg [⟨none, some 11, [(.tmp 3)], ⟨.f (fFld 7), rFld 7⟩⟩,
  ⟨none, some 12, [(.tmp 11)], ⟨.lr 3 1 false, rLr1 3⟩⟩,
  ⟨none, some 13, [(.tmp 1)], ⟨.f fMove, rMove⟩⟩,
  ⟨none, some 14, [(.tmp 2)], ⟨.f fMove, rMove⟩⟩,
  ⟨none, some 15, [(.tmp 12), (.tmp 13), (.tmp 14)], ⟨.call .write s_mem_Mem_Store v_mem_Mem_Store, rCall v_mem_Mem_Store⟩⟩])))
noncomputable def v_layout_Env_Store : EvF := evFn 3 xc_layout_Env_Store []
theorem xt_layout_Env_Store : toC cx_layout_Env_Store (bodyOf Try.f55) = some (xc_layout_Env_Store.map XN.sm) := by kernel_rfl
theorem xr_layout_Env_Store : toR cx_layout_Env_Store Try.f55.results.toList = some [] := by kernel_rfl
theorem xo_layout_Env_Store : xc_layout_Env_Store.ok xl_layout_Env_Store := ⟨⟨rAny_ok (trivial), trivial⟩, ⟨⟨rFld_ok _, rLr1_ok _, rFld_ok _, rLr1_ok _, rCall_ok ve_mem_Mem_By, trivial⟩, ⟨rFld_ok _, rLr1_ok _, rMove_ok, rMove_ok, rCall_ok ve_mem_Mem_Store, trivial⟩⟩⟩
theorem ve_layout_Env_Store : EvOk s_layout_Env_Store v_layout_Env_Store := EvOk.of (evFn_sound (C := cx_layout_Env_Store) xt_layout_Env_Store xr_layout_Env_Store xo_layout_Env_Store) q_layout_Env_Store
attribute [irreducible] w_layout_Env_Store s_layout_Env_Store
def w_word_PutHandle (a0 : Value) (K : Value → Mem → Prop) (σ : Mem) : Prop :=
xC (gBox 2 [a0] []) fun c1 =>
xF fMove [(.int .u64 0)] fun v2 =>
xF (fFld 0) [(locP 1)] fun v3 =>
xO (gLoad 1 false [v3] c1) fun v4 =>
s_word_fit [v4, (.int .i64 65535)] (fun v5 σ =>
xF (fFld 1) [(locP 1)] fun v6 =>
xO (gLoad 1 false [v6] c1) fun v7 =>
s_word_fit [v7, (.int .i64 65535)] (fun v8 σ =>
xF (fBin .shl .no) [v8, (.int .u64 16)] fun v9 =>
xF (fBin .or .no) [v5, v9] fun v10 =>
xF fMove [v10] fun v2 =>
K v2 σ) σ) σ
def s_word_PutHandle : Spec := fun args K σ => match args with
  | [a0] => w_word_PutHandle a0 K σ
  | _ => False
noncomputable def cx_word_PutHandle : Cx := { P := Try.prog, T := [(70, .none, s_word_fit)], loc := [(1, 1), (3, 1), (6, 1)], eqt := [], n := 11, keep := [] }
theorem q_word_PutHandle : FnS cx_word_PutHandle Try.f58 (bodyOf Try.f58) 1 = s_word_PutHandle := by
  funext args K σ
  rcases args with _ | ⟨a0, _ | ⟨b, r⟩⟩ <;> kernel_rfl
theorem e_word_PutHandle : Entry Try.prog 58 .none s_word_PutHandle :=
  entry (C := cx_word_PutHandle) (TOk.cons e_word_fit TOk.nil) mixedOk Try.func58 (by kernel_rfl) (by kernel_rfl) (by kernel_rfl) q_word_PutHandle
def xl_word_PutHandle : List (Nat × Nat) := [(1, 1), (3, 1), (6, 1)]
noncomputable def xc_word_PutHandle : XC XN :=
(.seq none
 (.reg [⟨none, some 1, [(.tmp 0)], ⟨.lb 1 2, rAny xl_word_PutHandle (.lb 1 2)⟩⟩,
  ⟨none, some 2, [(.const (.int .u64 0))], ⟨.f fMove, rMove⟩⟩])
 (.seq none
 (.reg [⟨none, some 3, [(.tmp 1)], ⟨.f (fFld 0), rFld 0⟩⟩,
  ⟨none, some 4, [(.tmp 3)], ⟨.lr 1 1 false, rLr1 1⟩⟩,
  ⟨none, some 5, [(.tmp 4), (.const (.int .i64 65535))], ⟨.call .none s_word_fit v_word_fit, rCall v_word_fit⟩⟩,
  ⟨none, some 6, [(.tmp 1)], ⟨.f (fFld 1), rFld 1⟩⟩,
  ⟨none, some 7, [(.tmp 6)], ⟨.lr 1 1 false, rLr1 1⟩⟩,
  ⟨none, some 8, [(.tmp 7), (.const (.int .i64 65535))], ⟨.call .none s_word_fit v_word_fit, rCall v_word_fit⟩⟩,
  ⟨none, some 9, [(.tmp 8), (.const (.int .u64 16))], ⟨.f (fBin .shl .no), rAny xl_word_PutHandle (.f (fBin .shl .no))⟩⟩,
  ⟨none, some 10, [(.tmp 5), (.tmp 9)], ⟨.f (fBin .or .no), rAny xl_word_PutHandle (.f (fBin .or .no))⟩⟩,
  ⟨none, some 2, [(.tmp 10)], ⟨.f fMove, rMove⟩⟩])
 .ret))
noncomputable def v_word_PutHandle : EvF := evFn 1 xc_word_PutHandle [.t 2]
theorem xt_word_PutHandle : toC cx_word_PutHandle (bodyOf Try.f58) = some (xc_word_PutHandle.map XN.sm) := by kernel_rfl
theorem xr_word_PutHandle : toR cx_word_PutHandle Try.f58.results.toList = some [.t 2] := by kernel_rfl
theorem xo_word_PutHandle : xc_word_PutHandle.ok xl_word_PutHandle := ⟨⟨rAny_ok (trivial), rMove_ok, trivial⟩, ⟨⟨rFld_ok _, rLr1_ok _, rCall_ok ve_word_fit, rFld_ok _, rLr1_ok _, rCall_ok ve_word_fit, rAny_ok (eqv_bin _ _), rAny_ok (eqv_bin _ _), rMove_ok, trivial⟩, trivial⟩⟩
theorem ve_word_PutHandle : EvOk s_word_PutHandle v_word_PutHandle := EvOk.of (evFn_sound (C := cx_word_PutHandle) xt_word_PutHandle xr_word_PutHandle xo_word_PutHandle) q_word_PutHandle
attribute [irreducible] w_word_PutHandle s_word_PutHandle
def w_slot_Give_Step_j1b (K : Value → Mem → Prop) (σ : Mem) : Prop :=
xF fMove [(.bool false)] fun v4 =>
K v4 σ
def w_slot_Give_Step_j1 (K : Value → Mem → Prop) (ts : List Value) (ls : List (List Value)) (σ : Mem) : Prop := w_slot_Give_Step_j1b K σ
def w_slot_Give_Step (a0 a1 : Value) (K : Value → Mem → Prop) (σ : Mem) : Prop :=
xC (gBox 9 [a1] []) fun c3 =>
xF fMove [(.bool false)] fun v4 =>
xF fMove [a0] fun v8 =>
xF fNil [v8] fun v9 =>
xF (fFld 2) [v9] fun v10 =>
hLoad 1 false [v10] (fun v11 σ =>
s_word_Top [v11] (fun v12 σ =>
xF fMove [v12] fun v7 =>
xF (fExt 0) [v7] fun v13 =>
xF (fExt 1) [v7] fun v14 =>
xF fMove [v13] fun v5 =>
xF fMove [v14] fun v6 =>
xJoin (w_slot_Give_Step_j1 K) fun J1 =>
xF fMove [a0] fun v15 =>
xF fNil [v15] fun v16 =>
xF (fFld 0) [v16] fun v17 =>
hLoad 1 false [v17] (fun v18 σ =>
xF (fBin .eql .no) [v18, (.int .i64 0)] fun v37 =>
xF fMove [v37] fun v36 =>
xIf v36
 (xF fMove [a0] fun v38 =>
xF fMove [a0] fun v39 =>
xO (gLoad 9 true [(locP 3)] c3) fun v40 =>
s_layout_Top [] (fun v41 σ =>
s_layout_Env_Load [v40, v41] (fun v42 σ =>
xF fNil [v38] fun v43 =>
xF (fFld 2) [v43] fun v44 =>
hStore 1 [v44, v42] (fun _v σ =>
xF fNil [v39] fun v45 =>
xF (fFld 0) [v45] fun v46 =>
hStore 1 [v46, (.int .i64 1)] (fun _v σ =>
J1 [] [] σ) σ) σ) σ) σ)
 (xF (fBin .eql .no) [v18, (.int .i64 1)] fun v48 =>
xF fMove [v48] fun v47 =>
xIf v47
 (xO (gLoad 9 true [(locP 3)] c3) fun v49 =>
xF (fFld 0) [(locP 3)] fun v50 =>
xO (gLoad 7 true [v50] c3) fun v51 =>
xF fMove [a0] fun v52 =>
xF fNil [v52] fun v53 =>
xF (fFld 1) [v53] fun v54 =>
hLoad 1 false [v54] (fun v55 σ =>
s_layout_Slot [v51, v55] (fun v56 σ =>
xF (fBin .add .no) [v56, (.int .i64 1)] fun v57 =>
xF fMove [v5] fun v58 =>
s_word_PutTop [v58, (.int .i64 0)] (fun v59 σ =>
s_layout_Env_Store [v49, v57, v59] (fun v60 σ =>
xF fMove [a0] fun v61 =>
xF fNil [v61] fun v62 =>
xF (fFld 0) [v62] fun v63 =>
hStore 1 [v63, (.int .i64 2)] (fun _v σ =>
J1 [] [] σ) σ) σ) σ) σ) σ)
 (xF fMove [a0] fun v19 =>
xF fNil [v19] fun v20 =>
xF (fFld 0) [v20] fun v21 =>
hStore 1 [v21, (.int .i64 0)] (fun _v σ =>
xO (gLoad 9 true [(locP 3)] c3) fun v22 =>
s_layout_Top [] (fun v23 σ =>
xF fMove [a0] fun v24 =>
xF fNil [v24] fun v25 =>
xF (fFld 2) [v25] fun v26 =>
hLoad 1 false [v26] (fun v27 σ =>
xF fMove [a0] fun v28 =>
xF fNil [v28] fun v29 =>
xF (fFld 1) [v29] fun v30 =>
hLoad 1 false [v30] (fun v31 σ =>
xF fMove [v6] fun v32 =>
xF (fBin .add .no) [v32, (.int .i64 1)] fun v33 =>
s_word_PutTop [v31, v33] (fun v34 σ =>
s_layout_Env_Cas [v22, v23, v27, v34] (fun v35 σ =>
xF fMove [v35] fun v4 =>
K v4 σ) σ) σ) σ) σ) σ) σ))) σ) σ) σ
def s_slot_Give_Step : Spec := fun args K σ => match args with
  | [a0, a1] => w_slot_Give_Step a0 a1 K σ
  | _ => False
noncomputable def cx_slot_Give_Step : Cx := { P := Try.prog, T := [(71, .none, s_word_Top), (66, .none, s_layout_Top), (41, .write, s_layout_Env_Load), (37, .none, s_layout_Slot), (65, .none, s_word_PutTop), (55, .write, s_layout_Env_Store), (45, .write, s_layout_Env_Cas)], loc := [(3, 3), (50, 3)], eqt := [], n := 64, keep := [(1000011, [], [])] }
theorem q_slot_Give_Step : FnS cx_slot_Give_Step Try.f59 (bodyOf Try.f59) 2 = s_slot_Give_Step := by
  funext args K σ
  rcases args with _ | ⟨a0, _ | ⟨a1, _ | ⟨b, r⟩⟩⟩ <;> kernel_rfl
theorem e_slot_Give_Step : Entry Try.prog 59 .write s_slot_Give_Step :=
  entry (C := cx_slot_Give_Step) (TOk.cons e_word_Top (TOk.cons e_layout_Top (TOk.cons e_layout_Env_Load (TOk.cons e_layout_Slot (TOk.cons e_word_PutTop (TOk.cons e_layout_Env_Store (TOk.cons e_layout_Env_Cas TOk.nil))))))) mixedOk Try.func59 (by kernel_rfl) (by kernel_rfl) (by kernel_rfl) q_slot_Give_Step
def xl_slot_Give_Step : List (Nat × Nat) := [(3, 3), (50, 3)]
noncomputable def xc_slot_Give_Step : XC XN :=
(.seq none
 (.reg [⟨none, some 3, [(.tmp 1)], ⟨.lb 3 9, rAny xl_slot_Give_Step (.lb 3 9)⟩⟩,
  ⟨none, some 4, [(.const (.bool false))], ⟨.f fMove, rMove⟩⟩])
 (.seq none
 (.reg [⟨none, some 8, [(.tmp 0)], ⟨.f fMove, rMove⟩⟩,
  ⟨none, some 9, [(.tmp 8)], ⟨.f fNil, rNil⟩⟩,
  ⟨none, some 10, [(.tmp 9)], ⟨.f (fFld 2), rFld 2⟩⟩,
  ⟨none, some 11, [(.tmp 10)], ⟨.load 1 false, rLoad1⟩⟩,
  ⟨none, some 12, [(.tmp 11)], ⟨.call .none s_word_Top v_word_Top, rCall v_word_Top⟩⟩,
  ⟨none, some 7, [(.tmp 12)], ⟨.f fMove, rMove⟩⟩,
  ⟨none, some 13, [(.tmp 7)], ⟨.f (fExt 0), rAny xl_slot_Give_Step (.f (fExt 0))⟩⟩,
  ⟨none, some 14, [(.tmp 7)], ⟨.f (fExt 1), rAny xl_slot_Give_Step (.f (fExt 1))⟩⟩,
  ⟨none, some 5, [(.tmp 13)], ⟨.f fMove, rMove⟩⟩,
  ⟨none, some 6, [(.tmp 14)], ⟨.f fMove, rMove⟩⟩])
 (.seq (some ([], []))
 (.seq none
 (.reg [⟨none, some 15, [(.tmp 0)], ⟨.f fMove, rMove⟩⟩,
  ⟨none, some 16, [(.tmp 15)], ⟨.f fNil, rNil⟩⟩,
  ⟨none, some 17, [(.tmp 16)], ⟨.f (fFld 0), rFld 0⟩⟩,
  ⟨none, some 18, [(.tmp 17)], ⟨.load 1 false, rLoad1⟩⟩])
 (.block 0
 (.seq none
 (.reg [⟨none, some 37, [(.tmp 18), (.const (.int .i64 0))], ⟨.f (fBin .eql .no), rEql⟩⟩,
  ⟨none, some 36, [(.tmp 37)], ⟨.f fMove, rMove⟩⟩])
 (.cond (.tmp 36)
 (.reg [⟨none, some 38, [(.tmp 0)], ⟨.f fMove, rMove⟩⟩,
  ⟨none, some 39, [(.tmp 0)], ⟨.f fMove, rMove⟩⟩,
  ⟨none, some 40, [(.tmp 3)], ⟨.lr 3 9 true, rAny xl_slot_Give_Step (.lr 3 9 true)⟩⟩,
  ⟨none, some 41, [], ⟨.call .none s_layout_Top v_layout_Top, rCall v_layout_Top⟩⟩,
  ⟨none, some 42, [(.tmp 40), (.tmp 41)], ⟨.call .write s_layout_Env_Load v_layout_Env_Load, rCall v_layout_Env_Load⟩⟩,
  ⟨none, some 43, [(.tmp 38)], ⟨.f fNil, rNil⟩⟩,
  ⟨none, some 44, [(.tmp 43)], ⟨.f (fFld 2), rFld 2⟩⟩,
  ⟨none, none, [(.tmp 44), (.tmp 42)], ⟨.store 1, rStore1⟩⟩,
  ⟨none, some 45, [(.tmp 39)], ⟨.f fNil, rNil⟩⟩,
  ⟨none, some 46, [(.tmp 45)], ⟨.f (fFld 0), rFld 0⟩⟩,
  ⟨none, none, [(.tmp 46), (.const (.int .i64 1))], ⟨.store 1, rStore1⟩⟩])
 (.seq none
 (.reg [⟨none, some 48, [(.tmp 18), (.const (.int .i64 1))], ⟨.f (fBin .eql .no), rEql⟩⟩,
  ⟨none, some 47, [(.tmp 48)], ⟨.f fMove, rMove⟩⟩])
 (.cond (.tmp 47)
 (.seq none
 (.reg [⟨none, some 49, [(.tmp 3)], ⟨.lr 3 9 true, rAny xl_slot_Give_Step (.lr 3 9 true)⟩⟩,
  ⟨none, some 50, [(.tmp 3)], ⟨.f (fFld 0), rFld 0⟩⟩,
  ⟨none, some 51, [(.tmp 50)], ⟨.lr 3 7 true, rAny xl_slot_Give_Step (.lr 3 7 true)⟩⟩,
  ⟨none, some 52, [(.tmp 0)], ⟨.f fMove, rMove⟩⟩,
  ⟨none, some 53, [(.tmp 52)], ⟨.f fNil, rNil⟩⟩,
  ⟨none, some 54, [(.tmp 53)], ⟨.f (fFld 1), rFld 1⟩⟩,
  ⟨none, some 55, [(.tmp 54)], ⟨.load 1 false, rLoad1⟩⟩,
  ⟨none, some 56, [(.tmp 51), (.tmp 55)], ⟨.call .none s_layout_Slot v_layout_Slot, rCall v_layout_Slot⟩⟩,
  ⟨none, some 57, [(.tmp 56), (.const (.int .i64 1))], ⟨.f (fBin .add .no), rAdd⟩⟩,
  ⟨none, some 58, [(.tmp 5)], ⟨.f fMove, rMove⟩⟩,
  ⟨none, some 59, [(.tmp 58), (.const (.int .i64 0))], ⟨.call .none s_word_PutTop v_word_PutTop, rCall v_word_PutTop⟩⟩,
  ⟨none, some 60, [(.tmp 49), (.tmp 57), (.tmp 59)], ⟨.call .write s_layout_Env_Store v_layout_Env_Store, rCall v_layout_Env_Store⟩⟩])
 (.reg [⟨none, some 61, [(.tmp 0)], ⟨.f fMove, rMove⟩⟩,
  ⟨none, some 62, [(.tmp 61)], ⟨.f fNil, rNil⟩⟩,
  ⟨none, some 63, [(.tmp 62)], ⟨.f (fFld 0), rFld 0⟩⟩,
  ⟨none, none, [(.tmp 63), (.const (.int .i64 2))], ⟨.store 1, rStore1⟩⟩]))
 (.seq none
 (.reg [⟨none, some 19, [(.tmp 0)], ⟨.f fMove, rMove⟩⟩,
  ⟨none, some 20, [(.tmp 19)], ⟨.f fNil, rNil⟩⟩,
  ⟨none, some 21, [(.tmp 20)], ⟨.f (fFld 0), rFld 0⟩⟩,
  ⟨none, none, [(.tmp 21), (.const (.int .i64 0))], ⟨.store 1, rStore1⟩⟩])
 (.seq none
 (.reg [⟨none, some 22, [(.tmp 3)], ⟨.lr 3 9 true, rAny xl_slot_Give_Step (.lr 3 9 true)⟩⟩,
  ⟨none, some 23, [], ⟨.call .none s_layout_Top v_layout_Top, rCall v_layout_Top⟩⟩,
  ⟨none, some 24, [(.tmp 0)], ⟨.f fMove, rMove⟩⟩,
  ⟨none, some 25, [(.tmp 24)], ⟨.f fNil, rNil⟩⟩,
  ⟨none, some 26, [(.tmp 25)], ⟨.f (fFld 2), rFld 2⟩⟩,
  ⟨none, some 27, [(.tmp 26)], ⟨.load 1 false, rLoad1⟩⟩,
  ⟨none, some 28, [(.tmp 0)], ⟨.f fMove, rMove⟩⟩,
  ⟨none, some 29, [(.tmp 28)], ⟨.f fNil, rNil⟩⟩,
  ⟨none, some 30, [(.tmp 29)], ⟨.f (fFld 1), rFld 1⟩⟩,
  ⟨none, some 31, [(.tmp 30)], ⟨.load 1 false, rLoad1⟩⟩,
  ⟨none, some 32, [(.tmp 6)], ⟨.f fMove, rMove⟩⟩,
  ⟨none, some 33, [(.tmp 32), (.const (.int .i64 1))], ⟨.f (fBin .add .no), rAdd⟩⟩,
  ⟨none, some 34, [(.tmp 31), (.tmp 33)], ⟨.call .none s_word_PutTop v_word_PutTop, rCall v_word_PutTop⟩⟩,
  ⟨none, some 35, [(.tmp 22), (.tmp 23), (.tmp 27), (.tmp 34)], ⟨.call .write s_layout_Env_Cas v_layout_Env_Cas, rCall v_layout_Env_Cas⟩⟩,
  ⟨none, some 4, [(.tmp 35)], ⟨.f fMove, rMove⟩⟩])
 .ret))))))))
 (.seq none
 (.reg [⟨none, some 4, [(.const (.bool false))], ⟨.f fMove, rMove⟩⟩])
 .ret))))
noncomputable def v_slot_Give_Step : EvF := evFn 2 xc_slot_Give_Step [.t 4]
theorem xt_slot_Give_Step : toC cx_slot_Give_Step (bodyOf Try.f59) = some (xc_slot_Give_Step.map XN.sm) := by kernel_rfl
theorem xr_slot_Give_Step : toR cx_slot_Give_Step Try.f59.results.toList = some [.t 4] := by kernel_rfl
theorem xo_slot_Give_Step : xc_slot_Give_Step.ok xl_slot_Give_Step := ⟨⟨rAny_ok (trivial), rMove_ok, trivial⟩, ⟨⟨rMove_ok, rNil_ok, rFld_ok _, rLoad1_ok, rCall_ok ve_word_Top, rMove_ok, rAny_ok (eqv_ext _), rAny_ok (eqv_ext _), rMove_ok, rMove_ok, trivial⟩, ⟨⟨⟨rMove_ok, rNil_ok, rFld_ok _, rLoad1_ok, trivial⟩, ⟨⟨rEql_ok, rMove_ok, trivial⟩, ⟨⟨rMove_ok, rMove_ok, rAny_ok (trivial), rCall_ok ve_layout_Top, rCall_ok ve_layout_Env_Load, rNil_ok, rFld_ok _, rStore1_ok, rNil_ok, rFld_ok _, rStore1_ok, trivial⟩, ⟨⟨rEql_ok, rMove_ok, trivial⟩, ⟨⟨⟨rAny_ok (trivial), rFld_ok _, rAny_ok (trivial), rMove_ok, rNil_ok, rFld_ok _, rLoad1_ok, rCall_ok ve_layout_Slot, rAdd_ok, rMove_ok, rCall_ok ve_word_PutTop, rCall_ok ve_layout_Env_Store, trivial⟩, ⟨rMove_ok, rNil_ok, rFld_ok _, rStore1_ok, trivial⟩⟩, ⟨⟨rMove_ok, rNil_ok, rFld_ok _, rStore1_ok, trivial⟩, ⟨⟨rAny_ok (trivial), rCall_ok ve_layout_Top, rMove_ok, rNil_ok, rFld_ok _, rLoad1_ok, rMove_ok, rNil_ok, rFld_ok _, rLoad1_ok, rMove_ok, rAdd_ok, rCall_ok ve_word_PutTop, rCall_ok ve_layout_Env_Cas, rMove_ok, trivial⟩, trivial⟩⟩⟩⟩⟩⟩⟩, ⟨⟨rMove_ok, trivial⟩, trivial⟩⟩⟩⟩
theorem ve_slot_Give_Step : EvOk s_slot_Give_Step v_slot_Give_Step := EvOk.of (evFn_sound (C := cx_slot_Give_Step) xt_slot_Give_Step xr_slot_Give_Step xo_slot_Give_Step) q_slot_Give_Step
attribute [irreducible] w_slot_Give_Step_j1b w_slot_Give_Step_j1 w_slot_Give_Step s_slot_Give_Step
def w_alloc_Alloc_Step_j1b (K : Value → Mem → Prop) (σ : Mem) : Prop :=
xF fMove [(.bool false)] fun v4 =>
K v4 σ
def w_alloc_Alloc_Step_j1 (K : Value → Mem → Prop) (ts : List Value) (ls : List (List Value)) (σ : Mem) : Prop := w_alloc_Alloc_Step_j1b K σ
def w_alloc_Alloc_Step (a0 a1 : Value) (K : Value → Mem → Prop) (σ : Mem) : Prop :=
xC (gBox 9 [a1] []) fun c3 =>
xF fMove [(.bool false)] fun v4 =>
xJoin (w_alloc_Alloc_Step_j1 K) fun J1 =>
xF fMove [a0] fun v9 =>
xF fNil [v9] fun v10 =>
xF (fFld 2) [v10] fun v11 =>
hLoad 1 false [v11] (fun v12 σ =>
xF (fBin .eql .no) [v12, (.int .i64 0)] fun v20 =>
xF fMove [v20] fun v19 =>
xIf v19
 (xF fMove [a0] fun v21 =>
xF fNil [v21] fun v22 =>
xF (fFld 0) [v22] fun v23 =>
hLoad 1 false [v23] (fun v24 σ =>
s_layout_Class [v24] (fun v25 σ =>
xF (fBin .lss .no) [v25, (.int .i64 0)] fun v26 =>
xIf v26
 (xF fMove [a0] fun v27 =>
xO (gLoad 9 true [(locP 3)] c3) fun v28 =>
s_alloc_Alloc_end [v27, v28, (.int .i64 5)] (fun v29 σ =>
xF fMove [(.bool true)] fun v4 =>
K v4 σ) σ)
 (xF fMove [a0] fun v30 =>
xF fNil [v30] fun v31 =>
xF (fFld 3) [v31] fun v32 =>
xO (gLoad 9 true [(locP 3)] c3) fun v33 =>
s_slot_Take_Step [v32, v33] (fun v34 σ =>
xIf v34
 (xF fMove [a0] fun v36 =>
xF fNil [v36] fun v37 =>
xF (fFld 3) [v37] fun v38 =>
s_slot_Take_Slot [v38] (fun v39 σ =>
xF fMove [v39] fun v35 =>
xF (fExt 0) [v35] fun v40 =>
xF (fExt 1) [v35] fun v41 =>
xF fMove [v40] fun v5 =>
xF fMove [v41] fun v6 =>
xF fMove [a0] fun v42 =>
xF fMove [a0] fun v43 =>
xF fMove [v5] fun v44 =>
xF fNil [v42] fun v45 =>
xF (fFld 8) [v45] fun v46 =>
hStore 1 [v46, v44] (fun _v σ =>
xF fNil [v43] fun v47 =>
xF (fFld 2) [v47] fun v48 =>
hStore 1 [v48, (.int .i64 1)] (fun _v σ =>
xF fMove [v6] fun v49 =>
xF (fUn .not) [v49] fun v50 =>
xIf v50
 (xF fMove [a0] fun v51 =>
xO (gLoad 9 true [(locP 3)] c3) fun v52 =>
s_alloc_Alloc_end [v51, v52, (.int .i64 7)] (fun v53 σ =>
xF fMove [(.bool true)] fun v4 =>
K v4 σ) σ)
 (J1 [] [] σ)) σ) σ) σ)
 (J1 [] [] σ)) σ)) σ) σ)
 (xF (fBin .eql .no) [v12, (.int .i64 1)] fun v55 =>
xF fMove [v55] fun v54 =>
xIf v54
 (xF fMove [a0] fun v56 =>
xF fMove [a0] fun v57 =>
xO (gLoad 9 true [(locP 3)] c3) fun v58 =>
xF (fFld 0) [(locP 3)] fun v59 =>
xO (gLoad 7 true [v59] c3) fun v60 =>
xF fMove [a0] fun v61 =>
xF fNil [v61] fun v62 =>
xF (fFld 8) [v62] fun v63 =>
hLoad 1 false [v63] (fun v64 σ =>
s_layout_Slot [v60, v64] (fun v65 σ =>
s_layout_Env_Load [v58, v65] (fun v66 σ =>
s_word_Slot [v66] (fun v67 σ =>
xF (fFldV 2 1 false) [v67] fun v68 =>
xF fNil [v56] fun v69 =>
xF (fFld 9) [v69] fun v70 =>
hStore 1 [v70, v68] (fun _v σ =>
xF fNil [v57] fun v71 =>
xF (fFld 2) [v71] fun v72 =>
hStore 1 [v72, (.int .i64 2)] (fun _v σ =>
xF fMove [a0] fun v73 =>
xF fMove [a0] fun v74 =>
xF fNil [v74] fun v75 =>
xF (fFld 0) [v75] fun v76 =>
hLoad 1 false [v76] (fun v77 σ =>
s_layout_Class [v77] (fun v78 σ =>
s_place_New [v78] (fun v79 σ =>
xF fNil [v73] fun v80 =>
xF (fFld 10) [v80] fun v81 =>
hStore 1 [v81, v79] (fun _v σ =>
J1 [] [] σ) σ) σ) σ) σ) σ) σ) σ) σ) σ) σ)
 (xF (fBin .eql .no) [v12, (.int .i64 2)] fun v83 =>
xF fMove [v83] fun v82 =>
xIf v82
 (xF fMove [a0] fun v84 =>
xF fNil [v84] fun v85 =>
xF (fFld 10) [v85] fun v86 =>
hLoad 1 false [v86] (fun v87 σ =>
xO (gLoad 9 true [(locP 3)] c3) fun v88 =>
s_place_Place_Step [v87, v88] (fun v89 σ =>
xIf v89
 (xF fMove [a0] fun v91 =>
xF fNil [v91] fun v92 =>
xF (fFld 10) [v92] fun v93 =>
hLoad 1 false [v93] (fun v94 σ =>
s_place_Place_Spot [v94] (fun v95 σ =>
xF fMove [v95] fun v90 =>
xF (fExt 0) [v90] fun v96 =>
xF (fExt 1) [v90] fun v97 =>
xC (gStore 2 [(locP 7), v96] [(.int .i64 0), (.int .i64 0)]) fun c7 =>
xF fMove [v97] fun v8 =>
xF fMove [a0] fun v98 =>
xF fMove [a0] fun v99 =>
xO (gLoad 2 true [(locP 7)] c7) fun v100 =>
xF fNil [v98] fun v101 =>
xF (fFld 11) [v101] fun v102 =>
hStore 2 [v102, v100] (fun _v σ =>
xF fNil [v99] fun v103 =>
xF (fFld 2) [v103] fun v104 =>
hStore 1 [v104, (.int .i64 3)] (fun _v σ =>
xF fMove [v8] fun v105 =>
xF (fUn .not) [v105] fun v106 =>
xIf v106
 (xF fMove [a0] fun v107 =>
xO (gLoad 9 true [(locP 3)] c3) fun v108 =>
s_alloc_Alloc_end [v107, v108, (.int .i64 6)] (fun v109 σ =>
xF fMove [a0] fun v110 =>
xF fMove [a0] fun v111 =>
xF fMove [a0] fun v112 =>
xF fNil [v112] fun v113 =>
xF (fFld 8) [v113] fun v114 =>
hLoad 1 false [v114] (fun v115 σ =>
s_slot_NewGive [v115] (fun v116 σ =>
xF fNil [v110] fun v117 =>
xF (fFld 13) [v117] fun v118 =>
hStore 1 [v118, v116] (fun _v σ =>
xF fNil [v111] fun v119 =>
xF (fFld 2) [v119] fun v120 =>
hStore 1 [v120, (.int .i64 7)] (fun _v σ =>
J1 [] [] σ) σ) σ) σ) σ) σ)
 (J1 [] [] σ)) σ) σ) σ) σ)
 (J1 [] [] σ)) σ) σ)
 (xF (fBin .eql .no) [v12, (.int .i64 3)] fun v122 =>
xF fMove [v122] fun v121 =>
xIf v121
 (xO (gLoad 9 true [(locP 3)] c3) fun v123 =>
xF (fFld 0) [(locP 3)] fun v124 =>
xO (gLoad 7 true [v124] c3) fun v125 =>
xF fMove [a0] fun v126 =>
xF fNil [v126] fun v127 =>
xF (fFld 11) [v127] fun v128 =>
xF (fFld 1) [v128] fun v129 =>
hLoad 1 false [v129] (fun v130 σ =>
s_layout_Chunk [v125, v130] (fun v131 σ =>
xF (fBin .add .no) [v131, (.int .i64 1)] fun v132 =>
xF fMove [a0] fun v133 =>
xF fNil [v133] fun v134 =>
xF (fFld 0) [v134] fun v135 =>
hLoad 1 false [v135] (fun v136 σ =>
s_layout_Class [v136] (fun v137 σ =>
s_layout_Room [v137] (fun v138 σ =>
s_layout_Env_Add [v123, v132, v138] (fun v139 σ =>
xF fMove [a0] fun v140 =>
xF fNil [v140] fun v141 =>
xF (fFld 2) [v141] fun v142 =>
hStore 1 [v142, (.int .i64 4)] (fun _v σ =>
J1 [] [] σ) σ) σ) σ) σ) σ) σ) σ)
 (xF (fBin .eql .no) [v12, (.int .i64 4)] fun v144 =>
xF fMove [v144] fun v143 =>
xIf v143
 (xO (gLoad 9 true [(locP 3)] c3) fun v145 =>
xF fMove [a0] fun v146 =>
xF fNil [v146] fun v147 =>
xF (fFld 11) [v147] fun v148 =>
xF (fFld 0) [v148] fun v149 =>
hLoad 1 false [v149] (fun v150 σ =>
xF fMove [a0] fun v151 =>
s_alloc_Alloc_head [v151, (.int .i64 1)] (fun v152 σ =>
s_layout_Env_Store [v145, v150, v152] (fun v153 σ =>
xF fMove [a0] fun v154 =>
xF fNil [v154] fun v155 =>
xF (fFld 2) [v155] fun v156 =>
hStore 1 [v156, (.int .i64 5)] (fun _v σ =>
J1 [] [] σ) σ) σ) σ) σ)
 (xF (fBin .eql .no) [v12, (.int .i64 5)] fun v158 =>
xF fMove [v158] fun v157 =>
xIf v157
 (xO (gLoad 9 true [(locP 3)] c3) fun v159 =>
xF (fFld 0) [(locP 3)] fun v160 =>
xO (gLoad 7 true [v160] c3) fun v161 =>
xF fMove [a0] fun v162 =>
xF fNil [v162] fun v163 =>
xF (fFld 8) [v163] fun v164 =>
hLoad 1 false [v164] (fun v165 σ =>
s_layout_Slot [v161, v165] (fun v166 σ =>
xF fMove [a0] fun v167 =>
xF fNil [v167] fun v168 =>
xF (fFld 11) [v168] fun v169 =>
xF (fFld 0) [v169] fun v170 =>
hLoad 1 false [v170] (fun v171 σ =>
xF fMove [a0] fun v172 =>
xF fNil [v172] fun v173 =>
xF (fFld 9) [v173] fun v174 =>
hLoad 1 false [v174] (fun v175 σ =>
xF (fBuild [(0, 1), (1, 1), (2, 1), (3, 1)] [(.int .i64 0), (.int .i64 0), (.int .i64 0), (.int .i64 0)] [0, 1, 2]) [(.int .i64 1), v171, v175] fun v176 =>
s_word_PutSlot [v176] (fun v177 σ =>
s_layout_Env_Store [v159, v166, v177] (fun v178 σ =>
xF fMove [a0] fun v179 =>
xF fMove [a0] fun v180 =>
xF fNil [v180] fun v181 =>
xF (fFld 8) [v181] fun v182 =>
hLoad 1 false [v182] (fun v183 σ =>
xF fMove [a0] fun v184 =>
xF fNil [v184] fun v185 =>
xF (fFld 9) [v185] fun v186 =>
hLoad 1 false [v186] (fun v187 σ =>
xF (fBuild [(0, 1), (1, 1)] [(.int .i64 0), (.int .i64 0)] [0, 1]) [v183, v187] fun v188 =>
s_word_PutHandle [v188] (fun v189 σ =>
xO (gLoad 9 true [(locP 3)] c3) fun v190 =>
s_layout_Env_Now [v190] (fun v191 σ =>
xF (fBuild [(0, 1), (1, 1), (2, 1), (3, 1)] [(.int .i64 0), (.int .u64 0), (.int .i64 0), (.int .i64 0)] [1, 3]) [v189, v191] fun v192 =>
xF fNil [v179] fun v193 =>
xF (fFld 14) [v193] fun v194 =>
hStore 4 [v194, v192] (fun _v σ =>
xF fMove [a0] fun v195 =>
xF fNil [v195] fun v196 =>
xF (fFld 2) [v196] fun v197 =>
hStore 1 [v197, (.int .i64 6)] (fun _v σ =>
J1 [] [] σ) σ) σ) σ) σ) σ) σ) σ) σ) σ) σ) σ) σ)
 (xF (fBin .eql .no) [v12, (.int .i64 6)] fun v199 =>
xF fMove [v199] fun v198 =>
xIf v198
 (xO (gLoad 9 true [(locP 3)] c3) fun v200 =>
xF fMove [a0] fun v201 =>
xF fNil [v201] fun v202 =>
xF (fFld 11) [v202] fun v203 =>
xF (fFld 0) [v203] fun v204 =>
hLoad 1 false [v204] (fun v205 σ =>
xF fMove [a0] fun v206 =>
s_alloc_Alloc_head [v206, (.int .i64 2)] (fun v207 σ =>
s_layout_Env_Store [v200, v205, v207] (fun v208 σ =>
xF fMove [(.bool true)] fun v4 =>
K v4 σ) σ) σ) σ)
 (xF fMove [a0] fun v13 =>
xF fNil [v13] fun v14 =>
xF (fFld 13) [v14] fun v15 =>
hLoad 1 false [v15] (fun v16 σ =>
xO (gLoad 9 true [(locP 3)] c3) fun v17 =>
s_slot_Give_Step [v16, v17] (fun v18 σ =>
xF fMove [v18] fun v4 =>
K v4 σ) σ) σ)))))))) σ
def s_alloc_Alloc_Step : Spec := fun args K σ => match args with
  | [a0, a1] => w_alloc_Alloc_Step a0 a1 K σ
  | _ => False
noncomputable def cx_alloc_Alloc_Step : Cx := { P := Try.prog, T := [(49, .write, s_layout_Class), (50, .write, s_alloc_Alloc_end), (51, .write, s_slot_Take_Step), (52, .read, s_slot_Take_Slot), (37, .none, s_layout_Slot), (41, .write, s_layout_Env_Load), (36, .none, s_word_Slot), (21, .write, s_place_New), (22, .write, s_place_Place_Step), (27, .read, s_place_Place_Spot), (53, .write, s_slot_NewGive), (20, .none, s_layout_Chunk), (42, .none, s_layout_Room), (54, .write, s_layout_Env_Add), (56, .read, s_alloc_Alloc_head), (55, .write, s_layout_Env_Store), (57, .none, s_word_PutSlot), (58, .none, s_word_PutHandle), (29, .read, s_layout_Env_Now), (59, .write, s_slot_Give_Step)], loc := [(3, 3), (7, 7), (59, 3), (124, 3), (160, 3)], eqt := [], n := 209, keep := [(1000037, [], [])] }
theorem q_alloc_Alloc_Step : FnS cx_alloc_Alloc_Step Try.f35 (bodyOf Try.f35) 2 = s_alloc_Alloc_Step := by
  funext args K σ
  rcases args with _ | ⟨a0, _ | ⟨a1, _ | ⟨b, r⟩⟩⟩ <;> kernel_rfl
theorem e_alloc_Alloc_Step : Entry Try.prog 35 .write s_alloc_Alloc_Step :=
  entry (C := cx_alloc_Alloc_Step) (TOk.cons e_layout_Class (TOk.cons e_alloc_Alloc_end (TOk.cons e_slot_Take_Step (TOk.cons e_slot_Take_Slot (TOk.cons e_layout_Slot (TOk.cons e_layout_Env_Load (TOk.cons e_word_Slot (TOk.cons e_place_New (TOk.cons e_place_Place_Step (TOk.cons e_place_Place_Spot (TOk.cons e_slot_NewGive (TOk.cons e_layout_Chunk (TOk.cons e_layout_Room (TOk.cons e_layout_Env_Add (TOk.cons e_alloc_Alloc_head (TOk.cons e_layout_Env_Store (TOk.cons e_word_PutSlot (TOk.cons e_word_PutHandle (TOk.cons e_layout_Env_Now (TOk.cons e_slot_Give_Step TOk.nil)))))))))))))))))))) mixedOk Try.func35 (by kernel_rfl) (by kernel_rfl) (by kernel_rfl) q_alloc_Alloc_Step
def xl_alloc_Alloc_Step : List (Nat × Nat) := [(3, 3), (7, 7), (59, 3), (124, 3), (160, 3)]
noncomputable def xc_alloc_Alloc_Step : XC XN :=
(.seq none
 (.reg [⟨none, some 3, [(.tmp 1)], ⟨.lb 3 9, rAny xl_alloc_Alloc_Step (.lb 3 9)⟩⟩,
  ⟨none, some 4, [(.const (.bool false))], ⟨.f fMove, rMove⟩⟩])
 (.seq (some ([], []))
 (.seq none
 (.reg [⟨none, some 9, [(.tmp 0)], ⟨.f fMove, rMove⟩⟩,
  ⟨none, some 10, [(.tmp 9)], ⟨.f fNil, rNil⟩⟩,
  ⟨none, some 11, [(.tmp 10)], ⟨.f (fFld 2), rFld 2⟩⟩,
  ⟨none, some 12, [(.tmp 11)], ⟨.load 1 false, rLoad1⟩⟩])
 (.block 0
 (.seq none
 (.reg [⟨none, some 20, [(.tmp 12), (.const (.int .i64 0))], ⟨.f (fBin .eql .no), rEql⟩⟩,
  ⟨none, some 19, [(.tmp 20)], ⟨.f fMove, rMove⟩⟩])
 (.cond (.tmp 19)
 (.seq none
 (.seq none
 (.reg [⟨none, some 21, [(.tmp 0)], ⟨.f fMove, rMove⟩⟩,
  ⟨none, some 22, [(.tmp 21)], ⟨.f fNil, rNil⟩⟩,
  ⟨none, some 23, [(.tmp 22)], ⟨.f (fFld 0), rFld 0⟩⟩,
  ⟨none, some 24, [(.tmp 23)], ⟨.load 1 false, rLoad1⟩⟩,
  ⟨none, some 25, [(.tmp 24)], ⟨.call .write s_layout_Class v_layout_Class, rCall v_layout_Class⟩⟩,
  ⟨none, some 26, [(.tmp 25), (.const (.int .i64 0))], ⟨.f (fBin .lss .no), rLss⟩⟩])
 (.cond (.tmp 26)
 (.seq none
 (.reg [⟨none, some 27, [(.tmp 0)], ⟨.f fMove, rMove⟩⟩,
  ⟨none, some 28, [(.tmp 3)], ⟨.lr 3 9 true, rAny xl_alloc_Alloc_Step (.lr 3 9 true)⟩⟩,
  ⟨none, some 29, [(.tmp 27), (.tmp 28), (.const (.int .i64 5))], ⟨.call .write s_alloc_Alloc_end v_alloc_Alloc_end, rCall v_alloc_Alloc_end⟩⟩])
 (.seq none
 (.reg [⟨none, some 4, [(.const (.bool true))], ⟨.f fMove, rMove⟩⟩])
 .ret))
 .skip))
 (.seq none
 (.reg [⟨none, some 30, [(.tmp 0)], ⟨.f fMove, rMove⟩⟩,
  ⟨none, some 31, [(.tmp 30)], ⟨.f fNil, rNil⟩⟩,
  ⟨none, some 32, [(.tmp 31)], ⟨.f (fFld 3), rFld 3⟩⟩,
  ⟨none, some 33, [(.tmp 3)], ⟨.lr 3 9 true, rAny xl_alloc_Alloc_Step (.lr 3 9 true)⟩⟩,
  ⟨none, some 34, [(.tmp 32), (.tmp 33)], ⟨.call .write s_slot_Take_Step v_slot_Take_Step, rCall v_slot_Take_Step⟩⟩])
 (.cond (.tmp 34)
 (.seq none
 (.reg [⟨none, some 36, [(.tmp 0)], ⟨.f fMove, rMove⟩⟩,
  ⟨none, some 37, [(.tmp 36)], ⟨.f fNil, rNil⟩⟩,
  ⟨none, some 38, [(.tmp 37)], ⟨.f (fFld 3), rFld 3⟩⟩,
  ⟨none, some 39, [(.tmp 38)], ⟨.call .read s_slot_Take_Slot v_slot_Take_Slot, rCall v_slot_Take_Slot⟩⟩,
  ⟨none, some 35, [(.tmp 39)], ⟨.f fMove, rMove⟩⟩,
  ⟨none, some 40, [(.tmp 35)], ⟨.f (fExt 0), rAny xl_alloc_Alloc_Step (.f (fExt 0))⟩⟩,
  ⟨none, some 41, [(.tmp 35)], ⟨.f (fExt 1), rAny xl_alloc_Alloc_Step (.f (fExt 1))⟩⟩,
  ⟨none, some 5, [(.tmp 40)], ⟨.f fMove, rMove⟩⟩,
  ⟨none, some 6, [(.tmp 41)], ⟨.f fMove, rMove⟩⟩])
 (.seq none
 (.reg [⟨none, some 42, [(.tmp 0)], ⟨.f fMove, rMove⟩⟩,
  ⟨none, some 43, [(.tmp 0)], ⟨.f fMove, rMove⟩⟩,
  ⟨none, some 44, [(.tmp 5)], ⟨.f fMove, rMove⟩⟩,
  ⟨none, some 45, [(.tmp 42)], ⟨.f fNil, rNil⟩⟩,
  ⟨none, some 46, [(.tmp 45)], ⟨.f (fFld 8), rFld 8⟩⟩,
  ⟨none, none, [(.tmp 46), (.tmp 44)], ⟨.store 1, rStore1⟩⟩,
  ⟨none, some 47, [(.tmp 43)], ⟨.f fNil, rNil⟩⟩,
  ⟨none, some 48, [(.tmp 47)], ⟨.f (fFld 2), rFld 2⟩⟩,
  ⟨none, none, [(.tmp 48), (.const (.int .i64 1))], ⟨.store 1, rStore1⟩⟩])
 (.seq none
 (.reg [⟨none, some 49, [(.tmp 6)], ⟨.f fMove, rMove⟩⟩,
  ⟨none, some 50, [(.tmp 49)], ⟨.f (fUn .not), rNot⟩⟩])
 (.cond (.tmp 50)
 (.seq none
 (.reg [⟨none, some 51, [(.tmp 0)], ⟨.f fMove, rMove⟩⟩,
  ⟨none, some 52, [(.tmp 3)], ⟨.lr 3 9 true, rAny xl_alloc_Alloc_Step (.lr 3 9 true)⟩⟩,
  ⟨none, some 53, [(.tmp 51), (.tmp 52), (.const (.int .i64 7))], ⟨.call .write s_alloc_Alloc_end v_alloc_Alloc_end, rCall v_alloc_Alloc_end⟩⟩])
 (.seq none
 (.reg [⟨none, some 4, [(.const (.bool true))], ⟨.f fMove, rMove⟩⟩])
 .ret))
 .skip))))
 .skip)))
 (.seq none
 (.reg [⟨none, some 55, [(.tmp 12), (.const (.int .i64 1))], ⟨.f (fBin .eql .no), rEql⟩⟩,
  ⟨none, some 54, [(.tmp 55)], ⟨.f fMove, rMove⟩⟩])
 (.cond (.tmp 54)
 (.seq none
 (.reg [⟨none, some 56, [(.tmp 0)], ⟨.f fMove, rMove⟩⟩,
  ⟨none, some 57, [(.tmp 0)], ⟨.f fMove, rMove⟩⟩,
  ⟨none, some 58, [(.tmp 3)], ⟨.lr 3 9 true, rAny xl_alloc_Alloc_Step (.lr 3 9 true)⟩⟩,
  ⟨none, some 59, [(.tmp 3)], ⟨.f (fFld 0), rFld 0⟩⟩,
  ⟨none, some 60, [(.tmp 59)], ⟨.lr 3 7 true, rAny xl_alloc_Alloc_Step (.lr 3 7 true)⟩⟩,
  ⟨none, some 61, [(.tmp 0)], ⟨.f fMove, rMove⟩⟩,
  ⟨none, some 62, [(.tmp 61)], ⟨.f fNil, rNil⟩⟩,
  ⟨none, some 63, [(.tmp 62)], ⟨.f (fFld 8), rFld 8⟩⟩,
  ⟨none, some 64, [(.tmp 63)], ⟨.load 1 false, rLoad1⟩⟩,
  ⟨none, some 65, [(.tmp 60), (.tmp 64)], ⟨.call .none s_layout_Slot v_layout_Slot, rCall v_layout_Slot⟩⟩,
  ⟨none, some 66, [(.tmp 58), (.tmp 65)], ⟨.call .write s_layout_Env_Load v_layout_Env_Load, rCall v_layout_Env_Load⟩⟩,
  ⟨none, some 67, [(.tmp 66)], ⟨.call .none s_word_Slot v_word_Slot, rCall v_word_Slot⟩⟩,
  ⟨none, some 68, [(.tmp 67)], ⟨.f (fFldV 2 1 false), rAny xl_alloc_Alloc_Step (.f (fFldV 2 1 false))⟩⟩,
  ⟨none, some 69, [(.tmp 56)], ⟨.f fNil, rNil⟩⟩,
  ⟨none, some 70, [(.tmp 69)], ⟨.f (fFld 9), rFld 9⟩⟩,
  ⟨none, none, [(.tmp 70), (.tmp 68)], ⟨.store 1, rStore1⟩⟩,
  ⟨none, some 71, [(.tmp 57)], ⟨.f fNil, rNil⟩⟩,
  ⟨none, some 72, [(.tmp 71)], ⟨.f (fFld 2), rFld 2⟩⟩,
  ⟨none, none, [(.tmp 72), (.const (.int .i64 2))], ⟨.store 1, rStore1⟩⟩])
 (.reg [⟨none, some 73, [(.tmp 0)], ⟨.f fMove, rMove⟩⟩,
  ⟨none, some 74, [(.tmp 0)], ⟨.f fMove, rMove⟩⟩,
  ⟨none, some 75, [(.tmp 74)], ⟨.f fNil, rNil⟩⟩,
  ⟨none, some 76, [(.tmp 75)], ⟨.f (fFld 0), rFld 0⟩⟩,
  ⟨none, some 77, [(.tmp 76)], ⟨.load 1 false, rLoad1⟩⟩,
  ⟨none, some 78, [(.tmp 77)], ⟨.call .write s_layout_Class v_layout_Class, rCall v_layout_Class⟩⟩,
  ⟨none, some 79, [(.tmp 78)], ⟨.call .write s_place_New v_place_New, rCall v_place_New⟩⟩,
  ⟨none, some 80, [(.tmp 73)], ⟨.f fNil, rNil⟩⟩,
  ⟨none, some 81, [(.tmp 80)], ⟨.f (fFld 10), rFld 10⟩⟩,
  ⟨none, none, [(.tmp 81), (.tmp 79)], ⟨.store 1, rStore1⟩⟩]))
 (.seq none
 (.reg [⟨none, some 83, [(.tmp 12), (.const (.int .i64 2))], ⟨.f (fBin .eql .no), rEql⟩⟩,
  ⟨none, some 82, [(.tmp 83)], ⟨.f fMove, rMove⟩⟩])
 (.cond (.tmp 82)
 (.seq none
 (.reg [⟨none, some 84, [(.tmp 0)], ⟨.f fMove, rMove⟩⟩,
  ⟨none, some 85, [(.tmp 84)], ⟨.f fNil, rNil⟩⟩,
  ⟨none, some 86, [(.tmp 85)], ⟨.f (fFld 10), rFld 10⟩⟩,
  ⟨none, some 87, [(.tmp 86)], ⟨.load 1 false, rLoad1⟩⟩,
  ⟨none, some 88, [(.tmp 3)], ⟨.lr 3 9 true, rAny xl_alloc_Alloc_Step (.lr 3 9 true)⟩⟩,
  ⟨none, some 89, [(.tmp 87), (.tmp 88)], ⟨.call .write s_place_Place_Step v_place_Place_Step, rCall v_place_Place_Step⟩⟩])
 (.cond (.tmp 89)
 (.seq none
 (.reg [⟨none, some 91, [(.tmp 0)], ⟨.f fMove, rMove⟩⟩,
  ⟨none, some 92, [(.tmp 91)], ⟨.f fNil, rNil⟩⟩,
  ⟨none, some 93, [(.tmp 92)], ⟨.f (fFld 10), rFld 10⟩⟩,
  ⟨none, some 94, [(.tmp 93)], ⟨.load 1 false, rLoad1⟩⟩,
  ⟨none, some 95, [(.tmp 94)], ⟨.call .read s_place_Place_Spot v_place_Place_Spot, rCall v_place_Place_Spot⟩⟩,
  ⟨none, some 90, [(.tmp 95)], ⟨.f fMove, rMove⟩⟩,
  ⟨none, some 96, [(.tmp 90)], ⟨.f (fExt 0), rAny xl_alloc_Alloc_Step (.f (fExt 0))⟩⟩,
  ⟨none, some 97, [(.tmp 90)], ⟨.f (fExt 1), rAny xl_alloc_Alloc_Step (.f (fExt 1))⟩⟩,
  ⟨none, some 7, [], ⟨.la 7 [(.int .i64 0), (.int .i64 0)], rAny xl_alloc_Alloc_Step (.la 7 [(.int .i64 0), (.int .i64 0)])⟩⟩,
  ⟨none, none, [(.tmp 7), (.tmp 96)], ⟨.ls 7 2, rAny xl_alloc_Alloc_Step (.ls 7 2)⟩⟩,
  ⟨none, some 8, [(.tmp 97)], ⟨.f fMove, rMove⟩⟩])
 (.seq none
 (.reg [⟨none, some 98, [(.tmp 0)], ⟨.f fMove, rMove⟩⟩,
  ⟨none, some 99, [(.tmp 0)], ⟨.f fMove, rMove⟩⟩,
  ⟨none, some 100, [(.tmp 7)], ⟨.lr 7 2 true, rAny xl_alloc_Alloc_Step (.lr 7 2 true)⟩⟩,
  ⟨none, some 101, [(.tmp 98)], ⟨.f fNil, rNil⟩⟩,
  ⟨none, some 102, [(.tmp 101)], ⟨.f (fFld 11), rFld 11⟩⟩,
  ⟨none, none, [(.tmp 102), (.tmp 100)], ⟨.store 2, rAny xl_alloc_Alloc_Step (.store 2)⟩⟩,
  ⟨none, some 103, [(.tmp 99)], ⟨.f fNil, rNil⟩⟩,
  ⟨none, some 104, [(.tmp 103)], ⟨.f (fFld 2), rFld 2⟩⟩,
  ⟨none, none, [(.tmp 104), (.const (.int .i64 3))], ⟨.store 1, rStore1⟩⟩])
 (.seq none
 (.reg [⟨none, some 105, [(.tmp 8)], ⟨.f fMove, rMove⟩⟩,
  ⟨none, some 106, [(.tmp 105)], ⟨.f (fUn .not), rNot⟩⟩])
 (.cond (.tmp 106)
 (.seq none
 (.reg [⟨none, some 107, [(.tmp 0)], ⟨.f fMove, rMove⟩⟩,
  ⟨none, some 108, [(.tmp 3)], ⟨.lr 3 9 true, rAny xl_alloc_Alloc_Step (.lr 3 9 true)⟩⟩,
  ⟨none, some 109, [(.tmp 107), (.tmp 108), (.const (.int .i64 6))], ⟨.call .write s_alloc_Alloc_end v_alloc_Alloc_end, rCall v_alloc_Alloc_end⟩⟩])
 (.reg [⟨none, some 110, [(.tmp 0)], ⟨.f fMove, rMove⟩⟩,
  ⟨none, some 111, [(.tmp 0)], ⟨.f fMove, rMove⟩⟩,
  ⟨none, some 112, [(.tmp 0)], ⟨.f fMove, rMove⟩⟩,
  ⟨none, some 113, [(.tmp 112)], ⟨.f fNil, rNil⟩⟩,
  ⟨none, some 114, [(.tmp 113)], ⟨.f (fFld 8), rFld 8⟩⟩,
  ⟨none, some 115, [(.tmp 114)], ⟨.load 1 false, rLoad1⟩⟩,
  ⟨none, some 116, [(.tmp 115)], ⟨.call .write s_slot_NewGive v_slot_NewGive, rCall v_slot_NewGive⟩⟩,
  ⟨none, some 117, [(.tmp 110)], ⟨.f fNil, rNil⟩⟩,
  ⟨none, some 118, [(.tmp 117)], ⟨.f (fFld 13), rFld 13⟩⟩,
  ⟨none, none, [(.tmp 118), (.tmp 116)], ⟨.store 1, rStore1⟩⟩,
  ⟨none, some 119, [(.tmp 111)], ⟨.f fNil, rNil⟩⟩,
  ⟨none, some 120, [(.tmp 119)], ⟨.f (fFld 2), rFld 2⟩⟩,
  ⟨none, none, [(.tmp 120), (.const (.int .i64 7))], ⟨.store 1, rStore1⟩⟩]))
 .skip))))
 .skip))
 (.seq none
 (.reg [⟨none, some 122, [(.tmp 12), (.const (.int .i64 3))], ⟨.f (fBin .eql .no), rEql⟩⟩,
  ⟨none, some 121, [(.tmp 122)], ⟨.f fMove, rMove⟩⟩])
 (.cond (.tmp 121)
 (.seq none
 (.reg [⟨none, some 123, [(.tmp 3)], ⟨.lr 3 9 true, rAny xl_alloc_Alloc_Step (.lr 3 9 true)⟩⟩,
  ⟨none, some 124, [(.tmp 3)], ⟨.f (fFld 0), rFld 0⟩⟩,
  ⟨none, some 125, [(.tmp 124)], ⟨.lr 3 7 true, rAny xl_alloc_Alloc_Step (.lr 3 7 true)⟩⟩,
  ⟨none, some 126, [(.tmp 0)], ⟨.f fMove, rMove⟩⟩,
  ⟨none, some 127, [(.tmp 126)], ⟨.f fNil, rNil⟩⟩,
  ⟨none, some 128, [(.tmp 127)], ⟨.f (fFld 11), rFld 11⟩⟩,
  ⟨none, some 129, [(.tmp 128)], ⟨.f (fFld 1), rFld 1⟩⟩,
  ⟨none, some 130, [(.tmp 129)], ⟨.load 1 false, rLoad1⟩⟩,
  ⟨none, some 131, [(.tmp 125), (.tmp 130)], ⟨.call .none s_layout_Chunk v_layout_Chunk, rCall v_layout_Chunk⟩⟩,
  ⟨none, some 132, [(.tmp 131), (.const (.int .i64 1))], ⟨.f (fBin .add .no), rAdd⟩⟩,
  ⟨none, some 133, [(.tmp 0)], ⟨.f fMove, rMove⟩⟩,
  ⟨none, some 134, [(.tmp 133)], ⟨.f fNil, rNil⟩⟩,
  ⟨none, some 135, [(.tmp 134)], ⟨.f (fFld 0), rFld 0⟩⟩,
  ⟨none, some 136, [(.tmp 135)], ⟨.load 1 false, rLoad1⟩⟩,
  ⟨none, some 137, [(.tmp 136)], ⟨.call .write s_layout_Class v_layout_Class, rCall v_layout_Class⟩⟩,
  ⟨none, some 138, [(.tmp 137)], ⟨.call .none s_layout_Room v_layout_Room, rCall v_layout_Room⟩⟩,
  ⟨none, some 139, [(.tmp 123), (.tmp 132), (.tmp 138)], ⟨.call .write s_layout_Env_Add v_layout_Env_Add, rCall v_layout_Env_Add⟩⟩])
 (.reg [⟨none, some 140, [(.tmp 0)], ⟨.f fMove, rMove⟩⟩,
  ⟨none, some 141, [(.tmp 140)], ⟨.f fNil, rNil⟩⟩,
  ⟨none, some 142, [(.tmp 141)], ⟨.f (fFld 2), rFld 2⟩⟩,
  ⟨none, none, [(.tmp 142), (.const (.int .i64 4))], ⟨.store 1, rStore1⟩⟩]))
 (.seq none
 (.reg [⟨none, some 144, [(.tmp 12), (.const (.int .i64 4))], ⟨.f (fBin .eql .no), rEql⟩⟩,
  ⟨none, some 143, [(.tmp 144)], ⟨.f fMove, rMove⟩⟩])
 (.cond (.tmp 143)
 (.seq none
 (.reg [⟨none, some 145, [(.tmp 3)], ⟨.lr 3 9 true, rAny xl_alloc_Alloc_Step (.lr 3 9 true)⟩⟩,
  ⟨none, some 146, [(.tmp 0)], ⟨.f fMove, rMove⟩⟩,
  ⟨none, some 147, [(.tmp 146)], ⟨.f fNil, rNil⟩⟩,
  ⟨none, some 148, [(.tmp 147)], ⟨.f (fFld 11), rFld 11⟩⟩,
  ⟨none, some 149, [(.tmp 148)], ⟨.f (fFld 0), rFld 0⟩⟩,
  ⟨none, some 150, [(.tmp 149)], ⟨.load 1 false, rLoad1⟩⟩,
  ⟨none, some 151, [(.tmp 0)], ⟨.f fMove, rMove⟩⟩,
  ⟨none, some 152, [(.tmp 151), (.const (.int .i64 1))], ⟨.call .read s_alloc_Alloc_head v_alloc_Alloc_head, rCall v_alloc_Alloc_head⟩⟩,
  ⟨none, some 153, [(.tmp 145), (.tmp 150), (.tmp 152)], ⟨.call .write s_layout_Env_Store v_layout_Env_Store, rCall v_layout_Env_Store⟩⟩])
 (.reg [⟨none, some 154, [(.tmp 0)], ⟨.f fMove, rMove⟩⟩,
  ⟨none, some 155, [(.tmp 154)], ⟨.f fNil, rNil⟩⟩,
  ⟨none, some 156, [(.tmp 155)], ⟨.f (fFld 2), rFld 2⟩⟩,
  ⟨none, none, [(.tmp 156), (.const (.int .i64 5))], ⟨.store 1, rStore1⟩⟩]))
 (.seq none
 (.reg [⟨none, some 158, [(.tmp 12), (.const (.int .i64 5))], ⟨.f (fBin .eql .no), rEql⟩⟩,
  ⟨none, some 157, [(.tmp 158)], ⟨.f fMove, rMove⟩⟩])
 (.cond (.tmp 157)
 (.seq none
 (.reg [⟨none, some 159, [(.tmp 3)], ⟨.lr 3 9 true, rAny xl_alloc_Alloc_Step (.lr 3 9 true)⟩⟩,
  ⟨none, some 160, [(.tmp 3)], ⟨.f (fFld 0), rFld 0⟩⟩,
  ⟨none, some 161, [(.tmp 160)], ⟨.lr 3 7 true, rAny xl_alloc_Alloc_Step (.lr 3 7 true)⟩⟩,
  ⟨none, some 162, [(.tmp 0)], ⟨.f fMove, rMove⟩⟩,
  ⟨none, some 163, [(.tmp 162)], ⟨.f fNil, rNil⟩⟩,
  ⟨none, some 164, [(.tmp 163)], ⟨.f (fFld 8), rFld 8⟩⟩,
  ⟨none, some 165, [(.tmp 164)], ⟨.load 1 false, rLoad1⟩⟩,
  ⟨none, some 166, [(.tmp 161), (.tmp 165)], ⟨.call .none s_layout_Slot v_layout_Slot, rCall v_layout_Slot⟩⟩,
  ⟨none, some 167, [(.tmp 0)], ⟨.f fMove, rMove⟩⟩,
  ⟨none, some 168, [(.tmp 167)], ⟨.f fNil, rNil⟩⟩,
  ⟨none, some 169, [(.tmp 168)], ⟨.f (fFld 11), rFld 11⟩⟩,
  ⟨none, some 170, [(.tmp 169)], ⟨.f (fFld 0), rFld 0⟩⟩,
  ⟨none, some 171, [(.tmp 170)], ⟨.load 1 false, rLoad1⟩⟩,
  ⟨none, some 172, [(.tmp 0)], ⟨.f fMove, rMove⟩⟩,
  ⟨none, some 173, [(.tmp 172)], ⟨.f fNil, rNil⟩⟩,
  ⟨none, some 174, [(.tmp 173)], ⟨.f (fFld 9), rFld 9⟩⟩,
  ⟨none, some 175, [(.tmp 174)], ⟨.load 1 false, rLoad1⟩⟩,
  ⟨none, some 176, [(.const (.int .i64 1)), (.tmp 171), (.tmp 175)], ⟨.f (fBuild [(0, 1), (1, 1), (2, 1), (3, 1)] [(.int .i64 0), (.int .i64 0), (.int .i64 0), (.int .i64 0)] [0, 1, 2]), rAny xl_alloc_Alloc_Step (.f (fBuild [(0, 1), (1, 1), (2, 1), (3, 1)] [(.int .i64 0), (.int .i64 0), (.int .i64 0), (.int .i64 0)] [0, 1, 2]))⟩⟩,
  ⟨none, some 177, [(.tmp 176)], ⟨.call .none s_word_PutSlot v_word_PutSlot, rCall v_word_PutSlot⟩⟩,
  ⟨none, some 178, [(.tmp 159), (.tmp 166), (.tmp 177)], ⟨.call .write s_layout_Env_Store v_layout_Env_Store, rCall v_layout_Env_Store⟩⟩])
 (.seq none
 (.reg [⟨none, some 179, [(.tmp 0)], ⟨.f fMove, rMove⟩⟩,
  ⟨none, some 180, [(.tmp 0)], ⟨.f fMove, rMove⟩⟩,
  ⟨none, some 181, [(.tmp 180)], ⟨.f fNil, rNil⟩⟩,
  ⟨none, some 182, [(.tmp 181)], ⟨.f (fFld 8), rFld 8⟩⟩,
  ⟨none, some 183, [(.tmp 182)], ⟨.load 1 false, rLoad1⟩⟩,
  ⟨none, some 184, [(.tmp 0)], ⟨.f fMove, rMove⟩⟩,
  ⟨none, some 185, [(.tmp 184)], ⟨.f fNil, rNil⟩⟩,
  ⟨none, some 186, [(.tmp 185)], ⟨.f (fFld 9), rFld 9⟩⟩,
  ⟨none, some 187, [(.tmp 186)], ⟨.load 1 false, rLoad1⟩⟩,
  ⟨none, some 188, [(.tmp 183), (.tmp 187)], ⟨.f (fBuild [(0, 1), (1, 1)] [(.int .i64 0), (.int .i64 0)] [0, 1]), rAny xl_alloc_Alloc_Step (.f (fBuild [(0, 1), (1, 1)] [(.int .i64 0), (.int .i64 0)] [0, 1]))⟩⟩,
  ⟨none, some 189, [(.tmp 188)], ⟨.call .none s_word_PutHandle v_word_PutHandle, rCall v_word_PutHandle⟩⟩,
  ⟨none, some 190, [(.tmp 3)], ⟨.lr 3 9 true, rAny xl_alloc_Alloc_Step (.lr 3 9 true)⟩⟩,
  ⟨none, some 191, [(.tmp 190)], ⟨.call .read s_layout_Env_Now v_layout_Env_Now, rCall v_layout_Env_Now⟩⟩,
  ⟨none, some 192, [(.tmp 189), (.tmp 191)], ⟨.f (fBuild [(0, 1), (1, 1), (2, 1), (3, 1)] [(.int .i64 0), (.int .u64 0), (.int .i64 0), (.int .i64 0)] [1, 3]), rAny xl_alloc_Alloc_Step (.f (fBuild [(0, 1), (1, 1), (2, 1), (3, 1)] [(.int .i64 0), (.int .u64 0), (.int .i64 0), (.int .i64 0)] [1, 3]))⟩⟩,
  ⟨none, some 193, [(.tmp 179)], ⟨.f fNil, rNil⟩⟩,
  ⟨none, some 194, [(.tmp 193)], ⟨.f (fFld 14), rFld 14⟩⟩,
  ⟨none, none, [(.tmp 194), (.tmp 192)], ⟨.store 4, rAny xl_alloc_Alloc_Step (.store 4)⟩⟩])
 (.reg [⟨none, some 195, [(.tmp 0)], ⟨.f fMove, rMove⟩⟩,
  ⟨none, some 196, [(.tmp 195)], ⟨.f fNil, rNil⟩⟩,
  ⟨none, some 197, [(.tmp 196)], ⟨.f (fFld 2), rFld 2⟩⟩,
  ⟨none, none, [(.tmp 197), (.const (.int .i64 6))], ⟨.store 1, rStore1⟩⟩])))
 (.seq none
 (.reg [⟨none, some 199, [(.tmp 12), (.const (.int .i64 6))], ⟨.f (fBin .eql .no), rEql⟩⟩,
  ⟨none, some 198, [(.tmp 199)], ⟨.f fMove, rMove⟩⟩])
 (.cond (.tmp 198)
 (.seq none
 (.reg [⟨none, some 200, [(.tmp 3)], ⟨.lr 3 9 true, rAny xl_alloc_Alloc_Step (.lr 3 9 true)⟩⟩,
  ⟨none, some 201, [(.tmp 0)], ⟨.f fMove, rMove⟩⟩,
  ⟨none, some 202, [(.tmp 201)], ⟨.f fNil, rNil⟩⟩,
  ⟨none, some 203, [(.tmp 202)], ⟨.f (fFld 11), rFld 11⟩⟩,
  ⟨none, some 204, [(.tmp 203)], ⟨.f (fFld 0), rFld 0⟩⟩,
  ⟨none, some 205, [(.tmp 204)], ⟨.load 1 false, rLoad1⟩⟩,
  ⟨none, some 206, [(.tmp 0)], ⟨.f fMove, rMove⟩⟩,
  ⟨none, some 207, [(.tmp 206), (.const (.int .i64 2))], ⟨.call .read s_alloc_Alloc_head v_alloc_Alloc_head, rCall v_alloc_Alloc_head⟩⟩,
  ⟨none, some 208, [(.tmp 200), (.tmp 205), (.tmp 207)], ⟨.call .write s_layout_Env_Store v_layout_Env_Store, rCall v_layout_Env_Store⟩⟩])
 (.seq none
 (.reg [⟨none, some 4, [(.const (.bool true))], ⟨.f fMove, rMove⟩⟩])
 .ret))
 (.seq none
 (.reg [⟨none, some 13, [(.tmp 0)], ⟨.f fMove, rMove⟩⟩,
  ⟨none, some 14, [(.tmp 13)], ⟨.f fNil, rNil⟩⟩,
  ⟨none, some 15, [(.tmp 14)], ⟨.f (fFld 13), rFld 13⟩⟩,
  ⟨none, some 16, [(.tmp 15)], ⟨.load 1 false, rLoad1⟩⟩,
  ⟨none, some 17, [(.tmp 3)], ⟨.lr 3 9 true, rAny xl_alloc_Alloc_Step (.lr 3 9 true)⟩⟩,
  ⟨none, some 18, [(.tmp 16), (.tmp 17)], ⟨.call .write s_slot_Give_Step v_slot_Give_Step, rCall v_slot_Give_Step⟩⟩,
  ⟨none, some 4, [(.tmp 18)], ⟨.f fMove, rMove⟩⟩])
 .ret)))))))))))))))))
 (.seq none
 (.reg [⟨none, some 4, [(.const (.bool false))], ⟨.f fMove, rMove⟩⟩])
 .ret)))
noncomputable def v_alloc_Alloc_Step : EvF := evFn 2 xc_alloc_Alloc_Step [.t 4]
theorem xt_alloc_Alloc_Step : toC cx_alloc_Alloc_Step (bodyOf Try.f35) = some (xc_alloc_Alloc_Step.map XN.sm) := by kernel_rfl
theorem xr_alloc_Alloc_Step : toR cx_alloc_Alloc_Step Try.f35.results.toList = some [.t 4] := by kernel_rfl
theorem xo_alloc_Alloc_Step : xc_alloc_Alloc_Step.ok xl_alloc_Alloc_Step := ⟨⟨rAny_ok (trivial), rMove_ok, trivial⟩, ⟨⟨⟨rMove_ok, rNil_ok, rFld_ok _, rLoad1_ok, trivial⟩, ⟨⟨rEql_ok, rMove_ok, trivial⟩, ⟨⟨⟨⟨rMove_ok, rNil_ok, rFld_ok _, rLoad1_ok, rCall_ok ve_layout_Class, rLss_ok, trivial⟩, ⟨⟨⟨rMove_ok, rAny_ok (trivial), rCall_ok ve_alloc_Alloc_end, trivial⟩, ⟨⟨rMove_ok, trivial⟩, trivial⟩⟩, trivial⟩⟩, ⟨⟨rMove_ok, rNil_ok, rFld_ok _, rAny_ok (trivial), rCall_ok ve_slot_Take_Step, trivial⟩, ⟨⟨⟨rMove_ok, rNil_ok, rFld_ok _, rCall_ok ve_slot_Take_Slot, rMove_ok, rAny_ok (eqv_ext _), rAny_ok (eqv_ext _), rMove_ok, rMove_ok, trivial⟩, ⟨⟨rMove_ok, rMove_ok, rMove_ok, rNil_ok, rFld_ok _, rStore1_ok, rNil_ok, rFld_ok _, rStore1_ok, trivial⟩, ⟨⟨rMove_ok, rNot_ok, trivial⟩, ⟨⟨⟨rMove_ok, rAny_ok (trivial), rCall_ok ve_alloc_Alloc_end, trivial⟩, ⟨⟨rMove_ok, trivial⟩, trivial⟩⟩, trivial⟩⟩⟩⟩, trivial⟩⟩⟩, ⟨⟨rEql_ok, rMove_ok, trivial⟩, ⟨⟨⟨rMove_ok, rMove_ok, rAny_ok (trivial), rFld_ok _, rAny_ok (trivial), rMove_ok, rNil_ok, rFld_ok _, rLoad1_ok, rCall_ok ve_layout_Slot, rCall_ok ve_layout_Env_Load, rCall_ok ve_word_Slot, rAny_ok (eqv_fldV _ _ _), rNil_ok, rFld_ok _, rStore1_ok, rNil_ok, rFld_ok _, rStore1_ok, trivial⟩, ⟨rMove_ok, rMove_ok, rNil_ok, rFld_ok _, rLoad1_ok, rCall_ok ve_layout_Class, rCall_ok ve_place_New, rNil_ok, rFld_ok _, rStore1_ok, trivial⟩⟩, ⟨⟨rEql_ok, rMove_ok, trivial⟩, ⟨⟨⟨rMove_ok, rNil_ok, rFld_ok _, rLoad1_ok, rAny_ok (trivial), rCall_ok ve_place_Place_Step, trivial⟩, ⟨⟨⟨rMove_ok, rNil_ok, rFld_ok _, rLoad1_ok, rCall_ok ve_place_Place_Spot, rMove_ok, rAny_ok (eqv_ext _), rAny_ok (eqv_ext _), rAny_ok (trivial), rAny_ok (trivial), rMove_ok, trivial⟩, ⟨⟨rMove_ok, rMove_ok, rAny_ok (trivial), rNil_ok, rFld_ok _, rAny_ok (trivial), rNil_ok, rFld_ok _, rStore1_ok, trivial⟩, ⟨⟨rMove_ok, rNot_ok, trivial⟩, ⟨⟨⟨rMove_ok, rAny_ok (trivial), rCall_ok ve_alloc_Alloc_end, trivial⟩, ⟨rMove_ok, rMove_ok, rMove_ok, rNil_ok, rFld_ok _, rLoad1_ok, rCall_ok ve_slot_NewGive, rNil_ok, rFld_ok _, rStore1_ok, rNil_ok, rFld_ok _, rStore1_ok, trivial⟩⟩, trivial⟩⟩⟩⟩, trivial⟩⟩, ⟨⟨rEql_ok, rMove_ok, trivial⟩, ⟨⟨⟨rAny_ok (trivial), rFld_ok _, rAny_ok (trivial), rMove_ok, rNil_ok, rFld_ok _, rFld_ok _, rLoad1_ok, rCall_ok ve_layout_Chunk, rAdd_ok, rMove_ok, rNil_ok, rFld_ok _, rLoad1_ok, rCall_ok ve_layout_Class, rCall_ok ve_layout_Room, rCall_ok ve_layout_Env_Add, trivial⟩, ⟨rMove_ok, rNil_ok, rFld_ok _, rStore1_ok, trivial⟩⟩, ⟨⟨rEql_ok, rMove_ok, trivial⟩, ⟨⟨⟨rAny_ok (trivial), rMove_ok, rNil_ok, rFld_ok _, rFld_ok _, rLoad1_ok, rMove_ok, rCall_ok ve_alloc_Alloc_head, rCall_ok ve_layout_Env_Store, trivial⟩, ⟨rMove_ok, rNil_ok, rFld_ok _, rStore1_ok, trivial⟩⟩, ⟨⟨rEql_ok, rMove_ok, trivial⟩, ⟨⟨⟨rAny_ok (trivial), rFld_ok _, rAny_ok (trivial), rMove_ok, rNil_ok, rFld_ok _, rLoad1_ok, rCall_ok ve_layout_Slot, rMove_ok, rNil_ok, rFld_ok _, rFld_ok _, rLoad1_ok, rMove_ok, rNil_ok, rFld_ok _, rLoad1_ok, rAny_ok (eqv_build _ rfl _), rCall_ok ve_word_PutSlot, rCall_ok ve_layout_Env_Store, trivial⟩, ⟨⟨rMove_ok, rMove_ok, rNil_ok, rFld_ok _, rLoad1_ok, rMove_ok, rNil_ok, rFld_ok _, rLoad1_ok, rAny_ok (eqv_build _ rfl _), rCall_ok ve_word_PutHandle, rAny_ok (trivial), rCall_ok ve_layout_Env_Now, rAny_ok (eqv_build _ rfl _), rNil_ok, rFld_ok _, rAny_ok (trivial), trivial⟩, ⟨rMove_ok, rNil_ok, rFld_ok _, rStore1_ok, trivial⟩⟩⟩, ⟨⟨rEql_ok, rMove_ok, trivial⟩, ⟨⟨⟨rAny_ok (trivial), rMove_ok, rNil_ok, rFld_ok _, rFld_ok _, rLoad1_ok, rMove_ok, rCall_ok ve_alloc_Alloc_head, rCall_ok ve_layout_Env_Store, trivial⟩, ⟨⟨rMove_ok, trivial⟩, trivial⟩⟩, ⟨⟨rMove_ok, rNil_ok, rFld_ok _, rLoad1_ok, rAny_ok (trivial), rCall_ok ve_slot_Give_Step, rMove_ok, trivial⟩, trivial⟩⟩⟩⟩⟩⟩⟩⟩⟩⟩⟩⟩⟩⟩⟩⟩, ⟨⟨rMove_ok, trivial⟩, trivial⟩⟩⟩
theorem ve_alloc_Alloc_Step : EvOk s_alloc_Alloc_Step v_alloc_Alloc_Step := EvOk.of (evFn_sound (C := cx_alloc_Alloc_Step) xt_alloc_Alloc_Step xr_alloc_Alloc_Step xo_alloc_Alloc_Step) q_alloc_Alloc_Step
attribute [irreducible] w_alloc_Alloc_Step_j1b w_alloc_Alloc_Step_j1 w_alloc_Alloc_Step s_alloc_Alloc_Step
def w_alloc_Alloc_Done (a0 : Value) (K : Value → Mem → Prop) (σ : Mem) : Prop :=
xF fMove [a0] fun v3 =>
xF (fBin .eql .ptr) [v3, (.pointer none)] fun v4 =>
xIf v4
 (xF (fBuild [(0, 1), (1, 1), (2, 1), (3, 1)] [(.int .i64 0), (.int .u64 0), (.int .i64 0), (.int .i64 0)] [0]) [(.int .i64 1)] fun v5 =>
xC (gStore 4 [(locP 2), v5] [(.int .i64 0), (.int .u64 0), (.int .i64 0), (.int .i64 0)]) fun c2 =>
xO (gLoad 4 true [(locP 2)] c2) fun r2 =>
K r2 σ)
 (xF fMove [a0] fun v6 =>
xF fNil [v6] fun v7 =>
xF (fFld 14) [v7] fun v8 =>
hLoad 4 true [v8] (fun v9 σ =>
xC (gStore 4 [(locP 2), v9] [(.int .i64 0), (.int .u64 0), (.int .i64 0), (.int .i64 0)]) fun c2 =>
xO (gLoad 4 true [(locP 2)] c2) fun r2 =>
K r2 σ) σ)
def s_alloc_Alloc_Done : Spec := fun args K σ => match args with
  | [a0] => w_alloc_Alloc_Done a0 K σ
  | _ => False
noncomputable def cx_alloc_Alloc_Done : Cx := { P := Try.prog, T := [], loc := [(2, 2)], eqt := [(66, .ptr)], n := 10, keep := [] }
theorem q_alloc_Alloc_Done : FnS cx_alloc_Alloc_Done Try.f33 (bodyOf Try.f33) 1 = s_alloc_Alloc_Done := by
  funext args K σ
  rcases args with _ | ⟨a0, _ | ⟨b, r⟩⟩ <;> kernel_rfl
theorem e_alloc_Alloc_Done : Entry Try.prog 33 .read s_alloc_Alloc_Done :=
  entry (C := cx_alloc_Alloc_Done) TOk.nil mixedOk Try.func33 (by kernel_rfl) (by kernel_rfl) (by kernel_rfl) q_alloc_Alloc_Done
def xl_alloc_Alloc_Done : List (Nat × Nat) := [(2, 2)]
noncomputable def xc_alloc_Alloc_Done : XC XN :=
(.seq none
 (.reg [⟨none, some 2, [], ⟨.la 2 [(.int .i64 0), (.int .u64 0), (.int .i64 0), (.int .i64 0)], rAny xl_alloc_Alloc_Done (.la 2 [(.int .i64 0), (.int .u64 0), (.int .i64 0), (.int .i64 0)])⟩⟩])
 (.seq none
 (.seq none
 (.reg [⟨none, some 3, [(.tmp 0)], ⟨.f fMove, rMove⟩⟩,
  ⟨none, some 4, [(.tmp 3), (.const (.pointer none))], ⟨.f (fBin .eql .ptr), rAny xl_alloc_Alloc_Done (.f (fBin .eql .ptr))⟩⟩])
 (.cond (.tmp 4)
 (.seq none
 (.reg [⟨none, some 5, [(.const (.int .i64 1))], ⟨.f (fBuild [(0, 1), (1, 1), (2, 1), (3, 1)] [(.int .i64 0), (.int .u64 0), (.int .i64 0), (.int .i64 0)] [0]), rAny xl_alloc_Alloc_Done (.f (fBuild [(0, 1), (1, 1), (2, 1), (3, 1)] [(.int .i64 0), (.int .u64 0), (.int .i64 0), (.int .i64 0)] [0]))⟩⟩,
  ⟨none, none, [(.tmp 2), (.tmp 5)], ⟨.ls 2 4, rAny xl_alloc_Alloc_Done (.ls 2 4)⟩⟩])
 .ret)
 .skip))
 (.seq none
 (.reg [⟨none, some 6, [(.tmp 0)], ⟨.f fMove, rMove⟩⟩,
  ⟨none, some 7, [(.tmp 6)], ⟨.f fNil, rNil⟩⟩,
  ⟨none, some 8, [(.tmp 7)], ⟨.f (fFld 14), rFld 14⟩⟩,
  ⟨none, some 9, [(.tmp 8)], ⟨.load 4 true, rAny xl_alloc_Alloc_Done (.load 4 true)⟩⟩,
  ⟨none, none, [(.tmp 2), (.tmp 9)], ⟨.ls 2 4, rAny xl_alloc_Alloc_Done (.ls 2 4)⟩⟩])
 .ret)))
noncomputable def v_alloc_Alloc_Done : EvF := evFn 1 xc_alloc_Alloc_Done [.c 2 2 4 true]
theorem xt_alloc_Alloc_Done : toC cx_alloc_Alloc_Done (bodyOf Try.f33) = some (xc_alloc_Alloc_Done.map XN.sm) := by kernel_rfl
theorem xr_alloc_Alloc_Done : toR cx_alloc_Alloc_Done Try.f33.results.toList = some [.c 2 2 4 true] := by kernel_rfl
theorem xo_alloc_Alloc_Done : xc_alloc_Alloc_Done.ok xl_alloc_Alloc_Done := ⟨⟨rAny_ok (trivial), trivial⟩, ⟨⟨⟨rMove_ok, rAny_ok (eqv_bin _ _), trivial⟩, ⟨⟨⟨rAny_ok (eqv_build _ rfl _), rAny_ok (trivial), trivial⟩, trivial⟩, trivial⟩⟩, ⟨⟨rMove_ok, rNil_ok, rFld_ok _, rAny_ok (trivial), rAny_ok (trivial), trivial⟩, trivial⟩⟩⟩
theorem ve_alloc_Alloc_Done : EvOk s_alloc_Alloc_Done v_alloc_Alloc_Done := EvOk.of (evFn_sound (C := cx_alloc_Alloc_Done) xt_alloc_Alloc_Done xr_alloc_Alloc_Done xo_alloc_Alloc_Done) q_alloc_Alloc_Done
attribute [irreducible] w_alloc_Alloc_Done s_alloc_Alloc_Done
def w_law08_Make_j1b (K : Value → Mem → Prop) (v7 : Value) (c6 : List Value) (σ : Mem) : Prop :=
xF fMove [v7] fun v19 =>
s_alloc_Alloc_Done [v19] (fun v20 σ =>
xC (gStore 4 [(locP 6), v20] c6) fun c6 =>
xO (gLoad 4 true [(locP 6)] c6) fun r6 =>
K r6 σ) σ
def w_law08_Make_j1 (K : Value → Mem → Prop) (ts : List Value) (ls : List (List Value)) (σ : Mem) : Prop := w_law08_Make_j1b K (ts.getD 0 poison) (ls.getD 0 []) σ
def w_law08_Make_l4b (K : Value → Mem → Prop) (J1 : List Value → List (List Value) → Mem → Prop) (R1 : List Value → List (List Value) → Mem → Prop) (v7 v8 : Value) (c3 c6 : List Value) (σ : Mem) : Prop :=
xF fMove [v8] fun v12 =>
xF (fBin .lss .no) [v12, (.int .i64 400)] fun v13 =>
xIf v13
 (xF fMove [v7] fun v16 =>
xO (gLoad 9 true [(locP 3)] c3) fun v17 =>
s_alloc_Alloc_Step [v16, v17] (fun v18 σ =>
xIf v18
 (J1 [v7] [c6] σ)
 (xF fMove [v8] fun v14 =>
xF (fBin .add .no) [v14, (.int .i64 1)] fun v15 =>
xF fMove [v15] fun v8 =>
R1 [v7, v8] [c3, c6] σ)) σ)
 (J1 [v7] [c6] σ)
def w_law08_Make_l4 (K : Value → Mem → Prop) (J1 : List Value → List (List Value) → Mem → Prop) (R1 : List Value → List (List Value) → Mem → Prop) (ts : List Value) (ls : List (List Value)) (σ : Mem) : Prop := w_law08_Make_l4b K J1 R1 (ts.getD 0 poison) (ts.getD 1 poison) (ls.getD 0 []) (ls.getD 1 []) σ
def w_law08_Make (a0 a1 a2 : Value) (K : Value → Mem → Prop) (σ : Mem) : Prop :=
xC (gBox 9 [a0] []) fun c3 =>
xF fMove [a1] fun v9 =>
xF fMove [a2] fun v10 =>
s_alloc_New [v9, v10] (fun v11 σ =>
xF fMove [v11] fun v7 =>
xJoin (w_law08_Make_j1 K) fun J1 =>
xF fMove [(.int .i64 0)] fun v8 =>
xLoop (w_law08_Make_l4 K J1) [v7, v8] [c3, [(.int .i64 0), (.int .u64 0), (.int .i64 0), (.int .i64 0)]] σ) σ
def s_law08_Make : Spec := fun args K σ => match args with
  | [a0, a1, a2] => w_law08_Make a0 a1 a2 K σ
  | _ => False
noncomputable def cx_law08_Make : Cx := { P := Try.prog, T := [(34, .write, s_alloc_New), (35, .write, s_alloc_Alloc_Step), (33, .read, s_alloc_Alloc_Done)], loc := [(3, 3), (6, 6)], eqt := [], n := 21, keep := [(4, [7, 8], [3, 6]), (1000007, [7], [6])] }
theorem q_law08_Make : FnS cx_law08_Make Try.f32 (bodyOf Try.f32) 3 = s_law08_Make := by
  funext args K σ
  rcases args with _ | ⟨a0, _ | ⟨a1, _ | ⟨a2, _ | ⟨b, r⟩⟩⟩⟩ <;> kernel_rfl
theorem e_law08_Make : Entry Try.prog 32 .write s_law08_Make :=
  entry (C := cx_law08_Make) (TOk.cons e_alloc_New (TOk.cons e_alloc_Alloc_Step (TOk.cons e_alloc_Alloc_Done TOk.nil))) mixedOk Try.func32 (by kernel_rfl) (by kernel_rfl) (by kernel_rfl) q_law08_Make
def xl_law08_Make : List (Nat × Nat) := [(3, 3), (6, 6)]
noncomputable def xc_law08_Make : XC XN :=
(.seq none
 (.reg [⟨none, some 3, [(.tmp 0)], ⟨.lb 3 9, rAny xl_law08_Make (.lb 3 9)⟩⟩,
  ⟨none, some 6, [], ⟨.la 6 [(.int .i64 0), (.int .u64 0), (.int .i64 0), (.int .i64 0)], rAny xl_law08_Make (.la 6 [(.int .i64 0), (.int .u64 0), (.int .i64 0), (.int .i64 0)])⟩⟩])
 (.seq none
 (.reg [⟨none, some 9, [(.tmp 1)], ⟨.f fMove, rMove⟩⟩,
  ⟨none, some 10, [(.tmp 2)], ⟨.f fMove, rMove⟩⟩,
  ⟨none, some 11, [(.tmp 9), (.tmp 10)], ⟨.call .write s_alloc_New v_alloc_New, rCall v_alloc_New⟩⟩,
  ⟨none, some 7, [(.tmp 11)], ⟨.f fMove, rMove⟩⟩])
 (.seq (some ([7], [6]))
 (.seq none
 (.reg [⟨none, some 8, [(.const (.int .i64 0))], ⟨.f fMove, rMove⟩⟩])
 (.block 0
 (.loop ([7, 8], [3, 6])
 (.seq none
 (.seq none
 (.reg [⟨none, some 12, [(.tmp 8)], ⟨.f fMove, rMove⟩⟩,
  ⟨none, some 13, [(.tmp 12), (.const (.int .i64 400))], ⟨.f (fBin .lss .no), rLss⟩⟩])
 (.cond (.tmp 13)
 .skip
 (.exit 0)))
 (.seq none
 (.block 1
 (.seq none
 (.reg [⟨none, some 16, [(.tmp 7)], ⟨.f fMove, rMove⟩⟩,
  ⟨none, some 17, [(.tmp 3)], ⟨.lr 3 9 true, rAny xl_law08_Make (.lr 3 9 true)⟩⟩,
  ⟨none, some 18, [(.tmp 16), (.tmp 17)], ⟨.call .write s_alloc_Alloc_Step v_alloc_Alloc_Step, rCall v_alloc_Alloc_Step⟩⟩])
 (.cond (.tmp 18)
 (.exit 0)
 .skip)))
 (.reg [⟨none, some 14, [(.tmp 8)], ⟨.f fMove, rMove⟩⟩,
  ⟨none, some 15, [(.tmp 14), (.const (.int .i64 1))], ⟨.f (fBin .add .no), rAdd⟩⟩,
  ⟨none, some 8, [(.tmp 15)], ⟨.f fMove, rMove⟩⟩]))))))
 (.seq none
 (.reg [⟨none, some 19, [(.tmp 7)], ⟨.f fMove, rMove⟩⟩,
  ⟨none, some 20, [(.tmp 19)], ⟨.call .read s_alloc_Alloc_Done v_alloc_Alloc_Done, rCall v_alloc_Alloc_Done⟩⟩,
  ⟨none, none, [(.tmp 6), (.tmp 20)], ⟨.ls 6 4, rAny xl_law08_Make (.ls 6 4)⟩⟩])
 .ret))))
noncomputable def v_law08_Make : EvF := evFn 3 xc_law08_Make [.c 6 6 4 true]
theorem xt_law08_Make : toC cx_law08_Make (bodyOf Try.f32) = some (xc_law08_Make.map XN.sm) := by kernel_rfl
theorem xr_law08_Make : toR cx_law08_Make Try.f32.results.toList = some [.c 6 6 4 true] := by kernel_rfl
theorem xo_law08_Make : xc_law08_Make.ok xl_law08_Make := ⟨⟨rAny_ok (trivial), rAny_ok (trivial), trivial⟩, ⟨⟨rMove_ok, rMove_ok, rCall_ok ve_alloc_New, rMove_ok, trivial⟩, ⟨⟨⟨rMove_ok, trivial⟩, ⟨⟨⟨rMove_ok, rLss_ok, trivial⟩, ⟨trivial, trivial⟩⟩, ⟨⟨⟨rMove_ok, rAny_ok (trivial), rCall_ok ve_alloc_Alloc_Step, trivial⟩, ⟨trivial, trivial⟩⟩, ⟨rMove_ok, rAdd_ok, rMove_ok, trivial⟩⟩⟩⟩, ⟨⟨rMove_ok, rCall_ok ve_alloc_Alloc_Done, rAny_ok (trivial), trivial⟩, trivial⟩⟩⟩⟩
theorem ve_law08_Make : EvOk s_law08_Make v_law08_Make := EvOk.of (evFn_sound (C := cx_law08_Make) xt_law08_Make xr_law08_Make xo_law08_Make) q_law08_Make
attribute [irreducible] w_law08_Make_j1b w_law08_Make_j1 w_law08_Make_l4b w_law08_Make_l4 w_law08_Make s_law08_Make
def w_law08_awake_r (K : Value → Mem → Prop) (σ : Mem) : Prop :=
xF fMove [(.bool false)] fun v0 =>
s_law04_Arena [(.int .i64 1), (.int .i64 4), (.int .i64 2), (.int .i64 20)] (fun v6 σ =>
xF fMove [v6] fun v5 =>
xF (fExt 0) [v5] fun v7 =>
xF (fExt 1) [v5] fun v8 =>
xC (gStore 9 [(locP 1), v7] [(.int .i64 0), (.int .i64 0), (.int .i64 0), (.int .i64 0), (.int .i64 0), (.int .i64 0), (.int .i64 0), (.pointer none), (.int .i64 0)]) fun c1 =>
xF fMove [v8] fun v2 =>
xF fMove [v2] fun v9 =>
xF (fUn .not) [v9] fun v10 =>
xIf v10
 (xF fMove [(.bool false)] fun v0 =>
K v0 σ)
 (xO (gLoad 9 true [(locP 1)] c1) fun v11 =>
s_law08_Make [v11, (.int .i64 2), (.bool false)] (fun v12 σ =>
xO (gLoad 9 true [(locP 1)] c1) fun v13 =>
s_law08_Make [v13, (.int .i64 2), (.bool true)] (fun v14 σ =>
xC (gStore 4 [(locP 3), v12] [(.int .i64 0), (.int .u64 0), (.int .i64 0), (.int .i64 0)]) fun c3 =>
xC (gStore 4 [(locP 4), v14] [(.int .i64 0), (.int .u64 0), (.int .i64 0), (.int .i64 0)]) fun c4 =>
xF (fFld 0) [(locP 3)] fun v15 =>
xO (gLoad 1 false [v15] c3) fun v16 =>
xF (fBin .eql .no) [v16, (.int .i64 0)] fun v17 =>
xF fMove [v17] fun v18 =>
xIf v18
 (xF (fFld 1) [(locP 3)] fun v19 =>
xO (gLoad 1 false [v19] c3) fun v20 =>
xF (fBin .eql .no) [v20, (.int .u64 65536)] fun v21 =>
xF fPick [(.bool true), v21, (.bool false)] fun v22 =>
xF fMove [v22] fun v23 =>
xIf v23
 (xF (fFld 1) [(locP 4)] fun v24 =>
xO (gLoad 1 false [v24] c4) fun v25 =>
xF (fBin .eql .no) [v25, (.int .u64 65537)] fun v26 =>
xF fPick [(.bool true), v26, (.bool false)] fun v27 =>
xF fMove [v27] fun v28 =>
xIf v28
 (xF (fFld 3) [(locP 3)] fun v29 =>
xO (gLoad 1 false [v29] c3) fun v30 =>
xF (fBin .gtr .no) [v30, (.int .i64 0)] fun v31 =>
xF fPick [(.bool true), v31, (.bool false)] fun v32 =>
xF fMove [v32] fun v33 =>
xIf v33
 (xF (fFld 3) [(locP 4)] fun v34 =>
xO (gLoad 1 false [v34] c4) fun v35 =>
xF (fFld 3) [(locP 3)] fun v36 =>
xO (gLoad 1 false [v36] c3) fun v37 =>
xF (fBin .gtr .no) [v35, v37] fun v38 =>
xF fPick [(.bool true), v38, (.bool false)] fun v39 =>
xF fMove [v39] fun v0 =>
K v0 σ)
 (xF fPick [(.bool false), undef, (.bool false)] fun v39 =>
xF fMove [v39] fun v0 =>
K v0 σ))
 (xF fPick [(.bool false), undef, (.bool false)] fun v32 =>
xF fMove [v32] fun v33 =>
xIf v33
 (xF (fFld 3) [(locP 4)] fun v34 =>
xO (gLoad 1 false [v34] c4) fun v35 =>
xF (fFld 3) [(locP 3)] fun v36 =>
xO (gLoad 1 false [v36] c3) fun v37 =>
xF (fBin .gtr .no) [v35, v37] fun v38 =>
xF fPick [(.bool true), v38, (.bool false)] fun v39 =>
xF fMove [v39] fun v0 =>
K v0 σ)
 (xF fPick [(.bool false), undef, (.bool false)] fun v39 =>
xF fMove [v39] fun v0 =>
K v0 σ)))
 (xF fPick [(.bool false), undef, (.bool false)] fun v27 =>
xF fMove [v27] fun v28 =>
xIf v28
 (xF (fFld 3) [(locP 3)] fun v29 =>
xO (gLoad 1 false [v29] c3) fun v30 =>
xF (fBin .gtr .no) [v30, (.int .i64 0)] fun v31 =>
xF fPick [(.bool true), v31, (.bool false)] fun v32 =>
xF fMove [v32] fun v33 =>
xIf v33
 (xF (fFld 3) [(locP 4)] fun v34 =>
xO (gLoad 1 false [v34] c4) fun v35 =>
xF (fFld 3) [(locP 3)] fun v36 =>
xO (gLoad 1 false [v36] c3) fun v37 =>
xF (fBin .gtr .no) [v35, v37] fun v38 =>
xF fPick [(.bool true), v38, (.bool false)] fun v39 =>
xF fMove [v39] fun v0 =>
K v0 σ)
 (xF fPick [(.bool false), undef, (.bool false)] fun v39 =>
xF fMove [v39] fun v0 =>
K v0 σ))
 (xF fPick [(.bool false), undef, (.bool false)] fun v32 =>
xF fMove [v32] fun v33 =>
xIf v33
 (xF (fFld 3) [(locP 4)] fun v34 =>
xO (gLoad 1 false [v34] c4) fun v35 =>
xF (fFld 3) [(locP 3)] fun v36 =>
xO (gLoad 1 false [v36] c3) fun v37 =>
xF (fBin .gtr .no) [v35, v37] fun v38 =>
xF fPick [(.bool true), v38, (.bool false)] fun v39 =>
xF fMove [v39] fun v0 =>
K v0 σ)
 (xF fPick [(.bool false), undef, (.bool false)] fun v39 =>
xF fMove [v39] fun v0 =>
K v0 σ))))
 (xF fPick [(.bool false), undef, (.bool false)] fun v22 =>
xF fMove [v22] fun v23 =>
xIf v23
 (xF (fFld 1) [(locP 4)] fun v24 =>
xO (gLoad 1 false [v24] c4) fun v25 =>
xF (fBin .eql .no) [v25, (.int .u64 65537)] fun v26 =>
xF fPick [(.bool true), v26, (.bool false)] fun v27 =>
xF fMove [v27] fun v28 =>
xIf v28
 (xF (fFld 3) [(locP 3)] fun v29 =>
xO (gLoad 1 false [v29] c3) fun v30 =>
xF (fBin .gtr .no) [v30, (.int .i64 0)] fun v31 =>
xF fPick [(.bool true), v31, (.bool false)] fun v32 =>
xF fMove [v32] fun v33 =>
xIf v33
 (xF (fFld 3) [(locP 4)] fun v34 =>
xO (gLoad 1 false [v34] c4) fun v35 =>
xF (fFld 3) [(locP 3)] fun v36 =>
xO (gLoad 1 false [v36] c3) fun v37 =>
xF (fBin .gtr .no) [v35, v37] fun v38 =>
xF fPick [(.bool true), v38, (.bool false)] fun v39 =>
xF fMove [v39] fun v0 =>
K v0 σ)
 (xF fPick [(.bool false), undef, (.bool false)] fun v39 =>
xF fMove [v39] fun v0 =>
K v0 σ))
 (xF fPick [(.bool false), undef, (.bool false)] fun v32 =>
xF fMove [v32] fun v33 =>
xIf v33
 (xF (fFld 3) [(locP 4)] fun v34 =>
xO (gLoad 1 false [v34] c4) fun v35 =>
xF (fFld 3) [(locP 3)] fun v36 =>
xO (gLoad 1 false [v36] c3) fun v37 =>
xF (fBin .gtr .no) [v35, v37] fun v38 =>
xF fPick [(.bool true), v38, (.bool false)] fun v39 =>
xF fMove [v39] fun v0 =>
K v0 σ)
 (xF fPick [(.bool false), undef, (.bool false)] fun v39 =>
xF fMove [v39] fun v0 =>
K v0 σ)))
 (xF fPick [(.bool false), undef, (.bool false)] fun v27 =>
xF fMove [v27] fun v28 =>
xIf v28
 (xF (fFld 3) [(locP 3)] fun v29 =>
xO (gLoad 1 false [v29] c3) fun v30 =>
xF (fBin .gtr .no) [v30, (.int .i64 0)] fun v31 =>
xF fPick [(.bool true), v31, (.bool false)] fun v32 =>
xF fMove [v32] fun v33 =>
xIf v33
 (xF (fFld 3) [(locP 4)] fun v34 =>
xO (gLoad 1 false [v34] c4) fun v35 =>
xF (fFld 3) [(locP 3)] fun v36 =>
xO (gLoad 1 false [v36] c3) fun v37 =>
xF (fBin .gtr .no) [v35, v37] fun v38 =>
xF fPick [(.bool true), v38, (.bool false)] fun v39 =>
xF fMove [v39] fun v0 =>
K v0 σ)
 (xF fPick [(.bool false), undef, (.bool false)] fun v39 =>
xF fMove [v39] fun v0 =>
K v0 σ))
 (xF fPick [(.bool false), undef, (.bool false)] fun v32 =>
xF fMove [v32] fun v33 =>
xIf v33
 (xF (fFld 3) [(locP 4)] fun v34 =>
xO (gLoad 1 false [v34] c4) fun v35 =>
xF (fFld 3) [(locP 3)] fun v36 =>
xO (gLoad 1 false [v36] c3) fun v37 =>
xF (fBin .gtr .no) [v35, v37] fun v38 =>
xF fPick [(.bool true), v38, (.bool false)] fun v39 =>
xF fMove [v39] fun v0 =>
K v0 σ)
 (xF fPick [(.bool false), undef, (.bool false)] fun v39 =>
xF fMove [v39] fun v0 =>
K v0 σ))))) σ) σ)) σ
def s_law08_awake_r : Spec := fun args K σ => match args with
  | [] => w_law08_awake_r  K σ
  | _ => False
noncomputable def cx_law08_awake_r : Cx := { P := Try.prog, T := [(13, .write, s_law04_Arena), (32, .write, s_law08_Make)], loc := [(1, 1), (3, 3), (4, 4), (15, 3), (19, 3), (24, 4), (29, 3), (34, 4), (36, 3)], eqt := [], n := 40, keep := [] }
theorem q_law08_awake_r : FnS cx_law08_awake_r Try.f31 (bodyOf Try.f31) 0 = s_law08_awake_r := by
  funext args K σ
  rcases args with _ | ⟨b, r⟩ <;> kernel_rfl
theorem e_law08_awake_r : Entry Try.prog 31 .write s_law08_awake_r :=
  entry (C := cx_law08_awake_r) (TOk.cons e_law04_Arena (TOk.cons e_law08_Make TOk.nil)) mixedOk Try.func31 (by kernel_rfl) (by kernel_rfl) (by kernel_rfl) q_law08_awake_r
def xl_law08_awake_r : List (Nat × Nat) := [(1, 1), (3, 3), (4, 4), (15, 3), (19, 3), (24, 4), (29, 3), (34, 4), (36, 3)]
noncomputable def xc_law08_awake_r : XC XN :=
(.seq none
 (.reg [⟨none, some 0, [(.const (.bool false))], ⟨.f fMove, rMove⟩⟩])
 (.seq none
 (.reg [⟨none, some 6, [(.const (.int .i64 1)), (.const (.int .i64 4)), (.const (.int .i64 2)), (.const (.int .i64 20))], ⟨.call .write s_law04_Arena v_law04_Arena, rCall v_law04_Arena⟩⟩,
  ⟨none, some 5, [(.tmp 6)], ⟨.f fMove, rMove⟩⟩,
  ⟨none, some 7, [(.tmp 5)], ⟨.f (fExt 0), rAny xl_law08_awake_r (.f (fExt 0))⟩⟩,
  ⟨none, some 8, [(.tmp 5)], ⟨.f (fExt 1), rAny xl_law08_awake_r (.f (fExt 1))⟩⟩,
  ⟨none, some 1, [], ⟨.la 1 [(.int .i64 0), (.int .i64 0), (.int .i64 0), (.int .i64 0), (.int .i64 0), (.int .i64 0), (.int .i64 0), (.pointer none), (.int .i64 0)], rAny xl_law08_awake_r (.la 1 [(.int .i64 0), (.int .i64 0), (.int .i64 0), (.int .i64 0), (.int .i64 0), (.int .i64 0), (.int .i64 0), (.pointer none), (.int .i64 0)])⟩⟩,
  ⟨none, none, [(.tmp 1), (.tmp 7)], ⟨.ls 1 9, rAny xl_law08_awake_r (.ls 1 9)⟩⟩,
  ⟨none, some 2, [(.tmp 8)], ⟨.f fMove, rMove⟩⟩])
 (.seq none
 (.seq none
 (.reg [⟨none, some 9, [(.tmp 2)], ⟨.f fMove, rMove⟩⟩,
  ⟨none, some 10, [(.tmp 9)], ⟨.f (fUn .not), rNot⟩⟩])
 (.cond (.tmp 10)
 (.seq none
 (.reg [⟨none, some 0, [(.const (.bool false))], ⟨.f fMove, rMove⟩⟩])
 .ret)
 .skip))
 (.seq none
 (.reg [⟨none, some 11, [(.tmp 1)], ⟨.lr 1 9 true, rAny xl_law08_awake_r (.lr 1 9 true)⟩⟩,
  ⟨none, some 12, [(.tmp 11), (.const (.int .i64 2)), (.const (.bool false))], ⟨.call .write s_law08_Make v_law08_Make, rCall v_law08_Make⟩⟩,
  ⟨none, some 13, [(.tmp 1)], ⟨.lr 1 9 true, rAny xl_law08_awake_r (.lr 1 9 true)⟩⟩,
  ⟨none, some 14, [(.tmp 13), (.const (.int .i64 2)), (.const (.bool true))], ⟨.call .write s_law08_Make v_law08_Make, rCall v_law08_Make⟩⟩,
  ⟨none, some 3, [], ⟨.la 3 [(.int .i64 0), (.int .u64 0), (.int .i64 0), (.int .i64 0)], rAny xl_law08_awake_r (.la 3 [(.int .i64 0), (.int .u64 0), (.int .i64 0), (.int .i64 0)])⟩⟩,
  ⟨none, some 4, [], ⟨.la 4 [(.int .i64 0), (.int .u64 0), (.int .i64 0), (.int .i64 0)], rAny xl_law08_awake_r (.la 4 [(.int .i64 0), (.int .u64 0), (.int .i64 0), (.int .i64 0)])⟩⟩,
  ⟨none, none, [(.tmp 3), (.tmp 12)], ⟨.ls 3 4, rAny xl_law08_awake_r (.ls 3 4)⟩⟩,
  ⟨none, none, [(.tmp 4), (.tmp 14)], ⟨.ls 4 4, rAny xl_law08_awake_r (.ls 4 4)⟩⟩])
 (.seq none
 (.reg [⟨none, some 15, [(.tmp 3)], ⟨.f (fFld 0), rFld 0⟩⟩,
  ⟨none, some 16, [(.tmp 15)], ⟨.lr 3 1 false, rLr1 3⟩⟩,
  ⟨none, some 17, [(.tmp 16), (.const (.int .i64 0))], ⟨.f (fBin .eql .no), rEql⟩⟩,
  ⟨none, some 18, [(.tmp 17)], ⟨.f fMove, rMove⟩⟩,
  ⟨(some (4, 3, true, some 18)), some 19, [(.tmp 3)], ⟨.f (fFld 1), rFld 1⟩⟩,
  ⟨(some (5, 3, true, some 18)), some 20, [(.tmp 19)], ⟨.lr 3 1 false, rLr1 3⟩⟩,
  ⟨(some (6, 3, true, some 18)), some 21, [(.tmp 20), (.const (.int .u64 65536))], ⟨.f (fBin .eql .no), rEql⟩⟩,
  ⟨none, some 22, [(.tmp 18), (.tmp 21), (.const (.bool false))], ⟨.f fPick, rPick⟩⟩,
  ⟨none, some 23, [(.tmp 22)], ⟨.f fMove, rMove⟩⟩,
  ⟨(some (9, 8, true, some 23)), some 24, [(.tmp 4)], ⟨.f (fFld 1), rFld 1⟩⟩,
  ⟨(some (10, 8, true, some 23)), some 25, [(.tmp 24)], ⟨.lr 4 1 false, rLr1 4⟩⟩,
  ⟨(some (11, 8, true, some 23)), some 26, [(.tmp 25), (.const (.int .u64 65537))], ⟨.f (fBin .eql .no), rEql⟩⟩,
  ⟨none, some 27, [(.tmp 23), (.tmp 26), (.const (.bool false))], ⟨.f fPick, rPick⟩⟩,
  ⟨none, some 28, [(.tmp 27)], ⟨.f fMove, rMove⟩⟩,
  ⟨(some (14, 13, true, some 28)), some 29, [(.tmp 3)], ⟨.f (fFld 3), rFld 3⟩⟩,
  ⟨(some (15, 13, true, some 28)), some 30, [(.tmp 29)], ⟨.lr 3 1 false, rLr1 3⟩⟩,
  ⟨(some (16, 13, true, some 28)), some 31, [(.tmp 30), (.const (.int .i64 0))], ⟨.f (fBin .gtr .no), rGtr⟩⟩,
  ⟨none, some 32, [(.tmp 28), (.tmp 31), (.const (.bool false))], ⟨.f fPick, rPick⟩⟩,
  ⟨none, some 33, [(.tmp 32)], ⟨.f fMove, rMove⟩⟩,
  ⟨(some (19, 18, true, some 33)), some 34, [(.tmp 4)], ⟨.f (fFld 3), rFld 3⟩⟩,
  ⟨(some (20, 18, true, some 33)), some 35, [(.tmp 34)], ⟨.lr 4 1 false, rLr1 4⟩⟩,
  ⟨(some (21, 18, true, some 33)), some 36, [(.tmp 3)], ⟨.f (fFld 3), rFld 3⟩⟩,
  ⟨(some (22, 18, true, some 33)), some 37, [(.tmp 36)], ⟨.lr 3 1 false, rLr1 3⟩⟩,
  ⟨(some (23, 18, true, some 33)), some 38, [(.tmp 35), (.tmp 37)], ⟨.f (fBin .gtr .no), rGtr⟩⟩,
  ⟨none, some 39, [(.tmp 33), (.tmp 38), (.const (.bool false))], ⟨.f fPick, rPick⟩⟩,
  ⟨none, some 0, [(.tmp 39)], ⟨.f fMove, rMove⟩⟩])
 .ret)))))
noncomputable def v_law08_awake_r : EvF := evFn 0 xc_law08_awake_r [.t 0]
theorem xt_law08_awake_r : toC cx_law08_awake_r (bodyOf Try.f31) = some (xc_law08_awake_r.map XN.sm) := by kernel_rfl
theorem xr_law08_awake_r : toR cx_law08_awake_r Try.f31.results.toList = some [.t 0] := by kernel_rfl
theorem xo_law08_awake_r : xc_law08_awake_r.ok xl_law08_awake_r := ⟨⟨rMove_ok, trivial⟩, ⟨⟨rCall_ok ve_law04_Arena, rMove_ok, rAny_ok (eqv_ext _), rAny_ok (eqv_ext _), rAny_ok (trivial), rAny_ok (trivial), rMove_ok, trivial⟩, ⟨⟨⟨rMove_ok, rNot_ok, trivial⟩, ⟨⟨⟨rMove_ok, trivial⟩, trivial⟩, trivial⟩⟩, ⟨⟨rAny_ok (trivial), rCall_ok ve_law08_Make, rAny_ok (trivial), rCall_ok ve_law08_Make, rAny_ok (trivial), rAny_ok (trivial), rAny_ok (trivial), rAny_ok (trivial), trivial⟩, ⟨⟨rFld_ok _, rLr1_ok _, rEql_ok, rMove_ok, rFld_ok _, rLr1_ok _, rEql_ok, rPick_ok, rMove_ok, rFld_ok _, rLr1_ok _, rEql_ok, rPick_ok, rMove_ok, rFld_ok _, rLr1_ok _, rGtr_ok, rPick_ok, rMove_ok, rFld_ok _, rLr1_ok _, rFld_ok _, rLr1_ok _, rGtr_ok, rPick_ok, rMove_ok, trivial⟩, trivial⟩⟩⟩⟩⟩
theorem ve_law08_awake_r : EvOk s_law08_awake_r v_law08_awake_r := EvOk.of (evFn_sound (C := cx_law08_awake_r) xt_law08_awake_r xr_law08_awake_r xo_law08_awake_r) q_law08_awake_r
theorem a_law08_awake : v_law08_awake_r [] ⟨.e, 0⟩ (fun v _ => isT v) = true := by kernel_rfl
def s_law08_awake : Spec := sTrue
theorem e_law08_awake : Entry Try.prog 31 .none s_law08_awake := e_law08_awake_r.awake ve_law08_awake_r a_law08_awake
attribute [irreducible] w_law08_awake_r s_law08_awake_r s_law08_awake
def w_ref04_Class_j1b (K : Value → Mem → Prop) (σ : Mem) : Prop :=
xF fMove [(.int .i64 (-1))] fun v2 =>
K v2 σ
def w_ref04_Class_j1 (K : Value → Mem → Prop) (ts : List Value) (ls : List (List Value)) (σ : Mem) : Prop := w_ref04_Class_j1b K σ
def w_ref04_Class_l6b (K : Value → Mem → Prop) (J1 : List Value → List (List Value) → Mem → Prop) (R1 : List Value → List (List Value) → Mem → Prop) (v0 v3 v4 : Value) (σ : Mem) : Prop :=
xF fMove [v4] fun v8 =>
xF (fBin .lss .no) [v8, (.int .i64 4)] fun v9 =>
xIf v9
 (xF fMove [v0] fun v12 =>
xF fMove [v3] fun v13 =>
xF fMove [v4] fun v14 =>
xF (fIxS 1) [v13, v14] fun v15 =>
hLoad 1 false [v15] (fun v16 σ =>
xF (fBin .leq .no) [v12, v16] fun v17 =>
xIf v17
 (xF fMove [v4] fun v18 =>
xF fMove [v18] fun v2 =>
K v2 σ)
 (xF fMove [v4] fun v10 =>
xF (fBin .add .no) [v10, (.int .i64 1)] fun v11 =>
xF fMove [v11] fun v4 =>
R1 [v0, v3, v4] [] σ)) σ)
 (J1 [] [] σ)
def w_ref04_Class_l6 (K : Value → Mem → Prop) (J1 : List Value → List (List Value) → Mem → Prop) (R1 : List Value → List (List Value) → Mem → Prop) (ts : List Value) (ls : List (List Value)) (σ : Mem) : Prop := w_ref04_Class_l6b K J1 R1 (ts.getD 0 poison) (ts.getD 1 poison) (ts.getD 2 poison) σ
def w_ref04_Class (a0 : Value) (K : Value → Mem → Prop) (σ : Mem) : Prop :=
xF fMove [(.int .i64 0)] fun v2 =>
hBuildS 1 4 [(.int .i64 0)] [0, 1, 2, 3] [(.int .i64 2), (.int .i64 4), (.int .i64 8), (.int .i64 16)] (fun v5 σ =>
xF fMove [v5] fun v3 =>
xF fMove [a0] fun v6 =>
xF (fBin .lss .no) [v6, (.int .i64 1)] fun v7 =>
xIf v7
 (xF fMove [(.int .i64 (-1))] fun v2 =>
K v2 σ)
 (xJoin (w_ref04_Class_j1 K) fun J1 =>
xF fMove [(.int .i64 0)] fun v4 =>
xLoop (w_ref04_Class_l6 K J1) [a0, v3, v4] [] σ)) σ
def s_ref04_Class : Spec := fun args K σ => match args with
  | [a0] => w_ref04_Class a0 K σ
  | _ => False
noncomputable def cx_ref04_Class : Cx := { P := Try.prog, T := [], loc := [], eqt := [], n := 19, keep := [(6, [0, 3, 4], []), (1000010, [], [])] }
theorem q_ref04_Class : FnS cx_ref04_Class Try.f38 (bodyOf Try.f38) 1 = s_ref04_Class := by
  funext args K σ
  rcases args with _ | ⟨a0, _ | ⟨b, r⟩⟩ <;> kernel_rfl
theorem e_ref04_Class : Entry Try.prog 38 .write s_ref04_Class :=
  entry (C := cx_ref04_Class) TOk.nil mixedOk Try.func38 (by kernel_rfl) (by kernel_rfl) (by kernel_rfl) q_ref04_Class
attribute [irreducible] w_ref04_Class_j1b w_ref04_Class_j1 w_ref04_Class_l6b w_ref04_Class_l6 w_ref04_Class s_ref04_Class
def w_word_Handle_j1b (K : Value → Mem → Prop) (v0 v11 : Value) (c2 : List Value) (σ : Mem) : Prop :=
xIf v11
 (xF (fBuild [(0, 1), (1, 1)] [(.int .i64 0), (.int .i64 0)] []) [] fun v12 =>
xC (gStore 2 [(locP 2), v12] c2) fun c2 =>
xF fMove [(.bool false)] fun v3 =>
xO (gLoad 2 true [(locP 2)] c2) fun r2 =>
K (.tuple #[r2, v3]) σ)
 (xF fMove [v0] fun v13 =>
xF (fBin .and .no) [v13, (.int .u64 65535)] fun v14 =>
xF (fConv .i64) [v14] fun v15 =>
xF fMove [v0] fun v16 =>
xF (fBin .shr .no) [v16, (.int .u64 16)] fun v17 =>
xF (fConv .i64) [v17] fun v18 =>
xF (fBuild [(0, 1), (1, 1)] [(.int .i64 0), (.int .i64 0)] [0, 1]) [v15, v18] fun v19 =>
xC (gStore 2 [(locP 2), v19] c2) fun c2 =>
xF fMove [(.bool true)] fun v3 =>
xO (gLoad 2 true [(locP 2)] c2) fun r2 =>
K (.tuple #[r2, v3]) σ)
def w_word_Handle_j1 (K : Value → Mem → Prop) (ts : List Value) (ls : List (List Value)) (σ : Mem) : Prop := w_word_Handle_j1b K (ts.getD 0 poison) (ts.getD 1 poison) (ls.getD 0 []) σ
def w_word_Handle (a0 : Value) (K : Value → Mem → Prop) (σ : Mem) : Prop :=
if true = true then (xC (gAlloc [(.int .i64 0), (.int .i64 0)] [] []) fun c2 =>
xF fMove [(.bool false)] fun v3 =>
xJoin (w_word_Handle_j1 K) fun J1 =>
xF fMove [a0] fun v4 =>
xF (fBin .shr .no) [v4, (.int .u64 32)] fun v5 =>
xF (fBin .neq .no) [v5, (.int .u64 0)] fun v6 =>
xF fMove [v6] fun v7 =>
xIf v7
 (xF fPick [(.bool true), (.bool true), undef] fun v11 =>
J1 [a0, v11] [c2] σ)
 (xF fMove [a0] fun v8 =>
xF (fBin .shr .no) [v8, (.int .u64 16)] fun v9 =>
xF (fBin .eql .no) [v9, (.int .u64 0)] fun v10 =>
xF fPick [(.bool false), (.bool true), v10] fun v11 =>
J1 [a0, v11] [c2] σ)) else False
def s_word_Handle : Spec := fun args K σ => match args with
  | [a0] => w_word_Handle a0 K σ
  | _ => False
noncomputable def cx_word_Handle : Cx := { P := Try.prog, T := [], loc := [(2, 2)], eqt := [], n := 20, keep := [(1000003, [0, 11], [2])] }
theorem q_word_Handle : FnS cx_word_Handle Try.f60 (bodyOf Try.f60) 1 = s_word_Handle := by
  funext args K σ
  rcases args with _ | ⟨a0, _ | ⟨b, r⟩⟩ <;> kernel_rfl
theorem e_word_Handle : Entry Try.prog 60 .none s_word_Handle :=
  entry (C := cx_word_Handle) TOk.nil mixedOk Try.func60 (by kernel_rfl) (by kernel_rfl) (by kernel_rfl) q_word_Handle
attribute [irreducible] w_word_Handle_j1b w_word_Handle_j1 w_word_Handle s_word_Handle
def w_word_Head (a0 : Value) (K : Value → Mem → Prop) (σ : Mem) : Prop :=
if true = true then (xC (gAlloc [(.int .i64 0), (.int .i64 0), (.int .i64 0), (.int .i64 0), (.bool false)] [] []) fun c2 =>
xF fMove [a0] fun v3 =>
xF (fBin .and .no) [v3, (.int .u64 3)] fun v4 =>
xF (fConv .i64) [v4] fun v5 =>
xF fMove [a0] fun v6 =>
xF (fBin .shr .no) [v6, (.int .u64 2)] fun v7 =>
xF (fBin .and .no) [v7, (.int .u64 65535)] fun v8 =>
xF (fConv .i64) [v8] fun v9 =>
xF fMove [a0] fun v10 =>
xF (fBin .shr .no) [v10, (.int .u64 18)] fun v11 =>
xF (fBin .and .no) [v11, (.int .u64 65535)] fun v12 =>
xF (fConv .i64) [v12] fun v13 =>
xF fMove [a0] fun v14 =>
xF (fBin .shr .no) [v14, (.int .u64 34)] fun v15 =>
xF (fBin .and .no) [v15, (.int .u64 65535)] fun v16 =>
xF (fConv .i64) [v16] fun v17 =>
xF fMove [a0] fun v18 =>
xF (fBin .shr .no) [v18, (.int .u64 50)] fun v19 =>
xF (fBin .and .no) [v19, (.int .u64 1)] fun v20 =>
xF (fBin .eql .no) [v20, (.int .u64 1)] fun v21 =>
xF (fBuild [(0, 1), (1, 1), (2, 1), (3, 1), (4, 1)] [(.int .i64 0), (.int .i64 0), (.int .i64 0), (.int .i64 0), (.bool false)] [0, 1, 2, 3, 4]) [v5, v9, v13, v17, v21] fun v22 =>
xC (gStore 5 [(locP 2), v22] c2) fun c2 =>
xO (gLoad 5 true [(locP 2)] c2) fun r2 =>
K r2 σ) else False
def s_word_Head : Spec := fun args K σ => match args with
  | [a0] => w_word_Head a0 K σ
  | _ => False
noncomputable def cx_word_Head : Cx := { P := Try.prog, T := [], loc := [(2, 2)], eqt := [], n := 23, keep := [] }
theorem q_word_Head : FnS cx_word_Head Try.f61 (bodyOf Try.f61) 1 = s_word_Head := by
  funext args K σ
  rcases args with _ | ⟨a0, _ | ⟨b, r⟩⟩ <;> kernel_rfl
theorem e_word_Head : Entry Try.prog 61 .none s_word_Head :=
  entry (C := cx_word_Head) TOk.nil mixedOk Try.func61 (by kernel_rfl) (by kernel_rfl) (by kernel_rfl) q_word_Head
attribute [irreducible] w_word_Head s_word_Head
def w_law08_sound_j3b (K : Value → Mem → Prop) (v2 : Value) (c4 c11 : List Value) (σ : Mem) : Prop :=
xF (fFld 7) [(locP 4)] fun v85 =>
xO (gLoad 1 false [v85] c4) fun v86 =>
xF (fFld 0) [(locP 4)] fun v87 =>
xO (gLoad 7 true [v87] c4) fun v88 =>
xF (fFld 0) [(locP 4)] fun v89 =>
xO (gLoad 7 true [v89] c4) fun v90 =>
xF (fFld 1) [(locP 11)] fun v91 =>
xO (gLoad 1 false [v91] c11) fun v92 =>
s_layout_Of [v90, v92] (fun v93 σ =>
s_layout_Chunk [v88, v93] (fun v94 σ =>
s_mem_Mem_Peek [v86, v94] (fun v95 σ =>
s_word_Chunk [v95] (fun v96 σ =>
xC (gStore 4 [(locP 14), v96] [(.int .i64 0), (.int .i64 0), (.int .i64 0), (.int .i64 0)]) fun c14 =>
xF (fFld 0) [(locP 14)] fun v97 =>
xO (gLoad 1 false [v97] c14) fun v98 =>
xF (fBin .eql .no) [v98, (.int .i64 1)] fun v99 =>
xF fMove [v99] fun v100 =>
xIf v100
 (xF (fFld 1) [(locP 14)] fun v101 =>
xO (gLoad 1 false [v101] c14) fun v102 =>
xF fMove [v2] fun v103 =>
s_ref04_Class [v103] (fun v104 σ =>
xF (fBin .eql .no) [v102, v104] fun v105 =>
xF fPick [(.bool true), v105, (.bool false)] fun v106 =>
xF fMove [v106] fun v8 =>
K v8 σ) σ)
 (xF fPick [(.bool false), undef, (.bool false)] fun v106 =>
xF fMove [v106] fun v8 =>
K v8 σ)) σ) σ) σ) σ
def w_law08_sound_j3 (K : Value → Mem → Prop) (ts : List Value) (ls : List (List Value)) (σ : Mem) : Prop := w_law08_sound_j3b K (ts.getD 0 poison) (ls.getD 0 []) (ls.getD 1 []) σ
def w_law08_sound_l10b (K : Value → Mem → Prop) (J3 : List Value → List (List Value) → Mem → Prop) (R1 : List Value → List (List Value) → Mem → Prop) (v2 v13 : Value) (c4 c11 : List Value) (σ : Mem) : Prop :=
xF fMove [v13] fun v71 =>
xF fMove [v2] fun v72 =>
xF (fBin .lss .no) [v71, v72] fun v73 =>
xIf v73
 (xF (fFld 7) [(locP 4)] fun v76 =>
xO (gLoad 1 false [v76] c4) fun v77 =>
xF (fFld 1) [(locP 11)] fun v78 =>
xO (gLoad 1 false [v78] c11) fun v79 =>
xF (fBin .add .no) [v79, (.int .i64 1)] fun v80 =>
xF fMove [v13] fun v81 =>
xF (fBin .add .no) [v80, v81] fun v82 =>
s_mem_Mem_Peek [v77, v82] (fun v83 σ =>
xF (fBin .neq .no) [v83, (.int .u64 0)] fun v84 =>
xIf v84
 (xF fMove [(.bool false)] fun v8 =>
K v8 σ)
 (xF fMove [v13] fun v74 =>
xF (fBin .add .no) [v74, (.int .i64 1)] fun v75 =>
xF fMove [v75] fun v13 =>
R1 [v2, v13] [c4, c11] σ)) σ)
 (J3 [v2] [c4, c11] σ)
def w_law08_sound_l10 (K : Value → Mem → Prop) (J3 : List Value → List (List Value) → Mem → Prop) (R1 : List Value → List (List Value) → Mem → Prop) (ts : List Value) (ls : List (List Value)) (σ : Mem) : Prop := w_law08_sound_l10b K J3 R1 (ts.getD 0 poison) (ts.getD 1 poison) (ls.getD 0 []) (ls.getD 1 []) σ
def w_law08_sound_j2b (K : Value → Mem → Prop) (v2 v70 : Value) (c4 c11 : List Value) (σ : Mem) : Prop :=
xIf v70
 (xF fMove [(.bool false)] fun v8 =>
K v8 σ)
 (xJoin (w_law08_sound_j3 K) fun J3 =>
xF fMove [(.int .i64 0)] fun v13 =>
xLoop (w_law08_sound_l10 K J3) [v2, v13] [c4, c11] σ)
def w_law08_sound_j2 (K : Value → Mem → Prop) (ts : List Value) (ls : List (List Value)) (σ : Mem) : Prop := w_law08_sound_j2b K (ts.getD 0 poison) (ts.getD 1 poison) (ls.getD 0 []) (ls.getD 1 []) σ
def w_law08_sound_j1b (K : Value → Mem → Prop) (v2 v3 v29 : Value) (c4 c9 : List Value) (σ : Mem) : Prop :=
xIf v29
 (xF fMove [(.bool false)] fun v8 =>
K v8 σ)
 (xF (fFld 7) [(locP 4)] fun v30 =>
xO (gLoad 1 false [v30] c4) fun v31 =>
xF (fFld 0) [(locP 4)] fun v32 =>
xO (gLoad 7 true [v32] c4) fun v33 =>
xF (fFld 0) [(locP 9)] fun v34 =>
xO (gLoad 1 false [v34] c9) fun v35 =>
s_layout_Slot [v33, v35] (fun v36 σ =>
s_mem_Mem_Peek [v31, v36] (fun v37 σ =>
s_word_Slot [v37] (fun v38 σ =>
xC (gStore 4 [(locP 11), v38] [(.int .i64 0), (.int .i64 0), (.int .i64 0), (.int .i64 0)]) fun c11 =>
xF (fFld 7) [(locP 4)] fun v39 =>
xO (gLoad 1 false [v39] c4) fun v40 =>
xF (fFld 1) [(locP 11)] fun v41 =>
xO (gLoad 1 false [v41] c11) fun v42 =>
s_mem_Mem_Peek [v40, v42] (fun v43 σ =>
s_word_Head [v43] (fun v44 σ =>
xC (gStore 5 [(locP 12), v44] [(.int .i64 0), (.int .i64 0), (.int .i64 0), (.int .i64 0), (.bool false)]) fun c12 =>
xJoin (w_law08_sound_j2 K) fun J2 =>
xF (fFld 0) [(locP 11)] fun v45 =>
xO (gLoad 1 false [v45] c11) fun v46 =>
xF (fBin .neq .no) [v46, (.int .i64 1)] fun v47 =>
xF fMove [v47] fun v48 =>
xIf v48
 (xF fPick [(.bool true), (.bool true), undef] fun v54 =>
xF fMove [v54] fun v55 =>
xIf v55
 (xF fPick [(.bool true), (.bool true), undef] fun v59 =>
xF fMove [v59] fun v60 =>
xIf v60
 (xF fPick [(.bool true), (.bool true), undef] fun v70 =>
J2 [v2, v70] [c4, c11] σ)
 (xO (gLoad 5 true [(locP 12)] c12) fun v61 =>
xF fMove [v2] fun v62 =>
xF (fFld 0) [(locP 9)] fun v63 =>
xO (gLoad 1 false [v63] c9) fun v64 =>
xF (fFld 1) [(locP 9)] fun v65 =>
xO (gLoad 1 false [v65] c9) fun v66 =>
xF fMove [v3] fun v67 =>
xF (fBuild [(0, 1), (1, 1), (2, 1), (3, 1), (4, 1)] [(.int .i64 0), (.int .i64 0), (.int .i64 0), (.int .i64 0), (.bool false)] [0, 1, 2, 3, 4]) [(.int .i64 2), v62, v64, v66, v67] fun v68 =>
xF (fBin .neq (.flat [true, true, true, true, false])) [v61, v68] fun v69 =>
xF fPick [(.bool false), (.bool true), v69] fun v70 =>
J2 [v2, v70] [c4, c11] σ))
 (xF (fFld 3) [(locP 11)] fun v56 =>
xO (gLoad 1 false [v56] c11) fun v57 =>
xF (fBin .neq .no) [v57, (.int .i64 0)] fun v58 =>
xF fPick [(.bool false), (.bool true), v58] fun v59 =>
xF fMove [v59] fun v60 =>
xIf v60
 (xF fPick [(.bool true), (.bool true), undef] fun v70 =>
J2 [v2, v70] [c4, c11] σ)
 (xO (gLoad 5 true [(locP 12)] c12) fun v61 =>
xF fMove [v2] fun v62 =>
xF (fFld 0) [(locP 9)] fun v63 =>
xO (gLoad 1 false [v63] c9) fun v64 =>
xF (fFld 1) [(locP 9)] fun v65 =>
xO (gLoad 1 false [v65] c9) fun v66 =>
xF fMove [v3] fun v67 =>
xF (fBuild [(0, 1), (1, 1), (2, 1), (3, 1), (4, 1)] [(.int .i64 0), (.int .i64 0), (.int .i64 0), (.int .i64 0), (.bool false)] [0, 1, 2, 3, 4]) [(.int .i64 2), v62, v64, v66, v67] fun v68 =>
xF (fBin .neq (.flat [true, true, true, true, false])) [v61, v68] fun v69 =>
xF fPick [(.bool false), (.bool true), v69] fun v70 =>
J2 [v2, v70] [c4, c11] σ)))
 (xF (fFld 2) [(locP 11)] fun v49 =>
xO (gLoad 1 false [v49] c11) fun v50 =>
xF (fFld 1) [(locP 9)] fun v51 =>
xO (gLoad 1 false [v51] c9) fun v52 =>
xF (fBin .neq .no) [v50, v52] fun v53 =>
xF fPick [(.bool false), (.bool true), v53] fun v54 =>
xF fMove [v54] fun v55 =>
xIf v55
 (xF fPick [(.bool true), (.bool true), undef] fun v59 =>
xF fMove [v59] fun v60 =>
xIf v60
 (xF fPick [(.bool true), (.bool true), undef] fun v70 =>
J2 [v2, v70] [c4, c11] σ)
 (xO (gLoad 5 true [(locP 12)] c12) fun v61 =>
xF fMove [v2] fun v62 =>
xF (fFld 0) [(locP 9)] fun v63 =>
xO (gLoad 1 false [v63] c9) fun v64 =>
xF (fFld 1) [(locP 9)] fun v65 =>
xO (gLoad 1 false [v65] c9) fun v66 =>
xF fMove [v3] fun v67 =>
xF (fBuild [(0, 1), (1, 1), (2, 1), (3, 1), (4, 1)] [(.int .i64 0), (.int .i64 0), (.int .i64 0), (.int .i64 0), (.bool false)] [0, 1, 2, 3, 4]) [(.int .i64 2), v62, v64, v66, v67] fun v68 =>
xF (fBin .neq (.flat [true, true, true, true, false])) [v61, v68] fun v69 =>
xF fPick [(.bool false), (.bool true), v69] fun v70 =>
J2 [v2, v70] [c4, c11] σ))
 (xF (fFld 3) [(locP 11)] fun v56 =>
xO (gLoad 1 false [v56] c11) fun v57 =>
xF (fBin .neq .no) [v57, (.int .i64 0)] fun v58 =>
xF fPick [(.bool false), (.bool true), v58] fun v59 =>
xF fMove [v59] fun v60 =>
xIf v60
 (xF fPick [(.bool true), (.bool true), undef] fun v70 =>
J2 [v2, v70] [c4, c11] σ)
 (xO (gLoad 5 true [(locP 12)] c12) fun v61 =>
xF fMove [v2] fun v62 =>
xF (fFld 0) [(locP 9)] fun v63 =>
xO (gLoad 1 false [v63] c9) fun v64 =>
xF (fFld 1) [(locP 9)] fun v65 =>
xO (gLoad 1 false [v65] c9) fun v66 =>
xF fMove [v3] fun v67 =>
xF (fBuild [(0, 1), (1, 1), (2, 1), (3, 1), (4, 1)] [(.int .i64 0), (.int .i64 0), (.int .i64 0), (.int .i64 0), (.bool false)] [0, 1, 2, 3, 4]) [(.int .i64 2), v62, v64, v66, v67] fun v68 =>
xF (fBin .neq (.flat [true, true, true, true, false])) [v61, v68] fun v69 =>
xF fPick [(.bool false), (.bool true), v69] fun v70 =>
J2 [v2, v70] [c4, c11] σ)))) σ) σ) σ) σ) σ)
def w_law08_sound_j1 (K : Value → Mem → Prop) (ts : List Value) (ls : List (List Value)) (σ : Mem) : Prop := w_law08_sound_j1b K (ts.getD 0 poison) (ts.getD 1 poison) (ts.getD 2 poison) (ls.getD 0 []) (ls.getD 1 []) σ
def w_law08_sound (a0 a1 a2 a3 : Value) (K : Value → Mem → Prop) (σ : Mem) : Prop :=
xC (gBox 9 [a0] []) fun c4 =>
xF fMove [(.bool false)] fun v8 =>
xF fMove [a1] fun v16 =>
s_word_Handle [v16] (fun v17 σ =>
xF fMove [v17] fun v15 =>
xF (fExt 0) [v15] fun v18 =>
xF (fExt 1) [v15] fun v19 =>
xC (gStore 2 [(locP 9), v18] [(.int .i64 0), (.int .i64 0)]) fun c9 =>
xF fMove [v19] fun v10 =>
xJoin (w_law08_sound_j1 K) fun J1 =>
xF fMove [v10] fun v20 =>
xF (fUn .not) [v20] fun v21 =>
xF fMove [v21] fun v22 =>
xIf v22
 (xF fPick [(.bool true), (.bool true), undef] fun v29 =>
J1 [a2, a3, v29] [c4, c9] σ)
 (xF (fFld 0) [(locP 9)] fun v23 =>
xO (gLoad 1 false [v23] c9) fun v24 =>
xF (fFld 0) [(locP 4)] fun v25 =>
xF (fFld 1) [v25] fun v26 =>
xO (gLoad 1 false [v26] c4) fun v27 =>
xF (fBin .geq .no) [v24, v27] fun v28 =>
xF fPick [(.bool false), (.bool true), v28] fun v29 =>
J1 [a2, a3, v29] [c4, c9] σ)) σ
def s_law08_sound : Spec := fun args K σ => match args with
  | [a0, a1, a2, a3] => w_law08_sound a0 a1 a2 a3 K σ
  | _ => False
noncomputable def cx_law08_sound : Cx := { P := Try.prog, T := [(60, .none, s_word_Handle), (37, .none, s_layout_Slot), (19, .read, s_mem_Mem_Peek), (36, .none, s_word_Slot), (61, .none, s_word_Head), (28, .none, s_layout_Of), (20, .none, s_layout_Chunk), (18, .none, s_word_Chunk), (38, .write, s_ref04_Class)], loc := [(4, 4), (9, 9), (11, 11), (12, 12), (14, 14), (23, 9), (25, 4), (26, 4), (30, 4), (32, 4), (34, 9), (39, 4), (41, 11), (45, 11), (49, 11), (51, 9), (56, 11), (63, 9), (65, 9), (76, 4), (78, 11), (85, 4), (87, 4), (89, 4), (91, 11), (97, 14), (101, 14)], eqt := [(108, (.flat [true, true, true, true, false]))], n := 107, keep := [(10, [2, 13], [4, 11]), (1000004, [2, 3, 29], [4, 9]), (1000008, [2, 70], [4, 11]), (1000014, [2], [4, 11])] }
theorem q_law08_sound : FnS cx_law08_sound Try.f39 (bodyOf Try.f39) 4 = s_law08_sound := by
  funext args K σ
  rcases args with _ | ⟨a0, _ | ⟨a1, _ | ⟨a2, _ | ⟨a3, _ | ⟨b, r⟩⟩⟩⟩⟩ <;> kernel_rfl
theorem e_law08_sound : Entry Try.prog 39 .write s_law08_sound :=
  entry (C := cx_law08_sound) (TOk.cons e_word_Handle (TOk.cons e_layout_Slot (TOk.cons e_mem_Mem_Peek (TOk.cons e_word_Slot (TOk.cons e_word_Head (TOk.cons e_layout_Of (TOk.cons e_layout_Chunk (TOk.cons e_word_Chunk (TOk.cons e_ref04_Class TOk.nil))))))))) mixedOk Try.func39 (by kernel_rfl) (by kernel_rfl) (by kernel_rfl) q_law08_sound
attribute [irreducible] w_law08_sound_j3b w_law08_sound_j3 w_law08_sound_l10b w_law08_sound_l10 w_law08_sound_j2b w_law08_sound_j2 w_law08_sound_j1b w_law08_sound_j1 w_law08_sound s_law08_sound
def w_law08_AllocAlone_j3b (K : Value → Mem → Prop) (v14 v19 : Value) (σ : Mem) : Prop :=
xF fMove [v19] fun v158 =>
xF (fBin .gtr .no) [v158, (.int .i64 0)] fun v159 =>
xF fMove [v159] fun v160 =>
xIf v160
 (xF fPick [(.bool true), (.bool true), undef] fun v163 =>
xF fMove [v163] fun v6 =>
K v6 σ)
 (xF fMove [v14] fun v161 =>
xF (fBin .eql .no) [v161, (.int .i64 0)] fun v162 =>
xF fPick [(.bool false), (.bool true), v162] fun v163 =>
xF fMove [v163] fun v6 =>
K v6 σ)
def w_law08_AllocAlone_j3 (K : Value → Mem → Prop) (ts : List Value) (ls : List (List Value)) (σ : Mem) : Prop := w_law08_AllocAlone_j3b K (ts.getD 0 poison) (ts.getD 1 poison) σ
def w_law08_AllocAlone_l31b (K : Value → Mem → Prop) (J3 : List Value → List (List Value) → Mem → Prop) (R1 : List Value → List (List Value) → Mem → Prop) (v8 v12 v14 v19 v20 : Value) (c9 : List Value) (σ : Mem) : Prop :=
xF fMove [v20] fun v133 =>
xF fMove [v8] fun v134 =>
xF (fBin .lss .no) [v133, v134] fun v135 =>
xIf v135
 (xF (fFld 7) [(locP 9)] fun v138 =>
xO (gLoad 1 false [v138] c9) fun v139 =>
xF (fFld 0) [(locP 9)] fun v140 =>
xO (gLoad 7 true [v140] c9) fun v141 =>
xF fMove [v20] fun v142 =>
s_layout_Chunk [v141, v142] (fun v143 σ =>
xF (fBin .add .no) [v143, (.int .i64 1)] fun v144 =>
s_mem_Mem_Peek [v139, v144] (fun v145 σ =>
xF fMove [v12] fun v146 =>
xF fMove [v20] fun v147 =>
xF (fIxS 1) [v146, v147] fun v148 =>
hLoad 1 false [v148] (fun v149 σ =>
xF (fConv .u64) [v149] fun v150 =>
xF (fBin .neq .no) [v145, v150] fun v151 =>
xIf v151
 (xF fMove [(.bool false)] fun v6 =>
K v6 σ)
 (xF fMove [v19] fun v152 =>
xF fMove [v12] fun v153 =>
xF fMove [v20] fun v154 =>
xF (fIxS 1) [v153, v154] fun v155 =>
hLoad 1 false [v155] (fun v156 σ =>
xF (fBin .add .no) [v152, v156] fun v157 =>
xF fMove [v157] fun v19 =>
xF fMove [v20] fun v136 =>
xF (fBin .add .no) [v136, (.int .i64 1)] fun v137 =>
xF fMove [v137] fun v20 =>
R1 [v8, v12, v14, v19, v20] [c9] σ) σ)) σ) σ) σ)
 (J3 [v14, v19] [] σ)
def w_law08_AllocAlone_l31 (K : Value → Mem → Prop) (J3 : List Value → List (List Value) → Mem → Prop) (R1 : List Value → List (List Value) → Mem → Prop) (ts : List Value) (ls : List (List Value)) (σ : Mem) : Prop := w_law08_AllocAlone_l31b K J3 R1 (ts.getD 0 poison) (ts.getD 1 poison) (ts.getD 2 poison) (ts.getD 3 poison) (ts.getD 4 poison) (ls.getD 0 []) σ
def w_law08_AllocAlone_j2b (K : Value → Mem → Prop) (v8 v12 v14 : Value) (c9 : List Value) (σ : Mem) : Prop :=
xF fMove [(.int .i64 0)] fun v19 =>
xJoin (w_law08_AllocAlone_j3 K) fun J3 =>
xF fMove [(.int .i64 0)] fun v20 =>
xLoop (w_law08_AllocAlone_l31 K J3) [v8, v12, v14, v19, v20] [c9] σ
def w_law08_AllocAlone_j2 (K : Value → Mem → Prop) (ts : List Value) (ls : List (List Value)) (σ : Mem) : Prop := w_law08_AllocAlone_j2b K (ts.getD 0 poison) (ts.getD 1 poison) (ts.getD 2 poison) (ls.getD 0 []) σ
def w_law08_AllocAlone_j5b (K : Value → Mem → Prop) (J2 : List Value → List (List Value) → Mem → Prop) (R1 : List Value → List (List Value) → Mem → Prop) (v2 v7 v8 v12 v13 v14 v15 : Value) (c9 c11 : List Value) (σ : Mem) : Prop :=
xF fMove [v15] fun v50 =>
xF (fBin .add .no) [v50, (.int .i64 1)] fun v51 =>
xF fMove [v51] fun v15 =>
R1 [v2, v7, v8, v12, v13, v14, v15] [c9, c11] σ
def w_law08_AllocAlone_j5 (K : Value → Mem → Prop) (J2 : List Value → List (List Value) → Mem → Prop) (R1 : List Value → List (List Value) → Mem → Prop) (ts : List Value) (ls : List (List Value)) (σ : Mem) : Prop := w_law08_AllocAlone_j5b K J2 R1 (ts.getD 0 poison) (ts.getD 1 poison) (ts.getD 2 poison) (ts.getD 3 poison) (ts.getD 4 poison) (ts.getD 5 poison) (ts.getD 6 poison) (ls.getD 0 []) (ls.getD 1 []) σ
def w_law08_AllocAlone_j7b (K : Value → Mem → Prop) (J2 : List Value → List (List Value) → Mem → Prop) (R1 : List Value → List (List Value) → Mem → Prop) (J5 : List Value → List (List Value) → Mem → Prop) (v2 v7 v8 v12 v13 v14 v15 v132 : Value) (c9 c11 : List Value) (σ : Mem) : Prop :=
xIf v132
 (xF fMove [(.bool false)] fun v6 =>
K v6 σ)
 (J5 [v2, v7, v8, v12, v13, v14, v15] [c9, c11] σ)
def w_law08_AllocAlone_j7 (K : Value → Mem → Prop) (J2 : List Value → List (List Value) → Mem → Prop) (R1 : List Value → List (List Value) → Mem → Prop) (J5 : List Value → List (List Value) → Mem → Prop) (ts : List Value) (ls : List (List Value)) (σ : Mem) : Prop := w_law08_AllocAlone_j7b K J2 R1 J5 (ts.getD 0 poison) (ts.getD 1 poison) (ts.getD 2 poison) (ts.getD 3 poison) (ts.getD 4 poison) (ts.getD 5 poison) (ts.getD 6 poison) (ts.getD 7 poison) (ls.getD 0 []) (ls.getD 1 []) σ
def w_law08_AllocAlone_j6b (K : Value → Mem → Prop) (J2 : List Value → List (List Value) → Mem → Prop) (R1 : List Value → List (List Value) → Mem → Prop) (J5 : List Value → List (List Value) → Mem → Prop) (v2 v7 v8 v12 v13 v14 v15 v16 v18 : Value) (c9 c11 c17 : List Value) (σ : Mem) : Prop :=
xF fMove [v12] fun v105 =>
xF fMove [v16] fun v106 =>
xF (fIxA 4 1) [(locP 11), v106] fun v107 =>
xO (gLoad 1 false [v107] c11) fun v108 =>
xF (fIxS 1) [v105, v108] fun v109 =>
hLoad 1 false [v109] (fun v110 σ =>
xF fMove [v18] fun v111 =>
xF (fBin .add .no) [v110, v111] fun v112 =>
xF (fIxS 1) [v105, v108] fun v113 =>
hStore 1 [v113, v112] (fun _v σ =>
xF fMove [v14] fun v114 =>
xF (fBin .add .no) [v114, (.int .i64 1)] fun v115 =>
xF fMove [v115] fun v14 =>
xJoin (w_law08_AllocAlone_j7 K J2 R1 J5) fun J7 =>
xF (fFld 0) [(locP 17)] fun v116 =>
xO (gLoad 1 false [v116] c17) fun v117 =>
xF (fBin .neq .no) [v117, (.int .i64 0)] fun v118 =>
xF fMove [v118] fun v119 =>
xIf v119
 (xF fPick [(.bool true), (.bool true), undef] fun v132 =>
J7 [v2, v7, v8, v12, v13, v14, v15, v132] [c9, c11] σ)
 (xO (gLoad 9 true [(locP 9)] c9) fun v120 =>
xF (fFld 1) [(locP 17)] fun v121 =>
xO (gLoad 1 false [v121] c17) fun v122 =>
xF fMove [v2] fun v123 =>
xF fMove [v15] fun v124 =>
xF (fIxS 1) [v123, v124] fun v125 =>
hLoad 1 false [v125] (fun v126 σ =>
xF fMove [v15] fun v127 =>
xF (fBin .rem .no) [v127, (.int .i64 2)] fun v128 =>
xF (fBin .eql .no) [v128, (.int .i64 0)] fun v129 =>
s_law08_sound [v120, v122, v126, v129] (fun v130 σ =>
xF (fUn .not) [v130] fun v131 =>
xF fPick [(.bool false), (.bool true), v131] fun v132 =>
J7 [v2, v7, v8, v12, v13, v14, v15, v132] [c9, c11] σ) σ) σ)) σ) σ
def w_law08_AllocAlone_j6 (K : Value → Mem → Prop) (J2 : List Value → List (List Value) → Mem → Prop) (R1 : List Value → List (List Value) → Mem → Prop) (J5 : List Value → List (List Value) → Mem → Prop) (ts : List Value) (ls : List (List Value)) (σ : Mem) : Prop := w_law08_AllocAlone_j6b K J2 R1 J5 (ts.getD 0 poison) (ts.getD 1 poison) (ts.getD 2 poison) (ts.getD 3 poison) (ts.getD 4 poison) (ts.getD 5 poison) (ts.getD 6 poison) (ts.getD 7 poison) (ts.getD 8 poison) (ls.getD 0 []) (ls.getD 1 []) (ls.getD 2 []) σ
def w_law08_AllocAlone_j8b (K : Value → Mem → Prop) (J2 : List Value → List (List Value) → Mem → Prop) (R1 : List Value → List (List Value) → Mem → Prop) (J5 : List Value → List (List Value) → Mem → Prop) (J6 : List Value → List (List Value) → Mem → Prop) (v2 v7 v8 v12 v13 v14 v15 v16 v18 v93 : Value) (c9 c11 c17 : List Value) (σ : Mem) : Prop :=
xIf v93
 (xF fMove [v13] fun v94 =>
xF fMove [v8] fun v95 =>
xF (fBin .geq .no) [v94, v95] fun v96 =>
xIf v96
 (xF (fFld 0) [(locP 17)] fun v97 =>
xO (gLoad 1 false [v97] c17) fun v98 =>
xF (fBin .neq .no) [v98, (.int .i64 6)] fun v99 =>
xIf v99
 (xF fMove [(.bool false)] fun v6 =>
K v6 σ)
 (J5 [v2, v7, v8, v12, v13, v14, v15] [c9, c11] σ))
 (xF fMove [v16] fun v100 =>
xF fMove [v13] fun v101 =>
xF (fIxA 4 1) [(locP 11), v100] fun v102 =>
xC (gStore 1 [v102, v101] c11) fun c11 =>
xF fMove [v13] fun v103 =>
xF (fBin .add .no) [v103, (.int .i64 1)] fun v104 =>
xF fMove [v104] fun v13 =>
J6 [v2, v7, v8, v12, v13, v14, v15, v16, v18] [c9, c11, c17] σ))
 (J6 [v2, v7, v8, v12, v13, v14, v15, v16, v18] [c9, c11, c17] σ)
def w_law08_AllocAlone_j8 (K : Value → Mem → Prop) (J2 : List Value → List (List Value) → Mem → Prop) (R1 : List Value → List (List Value) → Mem → Prop) (J5 : List Value → List (List Value) → Mem → Prop) (J6 : List Value → List (List Value) → Mem → Prop) (ts : List Value) (ls : List (List Value)) (σ : Mem) : Prop := w_law08_AllocAlone_j8b K J2 R1 J5 J6 (ts.getD 0 poison) (ts.getD 1 poison) (ts.getD 2 poison) (ts.getD 3 poison) (ts.getD 4 poison) (ts.getD 5 poison) (ts.getD 6 poison) (ts.getD 7 poison) (ts.getD 8 poison) (ts.getD 9 poison) (ls.getD 0 []) (ls.getD 1 []) (ls.getD 2 []) σ
def w_law08_AllocAlone_j4b (K : Value → Mem → Prop) (J2 : List Value → List (List Value) → Mem → Prop) (R1 : List Value → List (List Value) → Mem → Prop) (v2 v7 v8 v12 v13 v14 v15 : Value) (c9 c11 : List Value) (σ : Mem) : Prop :=
xJoin (w_law08_AllocAlone_j5 K J2 R1) fun J5 =>
xF fMove [v2] fun v52 =>
xF fMove [v15] fun v53 =>
xF (fIxS 1) [v52, v53] fun v54 =>
hLoad 1 false [v54] (fun v55 σ =>
s_ref04_Class [v55] (fun v56 σ =>
xF fMove [v56] fun v16 =>
xO (gLoad 9 true [(locP 9)] c9) fun v57 =>
xF fMove [v2] fun v58 =>
xF fMove [v15] fun v59 =>
xF (fIxS 1) [v58, v59] fun v60 =>
hLoad 1 false [v60] (fun v61 σ =>
xF fMove [v15] fun v62 =>
xF (fBin .rem .no) [v62, (.int .i64 2)] fun v63 =>
xF (fBin .eql .no) [v63, (.int .i64 0)] fun v64 =>
s_law08_Make [v57, v61, v64] (fun v65 σ =>
xC (gStore 4 [(locP 17), v65] [(.int .i64 0), (.int .u64 0), (.int .i64 0), (.int .i64 0)]) fun c17 =>
xF fMove [v16] fun v66 =>
xF (fBin .lss .no) [v66, (.int .i64 0)] fun v67 =>
xIf v67
 (xF (fFld 0) [(locP 17)] fun v68 =>
xO (gLoad 1 false [v68] c17) fun v69 =>
xF (fBin .neq .no) [v69, (.int .i64 5)] fun v70 =>
xIf v70
 (xF fMove [(.bool false)] fun v6 =>
K v6 σ)
 (J5 [v2, v7, v8, v12, v13, v14, v15] [c9, c11] σ))
 (xF fMove [v14] fun v71 =>
xF fMove [v7] fun v72 =>
xF (fBin .geq .no) [v71, v72] fun v73 =>
xIf v73
 (xF (fFld 0) [(locP 17)] fun v74 =>
xO (gLoad 1 false [v74] c17) fun v75 =>
xF (fBin .neq .no) [v75, (.int .i64 7)] fun v76 =>
xIf v76
 (xF fMove [(.bool false)] fun v6 =>
K v6 σ)
 (J5 [v2, v7, v8, v12, v13, v14, v15] [c9, c11] σ))
 (xF fMove [v16] fun v77 =>
s_ref04_Room [v77] (fun v78 σ =>
xF fMove [v78] fun v18 =>
xJoin (w_law08_AllocAlone_j6 K J2 R1 J5) fun J6 =>
xJoin (w_law08_AllocAlone_j8 K J2 R1 J5 J6) fun J8 =>
xF fMove [v16] fun v79 =>
xF (fIxA 4 1) [(locP 11), v79] fun v80 =>
xO (gLoad 1 false [v80] c11) fun v81 =>
xF (fBin .lss .no) [v81, (.int .i64 0)] fun v82 =>
xF fMove [v82] fun v83 =>
xIf v83
 (xF fPick [(.bool true), (.bool true), undef] fun v93 =>
J8 [v2, v7, v8, v12, v13, v14, v15, v16, v18, v93] [c9, c11, c17] σ)
 (xF fMove [v12] fun v84 =>
xF fMove [v16] fun v85 =>
xF (fIxA 4 1) [(locP 11), v85] fun v86 =>
xO (gLoad 1 false [v86] c11) fun v87 =>
xF (fIxS 1) [v84, v87] fun v88 =>
hLoad 1 false [v88] (fun v89 σ =>
xF fMove [v18] fun v90 =>
xF (fBin .add .no) [v89, v90] fun v91 =>
xF (fBin .gtr .no) [v91, (.int .i64 20)] fun v92 =>
xF fPick [(.bool false), (.bool true), v92] fun v93 =>
J8 [v2, v7, v8, v12, v13, v14, v15, v16, v18, v93] [c9, c11, c17] σ) σ)) σ))) σ) σ) σ) σ
def w_law08_AllocAlone_j4 (K : Value → Mem → Prop) (J2 : List Value → List (List Value) → Mem → Prop) (R1 : List Value → List (List Value) → Mem → Prop) (ts : List Value) (ls : List (List Value)) (σ : Mem) : Prop := w_law08_AllocAlone_j4b K J2 R1 (ts.getD 0 poison) (ts.getD 1 poison) (ts.getD 2 poison) (ts.getD 3 poison) (ts.getD 4 poison) (ts.getD 5 poison) (ts.getD 6 poison) (ls.getD 0 []) (ls.getD 1 []) σ
def w_law08_AllocAlone_l8b (K : Value → Mem → Prop) (J2 : List Value → List (List Value) → Mem → Prop) (R1 : List Value → List (List Value) → Mem → Prop) (v2 v7 v8 v12 v13 v14 v15 : Value) (c9 c11 : List Value) (σ : Mem) : Prop :=
xJoin (w_law08_AllocAlone_j4 K J2 R1) fun J4 =>
xF fMove [v15] fun v42 =>
xF fMove [v2] fun v43 =>
xF fLen [v43] fun v44 =>
xF (fBin .lss .no) [v42, v44] fun v45 =>
xF fMove [v45] fun v46 =>
xIf v46
 (xF fMove [v15] fun v47 =>
xF (fBin .lss .no) [v47, (.int .i64 40)] fun v48 =>
xF fPick [(.bool true), v48, (.bool false)] fun v49 =>
xIf v49
 (J4 [v2, v7, v8, v12, v13, v14, v15] [c9, c11] σ)
 (J2 [v8, v12, v14] [c9] σ))
 (xF fPick [(.bool false), undef, (.bool false)] fun v49 =>
xIf v49
 (J4 [v2, v7, v8, v12, v13, v14, v15] [c9, c11] σ)
 (J2 [v8, v12, v14] [c9] σ))
def w_law08_AllocAlone_l8 (K : Value → Mem → Prop) (J2 : List Value → List (List Value) → Mem → Prop) (R1 : List Value → List (List Value) → Mem → Prop) (ts : List Value) (ls : List (List Value)) (σ : Mem) : Prop := w_law08_AllocAlone_l8b K J2 R1 (ts.getD 0 poison) (ts.getD 1 poison) (ts.getD 2 poison) (ts.getD 3 poison) (ts.getD 4 poison) (ts.getD 5 poison) (ts.getD 6 poison) (ls.getD 0 []) (ls.getD 1 []) σ
def w_law08_AllocAlone_j1b (K : Value → Mem → Prop) (v2 v7 v8 v38 : Value) (c9 : List Value) (σ : Mem) : Prop :=
xIf v38
 (xF fMove [(.bool false)] fun v6 =>
K v6 σ)
 (xF (fBuild [(0, 1), (1, 1), (2, 1), (3, 1)] [(.int .i64 0), (.int .i64 0), (.int .i64 0), (.int .i64 0)] [0, 1, 2, 3]) [(.int .i64 (-1)), (.int .i64 (-1)), (.int .i64 (-1)), (.int .i64 (-1))] fun v39 =>
xF fMove [v8] fun v40 =>
hMakeS 1 8 [(.int .i64 0)] [v40, v40] (fun v41 σ =>
xC (gStore 4 [(locP 11), v39] [(.int .i64 0), (.int .i64 0), (.int .i64 0), (.int .i64 0)]) fun c11 =>
xF fMove [v41] fun v12 =>
xF fMove [(.int .i64 0)] fun v13 =>
xF fMove [(.int .i64 0)] fun v14 =>
xJoin (w_law08_AllocAlone_j2 K) fun J2 =>
xF fMove [(.int .i64 0)] fun v15 =>
xLoop (w_law08_AllocAlone_l8 K J2) [v2, v7, v8, v12, v13, v14, v15] [c9, c11] σ) σ)
def w_law08_AllocAlone_j1 (K : Value → Mem → Prop) (ts : List Value) (ls : List (List Value)) (σ : Mem) : Prop := w_law08_AllocAlone_j1b K (ts.getD 0 poison) (ts.getD 1 poison) (ts.getD 2 poison) (ts.getD 3 poison) (ls.getD 0 []) σ
def w_law08_AllocAlone (a0 a1 a2 : Value) (K : Value → Mem → Prop) (σ : Mem) : Prop :=
xF fMove [(.bool false)] fun v6 =>
xF fMove [a0] fun v21 =>
xF (fBin .and .no) [v21, (.int .i64 15)] fun v22 =>
xF (fBin .add .no) [(.int .i64 1), v22] fun v23 =>
xF fMove [a1] fun v24 =>
xF (fBin .and .no) [v24, (.int .i64 7)] fun v25 =>
xF (fBin .add .no) [(.int .i64 1), v25] fun v26 =>
xF fMove [v23] fun v7 =>
xF fMove [v26] fun v8 =>
xF fMove [v7] fun v28 =>
xF fMove [v8] fun v29 =>
s_law04_Arena [(.int .i64 1), v28, v29, (.int .i64 20)] (fun v30 σ =>
xF fMove [v30] fun v27 =>
xF (fExt 0) [v27] fun v31 =>
xF (fExt 1) [v27] fun v32 =>
xC (gStore 9 [(locP 9), v31] [(.int .i64 0), (.int .i64 0), (.int .i64 0), (.int .i64 0), (.int .i64 0), (.int .i64 0), (.int .i64 0), (.pointer none), (.int .i64 0)]) fun c9 =>
xF fMove [v32] fun v10 =>
xJoin (w_law08_AllocAlone_j1 K) fun J1 =>
s_law08_awake [] (fun v33 σ =>
xF (fUn .not) [v33] fun v34 =>
xF fMove [v34] fun v35 =>
xIf v35
 (xF fPick [(.bool true), (.bool true), undef] fun v38 =>
J1 [a2, v7, v8, v38] [c9] σ)
 (xF fMove [v10] fun v36 =>
xF (fUn .not) [v36] fun v37 =>
xF fPick [(.bool false), (.bool true), v37] fun v38 =>
J1 [a2, v7, v8, v38] [c9] σ)) σ) σ
def s_law08_AllocAlone : Spec := fun args K σ => match args with
  | [a0, a1, a2] => w_law08_AllocAlone a0 a1 a2 K σ
  | _ => False
noncomputable def cx_law08_AllocAlone : Cx := { P := Try.prog, T := [(13, .write, s_law04_Arena), (31, .none, s_law08_awake), (38, .write, s_ref04_Class), (32, .write, s_law08_Make), (15, .write, s_ref04_Room), (39, .write, s_law08_sound), (20, .none, s_layout_Chunk), (19, .read, s_mem_Mem_Peek)], loc := [(9, 9), (11, 11), (17, 17), (68, 17), (74, 17), (80, 11), (86, 11), (97, 17), (102, 11), (107, 11), (116, 17), (121, 17), (138, 9), (140, 9)], eqt := [], n := 164, keep := [(8, [2, 7, 8, 12, 13, 14, 15], [9, 11]), (31, [8, 12, 14, 19, 20], [9]), (1000005, [2, 7, 8, 38], [9]), (1000009, [2, 7, 8, 12, 13, 14, 15], [9, 11]), (1000010, [2, 7, 8, 12, 13, 14, 15], [9, 11]), (1000020, [2, 7, 8, 12, 13, 14, 15, 16, 18, 93], [9, 11, 17]), (1000025, [2, 7, 8, 12, 13, 14, 15, 16, 18], [9, 11, 17]), (1000028, [2, 7, 8, 12, 13, 14, 15, 132], [9, 11]), (1000029, [8, 12, 14], [9]), (1000036, [14, 19], [])] }
theorem q_law08_AllocAlone : FnS cx_law08_AllocAlone Try.f11 (bodyOf Try.f11) 3 = s_law08_AllocAlone := by
  funext args K σ
  rcases args with _ | ⟨a0, _ | ⟨a1, _ | ⟨a2, _ | ⟨b, r⟩⟩⟩⟩ <;> kernel_rfl
theorem e_law08_AllocAlone : Entry Try.prog 11 .write s_law08_AllocAlone :=
  entry (C := cx_law08_AllocAlone) (TOk.cons e_law04_Arena (TOk.cons e_law08_awake (TOk.cons e_ref04_Class (TOk.cons e_law08_Make (TOk.cons e_ref04_Room (TOk.cons e_law08_sound (TOk.cons e_layout_Chunk (TOk.cons e_mem_Mem_Peek TOk.nil)))))))) mixedOk Try.func11 (by kernel_rfl) (by kernel_rfl) (by kernel_rfl) q_law08_AllocAlone
attribute [irreducible] w_law08_AllocAlone_j3b w_law08_AllocAlone_j3 w_law08_AllocAlone_l31b w_law08_AllocAlone_l31 w_law08_AllocAlone_j2b w_law08_AllocAlone_j2 w_law08_AllocAlone_j5b w_law08_AllocAlone_j5 w_law08_AllocAlone_j7b w_law08_AllocAlone_j7 w_law08_AllocAlone_j6b w_law08_AllocAlone_j6 w_law08_AllocAlone_j8b w_law08_AllocAlone_j8 w_law08_AllocAlone_j4b w_law08_AllocAlone_j4 w_law08_AllocAlone_l8b w_law08_AllocAlone_l8 w_law08_AllocAlone_j1b w_law08_AllocAlone_j1 w_law08_AllocAlone s_law08_AllocAlone
end Go.Fl
namespace Go.Fl
open Go
set_option linter.unusedVariables false
set_option linter.unusedSimpArgs false
theorem Mem.set_set (σ : Mem) (i : Nat) (a b : Blk) : (σ.set i a).set i b = σ.set i b := by
  apply Mem.ext'; funext j; simp only [Mem.set]; split <;> rfl
theorem Mem.set_self {σ : Mem} {i : Nat} {b : Blk} (h : σ.get i = some b) : σ.set i b = σ := by
  apply Mem.ext'; funext j; simp only [Mem.set]; split
  · rename_i e; rw [e, h]
  · rfl
theorem Mem.set_comm (σ : Mem) {i j : Nat} (a b : Blk) (h : i ≠ j) : (σ.set i a).set j b = (σ.set j b).set i a := by
  apply Mem.ext'; funext k; simp only [Mem.set]
  by_cases h1 : k = j <;> by_cases h2 : k = i <;> simp [h1, h2]
  · exact absurd (h2.symm.trans h1) h
  · intro e; exact absurd e.symm h
  · intro e; exact absurd e h
@[simp] theorem Mem.get_set_same (σ : Mem) (i : Nat) (b : Blk) : (σ.set i b).get i = some b := by simp [Mem.set]
theorem Mem.get_set_ne (σ : Mem) {i j : Nat} (b : Blk) (h : j ≠ i) : (σ.set i b).get j = σ.get j := by simp [Mem.set, h]
theorem nr {α : Sort _} {a b : α} (h : a = b) : a = b := h
section
variable {K : Value → Prop} {x y z : Value} {b o off : Nat} {q : Option Nat} {k k' : IntKind} {a c : Int} {Q : EqK}
theorem xMove : xF fMove [x] K = K x := nr rfl
theorem xPickT : xF fPick [.bool true, x, y] K = K x := nr rfl
theorem xPickF : xF fPick [.bool false, x, y] K = K y := nr rfl
theorem xNil {p : Addr} : xF fNil [.pointer (some p)] K = K (.pointer (some p)) := nr rfl
theorem xFld {p : Addr} : xF (fFld off) [.pointer (some p)] K = K (.pointer (some ⟨p.block, p.off + off, p.spot⟩)) := nr rfl
theorem xExt0 : xF (fExt 0) [.tuple #[x, y]] K = K x := nr rfl
theorem xExt1 : xF (fExt 1) [.tuple #[x, y]] K = K y := nr rfl
theorem xExt30 : xF (fExt 0) [.tuple #[x, y, z]] K = K x := nr rfl
theorem xExt31 : xF (fExt 1) [.tuple #[x, y, z]] K = K y := nr rfl
theorem xExt32 : xF (fExt 2) [.tuple #[x, y, z]] K = K z := nr rfl
theorem xAdd : xF (fBin .add Q) [.int k a, .int k c] K = K (.int k (k.wrap (a + c))) := by simp [xF, fBin, isSh, binI]
theorem xSub : xF (fBin .sub Q) [.int k a, .int k c] K = K (.int k (k.wrap (a - c))) := by simp [xF, fBin, isSh, binI]
theorem xMul : xF (fBin .mul Q) [.int k a, .int k c] K = K (.int k (k.wrap (a * c))) := by simp [xF, fBin, isSh, binI]
theorem xQuo (h : c ≠ 0) : xF (fBin .quo Q) [.int k a, .int k c] K = K (.int k (k.wrap (a.tdiv c))) := by simp [xF, fBin, isSh, binI, h]
theorem xRem (h : c ≠ 0) : xF (fBin .rem Q) [.int k a, .int k c] K = K (.int k (a.tmod c)) := by simp [xF, fBin, isSh, binI, h]
theorem xEql : xF (fBin .eql Q) [.int k a, .int k c] K = K (.bool (decide (a = c))) := by
  simp only [xF, fBin, isSh, binI]
  simp only [Bool.false_eq_true, if_false, if_true]
  congr 2
theorem xNeq : xF (fBin .neq Q) [.int k a, .int k c] K = K (.bool (decide (a ≠ c))) := by
  simp only [xF, fBin, isSh, binI]
  simp only [Bool.false_eq_true, if_false, if_true]
  congr 2
  by_cases h : a = c <;> simp [h]
theorem xLss : xF (fBin .lss Q) [.int k a, .int k c] K = K (.bool (decide (a < c))) := by simp [xF, fBin, isSh, binI]
theorem xLeq : xF (fBin .leq Q) [.int k a, .int k c] K = K (.bool (decide (a ≤ c))) := by simp [xF, fBin, isSh, binI]
theorem xGtr : xF (fBin .gtr Q) [.int k a, .int k c] K = K (.bool (decide (c < a))) := by simp [xF, fBin, isSh, binI]
theorem xGeq : xF (fBin .geq Q) [.int k a, .int k c] K = K (.bool (decide (c ≤ a))) := by simp [xF, fBin, isSh, binI]
theorem xEqPN {p : Addr} : xF (fBin .eql .ptr) [.pointer (some p), .pointer none] K = K (.bool false) := nr rfl
theorem xEqNN : xF (fBin .eql .ptr) [.pointer none, .pointer none] K = K (.bool true) := nr rfl
theorem xNePN {p : Addr} : xF (fBin .neq .ptr) [.pointer (some p), .pointer none] K = K (.bool true) := nr rfl
theorem xNeNN : xF (fBin .neq .ptr) [.pointer none, .pointer none] K = K (.bool false) := nr rfl
theorem xEqBB {u v : Bool} : xF (fBin .eql .bool) [.bool u, .bool v] K = K (.bool (u == v)) := nr rfl
theorem xNeBB {u v : Bool} : xF (fBin .neq .bool) [.bool u, .bool v] K = K (.bool (!(u == v))) := nr rfl
theorem xNot {u : Bool} : xF (fUn .not) [.bool u] K = K (.bool (!u)) := by simp [xF, fUn]
theorem xConv : xF (fConv k) [.int k' a] K = K (.int k (k.wrap a)) := nr rfl
theorem xLen {p : Option Addr} {n m : Nat} : xF fLen [.slice p n m] K = K (.int .i64 n) := nr rfl
theorem xMin : xF fMin [.int k a, .int k c] K = K (.int k (min a c)) := by
  show K (.int k (if c < a then c else a)) = _
  congr 2; split <;> omega
theorem xMax : xF fMax [.int k a, .int k c] K = K (.int k (max a c)) := by
  show K (.int k (if c > a then c else a)) = _
  congr 2; split <;> omega
theorem xIfc {t : TypeId} : xF (fIface t) [x] K = K (.iface t x) := nr rfl
theorem xIxS {p : Addr} {n m es : Nat} (h0 : 0 ≤ a) (h1 : a < n) : xF (fIxS es) [.slice (some p) n m, .int k a] K = K (.pointer (some ⟨p.block, p.off + a.toNat * es, p.spot⟩)) := by
  simp only [xF, fIxS, if_pos (And.intro h0 h1)]; rfl
theorem xIxA {p : Addr} {n es : Nat} (h0 : 0 ≤ a) (h1 : a < n) : xF (fIxA n es) [.pointer (some p), .int k a] K = K (.pointer (some ⟨p.block, p.off + a.toNat * es, p.spot⟩)) := by
  simp only [xF, fIxA, if_pos (And.intro h0 h1)]; rfl
theorem xFldV {cs : Array Value} {sz : Nat} {ag : Bool} : xF (fFldV off sz ag) [.agg cs] K = xO (sub cs.toList off sz ag) K := nr rfl
end
theorem xIfT {A B : Prop} : xIf (.bool true) A B = A := nr rfl
theorem xIfF {A B : Prop} : xIf (.bool false) A B = B := nr rfl
theorem xIfD {A B : Prop} {p : Prop} [Decidable p] : xIf (.bool (decide p)) A B = if p then A else B := by
  by_cases h : p <;> simp [xIf, h]
theorem xIfB {A B : Prop} {u : Bool} : xIf (.bool u) A B = if u = true then A else B := by cases u <;> rfl
theorem xJoinE {F : List Value → List (List Value) → Mem → Prop} {G : (List Value → List (List Value) → Mem → Prop) → Prop} : xJoin F G = G F := nr rfl
theorem xOs {v : Value} {K : Value → Prop} : xO (some v) K = K v := nr rfl
theorem xCs {c : List Value} {K : List Value → Prop} : xC (some c) K = K c := nr rfl
theorem sub_one {cs : List Value} {o : Nat} {v : Value} (h : cs[o]? = some v) : sub cs o 1 false = some v := by
  have : o < cs.length := (List.getElem?_eq_some_iff.1 h).1
  simp [sub, h, show o + 1 ≤ cs.length by omega]
theorem lay_one {cs : List Value} {o : Nat} {v : Value} : lay cs o [v] = cs.take o ++ v :: cs.drop (o + 1) := by simp [lay]
theorem lay_set {cs : List Value} {o : Nat} {v : Value} (h : o < cs.length) : lay cs o [v] = cs.set o v := by
  rw [lay_one, List.set_eq_take_append_cons_drop, if_pos h]
theorem hLoad_eq {sz b o : Nat} {ag : Bool} {K : Value → Mem → Prop} {σ : Mem} {cs : List Value} {rw : Bool} (h : σ.get b = some ⟨cs, rw⟩) :
    hLoad sz ag [.pointer (some ⟨b, o, none⟩)] K σ = xO (sub cs o sz ag) (fun v => K v σ) := by
  simp only [hLoad, rd, h]
  cases sub cs o sz ag <;> rfl
theorem hStore_eq {sz b o : Nat} {K : Value → Mem → Prop} {σ : Mem} {cs c : List Value} {x : Value} (h : σ.get b = some ⟨cs, true⟩) (hc : cellsOf x sz = some c)
    (hl : o + sz ≤ cs.length) (ho : c.all oneB = true) : hStore sz [.pointer (some ⟨b, o, none⟩), x] K σ = K undef (σ.set b ⟨lay cs o c, true⟩) := by
  simp only [hStore, wr, h, hc]
  rw [if_pos ⟨trivial, hl, ho⟩]
def upd (f : Int → Int) (a v : Int) : Int → Int := fun i => if i = a then v else f i
theorem upd_same (f : Int → Int) (a v : Int) : upd f a v a = v := by simp [upd]
theorem upd_ne (f : Int → Int) {a i : Int} (v : Int) (h : i ≠ a) : upd f a v i = f i := by simp [upd, h]
def cells (k : IntKind) (n : Nat) (f : Int → Int) : List Value := (List.range n).map fun i : Nat => Value.int k (f (i : Int))
@[simp] theorem cells_len (k : IntKind) (n : Nat) (f : Int → Int) : (cells k n f).length = n := by simp [cells]
theorem cells_get (k : IntKind) {n : Nat} (f : Int → Int) {a : Int} (h0 : 0 ≤ a) (h1 : a < n) : (cells k n f)[a.toNat]? = some (.int k (f a)) := by
  have : a.toNat < n := by omega
  simp only [cells, List.getElem?_map, List.getElem?_range this, Option.map_some]
  rw [show ((a.toNat : Nat) : Int) = a by omega]
theorem cells_set (k : IntKind) {n : Nat} (f : Int → Int) {a : Int} (v : Int) (h0 : 0 ≤ a) (h1 : a < n) : (cells k n f).set a.toNat (.int k v) = cells k n (upd f a v) := by
  apply List.ext_getElem?
  intro i
  rw [List.getElem?_set]
  by_cases hi : i < n
  · simp only [cells, List.getElem?_map, List.getElem?_range hi, Option.map_some, List.length_map, List.length_range]
    by_cases e : a.toNat = i
    · subst e
      rw [if_pos rfl, if_pos hi]
      simp [upd]
      intro hc; omega
    · rw [if_neg e]
      have : (i : Int) ≠ a := by omega
      simp [upd, this]
  · have h2 : ¬ a.toNat = i := by omega
    rw [if_neg h2]
    simp [cells, hi]
theorem cells_sub (k : IntKind) {n : Nat} (f : Int → Int) {a : Int} (h0 : 0 ≤ a) (h1 : a < n) : sub (cells k n f) (0 + a.toNat * 1) 1 false = some (.int k (f a)) := by
  rw [show 0 + a.toNat * 1 = a.toNat by omega]
  exact sub_one (cells_get k f h0 h1)
theorem cells_lay (k : IntKind) {n : Nat} (f : Int → Int) {a : Int} (v : Int) (h0 : 0 ≤ a) (h1 : a < n) : lay (cells k n f) (0 + a.toNat * 1) [.int k v] = cells k n (upd f a v) := by
  rw [show 0 + a.toNat * 1 = a.toNat by omega, lay_set (by simp; omega), cells_set k f v h0 h1]
theorem cells_repl (k : IntKind) (n : Nat) : (List.replicate n [Value.int k 0]).flatten = cells k n fun _ => 0 := by
  rw [List.flatten_replicate_singleton]
  apply List.ext_getElem?
  intro i
  by_cases hi : i < n
  · simp [cells, hi, List.getElem?_replicate, List.getElem?_range hi]
  · simp [cells, hi, List.getElem?_replicate]
theorem locP_e (k : Nat) : locP k = .pointer (some ⟨k, 0, some 0⟩) := nr rfl
theorem gBox_a {cs : List Value} {sz : Nat} {l : List Value} (h : cs.length = sz) : gBox sz [.agg cs.toArray] l = some cs := by
  subst h
  show cellsOf (.agg cs.toArray) _ = _
  simp [cellsOf]
theorem gBox_i {k : IntKind} {n : Int} {l : List Value} : gBox 1 [.int k n] l = some [.int k n] := nr rfl
theorem gBox_b {b : Bool} {l : List Value} : gBox 1 [.bool b] l = some [.bool b] := nr rfl
theorem gBox_p {p : Option Addr} {l : List Value} : gBox 1 [.pointer p] l = some [.pointer p] := nr rfl
theorem gLoad_s {sz k o : Nat} {ag : Bool} {q : Option Nat} {cs : List Value} : gLoad sz ag [.pointer (some ⟨k, o, q⟩)] cs = sub cs o sz ag := nr rfl
theorem gAlloc_s {z l : List Value} : gAlloc z [] l = some z := nr rfl
theorem gStore_a {sz k o : Nat} {q : Option Nat} {c cs : List Value} (h : c.length = sz) (hl : o + sz ≤ cs.length) (ho : c.all oneB = true) :
    gStore sz [.pointer (some ⟨k, o, q⟩), .agg c.toArray] cs = some (lay cs o c) := by
  subst h
  have : cellsOf (.agg c.toArray) c.length = some c := by simp [cellsOf]
  simp only [gStore, this]
  rw [if_pos ⟨hl, ho⟩]
theorem gStore_1 {k o : Nat} {q : Option Nat} {x : Value} {cs : List Value} (h : cellsOf x 1 = some [x]) (hl : o + 1 ≤ cs.length) (ho : oneB x = true) :
    gStore 1 [.pointer (some ⟨k, o, q⟩), x] cs = some (lay cs o [x]) := by
  simp only [gStore, h]
  rw [if_pos ⟨hl, by simp [ho]⟩]
theorem gStore_i {k o : Nat} {q : Option Nat} {kd : IntKind} {n : Int} {cs : List Value} (hl : o + 1 ≤ cs.length) :
    gStore 1 [.pointer (some ⟨k, o, q⟩), .int kd n] cs = some (lay cs o [.int kd n]) := gStore_1 rfl hl rfl
theorem gStore_b {k o : Nat} {q : Option Nat} {b : Bool} {cs : List Value} (hl : o + 1 ≤ cs.length) :
    gStore 1 [.pointer (some ⟨k, o, q⟩), .bool b] cs = some (lay cs o [.bool b]) := gStore_1 rfl hl rfl
theorem gStore_p {k o : Nat} {q : Option Nat} {p : Option Addr} {cs : List Value} (hl : o + 1 ≤ cs.length) :
    gStore 1 [.pointer (some ⟨k, o, q⟩), .pointer p] cs = some (lay cs o [.pointer p]) := gStore_1 rfl hl rfl
theorem sub_z {x : Value} {cs : List Value} : sub (x :: cs) 0 1 false = some x := by simp [sub]
theorem sub_s {x : Value} {cs : List Value} {n : Nat} : sub (x :: cs) (n + 1) 1 false = sub cs n 1 false := by
  simp only [sub, List.length_cons]
  by_cases h : n + 1 ≤ cs.length
  · rw [if_pos h, if_pos (by omega)]; simp
  · rw [if_neg h, if_neg (by omega)]
theorem sub_l {cs : List Value} {o sz : Nat} : sub cs o sz true = if o + sz ≤ cs.length then some (.agg ((cs.drop o).take sz).toArray) else none := by simp [sub]
theorem oneB_i {k : IntKind} {n : Int} : oneB (.int k n) = true := nr rfl
theorem oneB_b {b : Bool} : oneB (.bool b) = true := nr rfl
theorem oneB_p {p : Option Addr} : oneB (.pointer p) = true := nr rfl
theorem oneB_sl {p : Option Addr} {n c : Nat} : oneB (.slice p n c) = true := nr rfl
theorem lay_z {cs vs : List Value} : lay cs 0 vs = vs ++ cs.drop vs.length := by simp [lay]
theorem lay_s {x : Value} {cs vs : List Value} {n : Nat} : lay (x :: cs) (n + 1) vs = x :: lay cs n vs := by
  simp only [lay, List.take_succ_cons, List.cons_append]
  rw [show n + 1 + vs.length = (n + vs.length) + 1 by omega, List.drop_succ_cons]
def SlW (w : World) (ks : List (Option IntKind)) (v : Value) : Prop := v = .slice none 0 0 ∨ ∃ (a : Addr) (len cap : Nat) (cells : List Value), v = .slice (some a) len cap ∧ len ≤ cap ∧ cap ≤ maxLen ∧
  FlatL (List.replicate len ks).flatten cells ∧ (cap = 0 ∨ InW w a (cap * ks.length) (len * ks.length) cells)
theorem Opn.sl {w : World} {ρ : Ren} {σ : Mem} {avs avs' : List Value} {v : Value} {ks : List (Option IntKind)} (h : Opn w ρ σ avs avs') (hv : SlW w ks v) :
    ∃ ρ' σ' s n cs, Opn w ρ' σ' (s :: avs) (v :: avs') ∧ Sl σ' ks.length n cs s ∧ n ≤ maxLen ∧ FlatL (List.replicate n ks).flatten cs ∧ ∀ i b, σ.get i = some b → σ'.get i = some b := by
  rcases hv with rfl | ⟨a, len, cap, cs, rfl, h1, h2, h3, h4⟩
  · exact ⟨ρ, σ, _, 0, [], h.nilS, .nil, Nat.zero_le _, .nil, fun _ _ q => q⟩
  · obtain ⟨ρ', σ', s, o, sl, ext⟩ := h.slice (es := ks.length) h1 h3 (by simp) h4
    exact ⟨ρ', σ', s, len, cs, o, sl, Nat.le_trans h1 h2, h3, ext⟩
theorem FlatL.ints {k : IntKind} : ∀ {n : Nat} {cs : List Value}, FlatL (List.replicate n [some k]).flatten cs → ∃ f : Int → Int, cs = cells k n f ∧ ∀ i, (Lit.int k (f i)).wf = true
  | 0, cs, h => by
    cases h
    refine ⟨fun _ => 0, rfl, fun i => ?_⟩
    show (Lit.int k 0).wf = true
    cases k <;> decide
  | n + 1, cs, h => by
    have e : (List.replicate (n + 1) [some k]).flatten = some k :: (List.replicate n [some k]).flatten := by simp [List.replicate_succ]
    rw [e] at h
    cases h with
    | cons h1 h2 =>
      obtain ⟨m, rfl, hm⟩ := h1
      obtain ⟨f, rfl, hf⟩ := FlatL.ints h2
      refine ⟨fun i => if i = 0 then m else f (i - 1), ?_, fun i => ?_⟩
      · simp only [cells, List.range_succ_eq_map, List.map_cons, List.map_map]
        congr 1
        apply List.map_congr_left
        intro i _
        simp only [Function.comp]
        rw [if_neg (by omega)]
        congr 2; omega
      · dsimp only; split
        · exact hm
        · exact hf _
end Go.Fl
namespace Go.Fl
open Go
set_option linter.unusedVariables false
set_option linter.unusedSimpArgs false
structure Ar where
  n : Nat
  w : Int → Int
  t : Int → Int
  s : Int
  who : Int
  la : Int
  lw : Int
  lc : Bool
structure Nm where
  m : Nat
  w : Nat
  t : Nat
def Ar.mc (N : Nm) (A : Ar) : List Value := [.slice (some ⟨N.w, 0, none⟩) A.n 1, .slice (some ⟨N.t, 0, none⟩) A.n 1, .int .i64 A.s, .int .i64 A.who, .int .i64 A.la, .int .i64 A.lw, .bool A.lc]
def Ar.wb (A : Ar) : Blk := ⟨cells .u64 A.n A.w, true⟩
def Ar.tb (A : Ar) : Blk := ⟨cells .i64 A.n A.t, true⟩
structure Nm.ok (N : Nm) : Prop where
  mw : N.m ≠ N.w
  mt : N.m ≠ N.t
  wt : N.w ≠ N.t
def putA (N : Nm) (A : Ar) (σ : Mem) : Mem := ((σ.set N.t A.tb).set N.w A.wb).set N.m ⟨A.mc N, true⟩
variable {N : Nm} {A B : Ar} {σ : Mem} {K : Value → Mem → Prop}
theorem putA_m : (putA N A σ).get N.m = some ⟨A.mc N, true⟩ := by simp [putA]
theorem putA_w (h : N.ok) : (putA N A σ).get N.w = some A.wb := by simp [putA, Mem.get_set, h.mw.symm]
theorem putA_t (h : N.ok) : (putA N A σ).get N.t = some A.tb := by simp [putA, Mem.get_set, h.mt.symm, h.wt.symm]
theorem putA_ne {i : Nat} (h1 : i ≠ N.m) (h2 : i ≠ N.w) (h3 : i ≠ N.t) : (putA N A σ).get i = σ.get i := by simp [putA, Mem.get_set, h1, h2, h3]
theorem putA_set {p : Nat} {c : Blk} (h1 : p ≠ N.m) (h2 : p ≠ N.w) (h3 : p ≠ N.t) : (putA N A σ).set p c = putA N A (σ.set p c) := by
  simp only [putA]
  rw [Mem.set_comm _ _ _ h1.symm, Mem.set_comm _ _ _ h2.symm, Mem.set_comm _ _ _ h3.symm]
def Ar.by (A : Ar) (who : Int) : Ar := { A with who := who }
def Ar.step (A : Ar) (a : Int) : Ar := { A with s := IntKind.i64.wrap (A.s + 1), la := a, lw := A.who, lc := false }
def Ar.lay (A : Ar) (a v : Int) : Ar := { A with lc := decide (A.w a ≠ v), t := if A.w a ≠ v then upd A.t a A.s else A.t, w := upd A.w a v }
def Ar.tick (A : Ar) : Ar := { A with s := IntKind.i64.wrap (A.s + 1) }
def Ar.lst (A : Ar) (a : Int) : Ar := { A with la := a, lw := A.who, lc := false }
def Ar.chg (A : Ar) (c : Bool) : Ar := { A with lc := c }
def Ar.setW (A : Ar) (a v : Int) : Ar := { A with w := upd A.w a v }
def Ar.setT (A : Ar) (a v : Int) : Ar := { A with t := upd A.t a v }
theorem putA_setM (h : A.n = B.n) (hw : A.w = B.w) (ht : A.t = B.t) : (putA N A σ).set N.m ⟨B.mc N, true⟩ = putA N B σ := by
  simp only [putA, Mem.set_set, Ar.wb, Ar.tb, h, hw, ht]
theorem ldM0 : hLoad 1 false [.pointer (some ⟨N.m, 0, none⟩)] K (putA N A σ) = K (.slice (some ⟨N.w, 0, none⟩) A.n 1) (putA N A σ) := (hLoad_eq putA_m).trans rfl
theorem ldM1 : hLoad 1 false [.pointer (some ⟨N.m, 1, none⟩)] K (putA N A σ) = K (.slice (some ⟨N.t, 0, none⟩) A.n 1) (putA N A σ) := (hLoad_eq putA_m).trans rfl
theorem ldM2 : hLoad 1 false [.pointer (some ⟨N.m, 2, none⟩)] K (putA N A σ) = K (.int .i64 A.s) (putA N A σ) := (hLoad_eq putA_m).trans rfl
theorem ldM3 : hLoad 1 false [.pointer (some ⟨N.m, 3, none⟩)] K (putA N A σ) = K (.int .i64 A.who) (putA N A σ) := (hLoad_eq putA_m).trans rfl
theorem ldM6 : hLoad 1 false [.pointer (some ⟨N.m, 6, none⟩)] K (putA N A σ) = K (.bool A.lc) (putA N A σ) := (hLoad_eq putA_m).trans rfl
theorem stM2 : hStore 1 [.pointer (some ⟨N.m, 2, none⟩), .int .i64 (IntKind.i64.wrap (A.s + 1))] K (putA N A σ) = K undef (putA N A.tick σ) := by
  rw [hStore_eq putA_m rfl (by simp [Ar.mc]) rfl]
  exact congrArg _ (putA_setM (B := A.tick) rfl rfl rfl)
theorem stM3 {who : Int} : hStore 1 [.pointer (some ⟨N.m, 3, none⟩), .int .i64 who] K (putA N A σ) = K undef (putA N (A.by who) σ) := by
  rw [hStore_eq putA_m rfl (by simp [Ar.mc]) rfl]
  exact congrArg _ (putA_setM (B := A.by who) rfl rfl rfl)
theorem stM4 {a : Int} : hStore 3 [.pointer (some ⟨N.m, 4, none⟩), .agg #[.int .i64 a, .int .i64 A.who, .bool false]] K (putA N A σ) = K undef (putA N (A.lst a) σ) := by
  rw [hStore_eq putA_m rfl (by simp [Ar.mc]) rfl]
  exact congrArg _ (putA_setM (B := A.lst a) rfl rfl rfl)
theorem stM6 {c : Bool} : hStore 1 [.pointer (some ⟨N.m, 6, none⟩), .bool c] K (putA N A σ) = K undef (putA N (A.chg c) σ) := by
  rw [hStore_eq putA_m rfl (by simp [Ar.mc]) rfl]
  exact congrArg _ (putA_setM (B := A.chg c) rfl rfl rfl)
theorem ldW (h : N.ok) {a : Int} (h0 : 0 ≤ a) (h1 : a < A.n) : hLoad 1 false [.pointer (some ⟨N.w, a.toNat * 1, none⟩)] K (putA N A σ) = K (.int .u64 (A.w a)) (putA N A σ) := by
  rw [hLoad_eq (putA_w h)]
  have := cells_sub .u64 A.w h0 h1
  rw [Nat.zero_add] at this
  rw [this, xOs]
theorem stW (h : N.ok) {a v : Int} (h0 : 0 ≤ a) (h1 : a < A.n) : hStore 1 [.pointer (some ⟨N.w, a.toNat * 1, none⟩), .int .u64 v] K (putA N A σ) = K undef (putA N (A.setW a v) σ) := by
  have := cells_lay .u64 A.w v h0 h1
  rw [Nat.zero_add] at this
  rw [hStore_eq (putA_w h) rfl (by simp; omega) rfl, this]
  refine congrArg _ ?_
  simp only [putA]
  rw [Mem.set_comm _ _ _ h.mw, Mem.set_set]; rfl
theorem stT (h : N.ok) {a v : Int} (h0 : 0 ≤ a) (h1 : a < A.n) : hStore 1 [.pointer (some ⟨N.t, a.toNat * 1, none⟩), .int .i64 v] K (putA N A σ) = K undef (putA N (A.setT a v) σ) := by
  have := cells_lay .i64 A.t v h0 h1
  rw [Nat.zero_add] at this
  rw [hStore_eq (putA_t h) rfl (by simp; omega) rfl, this]
  refine congrArg _ ?_
  simp only [putA]
  rw [Mem.set_comm _ _ _ h.mt, Mem.set_comm _ _ _ h.wt, Mem.set_set]; rfl
theorem xBuildLast {a b : Int} {K : Value → Prop} : xF (fBuild [(0, 1), (1, 1), (2, 1)] [.int .i64 0, .int .i64 0, .bool false] [0, 1]) [.int .i64 a, .int .i64 b] K = K (.agg #[.int .i64 a, .int .i64 b, .bool false]) := rfl
def Nm.p (N : Nm) : Value := .pointer (some ⟨N.m, 0, none⟩)
theorem c_By {who : Int} : s_mem_Mem_By [N.p, .int .i64 who] K (putA N A σ) = K (.tuple #[]) (putA N (A.by who) σ) := by
  simp only [s_mem_Mem_By, w_mem_Mem_By, Nm.p, stM3, xMove, xPickT, xPickF, xNil, xFld, xExt0, xExt1, xExt30, xExt31, xExt32, xAdd, xSub, xMul, xEql, xNeq, xLss, xLeq, xGtr, xGeq, xEqPN, xEqNN, xNePN, xNeNN, xEqBB, xNeBB, xNot, xConv, xLen, xMin, xMax, xIfc, xIfT, xIfF, xIfD, xJoinE, xOs, xCs, xFldV, List.getD_cons_zero, List.getD_cons_succ, Nat.zero_add, Nat.reduceAdd, Mem.get_set_same, Mem.set_set, if_true, if_false, Bool.not_true, Bool.not_false, decide_true, decide_false, decide_eq_true_eq, decide_not, Bool.not_eq_true, Bool.false_eq_true, reduceIte, Int.reduceLT, Int.reduceLE, Int.reduceEq, Int.reduceNeg, Int.reduceAdd, Int.reduceSub]
theorem c_step {a : Int} (h0 : 0 ≤ a) (h1 : a < A.n) : s_mem_Mem_step [N.p, .int .i64 a] K (putA N A σ) = K (.bool true) (putA N (A.step a) σ) := by
  simp only [s_mem_Mem_step, w_mem_Mem_step, w_mem_Mem_step_j1, w_mem_Mem_step_j1b, Nm.p, ldM0, ldM2, ldM3, stM2, stM4, xBuildLast, xMove, xPickT, xPickF, xNil, xFld, xExt0, xExt1, xExt30, xExt31, xExt32, xAdd, xSub, xMul, xEql, xNeq, xLss, xLeq, xGtr, xGeq, xEqPN, xEqNN, xNePN, xNeNN, xEqBB, xNeBB, xNot, xConv, xLen, xMin, xMax, xIfc, xIfT, xIfF, xIfD, xJoinE, xOs, xCs, xFldV, List.getD_cons_zero, List.getD_cons_succ, Nat.zero_add, Nat.reduceAdd, Mem.get_set_same, Mem.set_set, if_true, if_false, Bool.not_true, Bool.not_false, decide_true, decide_false, decide_eq_true_eq, decide_not, Bool.not_eq_true, Bool.false_eq_true, reduceIte, Int.reduceLT, Int.reduceLE, Int.reduceEq, Int.reduceNeg, Int.reduceAdd, Int.reduceSub]
  rw [if_neg (by omega), if_neg (by omega)]
  rfl
theorem c_set (h : N.ok) {a v : Int} (h0 : 0 ≤ a) (h1 : a < A.n) : s_mem_Mem_set [N.p, .int .i64 a, .int .u64 v] K (putA N A σ) = K (.tuple #[]) (putA N (A.lay a v) σ) := by
  have h2 : ∀ c, a < (A.chg c).n := fun _ => h1
  simp only [s_mem_Mem_set, w_mem_Mem_set, w_mem_Mem_set_j1, w_mem_Mem_set_j1b, Nm.p, ldM0, ldM1, ldM2, ldM6, stM6, xIxS h0 h1, xIxS h0 (h2 _), ldW h h0 h1, xMove, xPickT, xPickF, xNil, xFld, xExt0, xExt1, xExt30, xExt31, xExt32, xAdd, xSub, xMul, xEql, xNeq, xLss, xLeq, xGtr, xGeq, xEqPN, xEqNN, xNePN, xNeNN, xEqBB, xNeBB, xNot, xConv, xLen, xMin, xMax, xIfc, xIfT, xIfF, xIfD, xJoinE, xOs, xCs, xFldV, List.getD_cons_zero, List.getD_cons_succ, Nat.zero_add, Nat.reduceAdd, Mem.get_set_same, Mem.set_set, if_true, if_false, Bool.not_true, Bool.not_false, decide_true, decide_false, decide_eq_true_eq, decide_not, Bool.not_eq_true, Bool.false_eq_true, reduceIte, Int.reduceLT, Int.reduceLE, Int.reduceEq, Int.reduceNeg, Int.reduceAdd, Int.reduceSub]
  by_cases hc : A.w a = v
  · simp only [hc, Ar.chg, ne_eq, not_true_eq_false, decide_false, Bool.false_eq_true, if_false, xIxS h0 h1, xMove, xPickT, xPickF, xNil, xFld, xExt0, xExt1, xExt30, xExt31, xExt32, xAdd, xSub, xMul, xEql, xNeq, xLss, xLeq, xGtr, xGeq, xEqPN, xEqNN, xNePN, xNeNN, xEqBB, xNeBB, xNot, xConv, xLen, xMin, xMax, xIfc, xIfT, xIfF, xIfD, xJoinE, xOs, xCs, xFldV, List.getD_cons_zero, List.getD_cons_succ, Nat.zero_add, Nat.reduceAdd, Mem.get_set_same, Mem.set_set, if_true, if_false, Bool.not_true, Bool.not_false, decide_true, decide_false, decide_eq_true_eq, decide_not, Bool.not_eq_true, Bool.false_eq_true, reduceIte, Int.reduceLT, Int.reduceLE, Int.reduceEq, Int.reduceNeg, Int.reduceAdd, Int.reduceSub]
    have h3 : a < (A.chg false).n := h1
    rw [show ({ n := A.n, w := A.w, t := A.t, s := A.s, who := A.who, la := A.la, lw := A.lw, lc := false } : Ar) = A.chg false from rfl]
    simp only [xIxS h0 h3, stW h h0 h3, Nat.zero_add]
    refine congrArg _ (congrArg (putA N · σ) ?_)
    simp [Ar.setW, Ar.chg, Ar.lay, hc]
  · simp only [hc, ne_eq, not_false_eq_true, decide_true, if_true, Ar.chg, xMove, xPickT, xPickF, xNil, xFld, xExt0, xExt1, xExt30, xExt31, xExt32, xAdd, xSub, xMul, xEql, xNeq, xLss, xLeq, xGtr, xGeq, xEqPN, xEqNN, xNePN, xNeNN, xEqBB, xNeBB, xNot, xConv, xLen, xMin, xMax, xIfc, xIfT, xIfF, xIfD, xJoinE, xOs, xCs, xFldV, List.getD_cons_zero, List.getD_cons_succ, Nat.zero_add, Nat.reduceAdd, Mem.get_set_same, Mem.set_set, if_true, if_false, Bool.not_true, Bool.not_false, decide_true, decide_false, decide_eq_true_eq, decide_not, Bool.not_eq_true, Bool.false_eq_true, reduceIte, Int.reduceLT, Int.reduceLE, Int.reduceEq, Int.reduceNeg, Int.reduceAdd, Int.reduceSub]
    have h3 : a < (A.chg true).n := h1
    have h4 : a < ((A.chg true).setT a A.s).n := h1
    rw [show ({ n := A.n, w := A.w, t := A.t, s := A.s, who := A.who, la := A.la, lw := A.lw, lc := true } : Ar) = A.chg true from rfl]
    simp only [xIxS h0 h3, stT h h0 h3, Nat.zero_add]
    simp only [ldM0, xMove, xPickT, xPickF, xNil, xFld, xExt0, xExt1, xExt30, xExt31, xExt32, xAdd, xSub, xMul, xEql, xNeq, xLss, xLeq, xGtr, xGeq, xEqPN, xEqNN, xNePN, xNeNN, xEqBB, xNeBB, xNot, xConv, xLen, xMin, xMax, xIfc, xIfT, xIfF, xIfD, xJoinE, xOs, xCs, xFldV, List.getD_cons_zero, List.getD_cons_succ, Nat.zero_add, Nat.reduceAdd, Mem.get_set_same, Mem.set_set, if_true, if_false, Bool.not_true, Bool.not_false, decide_true, decide_false, decide_eq_true_eq, decide_not, Bool.not_eq_true, Bool.false_eq_true, reduceIte, Int.reduceLT, Int.reduceLE, Int.reduceEq, Int.reduceNeg, Int.reduceAdd, Int.reduceSub]
    simp only [xIxS h0 h4, stW h h0 h4, Nat.zero_add]
    refine congrArg _ (congrArg (putA N · σ) ?_)
    simp [Ar.setW, Ar.setT, Ar.chg, Ar.lay, hc]
def Ar.load (A : Ar) (a : Int) : Ar := A.step a
def Ar.store (A : Ar) (a v : Int) : Ar := (A.step a).lay a v
def Ar.cas (A : Ar) (a o v : Int) : Ar := if A.w a = o then (A.step a).lay a v else A.step a
def Ar.add (A : Ar) (a d : Int) : Ar := (A.step a).lay a (IntKind.u64.wrap (A.w a + d))
theorem step_lt {a b : Int} (h : a < A.n) : a < (A.step b).n := h
theorem c_mLoad (h : N.ok) {a : Int} (h0 : 0 ≤ a) (h1 : a < A.n) : s_mem_Mem_Load [N.p, .int .i64 a] K (putA N A σ) = K (.tuple #[.int .u64 (A.w a), .int .i64 0]) (putA N (A.load a) σ) := by
  simp only [s_mem_Mem_Load, w_mem_Mem_Load, xMove, xPickT, xPickF, xNil, xFld, xExt0, xExt1, xExt30, xExt31, xExt32, xAdd, xSub, xMul, xEql, xNeq, xLss, xLeq, xGtr, xGeq, xEqPN, xEqNN, xNePN, xNeNN, xEqBB, xNeBB, xNot, xConv, xLen, xMin, xMax, xIfc, xIfT, xIfF, xIfD, xJoinE, xOs, xCs, xFldV, List.getD_cons_zero, List.getD_cons_succ, Nat.zero_add, Nat.reduceAdd, Mem.get_set_same, Mem.set_set, if_true, if_false, Bool.not_true, Bool.not_false, decide_true, decide_false, decide_eq_true_eq, decide_not, Bool.not_eq_true, Bool.false_eq_true, reduceIte, Int.reduceLT, Int.reduceLE, Int.reduceEq, Int.reduceNeg, Int.reduceAdd, Int.reduceSub, c_step h0 h1]
  simp only [Nm.p, ldM0, xIxS h0 (step_lt h1), ldW h h0 (step_lt h1), xMove, xPickT, xPickF, xNil, xFld, xExt0, xExt1, xExt30, xExt31, xExt32, xAdd, xSub, xMul, xEql, xNeq, xLss, xLeq, xGtr, xGeq, xEqPN, xEqNN, xNePN, xNeNN, xEqBB, xNeBB, xNot, xConv, xLen, xMin, xMax, xIfc, xIfT, xIfF, xIfD, xJoinE, xOs, xCs, xFldV, List.getD_cons_zero, List.getD_cons_succ, Nat.zero_add, Nat.reduceAdd, Mem.get_set_same, Mem.set_set, if_true, if_false, Bool.not_true, Bool.not_false, decide_true, decide_false, decide_eq_true_eq, decide_not, Bool.not_eq_true, Bool.false_eq_true, reduceIte, Int.reduceLT, Int.reduceLE, Int.reduceEq, Int.reduceNeg, Int.reduceAdd, Int.reduceSub]
  rfl
theorem c_mStore (h : N.ok) {a v : Int} (h0 : 0 ≤ a) (h1 : a < A.n) : s_mem_Mem_Store [N.p, .int .i64 a, .int .u64 v] K (putA N A σ) = K (.int .i64 0) (putA N (A.store a v) σ) := by
  simp only [s_mem_Mem_Store, w_mem_Mem_Store, xMove, xPickT, xPickF, xNil, xFld, xExt0, xExt1, xExt30, xExt31, xExt32, xAdd, xSub, xMul, xEql, xNeq, xLss, xLeq, xGtr, xGeq, xEqPN, xEqNN, xNePN, xNeNN, xEqBB, xNeBB, xNot, xConv, xLen, xMin, xMax, xIfc, xIfT, xIfF, xIfD, xJoinE, xOs, xCs, xFldV, List.getD_cons_zero, List.getD_cons_succ, Nat.zero_add, Nat.reduceAdd, Mem.get_set_same, Mem.set_set, if_true, if_false, Bool.not_true, Bool.not_false, decide_true, decide_false, decide_eq_true_eq, decide_not, Bool.not_eq_true, Bool.false_eq_true, reduceIte, Int.reduceLT, Int.reduceLE, Int.reduceEq, Int.reduceNeg, Int.reduceAdd, Int.reduceSub, c_step h0 h1, c_set h h0 (step_lt h1)]
  rfl
theorem c_mCas (h : N.ok) {a o v : Int} (h0 : 0 ≤ a) (h1 : a < A.n) : s_mem_Mem_Cas [N.p, .int .i64 a, .int .u64 o, .int .u64 v] K (putA N A σ) = K (.tuple #[.bool (decide (A.w a = o)), .int .i64 0]) (putA N (A.cas a o v) σ) := by
  simp only [s_mem_Mem_Cas, w_mem_Mem_Cas, xMove, xPickT, xPickF, xNil, xFld, xExt0, xExt1, xExt30, xExt31, xExt32, xAdd, xSub, xMul, xEql, xNeq, xLss, xLeq, xGtr, xGeq, xEqPN, xEqNN, xNePN, xNeNN, xEqBB, xNeBB, xNot, xConv, xLen, xMin, xMax, xIfc, xIfT, xIfF, xIfD, xJoinE, xOs, xCs, xFldV, List.getD_cons_zero, List.getD_cons_succ, Nat.zero_add, Nat.reduceAdd, Mem.get_set_same, Mem.set_set, if_true, if_false, Bool.not_true, Bool.not_false, decide_true, decide_false, decide_eq_true_eq, decide_not, Bool.not_eq_true, Bool.false_eq_true, reduceIte, Int.reduceLT, Int.reduceLE, Int.reduceEq, Int.reduceNeg, Int.reduceAdd, Int.reduceSub, c_step h0 h1]
  have hw : (A.step a).w a = A.w a := rfl
  simp only [Nm.p, ldM0, xIxS h0 (step_lt h1), ldW h h0 (step_lt h1), xMove, xPickT, xPickF, xNil, xFld, xExt0, xExt1, xExt30, xExt31, xExt32, xAdd, xSub, xMul, xEql, xNeq, xLss, xLeq, xGtr, xGeq, xEqPN, xEqNN, xNePN, xNeNN, xEqBB, xNeBB, xNot, xConv, xLen, xMin, xMax, xIfc, xIfT, xIfF, xIfD, xJoinE, xOs, xCs, xFldV, List.getD_cons_zero, List.getD_cons_succ, Nat.zero_add, Nat.reduceAdd, Mem.get_set_same, Mem.set_set, if_true, if_false, Bool.not_true, Bool.not_false, decide_true, decide_false, decide_eq_true_eq, decide_not, Bool.not_eq_true, Bool.false_eq_true, reduceIte, Int.reduceLT, Int.reduceLE, Int.reduceEq, Int.reduceNeg, Int.reduceAdd, Int.reduceSub, hw]
  by_cases hc : A.w a = o
  · have := c_set (K := fun v σ => K (.tuple #[.bool true, .int .i64 0]) σ) (σ := σ) (v := v) h h0 (step_lt (b := a) h1)
    simp only [Nm.p] at this
    simp only [hc, decide_true, if_false, if_true, not_true_eq_false, ne_eq, this, Ar.cas, xMove, xPickT, xPickF, xNil, xFld, xExt0, xExt1, xExt30, xExt31, xExt32, xAdd, xSub, xMul, xEql, xNeq, xLss, xLeq, xGtr, xGeq, xEqPN, xEqNN, xNePN, xNeNN, xEqBB, xNeBB, xNot, xConv, xLen, xMin, xMax, xIfc, xIfT, xIfF, xIfD, xJoinE, xOs, xCs, xFldV, List.getD_cons_zero, List.getD_cons_succ, Nat.zero_add, Nat.reduceAdd, Mem.get_set_same, Mem.set_set, if_true, if_false, Bool.not_true, Bool.not_false, decide_true, decide_false, decide_eq_true_eq, decide_not, Bool.not_eq_true, Bool.false_eq_true, reduceIte, Int.reduceLT, Int.reduceLE, Int.reduceEq, Int.reduceNeg, Int.reduceAdd, Int.reduceSub]
  · simp only [hc, decide_false, if_true, not_false_eq_true, ne_eq, Ar.cas, if_false, xMove, xPickT, xPickF, xNil, xFld, xExt0, xExt1, xExt30, xExt31, xExt32, xAdd, xSub, xMul, xEql, xNeq, xLss, xLeq, xGtr, xGeq, xEqPN, xEqNN, xNePN, xNeNN, xEqBB, xNeBB, xNot, xConv, xLen, xMin, xMax, xIfc, xIfT, xIfF, xIfD, xJoinE, xOs, xCs, xFldV, List.getD_cons_zero, List.getD_cons_succ, Nat.zero_add, Nat.reduceAdd, Mem.get_set_same, Mem.set_set, if_true, if_false, Bool.not_true, Bool.not_false, decide_true, decide_false, decide_eq_true_eq, decide_not, Bool.not_eq_true, Bool.false_eq_true, reduceIte, Int.reduceLT, Int.reduceLE, Int.reduceEq, Int.reduceNeg, Int.reduceAdd, Int.reduceSub]
theorem c_mAdd (h : N.ok) {a d : Int} (h0 : 0 ≤ a) (h1 : a < A.n) : s_mem_Mem_Add [N.p, .int .i64 a, .int .u64 d] K (putA N A σ) = K (.tuple #[.int .u64 (A.w a), .int .i64 0]) (putA N (A.add a d) σ) := by
  simp only [s_mem_Mem_Add, w_mem_Mem_Add, xMove, xPickT, xPickF, xNil, xFld, xExt0, xExt1, xExt30, xExt31, xExt32, xAdd, xSub, xMul, xEql, xNeq, xLss, xLeq, xGtr, xGeq, xEqPN, xEqNN, xNePN, xNeNN, xEqBB, xNeBB, xNot, xConv, xLen, xMin, xMax, xIfc, xIfT, xIfF, xIfD, xJoinE, xOs, xCs, xFldV, List.getD_cons_zero, List.getD_cons_succ, Nat.zero_add, Nat.reduceAdd, Mem.get_set_same, Mem.set_set, if_true, if_false, Bool.not_true, Bool.not_false, decide_true, decide_false, decide_eq_true_eq, decide_not, Bool.not_eq_true, Bool.false_eq_true, reduceIte, Int.reduceLT, Int.reduceLE, Int.reduceEq, Int.reduceNeg, Int.reduceAdd, Int.reduceSub, c_step h0 h1]
  have hw : (A.step a).w a = A.w a := rfl
  simp only [Nm.p, ldM0, xIxS h0 (step_lt h1), ldW h h0 (step_lt h1), xMove, xPickT, xPickF, xNil, xFld, xExt0, xExt1, xExt30, xExt31, xExt32, xAdd, xSub, xMul, xEql, xNeq, xLss, xLeq, xGtr, xGeq, xEqPN, xEqNN, xNePN, xNeNN, xEqBB, xNeBB, xNot, xConv, xLen, xMin, xMax, xIfc, xIfT, xIfF, xIfD, xJoinE, xOs, xCs, xFldV, List.getD_cons_zero, List.getD_cons_succ, Nat.zero_add, Nat.reduceAdd, Mem.get_set_same, Mem.set_set, if_true, if_false, Bool.not_true, Bool.not_false, decide_true, decide_false, decide_eq_true_eq, decide_not, Bool.not_eq_true, Bool.false_eq_true, reduceIte, Int.reduceLT, Int.reduceLE, Int.reduceEq, Int.reduceNeg, Int.reduceAdd, Int.reduceSub, hw]
  have := c_set (K := fun q σ => K (.tuple #[.int .u64 (A.w a), .int .i64 0]) σ) (σ := σ) (v := IntKind.u64.wrap (A.w a + d)) h h0 (step_lt (b := a) h1)
  simp only [Nm.p] at this
  simp only [this, xMove, xPickT, xPickF, xNil, xFld, xExt0, xExt1, xExt30, xExt31, xExt32, xAdd, xSub, xMul, xEql, xNeq, xLss, xLeq, xGtr, xGeq, xEqPN, xEqNN, xNePN, xNeNN, xEqBB, xNeBB, xNot, xConv, xLen, xMin, xMax, xIfc, xIfT, xIfF, xIfD, xJoinE, xOs, xCs, xFldV, List.getD_cons_zero, List.getD_cons_succ, Nat.zero_add, Nat.reduceAdd, Mem.get_set_same, Mem.set_set, if_true, if_false, Bool.not_true, Bool.not_false, decide_true, decide_false, decide_eq_true_eq, decide_not, Bool.not_eq_true, Bool.false_eq_true, reduceIte, Int.reduceLT, Int.reduceLE, Int.reduceEq, Int.reduceNeg, Int.reduceAdd, Int.reduceSub]
  rfl
theorem c_mPeek (h : N.ok) {a : Int} (h0 : 0 ≤ a) (h1 : a < A.n) : s_mem_Mem_Peek [N.p, .int .i64 a] K (putA N A σ) = K (.int .u64 (A.w a)) (putA N A σ) := by
  simp only [s_mem_Mem_Peek, w_mem_Mem_Peek, w_mem_Mem_Peek_j1, w_mem_Mem_Peek_j1b, Nm.p, ldM0, xMove, xPickT, xPickF, xNil, xFld, xExt0, xExt1, xExt30, xExt31, xExt32, xAdd, xSub, xMul, xEql, xNeq, xLss, xLeq, xGtr, xGeq, xEqPN, xEqNN, xNePN, xNeNN, xEqBB, xNeBB, xNot, xConv, xLen, xMin, xMax, xIfc, xIfT, xIfF, xIfD, xJoinE, xOs, xCs, xFldV, List.getD_cons_zero, List.getD_cons_succ, Nat.zero_add, Nat.reduceAdd, Mem.get_set_same, Mem.set_set, if_true, if_false, Bool.not_true, Bool.not_false, decide_true, decide_false, decide_eq_true_eq, decide_not, Bool.not_eq_true, Bool.false_eq_true, reduceIte, Int.reduceLT, Int.reduceLE, Int.reduceEq, Int.reduceNeg, Int.reduceAdd, Int.reduceSub]
  rw [if_neg (by omega), if_neg (by omega), xIxS h0 h1]
  simp only [Nat.zero_add]
  rw [ldW h h0 h1]
theorem c_mSteps : s_mem_Mem_Steps [N.p] K (putA N A σ) = K (.int .i64 A.s) (putA N A σ) := by
  simp only [s_mem_Mem_Steps, w_mem_Mem_Steps, Nm.p, ldM2, xMove, xPickT, xPickF, xNil, xFld, xExt0, xExt1, xExt30, xExt31, xExt32, xAdd, xSub, xMul, xEql, xNeq, xLss, xLeq, xGtr, xGeq, xEqPN, xEqNN, xNePN, xNeNN, xEqBB, xNeBB, xNot, xConv, xLen, xMin, xMax, xIfc, xIfT, xIfF, xIfD, xJoinE, xOs, xCs, xFldV, List.getD_cons_zero, List.getD_cons_succ, Nat.zero_add, Nat.reduceAdd, Mem.get_set_same, Mem.set_set, if_true, if_false, Bool.not_true, Bool.not_false, decide_true, decide_false, decide_eq_true_eq, decide_not, Bool.not_eq_true, Bool.false_eq_true, reduceIte, Int.reduceLT, Int.reduceLE, Int.reduceEq, Int.reduceNeg, Int.reduceAdd, Int.reduceSub]
structure Cf where
  T : Int
  S : Int
  C : Int
  W : Int
  G : Int
  P : Int
  R : Int
def Cf.l (c : Cf) : List Value := [.int .i64 c.T, .int .i64 c.S, .int .i64 c.C, .int .i64 c.W, .int .i64 c.G, .int .i64 c.P, .int .i64 c.R]
def Cf.v (c : Cf) : Value := .agg #[.int .i64 c.T, .int .i64 c.S, .int .i64 c.C, .int .i64 c.W, .int .i64 c.G, .int .i64 c.P, .int .i64 c.R]
def Nm.env (N : Nm) (c : Cf) (who : Int) : Value := .agg #[.int .i64 c.T, .int .i64 c.S, .int .i64 c.C, .int .i64 c.W, .int .i64 c.G, .int .i64 c.P, .int .i64 c.R, N.p, .int .i64 who]
variable {C : Cf} {who : Int}
theorem by_lt {a : Int} (h : a < A.n) : a < (A.by who).n := h
theorem c_Load (h : N.ok) {a : Int} (h0 : 0 ≤ a) (h1 : a < A.n) : s_layout_Env_Load [N.env C who, .int .i64 a] K (putA N A σ) = K (.int .u64 (A.w a)) (putA N ((A.by who).load a) σ) := by
  simp only [s_layout_Env_Load, w_layout_Env_Load, Nm.env, xMove, xPickT, xPickF, xNil, xFld, xExt0, xExt1, xExt30, xExt31, xExt32, xAdd, xSub, xMul, xEql, xNeq, xLss, xLeq, xGtr, xGeq, xEqPN, xEqNN, xNePN, xNeNN, xEqBB, xNeBB, xNot, xConv, xLen, xMin, xMax, xIfc, xIfT, xIfF, xIfD, xJoinE, xOs, xCs, xFldV, List.getD_cons_zero, List.getD_cons_succ, Nat.zero_add, Nat.reduceAdd, Mem.get_set_same, Mem.set_set, if_true, if_false, Bool.not_true, Bool.not_false, decide_true, decide_false, decide_eq_true_eq, decide_not, Bool.not_eq_true, Bool.false_eq_true, reduceIte, Int.reduceLT, Int.reduceLE, Int.reduceEq, Int.reduceNeg, Int.reduceAdd, Int.reduceSub, locP_e, gBox_a, gBox_i, gBox_b, gBox_p, gLoad_s, gAlloc_s, gStore_a, gStore_i, gStore_b, gStore_p, sub_z, sub_s, sub_l, lay_z, lay_s, List.length_cons, List.length_nil, Nat.reduceLeDiff, Nat.le_refl, List.drop_zero, List.drop_succ_cons, List.take_succ_cons, List.take_zero, List.drop_nil, List.cons_append, List.nil_append, List.all_cons, List.all_nil, oneB_i, oneB_b, oneB_p, oneB_sl, Bool.and_true, c_By, c_mLoad h h0 (by_lt h1)]
  rfl
theorem c_Store (h : N.ok) {a v : Int} (h0 : 0 ≤ a) (h1 : a < A.n) : s_layout_Env_Store [N.env C who, .int .i64 a, .int .u64 v] K (putA N A σ) = K (.tuple #[]) (putA N ((A.by who).store a v) σ) := by
  simp only [s_layout_Env_Store, w_layout_Env_Store, Nm.env, xMove, xPickT, xPickF, xNil, xFld, xExt0, xExt1, xExt30, xExt31, xExt32, xAdd, xSub, xMul, xEql, xNeq, xLss, xLeq, xGtr, xGeq, xEqPN, xEqNN, xNePN, xNeNN, xEqBB, xNeBB, xNot, xConv, xLen, xMin, xMax, xIfc, xIfT, xIfF, xIfD, xJoinE, xOs, xCs, xFldV, List.getD_cons_zero, List.getD_cons_succ, Nat.zero_add, Nat.reduceAdd, Mem.get_set_same, Mem.set_set, if_true, if_false, Bool.not_true, Bool.not_false, decide_true, decide_false, decide_eq_true_eq, decide_not, Bool.not_eq_true, Bool.false_eq_true, reduceIte, Int.reduceLT, Int.reduceLE, Int.reduceEq, Int.reduceNeg, Int.reduceAdd, Int.reduceSub, locP_e, gBox_a, gBox_i, gBox_b, gBox_p, gLoad_s, gAlloc_s, gStore_a, gStore_i, gStore_b, gStore_p, sub_z, sub_s, sub_l, lay_z, lay_s, List.length_cons, List.length_nil, Nat.reduceLeDiff, Nat.le_refl, List.drop_zero, List.drop_succ_cons, List.take_succ_cons, List.take_zero, List.drop_nil, List.cons_append, List.nil_append, List.all_cons, List.all_nil, oneB_i, oneB_b, oneB_p, oneB_sl, Bool.and_true, c_By, c_mStore h h0 (by_lt h1)]
theorem c_Cas (h : N.ok) {a o v : Int} (h0 : 0 ≤ a) (h1 : a < A.n) : s_layout_Env_Cas [N.env C who, .int .i64 a, .int .u64 o, .int .u64 v] K (putA N A σ) = K (.bool (decide (A.w a = o))) (putA N ((A.by who).cas a o v) σ) := by
  simp only [s_layout_Env_Cas, w_layout_Env_Cas, Nm.env, xMove, xPickT, xPickF, xNil, xFld, xExt0, xExt1, xExt30, xExt31, xExt32, xAdd, xSub, xMul, xEql, xNeq, xLss, xLeq, xGtr, xGeq, xEqPN, xEqNN, xNePN, xNeNN, xEqBB, xNeBB, xNot, xConv, xLen, xMin, xMax, xIfc, xIfT, xIfF, xIfD, xJoinE, xOs, xCs, xFldV, List.getD_cons_zero, List.getD_cons_succ, Nat.zero_add, Nat.reduceAdd, Mem.get_set_same, Mem.set_set, if_true, if_false, Bool.not_true, Bool.not_false, decide_true, decide_false, decide_eq_true_eq, decide_not, Bool.not_eq_true, Bool.false_eq_true, reduceIte, Int.reduceLT, Int.reduceLE, Int.reduceEq, Int.reduceNeg, Int.reduceAdd, Int.reduceSub, locP_e, gBox_a, gBox_i, gBox_b, gBox_p, gLoad_s, gAlloc_s, gStore_a, gStore_i, gStore_b, gStore_p, sub_z, sub_s, sub_l, lay_z, lay_s, List.length_cons, List.length_nil, Nat.reduceLeDiff, Nat.le_refl, List.drop_zero, List.drop_succ_cons, List.take_succ_cons, List.take_zero, List.drop_nil, List.cons_append, List.nil_append, List.all_cons, List.all_nil, oneB_i, oneB_b, oneB_p, oneB_sl, Bool.and_true, c_By, c_mCas h h0 (by_lt h1)]
  rfl
theorem c_Add (h : N.ok) {a d : Int} (h0 : 0 ≤ a) (h1 : a < A.n) : s_layout_Env_Add [N.env C who, .int .i64 a, .int .i64 d] K (putA N A σ) = K (.tuple #[]) (putA N ((A.by who).add a (IntKind.u64.wrap d)) σ) := by
  simp only [s_layout_Env_Add, w_layout_Env_Add, Nm.env, xMove, xPickT, xPickF, xNil, xFld, xExt0, xExt1, xExt30, xExt31, xExt32, xAdd, xSub, xMul, xEql, xNeq, xLss, xLeq, xGtr, xGeq, xEqPN, xEqNN, xNePN, xNeNN, xEqBB, xNeBB, xNot, xConv, xLen, xMin, xMax, xIfc, xIfT, xIfF, xIfD, xJoinE, xOs, xCs, xFldV, List.getD_cons_zero, List.getD_cons_succ, Nat.zero_add, Nat.reduceAdd, Mem.get_set_same, Mem.set_set, if_true, if_false, Bool.not_true, Bool.not_false, decide_true, decide_false, decide_eq_true_eq, decide_not, Bool.not_eq_true, Bool.false_eq_true, reduceIte, Int.reduceLT, Int.reduceLE, Int.reduceEq, Int.reduceNeg, Int.reduceAdd, Int.reduceSub, locP_e, gBox_a, gBox_i, gBox_b, gBox_p, gLoad_s, gAlloc_s, gStore_a, gStore_i, gStore_b, gStore_p, sub_z, sub_s, sub_l, lay_z, lay_s, List.length_cons, List.length_nil, Nat.reduceLeDiff, Nat.le_refl, List.drop_zero, List.drop_succ_cons, List.take_succ_cons, List.take_zero, List.drop_nil, List.cons_append, List.nil_append, List.all_cons, List.all_nil, oneB_i, oneB_b, oneB_p, oneB_sl, Bool.and_true, c_By, c_mAdd h h0 (by_lt h1)]
theorem c_Now : s_layout_Env_Now [N.env C who] K (putA N A σ) = K (.int .i64 A.s) (putA N A σ) := by
  simp only [s_layout_Env_Now, w_layout_Env_Now, Nm.env, xMove, xPickT, xPickF, xNil, xFld, xExt0, xExt1, xExt30, xExt31, xExt32, xAdd, xSub, xMul, xEql, xNeq, xLss, xLeq, xGtr, xGeq, xEqPN, xEqNN, xNePN, xNeNN, xEqBB, xNeBB, xNot, xConv, xLen, xMin, xMax, xIfc, xIfT, xIfF, xIfD, xJoinE, xOs, xCs, xFldV, List.getD_cons_zero, List.getD_cons_succ, Nat.zero_add, Nat.reduceAdd, Mem.get_set_same, Mem.set_set, if_true, if_false, Bool.not_true, Bool.not_false, decide_true, decide_false, decide_eq_true_eq, decide_not, Bool.not_eq_true, Bool.false_eq_true, reduceIte, Int.reduceLT, Int.reduceLE, Int.reduceEq, Int.reduceNeg, Int.reduceAdd, Int.reduceSub, locP_e, gBox_a, gBox_i, gBox_b, gBox_p, gLoad_s, gAlloc_s, gStore_a, gStore_i, gStore_b, gStore_p, sub_z, sub_s, sub_l, lay_z, lay_s, List.length_cons, List.length_nil, Nat.reduceLeDiff, Nat.le_refl, List.drop_zero, List.drop_succ_cons, List.take_succ_cons, List.take_zero, List.drop_nil, List.cons_append, List.nil_append, List.all_cons, List.all_nil, oneB_i, oneB_b, oneB_p, oneB_sl, Bool.and_true, c_mSteps]
theorem xAnd63 {K : Value → Prop} {Q : EqK} {k : Nat} {w : Int} (h0 : 0 ≤ w) (h1 : w < 18446744073709551616) (hk : k ≤ 63) : xF (fBin .and Q) [.int .u64 w, .int .u64 (2 ^ k - 1)] K = K (.int .u64 (w % 2 ^ k)) := by
  obtain ⟨n, rfl⟩ := Int.eq_ofNat_of_zero_le h0
  have e : ((2 : Int) ^ k - 1) = ((2 ^ k - 1 : Nat) : Int) := by
    have : 0 < 2 ^ k := Nat.two_pow_pos k
    push_cast [Nat.one_le_two_pow]
    rfl
  have hb : 2 ^ k < 2 ^ 64 := Nat.pow_lt_pow_right (by decide) (by omega)
  have hn : n < 2 ^ 64 := by omega
  have q : (BitVec.ofInt 64 (n : Int) &&& BitVec.ofInt 64 ((2 ^ k - 1 : Nat) : Int)).toNat = n % 2 ^ k := by
    rw [BitVec.toNat_and, BitVec.toNat_ofInt, BitVec.toNat_ofInt]
    have h3 : ((n : Int) % ((2 ^ 64 : Nat) : Int)).toNat = n := by omega
    have h4 : (((2 ^ k - 1 : Nat) : Int) % ((2 ^ 64 : Nat) : Int)).toNat = 2 ^ k - 1 := by omega
    rw [h3, h4, Nat.and_two_pow_sub_one_eq_mod]
  show xF (fBin .and Q) _ _ = _
  simp only [xF, fBin, isSh, binI, Bool.false_eq_true, if_false, if_true]
  show K (.int .u64 (IntKind.u64.wrap ((BitVec.ofInt 64 (n : Int) &&& BitVec.ofInt 64 (2 ^ k - 1)).toNat : Int))) = _
  rw [e, q, IntWalk.u64_in _ (by have := Nat.mod_lt n (Nat.two_pow_pos k); omega)]
  push_cast
  rfl
theorem and2 {K : Value → Prop} {Q : EqK} {w : Int} (h0 : 0 ≤ w) (h1 : w < 18446744073709551616) : xF (fBin .and Q) [.int .u64 w, .int .u64 3] K = K (.int .u64 (w % 4)) := by
  simpa using xAnd63 (K := K) (Q := Q) (k := 2) h0 h1 (by decide)
theorem and3 {K : Value → Prop} {Q : EqK} {w : Int} (h0 : 0 ≤ w) (h1 : w < 18446744073709551616) : xF (fBin .and Q) [.int .u64 w, .int .u64 7] K = K (.int .u64 (w % 8)) := by
  simpa using xAnd63 (K := K) (Q := Q) (k := 3) h0 h1 (by decide)
theorem and6 {K : Value → Prop} {Q : EqK} {w : Int} (h0 : 0 ≤ w) (h1 : w < 18446744073709551616) : xF (fBin .and Q) [.int .u64 w, .int .u64 63] K = K (.int .u64 (w % 64)) := by
  simpa using xAnd63 (K := K) (Q := Q) (k := 6) h0 h1 (by decide)
theorem and16 {K : Value → Prop} {Q : EqK} {w : Int} (h0 : 0 ≤ w) (h1 : w < 18446744073709551616) : xF (fBin .and Q) [.int .u64 w, .int .u64 65535] K = K (.int .u64 (w % 65536)) := by
  simpa using xAnd63 (K := K) (Q := Q) (k := 16) h0 h1 (by decide)
theorem and17 {K : Value → Prop} {Q : EqK} {w : Int} (h0 : 0 ≤ w) (h1 : w < 18446744073709551616) : xF (fBin .and Q) [.int .u64 w, .int .u64 131071] K = K (.int .u64 (w % 131072)) := by
  simpa using xAnd63 (K := K) (Q := Q) (k := 17) h0 h1 (by decide)
theorem and20 {K : Value → Prop} {Q : EqK} {w : Int} (h0 : 0 ≤ w) (h1 : w < 18446744073709551616) : xF (fBin .and Q) [.int .u64 w, .int .u64 1048575] K = K (.int .u64 (w % 1048576)) := by
  simpa using xAnd63 (K := K) (Q := Q) (k := 20) h0 h1 (by decide)
theorem and22 {K : Value → Prop} {Q : EqK} {w : Int} (h0 : 0 ≤ w) (h1 : w < 18446744073709551616) : xF (fBin .and Q) [.int .u64 w, .int .u64 4194303] K = K (.int .u64 (w % 4194304)) := by
  simpa using xAnd63 (K := K) (Q := Q) (k := 22) h0 h1 (by decide)
theorem and36 {K : Value → Prop} {Q : EqK} {w : Int} (h0 : 0 ≤ w) (h1 : w < 18446744073709551616) : xF (fBin .and Q) [.int .u64 w, .int .u64 68719476735] K = K (.int .u64 (w % 68719476736)) := by
  simpa using xAnd63 (K := K) (Q := Q) (k := 36) h0 h1 (by decide)
theorem and1 {K : Value → Prop} {Q : EqK} {w : Int} (h0 : 0 ≤ w) (h1 : w < 18446744073709551616) : xF (fBin .and Q) [.int .u64 w, .int .u64 1] K = K (.int .u64 (w % 2)) := by
  simpa using xAnd63 (K := K) (Q := Q) (k := 1) h0 h1 (by decide)
theorem xShrG {K : Value → Prop} {Q : EqK} {k' : IntKind} {s : Nat} {w : Int} (h0 : 0 ≤ w) (hs : s ≤ 64) : xF (fBin .shr Q) [.int .u64 w, .int k' (s : Int)] K = K (.int .u64 (w / 2 ^ s)) := by
  have h : ¬ ((s : Int) < 0) := by omega
  have hm : min s IntKind.u64.bits = s := Nat.min_eq_left hs
  simp only [xF, fBin, isSh, shI, if_true, if_neg h, Int.toNat_natCast, hm]
  rw [Int.fdiv_eq_ediv_of_nonneg _ (by exact Int.le_of_lt (Int.pow_pos (by decide)))]
theorem xShlG {K : Value → Prop} {Q : EqK} {k' : IntKind} {s : Nat} {w : Int} (h0 : 0 ≤ w) (h1 : w * 2 ^ s < 18446744073709551616) (hs : s ≤ 64) : xF (fBin .shl Q) [.int .u64 w, .int k' (s : Int)] K = K (.int .u64 (w * 2 ^ s)) := by
  have h : ¬ ((s : Int) < 0) := by omega
  have hm : min s IntKind.u64.bits = s := Nat.min_eq_left hs
  simp only [xF, fBin, isSh, shI, if_true, if_neg h, Int.toNat_natCast, hm]
  rw [IntWalk.u64_in _ ⟨Int.mul_nonneg h0 (Int.le_of_lt (Int.pow_pos (by decide))), by omega⟩]
theorem xOrG {K : Value → Prop} {Q : EqK} {s : Nat} {a c : Int} (h0 : 0 ≤ a) (h1 : a < 2 ^ s) (h2 : 0 ≤ c) (h3 : a + c * 2 ^ s < 18446744073709551616) :
    xF (fBin .or Q) [.int .u64 a, .int .u64 (c * 2 ^ s)] K = K (.int .u64 (a + c * 2 ^ s)) := by
  obtain ⟨m, rfl⟩ := Int.eq_ofNat_of_zero_le h0
  obtain ⟨n, rfl⟩ := Int.eq_ofNat_of_zero_le h2
  have e : (n : Int) * 2 ^ s = ((n * 2 ^ s : Nat) : Int) := by push_cast; rfl
  rw [e] at h3 ⊢
  have hm : m < 2 ^ s := by exact_mod_cast h1
  have q : (BitVec.ofInt 64 (m : Int) ||| BitVec.ofInt 64 ((n * 2 ^ s : Nat) : Int)).toNat = m + n * 2 ^ s := by
    rw [BitVec.toNat_or, BitVec.toNat_ofInt, BitVec.toNat_ofInt]
    have h4 : ((m : Int) % ((2 ^ 64 : Nat) : Int)).toNat = m := by omega
    have h5 : (((n * 2 ^ s : Nat) : Int) % ((2 ^ 64 : Nat) : Int)).toNat = n * 2 ^ s := by omega
    rw [h4, h5, Nat.mul_comm n, Nat.or_comm, ← Nat.two_pow_add_eq_or_of_lt hm, Nat.add_comm]
  simp only [xF, fBin, isSh, binI, Bool.false_eq_true, if_false, if_true]
  show K (.int .u64 (IntKind.u64.wrap ((BitVec.ofInt 64 (m : Int) ||| BitVec.ofInt 64 ((n * 2 ^ s : Nat) : Int)).toNat : Int))) = _
  rw [q, IntWalk.u64_in _ (by omega)]
  push_cast
  rfl
theorem shr2 {K : Value → Prop} {Q : EqK} {k' : IntKind} {w : Int} (h0 : 0 ≤ w) : xF (fBin .shr Q) [.int .u64 w, .int k' 2] K = K (.int .u64 (w / 4)) := by
  simpa using xShrG (K := K) (Q := Q) (k' := k') (s := 2) h0 (by decide)
theorem shl2 {K : Value → Prop} {Q : EqK} {k' : IntKind} {w : Int} (h0 : 0 ≤ w) (h1 : w * 4 < 18446744073709551616) : xF (fBin .shl Q) [.int .u64 w, .int k' 2] K = K (.int .u64 (w * 4)) := by
  simpa using xShlG (K := K) (Q := Q) (k' := k') (s := 2) h0 (by simpa using h1) (by decide)
theorem or2 {K : Value → Prop} {Q : EqK} {a c : Int} (h0 : 0 ≤ a) (h1 : a < 4) (h2 : 0 ≤ c) (h3 : a + c * 4 < 18446744073709551616) : xF (fBin .or Q) [.int .u64 a, .int .u64 (c * 4)] K = K (.int .u64 (a + c * 4)) := by
  simpa using xOrG (K := K) (Q := Q) (s := 2) h0 (by simpa using h1) h2 (by simpa using h3)
theorem shr3 {K : Value → Prop} {Q : EqK} {k' : IntKind} {w : Int} (h0 : 0 ≤ w) : xF (fBin .shr Q) [.int .u64 w, .int k' 3] K = K (.int .u64 (w / 8)) := by
  simpa using xShrG (K := K) (Q := Q) (k' := k') (s := 3) h0 (by decide)
theorem shl3 {K : Value → Prop} {Q : EqK} {k' : IntKind} {w : Int} (h0 : 0 ≤ w) (h1 : w * 8 < 18446744073709551616) : xF (fBin .shl Q) [.int .u64 w, .int k' 3] K = K (.int .u64 (w * 8)) := by
  simpa using xShlG (K := K) (Q := Q) (k' := k') (s := 3) h0 (by simpa using h1) (by decide)
theorem or3 {K : Value → Prop} {Q : EqK} {a c : Int} (h0 : 0 ≤ a) (h1 : a < 8) (h2 : 0 ≤ c) (h3 : a + c * 8 < 18446744073709551616) : xF (fBin .or Q) [.int .u64 a, .int .u64 (c * 8)] K = K (.int .u64 (a + c * 8)) := by
  simpa using xOrG (K := K) (Q := Q) (s := 3) h0 (by simpa using h1) h2 (by simpa using h3)
theorem shr8 {K : Value → Prop} {Q : EqK} {k' : IntKind} {w : Int} (h0 : 0 ≤ w) : xF (fBin .shr Q) [.int .u64 w, .int k' 8] K = K (.int .u64 (w / 256)) := by
  simpa using xShrG (K := K) (Q := Q) (k' := k') (s := 8) h0 (by decide)
theorem shl8 {K : Value → Prop} {Q : EqK} {k' : IntKind} {w : Int} (h0 : 0 ≤ w) (h1 : w * 256 < 18446744073709551616) : xF (fBin .shl Q) [.int .u64 w, .int k' 8] K = K (.int .u64 (w * 256)) := by
  simpa using xShlG (K := K) (Q := Q) (k' := k') (s := 8) h0 (by simpa using h1) (by decide)
theorem or8 {K : Value → Prop} {Q : EqK} {a c : Int} (h0 : 0 ≤ a) (h1 : a < 256) (h2 : 0 ≤ c) (h3 : a + c * 256 < 18446744073709551616) : xF (fBin .or Q) [.int .u64 a, .int .u64 (c * 256)] K = K (.int .u64 (a + c * 256)) := by
  simpa using xOrG (K := K) (Q := Q) (s := 8) h0 (by simpa using h1) h2 (by simpa using h3)
theorem shr16 {K : Value → Prop} {Q : EqK} {k' : IntKind} {w : Int} (h0 : 0 ≤ w) : xF (fBin .shr Q) [.int .u64 w, .int k' 16] K = K (.int .u64 (w / 65536)) := by
  simpa using xShrG (K := K) (Q := Q) (k' := k') (s := 16) h0 (by decide)
theorem shl16 {K : Value → Prop} {Q : EqK} {k' : IntKind} {w : Int} (h0 : 0 ≤ w) (h1 : w * 65536 < 18446744073709551616) : xF (fBin .shl Q) [.int .u64 w, .int k' 16] K = K (.int .u64 (w * 65536)) := by
  simpa using xShlG (K := K) (Q := Q) (k' := k') (s := 16) h0 (by simpa using h1) (by decide)
theorem or16 {K : Value → Prop} {Q : EqK} {a c : Int} (h0 : 0 ≤ a) (h1 : a < 65536) (h2 : 0 ≤ c) (h3 : a + c * 65536 < 18446744073709551616) : xF (fBin .or Q) [.int .u64 a, .int .u64 (c * 65536)] K = K (.int .u64 (a + c * 65536)) := by
  simpa using xOrG (K := K) (Q := Q) (s := 16) h0 (by simpa using h1) h2 (by simpa using h3)
theorem shr17 {K : Value → Prop} {Q : EqK} {k' : IntKind} {w : Int} (h0 : 0 ≤ w) : xF (fBin .shr Q) [.int .u64 w, .int k' 17] K = K (.int .u64 (w / 131072)) := by
  simpa using xShrG (K := K) (Q := Q) (k' := k') (s := 17) h0 (by decide)
theorem shl17 {K : Value → Prop} {Q : EqK} {k' : IntKind} {w : Int} (h0 : 0 ≤ w) (h1 : w * 131072 < 18446744073709551616) : xF (fBin .shl Q) [.int .u64 w, .int k' 17] K = K (.int .u64 (w * 131072)) := by
  simpa using xShlG (K := K) (Q := Q) (k' := k') (s := 17) h0 (by simpa using h1) (by decide)
theorem or17 {K : Value → Prop} {Q : EqK} {a c : Int} (h0 : 0 ≤ a) (h1 : a < 131072) (h2 : 0 ≤ c) (h3 : a + c * 131072 < 18446744073709551616) : xF (fBin .or Q) [.int .u64 a, .int .u64 (c * 131072)] K = K (.int .u64 (a + c * 131072)) := by
  simpa using xOrG (K := K) (Q := Q) (s := 17) h0 (by simpa using h1) h2 (by simpa using h3)
theorem shr18 {K : Value → Prop} {Q : EqK} {k' : IntKind} {w : Int} (h0 : 0 ≤ w) : xF (fBin .shr Q) [.int .u64 w, .int k' 18] K = K (.int .u64 (w / 262144)) := by
  simpa using xShrG (K := K) (Q := Q) (k' := k') (s := 18) h0 (by decide)
theorem shl18 {K : Value → Prop} {Q : EqK} {k' : IntKind} {w : Int} (h0 : 0 ≤ w) (h1 : w * 262144 < 18446744073709551616) : xF (fBin .shl Q) [.int .u64 w, .int k' 18] K = K (.int .u64 (w * 262144)) := by
  simpa using xShlG (K := K) (Q := Q) (k' := k') (s := 18) h0 (by simpa using h1) (by decide)
theorem or18 {K : Value → Prop} {Q : EqK} {a c : Int} (h0 : 0 ≤ a) (h1 : a < 262144) (h2 : 0 ≤ c) (h3 : a + c * 262144 < 18446744073709551616) : xF (fBin .or Q) [.int .u64 a, .int .u64 (c * 262144)] K = K (.int .u64 (a + c * 262144)) := by
  simpa using xOrG (K := K) (Q := Q) (s := 18) h0 (by simpa using h1) h2 (by simpa using h3)
theorem shr23 {K : Value → Prop} {Q : EqK} {k' : IntKind} {w : Int} (h0 : 0 ≤ w) : xF (fBin .shr Q) [.int .u64 w, .int k' 23] K = K (.int .u64 (w / 8388608)) := by
  simpa using xShrG (K := K) (Q := Q) (k' := k') (s := 23) h0 (by decide)
theorem shl23 {K : Value → Prop} {Q : EqK} {k' : IntKind} {w : Int} (h0 : 0 ≤ w) (h1 : w * 8388608 < 18446744073709551616) : xF (fBin .shl Q) [.int .u64 w, .int k' 23] K = K (.int .u64 (w * 8388608)) := by
  simpa using xShlG (K := K) (Q := Q) (k' := k') (s := 23) h0 (by simpa using h1) (by decide)
theorem or23 {K : Value → Prop} {Q : EqK} {a c : Int} (h0 : 0 ≤ a) (h1 : a < 8388608) (h2 : 0 ≤ c) (h3 : a + c * 8388608 < 18446744073709551616) : xF (fBin .or Q) [.int .u64 a, .int .u64 (c * 8388608)] K = K (.int .u64 (a + c * 8388608)) := by
  simpa using xOrG (K := K) (Q := Q) (s := 23) h0 (by simpa using h1) h2 (by simpa using h3)
theorem shr28 {K : Value → Prop} {Q : EqK} {k' : IntKind} {w : Int} (h0 : 0 ≤ w) : xF (fBin .shr Q) [.int .u64 w, .int k' 28] K = K (.int .u64 (w / 268435456)) := by
  simpa using xShrG (K := K) (Q := Q) (k' := k') (s := 28) h0 (by decide)
theorem shl28 {K : Value → Prop} {Q : EqK} {k' : IntKind} {w : Int} (h0 : 0 ≤ w) (h1 : w * 268435456 < 18446744073709551616) : xF (fBin .shl Q) [.int .u64 w, .int k' 28] K = K (.int .u64 (w * 268435456)) := by
  simpa using xShlG (K := K) (Q := Q) (k' := k') (s := 28) h0 (by simpa using h1) (by decide)
theorem or28 {K : Value → Prop} {Q : EqK} {a c : Int} (h0 : 0 ≤ a) (h1 : a < 268435456) (h2 : 0 ≤ c) (h3 : a + c * 268435456 < 18446744073709551616) : xF (fBin .or Q) [.int .u64 a, .int .u64 (c * 268435456)] K = K (.int .u64 (a + c * 268435456)) := by
  simpa using xOrG (K := K) (Q := Q) (s := 28) h0 (by simpa using h1) h2 (by simpa using h3)
theorem shr32 {K : Value → Prop} {Q : EqK} {k' : IntKind} {w : Int} (h0 : 0 ≤ w) : xF (fBin .shr Q) [.int .u64 w, .int k' 32] K = K (.int .u64 (w / 4294967296)) := by
  simpa using xShrG (K := K) (Q := Q) (k' := k') (s := 32) h0 (by decide)
theorem shr34 {K : Value → Prop} {Q : EqK} {k' : IntKind} {w : Int} (h0 : 0 ≤ w) : xF (fBin .shr Q) [.int .u64 w, .int k' 34] K = K (.int .u64 (w / 17179869184)) := by
  simpa using xShrG (K := K) (Q := Q) (k' := k') (s := 34) h0 (by decide)
theorem shl34 {K : Value → Prop} {Q : EqK} {k' : IntKind} {w : Int} (h0 : 0 ≤ w) (h1 : w * 17179869184 < 18446744073709551616) : xF (fBin .shl Q) [.int .u64 w, .int k' 34] K = K (.int .u64 (w * 17179869184)) := by
  simpa using xShlG (K := K) (Q := Q) (k' := k') (s := 34) h0 (by simpa using h1) (by decide)
theorem or34 {K : Value → Prop} {Q : EqK} {a c : Int} (h0 : 0 ≤ a) (h1 : a < 17179869184) (h2 : 0 ≤ c) (h3 : a + c * 17179869184 < 18446744073709551616) : xF (fBin .or Q) [.int .u64 a, .int .u64 (c * 17179869184)] K = K (.int .u64 (a + c * 17179869184)) := by
  simpa using xOrG (K := K) (Q := Q) (s := 34) h0 (by simpa using h1) h2 (by simpa using h3)
theorem shr39 {K : Value → Prop} {Q : EqK} {k' : IntKind} {w : Int} (h0 : 0 ≤ w) : xF (fBin .shr Q) [.int .u64 w, .int k' 39] K = K (.int .u64 (w / 549755813888)) := by
  simpa using xShrG (K := K) (Q := Q) (k' := k') (s := 39) h0 (by decide)
theorem shl39 {K : Value → Prop} {Q : EqK} {k' : IntKind} {w : Int} (h0 : 0 ≤ w) (h1 : w * 549755813888 < 18446744073709551616) : xF (fBin .shl Q) [.int .u64 w, .int k' 39] K = K (.int .u64 (w * 549755813888)) := by
  simpa using xShlG (K := K) (Q := Q) (k' := k') (s := 39) h0 (by simpa using h1) (by decide)
theorem or39 {K : Value → Prop} {Q : EqK} {a c : Int} (h0 : 0 ≤ a) (h1 : a < 549755813888) (h2 : 0 ≤ c) (h3 : a + c * 549755813888 < 18446744073709551616) : xF (fBin .or Q) [.int .u64 a, .int .u64 (c * 549755813888)] K = K (.int .u64 (a + c * 549755813888)) := by
  simpa using xOrG (K := K) (Q := Q) (s := 39) h0 (by simpa using h1) h2 (by simpa using h3)
theorem shr50 {K : Value → Prop} {Q : EqK} {k' : IntKind} {w : Int} (h0 : 0 ≤ w) : xF (fBin .shr Q) [.int .u64 w, .int k' 50] K = K (.int .u64 (w / 1125899906842624)) := by
  simpa using xShrG (K := K) (Q := Q) (k' := k') (s := 50) h0 (by decide)
theorem or50 {K : Value → Prop} {Q : EqK} {a c : Int} (h0 : 0 ≤ a) (h1 : a < 1125899906842624) (h2 : 0 ≤ c) (h3 : a + c * 1125899906842624 < 18446744073709551616) : xF (fBin .or Q) [.int .u64 a, .int .u64 (c * 1125899906842624)] K = K (.int .u64 (a + c * 1125899906842624)) := by
  simpa using xOrG (K := K) (Q := Q) (s := 50) h0 (by simpa using h1) h2 (by simpa using h3)
def cl (n m : Int) : Int := min (max n 0) m
theorem cl_nn {n m : Int} (h : 0 ≤ m) : 0 ≤ cl n m := by unfold cl; omega
theorem cl_le {n m : Int} : cl n m ≤ m := by unfold cl; omega
theorem cl_in {n m : Int} (h0 : 0 ≤ n) (h1 : n ≤ m) : cl n m = n := by unfold cl; omega
theorem c_fit {n m : Int} (h0 : 0 ≤ m) (h1 : m < 18446744073709551616) : s_word_fit [.int .i64 n, .int .i64 m] K σ = K (.int .u64 (cl n m)) σ := by
  simp only [s_word_fit, w_word_fit, xMove, xPickT, xPickF, xNil, xFld, xExt0, xExt1, xExt30, xExt31, xExt32, xAdd, xSub, xMul, xEql, xNeq, xLss, xLeq, xGtr, xGeq, xEqPN, xEqNN, xNePN, xNeNN, xEqBB, xNeBB, xNot, xConv, xLen, xMin, xMax, xIfc, xIfT, xIfF, xIfD, xJoinE, xOs, xCs, xFldV, List.getD_cons_zero, List.getD_cons_succ, Nat.zero_add, Nat.reduceAdd, Mem.get_set_same, Mem.set_set, if_true, if_false, Bool.not_true, Bool.not_false, decide_true, decide_false, decide_eq_true_eq, decide_not, Bool.not_eq_true, Bool.false_eq_true, reduceIte, Int.reduceLT, Int.reduceLE, Int.reduceEq, Int.reduceNeg, Int.reduceAdd, Int.reduceSub]
  rw [IntWalk.u64_in _ (by omega)]; rfl
def putTop (s c : Int) : Int := cl (min s 65535 + 1) 65536 + cl c 68719476735 * 131072
theorem putTop_in (s c : Int) : 0 ≤ putTop s c ∧ putTop s c < 18446744073709551616 := by unfold putTop cl; omega
theorem c_PutTop {s c : Int} (h : -9223372036854775808 ≤ s) : s_word_PutTop [.int .i64 s, .int .i64 c] K σ = K (.int .u64 (putTop s c)) σ := by
  simp only [s_word_PutTop, w_word_PutTop, xMove, xPickT, xPickF, xNil, xFld, xExt0, xExt1, xExt30, xExt31, xExt32, xAdd, xSub, xMul, xEql, xNeq, xLss, xLeq, xGtr, xGeq, xEqPN, xEqNN, xNePN, xNeNN, xEqBB, xNeBB, xNot, xConv, xLen, xMin, xMax, xIfc, xIfT, xIfF, xIfD, xJoinE, xOs, xCs, xFldV, List.getD_cons_zero, List.getD_cons_succ, Nat.zero_add, Nat.reduceAdd, Mem.get_set_same, Mem.set_set, if_true, if_false, Bool.not_true, Bool.not_false, decide_true, decide_false, decide_eq_true_eq, decide_not, Bool.not_eq_true, Bool.false_eq_true, reduceIte, Int.reduceLT, Int.reduceLE, Int.reduceEq, Int.reduceNeg, Int.reduceAdd, Int.reduceSub]
  have h1 := @cl_le (min s 65535 + 1) 65536
  have h2 := @cl_nn (min s 65535 + 1) 65536 (by decide)
  have h3 := @cl_le c 68719476735
  have h4 := @cl_nn c 68719476735 (by decide)
  rw [IntWalk.i64_in _ (by omega), c_fit (by decide) (by decide), c_fit (by decide) (by decide), shl17 h4 (by omega), or17 h2 (by omega) h4 (by omega)]
  rfl
def topS (w : Int) : Int := w % 131072 - 1
def topN (w : Int) : Int := w / 131072 % 68719476736
theorem c_Top {w : Int} (h0 : 0 ≤ w) (h1 : w < 18446744073709551616) : s_word_Top [.int .u64 w] K σ = K (.tuple #[.int .i64 (topS w), .int .i64 (topN w)]) σ := by
  simp only [s_word_Top, w_word_Top, xMove, xPickT, xPickF, xNil, xFld, xExt0, xExt1, xExt30, xExt31, xExt32, xAdd, xSub, xMul, xEql, xNeq, xLss, xLeq, xGtr, xGeq, xEqPN, xEqNN, xNePN, xNeNN, xEqBB, xNeBB, xNot, xConv, xLen, xMin, xMax, xIfc, xIfT, xIfF, xIfD, xJoinE, xOs, xCs, xFldV, List.getD_cons_zero, List.getD_cons_succ, Nat.zero_add, Nat.reduceAdd, Mem.get_set_same, Mem.set_set, if_true, if_false, Bool.not_true, Bool.not_false, decide_true, decide_false, decide_eq_true_eq, decide_not, Bool.not_eq_true, Bool.false_eq_true, reduceIte, Int.reduceLT, Int.reduceLE, Int.reduceEq, Int.reduceNeg, Int.reduceAdd, Int.reduceSub]
  rw [and17 h0 h1]
  simp only [xMove, xPickT, xPickF, xNil, xFld, xExt0, xExt1, xExt30, xExt31, xExt32, xAdd, xSub, xMul, xEql, xNeq, xLss, xLeq, xGtr, xGeq, xEqPN, xEqNN, xNePN, xNeNN, xEqBB, xNeBB, xNot, xConv, xLen, xMin, xMax, xIfc, xIfT, xIfF, xIfD, xJoinE, xOs, xCs, xFldV, List.getD_cons_zero, List.getD_cons_succ, Nat.zero_add, Nat.reduceAdd, Mem.get_set_same, Mem.set_set, if_true, if_false, Bool.not_true, Bool.not_false, decide_true, decide_false, decide_eq_true_eq, decide_not, Bool.not_eq_true, Bool.false_eq_true, reduceIte, Int.reduceLT, Int.reduceLE, Int.reduceEq, Int.reduceNeg, Int.reduceAdd, Int.reduceSub]
  rw [shr17 h0, and36 (by omega) (by omega)]
  simp only [xMove, xPickT, xPickF, xNil, xFld, xExt0, xExt1, xExt30, xExt31, xExt32, xAdd, xSub, xMul, xEql, xNeq, xLss, xLeq, xGtr, xGeq, xEqPN, xEqNN, xNePN, xNeNN, xEqBB, xNeBB, xNot, xConv, xLen, xMin, xMax, xIfc, xIfT, xIfF, xIfD, xJoinE, xOs, xCs, xFldV, List.getD_cons_zero, List.getD_cons_succ, Nat.zero_add, Nat.reduceAdd, Mem.get_set_same, Mem.set_set, if_true, if_false, Bool.not_true, Bool.not_false, decide_true, decide_false, decide_eq_true_eq, decide_not, Bool.not_eq_true, Bool.false_eq_true, reduceIte, Int.reduceLT, Int.reduceLE, Int.reduceEq, Int.reduceNeg, Int.reduceAdd, Int.reduceSub]
  rw [IntWalk.i64_in (w % 131072) (by omega), IntWalk.i64_in (w % 131072 - 1) (by omega), IntWalk.i64_in (w / 131072 % 68719476736) (by omega)]
  rfl
def putSlot (st ad ge ve : Int) : Int := cl st 7 + cl ad 1048575 * 8 + cl ge 65535 * 8388608 + cl ve 4194303 * 549755813888
theorem putSlot_in (st ad ge ve : Int) : 0 ≤ putSlot st ad ge ve ∧ putSlot st ad ge ve < 18446744073709551616 := by unfold putSlot cl; omega
theorem c_PutSlot {st ad ge ve : Int} : s_word_PutSlot [.agg #[.int .i64 st, .int .i64 ad, .int .i64 ge, .int .i64 ve]] K σ = K (.int .u64 (putSlot st ad ge ve)) σ := by
  simp only [s_word_PutSlot, w_word_PutSlot, xMove, xPickT, xPickF, xNil, xFld, xExt0, xExt1, xExt30, xExt31, xExt32, xAdd, xSub, xMul, xEql, xNeq, xLss, xLeq, xGtr, xGeq, xEqPN, xEqNN, xNePN, xNeNN, xEqBB, xNeBB, xNot, xConv, xLen, xMin, xMax, xIfc, xIfT, xIfF, xIfD, xJoinE, xOs, xCs, xFldV, List.getD_cons_zero, List.getD_cons_succ, Nat.zero_add, Nat.reduceAdd, Mem.get_set_same, Mem.set_set, if_true, if_false, Bool.not_true, Bool.not_false, decide_true, decide_false, decide_eq_true_eq, decide_not, Bool.not_eq_true, Bool.false_eq_true, reduceIte, Int.reduceLT, Int.reduceLE, Int.reduceEq, Int.reduceNeg, Int.reduceAdd, Int.reduceSub, locP_e, gBox_a, gBox_i, gBox_b, gBox_p, gLoad_s, gAlloc_s, gStore_a, gStore_i, gStore_b, gStore_p, sub_z, sub_s, sub_l, lay_z, lay_s, List.length_cons, List.length_nil, Nat.reduceLeDiff, Nat.le_refl, List.drop_zero, List.drop_succ_cons, List.take_succ_cons, List.take_zero, List.drop_nil, List.cons_append, List.nil_append, List.all_cons, List.all_nil, oneB_i, oneB_b, oneB_p, oneB_sl, Bool.and_true]
  have h1 := @cl_le st 7
  have h2 := @cl_nn st 7 (by decide)
  have h3 := @cl_le ad 1048575
  have h4 := @cl_nn ad 1048575 (by decide)
  have h5 := @cl_le ge 65535
  have h6 := @cl_nn ge 65535 (by decide)
  have h7 := @cl_le ve 4194303
  have h8 := @cl_nn ve 4194303 (by decide)
  rw [c_fit (by decide) (by decide), c_fit (by decide) (by decide), shl3 h4 (by omega), or3 h2 (by omega) h4 (by omega), c_fit (by decide) (by decide), shl23 h6 (by omega), or23 (by omega) (by omega) h6 (by omega),
    c_fit (by decide) (by decide), shl39 h8 (by omega), or39 (by omega) (by omega) h8 (by omega)]
  rfl
structure isA (N : Nm) (A : Ar) (σ : Mem) : Prop where
  m : σ.get N.m = some ⟨A.mc N, true⟩
  w : σ.get N.w = some A.wb
  t : σ.get N.t = some A.tb
def Ext (σ τ : Mem) : Prop := ∀ i b, σ.get i = some b → τ.get i = some b
def Keep (L : List Nat) (σ τ : Mem) : Prop := ∀ i b, σ.get i = some b → i ∉ L → τ.get i = some b
theorem Ext.refl : Ext σ σ := fun _ _ h => h
theorem Ext.trans {τ υ : Mem} (h : Ext σ τ) (k : Ext τ υ) : Ext σ υ := fun i b q => k i b (h i b q)
theorem Keep.refl {L : List Nat} : Keep L σ σ := fun _ _ h _ => h
theorem Keep.trans {L : List Nat} {τ υ : Mem} (h : Keep L σ τ) (k : Keep L τ υ) : Keep L σ υ := fun i b q n => k i b (h i b q n) n
theorem Keep.mono {L L' : List Nat} {τ : Mem} (h : Keep L σ τ) (hl : ∀ i ∈ L, i ∈ L') : Keep L' σ τ := fun i b q n => h i b q fun hi => n (hl i hi)
theorem Ext.keep {L : List Nat} {τ : Mem} (h : Ext σ τ) : Keep L σ τ := fun i b q _ => h i b q
theorem Ext.fresh {id : Nat} {b : Blk} (h : σ.get id = none) : Ext σ (σ.set id b) := by
  intro i c hi
  rw [Mem.get_set_ne _ _ (by rintro rfl; rw [h] at hi; cases hi)]
  exact hi
theorem isA_put (h : N.ok) : isA N A (putA N A σ) := ⟨putA_m, putA_w h, putA_t h⟩
theorem isA.eq (h : isA N A σ) : σ = putA N A σ := by
  unfold putA
  rw [Mem.set_self h.t, Mem.set_self h.w, Mem.set_self h.m]
theorem isA.ext {τ : Mem} (h : isA N A σ) (k : Ext σ τ) : isA N A τ := ⟨k _ _ h.m, k _ _ h.w, k _ _ h.t⟩
def Nm.l (N : Nm) : List Nat := [N.m, N.w, N.t]
theorem isA.keep {L : List Nat} {τ : Mem} (h : isA N A σ) (k : Keep L σ τ) (hd : N.m ∉ L ∧ N.w ∉ L ∧ N.t ∉ L) : isA N A τ := ⟨k _ _ h.m hd.1, k _ _ h.w hd.2.1, k _ _ h.t hd.2.2⟩
theorem Keep.put : Keep N.l σ (putA N A σ) := by
  intro i b hi hn
  simp only [Nm.l, List.mem_cons, List.not_mem_nil, or_false, not_or] at hn
  rw [putA_ne hn.1 hn.2.1 hn.2.2]; exact hi
theorem isA.fresh (h : isA N A σ) {id : Nat} (hid : σ.get id = none) : id ≠ N.m ∧ id ≠ N.w ∧ id ≠ N.t :=
  ⟨fun e => (by rw [e, h.m] at hid; cases hid), fun e => (by rw [e, h.w] at hid; cases hid), fun e => (by rw [e, h.t] at hid; cases hid)⟩
structure Cf.ok (c : Cf) : Prop where
  T : 1 ≤ c.T ∧ c.T ≤ 8
  S : 1 ≤ c.S ∧ c.S ≤ 65536
  C : 1 ≤ c.C ∧ c.C ≤ 64
  W : 17 ≤ c.W ∧ c.W ≤ 256
  G : 1 ≤ c.G ∧ c.G ≤ 65535
  P : 0 ≤ c.P ∧ c.P ≤ 1000
  R : 1 ≤ c.R ∧ c.R ≤ 16
def Cf.slot (c : Cf) (s : Int) : Int := 6 + c.T + 2 * s
def Cf.chunk (c : Cf) (k : Int) : Int := 6 + c.T + 2 * c.S + 3 * k
def Cf.base (c : Cf) (k : Int) : Int := 6 + c.T + 2 * c.S + 3 * c.C + c.W * k
def Cf.len (c : Cf) : Int := c.base c.C
theorem mulW {c : Cf} (h : c.ok) {k : Int} (h0 : 0 ≤ k) (h1 : k ≤ 1048576) : 0 ≤ c.W * k ∧ c.W * k ≤ 268435456 := by
  have hW := h.W
  refine ⟨Int.mul_nonneg (by omega) h0, ?_⟩
  calc c.W * k ≤ 256 * k := Int.mul_le_mul_of_nonneg_right hW.2 h0
    _ ≤ 268435456 := by omega
theorem c_lTop : s_layout_Top [] K σ = K (.int .i64 1) σ := by simp only [s_layout_Top, w_layout_Top, xMove, xPickT, xPickF, xNil, xFld, xExt0, xExt1, xExt30, xExt31, xExt32, xAdd, xSub, xMul, xEql, xNeq, xLss, xLeq, xGtr, xGeq, xEqPN, xEqNN, xNePN, xNeNN, xEqBB, xNeBB, xNot, xConv, xLen, xMin, xMax, xIfc, xIfT, xIfF, xIfD, xJoinE, xOs, xCs, xFldV, List.getD_cons_zero, List.getD_cons_succ, Nat.zero_add, Nat.reduceAdd, Mem.get_set_same, Mem.set_set, if_true, if_false, Bool.not_true, Bool.not_false, decide_true, decide_false, decide_eq_true_eq, decide_not, Bool.not_eq_true, Bool.false_eq_true, reduceIte, Int.reduceLT, Int.reduceLE, Int.reduceEq, Int.reduceNeg, Int.reduceAdd, Int.reduceSub]
theorem c_Open {k : Int} (h0 : 0 ≤ k) (h1 : k ≤ 65536) : s_layout_Open [.int .i64 k] K σ = K (.int .i64 (2 + k)) σ := by
  simp only [s_layout_Open, w_layout_Open, xMove, xPickT, xPickF, xNil, xFld, xExt0, xExt1, xExt30, xExt31, xExt32, xAdd, xSub, xMul, xEql, xNeq, xLss, xLeq, xGtr, xGeq, xEqPN, xEqNN, xNePN, xNeNN, xEqBB, xNeBB, xNot, xConv, xLen, xMin, xMax, xIfc, xIfT, xIfF, xIfD, xJoinE, xOs, xCs, xFldV, List.getD_cons_zero, List.getD_cons_succ, Nat.zero_add, Nat.reduceAdd, Mem.get_set_same, Mem.set_set, if_true, if_false, Bool.not_true, Bool.not_false, decide_true, decide_false, decide_eq_true_eq, decide_not, Bool.not_eq_true, Bool.false_eq_true, reduceIte, Int.reduceLT, Int.reduceLE, Int.reduceEq, Int.reduceNeg, Int.reduceAdd, Int.reduceSub]
  rw [IntWalk.i64_in _ (by omega)]
theorem c_Slot (h : C.ok) {s : Int} (h0 : 0 ≤ s) (h1 : s ≤ 65536) : s_layout_Slot [C.v, .int .i64 s] K σ = K (.int .i64 (C.slot s)) σ := by
  have := h.T
  simp only [s_layout_Slot, w_layout_Slot, Cf.v, xMove, xPickT, xPickF, xNil, xFld, xExt0, xExt1, xExt30, xExt31, xExt32, xAdd, xSub, xMul, xEql, xNeq, xLss, xLeq, xGtr, xGeq, xEqPN, xEqNN, xNePN, xNeNN, xEqBB, xNeBB, xNot, xConv, xLen, xMin, xMax, xIfc, xIfT, xIfF, xIfD, xJoinE, xOs, xCs, xFldV, List.getD_cons_zero, List.getD_cons_succ, Nat.zero_add, Nat.reduceAdd, Mem.get_set_same, Mem.set_set, if_true, if_false, Bool.not_true, Bool.not_false, decide_true, decide_false, decide_eq_true_eq, decide_not, Bool.not_eq_true, Bool.false_eq_true, reduceIte, Int.reduceLT, Int.reduceLE, Int.reduceEq, Int.reduceNeg, Int.reduceAdd, Int.reduceSub, locP_e, gBox_a, gBox_i, gBox_b, gBox_p, gLoad_s, gAlloc_s, gStore_a, gStore_i, gStore_b, gStore_p, sub_z, sub_s, sub_l, lay_z, lay_s, List.length_cons, List.length_nil, Nat.reduceLeDiff, Nat.le_refl, List.drop_zero, List.drop_succ_cons, List.take_succ_cons, List.take_zero, List.drop_nil, List.cons_append, List.nil_append, List.all_cons, List.all_nil, oneB_i, oneB_b, oneB_p, oneB_sl, Bool.and_true]
  rw [IntWalk.i64_in (6 + C.T) (by omega), IntWalk.i64_in (2 * s) (by omega), IntWalk.i64_in _ (by omega)]; rfl
theorem c_Chunk (h : C.ok) {s : Int} (h0 : 0 ≤ s) (h1 : s ≤ 65536) : s_layout_Chunk [C.v, .int .i64 s] K σ = K (.int .i64 (C.chunk s)) σ := by
  have := h.T
  have := h.S
  simp only [s_layout_Chunk, w_layout_Chunk, Cf.v, xMove, xPickT, xPickF, xNil, xFld, xExt0, xExt1, xExt30, xExt31, xExt32, xAdd, xSub, xMul, xEql, xNeq, xLss, xLeq, xGtr, xGeq, xEqPN, xEqNN, xNePN, xNeNN, xEqBB, xNeBB, xNot, xConv, xLen, xMin, xMax, xIfc, xIfT, xIfF, xIfD, xJoinE, xOs, xCs, xFldV, List.getD_cons_zero, List.getD_cons_succ, Nat.zero_add, Nat.reduceAdd, Mem.get_set_same, Mem.set_set, if_true, if_false, Bool.not_true, Bool.not_false, decide_true, decide_false, decide_eq_true_eq, decide_not, Bool.not_eq_true, Bool.false_eq_true, reduceIte, Int.reduceLT, Int.reduceLE, Int.reduceEq, Int.reduceNeg, Int.reduceAdd, Int.reduceSub, locP_e, gBox_a, gBox_i, gBox_b, gBox_p, gLoad_s, gAlloc_s, gStore_a, gStore_i, gStore_b, gStore_p, sub_z, sub_s, sub_l, lay_z, lay_s, List.length_cons, List.length_nil, Nat.reduceLeDiff, Nat.le_refl, List.drop_zero, List.drop_succ_cons, List.take_succ_cons, List.take_zero, List.drop_nil, List.cons_append, List.nil_append, List.all_cons, List.all_nil, oneB_i, oneB_b, oneB_p, oneB_sl, Bool.and_true]
  rw [IntWalk.i64_in (6 + C.T) (by omega), IntWalk.i64_in (2 * C.S) (by omega), IntWalk.i64_in (3 * s) (by omega), IntWalk.i64_in (6 + C.T + 2 * C.S) (by omega), IntWalk.i64_in _ (by omega)]; rfl
theorem c_Base (h : C.ok) {s : Int} (h0 : 0 ≤ s) (h1 : s ≤ 65536) : s_layout_Base [C.v, .int .i64 s] K σ = K (.int .i64 (C.base s)) σ := by
  have := h.T
  have := h.S
  have := h.C
  have := mulW h h0 (by omega)
  simp only [s_layout_Base, w_layout_Base, Cf.v, xMove, xPickT, xPickF, xNil, xFld, xExt0, xExt1, xExt30, xExt31, xExt32, xAdd, xSub, xMul, xEql, xNeq, xLss, xLeq, xGtr, xGeq, xEqPN, xEqNN, xNePN, xNeNN, xEqBB, xNeBB, xNot, xConv, xLen, xMin, xMax, xIfc, xIfT, xIfF, xIfD, xJoinE, xOs, xCs, xFldV, List.getD_cons_zero, List.getD_cons_succ, Nat.zero_add, Nat.reduceAdd, Mem.get_set_same, Mem.set_set, if_true, if_false, Bool.not_true, Bool.not_false, decide_true, decide_false, decide_eq_true_eq, decide_not, Bool.not_eq_true, Bool.false_eq_true, reduceIte, Int.reduceLT, Int.reduceLE, Int.reduceEq, Int.reduceNeg, Int.reduceAdd, Int.reduceSub, locP_e, gBox_a, gBox_i, gBox_b, gBox_p, gLoad_s, gAlloc_s, gStore_a, gStore_i, gStore_b, gStore_p, sub_z, sub_s, sub_l, lay_z, lay_s, List.length_cons, List.length_nil, Nat.reduceLeDiff, Nat.le_refl, List.drop_zero, List.drop_succ_cons, List.take_succ_cons, List.take_zero, List.drop_nil, List.cons_append, List.nil_append, List.all_cons, List.all_nil, oneB_i, oneB_b, oneB_p, oneB_sl, Bool.and_true]
  rw [IntWalk.i64_in (6 + C.T) (by omega), IntWalk.i64_in (2 * C.S) (by omega), IntWalk.i64_in (3 * C.C) (by omega), IntWalk.i64_in (6 + C.T + 2 * C.S) (by omega), IntWalk.i64_in (6 + C.T + 2 * C.S + 3 * C.C) (by omega), IntWalk.i64_in (C.W * s) (by omega), IntWalk.i64_in _ (by omega)]; rfl
theorem c_lLen (h : C.ok) : s_layout_Len [C.v] K σ = K (.int .i64 C.len) σ := by
  have := h.C
  have e := fun (K : Value → Mem → Prop) σ => c_Base (K := K) (σ := σ) h (s := C.C) (by omega) (by omega)
  simp only [s_layout_Len, w_layout_Len, Cf.v, xMove, xPickT, xPickF, xNil, xFld, xExt0, xExt1, xExt30, xExt31, xExt32, xAdd, xSub, xMul, xEql, xNeq, xLss, xLeq, xGtr, xGeq, xEqPN, xEqNN, xNePN, xNeNN, xEqBB, xNeBB, xNot, xConv, xLen, xMin, xMax, xIfc, xIfT, xIfF, xIfD, xJoinE, xOs, xCs, xFldV, List.getD_cons_zero, List.getD_cons_succ, Nat.zero_add, Nat.reduceAdd, Mem.get_set_same, Mem.set_set, if_true, if_false, Bool.not_true, Bool.not_false, decide_true, decide_false, decide_eq_true_eq, decide_not, Bool.not_eq_true, Bool.false_eq_true, reduceIte, Int.reduceLT, Int.reduceLE, Int.reduceEq, Int.reduceNeg, Int.reduceAdd, Int.reduceSub, locP_e, gBox_a, gBox_i, gBox_b, gBox_p, gLoad_s, gAlloc_s, gStore_a, gStore_i, gStore_b, gStore_p, sub_z, sub_s, sub_l, lay_z, lay_s, List.length_cons, List.length_nil, Nat.reduceLeDiff, Nat.le_refl, List.drop_zero, List.drop_succ_cons, List.take_succ_cons, List.take_zero, List.drop_nil, List.cons_append, List.nil_append, List.all_cons, List.all_nil, oneB_i, oneB_b, oneB_p, oneB_sl, Bool.and_true] at e ⊢
  rw [e]; rfl
section
variable {K : Value → Prop}
theorem shl2_0 : xF (fBin .shl .no) [.int .i64 2, .int .i64 0] K = K (.int .i64 2) := nr rfl
theorem shl2_1 : xF (fBin .shl .no) [.int .i64 2, .int .i64 1] K = K (.int .i64 4) := nr rfl
theorem shl2_2 : xF (fBin .shl .no) [.int .i64 2, .int .i64 2] K = K (.int .i64 8) := nr rfl
theorem shl2_3 : xF (fBin .shl .no) [.int .i64 2, .int .i64 3] K = K (.int .i64 16) := nr rfl
end
theorem i64_1 : IntKind.i64.wrap 1 = 1 := nr rfl
theorem i64_2 : IntKind.i64.wrap 2 = 2 := nr rfl
theorem i64_3 : IntKind.i64.wrap 3 = 3 := nr rfl
theorem i64_4 : IntKind.i64.wrap 4 = 4 := nr rfl
theorem i64_5 : IntKind.i64.wrap 5 = 5 := nr rfl
theorem i64_9 : IntKind.i64.wrap 9 = 9 := nr rfl
theorem i64_17 : IntKind.i64.wrap 17 = 17 := nr rfl
def classOf (n : Int) : Int := if n < 1 then -1 else if n ≤ 2 then 0 else if n ≤ 4 then 1 else if n ≤ 8 then 2 else if n ≤ 16 then 3 else -1
theorem c_Class {n : Int} (hk : K (.int .i64 (classOf n)) σ) : s_layout_Class [.int .i64 n] K σ := by
  simp only [s_layout_Class, w_layout_Class, xMove, xPickT, xPickF, xNil, xFld, xExt0, xExt1, xExt30, xExt31, xExt32, xAdd, xSub, xMul, xEql, xNeq, xLss, xLeq, xGtr, xGeq, xEqPN, xEqNN, xNePN, xNeNN, xEqBB, xNeBB, xNot, xConv, xLen, xMin, xMax, xIfc, xIfT, xIfF, xIfD, xJoinE, xOs, xCs, xFldV, List.getD_cons_zero, List.getD_cons_succ, Nat.zero_add, Nat.reduceAdd, Mem.get_set_same, Mem.set_set, if_true, if_false, Bool.not_true, Bool.not_false, decide_true, decide_false, decide_eq_true_eq, decide_not, Bool.not_eq_true, Bool.false_eq_true, reduceIte, Int.reduceLT, Int.reduceLE, Int.reduceEq, Int.reduceNeg, Int.reduceAdd, Int.reduceSub]
  by_cases h : 1 ≤ n
  · unfold classOf at hk
    rw [if_neg (by omega)] at hk
    refine xLoop_fold ?_
    simp only [w_layout_Class_l3, w_layout_Class_l3b, w_layout_Class_j2, w_layout_Class_j2b, w_layout_Class_j1, w_layout_Class_j1b, xMove, xPickT, xPickF, xNil, xFld, xExt0, xExt1, xExt30, xExt31, xExt32, xAdd, xSub, xMul, xEql, xNeq, xLss, xLeq, xGtr, xGeq, xEqPN, xEqNN, xNePN, xNeNN, xEqBB, xNeBB, xNot, xConv, xLen, xMin, xMax, xIfc, xIfT, xIfF, xIfD, xJoinE, xOs, xCs, xFldV, List.getD_cons_zero, List.getD_cons_succ, Nat.zero_add, Nat.reduceAdd, Mem.get_set_same, Mem.set_set, if_true, if_false, Bool.not_true, Bool.not_false, decide_true, decide_false, decide_eq_true_eq, decide_not, Bool.not_eq_true, Bool.false_eq_true, reduceIte, Int.reduceLT, Int.reduceLE, Int.reduceEq, Int.reduceNeg, Int.reduceAdd, Int.reduceSub, h, shl2_0, i64_1]
    by_cases h1 : n ≤ 2
    · rw [if_pos h1] at hk ⊢; exact hk
    rw [if_neg h1] at hk ⊢
    refine xLoop_fold ?_
    simp only [w_layout_Class_l3, w_layout_Class_l3b, w_layout_Class_j2, w_layout_Class_j2b, w_layout_Class_j1, w_layout_Class_j1b, xMove, xPickT, xPickF, xNil, xFld, xExt0, xExt1, xExt30, xExt31, xExt32, xAdd, xSub, xMul, xEql, xNeq, xLss, xLeq, xGtr, xGeq, xEqPN, xEqNN, xNePN, xNeNN, xEqBB, xNeBB, xNot, xConv, xLen, xMin, xMax, xIfc, xIfT, xIfF, xIfD, xJoinE, xOs, xCs, xFldV, List.getD_cons_zero, List.getD_cons_succ, Nat.zero_add, Nat.reduceAdd, Mem.get_set_same, Mem.set_set, if_true, if_false, Bool.not_true, Bool.not_false, decide_true, decide_false, decide_eq_true_eq, decide_not, Bool.not_eq_true, Bool.false_eq_true, reduceIte, Int.reduceLT, Int.reduceLE, Int.reduceEq, Int.reduceNeg, Int.reduceAdd, Int.reduceSub, h, shl2_1, i64_2]
    by_cases h1 : n ≤ 4
    · rw [if_pos h1] at hk ⊢; exact hk
    rw [if_neg h1] at hk ⊢
    refine xLoop_fold ?_
    simp only [w_layout_Class_l3, w_layout_Class_l3b, w_layout_Class_j2, w_layout_Class_j2b, w_layout_Class_j1, w_layout_Class_j1b, xMove, xPickT, xPickF, xNil, xFld, xExt0, xExt1, xExt30, xExt31, xExt32, xAdd, xSub, xMul, xEql, xNeq, xLss, xLeq, xGtr, xGeq, xEqPN, xEqNN, xNePN, xNeNN, xEqBB, xNeBB, xNot, xConv, xLen, xMin, xMax, xIfc, xIfT, xIfF, xIfD, xJoinE, xOs, xCs, xFldV, List.getD_cons_zero, List.getD_cons_succ, Nat.zero_add, Nat.reduceAdd, Mem.get_set_same, Mem.set_set, if_true, if_false, Bool.not_true, Bool.not_false, decide_true, decide_false, decide_eq_true_eq, decide_not, Bool.not_eq_true, Bool.false_eq_true, reduceIte, Int.reduceLT, Int.reduceLE, Int.reduceEq, Int.reduceNeg, Int.reduceAdd, Int.reduceSub, h, shl2_2, i64_3]
    by_cases h1 : n ≤ 8
    · rw [if_pos h1] at hk ⊢; exact hk
    rw [if_neg h1] at hk ⊢
    refine xLoop_fold ?_
    simp only [w_layout_Class_l3, w_layout_Class_l3b, w_layout_Class_j2, w_layout_Class_j2b, w_layout_Class_j1, w_layout_Class_j1b, xMove, xPickT, xPickF, xNil, xFld, xExt0, xExt1, xExt30, xExt31, xExt32, xAdd, xSub, xMul, xEql, xNeq, xLss, xLeq, xGtr, xGeq, xEqPN, xEqNN, xNePN, xNeNN, xEqBB, xNeBB, xNot, xConv, xLen, xMin, xMax, xIfc, xIfT, xIfF, xIfD, xJoinE, xOs, xCs, xFldV, List.getD_cons_zero, List.getD_cons_succ, Nat.zero_add, Nat.reduceAdd, Mem.get_set_same, Mem.set_set, if_true, if_false, Bool.not_true, Bool.not_false, decide_true, decide_false, decide_eq_true_eq, decide_not, Bool.not_eq_true, Bool.false_eq_true, reduceIte, Int.reduceLT, Int.reduceLE, Int.reduceEq, Int.reduceNeg, Int.reduceAdd, Int.reduceSub, h, shl2_3, i64_4]
    by_cases h1 : n ≤ 16
    · rw [if_pos h1] at hk ⊢; exact hk
    rw [if_neg h1] at hk ⊢
    refine xLoop_fold ?_
    simp only [w_layout_Class_l3, w_layout_Class_l3b, w_layout_Class_j2, w_layout_Class_j2b, w_layout_Class_j1, w_layout_Class_j1b, xMove, xPickT, xPickF, xNil, xFld, xExt0, xExt1, xExt30, xExt31, xExt32, xAdd, xSub, xMul, xEql, xNeq, xLss, xLeq, xGtr, xGeq, xEqPN, xEqNN, xNePN, xNeNN, xEqBB, xNeBB, xNot, xConv, xLen, xMin, xMax, xIfc, xIfT, xIfF, xIfD, xJoinE, xOs, xCs, xFldV, List.getD_cons_zero, List.getD_cons_succ, Nat.zero_add, Nat.reduceAdd, Mem.get_set_same, Mem.set_set, if_true, if_false, Bool.not_true, Bool.not_false, decide_true, decide_false, decide_eq_true_eq, decide_not, Bool.not_eq_true, Bool.false_eq_true, reduceIte, Int.reduceLT, Int.reduceLE, Int.reduceEq, Int.reduceNeg, Int.reduceAdd, Int.reduceSub]
    exact hk
  · unfold classOf at hk
    rw [if_pos (by omega)] at hk
    refine xLoop_fold ?_
    simp only [w_layout_Class_l3, w_layout_Class_l3b, w_layout_Class_j2, w_layout_Class_j2b, w_layout_Class_j1, w_layout_Class_j1b, xMove, xPickT, xPickF, xNil, xFld, xExt0, xExt1, xExt30, xExt31, xExt32, xAdd, xSub, xMul, xEql, xNeq, xLss, xLeq, xGtr, xGeq, xEqPN, xEqNN, xNePN, xNeNN, xEqBB, xNeBB, xNot, xConv, xLen, xMin, xMax, xIfc, xIfT, xIfF, xIfD, xJoinE, xOs, xCs, xFldV, List.getD_cons_zero, List.getD_cons_succ, Nat.zero_add, Nat.reduceAdd, Mem.get_set_same, Mem.set_set, if_true, if_false, Bool.not_true, Bool.not_false, decide_true, decide_false, decide_eq_true_eq, decide_not, Bool.not_eq_true, Bool.false_eq_true, reduceIte, Int.reduceLT, Int.reduceLE, Int.reduceEq, Int.reduceNeg, Int.reduceAdd, Int.reduceSub, h, i64_1]
    refine xLoop_fold ?_
    simp only [w_layout_Class_l3, w_layout_Class_l3b, w_layout_Class_j2, w_layout_Class_j2b, w_layout_Class_j1, w_layout_Class_j1b, xMove, xPickT, xPickF, xNil, xFld, xExt0, xExt1, xExt30, xExt31, xExt32, xAdd, xSub, xMul, xEql, xNeq, xLss, xLeq, xGtr, xGeq, xEqPN, xEqNN, xNePN, xNeNN, xEqBB, xNeBB, xNot, xConv, xLen, xMin, xMax, xIfc, xIfT, xIfF, xIfD, xJoinE, xOs, xCs, xFldV, List.getD_cons_zero, List.getD_cons_succ, Nat.zero_add, Nat.reduceAdd, Mem.get_set_same, Mem.set_set, if_true, if_false, Bool.not_true, Bool.not_false, decide_true, decide_false, decide_eq_true_eq, decide_not, Bool.not_eq_true, Bool.false_eq_true, reduceIte, Int.reduceLT, Int.reduceLE, Int.reduceEq, Int.reduceNeg, Int.reduceAdd, Int.reduceSub, h, i64_2]
    refine xLoop_fold ?_
    simp only [w_layout_Class_l3, w_layout_Class_l3b, w_layout_Class_j2, w_layout_Class_j2b, w_layout_Class_j1, w_layout_Class_j1b, xMove, xPickT, xPickF, xNil, xFld, xExt0, xExt1, xExt30, xExt31, xExt32, xAdd, xSub, xMul, xEql, xNeq, xLss, xLeq, xGtr, xGeq, xEqPN, xEqNN, xNePN, xNeNN, xEqBB, xNeBB, xNot, xConv, xLen, xMin, xMax, xIfc, xIfT, xIfF, xIfD, xJoinE, xOs, xCs, xFldV, List.getD_cons_zero, List.getD_cons_succ, Nat.zero_add, Nat.reduceAdd, Mem.get_set_same, Mem.set_set, if_true, if_false, Bool.not_true, Bool.not_false, decide_true, decide_false, decide_eq_true_eq, decide_not, Bool.not_eq_true, Bool.false_eq_true, reduceIte, Int.reduceLT, Int.reduceLE, Int.reduceEq, Int.reduceNeg, Int.reduceAdd, Int.reduceSub, h, i64_3]
    refine xLoop_fold ?_
    simp only [w_layout_Class_l3, w_layout_Class_l3b, w_layout_Class_j2, w_layout_Class_j2b, w_layout_Class_j1, w_layout_Class_j1b, xMove, xPickT, xPickF, xNil, xFld, xExt0, xExt1, xExt30, xExt31, xExt32, xAdd, xSub, xMul, xEql, xNeq, xLss, xLeq, xGtr, xGeq, xEqPN, xEqNN, xNePN, xNeNN, xEqBB, xNeBB, xNot, xConv, xLen, xMin, xMax, xIfc, xIfT, xIfF, xIfD, xJoinE, xOs, xCs, xFldV, List.getD_cons_zero, List.getD_cons_succ, Nat.zero_add, Nat.reduceAdd, Mem.get_set_same, Mem.set_set, if_true, if_false, Bool.not_true, Bool.not_false, decide_true, decide_false, decide_eq_true_eq, decide_not, Bool.not_eq_true, Bool.false_eq_true, reduceIte, Int.reduceLT, Int.reduceLE, Int.reduceEq, Int.reduceNeg, Int.reduceAdd, Int.reduceSub, h, i64_4]
    refine xLoop_fold ?_
    simp only [w_layout_Class_l3, w_layout_Class_l3b, w_layout_Class_j2, w_layout_Class_j2b, w_layout_Class_j1, w_layout_Class_j1b, xMove, xPickT, xPickF, xNil, xFld, xExt0, xExt1, xExt30, xExt31, xExt32, xAdd, xSub, xMul, xEql, xNeq, xLss, xLeq, xGtr, xGeq, xEqPN, xEqNN, xNePN, xNeNN, xEqBB, xNeBB, xNot, xConv, xLen, xMin, xMax, xIfc, xIfT, xIfF, xIfD, xJoinE, xOs, xCs, xFldV, List.getD_cons_zero, List.getD_cons_succ, Nat.zero_add, Nat.reduceAdd, Mem.get_set_same, Mem.set_set, if_true, if_false, Bool.not_true, Bool.not_false, decide_true, decide_false, decide_eq_true_eq, decide_not, Bool.not_eq_true, Bool.false_eq_true, reduceIte, Int.reduceLT, Int.reduceLE, Int.reduceEq, Int.reduceNeg, Int.reduceAdd, Int.reduceSub]
    exact hk
def roomOf (k : Int) : Int := if k = 0 then 3 else if k = 1 then 5 else if k = 2 then 9 else 17
theorem c_Room {k : Int} (h0 : 0 ≤ k) (h1 : k ≤ 3) : s_layout_Room [.int .i64 k] K σ = K (.int .i64 (roomOf k)) σ := by
  simp only [s_layout_Room, w_layout_Room, xMove, xPickT, xPickF, xNil, xFld, xExt0, xExt1, xExt30, xExt31, xExt32, xAdd, xSub, xMul, xEql, xNeq, xLss, xLeq, xGtr, xGeq, xEqPN, xEqNN, xNePN, xNeNN, xEqBB, xNeBB, xNot, xConv, xLen, xMin, xMax, xIfc, xIfT, xIfF, xIfD, xJoinE, xOs, xCs, xFldV, List.getD_cons_zero, List.getD_cons_succ, Nat.zero_add, Nat.reduceAdd, Mem.get_set_same, Mem.set_set, if_true, if_false, Bool.not_true, Bool.not_false, decide_true, decide_false, decide_eq_true_eq, decide_not, Bool.not_eq_true, Bool.false_eq_true, reduceIte, Int.reduceLT, Int.reduceLE, Int.reduceEq, Int.reduceNeg, Int.reduceAdd, Int.reduceSub]
  rcases (show k = 0 ∨ k = 1 ∨ k = 2 ∨ k = 3 by omega) with rfl | rfl | rfl | rfl <;>
    simp only [shl2_0, shl2_1, shl2_2, shl2_3, xMove, xPickT, xPickF, xNil, xFld, xExt0, xExt1, xExt30, xExt31, xExt32, xAdd, xSub, xMul, xEql, xNeq, xLss, xLeq, xGtr, xGeq, xEqPN, xEqNN, xNePN, xNeNN, xEqBB, xNeBB, xNot, xConv, xLen, xMin, xMax, xIfc, xIfT, xIfF, xIfD, xJoinE, xOs, xCs, xFldV, List.getD_cons_zero, List.getD_cons_succ, Nat.zero_add, Nat.reduceAdd, Mem.get_set_same, Mem.set_set, if_true, if_false, Bool.not_true, Bool.not_false, decide_true, decide_false, decide_eq_true_eq, decide_not, Bool.not_eq_true, Bool.false_eq_true, reduceIte, Int.reduceLT, Int.reduceLE, Int.reduceEq, Int.reduceNeg, Int.reduceAdd, Int.reduceSub, i64_3, i64_5, i64_9, i64_17] <;> rfl
end Go.Fl
namespace Go.Fl
open Go
set_option linter.unusedVariables false
set_option linter.unusedSimpArgs false
variable {N : Nm} {A B : Ar} {σ : Mem} {K : Value → Mem → Prop} {C : Cf} {who : Int}
def Cf.okB (c : Cf) : Bool :=
  (decide (1 ≤ c.T) && decide (c.T ≤ 8) && decide (1 ≤ c.S) && decide (c.S ≤ 65536)) && (decide (1 ≤ c.C) && decide (c.C ≤ 64) && decide (17 ≤ c.W) && decide (c.W ≤ 256)) &&
  (decide (1 ≤ c.G) && decide (c.G ≤ 65535) && decide (0 ≤ c.P) && decide (c.P ≤ 1000) && decide (1 ≤ c.R) && decide (c.R ≤ 16))
theorem Cf.okB_iff {c : Cf} : c.okB = true ↔ c.ok := by
  simp only [Cf.okB, Bool.and_eq_true, decide_eq_true_eq]
  constructor
  · rintro ⟨⟨⟨⟨⟨a, b⟩, d⟩, e⟩, ⟨⟨f, g⟩, h⟩, i⟩, ⟨⟨⟨⟨j, k⟩, l⟩, m⟩, n⟩, o⟩
    exact ⟨⟨a, b⟩, ⟨d, e⟩, ⟨f, g⟩, ⟨h, i⟩, ⟨j, k⟩, ⟨l, m⟩, ⟨n, o⟩⟩
  · rintro ⟨⟨a, b⟩, ⟨d, e⟩, ⟨f, g⟩, ⟨h, i⟩, ⟨j, k⟩, ⟨l, m⟩, ⟨n, o⟩⟩
    exact ⟨⟨⟨⟨⟨a, b⟩, d⟩, e⟩, ⟨⟨f, g⟩, h⟩, i⟩, ⟨⟨⟨⟨j, k⟩, l⟩, m⟩, n⟩, o⟩
theorem check_j3 {x y z : Bool} : w_layout_Check_j3b K (.bool x) (.bool y) (.bool z) σ = K (.bool (x && y && z)) σ := by
  simp only [w_layout_Check_j3b, xMove, xPickT, xPickF, xNil, xFld, xExt0, xExt1, xExt30, xExt31, xExt32, xAdd, xSub, xMul, xEql, xNeq, xLss, xLeq, xGtr, xGeq, xEqPN, xEqNN, xNePN, xNeNN, xEqBB, xNeBB, xNot, xConv, xLen, xMin, xMax, xIfc, xIfT, xIfF, xIfD, xJoinE, xOs, xCs, xFldV, List.getD_cons_zero, List.getD_cons_succ, Nat.zero_add, Nat.reduceAdd, Mem.get_set_same, Mem.set_set, if_true, if_false, Bool.not_true, Bool.not_false, decide_true, decide_false, decide_eq_true_eq, decide_not, Bool.not_eq_true, Bool.false_eq_true, reduceIte, Int.reduceLT, Int.reduceLE, Int.reduceEq, Int.reduceNeg, Int.reduceAdd, Int.reduceSub, locP_e, gBox_a, gBox_i, gBox_b, gBox_p, gLoad_s, gAlloc_s, gStore_a, gStore_i, gStore_b, gStore_p, sub_z, sub_s, sub_l, lay_z, lay_s, List.length_cons, List.length_nil, Nat.reduceLeDiff, Nat.le_refl, List.drop_zero, List.drop_succ_cons, List.take_succ_cons, List.take_zero, List.drop_nil, List.cons_append, List.nil_append, List.all_cons, List.all_nil, oneB_i, oneB_b, oneB_p, oneB_sl, Bool.and_true]
  cases x <;> cases y <;> cases z <;> simp only [xMove, xPickT, xPickF, xNil, xFld, xExt0, xExt1, xExt30, xExt31, xExt32, xAdd, xSub, xMul, xEql, xNeq, xLss, xLeq, xGtr, xGeq, xEqPN, xEqNN, xNePN, xNeNN, xEqBB, xNeBB, xNot, xConv, xLen, xMin, xMax, xIfc, xIfT, xIfF, xIfD, xJoinE, xOs, xCs, xFldV, List.getD_cons_zero, List.getD_cons_succ, Nat.zero_add, Nat.reduceAdd, Mem.get_set_same, Mem.set_set, if_true, if_false, Bool.not_true, Bool.not_false, decide_true, decide_false, decide_eq_true_eq, decide_not, Bool.not_eq_true, Bool.false_eq_true, reduceIte, Int.reduceLT, Int.reduceLE, Int.reduceEq, Int.reduceNeg, Int.reduceAdd, Int.reduceSub, locP_e, gBox_a, gBox_i, gBox_b, gBox_p, gLoad_s, gAlloc_s, gStore_a, gStore_i, gStore_b, gStore_p, sub_z, sub_s, sub_l, lay_z, lay_s, List.length_cons, List.length_nil, Nat.reduceLeDiff, Nat.le_refl, List.drop_zero, List.drop_succ_cons, List.take_succ_cons, List.take_zero, List.drop_nil, List.cons_append, List.nil_append, List.all_cons, List.all_nil, oneB_i, oneB_b, oneB_p, oneB_sl, Bool.and_true, Bool.and_true, Bool.and_false, Bool.false_and, Bool.true_and]
theorem check_j2 {x y : Bool} : w_layout_Check_j2b K (.bool x) (.bool y) C.l σ = K (.bool (x && y && (decide (1 ≤ C.G) && decide (C.G ≤ 65535) && decide (0 ≤ C.P) && decide (C.P ≤ 1000) && decide (1 ≤ C.R) && decide (C.R ≤ 16)))) σ := by
  simp only [w_layout_Check_j2b, w_layout_Check_j3, Cf.l, xMove, xPickT, xPickF, xNil, xFld, xExt0, xExt1, xExt30, xExt31, xExt32, xAdd, xSub, xMul, xEql, xNeq, xLss, xLeq, xGtr, xGeq, xEqPN, xEqNN, xNePN, xNeNN, xEqBB, xNeBB, xNot, xConv, xLen, xMin, xMax, xIfc, xIfT, xIfF, xIfD, xJoinE, xOs, xCs, xFldV, List.getD_cons_zero, List.getD_cons_succ, Nat.zero_add, Nat.reduceAdd, Mem.get_set_same, Mem.set_set, if_true, if_false, Bool.not_true, Bool.not_false, decide_true, decide_false, decide_eq_true_eq, decide_not, Bool.not_eq_true, Bool.false_eq_true, reduceIte, Int.reduceLT, Int.reduceLE, Int.reduceEq, Int.reduceNeg, Int.reduceAdd, Int.reduceSub, locP_e, gBox_a, gBox_i, gBox_b, gBox_p, gLoad_s, gAlloc_s, gStore_a, gStore_i, gStore_b, gStore_p, sub_z, sub_s, sub_l, lay_z, lay_s, List.length_cons, List.length_nil, Nat.reduceLeDiff, Nat.le_refl, List.drop_zero, List.drop_succ_cons, List.take_succ_cons, List.take_zero, List.drop_nil, List.cons_append, List.nil_append, List.all_cons, List.all_nil, oneB_i, oneB_b, oneB_p, oneB_sl, Bool.and_true, check_j3]
  by_cases h1 : 1 ≤ C.G <;> by_cases h2 : C.G ≤ 65535 <;> by_cases h3 : 0 ≤ C.P <;> by_cases h4 : C.P ≤ 1000 <;> by_cases h5 : 1 ≤ C.R <;>
    simp only [h1, h2, h3, h4, h5, xMove, xPickT, xPickF, xNil, xFld, xExt0, xExt1, xExt30, xExt31, xExt32, xAdd, xSub, xMul, xEql, xNeq, xLss, xLeq, xGtr, xGeq, xEqPN, xEqNN, xNePN, xNeNN, xEqBB, xNeBB, xNot, xConv, xLen, xMin, xMax, xIfc, xIfT, xIfF, xIfD, xJoinE, xOs, xCs, xFldV, List.getD_cons_zero, List.getD_cons_succ, Nat.zero_add, Nat.reduceAdd, Mem.get_set_same, Mem.set_set, if_true, if_false, Bool.not_true, Bool.not_false, decide_true, decide_false, decide_eq_true_eq, decide_not, Bool.not_eq_true, Bool.false_eq_true, reduceIte, Int.reduceLT, Int.reduceLE, Int.reduceEq, Int.reduceNeg, Int.reduceAdd, Int.reduceSub, locP_e, gBox_a, gBox_i, gBox_b, gBox_p, gLoad_s, gAlloc_s, gStore_a, gStore_i, gStore_b, gStore_p, sub_z, sub_s, sub_l, lay_z, lay_s, List.length_cons, List.length_nil, Nat.reduceLeDiff, Nat.le_refl, List.drop_zero, List.drop_succ_cons, List.take_succ_cons, List.take_zero, List.drop_nil, List.cons_append, List.nil_append, List.all_cons, List.all_nil, oneB_i, oneB_b, oneB_p, oneB_sl, Bool.and_true, check_j3, Bool.and_true, Bool.and_false, Bool.false_and, Bool.true_and]
theorem c_Check : s_layout_Check [C.v] K σ = K (.bool C.okB) σ := by
  have j1 : ∀ {x : Bool}, w_layout_Check_j1b K (.bool x) C.l σ = K (.bool (x && (decide (1 ≤ C.C) && decide (C.C ≤ 64) && decide (17 ≤ C.W) && decide (C.W ≤ 256)) && (decide (1 ≤ C.G) && decide (C.G ≤ 65535) && decide (0 ≤ C.P) && decide (C.P ≤ 1000) && decide (1 ≤ C.R) && decide (C.R ≤ 16)))) σ := by
    intro x
    have e := @check_j2 σ K C
    simp only [Cf.l] at e
    simp only [w_layout_Check_j1b, w_layout_Check_j2, Cf.l, xMove, xPickT, xPickF, xNil, xFld, xExt0, xExt1, xExt30, xExt31, xExt32, xAdd, xSub, xMul, xEql, xNeq, xLss, xLeq, xGtr, xGeq, xEqPN, xEqNN, xNePN, xNeNN, xEqBB, xNeBB, xNot, xConv, xLen, xMin, xMax, xIfc, xIfT, xIfF, xIfD, xJoinE, xOs, xCs, xFldV, List.getD_cons_zero, List.getD_cons_succ, Nat.zero_add, Nat.reduceAdd, Mem.get_set_same, Mem.set_set, if_true, if_false, Bool.not_true, Bool.not_false, decide_true, decide_false, decide_eq_true_eq, decide_not, Bool.not_eq_true, Bool.false_eq_true, reduceIte, Int.reduceLT, Int.reduceLE, Int.reduceEq, Int.reduceNeg, Int.reduceAdd, Int.reduceSub, locP_e, gBox_a, gBox_i, gBox_b, gBox_p, gLoad_s, gAlloc_s, gStore_a, gStore_i, gStore_b, gStore_p, sub_z, sub_s, sub_l, lay_z, lay_s, List.length_cons, List.length_nil, Nat.reduceLeDiff, Nat.le_refl, List.drop_zero, List.drop_succ_cons, List.take_succ_cons, List.take_zero, List.drop_nil, List.cons_append, List.nil_append, List.all_cons, List.all_nil, oneB_i, oneB_b, oneB_p, oneB_sl, Bool.and_true]
    by_cases h1 : 1 ≤ C.C <;> by_cases h2 : C.C ≤ 64 <;> by_cases h3 : 17 ≤ C.W <;>
      simp only [h1, h2, h3, xMove, xPickT, xPickF, xNil, xFld, xExt0, xExt1, xExt30, xExt31, xExt32, xAdd, xSub, xMul, xEql, xNeq, xLss, xLeq, xGtr, xGeq, xEqPN, xEqNN, xNePN, xNeNN, xEqBB, xNeBB, xNot, xConv, xLen, xMin, xMax, xIfc, xIfT, xIfF, xIfD, xJoinE, xOs, xCs, xFldV, List.getD_cons_zero, List.getD_cons_succ, Nat.zero_add, Nat.reduceAdd, Mem.get_set_same, Mem.set_set, if_true, if_false, Bool.not_true, Bool.not_false, decide_true, decide_false, decide_eq_true_eq, decide_not, Bool.not_eq_true, Bool.false_eq_true, reduceIte, Int.reduceLT, Int.reduceLE, Int.reduceEq, Int.reduceNeg, Int.reduceAdd, Int.reduceSub, locP_e, gBox_a, gBox_i, gBox_b, gBox_p, gLoad_s, gAlloc_s, gStore_a, gStore_i, gStore_b, gStore_p, sub_z, sub_s, sub_l, lay_z, lay_s, List.length_cons, List.length_nil, Nat.reduceLeDiff, Nat.le_refl, List.drop_zero, List.drop_succ_cons, List.take_succ_cons, List.take_zero, List.drop_nil, List.cons_append, List.nil_append, List.all_cons, List.all_nil, oneB_i, oneB_b, oneB_p, oneB_sl, Bool.and_true, e, Bool.and_true, Bool.and_false, Bool.false_and, Bool.true_and]
  simp only [Cf.l] at j1
  simp only [s_layout_Check, w_layout_Check, w_layout_Check_j1, Cf.v, xMove, xPickT, xPickF, xNil, xFld, xExt0, xExt1, xExt30, xExt31, xExt32, xAdd, xSub, xMul, xEql, xNeq, xLss, xLeq, xGtr, xGeq, xEqPN, xEqNN, xNePN, xNeNN, xEqBB, xNeBB, xNot, xConv, xLen, xMin, xMax, xIfc, xIfT, xIfF, xIfD, xJoinE, xOs, xCs, xFldV, List.getD_cons_zero, List.getD_cons_succ, Nat.zero_add, Nat.reduceAdd, Mem.get_set_same, Mem.set_set, if_true, if_false, Bool.not_true, Bool.not_false, decide_true, decide_false, decide_eq_true_eq, decide_not, Bool.not_eq_true, Bool.false_eq_true, reduceIte, Int.reduceLT, Int.reduceLE, Int.reduceEq, Int.reduceNeg, Int.reduceAdd, Int.reduceSub, locP_e, gBox_a, gBox_i, gBox_b, gBox_p, gLoad_s, gAlloc_s, gStore_a, gStore_i, gStore_b, gStore_p, sub_z, sub_s, sub_l, lay_z, lay_s, List.length_cons, List.length_nil, Nat.reduceLeDiff, Nat.le_refl, List.drop_zero, List.drop_succ_cons, List.take_succ_cons, List.take_zero, List.drop_nil, List.cons_append, List.nil_append, List.all_cons, List.all_nil, oneB_i, oneB_b, oneB_p, oneB_sl, Bool.and_true]
  unfold Cf.okB
  by_cases h1 : 1 ≤ C.T <;> by_cases h2 : C.T ≤ 8 <;> by_cases h3 : 1 ≤ C.S <;>
    simp only [h1, h2, h3, xMove, xPickT, xPickF, xNil, xFld, xExt0, xExt1, xExt30, xExt31, xExt32, xAdd, xSub, xMul, xEql, xNeq, xLss, xLeq, xGtr, xGeq, xEqPN, xEqNN, xNePN, xNeNN, xEqBB, xNeBB, xNot, xConv, xLen, xMin, xMax, xIfc, xIfT, xIfF, xIfD, xJoinE, xOs, xCs, xFldV, List.getD_cons_zero, List.getD_cons_succ, Nat.zero_add, Nat.reduceAdd, Mem.get_set_same, Mem.set_set, if_true, if_false, Bool.not_true, Bool.not_false, decide_true, decide_false, decide_eq_true_eq, decide_not, Bool.not_eq_true, Bool.false_eq_true, reduceIte, Int.reduceLT, Int.reduceLE, Int.reduceEq, Int.reduceNeg, Int.reduceAdd, Int.reduceSub, locP_e, gBox_a, gBox_i, gBox_b, gBox_p, gLoad_s, gAlloc_s, gStore_a, gStore_i, gStore_b, gStore_p, sub_z, sub_s, sub_l, lay_z, lay_s, List.length_cons, List.length_nil, Nat.reduceLeDiff, Nat.le_refl, List.drop_zero, List.drop_succ_cons, List.take_succ_cons, List.take_zero, List.drop_nil, List.cons_append, List.nil_append, List.all_cons, List.all_nil, oneB_i, oneB_b, oneB_p, oneB_sl, Bool.and_true, j1, Bool.and_true, Bool.and_false, Bool.false_and, Bool.true_and]
theorem hMakeS_eq {es by' : Nat} {z : List Value} {n : Int} {K : Value → Mem → Prop} {σ : Mem} (h0 : 0 ≤ n) (h1 : n ≤ 1073741824) (hb : by' ≤ 1024) :
    hMakeS es by' z [.int .i64 n, .int .i64 n] K σ = newB (List.replicate n.toNat z).flatten (fun id => .slice (some ⟨id, 0, none⟩) n.toNat es) K σ := by
  simp only [hMakeS]
  rw [if_pos ⟨trivial, h0, h1, hb⟩]
theorem hBox_a {cs : List Value} {sz : Nat} {K : Value → Mem → Prop} {σ : Mem} (h : cs.length = sz) :
    hBox sz [.agg cs.toArray] K σ = newB cs (fun id => .pointer (some ⟨id, 0, none⟩)) K σ := by
  subst h
  have : cellsOf (.agg cs.toArray) cs.length = some cs := by simp [cellsOf]
  simp only [hBox, this]
def Ar.new (n : Nat) : Ar := ⟨n, fun _ => 0, fun _ => 0, 0, 0, 0, 0, false⟩
structure Nm.fr (N : Nm) (σ : Mem) : Prop where
  m : σ.get N.m = none
  w : σ.get N.w = none
  t : σ.get N.t = none
theorem xBuildMem {a b : Value} {K : Value → Prop} (ha : cellsOf a 1 = some [a]) (hb : cellsOf b 1 = some [b]) :
    xF (fBuild [(0, 1), (1, 1), (2, 1), (3, 1), (4, 3)] [.slice none 0 0, .slice none 0 0, .int .i64 0, .int .i64 0, .int .i64 0, .int .i64 0, .bool false] [0, 1]) [a, b] K =
      K (.agg #[a, b, .int .i64 0, .int .i64 0, .int .i64 0, .int .i64 0, .bool false]) := by
  simp [xF, fBuild, fillL, ha, hb, lay]
theorem c_New {n : Int} (h0 : 1 ≤ n) (h1 : n ≤ 1048576) (hk : ∀ N τ, N.ok → isA N (.new n.toNat) τ → Ext σ τ → N.fr σ → K (.tuple #[N.p, .int .i64 0]) τ) : s_mem_New [.int .i64 n] K σ := by
  simp only [s_mem_New, w_mem_New, w_mem_New_j1, w_mem_New_j1b, xMove, xPickT, xPickF, xNil, xFld, xExt0, xExt1, xExt30, xExt31, xExt32, xAdd, xSub, xMul, xEql, xNeq, xLss, xLeq, xGtr, xGeq, xEqPN, xEqNN, xNePN, xNeNN, xEqBB, xNeBB, xNot, xConv, xLen, xMin, xMax, xIfc, xIfT, xIfF, xIfD, xJoinE, xOs, xCs, xFldV, List.getD_cons_zero, List.getD_cons_succ, Nat.zero_add, Nat.reduceAdd, Mem.get_set_same, Mem.set_set, if_true, if_false, Bool.not_true, Bool.not_false, decide_true, decide_false, decide_eq_true_eq, decide_not, Bool.not_eq_true, Bool.false_eq_true, reduceIte, Int.reduceLT, Int.reduceLE, Int.reduceEq, Int.reduceNeg, Int.reduceAdd, Int.reduceSub]
  rw [if_neg (by omega), if_neg (by omega)]
  rw [hMakeS_eq (by omega) (by omega) (by decide)]
  intro w hw
  rw [hMakeS_eq (by omega) (by omega) (by decide)]
  intro t ht
  rw [xBuildMem rfl rfl]
  refine (hBox_a (cs := [_, _, _, _, _, _, _]) rfl).mpr ?_
  intro m hm
  simp only [xMove, xPickT, xPickF, xNil, xFld, xExt0, xExt1, xExt30, xExt31, xExt32, xAdd, xSub, xMul, xEql, xNeq, xLss, xLeq, xGtr, xGeq, xEqPN, xEqNN, xNePN, xNeNN, xEqBB, xNeBB, xNot, xConv, xLen, xMin, xMax, xIfc, xIfT, xIfF, xIfD, xJoinE, xOs, xCs, xFldV, List.getD_cons_zero, List.getD_cons_succ, Nat.zero_add, Nat.reduceAdd, Mem.get_set_same, Mem.set_set, if_true, if_false, Bool.not_true, Bool.not_false, decide_true, decide_false, decide_eq_true_eq, decide_not, Bool.not_eq_true, Bool.false_eq_true, reduceIte, Int.reduceLT, Int.reduceLE, Int.reduceEq, Int.reduceNeg, Int.reduceAdd, Int.reduceSub]
  have hwt : w ≠ t := by rintro rfl; simp at ht
  have hmt : m ≠ t := by rintro rfl; simp at hm
  have hmw : m ≠ w := by
    rintro rfl
    rw [Mem.get_set_ne _ _ hwt, Mem.get_set_same] at hm; cases hm
  refine hk ⟨m, w, t⟩ _ ⟨hmw, hmt, hwt⟩ ⟨?_, ?_, ?_⟩ ?_ ⟨?_, hw, ?_⟩
  · rw [Mem.get_set_same]; rfl
  · rw [Mem.get_set_ne _ _ hmw.symm, Mem.get_set_ne _ _ hwt, Mem.get_set_same, cells_repl]; rfl
  · rw [Mem.get_set_ne _ _ hmt.symm, Mem.get_set_same, cells_repl]; rfl
  · exact ((Ext.fresh hw).trans (Ext.fresh ht)).trans (Ext.fresh hm)
  · rw [Mem.get_set_ne _ _ hmt, Mem.get_set_ne _ _ hmw] at hm; exact hm
  · rw [Mem.get_set_ne _ _ hwt.symm] at ht; exact ht
def Nm.el (N : Nm) (c : Cf) (who : Int) : List Value := [.int .i64 c.T, .int .i64 c.S, .int .i64 c.C, .int .i64 c.W, .int .i64 c.G, .int .i64 c.P, .int .i64 c.R, N.p, .int .i64 who]
section
variable {c : Cf} {l : List Value}
theorem gBoxC : gBox 7 [c.v] l = some c.l := nr rfl
theorem subC : sub c.l 0 7 true = some c.v := nr rfl
theorem subC0 : sub c.l 0 1 false = some (.int .i64 c.T) := nr rfl
theorem subC1 : sub c.l 1 1 false = some (.int .i64 c.S) := nr rfl
theorem subC2 : sub c.l 2 1 false = some (.int .i64 c.C) := nr rfl
theorem subC3 : sub c.l 3 1 false = some (.int .i64 c.W) := nr rfl
theorem subC4 : sub c.l 4 1 false = some (.int .i64 c.G) := nr rfl
theorem subC5 : sub c.l 5 1 false = some (.int .i64 c.P) := nr rfl
theorem subC6 : sub c.l 6 1 false = some (.int .i64 c.R) := nr rfl
theorem gBoxE : gBox 9 [N.env c who] l = some (N.el c who) := nr rfl
theorem subE : sub (N.el c who) 0 9 true = some (N.env c who) := nr rfl
theorem subEC : sub (N.el c who) 0 7 true = some c.v := nr rfl
theorem subE0 : sub (N.el c who) 0 1 false = some (.int .i64 c.T) := nr rfl
theorem subE1 : sub (N.el c who) 1 1 false = some (.int .i64 c.S) := nr rfl
theorem subE2 : sub (N.el c who) 2 1 false = some (.int .i64 c.C) := nr rfl
theorem subE3 : sub (N.el c who) 3 1 false = some (.int .i64 c.W) := nr rfl
theorem subE4 : sub (N.el c who) 4 1 false = some (.int .i64 c.G) := nr rfl
theorem subE6 : sub (N.el c who) 6 1 false = some (.int .i64 c.R) := nr rfl
theorem subE7 : sub (N.el c who) 7 1 false = some N.p := nr rfl
theorem subE8 : sub (N.el c who) 8 1 false = some (.int .i64 who) := nr rfl
end
section
variable {a o v d : Int}
@[simp] theorem by_n : (A.by who).n = A.n := rfl
@[simp] theorem by_w : (A.by who).w = A.w := rfl
@[simp] theorem by_t : (A.by who).t = A.t := rfl
@[simp] theorem by_s : (A.by who).s = A.s := rfl
@[simp] theorem load_n : (A.load a).n = A.n := rfl
@[simp] theorem load_w : (A.load a).w = A.w := rfl
@[simp] theorem load_t : (A.load a).t = A.t := rfl
@[simp] theorem load_s : (A.load a).s = IntKind.i64.wrap (A.s + 1) := rfl
@[simp] theorem load_la : (A.load a).la = a := rfl
@[simp] theorem load_lc : (A.load a).lc = false := rfl
@[simp] theorem store_n : (A.store a v).n = A.n := rfl
@[simp] theorem store_w : (A.store a v).w = upd A.w a v := rfl
@[simp] theorem store_s : (A.store a v).s = IntKind.i64.wrap (A.s + 1) := rfl
@[simp] theorem store_la : (A.store a v).la = a := rfl
@[simp] theorem store_lc : (A.store a v).lc = decide (A.w a ≠ v) := rfl
theorem store_t : (A.store a v).t = if A.w a ≠ v then upd A.t a (IntKind.i64.wrap (A.s + 1)) else A.t := rfl
@[simp] theorem cas_n : (A.cas a o v).n = A.n := by unfold Ar.cas; split <;> rfl
@[simp] theorem cas_s : (A.cas a o v).s = IntKind.i64.wrap (A.s + 1) := by unfold Ar.cas; split <;> rfl
@[simp] theorem cas_la : (A.cas a o v).la = a := by unfold Ar.cas; split <;> rfl
theorem cas_no (h : A.w a ≠ o) : A.cas a o v = A.load a := by unfold Ar.cas; rw [if_neg h]; rfl
theorem cas_yes (h : A.w a = o) : A.cas a o v = A.store a v := by unfold Ar.cas; rw [if_pos h]; rfl
theorem add_eq : A.add a d = A.store a (IntKind.u64.wrap (A.w a + d)) := rfl
end
structure Ar.ok (A : Ar) (b : Int) : Prop where
  w : ∀ i, 0 ≤ A.w i ∧ A.w i < 18446744073709551616
  s : 0 ≤ A.s ∧ A.s ≤ b
  t : ∀ i, 0 ≤ A.t i ∧ A.t i ≤ A.s
theorem Ar.ok.s1 {b : Int} (h : A.ok b) (hb : b < 9223372036854775807) : IntKind.i64.wrap (A.s + 1) = A.s + 1 := IntWalk.i64_in _ (by have := h.s; omega)
theorem Ar.ok.by {b : Int} (h : A.ok b) : (A.by who).ok b := ⟨h.w, h.s, h.t⟩
theorem Ar.ok.load {b a : Int} (h : A.ok b) (hb : b < 9223372036854775807) : (A.load a).ok (b + 1) := by
  refine ⟨h.w, ?_, fun i => ?_⟩
  · rw [load_s, h.s1 hb]; have := h.s; omega
  · rw [load_s, h.s1 hb, load_t]; have := h.t i; omega
theorem upd_cases {f : Int → Int} {a v i : Int} {P : Int → Prop} (h1 : P v) (h2 : P (f i)) : P (upd f a v i) := by unfold upd; split <;> assumption
theorem Ar.ok.store {b a v : Int} (h : A.ok b) (hb : b < 9223372036854775807) (hv : 0 ≤ v ∧ v < 18446744073709551616) : (A.store a v).ok (b + 1) := by
  refine ⟨fun i => upd_cases (P := fun x => 0 ≤ x ∧ x < 18446744073709551616) hv (h.w i), ?_, fun i => ?_⟩
  · rw [store_s, h.s1 hb]; have := h.s; omega
  · rw [store_s, h.s1 hb, store_t]
    have := h.t i
    have := h.s
    split
    · rw [h.s1 hb]; exact upd_cases (P := fun x => 0 ≤ x ∧ x ≤ A.s + 1) (by omega) (by omega)
    · omega
theorem Ar.ok.cas {b a o v : Int} (h : A.ok b) (hb : b < 9223372036854775807) (hv : 0 ≤ v ∧ v < 18446744073709551616) : (A.cas a o v).ok (b + 1) := by
  by_cases hc : A.w a = o
  · rw [cas_yes hc]; exact h.store hb hv
  · rw [cas_no hc]; exact h.load hb
theorem wrap_in (n : Int) : 0 ≤ IntKind.u64.wrap n ∧ IntKind.u64.wrap n < 18446744073709551616 := by rw [IntKind.wrap_u64]; omega
theorem Ar.ok.add {b a d : Int} (h : A.ok b) (hb : b < 9223372036854775807) : (A.add a d).ok (b + 1) := h.store hb (wrap_in _)
def Cf.fr (c : Cf) (i : Int) (a : Int) : Int :=
  if c.slot 0 ≤ a ∧ a < c.slot i then (if (a - c.slot 0) % 2 = 0 then putSlot 0 0 1 0 else putTop ((a - c.slot 0) / 2 + 1) 0) else 0
def Cf.w0 (c : Cf) (a : Int) : Int := if a = 1 then putTop 0 0 else if a = c.slot (c.S - 1) + 1 then putTop (-1) 0 else c.fr c.S a
structure FrI (N : Nm) (C : Cf) (σ0 : Mem) (i : Int) (A : Ar) (σ : Mem) : Prop where
  i0 : 0 ≤ i
  i1 : i ≤ C.S
  n : A.n = C.len.toNat
  w : A.w = C.fr i
  s : A.s = 2 * i
  who : A.who = 0
  ok : A.ok (2 * i)
  isA : isA N A σ
  ext : Ext σ0 σ
  fr : N.fr σ0
theorem Ext.put {σ0 : Mem} (h : Ext σ0 σ) (f : N.fr σ0) : Ext σ0 (putA N A σ) := by
  intro i b hi
  rw [putA_ne (fun e => by rw [e, f.m] at hi; cases hi) (fun e => by rw [e, f.w] at hi; cases hi) (fun e => by rw [e, f.t] at hi; cases hi)]
  exact h i b hi
theorem len_eq : C.len = 6 + C.T + 2 * C.S + 3 * C.C + C.W * C.C := rfl
theorem len_bd (h : C.ok) : C.chunk C.C + 17 ≤ C.len ∧ C.len ≤ 200000 := by
  have hW := h.W
  have hC := h.C
  have hS := h.S
  have hT := h.T
  have h1 : 17 * 1 ≤ C.W * C.C := Int.mul_le_mul hW.1 hC.1 (by omega) (by omega)
  have h2 : C.W * C.C ≤ 256 * 64 := Int.mul_le_mul hW.2 hC.2 (by omega) (by omega)
  rw [len_eq]; unfold Cf.chunk
  omega
theorem xBuildSlotG {K : Value → Prop} {g : Int} : xF (fBuild [(0, 1), (1, 1), (2, 1), (3, 1)] [.int .i64 0, .int .i64 0, .int .i64 0, .int .i64 0] [2]) [.int .i64 g] K = K (.agg #[.int .i64 0, .int .i64 0, .int .i64 g, .int .i64 0]) := nr rfl
theorem c_Fresh_round (hC : C.ok) (hN : N.ok) {σ0 : Mem} {J1 R1 : List Value → List (List Value) → Mem → Prop} {i : Int} (h : FrI N C σ0 i A σ)
    (hj : i = C.S → J1 [N.p] [C.l] σ) (hr : i < C.S → ∀ A' τ, FrI N C σ0 (i + 1) A' τ → R1 [N.p, .int .i64 C.S, .int .i64 (i + 1)] [C.l] τ) :
    w_layout_Fresh_l8 K J1 R1 [N.p, .int .i64 C.S, .int .i64 i] [C.l] σ := by
  have hS := hC.S
  have hT := hC.T
  have hl := len_bd hC
  simp only [w_layout_Fresh_l8, w_layout_Fresh_l8b, xMove, xPickT, xPickF, xNil, xFld, xExt0, xExt1, xExt30, xExt31, xExt32, xAdd, xSub, xMul, xEql, xNeq, xLss, xLeq, xGtr, xGeq, xEqPN, xEqNN, xNePN, xNeNN, xEqBB, xNeBB, xNot, xConv, xLen, xMin, xMax, xIfc, xIfT, xIfF, xIfD, xJoinE, xOs, xCs, xFldV, List.getD_cons_zero, List.getD_cons_succ, Nat.zero_add, Nat.reduceAdd, Mem.get_set_same, Mem.set_set, if_true, if_false, Bool.not_true, Bool.not_false, decide_true, decide_false, decide_eq_true_eq, decide_not, Bool.not_eq_true, Bool.false_eq_true, reduceIte, Int.reduceLT, Int.reduceLE, Int.reduceEq, Int.reduceNeg, Int.reduceAdd, Int.reduceSub, locP_e, gLoad_s, subC]
  by_cases hi : i < C.S
  · simp only [hi, xMove, xPickT, xPickF, xNil, xFld, xExt0, xExt1, xExt30, xExt31, xExt32, xAdd, xSub, xMul, xEql, xNeq, xLss, xLeq, xGtr, xGeq, xEqPN, xEqNN, xNePN, xNeNN, xEqBB, xNeBB, xNot, xConv, xLen, xMin, xMax, xIfc, xIfT, xIfF, xIfD, xJoinE, xOs, xCs, xFldV, List.getD_cons_zero, List.getD_cons_succ, Nat.zero_add, Nat.reduceAdd, Mem.get_set_same, Mem.set_set, if_true, if_false, Bool.not_true, Bool.not_false, decide_true, decide_false, decide_eq_true_eq, decide_not, Bool.not_eq_true, Bool.false_eq_true, reduceIte, Int.reduceLT, Int.reduceLE, Int.reduceEq, Int.reduceNeg, Int.reduceAdd, Int.reduceSub]
    have hn : C.slot i + 1 < A.n := by rw [h.n]; unfold Cf.slot; unfold Cf.chunk at hl; have := hC.C; omega
    have hs0 : 0 ≤ C.slot i := by unfold Cf.slot; have := h.i0; omega
    have i0 := h.i0
    rw [c_Slot hC h.i0 (by omega)]
    rw [xBuildSlotG, c_PutSlot, h.isA.eq, c_mStore hN hs0 (by omega), c_Slot hC h.i0 (by omega)]
    simp only [xAdd]
    rw [IntWalk.i64_in (i + 1) (by omega), c_PutTop (by omega), IntWalk.i64_in (C.slot i + 1) (by unfold Cf.slot; omega), c_mStore hN (by omega) (by rw [store_n]; omega)]
    have ok1 := h.ok.store (a := C.slot i) (by omega) (putSlot_in 0 0 1 0)
    have ok2 := ok1.store (a := C.slot i + 1) (by omega) (putTop_in (i + 1) 0)
    have s1 := h.ok.s1 (by omega)
    have s2 := ok1.s1 (by omega)
    refine hr hi ((A.store (C.slot i) (putSlot 0 0 1 0)).store (C.slot i + 1) (putTop (i + 1) 0)) _ ⟨by omega, by omega, h.n, ?_, ?_, h.who, ?_, isA_put hN, h.ext.put h.fr, h.fr⟩
    · funext a
      rw [store_w, store_w, h.w]
      unfold upd Cf.fr Cf.slot
      have := hC.C
      by_cases e1 : a = 6 + C.T + 2 * i + 1
      · subst e1
        rw [if_pos rfl, if_pos (by omega), if_neg (by omega)]
        congr 1; omega
      · rw [if_neg e1]
        by_cases e2 : a = 6 + C.T + 2 * i
        · subst e2
          rw [if_pos rfl, if_pos (by omega), if_pos (by omega)]
        · rw [if_neg e2]
          by_cases e3 : 6 + C.T + 2 * 0 ≤ a ∧ a < 6 + C.T + 2 * i
          · rw [if_pos e3, if_pos (show 6 + C.T + 2 * 0 ≤ a ∧ a < 6 + C.T + 2 * (i + 1) by omega)]
          · rw [if_neg e3, if_neg (show ¬ (6 + C.T + 2 * 0 ≤ a ∧ a < 6 + C.T + 2 * (i + 1)) by omega)]
    · rw [store_s, s2, store_s, s1, h.s]; omega
    · rw [show 2 * (i + 1) = 2 * i + 1 + 1 by omega]; exact ok2
  · rw [if_neg hi]
    exact hj (by have := h.i1; omega)
structure Frsh (N : Nm) (C : Cf) (A : Ar) : Prop where
  ok : A.ok (2 * C.S + 2)
  n : A.n = C.len.toNat
  w : A.w = C.w0
  s : A.s = 2 * C.S + 2
  who : A.who = 0
  la : A.la = 1
theorem Ar.new_ok {n : Nat} : (Ar.new n).ok (2 * 0) := ⟨fun _ => ⟨Int.le_refl 0, (by decide : (0 : Int) < 18446744073709551616)⟩, ⟨Int.le_refl 0, Int.le_refl 0⟩, fun _ => ⟨Int.le_refl 0, Int.le_refl 0⟩⟩
theorem c_Fresh (hC : C.ok) (hk : ∀ N A τ, N.ok → Frsh N C A → isA N A τ → Ext σ τ → N.fr σ → K (.tuple #[N.p, .int .i64 0]) τ) : s_layout_Fresh [C.v] K σ := by
  have hl := len_bd hC
  have hS := hC.S
  have hT := hC.T
  have hCC := hC.C
  have hch : C.chunk C.C = 6 + C.T + 2 * C.S + 3 * C.C := rfl
  have hok : C.okB = true := Cf.okB_iff.2 hC
  simp only [s_layout_Fresh, w_layout_Fresh, xMove, xPickT, xPickF, xNil, xFld, xExt0, xExt1, xExt30, xExt31, xExt32, xAdd, xSub, xMul, xEql, xNeq, xLss, xLeq, xGtr, xGeq, xEqPN, xEqNN, xNePN, xNeNN, xEqBB, xNeBB, xNot, xConv, xLen, xMin, xMax, xIfc, xIfT, xIfF, xIfD, xJoinE, xOs, xCs, xFldV, List.getD_cons_zero, List.getD_cons_succ, Nat.zero_add, Nat.reduceAdd, Mem.get_set_same, Mem.set_set, if_true, if_false, Bool.not_true, Bool.not_false, decide_true, decide_false, decide_eq_true_eq, decide_not, Bool.not_eq_true, Bool.false_eq_true, reduceIte, Int.reduceLT, Int.reduceLE, Int.reduceEq, Int.reduceNeg, Int.reduceAdd, Int.reduceSub, locP_e, gBoxC, gLoad_s, subC, subC1, c_Check, hok, c_lLen hC]
  refine c_New (by omega) (by omega) fun N τ hN hA hE hf => ?_
  simp only [xMove, xPickT, xPickF, xNil, xFld, xExt0, xExt1, xExt30, xExt31, xExt32, xAdd, xSub, xMul, xEql, xNeq, xLss, xLeq, xGtr, xGeq, xEqPN, xEqNN, xNePN, xNeNN, xEqBB, xNeBB, xNot, xConv, xLen, xMin, xMax, xIfc, xIfT, xIfF, xIfD, xJoinE, xOs, xCs, xFldV, List.getD_cons_zero, List.getD_cons_succ, Nat.zero_add, Nat.reduceAdd, Mem.get_set_same, Mem.set_set, if_true, if_false, Bool.not_true, Bool.not_false, decide_true, decide_false, decide_eq_true_eq, decide_not, Bool.not_eq_true, Bool.false_eq_true, reduceIte, Int.reduceLT, Int.reduceLE, Int.reduceEq, Int.reduceNeg, Int.reduceAdd, Int.reduceSub]
  refine xLoop_inv (fun k ts ls τ => ∃ i A, k = (C.S - i).toNat ∧ ts = [N.p, .int .i64 C.S, .int .i64 i] ∧ ls = [C.l] ∧ FrI N C σ i A τ) ?_ (n := (C.S - 0).toNat)
    ⟨0, _, rfl, rfl, rfl, ⟨by omega, by omega, rfl, ?_, rfl, rfl, Ar.new_ok, hA, hE, hf⟩⟩
  · rintro k ts ls τ ⟨i, A, rfl, rfl, rfl, h⟩
    refine c_Fresh_round hC hN h (fun e => ?_) fun hi A' τ' h' => ⟨_, by have := h.i0; omega, i + 1, A', rfl, rfl, rfl, h'⟩
    subst e
    simp only [w_layout_Fresh_j1, w_layout_Fresh_j1b, xMove, xPickT, xPickF, xNil, xFld, xExt0, xExt1, xExt30, xExt31, xExt32, xAdd, xSub, xMul, xEql, xNeq, xLss, xLeq, xGtr, xGeq, xEqPN, xEqNN, xNePN, xNeNN, xEqBB, xNeBB, xNot, xConv, xLen, xMin, xMax, xIfc, xIfT, xIfF, xIfD, xJoinE, xOs, xCs, xFldV, List.getD_cons_zero, List.getD_cons_succ, Nat.zero_add, Nat.reduceAdd, Mem.get_set_same, Mem.set_set, if_true, if_false, Bool.not_true, Bool.not_false, decide_true, decide_false, decide_eq_true_eq, decide_not, Bool.not_eq_true, Bool.false_eq_true, reduceIte, Int.reduceLT, Int.reduceLE, Int.reduceEq, Int.reduceNeg, Int.reduceAdd, Int.reduceSub, locP_e, gLoad_s, subC, subC1]
    have n2 : C.slot (C.S - 1) + 1 < A.n := by rw [h.n]; unfold Cf.slot; omega
    have hs0 : 0 ≤ C.slot (C.S - 1) := by unfold Cf.slot; omega
    rw [IntWalk.i64_in (C.S - 1) (by omega), c_Slot hC (by omega) (by omega)]
    simp only [xAdd]
    rw [IntWalk.i64_in (C.slot (C.S - 1) + 1) (by unfold Cf.slot; omega), c_PutTop (by omega), h.isA.eq, c_mStore hN (by omega) n2, c_lTop, c_PutTop (by omega), c_mStore hN (by omega) (by rw [store_n]; omega)]
    have ok1 := h.ok.store (a := C.slot (C.S - 1) + 1) (by omega) (putTop_in (-1) 0)
    have ok2 := ok1.store (a := 1) (by omega) (putTop_in 0 0)
    have s1 := h.ok.s1 (by omega)
    have s2 := ok1.s1 (by omega)
    refine hk N ((A.store (C.slot (C.S - 1) + 1) (putTop (-1) 0)).store 1 (putTop 0 0)) _ hN ⟨by rw [show 2 * C.S + 2 = 2 * C.S + 1 + 1 by omega]; exact ok2, h.n, ?_, ?_, h.who, rfl⟩ (isA_put hN) (h.ext.put h.fr) h.fr
    · rw [store_w, store_w, h.w]; rfl
    · rw [store_s, s2, store_s, s1, h.s]; omega
  · funext a
    unfold Cf.fr
    rw [if_neg (by omega)]; rfl
theorem c_Arena (hC : C.ok) (hG : C.G = 100) (hP : C.P = 600) (hR : C.R = 3) (hk : ∀ N A τ, N.ok → Frsh N C A → isA N A τ → Ext σ τ → N.fr σ → K (.tuple #[N.env C 0, .bool true]) τ) :
    s_law04_Arena [.int .i64 C.T, .int .i64 C.S, .int .i64 C.C, .int .i64 C.W] K σ := by
  simp only [s_law04_Arena, w_law04_Arena, xMove, xPickT, xPickF, xNil, xFld, xExt0, xExt1, xExt30, xExt31, xExt32, xAdd, xSub, xMul, xEql, xNeq, xLss, xLeq, xGtr, xGeq, xEqPN, xEqNN, xNePN, xNeNN, xEqBB, xNeBB, xNot, xConv, xLen, xMin, xMax, xIfc, xIfT, xIfF, xIfD, xJoinE, xOs, xCs, xFldV, List.getD_cons_zero, List.getD_cons_succ, Nat.zero_add, Nat.reduceAdd, Mem.get_set_same, Mem.set_set, if_true, if_false, Bool.not_true, Bool.not_false, decide_true, decide_false, decide_eq_true_eq, decide_not, Bool.not_eq_true, Bool.false_eq_true, reduceIte, Int.reduceLT, Int.reduceLE, Int.reduceEq, Int.reduceNeg, Int.reduceAdd, Int.reduceSub]
  have b1 : ∀ K : Value → Prop, xF (fBuild [(0, 1), (1, 1), (2, 1), (3, 1), (4, 1), (5, 1), (6, 1)] [.int .i64 0, .int .i64 0, .int .i64 0, .int .i64 0, .int .i64 0, .int .i64 0, .int .i64 0] [0, 1, 2, 3, 4, 5, 6])
      [.int .i64 C.T, .int .i64 C.S, .int .i64 C.C, .int .i64 C.W, .int .i64 100, .int .i64 600, .int .i64 3] K = K C.v := by
    intro K; unfold Cf.v; rw [hG, hP, hR]; exact nr rfl
  have b2 : ∀ K : List Value → Prop, xC (gStore 7 [locP 10, C.v] [.int .i64 0, .int .i64 0, .int .i64 0, .int .i64 0, .int .i64 0, .int .i64 0, .int .i64 0]) K = K C.l := fun K => nr rfl
  rw [b1, b2]
  simp only [locP_e, gLoad_s, subC, xOs]
  refine c_Fresh hC fun N A τ hN hF hA hE hf => ?_
  simp only [xMove, xPickT, xPickF, xNil, xFld, xExt0, xExt1, xExt30, xExt31, xExt32, xAdd, xSub, xMul, xEql, xNeq, xLss, xLeq, xGtr, xGeq, xEqPN, xEqNN, xNePN, xNeNN, xEqBB, xNeBB, xNot, xConv, xLen, xMin, xMax, xIfc, xIfT, xIfF, xIfD, xJoinE, xOs, xCs, xFldV, List.getD_cons_zero, List.getD_cons_succ, Nat.zero_add, Nat.reduceAdd, Mem.get_set_same, Mem.set_set, if_true, if_false, Bool.not_true, Bool.not_false, decide_true, decide_false, decide_eq_true_eq, decide_not, Bool.not_eq_true, Bool.false_eq_true, reduceIte, Int.reduceLT, Int.reduceLE, Int.reduceEq, Int.reduceNeg, Int.reduceAdd, Int.reduceSub, locP_e, gLoad_s, subC]
  exact hk N A τ hN hF hA hE hf
end Go.Fl
