/- What the claim leans on, part 2: own readings of the program's functions, what they come to, laws of them. No condition. -/
import Derived.Test.YtbmcbcoaeclfbaaZActStamps1
namespace Go.Fl
open Go
noncomputable def zz (m : XM) (r : Run) (d : Option Nat) (a : List Operand) : XO XN := ⟨none, d, a, ⟨m, r⟩⟩
noncomputable def zS (a : List Operand) : XO XN := ⟨none, none, a, ⟨.store 1, rStore1⟩⟩
noncomputable def zy (l : List (Nat × Nat)) (m : XM) (d : Nat) (a : List Operand) : XO XN := ⟨none, some d, a, ⟨m, rAny l m⟩⟩
noncomputable def zY (l : List (Nat × Nat)) (m : XM) (a : List Operand) : XO XN := ⟨none, none, a, ⟨m, rAny l m⟩⟩
noncomputable def zk (c : Cls) (s : Spec) (v : EvF) (d : Nat) (a : List Operand) : XO XN := ⟨none, some d, a, ⟨.call c s v, rCall v⟩⟩
noncomputable def zM (d s : Nat) : XO XN := ⟨none, some d, [.tmp s], ⟨.f fMove, rMove⟩⟩
noncomputable def zc (d : Nat) (v : Value) : XO XN := ⟨none, some d, [.const v], ⟨.f fMove, rMove⟩⟩
noncomputable def zF (k d s : Nat) : XO XN := ⟨none, some d, [.tmp s], ⟨.f (fFld k), rFld k⟩⟩
noncomputable def zN (d s : Nat) : XO XN := ⟨none, some d, [.tmp s], ⟨.f fNil, rNil⟩⟩
noncomputable def zr (k d s : Nat) : XO XN := ⟨none, some d, [.tmp s], ⟨.lr k 1 false, rLr1 k⟩⟩
noncomputable def zb (b : BinOp) (r : Run) (d : Nat) (a : List Operand) : XO XN := ⟨none, some d, a, ⟨.f (fBin b .no), r⟩⟩
noncomputable def zL (d s : Nat) : XO XN := ⟨none, some d, [.tmp s], ⟨.load 1 false, rLoad1⟩⟩
open Go Go.Proofs
set_option linter.unusedVariables false
set_option maxRecDepth 10000000
theorem mixedOk : Try.prog.follows .mixedOrders = true := by kernel_rfl
def bodyOf (fn : Func) : Code :=
  match fn.body with
  | some c => c
  | none => .skip
def w_aj_j1b (K : Value → Mem → Prop) (v3 : Value) (c1 : List Value) (σ : Mem) : Prop :=xF (fFld 0) [(locP 1)] fun v22 =>xO (gLoad 1 false [v22] c1) fun v23 =>xF (fBin .geq .no) [v23, .int .i64 1] fun v24 =>xF fMove [v24] fun v25 =>xIf v25
 (xF (fFld 0) [(locP 1)] fun v26 =>xO (gLoad 1 false [v26] c1) fun v27 =>xF (fBin .leq .no) [v27, .int .i64 5] fun v28 =>xF fPick [.bool true, v28, .bool false] fun v29 =>xF fMove [v29] fun v30 =>xIf v30
 (xF fMove [v3] fun v31 =>xF fPick [.bool true, v31, .bool false] fun v32 =>xF fMove [v32] fun v2 =>K v2 σ)
 (xF fPick [.bool false, undef, .bool false] fun v32 =>xF fMove [v32] fun v2 =>K v2 σ))
 (xF fPick [.bool false, undef, .bool false] fun v29 =>xF fMove [v29] fun v30 =>xIf v30
 (xF fMove [v3] fun v31 =>xF fPick [.bool true, v31, .bool false] fun v32 =>xF fMove [v32] fun v2 =>K v2 σ)
 (xF fPick [.bool false, undef, .bool false] fun v32 =>xF fMove [v32] fun v2 =>K v2 σ))
def w_aj_j1 (K : Value → Mem → Prop) (ts : List Value) (ls : List (List Value)) (σ : Mem) : Prop := w_aj_j1b K (ts.getD 0 poison) (ls.getD 0 []) σ
def w_aj (a0 : Value) (K : Value → Mem → Prop) (σ : Mem) : Prop :=xC (gBox 7 [a0] []) fun c1 =>xF fMove [.bool false] fun v2 =>xJoin (w_aj_j1 K) fun J1 =>xF (fFld 4) [(locP 1)] fun v4 =>xO (gLoad 1 false [v4] c1) fun v5 =>xF (fBin .geq .no) [v5, .int .i64 0] fun v6 =>xF fMove [v6] fun v7 =>xIf v7
 (xF (fFld 4) [(locP 1)] fun v8 =>xO (gLoad 1 false [v8] c1) fun v9 =>xF (fBin .leq .no) [v9, .int .i64 1099511627775] fun v10 =>xF fPick [.bool true, v10, .bool false] fun v11 =>xF fMove [v11] fun v12 =>xIf v12
 (xF (fFld 5) [(locP 1)] fun v13 =>xO (gLoad 1 false [v13] c1) fun v14 =>xF (fBin .geq .no) [v14, .int .i64 0] fun v15 =>xF fPick [.bool true, v15, .bool false] fun v16 =>xF fMove [v16] fun v17 =>xIf v17
 (xF (fFld 5) [(locP 1)] fun v18 =>xO (gLoad 1 false [v18] c1) fun v19 =>xF (fBin .leq .no) [v19, .int .i64 1099511627775] fun v20 =>xF fPick [.bool true, v20, .bool false] fun v21 =>xF fMove [v21] fun v3 =>J1 [v3] [c1] σ)
 (xF fPick [.bool false, undef, .bool false] fun v21 =>xF fMove [v21] fun v3 =>J1 [v3] [c1] σ))
 (xF fPick [.bool false, undef, .bool false] fun v16 =>xF fMove [v16] fun v17 =>xIf v17
 (xF (fFld 5) [(locP 1)] fun v18 =>xO (gLoad 1 false [v18] c1) fun v19 =>xF (fBin .leq .no) [v19, .int .i64 1099511627775] fun v20 =>xF fPick [.bool true, v20, .bool false] fun v21 =>xF fMove [v21] fun v3 =>J1 [v3] [c1] σ)
 (xF fPick [.bool false, undef, .bool false] fun v21 =>xF fMove [v21] fun v3 =>J1 [v3] [c1] σ)))
 (xF fPick [.bool false, undef, .bool false] fun v11 =>xF fMove [v11] fun v12 =>xIf v12
 (xF (fFld 5) [(locP 1)] fun v13 =>xO (gLoad 1 false [v13] c1) fun v14 =>xF (fBin .geq .no) [v14, .int .i64 0] fun v15 =>xF fPick [.bool true, v15, .bool false] fun v16 =>xF fMove [v16] fun v17 =>xIf v17
 (xF (fFld 5) [(locP 1)] fun v18 =>xO (gLoad 1 false [v18] c1) fun v19 =>xF (fBin .leq .no) [v19, .int .i64 1099511627775] fun v20 =>xF fPick [.bool true, v20, .bool false] fun v21 =>xF fMove [v21] fun v3 =>J1 [v3] [c1] σ)
 (xF fPick [.bool false, undef, .bool false] fun v21 =>xF fMove [v21] fun v3 =>J1 [v3] [c1] σ))
 (xF fPick [.bool false, undef, .bool false] fun v16 =>xF fMove [v16] fun v17 =>xIf v17
 (xF (fFld 5) [(locP 1)] fun v18 =>xO (gLoad 1 false [v18] c1) fun v19 =>xF (fBin .leq .no) [v19, .int .i64 1099511627775] fun v20 =>xF fPick [.bool true, v20, .bool false] fun v21 =>xF fMove [v21] fun v3 =>J1 [v3] [c1] σ)
 (xF fPick [.bool false, undef, .bool false] fun v21 =>xF fMove [v21] fun v3 =>J1 [v3] [c1] σ)))
def s_aj : Spec := fun args K σ => match args with
  | [a0] => w_aj a0 K σ
  | _ => False
noncomputable def cx_aj : Cx := { P := Try.prog, T := [], loc := [(1, 1), (4, 1), (8, 1), (13, 1), (18, 1), (22, 1), (26, 1)], eqt := [], n := 33, keep := [(1000003, [3], [1])] }
theorem q_aj : FnS cx_aj Try.f19 (bodyOf Try.f19) 1 = s_aj := by
  funext args K σ
  rcases args with _ | ⟨a0, _ | ⟨b, r⟩⟩ <;> kernel_rfl
theorem e_aj : Entry Try.prog 19 .none s_aj :=
  entry (C := cx_aj) TOk.nil mixedOk Try.func19 (by kernel_rfl) (by kernel_rfl) (by kernel_rfl) q_aj
def xl_aj : List (Nat × Nat) := [(1, 1), (4, 1), (8, 1), (13, 1), (18, 1), (22, 1), (26, 1)]
noncomputable def xc_aj : XC XN :=
(.seq none
 (.reg [zy xl_aj (.lb 1 7) 1 [.tmp 0],
  zc 2 (.bool false)])
 (.seq (some ([3], [1]))
 (.reg [zF 4 4 1,
  zr 1 5 4,
  zb .geq rGeq 6 [.tmp 5, .const (.int .i64 0)],
  zM 7 6,
  ⟨(some (4, 3, true, some 7)), some 8, [.tmp 1], ⟨.f (fFld 4), rFld 4⟩⟩,
  ⟨(some (5, 3, true, some 7)), some 9, [.tmp 8], ⟨.lr 1 1 false, rLr1 1⟩⟩,
  ⟨(some (6, 3, true, some 7)), some 10, [.tmp 9, (.const (.int .i64 1099511627775))], ⟨.f (fBin .leq .no), rLeq⟩⟩,
  zz (.f fPick) rPick (some 11) [.tmp 7, .tmp 10, .const (.bool false)],
  zM 12 11,
  ⟨(some (9, 8, true, some 12)), some 13, [.tmp 1], ⟨.f (fFld 5), rFld 5⟩⟩,
  ⟨(some (10, 8, true, some 12)), some 14, [.tmp 13], ⟨.lr 1 1 false, rLr1 1⟩⟩,
  ⟨(some (11, 8, true, some 12)), some 15, [.tmp 14, (.const (.int .i64 0))], ⟨.f (fBin .geq .no), rGeq⟩⟩,
  zz (.f fPick) rPick (some 16) [.tmp 12, .tmp 15, .const (.bool false)],
  zM 17 16,
  ⟨(some (14, 13, true, some 17)), some 18, [.tmp 1], ⟨.f (fFld 5), rFld 5⟩⟩,
  ⟨(some (15, 13, true, some 17)), some 19, [.tmp 18], ⟨.lr 1 1 false, rLr1 1⟩⟩,
  ⟨(some (16, 13, true, some 17)), some 20, [.tmp 19, (.const (.int .i64 1099511627775))], ⟨.f (fBin .leq .no), rLeq⟩⟩,
  zz (.f fPick) rPick (some 21) [.tmp 17, .tmp 20, .const (.bool false)],
  zM 3 21])
 (.seq none
 (.reg [zF 0 22 1,
  zr 1 23 22,
  zb .geq rGeq 24 [.tmp 23, .const (.int .i64 1)],
  zM 25 24,
  ⟨(some (4, 3, true, some 25)), some 26, [.tmp 1], ⟨.f (fFld 0), rFld 0⟩⟩,
  ⟨(some (5, 3, true, some 25)), some 27, [.tmp 26], ⟨.lr 1 1 false, rLr1 1⟩⟩,
  ⟨(some (6, 3, true, some 25)), some 28, [.tmp 27, (.const (.int .i64 5))], ⟨.f (fBin .leq .no), rLeq⟩⟩,
  zz (.f fPick) rPick (some 29) [.tmp 25, .tmp 28, .const (.bool false)],
  zM 30 29,
  ⟨(some (9, 8, true, some 30)), some 31, [.tmp 3], ⟨.f fMove, rMove⟩⟩,
  zz (.f fPick) rPick (some 32) [.tmp 30, .tmp 31, .const (.bool false)],
  zM 2 32])
 .ret)))
noncomputable def v_aj : EvF := evFn 1 xc_aj [.t 2]
theorem xt_aj : toC cx_aj (bodyOf Try.f19) = some (xc_aj.map XN.sm) := by kernel_rfl
theorem xr_aj : toR cx_aj Try.f19.results.toList = some [.t 2] := by kernel_rfl
theorem xo_aj : xc_aj.ok xl_aj := ⟨⟨r_a (trivial), r_m, trivial⟩, ⟨⟨r_f _, r_r _, rGeq_ok, r_m, r_f _, r_r _, rLeq_ok, r_p, r_m, r_f _, r_r _, rGeq_ok, r_p, r_m, r_f _, r_r _, rLeq_ok, r_p, r_m, trivial⟩, ⟨⟨r_f _, r_r _, rGeq_ok, r_m, r_f _, r_r _, rLeq_ok, r_p, r_m, r_m, r_p, r_m, trivial⟩, trivial⟩⟩⟩
theorem ve_aj : EvOk s_aj v_aj := EvOk.of (evFn_sound (C := cx_aj) xt_aj xr_aj xo_aj) q_aj
attribute [irreducible] w_aj_j1b w_aj_j1 w_aj s_aj
def w_aq (a0 a1 : Value) (K : Value → Mem → Prop) (σ : Mem) : Prop :=xF fMove [.pointer none] fun v4 =>xF fMove [a0] fun v5 =>xF fMove [a1] fun v6 =>xF (fBuild [(0, 1), (1, 1), (2, 1), (3, 5), (8, 1), (9, 1), (10, 1), (11, 2), (13, 1), (14, 4)] [.int .i64 0, .bool false, .int .i64 0, .int .i64 0, .int .u64 0, .int .i64 0, .int .i64 0, .bool false, .int .i64 0, .int .i64 0, .pointer none, .int .i64 0, .int .i64 0, .pointer none, .int .i64 0, .int .u64 0, .int .i64 0, .int .i64 0] [0, 1]) [v5, v6] fun v7 =>hBox 18 [v7] (fun v8 σ =>xF fMove [v8] fun v4 =>K v4 σ) σ
def s_aq : Spec := fun args K σ => match args with
  | [a0, a1] => w_aq a0 a1 K σ
  | _ => False
noncomputable def cx_aq : Cx := { P := Try.prog, T := [], loc := [], eqt := [], n := 9, keep := [] }
theorem q_aq : FnS cx_aq Try.f34 (bodyOf Try.f34) 2 = s_aq := by
  funext args K σ
  rcases args with _ | ⟨a0, _ | ⟨a1, _ | ⟨b, r⟩⟩⟩ <;> kernel_rfl
theorem e_aq : Entry Try.prog 34 .write s_aq :=
  entry (C := cx_aq) TOk.nil mixedOk Try.func34 (by kernel_rfl) (by kernel_rfl) (by kernel_rfl) q_aq
def xl_aq : List (Nat × Nat) := []
noncomputable def xc_aq : XC XN :=
(.seq none
 (.reg [zc 4 (.pointer none)])
 (.seq none
 (.reg [zM 5 0,
  zM 6 1,
  zy xl_aq (.f (fBuild [(0, 1), (1, 1), (2, 1), (3, 5), (8, 1), (9, 1), (10, 1), (11, 2), (13, 1), (14, 4)] [.int .i64 0, .bool false, .int .i64 0, .int .i64 0, .int .u64 0, .int .i64 0, .int .i64 0, .bool false, .int .i64 0, .int .i64 0, .pointer none, .int .i64 0, .int .i64 0, .pointer none, .int .i64 0, .int .u64 0, .int .i64 0, .int .i64 0] [0, 1])) 7 [.tmp 5, .tmp 6],
  zy xl_aq (.box 18) 8 [.tmp 7],
  zM 4 8])
 .ret))
noncomputable def v_aq : EvF := evFn 2 xc_aq [.t 4]
theorem xt_aq : toC cx_aq (bodyOf Try.f34) = some (xc_aq.map XN.sm) := by kernel_rfl
theorem xr_aq : toR cx_aq Try.f34.results.toList = some [.t 4] := by kernel_rfl
theorem xo_aq : xc_aq.ok xl_aq := ⟨⟨r_m, trivial⟩, ⟨⟨r_m, r_m, r_a (eqv_build _ rfl _), r_a (trivial), r_m, trivial⟩, trivial⟩⟩
theorem ve_aq : EvOk s_aq v_aq := EvOk.of (evFn_sound (C := cx_aq) xt_aq xr_aq xo_aq) q_aq
attribute [irreducible] w_aq s_aq
def w_ay (a0 a1 : Value) (K : Value → Mem → Prop) (σ : Mem) : Prop :=xF fMove [.pointer none] fun v4 =>xF fMove [a0] fun v5 =>xF fMove [a1] fun v6 =>xF (fBuild [(0, 1), (1, 1), (2, 2), (4, 1), (5, 1), (6, 1), (7, 1), (8, 1), (9, 4)] [.int .u64 0, .bool false, .int .i64 0, .int .i64 0, .int .i64 0, .int .u64 0, .int .i64 0, .pointer none, .pointer none, .int .i64 0, .int .u64 0, .int .i64 0, .int .i64 0] [0, 1]) [v5, v6] fun v7 =>hBox 13 [v7] (fun v8 σ =>xF fMove [v8] fun v4 =>K v4 σ) σ
def s_ay : Spec := fun args K σ => match args with
  | [a0, a1] => w_ay a0 a1 K σ
  | _ => False
noncomputable def cx_ay : Cx := { P := Try.prog, T := [], loc := [], eqt := [], n := 9, keep := [] }
theorem q_ay : FnS cx_ay Try.f35 (bodyOf Try.f35) 2 = s_ay := by
  funext args K σ
  rcases args with _ | ⟨a0, _ | ⟨a1, _ | ⟨b, r⟩⟩⟩ <;> kernel_rfl
theorem e_ay : Entry Try.prog 35 .write s_ay :=
  entry (C := cx_ay) TOk.nil mixedOk Try.func35 (by kernel_rfl) (by kernel_rfl) (by kernel_rfl) q_ay
def xl_ay : List (Nat × Nat) := []
noncomputable def xc_ay : XC XN :=
(.seq none
 (.reg [zc 4 (.pointer none)])
 (.seq none
 (.reg [zM 5 0,
  zM 6 1,
  zy xl_ay (.f (fBuild [(0, 1), (1, 1), (2, 2), (4, 1), (5, 1), (6, 1), (7, 1), (8, 1), (9, 4)] [.int .u64 0, .bool false, .int .i64 0, .int .i64 0, .int .i64 0, .int .u64 0, .int .i64 0, .pointer none, .pointer none, .int .i64 0, .int .u64 0, .int .i64 0, .int .i64 0] [0, 1])) 7 [.tmp 5, .tmp 6],
  zy xl_ay (.box 13) 8 [.tmp 7],
  zM 4 8])
 .ret))
noncomputable def v_ay : EvF := evFn 2 xc_ay [.t 4]
theorem xt_ay : toC cx_ay (bodyOf Try.f35) = some (xc_ay.map XN.sm) := by kernel_rfl
theorem xr_ay : toR cx_ay Try.f35.results.toList = some [.t 4] := by kernel_rfl
theorem xo_ay : xc_ay.ok xl_ay := ⟨⟨r_m, trivial⟩, ⟨⟨r_m, r_m, r_a (eqv_build _ rfl _), r_a (trivial), r_m, trivial⟩, trivial⟩⟩
theorem ve_ay : EvOk s_ay v_ay := EvOk.of (evFn_sound (C := cx_ay) xt_ay xr_ay xo_ay) q_ay
attribute [irreducible] w_ay s_ay
def w_ag (a0 a1 : Value) (K : Value → Mem → Prop) (σ : Mem) : Prop :=xC (gBox 5 [a0] []) fun c2 =>xF fMove [.pointer none] fun v4 =>xO (gLoad 5 true [(locP 2)] c2) fun v5 =>xF fMove [a1] fun v6 =>xF (fBuild [(0, 5), (5, 1), (6, 2), (8, 1), (9, 1), (10, 1), (11, 1), (12, 1), (13, 1), (14, 1), (15, 4)] [.int .i64 0, .int .u64 0, .int .i64 0, .int .i64 0, .int .i64 0, .bool false, .int .i64 0, .int .i64 0, .int .i64 0, .int .u64 0, .int .u64 0, .int .i64 0, .int .i64 0, .int .i64 0, .pointer none, .int .i64 0, .int .u64 0, .int .i64 0, .int .i64 0] [0, 1]) [v5, v6] fun v7 =>hBox 19 [v7] (fun v8 σ =>xF fMove [v8] fun v4 =>K v4 σ) σ
def s_ag : Spec := fun args K σ => match args with
  | [a0, a1] => w_ag a0 a1 K σ
  | _ => False
noncomputable def cx_ag : Cx := { P := Try.prog, T := [], loc := [(2, 2)], eqt := [], n := 9, keep := [] }
theorem q_ag : FnS cx_ag Try.f36 (bodyOf Try.f36) 2 = s_ag := by
  funext args K σ
  rcases args with _ | ⟨a0, _ | ⟨a1, _ | ⟨b, r⟩⟩⟩ <;> kernel_rfl
theorem e_ag : Entry Try.prog 36 .write s_ag :=
  entry (C := cx_ag) TOk.nil mixedOk Try.func36 (by kernel_rfl) (by kernel_rfl) (by kernel_rfl) q_ag
def xl_ag : List (Nat × Nat) := [(2, 2)]
noncomputable def xc_ag : XC XN :=
(.seq none
 (.reg [zy xl_ag (.lb 2 5) 2 [.tmp 0],
  zc 4 (.pointer none)])
 (.seq none
 (.reg [zy xl_ag (.lr 2 5 true) 5 [.tmp 2],
  zM 6 1,
  zy xl_ag (.f (fBuild [(0, 5), (5, 1), (6, 2), (8, 1), (9, 1), (10, 1), (11, 1), (12, 1), (13, 1), (14, 1), (15, 4)] [.int .i64 0, .int .u64 0, .int .i64 0, .int .i64 0, .int .i64 0, .bool false, .int .i64 0, .int .i64 0, .int .i64 0, .int .u64 0, .int .u64 0, .int .i64 0, .int .i64 0, .int .i64 0, .pointer none, .int .i64 0, .int .u64 0, .int .i64 0, .int .i64 0] [0, 1])) 7 [.tmp 5, .tmp 6],
  zy xl_ag (.box 19) 8 [.tmp 7],
  zM 4 8])
 .ret))
noncomputable def v_ag : EvF := evFn 2 xc_ag [.t 4]
theorem xt_ag : toC cx_ag (bodyOf Try.f36) = some (xc_ag.map XN.sm) := by kernel_rfl
theorem xr_ag : toR cx_ag Try.f36.results.toList = some [.t 4] := by kernel_rfl
theorem xo_ag : xc_ag.ok xl_ag := ⟨⟨r_a (trivial), r_m, trivial⟩, ⟨⟨r_a (trivial), r_m, r_a (eqv_build _ rfl _), r_a (trivial), r_m, trivial⟩, trivial⟩⟩
theorem ve_ag : EvOk s_ag v_ag := EvOk.of (evFn_sound (C := cx_ag) xt_ag xr_ag xo_ag) q_ag
attribute [irreducible] w_ag s_ag
def w_al (a0 : Value) (K : Value → Mem → Prop) (σ : Mem) : Prop :=xC (gBox 7 [a0] []) fun c1 =>xF fMove [.nilIface] fun v2 =>xF (fFld 0) [(locP 1)] fun v3 =>xO (gLoad 1 false [v3] c1) fun v4 =>xF (fBin .eql .no) [v4, .int .i64 1] fun v6 =>xF fMove [v6] fun v5 =>xIf v5
 (xF (fFld 1) [(locP 1)] fun v7 =>xO (gLoad 1 false [v7] c1) fun v8 =>xF (fFld 6) [(locP 1)] fun v9 =>xO (gLoad 1 false [v9] c1) fun v10 =>s_aq [v8, v10] (fun v11 σ =>xF (fIface 83) [v11] fun v12 =>xF fMove [v12] fun v2 =>K v2 σ) σ)
 (xF (fBin .eql .no) [v4, .int .i64 2] fun v14 =>xF fMove [v14] fun v13 =>xIf v13
 (xF (fFld 2) [(locP 1)] fun v15 =>xO (gLoad 1 false [v15] c1) fun v16 =>xF (fFld 6) [(locP 1)] fun v17 =>xO (gLoad 1 false [v17] c1) fun v18 =>s_ay [v16, v18] (fun v19 σ =>xF (fIface 85) [v19] fun v20 =>xF fMove [v20] fun v2 =>K v2 σ) σ)
 (xF (fFld 0) [(locP 1)] fun v21 =>xO (gLoad 1 false [v21] c1) fun v22 =>xF (fBin .sub .no) [v22, .int .i64 3] fun v23 =>xF (fBin .add .no) [v23, .int .i64 1] fun v24 =>xF (fFld 2) [(locP 1)] fun v25 =>xO (gLoad 1 false [v25] c1) fun v26 =>xF (fFld 3) [(locP 1)] fun v27 =>xO (gLoad 1 false [v27] c1) fun v28 =>xF (fFld 4) [(locP 1)] fun v29 =>xO (gLoad 1 false [v29] c1) fun v30 =>xF (fFld 5) [(locP 1)] fun v31 =>xO (gLoad 1 false [v31] c1) fun v32 =>xF (fBuild [(0, 1), (1, 1), (2, 1), (3, 1), (4, 1)] [.int .i64 0, .int .u64 0, .int .i64 0, .int .i64 0, .int .i64 0] [0, 1, 2, 3, 4]) [v24, v26, v28, v30, v32] fun v33 =>xF (fFld 6) [(locP 1)] fun v34 =>xO (gLoad 1 false [v34] c1) fun v35 =>s_ag [v33, v35] (fun v36 σ =>xF (fIface 87) [v36] fun v37 =>xF fMove [v37] fun v2 =>K v2 σ) σ))
def s_al : Spec := fun args K σ => match args with
  | [a0] => w_al a0 K σ
  | _ => False
noncomputable def cx_al : Cx := { P := Try.prog, T := [(34, .write, s_aq), (35, .write, s_ay), (36, .write, s_ag)], loc := [(1, 1), (3, 1), (7, 1), (9, 1), (15, 1), (17, 1), (21, 1), (25, 1), (27, 1), (29, 1), (31, 1), (34, 1)], eqt := [], n := 38, keep := [] }
theorem q_al : FnS cx_al Try.f22 (bodyOf Try.f22) 1 = s_al := by
  funext args K σ
  rcases args with _ | ⟨a0, _ | ⟨b, r⟩⟩ <;> kernel_rfl
theorem e_al : Entry Try.prog 22 .write s_al :=
  entry (C := cx_al) (TOk.cons e_aq (TOk.cons e_ay (TOk.cons e_ag TOk.nil))) mixedOk Try.func22 (by kernel_rfl) (by kernel_rfl) (by kernel_rfl) q_al
def xl_al : List (Nat × Nat) := [(1, 1), (3, 1), (7, 1), (9, 1), (15, 1), (17, 1), (21, 1), (25, 1), (27, 1), (29, 1), (31, 1), (34, 1)]
noncomputable def xc_al : XC XN :=
(.seq none
 (.reg [zy xl_al (.lb 1 7) 1 [.tmp 0],
  zc 2 .nilIface])
 (.seq none
 (.seq none
 (.reg [zF 0 3 1,
  zr 1 4 3])
 (.block 0
 (.seq none
 (.reg [zb .eql rEql 6 [.tmp 4, .const (.int .i64 1)],
  zM 5 6])
 (.cond (.tmp 5)
 (.seq none
 (.reg [zF 1 7 1,
  zr 1 8 7,
  zF 6 9 1,
  zr 1 10 9,
  zk .write s_aq v_aq 11 [.tmp 8, .tmp 10],
  zy xl_al (.ifc 83) 12 [.tmp 11],
  zM 2 12])
 .ret)
 (.seq none
 (.reg [zb .eql rEql 14 [.tmp 4, .const (.int .i64 2)],
  zM 13 14])
 (.cond (.tmp 13)
 (.seq none
 (.reg [zF 2 15 1,
  zr 1 16 15,
  zF 6 17 1,
  zr 1 18 17,
  zk .write s_ay v_ay 19 [.tmp 16, .tmp 18],
  zy xl_al (.ifc 85) 20 [.tmp 19],
  zM 2 20])
 .ret)
 .skip))))))
 (.seq none
 (.reg [zF 0 21 1,
  zr 1 22 21,
  zb .sub rSub 23 [.tmp 22, .const (.int .i64 3)],
  zb .add rAdd 24 [.tmp 23, .const (.int .i64 1)],
  zF 2 25 1,
  zr 1 26 25,
  zF 3 27 1,
  zr 1 28 27,
  zF 4 29 1,
  zr 1 30 29,
  zF 5 31 1,
  zr 1 32 31,
  zy xl_al (.f (fBuild [(0, 1), (1, 1), (2, 1), (3, 1), (4, 1)] [.int .i64 0, .int .u64 0, .int .i64 0, .int .i64 0, .int .i64 0] [0, 1, 2, 3, 4])) 33 [.tmp 24, .tmp 26, .tmp 28, .tmp 30, .tmp 32],
  zF 6 34 1,
  zr 1 35 34,
  zk .write s_ag v_ag 36 [.tmp 33, .tmp 35],
  zy xl_al (.ifc 87) 37 [.tmp 36],
  zM 2 37])
 .ret)))
noncomputable def v_al : EvF := evFn 1 xc_al [.t 2]
theorem xt_al : toC cx_al (bodyOf Try.f22) = some (xc_al.map XN.sm) := by kernel_rfl
theorem xr_al : toR cx_al Try.f22.results.toList = some [.t 2] := by kernel_rfl
theorem xo_al : xc_al.ok xl_al := ⟨⟨r_a (trivial), r_m, trivial⟩, ⟨⟨⟨r_f _, r_r _, trivial⟩, ⟨⟨r_e, r_m, trivial⟩, ⟨⟨⟨r_f _, r_r _, r_f _, r_r _, r_c ve_aq, r_a (trivial), r_m, trivial⟩, trivial⟩, ⟨⟨r_e, r_m, trivial⟩, ⟨⟨⟨r_f _, r_r _, r_f _, r_r _, r_c ve_ay, r_a (trivial), r_m, trivial⟩, trivial⟩, trivial⟩⟩⟩⟩⟩, ⟨⟨r_f _, r_r _, rSub_ok, r_d, r_f _, r_r _, r_f _, r_r _, r_f _, r_r _, r_f _, r_r _, r_a (eqv_build _ rfl _), r_f _, r_r _, r_c ve_ag, r_a (trivial), r_m, trivial⟩, trivial⟩⟩⟩
theorem ve_al : EvOk s_al v_al := EvOk.of (evFn_sound (C := cx_al) xt_al xr_al xo_al) q_al
attribute [irreducible] w_al s_al
def w_ak (a0 : Value) (K : Value → Mem → Prop) (σ : Mem) : Prop :=xC (gBox 7 [a0] []) fun c1 =>xF fMove [.pointer none] fun v2 =>xF fMove [.int .i64 0] fun v3 =>xO (gLoad 7 true [(locP 1)] c1) fun v4 =>s_aj [v4] (fun v5 σ =>xF (fUn .not) [v5] fun v6 =>xIf v6
 (xF fMove [.pointer none] fun v2 =>xF fMove [.int .i64 1] fun v3 =>K (.tuple #[v2, v3]) σ)
 (xO (gLoad 7 true [(locP 1)] c1) fun v7 =>s_al [v7] (fun v8 σ =>xF (fBuild [(0, 2), (2, 1), (3, 1), (4, 4)] [.int .i64 0, .int .u64 0, .int .i64 0, .nilIface, .int .i64 0, .int .u64 0, .int .i64 0, .int .i64 0] [2]) [v8] fun v9 =>hBox 8 [v9] (fun v10 σ =>xF fMove [v10] fun v2 =>xF fMove [.int .i64 0] fun v3 =>K (.tuple #[v2, v3]) σ) σ) σ)) σ
def s_ak : Spec := fun args K σ => match args with
  | [a0] => w_ak a0 K σ
  | _ => False
noncomputable def cx_ak : Cx := { P := Try.prog, T := [(19, .none, s_aj), (22, .write, s_al)], loc := [(1, 1)], eqt := [], n := 11, keep := [] }
theorem q_ak : FnS cx_ak Try.f14 (bodyOf Try.f14) 1 = s_ak := by
  funext args K σ
  rcases args with _ | ⟨a0, _ | ⟨b, r⟩⟩ <;> kernel_rfl
theorem e_ak : Entry Try.prog 14 .write s_ak :=
  entry (C := cx_ak) (TOk.cons e_aj (TOk.cons e_al TOk.nil)) mixedOk Try.func14 (by kernel_rfl) (by kernel_rfl) (by kernel_rfl) q_ak
def xl_ak : List (Nat × Nat) := [(1, 1)]
noncomputable def xc_ak : XC XN :=
(.seq none
 (.reg [zy xl_ak (.lb 1 7) 1 [.tmp 0],
  zc 2 (.pointer none),
  zc 3 (.int .i64 0)])
 (.seq none
 (.seq none
 (.reg [zy xl_ak (.lr 1 7 true) 4 [.tmp 1],
  zk .none s_aj v_aj 5 [.tmp 4],
  zz (.f (fUn .not)) rNot (some 6) [.tmp 5]])
 (.cond (.tmp 6)
 (.seq none
 (.reg [zc 2 (.pointer none),
  zc 3 (.int .i64 1)])
 .ret)
 .skip))
 (.seq none
 (.reg [zy xl_ak (.lr 1 7 true) 7 [.tmp 1],
  zk .write s_al v_al 8 [.tmp 7],
  zy xl_ak (.f (fBuild [(0, 2), (2, 1), (3, 1), (4, 4)] [.int .i64 0, .int .u64 0, .int .i64 0, .nilIface, .int .i64 0, .int .u64 0, .int .i64 0, .int .i64 0] [2])) 9 [.tmp 8],
  zy xl_ak (.box 8) 10 [.tmp 9],
  zM 2 10,
  zc 3 (.int .i64 0)])
 .ret)))
noncomputable def v_ak : EvF := evFn 1 xc_ak [.t 2, .t 3]
theorem xt_ak : toC cx_ak (bodyOf Try.f14) = some (xc_ak.map XN.sm) := by kernel_rfl
theorem xr_ak : toR cx_ak Try.f14.results.toList = some [.t 2, .t 3] := by kernel_rfl
theorem xo_ak : xc_ak.ok xl_ak := ⟨⟨r_a (trivial), r_m, r_m, trivial⟩, ⟨⟨⟨r_a (trivial), r_c ve_aj, r_t, trivial⟩, ⟨⟨⟨r_m, r_m, trivial⟩, trivial⟩, trivial⟩⟩, ⟨⟨r_a (trivial), r_c ve_al, r_a (eqv_build _ rfl _), r_a (trivial), r_m, r_m, trivial⟩, trivial⟩⟩⟩
theorem ve_ak : EvOk s_ak v_ak := EvOk.of (evFn_sound (C := cx_ak) xt_ak xr_ak xo_ak) q_ak
attribute [irreducible] w_ak s_ak
def w_ba_j3b (K : Value → Mem → Prop) (v3 v4 v5 : Value) (σ : Mem) : Prop :=xF fMove [v3] fun v70 =>xF fMove [v70] fun v71 =>xIf v71
 (xF fMove [v4] fun v72 =>xF fPick [.bool true, v72, .bool false] fun v73 =>xF fMove [v73] fun v74 =>xIf v74
 (xF fMove [v5] fun v75 =>xF fPick [.bool true, v75, .bool false] fun v76 =>xF fMove [v76] fun v2 =>K v2 σ)
 (xF fPick [.bool false, undef, .bool false] fun v76 =>xF fMove [v76] fun v2 =>K v2 σ))
 (xF fPick [.bool false, undef, .bool false] fun v73 =>xF fMove [v73] fun v74 =>xIf v74
 (xF fMove [v5] fun v75 =>xF fPick [.bool true, v75, .bool false] fun v76 =>xF fMove [v76] fun v2 =>K v2 σ)
 (xF fPick [.bool false, undef, .bool false] fun v76 =>xF fMove [v76] fun v2 =>K v2 σ))
def w_ba_j3 (K : Value → Mem → Prop) (ts : List Value) (ls : List (List Value)) (σ : Mem) : Prop := w_ba_j3b K (ts.getD 0 poison) (ts.getD 1 poison) (ts.getD 2 poison) σ
def w_ba_j2b (K : Value → Mem → Prop) (v3 v4 : Value) (c1 : List Value) (σ : Mem) : Prop :=xJoin (w_ba_j3 K) fun J3 =>xF (fFld 4) [(locP 1)] fun v42 =>xO (gLoad 1 false [v42] c1) fun v43 =>xF (fBin .geq .no) [v43, .int .i64 1] fun v44 =>xF fMove [v44] fun v45 =>xIf v45
 (xF (fFld 4) [(locP 1)] fun v46 =>xO (gLoad 1 false [v46] c1) fun v47 =>xF (fBin .leq .no) [v47, .int .i64 65535] fun v48 =>xF fPick [.bool true, v48, .bool false] fun v49 =>xF fMove [v49] fun v50 =>xIf v50
 (xF (fFld 5) [(locP 1)] fun v51 =>xO (gLoad 1 false [v51] c1) fun v52 =>xF (fBin .geq .no) [v52, .int .i64 0] fun v53 =>xF fPick [.bool true, v53, .bool false] fun v54 =>xF fMove [v54] fun v55 =>xIf v55
 (xF (fFld 5) [(locP 1)] fun v56 =>xO (gLoad 1 false [v56] c1) fun v57 =>xF (fBin .leq .no) [v57, .int .i64 1000] fun v58 =>xF fPick [.bool true, v58, .bool false] fun v59 =>xF fMove [v59] fun v60 =>xIf v60
 (xF (fFld 6) [(locP 1)] fun v61 =>xO (gLoad 1 false [v61] c1) fun v62 =>xF (fBin .geq .no) [v62, .int .i64 1] fun v63 =>xF fPick [.bool true, v63, .bool false] fun v64 =>xF fMove [v64] fun v65 =>xIf v65
 (xF (fFld 6) [(locP 1)] fun v66 =>xO (gLoad 1 false [v66] c1) fun v67 =>xF (fBin .leq .no) [v67, .int .i64 16] fun v68 =>xF fPick [.bool true, v68, .bool false] fun v69 =>xF fMove [v69] fun v5 =>J3 [v3, v4, v5] [] σ)
 (xF fPick [.bool false, undef, .bool false] fun v69 =>xF fMove [v69] fun v5 =>J3 [v3, v4, v5] [] σ))
 (xF fPick [.bool false, undef, .bool false] fun v64 =>xF fMove [v64] fun v65 =>xIf v65
 (xF (fFld 6) [(locP 1)] fun v66 =>xO (gLoad 1 false [v66] c1) fun v67 =>xF (fBin .leq .no) [v67, .int .i64 16] fun v68 =>xF fPick [.bool true, v68, .bool false] fun v69 =>xF fMove [v69] fun v5 =>J3 [v3, v4, v5] [] σ)
 (xF fPick [.bool false, undef, .bool false] fun v69 =>xF fMove [v69] fun v5 =>J3 [v3, v4, v5] [] σ)))
 (xF fPick [.bool false, undef, .bool false] fun v59 =>xF fMove [v59] fun v60 =>xIf v60
 (xF (fFld 6) [(locP 1)] fun v61 =>xO (gLoad 1 false [v61] c1) fun v62 =>xF (fBin .geq .no) [v62, .int .i64 1] fun v63 =>xF fPick [.bool true, v63, .bool false] fun v64 =>xF fMove [v64] fun v65 =>xIf v65
 (xF (fFld 6) [(locP 1)] fun v66 =>xO (gLoad 1 false [v66] c1) fun v67 =>xF (fBin .leq .no) [v67, .int .i64 16] fun v68 =>xF fPick [.bool true, v68, .bool false] fun v69 =>xF fMove [v69] fun v5 =>J3 [v3, v4, v5] [] σ)
 (xF fPick [.bool false, undef, .bool false] fun v69 =>xF fMove [v69] fun v5 =>J3 [v3, v4, v5] [] σ))
 (xF fPick [.bool false, undef, .bool false] fun v64 =>xF fMove [v64] fun v65 =>xIf v65
 (xF (fFld 6) [(locP 1)] fun v66 =>xO (gLoad 1 false [v66] c1) fun v67 =>xF (fBin .leq .no) [v67, .int .i64 16] fun v68 =>xF fPick [.bool true, v68, .bool false] fun v69 =>xF fMove [v69] fun v5 =>J3 [v3, v4, v5] [] σ)
 (xF fPick [.bool false, undef, .bool false] fun v69 =>xF fMove [v69] fun v5 =>J3 [v3, v4, v5] [] σ))))
 (xF fPick [.bool false, undef, .bool false] fun v54 =>xF fMove [v54] fun v55 =>xIf v55
 (xF (fFld 5) [(locP 1)] fun v56 =>xO (gLoad 1 false [v56] c1) fun v57 =>xF (fBin .leq .no) [v57, .int .i64 1000] fun v58 =>xF fPick [.bool true, v58, .bool false] fun v59 =>xF fMove [v59] fun v60 =>xIf v60
 (xF (fFld 6) [(locP 1)] fun v61 =>xO (gLoad 1 false [v61] c1) fun v62 =>xF (fBin .geq .no) [v62, .int .i64 1] fun v63 =>xF fPick [.bool true, v63, .bool false] fun v64 =>xF fMove [v64] fun v65 =>xIf v65
 (xF (fFld 6) [(locP 1)] fun v66 =>xO (gLoad 1 false [v66] c1) fun v67 =>xF (fBin .leq .no) [v67, .int .i64 16] fun v68 =>xF fPick [.bool true, v68, .bool false] fun v69 =>xF fMove [v69] fun v5 =>J3 [v3, v4, v5] [] σ)
 (xF fPick [.bool false, undef, .bool false] fun v69 =>xF fMove [v69] fun v5 =>J3 [v3, v4, v5] [] σ))
 (xF fPick [.bool false, undef, .bool false] fun v64 =>xF fMove [v64] fun v65 =>xIf v65
 (xF (fFld 6) [(locP 1)] fun v66 =>xO (gLoad 1 false [v66] c1) fun v67 =>xF (fBin .leq .no) [v67, .int .i64 16] fun v68 =>xF fPick [.bool true, v68, .bool false] fun v69 =>xF fMove [v69] fun v5 =>J3 [v3, v4, v5] [] σ)
 (xF fPick [.bool false, undef, .bool false] fun v69 =>xF fMove [v69] fun v5 =>J3 [v3, v4, v5] [] σ)))
 (xF fPick [.bool false, undef, .bool false] fun v59 =>xF fMove [v59] fun v60 =>xIf v60
 (xF (fFld 6) [(locP 1)] fun v61 =>xO (gLoad 1 false [v61] c1) fun v62 =>xF (fBin .geq .no) [v62, .int .i64 1] fun v63 =>xF fPick [.bool true, v63, .bool false] fun v64 =>xF fMove [v64] fun v65 =>xIf v65
 (xF (fFld 6) [(locP 1)] fun v66 =>xO (gLoad 1 false [v66] c1) fun v67 =>xF (fBin .leq .no) [v67, .int .i64 16] fun v68 =>xF fPick [.bool true, v68, .bool false] fun v69 =>xF fMove [v69] fun v5 =>J3 [v3, v4, v5] [] σ)
 (xF fPick [.bool false, undef, .bool false] fun v69 =>xF fMove [v69] fun v5 =>J3 [v3, v4, v5] [] σ))
 (xF fPick [.bool false, undef, .bool false] fun v64 =>xF fMove [v64] fun v65 =>xIf v65
 (xF (fFld 6) [(locP 1)] fun v66 =>xO (gLoad 1 false [v66] c1) fun v67 =>xF (fBin .leq .no) [v67, .int .i64 16] fun v68 =>xF fPick [.bool true, v68, .bool false] fun v69 =>xF fMove [v69] fun v5 =>J3 [v3, v4, v5] [] σ)
 (xF fPick [.bool false, undef, .bool false] fun v69 =>xF fMove [v69] fun v5 =>J3 [v3, v4, v5] [] σ)))))
 (xF fPick [.bool false, undef, .bool false] fun v49 =>xF fMove [v49] fun v50 =>xIf v50
 (xF (fFld 5) [(locP 1)] fun v51 =>xO (gLoad 1 false [v51] c1) fun v52 =>xF (fBin .geq .no) [v52, .int .i64 0] fun v53 =>xF fPick [.bool true, v53, .bool false] fun v54 =>xF fMove [v54] fun v55 =>xIf v55
 (xF (fFld 5) [(locP 1)] fun v56 =>xO (gLoad 1 false [v56] c1) fun v57 =>xF (fBin .leq .no) [v57, .int .i64 1000] fun v58 =>xF fPick [.bool true, v58, .bool false] fun v59 =>xF fMove [v59] fun v60 =>xIf v60
 (xF (fFld 6) [(locP 1)] fun v61 =>xO (gLoad 1 false [v61] c1) fun v62 =>xF (fBin .geq .no) [v62, .int .i64 1] fun v63 =>xF fPick [.bool true, v63, .bool false] fun v64 =>xF fMove [v64] fun v65 =>xIf v65
 (xF (fFld 6) [(locP 1)] fun v66 =>xO (gLoad 1 false [v66] c1) fun v67 =>xF (fBin .leq .no) [v67, .int .i64 16] fun v68 =>xF fPick [.bool true, v68, .bool false] fun v69 =>xF fMove [v69] fun v5 =>J3 [v3, v4, v5] [] σ)
 (xF fPick [.bool false, undef, .bool false] fun v69 =>xF fMove [v69] fun v5 =>J3 [v3, v4, v5] [] σ))
 (xF fPick [.bool false, undef, .bool false] fun v64 =>xF fMove [v64] fun v65 =>xIf v65
 (xF (fFld 6) [(locP 1)] fun v66 =>xO (gLoad 1 false [v66] c1) fun v67 =>xF (fBin .leq .no) [v67, .int .i64 16] fun v68 =>xF fPick [.bool true, v68, .bool false] fun v69 =>xF fMove [v69] fun v5 =>J3 [v3, v4, v5] [] σ)
 (xF fPick [.bool false, undef, .bool false] fun v69 =>xF fMove [v69] fun v5 =>J3 [v3, v4, v5] [] σ)))
 (xF fPick [.bool false, undef, .bool false] fun v59 =>xF fMove [v59] fun v60 =>xIf v60
 (xF (fFld 6) [(locP 1)] fun v61 =>xO (gLoad 1 false [v61] c1) fun v62 =>xF (fBin .geq .no) [v62, .int .i64 1] fun v63 =>xF fPick [.bool true, v63, .bool false] fun v64 =>xF fMove [v64] fun v65 =>xIf v65
 (xF (fFld 6) [(locP 1)] fun v66 =>xO (gLoad 1 false [v66] c1) fun v67 =>xF (fBin .leq .no) [v67, .int .i64 16] fun v68 =>xF fPick [.bool true, v68, .bool false] fun v69 =>xF fMove [v69] fun v5 =>J3 [v3, v4, v5] [] σ)
 (xF fPick [.bool false, undef, .bool false] fun v69 =>xF fMove [v69] fun v5 =>J3 [v3, v4, v5] [] σ))
 (xF fPick [.bool false, undef, .bool false] fun v64 =>xF fMove [v64] fun v65 =>xIf v65
 (xF (fFld 6) [(locP 1)] fun v66 =>xO (gLoad 1 false [v66] c1) fun v67 =>xF (fBin .leq .no) [v67, .int .i64 16] fun v68 =>xF fPick [.bool true, v68, .bool false] fun v69 =>xF fMove [v69] fun v5 =>J3 [v3, v4, v5] [] σ)
 (xF fPick [.bool false, undef, .bool false] fun v69 =>xF fMove [v69] fun v5 =>J3 [v3, v4, v5] [] σ))))
 (xF fPick [.bool false, undef, .bool false] fun v54 =>xF fMove [v54] fun v55 =>xIf v55
 (xF (fFld 5) [(locP 1)] fun v56 =>xO (gLoad 1 false [v56] c1) fun v57 =>xF (fBin .leq .no) [v57, .int .i64 1000] fun v58 =>xF fPick [.bool true, v58, .bool false] fun v59 =>xF fMove [v59] fun v60 =>xIf v60
 (xF (fFld 6) [(locP 1)] fun v61 =>xO (gLoad 1 false [v61] c1) fun v62 =>xF (fBin .geq .no) [v62, .int .i64 1] fun v63 =>xF fPick [.bool true, v63, .bool false] fun v64 =>xF fMove [v64] fun v65 =>xIf v65
 (xF (fFld 6) [(locP 1)] fun v66 =>xO (gLoad 1 false [v66] c1) fun v67 =>xF (fBin .leq .no) [v67, .int .i64 16] fun v68 =>xF fPick [.bool true, v68, .bool false] fun v69 =>xF fMove [v69] fun v5 =>J3 [v3, v4, v5] [] σ)
 (xF fPick [.bool false, undef, .bool false] fun v69 =>xF fMove [v69] fun v5 =>J3 [v3, v4, v5] [] σ))
 (xF fPick [.bool false, undef, .bool false] fun v64 =>xF fMove [v64] fun v65 =>xIf v65
 (xF (fFld 6) [(locP 1)] fun v66 =>xO (gLoad 1 false [v66] c1) fun v67 =>xF (fBin .leq .no) [v67, .int .i64 16] fun v68 =>xF fPick [.bool true, v68, .bool false] fun v69 =>xF fMove [v69] fun v5 =>J3 [v3, v4, v5] [] σ)
 (xF fPick [.bool false, undef, .bool false] fun v69 =>xF fMove [v69] fun v5 =>J3 [v3, v4, v5] [] σ)))
 (xF fPick [.bool false, undef, .bool false] fun v59 =>xF fMove [v59] fun v60 =>xIf v60
 (xF (fFld 6) [(locP 1)] fun v61 =>xO (gLoad 1 false [v61] c1) fun v62 =>xF (fBin .geq .no) [v62, .int .i64 1] fun v63 =>xF fPick [.bool true, v63, .bool false] fun v64 =>xF fMove [v64] fun v65 =>xIf v65
 (xF (fFld 6) [(locP 1)] fun v66 =>xO (gLoad 1 false [v66] c1) fun v67 =>xF (fBin .leq .no) [v67, .int .i64 16] fun v68 =>xF fPick [.bool true, v68, .bool false] fun v69 =>xF fMove [v69] fun v5 =>J3 [v3, v4, v5] [] σ)
 (xF fPick [.bool false, undef, .bool false] fun v69 =>xF fMove [v69] fun v5 =>J3 [v3, v4, v5] [] σ))
 (xF fPick [.bool false, undef, .bool false] fun v64 =>xF fMove [v64] fun v65 =>xIf v65
 (xF (fFld 6) [(locP 1)] fun v66 =>xO (gLoad 1 false [v66] c1) fun v67 =>xF (fBin .leq .no) [v67, .int .i64 16] fun v68 =>xF fPick [.bool true, v68, .bool false] fun v69 =>xF fMove [v69] fun v5 =>J3 [v3, v4, v5] [] σ)
 (xF fPick [.bool false, undef, .bool false] fun v69 =>xF fMove [v69] fun v5 =>J3 [v3, v4, v5] [] σ)))))
def w_ba_j2 (K : Value → Mem → Prop) (ts : List Value) (ls : List (List Value)) (σ : Mem) : Prop := w_ba_j2b K (ts.getD 0 poison) (ts.getD 1 poison) (ls.getD 0 []) σ
def w_ba_j1b (K : Value → Mem → Prop) (v3 : Value) (c1 : List Value) (σ : Mem) : Prop :=xJoin (w_ba_j2 K) fun J2 =>xF (fFld 2) [(locP 1)] fun v24 =>xO (gLoad 1 false [v24] c1) fun v25 =>xF (fBin .geq .no) [v25, .int .i64 1] fun v26 =>xF fMove [v26] fun v27 =>xIf v27
 (xF (fFld 2) [(locP 1)] fun v28 =>xO (gLoad 1 false [v28] c1) fun v29 =>xF (fBin .leq .no) [v29, .int .i64 64] fun v30 =>xF fPick [.bool true, v30, .bool false] fun v31 =>xF fMove [v31] fun v32 =>xIf v32
 (xF (fFld 3) [(locP 1)] fun v33 =>xO (gLoad 1 false [v33] c1) fun v34 =>xF (fBin .geq .no) [v34, .int .i64 17] fun v35 =>xF fPick [.bool true, v35, .bool false] fun v36 =>xF fMove [v36] fun v37 =>xIf v37
 (xF (fFld 3) [(locP 1)] fun v38 =>xO (gLoad 1 false [v38] c1) fun v39 =>xF (fBin .leq .no) [v39, .int .i64 256] fun v40 =>xF fPick [.bool true, v40, .bool false] fun v41 =>xF fMove [v41] fun v4 =>J2 [v3, v4] [c1] σ)
 (xF fPick [.bool false, undef, .bool false] fun v41 =>xF fMove [v41] fun v4 =>J2 [v3, v4] [c1] σ))
 (xF fPick [.bool false, undef, .bool false] fun v36 =>xF fMove [v36] fun v37 =>xIf v37
 (xF (fFld 3) [(locP 1)] fun v38 =>xO (gLoad 1 false [v38] c1) fun v39 =>xF (fBin .leq .no) [v39, .int .i64 256] fun v40 =>xF fPick [.bool true, v40, .bool false] fun v41 =>xF fMove [v41] fun v4 =>J2 [v3, v4] [c1] σ)
 (xF fPick [.bool false, undef, .bool false] fun v41 =>xF fMove [v41] fun v4 =>J2 [v3, v4] [c1] σ)))
 (xF fPick [.bool false, undef, .bool false] fun v31 =>xF fMove [v31] fun v32 =>xIf v32
 (xF (fFld 3) [(locP 1)] fun v33 =>xO (gLoad 1 false [v33] c1) fun v34 =>xF (fBin .geq .no) [v34, .int .i64 17] fun v35 =>xF fPick [.bool true, v35, .bool false] fun v36 =>xF fMove [v36] fun v37 =>xIf v37
 (xF (fFld 3) [(locP 1)] fun v38 =>xO (gLoad 1 false [v38] c1) fun v39 =>xF (fBin .leq .no) [v39, .int .i64 256] fun v40 =>xF fPick [.bool true, v40, .bool false] fun v41 =>xF fMove [v41] fun v4 =>J2 [v3, v4] [c1] σ)
 (xF fPick [.bool false, undef, .bool false] fun v41 =>xF fMove [v41] fun v4 =>J2 [v3, v4] [c1] σ))
 (xF fPick [.bool false, undef, .bool false] fun v36 =>xF fMove [v36] fun v37 =>xIf v37
 (xF (fFld 3) [(locP 1)] fun v38 =>xO (gLoad 1 false [v38] c1) fun v39 =>xF (fBin .leq .no) [v39, .int .i64 256] fun v40 =>xF fPick [.bool true, v40, .bool false] fun v41 =>xF fMove [v41] fun v4 =>J2 [v3, v4] [c1] σ)
 (xF fPick [.bool false, undef, .bool false] fun v41 =>xF fMove [v41] fun v4 =>J2 [v3, v4] [c1] σ)))
def w_ba_j1 (K : Value → Mem → Prop) (ts : List Value) (ls : List (List Value)) (σ : Mem) : Prop := w_ba_j1b K (ts.getD 0 poison) (ls.getD 0 []) σ
def w_ba (a0 : Value) (K : Value → Mem → Prop) (σ : Mem) : Prop :=xC (gBox 7 [a0] []) fun c1 =>xF fMove [.bool false] fun v2 =>xJoin (w_ba_j1 K) fun J1 =>xF (fFld 0) [(locP 1)] fun v6 =>xO (gLoad 1 false [v6] c1) fun v7 =>xF (fBin .geq .no) [v7, .int .i64 1] fun v8 =>xF fMove [v8] fun v9 =>xIf v9
 (xF (fFld 0) [(locP 1)] fun v10 =>xO (gLoad 1 false [v10] c1) fun v11 =>xF (fBin .leq .no) [v11, .int .i64 8] fun v12 =>xF fPick [.bool true, v12, .bool false] fun v13 =>xF fMove [v13] fun v14 =>xIf v14
 (xF (fFld 1) [(locP 1)] fun v15 =>xO (gLoad 1 false [v15] c1) fun v16 =>xF (fBin .geq .no) [v16, .int .i64 1] fun v17 =>xF fPick [.bool true, v17, .bool false] fun v18 =>xF fMove [v18] fun v19 =>xIf v19
 (xF (fFld 1) [(locP 1)] fun v20 =>xO (gLoad 1 false [v20] c1) fun v21 =>xF (fBin .leq .no) [v21, .int .i64 65536] fun v22 =>xF fPick [.bool true, v22, .bool false] fun v23 =>xF fMove [v23] fun v3 =>J1 [v3] [c1] σ)
 (xF fPick [.bool false, undef, .bool false] fun v23 =>xF fMove [v23] fun v3 =>J1 [v3] [c1] σ))
 (xF fPick [.bool false, undef, .bool false] fun v18 =>xF fMove [v18] fun v19 =>xIf v19
 (xF (fFld 1) [(locP 1)] fun v20 =>xO (gLoad 1 false [v20] c1) fun v21 =>xF (fBin .leq .no) [v21, .int .i64 65536] fun v22 =>xF fPick [.bool true, v22, .bool false] fun v23 =>xF fMove [v23] fun v3 =>J1 [v3] [c1] σ)
 (xF fPick [.bool false, undef, .bool false] fun v23 =>xF fMove [v23] fun v3 =>J1 [v3] [c1] σ)))
 (xF fPick [.bool false, undef, .bool false] fun v13 =>xF fMove [v13] fun v14 =>xIf v14
 (xF (fFld 1) [(locP 1)] fun v15 =>xO (gLoad 1 false [v15] c1) fun v16 =>xF (fBin .geq .no) [v16, .int .i64 1] fun v17 =>xF fPick [.bool true, v17, .bool false] fun v18 =>xF fMove [v18] fun v19 =>xIf v19
 (xF (fFld 1) [(locP 1)] fun v20 =>xO (gLoad 1 false [v20] c1) fun v21 =>xF (fBin .leq .no) [v21, .int .i64 65536] fun v22 =>xF fPick [.bool true, v22, .bool false] fun v23 =>xF fMove [v23] fun v3 =>J1 [v3] [c1] σ)
 (xF fPick [.bool false, undef, .bool false] fun v23 =>xF fMove [v23] fun v3 =>J1 [v3] [c1] σ))
 (xF fPick [.bool false, undef, .bool false] fun v18 =>xF fMove [v18] fun v19 =>xIf v19
 (xF (fFld 1) [(locP 1)] fun v20 =>xO (gLoad 1 false [v20] c1) fun v21 =>xF (fBin .leq .no) [v21, .int .i64 65536] fun v22 =>xF fPick [.bool true, v22, .bool false] fun v23 =>xF fMove [v23] fun v3 =>J1 [v3] [c1] σ)
 (xF fPick [.bool false, undef, .bool false] fun v23 =>xF fMove [v23] fun v3 =>J1 [v3] [c1] σ)))
def s_ba : Spec := fun args K σ => match args with
  | [a0] => w_ba a0 K σ
  | _ => False
noncomputable def cx_ba : Cx := { P := Try.prog, T := [], loc := [(1, 1), (6, 1), (10, 1), (15, 1), (20, 1), (24, 1), (28, 1), (33, 1), (38, 1), (42, 1), (46, 1), (51, 1), (56, 1), (61, 1), (66, 1)], eqt := [], n := 77, keep := [(1000003, [3], [1]), (1000004, [3, 4], [1]), (1000005, [3, 4, 5], [])] }
theorem q_ba : FnS cx_ba Try.f26 (bodyOf Try.f26) 1 = s_ba := by
  funext args K σ
  rcases args with _ | ⟨a0, _ | ⟨b, r⟩⟩ <;> kernel_rfl
theorem e_ba : Entry Try.prog 26 .none s_ba :=
  entry (C := cx_ba) TOk.nil mixedOk Try.func26 (by kernel_rfl) (by kernel_rfl) (by kernel_rfl) q_ba
def xl_ba : List (Nat × Nat) := [(1, 1), (6, 1), (10, 1), (15, 1), (20, 1), (24, 1), (28, 1), (33, 1), (38, 1), (42, 1), (46, 1), (51, 1), (56, 1), (61, 1), (66, 1)]
noncomputable def xc_ba : XC XN :=
(.seq none
 (.reg [zy xl_ba (.lb 1 7) 1 [.tmp 0],
  zc 2 (.bool false)])
 (.seq (some ([3], [1]))
 (.reg [zF 0 6 1,
  zr 1 7 6,
  zb .geq rGeq 8 [.tmp 7, .const (.int .i64 1)],
  zM 9 8,
  ⟨(some (4, 3, true, some 9)), some 10, [.tmp 1], ⟨.f (fFld 0), rFld 0⟩⟩,
  ⟨(some (5, 3, true, some 9)), some 11, [.tmp 10], ⟨.lr 1 1 false, rLr1 1⟩⟩,
  ⟨(some (6, 3, true, some 9)), some 12, [.tmp 11, (.const (.int .i64 8))], ⟨.f (fBin .leq .no), rLeq⟩⟩,
  zz (.f fPick) rPick (some 13) [.tmp 9, .tmp 12, .const (.bool false)],
  zM 14 13,
  ⟨(some (9, 8, true, some 14)), some 15, [.tmp 1], ⟨.f (fFld 1), rFld 1⟩⟩,
  ⟨(some (10, 8, true, some 14)), some 16, [.tmp 15], ⟨.lr 1 1 false, rLr1 1⟩⟩,
  ⟨(some (11, 8, true, some 14)), some 17, [.tmp 16, (.const (.int .i64 1))], ⟨.f (fBin .geq .no), rGeq⟩⟩,
  zz (.f fPick) rPick (some 18) [.tmp 14, .tmp 17, .const (.bool false)],
  zM 19 18,
  ⟨(some (14, 13, true, some 19)), some 20, [.tmp 1], ⟨.f (fFld 1), rFld 1⟩⟩,
  ⟨(some (15, 13, true, some 19)), some 21, [.tmp 20], ⟨.lr 1 1 false, rLr1 1⟩⟩,
  ⟨(some (16, 13, true, some 19)), some 22, [.tmp 21, (.const (.int .i64 65536))], ⟨.f (fBin .leq .no), rLeq⟩⟩,
  zz (.f fPick) rPick (some 23) [.tmp 19, .tmp 22, .const (.bool false)],
  zM 3 23])
 (.seq (some ([3, 4], [1]))
 (.reg [zF 2 24 1,
  zr 1 25 24,
  zb .geq rGeq 26 [.tmp 25, .const (.int .i64 1)],
  zM 27 26,
  ⟨(some (4, 3, true, some 27)), some 28, [.tmp 1], ⟨.f (fFld 2), rFld 2⟩⟩,
  ⟨(some (5, 3, true, some 27)), some 29, [.tmp 28], ⟨.lr 1 1 false, rLr1 1⟩⟩,
  ⟨(some (6, 3, true, some 27)), some 30, [.tmp 29, (.const (.int .i64 64))], ⟨.f (fBin .leq .no), rLeq⟩⟩,
  zz (.f fPick) rPick (some 31) [.tmp 27, .tmp 30, .const (.bool false)],
  zM 32 31,
  ⟨(some (9, 8, true, some 32)), some 33, [.tmp 1], ⟨.f (fFld 3), rFld 3⟩⟩,
  ⟨(some (10, 8, true, some 32)), some 34, [.tmp 33], ⟨.lr 1 1 false, rLr1 1⟩⟩,
  ⟨(some (11, 8, true, some 32)), some 35, [.tmp 34, (.const (.int .i64 17))], ⟨.f (fBin .geq .no), rGeq⟩⟩,
  zz (.f fPick) rPick (some 36) [.tmp 32, .tmp 35, .const (.bool false)],
  zM 37 36,
  ⟨(some (14, 13, true, some 37)), some 38, [.tmp 1], ⟨.f (fFld 3), rFld 3⟩⟩,
  ⟨(some (15, 13, true, some 37)), some 39, [.tmp 38], ⟨.lr 1 1 false, rLr1 1⟩⟩,
  ⟨(some (16, 13, true, some 37)), some 40, [.tmp 39, (.const (.int .i64 256))], ⟨.f (fBin .leq .no), rLeq⟩⟩,
  zz (.f fPick) rPick (some 41) [.tmp 37, .tmp 40, .const (.bool false)],
  zM 4 41])
 (.seq (some ([3, 4, 5], []))
 (.reg [zF 4 42 1,
  zr 1 43 42,
  zb .geq rGeq 44 [.tmp 43, .const (.int .i64 1)],
  zM 45 44,
  ⟨(some (4, 3, true, some 45)), some 46, [.tmp 1], ⟨.f (fFld 4), rFld 4⟩⟩,
  ⟨(some (5, 3, true, some 45)), some 47, [.tmp 46], ⟨.lr 1 1 false, rLr1 1⟩⟩,
  ⟨(some (6, 3, true, some 45)), some 48, [.tmp 47, (.const (.int .i64 65535))], ⟨.f (fBin .leq .no), rLeq⟩⟩,
  zz (.f fPick) rPick (some 49) [.tmp 45, .tmp 48, .const (.bool false)],
  zM 50 49,
  ⟨(some (9, 8, true, some 50)), some 51, [.tmp 1], ⟨.f (fFld 5), rFld 5⟩⟩,
  ⟨(some (10, 8, true, some 50)), some 52, [.tmp 51], ⟨.lr 1 1 false, rLr1 1⟩⟩,
  ⟨(some (11, 8, true, some 50)), some 53, [.tmp 52, (.const (.int .i64 0))], ⟨.f (fBin .geq .no), rGeq⟩⟩,
  zz (.f fPick) rPick (some 54) [.tmp 50, .tmp 53, .const (.bool false)],
  zM 55 54,
  ⟨(some (14, 13, true, some 55)), some 56, [.tmp 1], ⟨.f (fFld 5), rFld 5⟩⟩,
  ⟨(some (15, 13, true, some 55)), some 57, [.tmp 56], ⟨.lr 1 1 false, rLr1 1⟩⟩,
  ⟨(some (16, 13, true, some 55)), some 58, [.tmp 57, (.const (.int .i64 1000))], ⟨.f (fBin .leq .no), rLeq⟩⟩,
  zz (.f fPick) rPick (some 59) [.tmp 55, .tmp 58, .const (.bool false)],
  zM 60 59,
  ⟨(some (19, 18, true, some 60)), some 61, [.tmp 1], ⟨.f (fFld 6), rFld 6⟩⟩,
  ⟨(some (20, 18, true, some 60)), some 62, [.tmp 61], ⟨.lr 1 1 false, rLr1 1⟩⟩,
  ⟨(some (21, 18, true, some 60)), some 63, [.tmp 62, (.const (.int .i64 1))], ⟨.f (fBin .geq .no), rGeq⟩⟩,
  zz (.f fPick) rPick (some 64) [.tmp 60, .tmp 63, .const (.bool false)],
  zM 65 64,
  ⟨(some (24, 23, true, some 65)), some 66, [.tmp 1], ⟨.f (fFld 6), rFld 6⟩⟩,
  ⟨(some (25, 23, true, some 65)), some 67, [.tmp 66], ⟨.lr 1 1 false, rLr1 1⟩⟩,
  ⟨(some (26, 23, true, some 65)), some 68, [.tmp 67, (.const (.int .i64 16))], ⟨.f (fBin .leq .no), rLeq⟩⟩,
  zz (.f fPick) rPick (some 69) [.tmp 65, .tmp 68, .const (.bool false)],
  zM 5 69])
 (.seq none
 (.reg [zM 70 3,
  zM 71 70,
  ⟨(some (2, 1, true, some 71)), some 72, [.tmp 4], ⟨.f fMove, rMove⟩⟩,
  zz (.f fPick) rPick (some 73) [.tmp 71, .tmp 72, .const (.bool false)],
  zM 74 73,
  ⟨(some (5, 4, true, some 74)), some 75, [.tmp 5], ⟨.f fMove, rMove⟩⟩,
  zz (.f fPick) rPick (some 76) [.tmp 74, .tmp 75, .const (.bool false)],
  zM 2 76])
 .ret)))))
noncomputable def v_ba : EvF := evFn 1 xc_ba [.t 2]
theorem xt_ba : toC cx_ba (bodyOf Try.f26) = some (xc_ba.map XN.sm) := by kernel_rfl
theorem xr_ba : toR cx_ba Try.f26.results.toList = some [.t 2] := by kernel_rfl
theorem xo_ba : xc_ba.ok xl_ba := ⟨⟨r_a (trivial), r_m, trivial⟩, ⟨⟨r_f _, r_r _, rGeq_ok, r_m, r_f _, r_r _, rLeq_ok, r_p, r_m, r_f _, r_r _, rGeq_ok, r_p, r_m, r_f _, r_r _, rLeq_ok, r_p, r_m, trivial⟩, ⟨⟨r_f _, r_r _, rGeq_ok, r_m, r_f _, r_r _, rLeq_ok, r_p, r_m, r_f _, r_r _, rGeq_ok, r_p, r_m, r_f _, r_r _, rLeq_ok, r_p, r_m, trivial⟩, ⟨⟨r_f _, r_r _, rGeq_ok, r_m, r_f _, r_r _, rLeq_ok, r_p, r_m, r_f _, r_r _, rGeq_ok, r_p, r_m, r_f _, r_r _, rLeq_ok, r_p, r_m, r_f _, r_r _, rGeq_ok, r_p, r_m, r_f _, r_r _, rLeq_ok, r_p, r_m, trivial⟩, ⟨⟨r_m, r_m, r_m, r_p, r_m, r_m, r_p, r_m, trivial⟩, trivial⟩⟩⟩⟩⟩
theorem ve_ba : EvOk s_ba v_ba := EvOk.of (evFn_sound (C := cx_ba) xt_ba xr_ba xo_ba) q_ba
attribute [irreducible] w_ba_j3b w_ba_j3 w_ba_j2b w_ba_j2 w_ba_j1b w_ba_j1 w_ba s_ba
def w_a9 (a0 a1 : Value) (K : Value → Mem → Prop) (σ : Mem) : Prop :=xC (gBox 7 [a0] []) fun c2 =>xF fMove [.int .i64 0] fun v4 =>xF (fFld 0) [(locP 2)] fun v5 =>xO (gLoad 1 false [v5] c2) fun v6 =>xF (fBin .add .no) [.int .i64 6, v6] fun v7 =>xF (fFld 1) [(locP 2)] fun v8 =>xO (gLoad 1 false [v8] c2) fun v9 =>xF (fBin .mul .no) [.int .i64 2, v9] fun v10 =>xF (fBin .add .no) [v7, v10] fun v11 =>xF (fFld 2) [(locP 2)] fun v12 =>xO (gLoad 1 false [v12] c2) fun v13 =>xF (fBin .mul .no) [.int .i64 3, v13] fun v14 =>xF (fBin .add .no) [v11, v14] fun v15 =>xF (fFld 3) [(locP 2)] fun v16 =>xO (gLoad 1 false [v16] c2) fun v17 =>xF fMove [a1] fun v18 =>xF (fBin .mul .no) [v17, v18] fun v19 =>xF (fBin .add .no) [v15, v19] fun v20 =>xF fMove [v20] fun v4 =>K v4 σ
def s_a9 : Spec := fun args K σ => match args with
  | [a0, a1] => w_a9 a0 a1 K σ
  | _ => False
noncomputable def cx_a9 : Cx := { P := Try.prog, T := [], loc := [(2, 2), (5, 2), (8, 2), (12, 2), (16, 2)], eqt := [], n := 21, keep := [] }
theorem q_a9 : FnS cx_a9 Try.f40 (bodyOf Try.f40) 2 = s_a9 := by
  funext args K σ
  rcases args with _ | ⟨a0, _ | ⟨a1, _ | ⟨b, r⟩⟩⟩ <;> kernel_rfl
theorem e_a9 : Entry Try.prog 40 .none s_a9 :=
  entry (C := cx_a9) TOk.nil mixedOk Try.func40 (by kernel_rfl) (by kernel_rfl) (by kernel_rfl) q_a9
def xl_a9 : List (Nat × Nat) := [(2, 2), (5, 2), (8, 2), (12, 2), (16, 2)]
noncomputable def xc_a9 : XC XN :=
(.seq none
 (.reg [zy xl_a9 (.lb 2 7) 2 [.tmp 0],
  zc 4 (.int .i64 0)])
 (.seq none
 (.reg [zF 0 5 2,
  zr 2 6 5,
  zb .add rAdd 7 [.const (.int .i64 6), .tmp 6],
  zF 1 8 2,
  zr 2 9 8,
  zb .mul rMul 10 [.const (.int .i64 2), .tmp 9],
  zb .add rAdd 11 [.tmp 7, .tmp 10],
  zF 2 12 2,
  zr 2 13 12,
  zb .mul rMul 14 [.const (.int .i64 3), .tmp 13],
  zb .add rAdd 15 [.tmp 11, .tmp 14],
  zF 3 16 2,
  zr 2 17 16,
  zM 18 1,
  zb .mul rMul 19 [.tmp 17, .tmp 18],
  zb .add rAdd 20 [.tmp 15, .tmp 19],
  zM 4 20])
 .ret))
noncomputable def v_a9 : EvF := evFn 2 xc_a9 [.t 4]
theorem xt_a9 : toC cx_a9 (bodyOf Try.f40) = some (xc_a9.map XN.sm) := by kernel_rfl
theorem xr_a9 : toR cx_a9 Try.f40.results.toList = some [.t 4] := by kernel_rfl
theorem xo_a9 : xc_a9.ok xl_a9 := ⟨⟨r_a (trivial), r_m, trivial⟩, ⟨⟨r_f _, r_r _, r_d, r_f _, r_r _, rMul_ok, r_d, r_f _, r_r _, rMul_ok, r_d, r_f _, r_r _, r_m, rMul_ok, r_d, r_m, trivial⟩, trivial⟩⟩
theorem ve_a9 : EvOk s_a9 v_a9 := EvOk.of (evFn_sound (C := cx_a9) xt_a9 xr_a9 xo_a9) q_a9
attribute [irreducible] w_a9 s_a9
def w_bk (a0 : Value) (K : Value → Mem → Prop) (σ : Mem) : Prop :=xC (gBox 7 [a0] []) fun c1 =>xF fMove [.int .i64 0] fun v2 =>xO (gLoad 7 true [(locP 1)] c1) fun v3 =>xF (fFld 2) [(locP 1)] fun v4 =>xO (gLoad 1 false [v4] c1) fun v5 =>s_a9 [v3, v5] (fun v6 σ =>xF fMove [v6] fun v2 =>K v2 σ) σ
def s_bk : Spec := fun args K σ => match args with
  | [a0] => w_bk a0 K σ
  | _ => False
noncomputable def cx_bk : Cx := { P := Try.prog, T := [(40, .none, s_a9)], loc := [(1, 1), (4, 1)], eqt := [], n := 7, keep := [] }
theorem q_bk : FnS cx_bk Try.f28 (bodyOf Try.f28) 1 = s_bk := by
  funext args K σ
  rcases args with _ | ⟨a0, _ | ⟨b, r⟩⟩ <;> kernel_rfl
theorem e_bk : Entry Try.prog 28 .none s_bk :=
  entry (C := cx_bk) (TOk.cons e_a9 TOk.nil) mixedOk Try.func28 (by kernel_rfl) (by kernel_rfl) (by kernel_rfl) q_bk
def xl_bk : List (Nat × Nat) := [(1, 1), (4, 1)]
noncomputable def xc_bk : XC XN :=
(.seq none
 (.reg [zy xl_bk (.lb 1 7) 1 [.tmp 0],
  zc 2 (.int .i64 0)])
 (.seq none
 (.reg [zy xl_bk (.lr 1 7 true) 3 [.tmp 1],
  zF 2 4 1,
  zr 1 5 4,
  zk .none s_a9 v_a9 6 [.tmp 3, .tmp 5],
  zM 2 6])
 .ret))
noncomputable def v_bk : EvF := evFn 1 xc_bk [.t 2]
theorem xt_bk : toC cx_bk (bodyOf Try.f28) = some (xc_bk.map XN.sm) := by kernel_rfl
theorem xr_bk : toR cx_bk Try.f28.results.toList = some [.t 2] := by kernel_rfl
theorem xo_bk : xc_bk.ok xl_bk := ⟨⟨r_a (trivial), r_m, trivial⟩, ⟨⟨r_a (trivial), r_f _, r_r _, r_c ve_a9, r_m, trivial⟩, trivial⟩⟩
theorem ve_bk : EvOk s_bk v_bk := EvOk.of (evFn_sound (C := cx_bk) xt_bk xr_bk xo_bk) q_bk
attribute [irreducible] w_bk s_bk
def w_b1_j1b (K : Value → Mem → Prop) (v0 v9 : Value) (σ : Mem) : Prop :=xIf v9
 (xF fMove [.pointer none] fun v2 =>xF fMove [.int .i64 1] fun v3 =>K (.tuple #[v2, v3]) σ)
 (xF fMove [v0] fun v10 =>hMakeS 1 8 [.int .u64 0] [v10, v10] (fun v11 σ =>xF fMove [v0] fun v12 =>hMakeS 1 8 [.int .i64 0] [v12, v12] (fun v13 σ =>xF (fBuild [(0, 1), (1, 1), (2, 1), (3, 1), (4, 3)] [(.slice none 0 0), (.slice none 0 0), .int .i64 0, .int .i64 0, .int .i64 0, .int .i64 0, .bool false] [0, 1]) [v11, v13] fun v14 =>hBox 7 [v14] (fun v15 σ =>xF fMove [v15] fun v2 =>xF fMove [.int .i64 0] fun v3 =>K (.tuple #[v2, v3]) σ) σ) σ) σ)
def w_b1_j1 (K : Value → Mem → Prop) (ts : List Value) (ls : List (List Value)) (σ : Mem) : Prop := w_b1_j1b K (ts.getD 0 poison) (ts.getD 1 poison) σ
def w_b1 (a0 : Value) (K : Value → Mem → Prop) (σ : Mem) : Prop :=xF fMove [.pointer none] fun v2 =>xF fMove [.int .i64 0] fun v3 =>xJoin (w_b1_j1 K) fun J1 =>xF fMove [a0] fun v4 =>xF (fBin .lss .no) [v4, .int .i64 1] fun v5 =>xF fMove [v5] fun v6 =>xIf v6
 (xF fPick [.bool true, .bool true, undef] fun v9 =>J1 [a0, v9] [] σ)
 (xF fMove [a0] fun v7 =>xF (fBin .gtr .no) [v7, .int .i64 1048576] fun v8 =>xF fPick [.bool false, .bool true, v8] fun v9 =>J1 [a0, v9] [] σ)
def s_b1 : Spec := fun args K σ => match args with
  | [a0] => w_b1 a0 K σ
  | _ => False
noncomputable def cx_b1 : Cx := { P := Try.prog, T := [], loc := [], eqt := [], n := 16, keep := [(1000003, [0, 9], [])] }
theorem q_b1 : FnS cx_b1 Try.f27 (bodyOf Try.f27) 1 = s_b1 := by
  funext args K σ
  rcases args with _ | ⟨a0, _ | ⟨b, r⟩⟩ <;> kernel_rfl
theorem e_b1 : Entry Try.prog 27 .write s_b1 :=
  entry (C := cx_b1) TOk.nil mixedOk Try.func27 (by kernel_rfl) (by kernel_rfl) (by kernel_rfl) q_b1
def xl_b1 : List (Nat × Nat) := []
noncomputable def xc_b1 : XC XN :=
(.seq none
 (.reg [zc 2 (.pointer none),
  zc 3 (.int .i64 0)])
 (.seq none
 (.seq (some ([0, 9], []))
 (.reg [zM 4 0,
  zb .lss rLss 5 [.tmp 4, .const (.int .i64 1)],
  zM 6 5,
  ⟨(some (3, 2, false, some 6)), some 7, [.tmp 0], ⟨.f fMove, rMove⟩⟩,
  ⟨(some (4, 2, false, some 6)), some 8, [.tmp 7, (.const (.int .i64 1048576))], ⟨.f (fBin .gtr .no), rGtr⟩⟩,
  zz (.f fPick) rPick (some 9) [.tmp 6, .const (.bool true), .tmp 8]])
 (.cond (.tmp 9)
 (.seq none
 (.reg [zc 2 (.pointer none),
  zc 3 (.int .i64 1)])
 .ret)
 .skip))
 (.seq none
 (.reg [zM 10 0,
  zy xl_b1 (.ms 1 8 [.int .u64 0]) 11 [.tmp 10, .tmp 10],
  zM 12 0,
  zy xl_b1 (.ms 1 8 [.int .i64 0]) 13 [.tmp 12, .tmp 12],
  zy xl_b1 (.f (fBuild [(0, 1), (1, 1), (2, 1), (3, 1), (4, 3)] [(.slice none 0 0), (.slice none 0 0), .int .i64 0, .int .i64 0, .int .i64 0, .int .i64 0, .bool false] [0, 1])) 14 [.tmp 11, .tmp 13],
  zy xl_b1 (.box 7) 15 [.tmp 14],
  zM 2 15,
  zc 3 (.int .i64 0)])
 .ret)))
noncomputable def v_b1 : EvF := evFn 1 xc_b1 [.t 2, .t 3]
theorem xt_b1 : toC cx_b1 (bodyOf Try.f27) = some (xc_b1.map XN.sm) := by kernel_rfl
theorem xr_b1 : toR cx_b1 Try.f27.results.toList = some [.t 2, .t 3] := by kernel_rfl
theorem xo_b1 : xc_b1.ok xl_b1 := ⟨⟨r_m, r_m, trivial⟩, ⟨⟨⟨r_m, rLss_ok, r_m, r_m, rGtr_ok, r_p, trivial⟩, ⟨⟨⟨r_m, r_m, trivial⟩, trivial⟩, trivial⟩⟩, ⟨⟨r_m, r_a (trivial), r_m, r_a (trivial), r_a (eqv_build _ rfl _), r_a (trivial), r_m, r_m, trivial⟩, trivial⟩⟩⟩
theorem ve_b1 : EvOk s_b1 v_b1 := EvOk.of (evFn_sound (C := cx_b1) xt_b1 xr_b1 xo_b1) q_b1
attribute [irreducible] w_b1_j1b w_b1_j1 w_b1 s_b1
def w_bp (a0 a1 : Value) (K : Value → Mem → Prop) (σ : Mem) : Prop :=xC (gBox 7 [a0] []) fun c2 =>xF fMove [.int .i64 0] fun v4 =>xF (fFld 0) [(locP 2)] fun v5 =>xO (gLoad 1 false [v5] c2) fun v6 =>xF (fBin .add .no) [.int .i64 6, v6] fun v7 =>xF fMove [a1] fun v8 =>xF (fBin .mul .no) [.int .i64 2, v8] fun v9 =>xF (fBin .add .no) [v7, v9] fun v10 =>xF fMove [v10] fun v4 =>K v4 σ
def s_bp : Spec := fun args K σ => match args with
  | [a0, a1] => w_bp a0 a1 K σ
  | _ => False
noncomputable def cx_bp : Cx := { P := Try.prog, T := [], loc := [(2, 2), (5, 2)], eqt := [], n := 11, keep := [] }
theorem q_bp : FnS cx_bp Try.f30 (bodyOf Try.f30) 2 = s_bp := by
  funext args K σ
  rcases args with _ | ⟨a0, _ | ⟨a1, _ | ⟨b, r⟩⟩⟩ <;> kernel_rfl
theorem e_bp : Entry Try.prog 30 .none s_bp :=
  entry (C := cx_bp) TOk.nil mixedOk Try.func30 (by kernel_rfl) (by kernel_rfl) (by kernel_rfl) q_bp
def xl_bp : List (Nat × Nat) := [(2, 2), (5, 2)]
noncomputable def xc_bp : XC XN :=
(.seq none
 (.reg [zy xl_bp (.lb 2 7) 2 [.tmp 0],
  zc 4 (.int .i64 0)])
 (.seq none
 (.reg [zF 0 5 2,
  zr 2 6 5,
  zb .add rAdd 7 [.const (.int .i64 6), .tmp 6],
  zM 8 1,
  zb .mul rMul 9 [.const (.int .i64 2), .tmp 8],
  zb .add rAdd 10 [.tmp 7, .tmp 9],
  zM 4 10])
 .ret))
noncomputable def v_bp : EvF := evFn 2 xc_bp [.t 4]
theorem xt_bp : toC cx_bp (bodyOf Try.f30) = some (xc_bp.map XN.sm) := by kernel_rfl
theorem xr_bp : toR cx_bp Try.f30.results.toList = some [.t 4] := by kernel_rfl
theorem xo_bp : xc_bp.ok xl_bp := ⟨⟨r_a (trivial), r_m, trivial⟩, ⟨⟨r_f _, r_r _, r_d, r_m, rMul_ok, r_d, r_m, trivial⟩, trivial⟩⟩
theorem ve_bp : EvOk s_bp v_bp := EvOk.of (evFn_sound (C := cx_bp) xt_bp xr_bp xo_bp) q_bp
attribute [irreducible] w_bp s_bp
def w_cq (a0 a1 : Value) (K : Value → Mem → Prop) (σ : Mem) : Prop :=xF fMove [.int .u64 0] fun v4 =>xF fMove [a0] fun v5 =>xF fMax [v5, .int .i64 0] fun v6 =>xF fMove [a1] fun v7 =>xF fMin [v6, v7] fun v8 =>xF (fConv .u64) [v8] fun v9 =>xF fMove [v9] fun v4 =>K v4 σ
def s_cq : Spec := fun args K σ => match args with
  | [a0, a1] => w_cq a0 a1 K σ
  | _ => False
noncomputable def cx_cq : Cx := { P := Try.prog, T := [], loc := [], eqt := [], n := 10, keep := [] }
theorem q_cq : FnS cx_cq Try.f43 (bodyOf Try.f43) 2 = s_cq := by
  funext args K σ
  rcases args with _ | ⟨a0, _ | ⟨a1, _ | ⟨b, r⟩⟩⟩ <;> kernel_rfl
theorem e_cq : Entry Try.prog 43 .none s_cq :=
  entry (C := cx_cq) TOk.nil mixedOk Try.func43 (by kernel_rfl) (by kernel_rfl) (by kernel_rfl) q_cq
def xl_cq : List (Nat × Nat) := []
noncomputable def xc_cq : XC XN :=
(.seq none
 (.reg [zc 4 (.int .u64 0)])
 (.seq none
 (.reg [zM 5 0,
  zy xl_cq (.f fMax) 6 [.tmp 5, .const (.int .i64 0)],
  zM 7 1,
  zy xl_cq (.f fMin) 8 [.tmp 6, .tmp 7],
  zz (.f (fConv .u64)) (rConv .u64) (some 9) [.tmp 8],
  zM 4 9])
 .ret))
noncomputable def v_cq : EvF := evFn 2 xc_cq [.t 4]
theorem xt_cq : toC cx_cq (bodyOf Try.f43) = some (xc_cq.map XN.sm) := by kernel_rfl
theorem xr_cq : toR cx_cq Try.f43.results.toList = some [.t 4] := by kernel_rfl
theorem xo_cq : xc_cq.ok xl_cq := ⟨⟨r_m, trivial⟩, ⟨⟨r_m, r_a (eqv_max), r_m, r_a (eqv_min), r_v _, r_m, trivial⟩, trivial⟩⟩
theorem ve_cq : EvOk s_cq v_cq := EvOk.of (evFn_sound (C := cx_cq) xt_cq xr_cq xo_cq) q_cq
attribute [irreducible] w_cq s_cq
def w_cm (a0 : Value) (K : Value → Mem → Prop) (σ : Mem) : Prop :=xC (gBox 4 [a0] []) fun c1 =>xF fMove [.int .u64 0] fun v2 =>xF (fFld 0) [(locP 1)] fun v3 =>xO (gLoad 1 false [v3] c1) fun v4 =>s_cq [v4, .int .i64 7] (fun v5 σ =>xF (fFld 1) [(locP 1)] fun v6 =>xO (gLoad 1 false [v6] c1) fun v7 =>s_cq [v7, .int .i64 1048575] (fun v8 σ =>xF (fBin .shl .no) [v8, .int .u64 3] fun v9 =>xF (fBin .or .no) [v5, v9] fun v10 =>xF (fFld 2) [(locP 1)] fun v11 =>xO (gLoad 1 false [v11] c1) fun v12 =>s_cq [v12, .int .i64 65535] (fun v13 σ =>xF (fBin .shl .no) [v13, .int .u64 23] fun v14 =>xF (fBin .or .no) [v10, v14] fun v15 =>xF (fFld 3) [(locP 1)] fun v16 =>xO (gLoad 1 false [v16] c1) fun v17 =>s_cq [v17, .int .i64 4194303] (fun v18 σ =>xF (fBin .shl .no) [v18, .int .u64 39] fun v19 =>xF (fBin .or .no) [v15, v19] fun v20 =>xF fMove [v20] fun v2 =>K v2 σ) σ) σ) σ) σ
def s_cm : Spec := fun args K σ => match args with
  | [a0] => w_cm a0 K σ
  | _ => False
noncomputable def cx_cm : Cx := { P := Try.prog, T := [(43, .none, s_cq)], loc := [(1, 1), (3, 1), (6, 1), (11, 1), (16, 1)], eqt := [], n := 21, keep := [] }
theorem q_cm : FnS cx_cm Try.f31 (bodyOf Try.f31) 1 = s_cm := by
  funext args K σ
  rcases args with _ | ⟨a0, _ | ⟨b, r⟩⟩ <;> kernel_rfl
theorem e_cm : Entry Try.prog 31 .none s_cm :=
  entry (C := cx_cm) (TOk.cons e_cq TOk.nil) mixedOk Try.func31 (by kernel_rfl) (by kernel_rfl) (by kernel_rfl) q_cm
def xl_cm : List (Nat × Nat) := [(1, 1), (3, 1), (6, 1), (11, 1), (16, 1)]
noncomputable def xc_cm : XC XN :=
(.seq none
 (.reg [zy xl_cm (.lb 1 4) 1 [.tmp 0],
  zc 2 (.int .u64 0)])
 (.seq none
 (.reg [zF 0 3 1,
  zr 1 4 3,
  zk .none s_cq v_cq 5 [.tmp 4, .const (.int .i64 7)],
  zF 1 6 1,
  zr 1 7 6,
  zk .none s_cq v_cq 8 [.tmp 7, .const (.int .i64 1048575)],
  zy xl_cm (.f (fBin .shl .no)) 9 [.tmp 8, .const (.int .u64 3)],
  zy xl_cm (.f (fBin .or .no)) 10 [.tmp 5, .tmp 9],
  zF 2 11 1,
  zr 1 12 11,
  zk .none s_cq v_cq 13 [.tmp 12, .const (.int .i64 65535)],
  zy xl_cm (.f (fBin .shl .no)) 14 [.tmp 13, .const (.int .u64 23)],
  zy xl_cm (.f (fBin .or .no)) 15 [.tmp 10, .tmp 14],
  zF 3 16 1,
  zr 1 17 16,
  zk .none s_cq v_cq 18 [.tmp 17, .const (.int .i64 4194303)],
  zy xl_cm (.f (fBin .shl .no)) 19 [.tmp 18, .const (.int .u64 39)],
  zy xl_cm (.f (fBin .or .no)) 20 [.tmp 15, .tmp 19],
  zM 2 20])
 .ret))
noncomputable def v_cm : EvF := evFn 1 xc_cm [.t 2]
theorem xt_cm : toC cx_cm (bodyOf Try.f31) = some (xc_cm.map XN.sm) := by kernel_rfl
theorem xr_cm : toR cx_cm Try.f31.results.toList = some [.t 2] := by kernel_rfl
theorem xo_cm : xc_cm.ok xl_cm := ⟨⟨r_a (trivial), r_m, trivial⟩, ⟨⟨r_f _, r_r _, r_c ve_cq, r_f _, r_r _, r_c ve_cq, r_a (eqv_bin _ _), r_a (eqv_bin _ _), r_f _, r_r _, r_c ve_cq, r_a (eqv_bin _ _), r_a (eqv_bin _ _), r_f _, r_r _, r_c ve_cq, r_a (eqv_bin _ _), r_a (eqv_bin _ _), r_m, trivial⟩, trivial⟩⟩
theorem ve_cm : EvOk s_cm v_cm := EvOk.of (evFn_sound (C := cx_cm) xt_cm xr_cm xo_cm) q_cm
attribute [irreducible] w_cm s_cm
def w_b0_j1b (K : Value → Mem → Prop) (v0 v1 v19 : Value) (σ : Mem) : Prop :=xIf v19
 (xF fMove [.bool false] fun v4 =>K v4 σ)
 (xF fMove [v0] fun v20 =>xF fNil [v20] fun v21 =>xF (fFld 2) [v21] fun v22 =>hLoad 1 false [v22] (fun v23 σ =>xF (fBin .add .no) [v23, .int .i64 1] fun v24 =>xF fNil [v20] fun v25 =>xF (fFld 2) [v25] fun v26 =>hStore 1 [v26, v24] (fun _v σ =>xF fMove [v0] fun v27 =>xF fMove [v1] fun v28 =>xF fMove [v0] fun v29 =>xF fNil [v29] fun v30 =>xF (fFld 3) [v30] fun v31 =>hLoad 1 false [v31] (fun v32 σ =>xF (fBuild [(0, 1), (1, 1), (2, 1)] [.int .i64 0, .int .i64 0, .bool false] [0, 1]) [v28, v32] fun v33 =>xF fNil [v27] fun v34 =>xF (fFld 4) [v34] fun v35 =>hStore 3 [v35, v33] (fun _v σ =>xF fMove [.bool true] fun v4 =>K v4 σ) σ) σ) σ) σ)
def w_b0_j1 (K : Value → Mem → Prop) (ts : List Value) (ls : List (List Value)) (σ : Mem) : Prop := w_b0_j1b K (ts.getD 0 poison) (ts.getD 1 poison) (ts.getD 2 poison) σ
def w_b0 (a0 a1 : Value) (K : Value → Mem → Prop) (σ : Mem) : Prop :=xF fMove [.bool false] fun v4 =>xJoin (w_b0_j1 K) fun J1 =>xF fMove [a0] fun v5 =>xF (fBin .eql .ptr) [v5, .pointer none] fun v6 =>xF fMove [v6] fun v7 =>xIf v7
 (xF fPick [.bool true, .bool true, undef] fun v10 =>xF fMove [v10] fun v11 =>xIf v11
 (xF fPick [.bool true, .bool true, undef] fun v19 =>J1 [a0, a1, v19] [] σ)
 (xF fMove [a1] fun v12 =>xF fMove [a0] fun v13 =>xF fNil [v13] fun v14 =>xF (fFld 0) [v14] fun v15 =>hLoad 1 false [v15] (fun v16 σ =>xF fLen [v16] fun v17 =>xF (fBin .geq .no) [v12, v17] fun v18 =>xF fPick [.bool false, .bool true, v18] fun v19 =>J1 [a0, a1, v19] [] σ) σ))
 (xF fMove [a1] fun v8 =>xF (fBin .lss .no) [v8, .int .i64 0] fun v9 =>xF fPick [.bool false, .bool true, v9] fun v10 =>xF fMove [v10] fun v11 =>xIf v11
 (xF fPick [.bool true, .bool true, undef] fun v19 =>J1 [a0, a1, v19] [] σ)
 (xF fMove [a1] fun v12 =>xF fMove [a0] fun v13 =>xF fNil [v13] fun v14 =>xF (fFld 0) [v14] fun v15 =>hLoad 1 false [v15] (fun v16 σ =>xF fLen [v16] fun v17 =>xF (fBin .geq .no) [v12, v17] fun v18 =>xF fPick [.bool false, .bool true, v18] fun v19 =>J1 [a0, a1, v19] [] σ) σ))
def s_b0 : Spec := fun args K σ => match args with
  | [a0, a1] => w_b0 a0 a1 K σ
  | _ => False
noncomputable def cx_b0 : Cx := { P := Try.prog, T := [], loc := [], eqt := [(25, .ptr)], n := 36, keep := [(1000003, [0, 1, 19], [])] }
theorem q_b0 : FnS cx_b0 Try.f41 (bodyOf Try.f41) 2 = s_b0 := by
  funext args K σ
  rcases args with _ | ⟨a0, _ | ⟨a1, _ | ⟨b, r⟩⟩⟩ <;> kernel_rfl
theorem e_b0 : Entry Try.prog 41 .write s_b0 :=
  entry (C := cx_b0) TOk.nil mixedOk Try.func41 (by kernel_rfl) (by kernel_rfl) (by kernel_rfl) q_b0
def xl_b0 : List (Nat × Nat) := []
noncomputable def xc_b0 : XC XN :=
(.seq none
 (.reg [zc 4 (.bool false)])
 (.seq none
 (.seq (some ([0, 1, 19], []))
 (.reg [zM 5 0,
  zy xl_b0 (.f (fBin .eql .ptr)) 6 [.tmp 5, .const (.pointer none)],
  zM 7 6,
  ⟨(some (3, 2, false, some 7)), some 8, [.tmp 1], ⟨.f fMove, rMove⟩⟩,
  ⟨(some (4, 2, false, some 7)), some 9, [.tmp 8, (.const (.int .i64 0))], ⟨.f (fBin .lss .no), rLss⟩⟩,
  zz (.f fPick) rPick (some 10) [.tmp 7, .const (.bool true), .tmp 9],
  zM 11 10,
  ⟨(some (7, 6, false, some 11)), some 12, [.tmp 1], ⟨.f fMove, rMove⟩⟩,
  ⟨(some (8, 6, false, some 11)), some 13, [.tmp 0], ⟨.f fMove, rMove⟩⟩,
  ⟨(some (9, 6, false, some 11)), some 14, [.tmp 13], ⟨.f fNil, rNil⟩⟩,
  ⟨(some (10, 6, false, some 11)), some 15, [.tmp 14], ⟨.f (fFld 0), rFld 0⟩⟩,
  ⟨(some (11, 6, false, some 11)), some 16, [.tmp 15], ⟨.load 1 false, rLoad1⟩⟩,
  ⟨(some (12, 6, false, some 11)), some 17, [.tmp 16], ⟨.f fLen, rAny xl_b0 (.f fLen)⟩⟩,
  ⟨(some (13, 6, false, some 11)), some 18, [.tmp 12, .tmp 17], ⟨.f (fBin .geq .no), rGeq⟩⟩,
  zz (.f fPick) rPick (some 19) [.tmp 11, .const (.bool true), .tmp 18]])
 (.cond (.tmp 19)
 (.seq none
 (.reg [zc 4 (.bool false)])
 .ret)
 .skip))
 (.seq none
 (.reg [zM 20 0,
  zN 21 20,
  zF 2 22 21,
  zL 23 22,
  zb .add rAdd 24 [.tmp 23, .const (.int .i64 1)],
  zN 25 20,
  zF 2 26 25,
  zS [.tmp 26, .tmp 24]])
 (.seq none
 (.reg [zM 27 0,
  zM 28 1,
  zM 29 0,
  zN 30 29,
  zF 3 31 30,
  zL 32 31,
  zy xl_b0 (.f (fBuild [(0, 1), (1, 1), (2, 1)] [.int .i64 0, .int .i64 0, .bool false] [0, 1])) 33 [.tmp 28, .tmp 32],
  zN 34 27,
  zF 4 35 34,
  zY xl_b0 (.store 3) [.tmp 35, .tmp 33]])
 (.seq none
 (.reg [zc 4 (.bool true)])
 .ret)))))
noncomputable def v_b0 : EvF := evFn 2 xc_b0 [.t 4]
theorem xt_b0 : toC cx_b0 (bodyOf Try.f41) = some (xc_b0.map XN.sm) := by kernel_rfl
theorem xr_b0 : toR cx_b0 Try.f41.results.toList = some [.t 4] := by kernel_rfl
theorem xo_b0 : xc_b0.ok xl_b0 := ⟨⟨r_m, trivial⟩, ⟨⟨⟨r_m, r_a (eqv_bin _ _), r_m, r_m, rLss_ok, r_p, r_m, r_m, r_m, r_n, r_f _, r_l, r_a (eqv_len), rGeq_ok, r_p, trivial⟩, ⟨⟨⟨r_m, trivial⟩, trivial⟩, trivial⟩⟩, ⟨⟨r_m, r_n, r_f _, r_l, r_d, r_n, r_f _, r_s, trivial⟩, ⟨⟨r_m, r_m, r_m, r_n, r_f _, r_l, r_a (eqv_build _ rfl _), r_n, r_f _, r_a (trivial), trivial⟩, ⟨⟨r_m, trivial⟩, trivial⟩⟩⟩⟩⟩
theorem ve_b0 : EvOk s_b0 v_b0 := EvOk.of (evFn_sound (C := cx_b0) xt_b0 xr_b0 xo_b0) q_b0
attribute [irreducible] w_b0_j1b w_b0_j1 w_b0 s_b0
def w_bz_j1b (K : Value → Mem → Prop) (v0 v1 v2 : Value) (σ : Mem) : Prop :=xF fMove [v0] fun v34 =>xF fNil [v34] fun v35 =>xF (fFld 0) [v35] fun v36 =>hLoad 1 false [v36] (fun v37 σ =>xF fMove [v1] fun v38 =>xF fMove [v2] fun v39 =>xF (fIxS 1) [v37, v38] fun v40 =>hStore 1 [v40, v39] (fun _v σ =>K (.tuple #[]) σ) σ) σ
def w_bz_j1 (K : Value → Mem → Prop) (ts : List Value) (ls : List (List Value)) (σ : Mem) : Prop := w_bz_j1b K (ts.getD 0 poison) (ts.getD 1 poison) (ts.getD 2 poison) σ
def w_bz (a0 a1 a2 : Value) (K : Value → Mem → Prop) (σ : Mem) : Prop :=xJoin (w_bz_j1 K) fun J1 =>xF fMove [a0] fun v6 =>xF fMove [a0] fun v7 =>xF fNil [v7] fun v8 =>xF (fFld 0) [v8] fun v9 =>hLoad 1 false [v9] (fun v10 σ =>xF fMove [a1] fun v11 =>xF (fIxS 1) [v10, v11] fun v12 =>hLoad 1 false [v12] (fun v13 σ =>xF fMove [a2] fun v14 =>xF (fBin .neq .no) [v13, v14] fun v15 =>xF fNil [v6] fun v16 =>xF (fFld 4) [v16] fun v17 =>xF (fFld 2) [v17] fun v18 =>hStore 1 [v18, v15] (fun _v σ =>xF fMove [a0] fun v19 =>xF fNil [v19] fun v20 =>xF (fFld 4) [v20] fun v21 =>xF (fFld 2) [v21] fun v22 =>hLoad 1 false [v22] (fun v23 σ =>xIf v23
 (xF fMove [a0] fun v24 =>xF fNil [v24] fun v25 =>xF (fFld 1) [v25] fun v26 =>hLoad 1 false [v26] (fun v27 σ =>xF fMove [a1] fun v28 =>xF fMove [a0] fun v29 =>xF fNil [v29] fun v30 =>xF (fFld 2) [v30] fun v31 =>hLoad 1 false [v31] (fun v32 σ =>xF (fIxS 1) [v27, v28] fun v33 =>hStore 1 [v33, v32] (fun _v σ =>J1 [a0, a1, a2] [] σ) σ) σ) σ)
 (J1 [a0, a1, a2] [] σ)) σ) σ) σ) σ
def s_bz : Spec := fun args K σ => match args with
  | [a0, a1, a2] => w_bz a0 a1 a2 K σ
  | _ => False
noncomputable def cx_bz : Cx := { P := Try.prog, T := [], loc := [], eqt := [], n := 41, keep := [(1000004, [0, 1, 2], [])] }
theorem q_bz : FnS cx_bz Try.f42 (bodyOf Try.f42) 3 = s_bz := by
  funext args K σ
  rcases args with _ | ⟨a0, _ | ⟨a1, _ | ⟨a2, _ | ⟨b, r⟩⟩⟩⟩ <;> kernel_rfl
theorem e_bz : Entry Try.prog 42 .write s_bz :=
  entry (C := cx_bz) TOk.nil mixedOk Try.func42 (by kernel_rfl) (by kernel_rfl) (by kernel_rfl) q_bz
def xl_bz : List (Nat × Nat) := []
noncomputable def xc_bz : XC XN :=
(.seq (some ([0, 1, 2], []))
 (.seq none
 (.reg [zM 6 0,
  zM 7 0,
  zN 8 7,
  zF 0 9 8,
  zL 10 9,
  zM 11 1,
  zz (.f (fIxS 1)) (rIxS 1) (some 12) [.tmp 10, .tmp 11],
  zL 13 12,
  zM 14 2,
  zb .neq rNeq 15 [.tmp 13, .tmp 14],
  zN 16 6,
  zF 4 17 16,
  zF 2 18 17,
  zS [.tmp 18, .tmp 15]])
 (.seq none
 (.reg [zM 19 0,
  zN 20 19,
  zF 4 21 20,
  zF 2 22 21,
  zL 23 22])
 (.cond (.tmp 23)
 (.reg [zM 24 0,
  zN 25 24,
  zF 1 26 25,
  zL 27 26,
  zM 28 1,
  zM 29 0,
  zN 30 29,
  zF 2 31 30,
  zL 32 31,
  zz (.f (fIxS 1)) (rIxS 1) (some 33) [.tmp 27, .tmp 28],
  zS [.tmp 33, .tmp 32]])
 .skip)))
 (.reg [zM 34 0,
  zN 35 34,
  zF 0 36 35,
  zL 37 36,
  zM 38 1,
  zM 39 2,
  zz (.f (fIxS 1)) (rIxS 1) (some 40) [.tmp 37, .tmp 38],
  zS [.tmp 40, .tmp 39]]))
noncomputable def v_bz : EvF := evFn 3 xc_bz []
theorem xt_bz : toC cx_bz (bodyOf Try.f42) = some (xc_bz.map XN.sm) := by kernel_rfl
theorem xr_bz : toR cx_bz Try.f42.results.toList = some [] := by kernel_rfl
theorem xo_bz : xc_bz.ok xl_bz := ⟨⟨⟨r_m, r_m, r_n, r_f _, r_l, r_m, rIxS_ok _, r_l, r_m, rNeq_ok, r_n, r_f _, r_f _, r_s, trivial⟩, ⟨⟨r_m, r_n, r_f _, r_f _, r_l, trivial⟩, ⟨⟨r_m, r_n, r_f _, r_l, r_m, r_m, r_n, r_f _, r_l, rIxS_ok _, r_s, trivial⟩, trivial⟩⟩⟩, ⟨r_m, r_n, r_f _, r_l, r_m, r_m, rIxS_ok _, r_s, trivial⟩⟩
theorem ve_bz : EvOk s_bz v_bz := EvOk.of (evFn_sound (C := cx_bz) xt_bz xr_bz xo_bz) q_bz
attribute [irreducible] w_bz_j1b w_bz_j1 w_bz s_bz
def w_bx (a0 a1 a2 : Value) (K : Value → Mem → Prop) (σ : Mem) : Prop :=xF fMove [.int .i64 0] fun v6 =>xF fMove [a0] fun v7 =>xF fMove [a1] fun v8 =>s_b0 [v7, v8] (fun v9 σ =>xF (fUn .not) [v9] fun v10 =>xIf v10
 (xF fMove [.int .i64 2] fun v6 =>K v6 σ)
 (xF fMove [a0] fun v11 =>xF fMove [a1] fun v12 =>xF fMove [a2] fun v13 =>s_bz [v11, v12, v13] (fun v14 σ =>xF fMove [.int .i64 0] fun v6 =>K v6 σ) σ)) σ
def s_bx : Spec := fun args K σ => match args with
  | [a0, a1, a2] => w_bx a0 a1 a2 K σ
  | _ => False
noncomputable def cx_bx : Cx := { P := Try.prog, T := [(41, .write, s_b0), (42, .write, s_bz)], loc := [], eqt := [], n := 15, keep := [] }
theorem q_bx : FnS cx_bx Try.f29 (bodyOf Try.f29) 3 = s_bx := by
  funext args K σ
  rcases args with _ | ⟨a0, _ | ⟨a1, _ | ⟨a2, _ | ⟨b, r⟩⟩⟩⟩ <;> kernel_rfl
theorem e_bx : Entry Try.prog 29 .write s_bx :=
  entry (C := cx_bx) (TOk.cons e_b0 (TOk.cons e_bz TOk.nil)) mixedOk Try.func29 (by kernel_rfl) (by kernel_rfl) (by kernel_rfl) q_bx
def xl_bx : List (Nat × Nat) := []
noncomputable def xc_bx : XC XN :=
(.seq none
 (.reg [zc 6 (.int .i64 0)])
 (.seq none
 (.seq none
 (.reg [zM 7 0,
  zM 8 1,
  zk .write s_b0 v_b0 9 [.tmp 7, .tmp 8],
  zz (.f (fUn .not)) rNot (some 10) [.tmp 9]])
 (.cond (.tmp 10)
 (.seq none
 (.reg [zc 6 (.int .i64 2)])
 .ret)
 .skip))
 (.seq none
 (.reg [zM 11 0,
  zM 12 1,
  zM 13 2,
  zk .write s_bz v_bz 14 [.tmp 11, .tmp 12, .tmp 13]])
 (.seq none
 (.reg [zc 6 (.int .i64 0)])
 .ret))))
noncomputable def v_bx : EvF := evFn 3 xc_bx [.t 6]
theorem xt_bx : toC cx_bx (bodyOf Try.f29) = some (xc_bx.map XN.sm) := by kernel_rfl
theorem xr_bx : toR cx_bx Try.f29.results.toList = some [.t 6] := by kernel_rfl
theorem xo_bx : xc_bx.ok xl_bx := ⟨⟨r_m, trivial⟩, ⟨⟨⟨r_m, r_m, r_c ve_b0, r_t, trivial⟩, ⟨⟨⟨r_m, trivial⟩, trivial⟩, trivial⟩⟩, ⟨⟨r_m, r_m, r_m, r_c ve_bz, trivial⟩, ⟨⟨r_m, trivial⟩, trivial⟩⟩⟩⟩
theorem ve_bx : EvOk s_bx v_bx := EvOk.of (evFn_sound (C := cx_bx) xt_bx xr_bx xo_bx) q_bx
attribute [irreducible] w_bx s_bx
def w_cn (a0 a1 : Value) (K : Value → Mem → Prop) (σ : Mem) : Prop :=xF fMove [.int .u64 0] fun v4 =>xF fMove [a0] fun v5 =>xF fMin [v5, .int .i64 65535] fun v6 =>xF (fBin .add .no) [v6, .int .i64 1] fun v7 =>s_cq [v7, .int .i64 65536] (fun v8 σ =>xF fMove [a1] fun v9 =>s_cq [v9, .int .i64 68719476735] (fun v10 σ =>xF (fBin .shl .no) [v10, .int .u64 17] fun v11 =>xF (fBin .or .no) [v8, v11] fun v12 =>xF fMove [v12] fun v4 =>K v4 σ) σ) σ
def s_cn : Spec := fun args K σ => match args with
  | [a0, a1] => w_cn a0 a1 K σ
  | _ => False
noncomputable def cx_cn : Cx := { P := Try.prog, T := [(43, .none, s_cq)], loc := [], eqt := [], n := 13, keep := [] }
theorem q_cn : FnS cx_cn Try.f32 (bodyOf Try.f32) 2 = s_cn := by
  funext args K σ
  rcases args with _ | ⟨a0, _ | ⟨a1, _ | ⟨b, r⟩⟩⟩ <;> kernel_rfl
theorem e_cn : Entry Try.prog 32 .none s_cn :=
  entry (C := cx_cn) (TOk.cons e_cq TOk.nil) mixedOk Try.func32 (by kernel_rfl) (by kernel_rfl) (by kernel_rfl) q_cn
def xl_cn : List (Nat × Nat) := []
noncomputable def xc_cn : XC XN :=
(.seq none
 (.reg [zc 4 (.int .u64 0)])
 (.seq none
 (.reg [zM 5 0,
  zy xl_cn (.f fMin) 6 [.tmp 5, .const (.int .i64 65535)],
  zb .add rAdd 7 [.tmp 6, .const (.int .i64 1)],
  zk .none s_cq v_cq 8 [.tmp 7, .const (.int .i64 65536)],
  zM 9 1,
  zk .none s_cq v_cq 10 [.tmp 9, .const (.int .i64 68719476735)],
  zy xl_cn (.f (fBin .shl .no)) 11 [.tmp 10, .const (.int .u64 17)],
  zy xl_cn (.f (fBin .or .no)) 12 [.tmp 8, .tmp 11],
  zM 4 12])
 .ret))
noncomputable def v_cn : EvF := evFn 2 xc_cn [.t 4]
theorem xt_cn : toC cx_cn (bodyOf Try.f32) = some (xc_cn.map XN.sm) := by kernel_rfl
theorem xr_cn : toR cx_cn Try.f32.results.toList = some [.t 4] := by kernel_rfl
theorem xo_cn : xc_cn.ok xl_cn := ⟨⟨r_m, trivial⟩, ⟨⟨r_m, r_a (eqv_min), r_d, r_c ve_cq, r_m, r_c ve_cq, r_a (eqv_bin _ _), r_a (eqv_bin _ _), r_m, trivial⟩, trivial⟩⟩
theorem ve_cn : EvOk s_cn v_cn := EvOk.of (evFn_sound (C := cx_cn) xt_cn xr_cn xo_cn) q_cn
attribute [irreducible] w_cn s_cn
def w_bq (K : Value → Mem → Prop) (σ : Mem) : Prop :=xF fMove [.int .i64 0] fun v0 =>xF fMove [.int .i64 1] fun v0 =>K v0 σ
def s_bq : Spec := fun args K σ => match args with
  | [] => w_bq  K σ
  | _ => False
noncomputable def cx_bq : Cx := { P := Try.prog, T := [], loc := [], eqt := [], n := 1, keep := [] }
theorem q_bq : FnS cx_bq Try.f33 (bodyOf Try.f33) 0 = s_bq := by
  funext args K σ
  rcases args with _ | ⟨b, r⟩ <;> kernel_rfl
theorem e_bq : Entry Try.prog 33 .none s_bq :=
  entry (C := cx_bq) TOk.nil mixedOk Try.func33 (by kernel_rfl) (by kernel_rfl) (by kernel_rfl) q_bq
def xl_bq : List (Nat × Nat) := []
noncomputable def xc_bq : XC XN :=
(.seq none
 (.reg [zc 0 (.int .i64 0)])
 (.seq none
 (.reg [zc 0 (.int .i64 1)])
 .ret))
noncomputable def v_bq : EvF := evFn 0 xc_bq [.t 0]
theorem xt_bq : toC cx_bq (bodyOf Try.f33) = some (xc_bq.map XN.sm) := by kernel_rfl
theorem xr_bq : toR cx_bq Try.f33.results.toList = some [.t 0] := by kernel_rfl
theorem xo_bq : xc_bq.ok xl_bq := ⟨⟨r_m, trivial⟩, ⟨⟨r_m, trivial⟩, trivial⟩⟩
theorem ve_bq : EvOk s_bq v_bq := EvOk.of (evFn_sound (C := cx_bq) xt_bq xr_bq xo_bq) q_bq
attribute [irreducible] w_bq s_bq
def w_bj_j1b (K : Value → Mem → Prop) (v4 : Value) (c1 : List Value) (σ : Mem) : Prop :=xF fMove [v4] fun v41 =>xO (gLoad 7 true [(locP 1)] c1) fun v42 =>xF (fFld 1) [(locP 1)] fun v43 =>xO (gLoad 1 false [v43] c1) fun v44 =>xF (fBin .sub .no) [v44, .int .i64 1] fun v45 =>s_bp [v42, v45] (fun v46 σ =>xF (fBin .add .no) [v46, .int .i64 1] fun v47 =>s_cn [(.int .i64 (-1)), .int .i64 0] (fun v48 σ =>s_bx [v41, v47, v48] (fun v49 σ =>xF fMove [v4] fun v50 =>s_bq [] (fun v51 σ =>s_cn [.int .i64 0, .int .i64 0] (fun v52 σ =>s_bx [v50, v51, v52] (fun v53 σ =>xF fMove [v4] fun v54 =>xF fMove [v54] fun v2 =>xF fMove [.int .i64 0] fun v3 =>K (.tuple #[v2, v3]) σ) σ) σ) σ) σ) σ) σ
def w_bj_j1 (K : Value → Mem → Prop) (ts : List Value) (ls : List (List Value)) (σ : Mem) : Prop := w_bj_j1b K (ts.getD 0 poison) (ls.getD 0 []) σ
def w_layout_Fresh_l8b (K : Value → Mem → Prop) (J1 : List Value → List (List Value) → Mem → Prop) (R1 : List Value → List (List Value) → Mem → Prop) (v4 v20 v21 : Value) (c1 : List Value) (σ : Mem) : Prop :=xF (fBin .lss .no) [v21, v20] fun v22 =>xIf v22
 (xF fMove [v21] fun v23 =>xF fMove [v23] fun v6 =>xF fMove [v4] fun v24 =>xO (gLoad 7 true [(locP 1)] c1) fun v25 =>xF fMove [v6] fun v26 =>s_bp [v25, v26] (fun v27 σ =>xF (fBuild [(0, 1), (1, 1), (2, 1), (3, 1)] [.int .i64 0, .int .i64 0, .int .i64 0, .int .i64 0] [2]) [.int .i64 1] fun v28 =>s_cm [v28] (fun v29 σ =>s_bx [v24, v27, v29] (fun v30 σ =>xF fMove [v4] fun v31 =>xO (gLoad 7 true [(locP 1)] c1) fun v32 =>xF fMove [v6] fun v33 =>s_bp [v32, v33] (fun v34 σ =>xF (fBin .add .no) [v34, .int .i64 1] fun v35 =>xF fMove [v6] fun v36 =>xF (fBin .add .no) [v36, .int .i64 1] fun v37 =>s_cn [v37, .int .i64 0] (fun v38 σ =>s_bx [v31, v35, v38] (fun v39 σ =>xF (fBin .add .no) [v21, .int .i64 1] fun v40 =>xF fMove [v40] fun v21 =>R1 [v4, v20, v21] [c1] σ) σ) σ) σ) σ) σ) σ)
 (J1 [v4] [c1] σ)
def w_layout_Fresh_l8 (K : Value → Mem → Prop) (J1 : List Value → List (List Value) → Mem → Prop) (R1 : List Value → List (List Value) → Mem → Prop) (ts : List Value) (ls : List (List Value)) (σ : Mem) : Prop := w_layout_Fresh_l8b K J1 R1 (ts.getD 0 poison) (ts.getD 1 poison) (ts.getD 2 poison) (ls.getD 0 []) σ
def w_bj (a0 : Value) (K : Value → Mem → Prop) (σ : Mem) : Prop :=xC (gBox 7 [a0] []) fun c1 =>xF fMove [.pointer none] fun v2 =>xF fMove [.int .i64 0] fun v3 =>xO (gLoad 7 true [(locP 1)] c1) fun v7 =>s_ba [v7] (fun v8 σ =>xF (fUn .not) [v8] fun v9 =>xIf v9
 (xF fMove [.pointer none] fun v2 =>xF fMove [.int .i64 1] fun v3 =>K (.tuple #[v2, v3]) σ)
 (xO (gLoad 7 true [(locP 1)] c1) fun v11 =>s_bk [v11] (fun v12 σ =>s_b1 [v12] (fun v13 σ =>xF fMove [v13] fun v10 =>xF (fExt 0) [v10] fun v14 =>xF (fExt 1) [v10] fun v15 =>xF fMove [v14] fun v4 =>xF fMove [v15] fun v5 =>xF fMove [v5] fun v16 =>xF (fBin .neq .no) [v16, .int .i64 0] fun v17 =>xIf v17
 (xF fMove [v5] fun v18 =>xF fMove [.pointer none] fun v2 =>xF fMove [v18] fun v3 =>K (.tuple #[v2, v3]) σ)
 (xJoin (w_bj_j1 K) fun J1 =>xF (fFld 1) [(locP 1)] fun v19 =>xO (gLoad 1 false [v19] c1) fun v20 =>xF fMove [.int .i64 0] fun v21 =>xLoop (w_layout_Fresh_l8 K J1) [v4, v20, v21] [c1] σ)) σ) σ)) σ
def s_bj : Spec := fun args K σ => match args with
  | [a0] => w_bj a0 K σ
  | _ => False
noncomputable def cx_bj : Cx := { P := Try.prog, T := [(26, .none, s_ba), (28, .none, s_bk), (27, .write, s_b1), (30, .none, s_bp), (31, .none, s_cm), (29, .write, s_bx), (32, .none, s_cn), (33, .none, s_bq)], loc := [(1, 1), (19, 1), (43, 1)], eqt := [], n := 55, keep := [(8, [4, 20, 21], [1]), (1000013, [4], [1])] }
theorem q_bj : FnS cx_bj Try.f21 (bodyOf Try.f21) 1 = s_bj := by
  funext args K σ
  rcases args with _ | ⟨a0, _ | ⟨b, r⟩⟩ <;> kernel_rfl
theorem e_bj : Entry Try.prog 21 .write s_bj :=
  entry (C := cx_bj) (TOk.cons e_ba (TOk.cons e_bk (TOk.cons e_b1 (TOk.cons e_bp (TOk.cons e_cm (TOk.cons e_bx (TOk.cons e_cn (TOk.cons e_bq TOk.nil)))))))) mixedOk Try.func21 (by kernel_rfl) (by kernel_rfl) (by kernel_rfl) q_bj
def xl_bj : List (Nat × Nat) := [(1, 1), (19, 1), (43, 1)]
noncomputable def xc_bj : XC XN :=
(.seq none
 (.reg [zy xl_bj (.lb 1 7) 1 [.tmp 0],
  zc 2 (.pointer none),
  zc 3 (.int .i64 0)])
 (.seq none
 (.seq none
 (.reg [zy xl_bj (.lr 1 7 true) 7 [.tmp 1],
  zk .none s_ba v_ba 8 [.tmp 7],
  zz (.f (fUn .not)) rNot (some 9) [.tmp 8]])
 (.cond (.tmp 9)
 (.seq none
 (.reg [zc 2 (.pointer none),
  zc 3 (.int .i64 1)])
 .ret)
 .skip))
 (.seq none
 (.reg [zy xl_bj (.lr 1 7 true) 11 [.tmp 1],
  zk .none s_bk v_bk 12 [.tmp 11],
  zk .write s_b1 v_b1 13 [.tmp 12],
  zM 10 13,
  zy xl_bj (.f (fExt 0)) 14 [.tmp 10],
  zy xl_bj (.f (fExt 1)) 15 [.tmp 10],
  zM 4 14,
  zM 5 15])
 (.seq none
 (.seq none
 (.reg [zM 16 5,
  zb .neq rNeq 17 [.tmp 16, .const (.int .i64 0)]])
 (.cond (.tmp 17)
 (.seq none
 (.reg [zM 18 5,
  zc 2 (.pointer none),
  zM 3 18])
 .ret)
 .skip))
 (.seq (some ([4], [1]))
 (.seq none
 (.reg [zF 1 19 1,
  zr 1 20 19,
  zc 21 (.int .i64 0)])
 (.block 0
 (.loop ([4, 20, 21], [1])
 (.seq none
 (.reg [zb .lss rLss 22 [.tmp 21, .tmp 20]])
 (.seq none
 (.cond (.tmp 22)
 .skip
 (.exit 0))
 (.seq none
 (.block 1
 (.seq none
 (.reg [zM 23 21,
  zM 6 23])
 (.seq none
 (.reg [zM 24 4,
  zy xl_bj (.lr 1 7 true) 25 [.tmp 1],
  zM 26 6,
  zk .none s_bp v_bp 27 [.tmp 25, .tmp 26],
  zy xl_bj (.f (fBuild [(0, 1), (1, 1), (2, 1), (3, 1)] [.int .i64 0, .int .i64 0, .int .i64 0, .int .i64 0] [2])) 28 [.const (.int .i64 1)],
  zk .none s_cm v_cm 29 [.tmp 28],
  zk .write s_bx v_bx 30 [.tmp 24, .tmp 27, .tmp 29]])
 (.reg [zM 31 4,
  zy xl_bj (.lr 1 7 true) 32 [.tmp 1],
  zM 33 6,
  zk .none s_bp v_bp 34 [.tmp 32, .tmp 33],
  zb .add rAdd 35 [.tmp 34, .const (.int .i64 1)],
  zM 36 6,
  zb .add rAdd 37 [.tmp 36, .const (.int .i64 1)],
  zk .none s_cn v_cn 38 [.tmp 37, .const (.int .i64 0)],
  zk .write s_bx v_bx 39 [.tmp 31, .tmp 35, .tmp 38]]))))
 (.reg [zb .add rAdd 40 [.tmp 21, .const (.int .i64 1)],
  zM 21 40])))))))
 (.seq none
 (.reg [zM 41 4,
  zy xl_bj (.lr 1 7 true) 42 [.tmp 1],
  zF 1 43 1,
  zr 1 44 43,
  zb .sub rSub 45 [.tmp 44, .const (.int .i64 1)],
  zk .none s_bp v_bp 46 [.tmp 42, .tmp 45],
  zb .add rAdd 47 [.tmp 46, .const (.int .i64 1)],
  zk .none s_cn v_cn 48 [.const (.int .i64 (-1)), .const (.int .i64 0)],
  zk .write s_bx v_bx 49 [.tmp 41, .tmp 47, .tmp 48]])
 (.seq none
 (.reg [zM 50 4,
  zk .none s_bq v_bq 51 [],
  zk .none s_cn v_cn 52 [.const (.int .i64 0), .const (.int .i64 0)],
  zk .write s_bx v_bx 53 [.tmp 50, .tmp 51, .tmp 52]])
 (.seq none
 (.reg [zM 54 4,
  zM 2 54,
  zc 3 (.int .i64 0)])
 .ret))))))))
noncomputable def v_bj : EvF := evFn 1 xc_bj [.t 2, .t 3]
theorem xt_bj : toC cx_bj (bodyOf Try.f21) = some (xc_bj.map XN.sm) := by kernel_rfl
theorem xr_bj : toR cx_bj Try.f21.results.toList = some [.t 2, .t 3] := by kernel_rfl
theorem xo_bj : xc_bj.ok xl_bj := ⟨⟨r_a (trivial), r_m, r_m, trivial⟩, ⟨⟨⟨r_a (trivial), r_c ve_ba, r_t, trivial⟩, ⟨⟨⟨r_m, r_m, trivial⟩, trivial⟩, trivial⟩⟩, ⟨⟨r_a (trivial), r_c ve_bk, r_c ve_b1, r_m, r_a (eqv_ext _), r_a (eqv_ext _), r_m, r_m, trivial⟩, ⟨⟨⟨r_m, rNeq_ok, trivial⟩, ⟨⟨⟨r_m, r_m, r_m, trivial⟩, trivial⟩, trivial⟩⟩, ⟨⟨⟨r_f _, r_r _, r_m, trivial⟩, ⟨⟨rLss_ok, trivial⟩, ⟨⟨trivial, trivial⟩, ⟨⟨⟨r_m, r_m, trivial⟩, ⟨⟨r_m, r_a (trivial), r_m, r_c ve_bp, r_a (eqv_build _ rfl _), r_c ve_cm, r_c ve_bx, trivial⟩, ⟨r_m, r_a (trivial), r_m, r_c ve_bp, r_d, r_m, r_d, r_c ve_cn, r_c ve_bx, trivial⟩⟩⟩, ⟨r_d, r_m, trivial⟩⟩⟩⟩⟩, ⟨⟨r_m, r_a (trivial), r_f _, r_r _, rSub_ok, r_c ve_bp, r_d, r_c ve_cn, r_c ve_bx, trivial⟩, ⟨⟨r_m, r_c ve_bq, r_c ve_cn, r_c ve_bx, trivial⟩, ⟨⟨r_m, r_m, r_m, trivial⟩, trivial⟩⟩⟩⟩⟩⟩⟩⟩
theorem ve_bj : EvOk s_bj v_bj := EvOk.of (evFn_sound (C := cx_bj) xt_bj xr_bj xo_bj) q_bj
attribute [irreducible] w_bj_j1b w_bj_j1 w_layout_Fresh_l8b w_layout_Fresh_l8 w_bj s_bj
def w_a0 (a0 a1 a2 a3 : Value) (K : Value → Mem → Prop) (σ : Mem) : Prop :=xF fMove [.bool false] fun v9 =>xF fMove [a0] fun v13 =>xF fMove [a1] fun v14 =>xF fMove [a2] fun v15 =>xF fMove [a3] fun v16 =>xF (fBuild [(0, 1), (1, 1), (2, 1), (3, 1), (4, 1), (5, 1), (6, 1)] [.int .i64 0, .int .i64 0, .int .i64 0, .int .i64 0, .int .i64 0, .int .i64 0, .int .i64 0] [0, 1, 2, 3, 4, 5, 6]) [v13, v14, v15, v16, .int .i64 100, .int .i64 600, .int .i64 3] fun v17 =>xC (gStore 7 [(locP 10), v17] [.int .i64 0, .int .i64 0, .int .i64 0, .int .i64 0, .int .i64 0, .int .i64 0, .int .i64 0]) fun c10 =>xO (gLoad 7 true [(locP 10)] c10) fun v19 =>s_bj [v19] (fun v20 σ =>xF fMove [v20] fun v18 =>xF (fExt 0) [v18] fun v21 =>xF (fExt 1) [v18] fun v22 =>xF fMove [v21] fun v11 =>xF fMove [v22] fun v12 =>xO (gLoad 7 true [(locP 10)] c10) fun v23 =>xF fMove [v11] fun v24 =>xF (fBuild [(0, 7), (7, 1), (8, 1)] [.int .i64 0, .int .i64 0, .int .i64 0, .int .i64 0, .int .i64 0, .int .i64 0, .int .i64 0, .pointer none, .int .i64 0] [0, 1]) [v23, v24] fun v25 =>xF fMove [v12] fun v26 =>xF (fBin .eql .no) [v26, .int .i64 0] fun v27 =>xC (gStore 9 [(locP 8), v25] [.int .i64 0, .int .i64 0, .int .i64 0, .int .i64 0, .int .i64 0, .int .i64 0, .int .i64 0, .pointer none, .int .i64 0]) fun c8 =>xF fMove [v27] fun v9 =>xO (gLoad 9 true [(locP 8)] c8) fun r8 =>K (.tuple #[r8, v9]) σ) σ
def s_a0 : Spec := fun args K σ => match args with
  | [a0, a1, a2, a3] => w_a0 a0 a1 a2 a3 K σ
  | _ => False
noncomputable def cx_a0 : Cx := { P := Try.prog, T := [(21, .write, s_bj)], loc := [(8, 8), (10, 10)], eqt := [], n := 28, keep := [] }
theorem q_a0 : FnS cx_a0 Try.f9 (bodyOf Try.f9) 4 = s_a0 := by
  funext args K σ
  rcases args with _ | ⟨a0, _ | ⟨a1, _ | ⟨a2, _ | ⟨a3, _ | ⟨b, r⟩⟩⟩⟩⟩ <;> kernel_rfl
theorem e_a0 : Entry Try.prog 9 .write s_a0 :=
  entry (C := cx_a0) (TOk.cons e_bj TOk.nil) mixedOk Try.func9 (by kernel_rfl) (by kernel_rfl) (by kernel_rfl) q_a0
def xl_a0 : List (Nat × Nat) := [(8, 8), (10, 10)]
noncomputable def xc_a0 : XC XN :=
(.seq none
 (.reg [zy xl_a0 (.la 8 [.int .i64 0, .int .i64 0, .int .i64 0, .int .i64 0, .int .i64 0, .int .i64 0, .int .i64 0, .pointer none, .int .i64 0]) 8 [],
  zc 9 (.bool false)])
 (.seq none
 (.reg [zM 13 0,
  zM 14 1,
  zM 15 2,
  zM 16 3,
  zy xl_a0 (.f (fBuild [(0, 1), (1, 1), (2, 1), (3, 1), (4, 1), (5, 1), (6, 1)] [.int .i64 0, .int .i64 0, .int .i64 0, .int .i64 0, .int .i64 0, .int .i64 0, .int .i64 0] [0, 1, 2, 3, 4, 5, 6])) 17 [.tmp 13, .tmp 14, .tmp 15, .tmp 16, .const (.int .i64 100), .const (.int .i64 600), .const (.int .i64 3)],
  zy xl_a0 (.la 10 [.int .i64 0, .int .i64 0, .int .i64 0, .int .i64 0, .int .i64 0, .int .i64 0, .int .i64 0]) 10 [],
  zY xl_a0 (.ls 10 7) [.tmp 10, .tmp 17]])
 (.seq none
 (.reg [zy xl_a0 (.lr 10 7 true) 19 [.tmp 10],
  zk .write s_bj v_bj 20 [.tmp 19],
  zM 18 20,
  zy xl_a0 (.f (fExt 0)) 21 [.tmp 18],
  zy xl_a0 (.f (fExt 1)) 22 [.tmp 18],
  zM 11 21,
  zM 12 22])
 (.seq none
 (.reg [zy xl_a0 (.lr 10 7 true) 23 [.tmp 10],
  zM 24 11,
  zy xl_a0 (.f (fBuild [(0, 7), (7, 1), (8, 1)] [.int .i64 0, .int .i64 0, .int .i64 0, .int .i64 0, .int .i64 0, .int .i64 0, .int .i64 0, .pointer none, .int .i64 0] [0, 1])) 25 [.tmp 23, .tmp 24],
  zM 26 12,
  zb .eql rEql 27 [.tmp 26, .const (.int .i64 0)],
  zY xl_a0 (.ls 8 9) [.tmp 8, .tmp 25],
  zM 9 27])
 .ret))))
noncomputable def v_a0 : EvF := evFn 4 xc_a0 [.c 8 8 9 true, .t 9]
theorem xt_a0 : toC cx_a0 (bodyOf Try.f9) = some (xc_a0.map XN.sm) := by kernel_rfl
theorem xr_a0 : toR cx_a0 Try.f9.results.toList = some [.c 8 8 9 true, .t 9] := by kernel_rfl
theorem xo_a0 : xc_a0.ok xl_a0 := ⟨⟨r_a (trivial), r_m, trivial⟩, ⟨⟨r_m, r_m, r_m, r_m, r_a (eqv_build _ rfl _), r_a (trivial), r_a (trivial), trivial⟩, ⟨⟨r_a (trivial), r_c ve_bj, r_m, r_a (eqv_ext _), r_a (eqv_ext _), r_m, r_m, trivial⟩, ⟨⟨r_a (trivial), r_m, r_a (eqv_build _ rfl _), r_m, r_e, r_a (trivial), r_m, trivial⟩, trivial⟩⟩⟩⟩
theorem ve_a0 : EvOk s_a0 v_a0 := EvOk.of (evFn_sound (C := cx_a0) xt_a0 xr_a0 xo_a0) q_a0
attribute [irreducible] w_a0 s_a0
def w_bi (K : Value → Mem → Prop) (σ : Mem) : Prop :=xF fMove [.int .i64 0] fun v0 =>xF fMove [.int .i64 0] fun v0 =>K v0 σ
def s_bi : Spec := fun args K σ => match args with
  | [] => w_bi  K σ
  | _ => False
noncomputable def cx_bi : Cx := { P := Try.prog, T := [], loc := [], eqt := [], n := 1, keep := [] }
theorem q_bi : FnS cx_bi Try.f38 (bodyOf Try.f38) 0 = s_bi := by
  funext args K σ
  rcases args with _ | ⟨b, r⟩ <;> kernel_rfl
theorem e_bi : Entry Try.prog 38 .none s_bi :=
  entry (C := cx_bi) TOk.nil mixedOk Try.func38 (by kernel_rfl) (by kernel_rfl) (by kernel_rfl) q_bi
def xl_bi : List (Nat × Nat) := []
noncomputable def xc_bi : XC XN :=
(.seq none
 (.reg [zc 0 (.int .i64 0)])
 (.seq none
 (.reg [zc 0 (.int .i64 0)])
 .ret))
noncomputable def v_bi : EvF := evFn 0 xc_bi [.t 0]
theorem xt_bi : toC cx_bi (bodyOf Try.f38) = some (xc_bi.map XN.sm) := by kernel_rfl
theorem xr_bi : toR cx_bi Try.f38.results.toList = some [.t 0] := by kernel_rfl
theorem xo_bi : xc_bi.ok xl_bi := ⟨⟨r_m, trivial⟩, ⟨⟨r_m, trivial⟩, trivial⟩⟩
theorem ve_bi : EvOk s_bi v_bi := EvOk.of (evFn_sound (C := cx_bi) xt_bi xr_bi xo_bi) q_bi
attribute [irreducible] w_bi s_bi
def w_bs (a0 a1 : Value) (K : Value → Mem → Prop) (σ : Mem) : Prop :=xF fMove [a0] fun v4 =>xF (fBin .neq .ptr) [v4, .pointer none] fun v5 =>xIf v5
 (xF fMove [a0] fun v6 =>xF fMove [a1] fun v7 =>xF fNil [v6] fun v8 =>xF (fFld 3) [v8] fun v9 =>hStore 1 [v9, v7] (fun _v σ =>K (.tuple #[]) σ) σ)
 (K (.tuple #[]) σ)
def s_bs : Spec := fun args K σ => match args with
  | [a0, a1] => w_bs a0 a1 K σ
  | _ => False
noncomputable def cx_bs : Cx := { P := Try.prog, T := [], loc := [], eqt := [(25, .ptr)], n := 10, keep := [] }
theorem q_bs : FnS cx_bs Try.f44 (bodyOf Try.f44) 2 = s_bs := by
  funext args K σ
  rcases args with _ | ⟨a0, _ | ⟨a1, _ | ⟨b, r⟩⟩⟩ <;> kernel_rfl
theorem e_bs : Entry Try.prog 44 .write s_bs :=
  entry (C := cx_bs) TOk.nil mixedOk Try.func44 (by kernel_rfl) (by kernel_rfl) (by kernel_rfl) q_bs
def xl_bs : List (Nat × Nat) := []
noncomputable def xc_bs : XC XN :=
(.seq none
 (.reg [zM 4 0,
  zy xl_bs (.f (fBin .neq .ptr)) 5 [.tmp 4, .const (.pointer none)]])
 (.cond (.tmp 5)
 (.reg [zM 6 0,
  zM 7 1,
  zN 8 6,
  zF 3 9 8,
  zS [.tmp 9, .tmp 7]])
 .skip))
noncomputable def v_bs : EvF := evFn 2 xc_bs []
theorem xt_bs : toC cx_bs (bodyOf Try.f44) = some (xc_bs.map XN.sm) := by kernel_rfl
theorem xr_bs : toR cx_bs Try.f44.results.toList = some [] := by kernel_rfl
theorem xo_bs : xc_bs.ok xl_bs := ⟨⟨r_m, r_a (eqv_bin _ _), trivial⟩, ⟨⟨r_m, r_m, r_n, r_f _, r_s, trivial⟩, trivial⟩⟩
theorem ve_bs : EvOk s_bs v_bs := EvOk.of (evFn_sound (C := cx_bs) xt_bs xr_bs xo_bs) q_bs
attribute [irreducible] w_bs s_bs
def w_bu (a0 a1 : Value) (K : Value → Mem → Prop) (σ : Mem) : Prop :=xF fMove [.int .u64 0] fun v4 =>xF fMove [.int .i64 0] fun v5 =>xF fMove [a0] fun v6 =>xF fMove [a1] fun v7 =>s_b0 [v6, v7] (fun v8 σ =>xF (fUn .not) [v8] fun v9 =>xIf v9
 (xF fMove [.int .u64 0] fun v4 =>xF fMove [.int .i64 2] fun v5 =>K (.tuple #[v4, v5]) σ)
 (xF fMove [a0] fun v10 =>xF fNil [v10] fun v11 =>xF (fFld 0) [v11] fun v12 =>hLoad 1 false [v12] (fun v13 σ =>xF fMove [a1] fun v14 =>xF (fIxS 1) [v13, v14] fun v15 =>hLoad 1 false [v15] (fun v16 σ =>xF fMove [v16] fun v4 =>xF fMove [.int .i64 0] fun v5 =>K (.tuple #[v4, v5]) σ) σ) σ)) σ
def s_bu : Spec := fun args K σ => match args with
  | [a0, a1] => w_bu a0 a1 K σ
  | _ => False
noncomputable def cx_bu : Cx := { P := Try.prog, T := [(41, .write, s_b0)], loc := [], eqt := [], n := 17, keep := [] }
theorem q_bu : FnS cx_bu Try.f45 (bodyOf Try.f45) 2 = s_bu := by
  funext args K σ
  rcases args with _ | ⟨a0, _ | ⟨a1, _ | ⟨b, r⟩⟩⟩ <;> kernel_rfl
theorem e_bu : Entry Try.prog 45 .write s_bu :=
  entry (C := cx_bu) (TOk.cons e_b0 TOk.nil) mixedOk Try.func45 (by kernel_rfl) (by kernel_rfl) (by kernel_rfl) q_bu
def xl_bu : List (Nat × Nat) := []
noncomputable def xc_bu : XC XN :=
(.seq none
 (.reg [zc 4 (.int .u64 0),
  zc 5 (.int .i64 0)])
 (.seq none
 (.seq none
 (.reg [zM 6 0,
  zM 7 1,
  zk .write s_b0 v_b0 8 [.tmp 6, .tmp 7],
  zz (.f (fUn .not)) rNot (some 9) [.tmp 8]])
 (.cond (.tmp 9)
 (.seq none
 (.reg [zc 4 (.int .u64 0),
  zc 5 (.int .i64 2)])
 .ret)
 .skip))
 (.seq none
 (.reg [zM 10 0,
  zN 11 10,
  zF 0 12 11,
  zL 13 12,
  zM 14 1,
  zz (.f (fIxS 1)) (rIxS 1) (some 15) [.tmp 13, .tmp 14],
  zL 16 15,
  zM 4 16,
  zc 5 (.int .i64 0)])
 .ret)))
noncomputable def v_bu : EvF := evFn 2 xc_bu [.t 4, .t 5]
theorem xt_bu : toC cx_bu (bodyOf Try.f45) = some (xc_bu.map XN.sm) := by kernel_rfl
theorem xr_bu : toR cx_bu Try.f45.results.toList = some [.t 4, .t 5] := by kernel_rfl
theorem xo_bu : xc_bu.ok xl_bu := ⟨⟨r_m, r_m, trivial⟩, ⟨⟨⟨r_m, r_m, r_c ve_b0, r_t, trivial⟩, ⟨⟨⟨r_m, r_m, trivial⟩, trivial⟩, trivial⟩⟩, ⟨⟨r_m, r_n, r_f _, r_l, r_m, rIxS_ok _, r_l, r_m, r_m, trivial⟩, trivial⟩⟩⟩
theorem ve_bu : EvOk s_bu v_bu := EvOk.of (evFn_sound (C := cx_bu) xt_bu xr_bu xo_bu) q_bu
attribute [irreducible] w_bu s_bu
def w_bf (a0 a1 : Value) (K : Value → Mem → Prop) (σ : Mem) : Prop :=xC (gBox 9 [a0] []) fun c2 =>xF fMove [.int .u64 0] fun v4 =>xF (fFld 7) [(locP 2)] fun v7 =>xO (gLoad 1 false [v7] c2) fun v8 =>xF (fFld 8) [(locP 2)] fun v9 =>xO (gLoad 1 false [v9] c2) fun v10 =>s_bs [v8, v10] (fun v11 σ =>xF (fFld 7) [(locP 2)] fun v13 =>xO (gLoad 1 false [v13] c2) fun v14 =>xF fMove [a1] fun v15 =>s_bu [v14, v15] (fun v16 σ =>xF fMove [v16] fun v12 =>xF (fExt 0) [v12] fun v17 =>xF (fExt 1) [v12] fun v18 =>xF fMove [v17] fun v5 =>xF fMove [v18] fun v6 =>xF fMove [v5] fun v19 =>xF fMove [v19] fun v4 =>K v4 σ) σ) σ
def s_bf : Spec := fun args K σ => match args with
  | [a0, a1] => w_bf a0 a1 K σ
  | _ => False
noncomputable def cx_bf : Cx := { P := Try.prog, T := [(44, .write, s_bs), (45, .write, s_bu)], loc := [(2, 2), (7, 2), (9, 2), (13, 2)], eqt := [], n := 20, keep := [] }
theorem q_bf : FnS cx_bf Try.f37 (bodyOf Try.f37) 2 = s_bf := by
  funext args K σ
  rcases args with _ | ⟨a0, _ | ⟨a1, _ | ⟨b, r⟩⟩⟩ <;> kernel_rfl
theorem e_bf : Entry Try.prog 37 .write s_bf :=
  entry (C := cx_bf) (TOk.cons e_bs (TOk.cons e_bu TOk.nil)) mixedOk Try.func37 (by kernel_rfl) (by kernel_rfl) (by kernel_rfl) q_bf
def xl_bf : List (Nat × Nat) := [(2, 2), (7, 2), (9, 2), (13, 2)]
noncomputable def xc_bf : XC XN :=
(.seq none
 (.reg [zy xl_bf (.lb 2 9) 2 [.tmp 0],
  zc 4 (.int .u64 0)])
 (.seq none
 (.reg [zF 7 7 2,
  zr 2 8 7,
  zF 8 9 2,
  zr 2 10 9,
  zk .write s_bs v_bs 11 [.tmp 8, .tmp 10]])
 (.seq none
 (.reg [zF 7 13 2,
  zr 2 14 13,
  zM 15 1,
  zk .write s_bu v_bu 16 [.tmp 14, .tmp 15],
  zM 12 16,
  zy xl_bf (.f (fExt 0)) 17 [.tmp 12],
  zy xl_bf (.f (fExt 1)) 18 [.tmp 12],
  zM 5 17,
  zM 6 18])
 (.seq none
 (.reg [zM 19 5,
  zM 4 19])
 .ret))))
noncomputable def v_bf : EvF := evFn 2 xc_bf [.t 4]
theorem xt_bf : toC cx_bf (bodyOf Try.f37) = some (xc_bf.map XN.sm) := by kernel_rfl
theorem xr_bf : toR cx_bf Try.f37.results.toList = some [.t 4] := by kernel_rfl
theorem xo_bf : xc_bf.ok xl_bf := ⟨⟨r_a (trivial), r_m, trivial⟩, ⟨⟨r_f _, r_r _, r_f _, r_r _, r_c ve_bs, trivial⟩, ⟨⟨r_f _, r_r _, r_m, r_c ve_bu, r_m, r_a (eqv_ext _), r_a (eqv_ext _), r_m, r_m, trivial⟩, ⟨⟨r_m, r_m, trivial⟩, trivial⟩⟩⟩⟩
theorem ve_bf : EvOk s_bf v_bf := EvOk.of (evFn_sound (C := cx_bf) xt_bf xr_bf xo_bf) q_bf
attribute [irreducible] w_bf s_bf
def w_bn (a0 : Value) (K : Value → Mem → Prop) (σ : Mem) : Prop :=xF fMove [.int .i64 0] fun v2 =>xF fMove [a0] fun v3 =>xF (fBin .add .no) [.int .i64 6, v3] fun v4 =>xF fMove [v4] fun v2 =>K v2 σ
def s_bn : Spec := fun args K σ => match args with
  | [a0] => w_bn a0 K σ
  | _ => False
noncomputable def cx_bn : Cx := { P := Try.prog, T := [], loc := [], eqt := [], n := 5, keep := [] }
theorem q_bn : FnS cx_bn Try.f16 (bodyOf Try.f16) 1 = s_bn := by
  funext args K σ
  rcases args with _ | ⟨a0, _ | ⟨b, r⟩⟩ <;> kernel_rfl
theorem e_bn : Entry Try.prog 16 .none s_bn :=
  entry (C := cx_bn) TOk.nil mixedOk Try.func16 (by kernel_rfl) (by kernel_rfl) (by kernel_rfl) q_bn
def xl_bn : List (Nat × Nat) := []
noncomputable def xc_bn : XC XN :=
(.seq none
 (.reg [zc 2 (.int .i64 0)])
 (.seq none
 (.reg [zM 3 0,
  zb .add rAdd 4 [.const (.int .i64 6), .tmp 3],
  zM 2 4])
 .ret))
noncomputable def v_bn : EvF := evFn 1 xc_bn [.t 2]
theorem xt_bn : toC cx_bn (bodyOf Try.f16) = some (xc_bn.map XN.sm) := by kernel_rfl
theorem xr_bn : toR cx_bn Try.f16.results.toList = some [.t 2] := by kernel_rfl
theorem xo_bn : xc_bn.ok xl_bn := ⟨⟨r_m, trivial⟩, ⟨⟨r_m, r_d, r_m, trivial⟩, trivial⟩⟩
theorem ve_bn : EvOk s_bn v_bn := EvOk.of (evFn_sound (C := cx_bn) xt_bn xr_bn xo_bn) q_bn
attribute [irreducible] w_bn s_bn
def w_bh (a0 a1 a2 : Value) (K : Value → Mem → Prop) (σ : Mem) : Prop :=xC (gBox 9 [a0] []) fun c3 =>xF (fFld 7) [(locP 3)] fun v6 =>xO (gLoad 1 false [v6] c3) fun v7 =>xF (fFld 8) [(locP 3)] fun v8 =>xO (gLoad 1 false [v8] c3) fun v9 =>s_bs [v7, v9] (fun v10 σ =>xF (fFld 7) [(locP 3)] fun v11 =>xO (gLoad 1 false [v11] c3) fun v12 =>xF fMove [a1] fun v13 =>xF fMove [a2] fun v14 =>s_bx [v12, v13, v14] (fun v15 σ =>K (.tuple #[]) σ) σ) σ
def s_bh : Spec := fun args K σ => match args with
  | [a0, a1, a2] => w_bh a0 a1 a2 K σ
  | _ => False
noncomputable def cx_bh : Cx := { P := Try.prog, T := [(44, .write, s_bs), (29, .write, s_bx)], loc := [(3, 3), (6, 3), (8, 3), (11, 3)], eqt := [], n := 16, keep := [] }
theorem q_bh : FnS cx_bh Try.f39 (bodyOf Try.f39) 3 = s_bh := by
  funext args K σ
  rcases args with _ | ⟨a0, _ | ⟨a1, _ | ⟨a2, _ | ⟨b, r⟩⟩⟩⟩ <;> kernel_rfl
theorem e_bh : Entry Try.prog 39 .write s_bh :=
  entry (C := cx_bh) (TOk.cons e_bs (TOk.cons e_bx TOk.nil)) mixedOk Try.func39 (by kernel_rfl) (by kernel_rfl) (by kernel_rfl) q_bh
def xl_bh : List (Nat × Nat) := [(3, 3), (6, 3), (8, 3), (11, 3)]
noncomputable def xc_bh : XC XN :=
(.seq none
 (.reg [zy xl_bh (.lb 3 9) 3 [.tmp 0]])
 (.seq none
 (.reg [zF 7 6 3,
  zr 3 7 6,
  zF 8 8 3,
  zr 3 9 8,
  zk .write s_bs v_bs 10 [.tmp 7, .tmp 9]])
 (.reg [zF 7 11 3,
  zr 3 12 11,
  zM 13 1,
  zM 14 2,
  zk .write s_bx v_bx 15 [.tmp 12, .tmp 13, .tmp 14]])))
noncomputable def v_bh : EvF := evFn 3 xc_bh []
theorem xt_bh : toC cx_bh (bodyOf Try.f39) = some (xc_bh.map XN.sm) := by kernel_rfl
theorem xr_bh : toR cx_bh Try.f39.results.toList = some [] := by kernel_rfl
theorem xo_bh : xc_bh.ok xl_bh := ⟨⟨r_a (trivial), trivial⟩, ⟨⟨r_f _, r_r _, r_f _, r_r _, r_c ve_bs, trivial⟩, ⟨r_f _, r_r _, r_m, r_m, r_c ve_bx, trivial⟩⟩⟩
theorem ve_bh : EvOk s_bh v_bh := EvOk.of (evFn_sound (C := cx_bh) xt_bh xr_bh xo_bh) q_bh
attribute [irreducible] w_bh s_bh
def w_b2_j1b (K : Value → Mem → Prop) (σ : Mem) : Prop :=xF fMove [.bool false] fun v4 =>K v4 σ
def w_b2_j1 (K : Value → Mem → Prop) (ts : List Value) (ls : List (List Value)) (σ : Mem) : Prop := w_b2_j1b K σ
def w_b2 (a0 a1 : Value) (K : Value → Mem → Prop) (σ : Mem) : Prop :=xC (gBox 9 [a1] []) fun c3 =>xF fMove [.bool false] fun v4 =>xJoin (w_b2_j1 K) fun J1 =>xF fMove [a0] fun v6 =>xF fNil [v6] fun v7 =>xF (fFld 0) [v7] fun v8 =>hLoad 1 false [v8] (fun v9 σ =>xF (fBin .eql .no) [v9, .int .i64 0] fun v27 =>xF fMove [v27] fun v26 =>xIf v26
 (xF fMove [a0] fun v28 =>xF fMove [a0] fun v29 =>xO (gLoad 9 true [(locP 3)] c3) fun v30 =>s_bi [] (fun v31 σ =>s_bf [v30, v31] (fun v32 σ =>xF fNil [v28] fun v33 =>xF (fFld 1) [v33] fun v34 =>hStore 1 [v34, v32] (fun _v σ =>xF fNil [v29] fun v35 =>xF (fFld 0) [v35] fun v36 =>hStore 1 [v36, .int .i64 1] (fun _v σ =>J1 [] [] σ) σ) σ) σ) σ)
 (xF (fBin .eql .no) [v9, .int .i64 1] fun v38 =>xF fMove [v38] fun v37 =>xIf v37
 (xO (gLoad 9 true [(locP 3)] c3) fun v39 =>xF (fFld 8) [(locP 3)] fun v40 =>xO (gLoad 1 false [v40] c3) fun v41 =>s_bn [v41] (fun v42 σ =>xF fMove [a0] fun v43 =>xF fNil [v43] fun v44 =>xF (fFld 1) [v44] fun v45 =>hLoad 1 false [v45] (fun v46 σ =>xF (fBin .add .no) [v46, .int .u64 1] fun v47 =>s_bh [v39, v42, v47] (fun v48 σ =>xF fMove [a0] fun v49 =>xF fNil [v49] fun v50 =>xF (fFld 0) [v50] fun v51 =>hStore 1 [v51, .int .i64 2] (fun _v σ =>J1 [] [] σ) σ) σ) σ) σ)
 (xO (gLoad 9 true [(locP 3)] c3) fun v10 =>s_bi [] (fun v11 σ =>s_bf [v10, v11] (fun v12 σ =>xF fMove [v12] fun v5 =>xF fMove [v5] fun v13 =>xF fMove [a0] fun v14 =>xF fNil [v14] fun v15 =>xF (fFld 1) [v15] fun v16 =>hLoad 1 false [v16] (fun v17 σ =>xF (fBin .eql .no) [v13, v17] fun v18 =>xIf v18
 (xF fMove [.bool true] fun v4 =>K v4 σ)
 (xF fMove [a0] fun v19 =>xF fMove [a0] fun v20 =>xF fMove [v5] fun v21 =>xF fNil [v19] fun v22 =>xF (fFld 1) [v22] fun v23 =>hStore 1 [v23, v21] (fun _v σ =>xF fNil [v20] fun v24 =>xF (fFld 0) [v24] fun v25 =>hStore 1 [v25, .int .i64 1] (fun _v σ =>J1 [] [] σ) σ) σ)) σ) σ) σ))) σ
def s_b2 : Spec := fun args K σ => match args with
  | [a0, a1] => w_b2 a0 a1 K σ
  | _ => False
noncomputable def cx_b2 : Cx := { P := Try.prog, T := [(38, .none, s_bi), (37, .write, s_bf), (16, .none, s_bn), (39, .write, s_bh)], loc := [(3, 3), (40, 3)], eqt := [], n := 52, keep := [(1000012, [], [])] }
theorem q_b2 : FnS cx_b2 Try.f24 (bodyOf Try.f24) 2 = s_b2 := by
  funext args K σ
  rcases args with _ | ⟨a0, _ | ⟨a1, _ | ⟨b, r⟩⟩⟩ <;> kernel_rfl
theorem e_b2 : Entry Try.prog 24 .write s_b2 :=
  entry (C := cx_b2) (TOk.cons e_bi (TOk.cons e_bf (TOk.cons e_bn (TOk.cons e_bh TOk.nil)))) mixedOk Try.func24 (by kernel_rfl) (by kernel_rfl) (by kernel_rfl) q_b2
def xl_b2 : List (Nat × Nat) := [(3, 3), (40, 3)]
noncomputable def xc_b2 : XC XN :=
(.seq none
 (.reg [zy xl_b2 (.lb 3 9) 3 [.tmp 1],
  zc 4 (.bool false)])
 (.seq (some ([], []))
 (.seq none
 (.reg [zM 6 0,
  zN 7 6,
  zF 0 8 7,
  zL 9 8])
 (.block 0
 (.seq none
 (.reg [zb .eql rEql 27 [.tmp 9, .const (.int .i64 0)],
  zM 26 27])
 (.cond (.tmp 26)
 (.reg [zM 28 0,
  zM 29 0,
  zy xl_b2 (.lr 3 9 true) 30 [.tmp 3],
  zk .none s_bi v_bi 31 [],
  zk .write s_bf v_bf 32 [.tmp 30, .tmp 31],
  zN 33 28,
  zF 1 34 33,
  zS [.tmp 34, .tmp 32],
  zN 35 29,
  zF 0 36 35,
  zS [.tmp 36, .const (.int .i64 1)]])
 (.seq none
 (.reg [zb .eql rEql 38 [.tmp 9, .const (.int .i64 1)],
  zM 37 38])
 (.cond (.tmp 37)
 (.seq none
 (.reg [zy xl_b2 (.lr 3 9 true) 39 [.tmp 3],
  zF 8 40 3,
  zr 3 41 40,
  zk .none s_bn v_bn 42 [.tmp 41],
  zM 43 0,
  zN 44 43,
  zF 1 45 44,
  zL 46 45,
  zb .add rAdd 47 [.tmp 46, .const (.int .u64 1)],
  zk .write s_bh v_bh 48 [.tmp 39, .tmp 42, .tmp 47]])
 (.reg [zM 49 0,
  zN 50 49,
  zF 0 51 50,
  zS [.tmp 51, .const (.int .i64 2)]]))
 (.seq none
 (.reg [zy xl_b2 (.lr 3 9 true) 10 [.tmp 3],
  zk .none s_bi v_bi 11 [],
  zk .write s_bf v_bf 12 [.tmp 10, .tmp 11],
  zM 5 12])
 (.seq none
 (.seq none
 (.reg [zM 13 5,
  zM 14 0,
  zN 15 14,
  zF 1 16 15,
  zL 17 16,
  zb .eql rEql 18 [.tmp 13, .tmp 17]])
 (.cond (.tmp 18)
 (.seq none
 (.reg [zc 4 (.bool true)])
 .ret)
 .skip))
 (.reg [zM 19 0,
  zM 20 0,
  zM 21 5,
  zN 22 19,
  zF 1 23 22,
  zS [.tmp 23, .tmp 21],
  zN 24 20,
  zF 0 25 24,
  zS [.tmp 25, .const (.int .i64 1)]])))))))))
 (.seq none
 (.reg [zc 4 (.bool false)])
 .ret)))
noncomputable def v_b2 : EvF := evFn 2 xc_b2 [.t 4]
theorem xt_b2 : toC cx_b2 (bodyOf Try.f24) = some (xc_b2.map XN.sm) := by kernel_rfl
theorem xr_b2 : toR cx_b2 Try.f24.results.toList = some [.t 4] := by kernel_rfl
theorem xo_b2 : xc_b2.ok xl_b2 := ⟨⟨r_a (trivial), r_m, trivial⟩, ⟨⟨⟨r_m, r_n, r_f _, r_l, trivial⟩, ⟨⟨r_e, r_m, trivial⟩, ⟨⟨r_m, r_m, r_a (trivial), r_c ve_bi, r_c ve_bf, r_n, r_f _, r_s, r_n, r_f _, r_s, trivial⟩, ⟨⟨r_e, r_m, trivial⟩, ⟨⟨⟨r_a (trivial), r_f _, r_r _, r_c ve_bn, r_m, r_n, r_f _, r_l, r_d, r_c ve_bh, trivial⟩, ⟨r_m, r_n, r_f _, r_s, trivial⟩⟩, ⟨⟨r_a (trivial), r_c ve_bi, r_c ve_bf, r_m, trivial⟩, ⟨⟨⟨r_m, r_m, r_n, r_f _, r_l, r_e, trivial⟩, ⟨⟨⟨r_m, trivial⟩, trivial⟩, trivial⟩⟩, ⟨r_m, r_m, r_m, r_n, r_f _, r_s, r_n, r_f _, r_s, trivial⟩⟩⟩⟩⟩⟩⟩⟩, ⟨⟨r_m, trivial⟩, trivial⟩⟩⟩
theorem ve_b2 : EvOk s_b2 v_b2 := EvOk.of (evFn_sound (C := cx_b2) xt_b2 xr_b2 xo_b2) q_b2
attribute [irreducible] w_b2_j1b w_b2_j1 w_b2 s_b2
def w_b3 (a0 a1 : Value) (K : Value → Mem → Prop) (σ : Mem) : Prop :=xC (gBox 0 [a0] []) fun c2 =>xC (gBox 9 [a1] []) fun c3 =>xF fMove [.bool false] fun v4 =>xO (gLoad 9 true [(locP 3)] c3) fun v5 =>xF (fFld 8) [(locP 3)] fun v6 =>xO (gLoad 1 false [v6] c3) fun v7 =>s_bn [v7] (fun v8 σ =>s_bh [v5, v8, .int .u64 0] (fun v9 σ =>xF fMove [.bool true] fun v4 =>K v4 σ) σ) σ
def s_b3 : Spec := fun args K σ => match args with
  | [a0, a1] => w_b3 a0 a1 K σ
  | _ => False
noncomputable def cx_b3 : Cx := { P := Try.prog, T := [(16, .none, s_bn), (39, .write, s_bh)], loc := [(2, 2), (3, 3), (6, 3)], eqt := [], n := 10, keep := [] }
theorem q_b3 : FnS cx_b3 Try.f25 (bodyOf Try.f25) 2 = s_b3 := by
  funext args K σ
  rcases args with _ | ⟨a0, _ | ⟨a1, _ | ⟨b, r⟩⟩⟩ <;> kernel_rfl
theorem e_b3 : Entry Try.prog 25 .write s_b3 :=
  entry (C := cx_b3) (TOk.cons e_bn (TOk.cons e_bh TOk.nil)) mixedOk Try.func25 (by kernel_rfl) (by kernel_rfl) (by kernel_rfl) q_b3
def xl_b3 : List (Nat × Nat) := [(2, 2), (3, 3), (6, 3)]
noncomputable def xc_b3 : XC XN :=
(.seq none
 (.reg [zy xl_b3 (.lb 2 0) 2 [.tmp 0],
  zy xl_b3 (.lb 3 9) 3 [.tmp 1],
  zc 4 (.bool false)])
 (.seq none
 (.reg [zy xl_b3 (.lr 3 9 true) 5 [.tmp 3],
  zF 8 6 3,
  zr 3 7 6,
  zk .none s_bn v_bn 8 [.tmp 7],
  zk .write s_bh v_bh 9 [.tmp 5, .tmp 8, .const (.int .u64 0)]])
 (.seq none
 (.reg [zc 4 (.bool true)])
 .ret)))
noncomputable def v_b3 : EvF := evFn 2 xc_b3 [.t 4]
theorem xt_b3 : toC cx_b3 (bodyOf Try.f25) = some (xc_b3.map XN.sm) := by kernel_rfl
theorem xr_b3 : toR cx_b3 Try.f25.results.toList = some [.t 4] := by kernel_rfl
theorem xo_b3 : xc_b3.ok xl_b3 := ⟨⟨r_a (trivial), r_a (trivial), r_m, trivial⟩, ⟨⟨r_a (trivial), r_f _, r_r _, r_c ve_bn, r_c ve_bh, trivial⟩, ⟨⟨r_m, trivial⟩, trivial⟩⟩⟩
theorem ve_b3 : EvOk s_b3 v_b3 := EvOk.of (evFn_sound (C := cx_b3) xt_b3 xr_b3 xo_b3) q_b3
attribute [irreducible] w_b3 s_b3
def w_bc_j1b (K : Value → Mem → Prop) (σ : Mem) : Prop :=xF fMove [(.int .i64 (-1))] fun v2 =>K v2 σ
def w_bc_j1 (K : Value → Mem → Prop) (ts : List Value) (ls : List (List Value)) (σ : Mem) : Prop := w_bc_j1b K σ
def w_bc_j2b (K : Value → Mem → Prop) (J1 : List Value → List (List Value) → Mem → Prop) (R1 : List Value → List (List Value) → Mem → Prop) (v0 v3 v4 v14 : Value) (σ : Mem) : Prop :=xIf v14
 (xF fMove [v3] fun v15 =>xF fMove [v15] fun v2 =>K v2 σ)
 (xF (fBin .add .no) [v4, .int .i64 1] fun v16 =>xF fMove [v16] fun v4 =>R1 [v0, v4] [] σ)
def w_bc_j2 (K : Value → Mem → Prop) (J1 : List Value → List (List Value) → Mem → Prop) (R1 : List Value → List (List Value) → Mem → Prop) (ts : List Value) (ls : List (List Value)) (σ : Mem) : Prop := w_bc_j2b K J1 R1 (ts.getD 0 poison) (ts.getD 1 poison) (ts.getD 2 poison) (ts.getD 3 poison) σ
def w_layout_Class_l3b (K : Value → Mem → Prop) (J1 : List Value → List (List Value) → Mem → Prop) (R1 : List Value → List (List Value) → Mem → Prop) (v0 v4 : Value) (σ : Mem) : Prop :=xF (fBin .lss .no) [v4, .int .i64 4] fun v5 =>xIf v5
 (xF fMove [v4] fun v6 =>xF fMove [v6] fun v3 =>xJoin (w_bc_j2 K J1 R1) fun J2 =>xF fMove [v0] fun v7 =>xF (fBin .geq .no) [v7, .int .i64 1] fun v8 =>xF fMove [v8] fun v9 =>xIf v9
 (xF fMove [v0] fun v10 =>xF fMove [v3] fun v11 =>xF (fBin .shl .no) [.int .i64 2, v11] fun v12 =>xF (fBin .leq .no) [v10, v12] fun v13 =>xF fPick [.bool true, v13, .bool false] fun v14 =>J2 [v0, v3, v4, v14] [] σ)
 (xF fPick [.bool false, undef, .bool false] fun v14 =>J2 [v0, v3, v4, v14] [] σ))
 (J1 [] [] σ)
def w_layout_Class_l3 (K : Value → Mem → Prop) (J1 : List Value → List (List Value) → Mem → Prop) (R1 : List Value → List (List Value) → Mem → Prop) (ts : List Value) (ls : List (List Value)) (σ : Mem) : Prop := w_layout_Class_l3b K J1 R1 (ts.getD 0 poison) (ts.getD 1 poison) σ
def w_bc (a0 : Value) (K : Value → Mem → Prop) (σ : Mem) : Prop :=xF fMove [.int .i64 0] fun v2 =>xJoin (w_bc_j1 K) fun J1 =>xF fMove [.int .i64 0] fun v4 =>xLoop (w_layout_Class_l3 K J1) [a0, v4] [] σ
def s_bc : Spec := fun args K σ => match args with
  | [a0] => w_bc a0 K σ
  | _ => False
noncomputable def cx_bc : Cx := { P := Try.prog, T := [], loc := [], eqt := [], n := 17, keep := [(3, [0, 4], []), (1000006, [0, 3, 4, 14], []), (1000008, [], [])] }
theorem q_bc : FnS cx_bc Try.f13 (bodyOf Try.f13) 1 = s_bc := by
  funext args K σ
  rcases args with _ | ⟨a0, _ | ⟨b, r⟩⟩ <;> kernel_rfl
theorem e_bc : Entry Try.prog 13 .write s_bc :=
  entry (C := cx_bc) TOk.nil mixedOk Try.func13 (by kernel_rfl) (by kernel_rfl) (by kernel_rfl) q_bc
def xl_bc : List (Nat × Nat) := []
noncomputable def xc_bc : XC XN :=
(.seq none
 (.reg [zc 2 (.int .i64 0)])
 (.seq (some ([], []))
 (.seq none
 (.reg [zc 4 (.int .i64 0)])
 (.block 0
 (.loop ([0, 4], [])
 (.seq none
 (.reg [zb .lss rLss 5 [.tmp 4, .const (.int .i64 4)]])
 (.seq none
 (.cond (.tmp 5)
 .skip
 (.exit 0))
 (.seq none
 (.block 1
 (.seq none
 (.reg [zM 6 4,
  zM 3 6])
 (.seq (some ([0, 3, 4, 14], []))
 (.reg [zM 7 0,
  zb .geq rGeq 8 [.tmp 7, .const (.int .i64 1)],
  zM 9 8,
  ⟨(some (3, 2, true, some 9)), some 10, [.tmp 0], ⟨.f fMove, rMove⟩⟩,
  ⟨(some (4, 2, true, some 9)), some 11, [.tmp 3], ⟨.f fMove, rMove⟩⟩,
  ⟨(some (5, 2, true, some 9)), some 12, [(.const (.int .i64 2)), .tmp 11], ⟨.f (fBin .shl .no), rAny xl_bc (.f (fBin .shl .no))⟩⟩,
  ⟨(some (6, 2, true, some 9)), some 13, [.tmp 10, .tmp 12], ⟨.f (fBin .leq .no), rLeq⟩⟩,
  zz (.f fPick) rPick (some 14) [.tmp 9, .tmp 13, .const (.bool false)]])
 (.cond (.tmp 14)
 (.seq none
 (.reg [zM 15 3,
  zM 2 15])
 .ret)
 .skip))))
 (.reg [zb .add rAdd 16 [.tmp 4, .const (.int .i64 1)],
  zM 4 16])))))))
 (.seq none
 (.reg [zc 2 (.int .i64 (-1))])
 .ret)))
noncomputable def v_bc : EvF := evFn 1 xc_bc [.t 2]
theorem xt_bc : toC cx_bc (bodyOf Try.f13) = some (xc_bc.map XN.sm) := by kernel_rfl
theorem xr_bc : toR cx_bc Try.f13.results.toList = some [.t 2] := by kernel_rfl
theorem xo_bc : xc_bc.ok xl_bc := ⟨⟨r_m, trivial⟩, ⟨⟨⟨r_m, trivial⟩, ⟨⟨rLss_ok, trivial⟩, ⟨⟨trivial, trivial⟩, ⟨⟨⟨r_m, r_m, trivial⟩, ⟨⟨r_m, rGeq_ok, r_m, r_m, r_m, r_a (eqv_bin _ _), rLeq_ok, r_p, trivial⟩, ⟨⟨⟨r_m, r_m, trivial⟩, trivial⟩, trivial⟩⟩⟩, ⟨r_d, r_m, trivial⟩⟩⟩⟩⟩, ⟨⟨r_m, trivial⟩, trivial⟩⟩⟩
theorem ve_bc : EvOk s_bc v_bc := EvOk.of (evFn_sound (C := cx_bc) xt_bc xr_bc xo_bc) q_bc
attribute [irreducible] w_bc_j1b w_bc_j1 w_bc_j2b w_bc_j2 w_layout_Class_l3b w_layout_Class_l3 w_bc s_bc
def w_bw (a0 : Value) (K : Value → Mem → Prop) (σ : Mem) : Prop :=xF fMove [.int .i64 0] fun v2 =>xF fMove [a0] fun v3 =>xF (fBin .eql .ptr) [v3, .pointer none] fun v4 =>xIf v4
 (xF fMove [.int .i64 0] fun v2 =>K v2 σ)
 (xF fMove [a0] fun v5 =>xF fNil [v5] fun v6 =>xF (fFld 2) [v6] fun v7 =>hLoad 1 false [v7] (fun v8 σ =>xF fMove [v8] fun v2 =>K v2 σ) σ)
def s_bw : Spec := fun args K σ => match args with
  | [a0] => w_bw a0 K σ
  | _ => False
noncomputable def cx_bw : Cx := { P := Try.prog, T := [], loc := [], eqt := [(25, .ptr)], n := 9, keep := [] }
theorem q_bw : FnS cx_bw Try.f23 (bodyOf Try.f23) 1 = s_bw := by
  funext args K σ
  rcases args with _ | ⟨a0, _ | ⟨b, r⟩⟩ <;> kernel_rfl
theorem e_bw : Entry Try.prog 23 .read s_bw :=
  entry (C := cx_bw) TOk.nil mixedOk Try.func23 (by kernel_rfl) (by kernel_rfl) (by kernel_rfl) q_bw
def xl_bw : List (Nat × Nat) := []
noncomputable def xc_bw : XC XN :=
(.seq none
 (.reg [zc 2 (.int .i64 0)])
 (.seq none
 (.seq none
 (.reg [zM 3 0,
  zy xl_bw (.f (fBin .eql .ptr)) 4 [.tmp 3, .const (.pointer none)]])
 (.cond (.tmp 4)
 (.seq none
 (.reg [zc 2 (.int .i64 0)])
 .ret)
 .skip))
 (.seq none
 (.reg [zM 5 0,
  zN 6 5,
  zF 2 7 6,
  zL 8 7,
  zM 2 8])
 .ret)))
noncomputable def v_bw : EvF := evFn 1 xc_bw [.t 2]
theorem xt_bw : toC cx_bw (bodyOf Try.f23) = some (xc_bw.map XN.sm) := by kernel_rfl
theorem xr_bw : toR cx_bw Try.f23.results.toList = some [.t 2] := by kernel_rfl
theorem xo_bw : xc_bw.ok xl_bw := ⟨⟨r_m, trivial⟩, ⟨⟨⟨r_m, r_a (eqv_bin _ _), trivial⟩, ⟨⟨⟨r_m, trivial⟩, trivial⟩, trivial⟩⟩, ⟨⟨r_m, r_n, r_f _, r_l, r_m, trivial⟩, trivial⟩⟩⟩
theorem ve_bw : EvOk s_bw v_bw := EvOk.of (evFn_sound (C := cx_bw) xt_bw xr_bw xo_bw) q_bw
attribute [irreducible] w_bw s_bw
def w_bg (a0 : Value) (K : Value → Mem → Prop) (σ : Mem) : Prop :=xC (gBox 9 [a0] []) fun c1 =>xF fMove [.int .i64 0] fun v2 =>xF (fFld 7) [(locP 1)] fun v3 =>xO (gLoad 1 false [v3] c1) fun v4 =>s_bw [v4] (fun v5 σ =>xF fMove [v5] fun v2 =>K v2 σ) σ
def s_bg : Spec := fun args K σ => match args with
  | [a0] => w_bg a0 K σ
  | _ => False
noncomputable def cx_bg : Cx := { P := Try.prog, T := [(23, .read, s_bw)], loc := [(1, 1), (3, 1)], eqt := [], n := 6, keep := [] }
theorem q_bg : FnS cx_bg Try.f17 (bodyOf Try.f17) 1 = s_bg := by
  funext args K σ
  rcases args with _ | ⟨a0, _ | ⟨b, r⟩⟩ <;> kernel_rfl
theorem e_bg : Entry Try.prog 17 .read s_bg :=
  entry (C := cx_bg) (TOk.cons e_bw TOk.nil) mixedOk Try.func17 (by kernel_rfl) (by kernel_rfl) (by kernel_rfl) q_bg
def xl_bg : List (Nat × Nat) := [(1, 1), (3, 1)]
noncomputable def xc_bg : XC XN :=
(.seq none
 (.reg [zy xl_bg (.lb 1 9) 1 [.tmp 0],
  zc 2 (.int .i64 0)])
 (.seq none
 (.reg [zF 7 3 1,
  zr 1 4 3,
  zk .read s_bw v_bw 5 [.tmp 4],
  zM 2 5])
 .ret))
noncomputable def v_bg : EvF := evFn 1 xc_bg [.t 2]
theorem xt_bg : toC cx_bg (bodyOf Try.f17) = some (xc_bg.map XN.sm) := by kernel_rfl
theorem xr_bg : toR cx_bg Try.f17.results.toList = some [.t 2] := by kernel_rfl
theorem xo_bg : xc_bg.ok xl_bg := ⟨⟨r_a (trivial), r_m, trivial⟩, ⟨⟨r_f _, r_r _, r_c ve_bw, r_m, trivial⟩, trivial⟩⟩
theorem ve_bg : EvOk s_bg v_bg := EvOk.of (evFn_sound (C := cx_bg) xt_bg xr_bg xo_bg) q_bg
attribute [irreducible] w_bg s_bg
def w_ao (a0 a1 a2 : Value) (K : Value → Mem → Prop) (σ : Mem) : Prop :=xC (gBox 9 [a1] []) fun c4 =>xF fMove [a0] fun v6 =>xF fMove [a2] fun v7 =>xO (gLoad 9 true [(locP 4)] c4) fun v8 =>s_bg [v8] (fun v9 σ =>xF (fBuild [(0, 1), (1, 1), (2, 1), (3, 1)] [.int .i64 0, .int .u64 0, .int .i64 0, .int .i64 0] [0, 3]) [v7, v9] fun v10 =>xF fNil [v6] fun v11 =>xF (fFld 14) [v11] fun v12 =>hStore 4 [v12, v10] (fun _v σ =>K (.tuple #[]) σ) σ) σ
def s_ao : Spec := fun args K σ => match args with
  | [a0, a1, a2] => w_ao a0 a1 a2 K σ
  | _ => False
noncomputable def cx_ao : Cx := { P := Try.prog, T := [(17, .read, s_bg)], loc := [(4, 4)], eqt := [], n := 13, keep := [] }
theorem q_ao : FnS cx_ao Try.f64 (bodyOf Try.f64) 3 = s_ao := by
  funext args K σ
  rcases args with _ | ⟨a0, _ | ⟨a1, _ | ⟨a2, _ | ⟨b, r⟩⟩⟩⟩ <;> kernel_rfl
theorem e_ao : Entry Try.prog 64 .write s_ao :=
  entry (C := cx_ao) (TOk.cons e_bg TOk.nil) mixedOk Try.func64 (by kernel_rfl) (by kernel_rfl) (by kernel_rfl) q_ao
def xl_ao : List (Nat × Nat) := [(4, 4)]
noncomputable def xc_ao : XC XN :=
(.seq none
 (.reg [zy xl_ao (.lb 4 9) 4 [.tmp 1]])
 (.reg [zM 6 0,
  zM 7 2,
  zy xl_ao (.lr 4 9 true) 8 [.tmp 4],
  zk .read s_bg v_bg 9 [.tmp 8],
  zy xl_ao (.f (fBuild [(0, 1), (1, 1), (2, 1), (3, 1)] [.int .i64 0, .int .u64 0, .int .i64 0, .int .i64 0] [0, 3])) 10 [.tmp 7, .tmp 9],
  zN 11 6,
  zF 14 12 11,
  zY xl_ao (.store 4) [.tmp 12, .tmp 10]]))
noncomputable def v_ao : EvF := evFn 3 xc_ao []
theorem xt_ao : toC cx_ao (bodyOf Try.f64) = some (xc_ao.map XN.sm) := by kernel_rfl
theorem xr_ao : toR cx_ao Try.f64.results.toList = some [] := by kernel_rfl
theorem xo_ao : xc_ao.ok xl_ao := ⟨⟨r_a (trivial), trivial⟩, ⟨r_m, r_m, r_a (trivial), r_c ve_bg, r_a (eqv_build _ rfl _), r_n, r_f _, r_a (trivial), trivial⟩⟩
theorem ve_ao : EvOk s_ao v_ao := EvOk.of (evFn_sound (C := cx_ao) xt_ao xr_ao xo_ao) q_ao
attribute [irreducible] w_ao s_ao
def w_cp (a0 : Value) (K : Value → Mem → Prop) (σ : Mem) : Prop :=xF fMove [.int .i64 0] fun v2 =>xF fMove [.int .i64 0] fun v3 =>xF fMove [a0] fun v4 =>xF (fBin .and .no) [v4, .int .u64 131071] fun v5 =>xF (fConv .i64) [v5] fun v6 =>xF (fBin .sub .no) [v6, .int .i64 1] fun v7 =>xF fMove [a0] fun v8 =>xF (fBin .shr .no) [v8, .int .u64 17] fun v9 =>xF (fBin .and .no) [v9, .int .u64 68719476735] fun v10 =>xF (fConv .i64) [v10] fun v11 =>xF fMove [v7] fun v2 =>xF fMove [v11] fun v3 =>K (.tuple #[v2, v3]) σ
def s_cp : Spec := fun args K σ => match args with
  | [a0] => w_cp a0 K σ
  | _ => False
noncomputable def cx_cp : Cx := { P := Try.prog, T := [], loc := [], eqt := [], n := 12, keep := [] }
theorem q_cp : FnS cx_cp Try.f78 (bodyOf Try.f78) 1 = s_cp := by
  funext args K σ
  rcases args with _ | ⟨a0, _ | ⟨b, r⟩⟩ <;> kernel_rfl
theorem e_cp : Entry Try.prog 78 .none s_cp :=
  entry (C := cx_cp) TOk.nil mixedOk Try.func78 (by kernel_rfl) (by kernel_rfl) (by kernel_rfl) q_cp
def xl_cp : List (Nat × Nat) := []
noncomputable def xc_cp : XC XN :=
(.seq none
 (.reg [zc 2 (.int .i64 0),
  zc 3 (.int .i64 0)])
 (.seq none
 (.reg [zM 4 0,
  zy xl_cp (.band .no) 5 [.tmp 4, .const (.int .u64 131071)],
  zz (.f (fConv .i64)) (rConv .i64) (some 6) [.tmp 5],
  zb .sub rSub 7 [.tmp 6, .const (.int .i64 1)],
  zM 8 0,
  zy xl_cp (.f (fBin .shr .no)) 9 [.tmp 8, .const (.int .u64 17)],
  zy xl_cp (.band .no) 10 [.tmp 9, .const (.int .u64 68719476735)],
  zz (.f (fConv .i64)) (rConv .i64) (some 11) [.tmp 10],
  zM 2 7,
  zM 3 11])
 .ret))
noncomputable def v_cp : EvF := evFn 1 xc_cp [.t 2, .t 3]
theorem xt_cp : toC cx_cp (bodyOf Try.f78) = some (xc_cp.map XN.sm) := by kernel_rfl
theorem xr_cp : toR cx_cp Try.f78.results.toList = some [.t 2, .t 3] := by kernel_rfl
theorem xo_cp : xc_cp.ok xl_cp := ⟨⟨r_m, r_m, trivial⟩, ⟨⟨r_m, r_a (trivial), r_v _, rSub_ok, r_m, r_a (eqv_bin _ _), r_a (trivial), r_v _, r_m, r_m, trivial⟩, trivial⟩⟩
theorem ve_cp : EvOk s_cp v_cp := EvOk.of (evFn_sound (C := cx_cp) xt_cp xr_cp xo_cp) q_cp
attribute [irreducible] w_cp s_cp
def w_bt (a0 a1 a2 a3 : Value) (K : Value → Mem → Prop) (σ : Mem) : Prop :=xF fMove [.bool false] fun v8 =>xF fMove [.int .i64 0] fun v9 =>xF fMove [a0] fun v10 =>xF fMove [a1] fun v11 =>s_b0 [v10, v11] (fun v12 σ =>xF (fUn .not) [v12] fun v13 =>xIf v13
 (xF fMove [.bool false] fun v8 =>xF fMove [.int .i64 2] fun v9 =>K (.tuple #[v8, v9]) σ)
 (xF fMove [a0] fun v14 =>xF fNil [v14] fun v15 =>xF (fFld 0) [v15] fun v16 =>hLoad 1 false [v16] (fun v17 σ =>xF fMove [a1] fun v18 =>xF (fIxS 1) [v17, v18] fun v19 =>hLoad 1 false [v19] (fun v20 σ =>xF fMove [a2] fun v21 =>xF (fBin .neq .no) [v20, v21] fun v22 =>xIf v22
 (xF fMove [.bool false] fun v8 =>xF fMove [.int .i64 0] fun v9 =>K (.tuple #[v8, v9]) σ)
 (xF fMove [a0] fun v23 =>xF fMove [a1] fun v24 =>xF fMove [a3] fun v25 =>s_bz [v23, v24, v25] (fun v26 σ =>xF fMove [.bool true] fun v8 =>xF fMove [.int .i64 0] fun v9 =>K (.tuple #[v8, v9]) σ) σ)) σ) σ)) σ
def s_bt : Spec := fun args K σ => match args with
  | [a0, a1, a2, a3] => w_bt a0 a1 a2 a3 K σ
  | _ => False
noncomputable def cx_bt : Cx := { P := Try.prog, T := [(41, .write, s_b0), (42, .write, s_bz)], loc := [], eqt := [], n := 27, keep := [] }
theorem q_bt : FnS cx_bt Try.f87 (bodyOf Try.f87) 4 = s_bt := by
  funext args K σ
  rcases args with _ | ⟨a0, _ | ⟨a1, _ | ⟨a2, _ | ⟨a3, _ | ⟨b, r⟩⟩⟩⟩⟩ <;> kernel_rfl
theorem e_bt : Entry Try.prog 87 .write s_bt :=
  entry (C := cx_bt) (TOk.cons e_b0 (TOk.cons e_bz TOk.nil)) mixedOk Try.func87 (by kernel_rfl) (by kernel_rfl) (by kernel_rfl) q_bt
def xl_bt : List (Nat × Nat) := []
noncomputable def xc_bt : XC XN :=
(.seq none
 (.reg [zc 8 (.bool false),
  zc 9 (.int .i64 0)])
 (.seq none
 (.seq none
 (.reg [zM 10 0,
  zM 11 1,
  zk .write s_b0 v_b0 12 [.tmp 10, .tmp 11],
  zz (.f (fUn .not)) rNot (some 13) [.tmp 12]])
 (.cond (.tmp 13)
 (.seq none
 (.reg [zc 8 (.bool false),
  zc 9 (.int .i64 2)])
 .ret)
 .skip))
 (.seq none
 (.seq none
 (.reg [zM 14 0,
  zN 15 14,
  zF 0 16 15,
  zL 17 16,
  zM 18 1,
  zz (.f (fIxS 1)) (rIxS 1) (some 19) [.tmp 17, .tmp 18],
  zL 20 19,
  zM 21 2,
  zb .neq rNeq 22 [.tmp 20, .tmp 21]])
 (.cond (.tmp 22)
 (.seq none
 (.reg [zc 8 (.bool false),
  zc 9 (.int .i64 0)])
 .ret)
 .skip))
 (.seq none
 (.reg [zM 23 0,
  zM 24 1,
  zM 25 3,
  zk .write s_bz v_bz 26 [.tmp 23, .tmp 24, .tmp 25]])
 (.seq none
 (.reg [zc 8 (.bool true),
  zc 9 (.int .i64 0)])
 .ret)))))
noncomputable def v_bt : EvF := evFn 4 xc_bt [.t 8, .t 9]
theorem xt_bt : toC cx_bt (bodyOf Try.f87) = some (xc_bt.map XN.sm) := by kernel_rfl
theorem xr_bt : toR cx_bt Try.f87.results.toList = some [.t 8, .t 9] := by kernel_rfl
theorem xo_bt : xc_bt.ok xl_bt := ⟨⟨r_m, r_m, trivial⟩, ⟨⟨⟨r_m, r_m, r_c ve_b0, r_t, trivial⟩, ⟨⟨⟨r_m, r_m, trivial⟩, trivial⟩, trivial⟩⟩, ⟨⟨⟨r_m, r_n, r_f _, r_l, r_m, rIxS_ok _, r_l, r_m, rNeq_ok, trivial⟩, ⟨⟨⟨r_m, r_m, trivial⟩, trivial⟩, trivial⟩⟩, ⟨⟨r_m, r_m, r_m, r_c ve_bz, trivial⟩, ⟨⟨r_m, r_m, trivial⟩, trivial⟩⟩⟩⟩⟩
theorem ve_bt : EvOk s_bt v_bt := EvOk.of (evFn_sound (C := cx_bt) xt_bt xr_bt xo_bt) q_bt
attribute [irreducible] w_bt s_bt
def w_be (a0 a1 a2 a3 : Value) (K : Value → Mem → Prop) (σ : Mem) : Prop :=xC (gBox 9 [a0] []) fun c4 =>xF fMove [.bool false] fun v8 =>xF (fFld 7) [(locP 4)] fun v11 =>xO (gLoad 1 false [v11] c4) fun v12 =>xF (fFld 8) [(locP 4)] fun v13 =>xO (gLoad 1 false [v13] c4) fun v14 =>s_bs [v12, v14] (fun v15 σ =>xF (fFld 7) [(locP 4)] fun v17 =>xO (gLoad 1 false [v17] c4) fun v18 =>xF fMove [a1] fun v19 =>xF fMove [a2] fun v20 =>xF fMove [a3] fun v21 =>s_bt [v18, v19, v20, v21] (fun v22 σ =>xF fMove [v22] fun v16 =>xF (fExt 0) [v16] fun v23 =>xF (fExt 1) [v16] fun v24 =>xF fMove [v23] fun v9 =>xF fMove [v24] fun v10 =>xF fMove [v9] fun v25 =>xF fMove [v25] fun v8 =>K v8 σ) σ) σ
def s_be : Spec := fun args K σ => match args with
  | [a0, a1, a2, a3] => w_be a0 a1 a2 a3 K σ
  | _ => False
noncomputable def cx_be : Cx := { P := Try.prog, T := [(44, .write, s_bs), (87, .write, s_bt)], loc := [(4, 4), (11, 4), (13, 4), (17, 4)], eqt := [], n := 26, keep := [] }
theorem q_be : FnS cx_be Try.f79 (bodyOf Try.f79) 4 = s_be := by
  funext args K σ
  rcases args with _ | ⟨a0, _ | ⟨a1, _ | ⟨a2, _ | ⟨a3, _ | ⟨b, r⟩⟩⟩⟩⟩ <;> kernel_rfl
theorem e_be : Entry Try.prog 79 .write s_be :=
  entry (C := cx_be) (TOk.cons e_bs (TOk.cons e_bt TOk.nil)) mixedOk Try.func79 (by kernel_rfl) (by kernel_rfl) (by kernel_rfl) q_be
def xl_be : List (Nat × Nat) := [(4, 4), (11, 4), (13, 4), (17, 4)]
noncomputable def xc_be : XC XN :=
(.seq none
 (.reg [zy xl_be (.lb 4 9) 4 [.tmp 0],
  zc 8 (.bool false)])
 (.seq none
 (.reg [zF 7 11 4,
  zr 4 12 11,
  zF 8 13 4,
  zr 4 14 13,
  zk .write s_bs v_bs 15 [.tmp 12, .tmp 14]])
 (.seq none
 (.reg [zF 7 17 4,
  zr 4 18 17,
  zM 19 1,
  zM 20 2,
  zM 21 3,
  zk .write s_bt v_bt 22 [.tmp 18, .tmp 19, .tmp 20, .tmp 21],
  zM 16 22,
  zy xl_be (.f (fExt 0)) 23 [.tmp 16],
  zy xl_be (.f (fExt 1)) 24 [.tmp 16],
  zM 9 23,
  zM 10 24])
 (.seq none
 (.reg [zM 25 9,
  zM 8 25])
 .ret))))
noncomputable def v_be : EvF := evFn 4 xc_be [.t 8]
theorem xt_be : toC cx_be (bodyOf Try.f79) = some (xc_be.map XN.sm) := by kernel_rfl
theorem xr_be : toR cx_be Try.f79.results.toList = some [.t 8] := by kernel_rfl
theorem xo_be : xc_be.ok xl_be := ⟨⟨r_a (trivial), r_m, trivial⟩, ⟨⟨r_f _, r_r _, r_f _, r_r _, r_c ve_bs, trivial⟩, ⟨⟨r_f _, r_r _, r_m, r_m, r_m, r_c ve_bt, r_m, r_a (eqv_ext _), r_a (eqv_ext _), r_m, r_m, trivial⟩, ⟨⟨r_m, r_m, trivial⟩, trivial⟩⟩⟩⟩
theorem ve_be : EvOk s_be v_be := EvOk.of (evFn_sound (C := cx_be) xt_be xr_be xo_be) q_be
attribute [irreducible] w_be s_be
end Go.Fl
namespace Go.Fl
open Go Go.Proofs
set_option linter.unusedVariables false
set_option maxRecDepth 10000000
def w_cd_j1b (K : Value → Mem → Prop) (v0 : Value) (σ : Mem) : Prop :=xF fMove [v0] fun v88 =>xF fNil [v88] fun v89 =>xF (fFld 4) [v89] fun v90 =>hLoad 1 false [v90] (fun v91 σ =>xF fMove [v91] fun v4 =>K v4 σ) σ
def w_cd_j1 (K : Value → Mem → Prop) (ts : List Value) (ls : List (List Value)) (σ : Mem) : Prop := w_cd_j1b K (ts.getD 0 poison) σ
def w_cd (a0 a1 : Value) (K : Value → Mem → Prop) (σ : Mem) : Prop :=xC (gBox 9 [a1] []) fun c3 =>xF fMove [.bool false] fun v4 =>xJoin (w_cd_j1 K) fun J1 =>xF fMove [a0] fun v7 =>xF fNil [v7] fun v8 =>xF (fFld 0) [v8] fun v9 =>hLoad 1 false [v9] (fun v10 σ =>xF (fBin .eql .no) [v10, .int .i64 0] fun v40 =>xF fMove [v40] fun v39 =>xIf v39
 (xF fMove [a0] fun v41 =>xO (gLoad 9 true [(locP 3)] c3) fun v42 =>s_bq [] (fun v43 σ =>s_bf [v42, v43] (fun v44 σ =>xF fNil [v41] fun v45 =>xF (fFld 1) [v45] fun v46 =>hStore 1 [v46, v44] (fun _v σ =>xF fMove [a0] fun v48 =>xF fMove [a0] fun v49 =>xF fNil [v49] fun v50 =>xF (fFld 1) [v50] fun v51 =>hLoad 1 false [v51] (fun v52 σ =>s_cp [v52] (fun v53 σ =>xF fMove [v53] fun v47 =>xF (fExt 0) [v47] fun v54 =>xF (fExt 1) [v47] fun v55 =>xF fNil [v48] fun v56 =>xF (fFld 3) [v56] fun v57 =>hStore 1 [v57, v54] (fun _v σ =>xF fMove [a0] fun v58 =>xF fNil [v58] fun v59 =>xF (fFld 0) [v59] fun v60 =>hStore 1 [v60, .int .i64 1] (fun _v σ =>xF fMove [a0] fun v61 =>xF fNil [v61] fun v62 =>xF (fFld 3) [v62] fun v63 =>hLoad 1 false [v63] (fun v64 σ =>xF (fBin .lss .no) [v64, .int .i64 0] fun v65 =>xF fMove [v65] fun v4 =>K v4 σ) σ) σ) σ) σ) σ) σ) σ) σ)
 (xF (fBin .eql .no) [v10, .int .i64 1] fun v67 =>xF fMove [v67] fun v66 =>xIf v66
 (xF fMove [a0] fun v69 =>xO (gLoad 9 true [(locP 3)] c3) fun v70 =>xF (fFld 0) [(locP 3)] fun v71 =>xO (gLoad 7 true [v71] c3) fun v72 =>xF fMove [a0] fun v73 =>xF fNil [v73] fun v74 =>xF (fFld 3) [v74] fun v75 =>hLoad 1 false [v75] (fun v76 σ =>s_bp [v72, v76] (fun v77 σ =>xF (fBin .add .no) [v77, .int .i64 1] fun v78 =>s_bf [v70, v78] (fun v79 σ =>s_cp [v79] (fun v80 σ =>xF fMove [v80] fun v68 =>xF (fExt 0) [v68] fun v81 =>xF (fExt 1) [v68] fun v82 =>xF fNil [v69] fun v83 =>xF (fFld 2) [v83] fun v84 =>hStore 1 [v84, v81] (fun _v σ =>xF fMove [a0] fun v85 =>xF fNil [v85] fun v86 =>xF (fFld 0) [v86] fun v87 =>hStore 1 [v87, .int .i64 2] (fun _v σ =>J1 [a0] [] σ) σ) σ) σ) σ) σ) σ)
 (xF fMove [a0] fun v12 =>xF fNil [v12] fun v13 =>xF (fFld 1) [v13] fun v14 =>hLoad 1 false [v14] (fun v15 σ =>s_cp [v15] (fun v16 σ =>xF fMove [v16] fun v11 =>xF (fExt 0) [v11] fun v17 =>xF (fExt 1) [v11] fun v18 =>xF fMove [v17] fun v5 =>xF fMove [v18] fun v6 =>xF fMove [a0] fun v19 =>xF fNil [v19] fun v20 =>xF (fFld 0) [v20] fun v21 =>hStore 1 [v21, .int .i64 0] (fun _v σ =>xF fMove [a0] fun v22 =>xO (gLoad 9 true [(locP 3)] c3) fun v23 =>s_bq [] (fun v24 σ =>xF fMove [a0] fun v25 =>xF fNil [v25] fun v26 =>xF (fFld 1) [v26] fun v27 =>hLoad 1 false [v27] (fun v28 σ =>xF fMove [a0] fun v29 =>xF fNil [v29] fun v30 =>xF (fFld 2) [v30] fun v31 =>hLoad 1 false [v31] (fun v32 σ =>xF fMove [v6] fun v33 =>xF (fBin .add .no) [v33, .int .i64 1] fun v34 =>s_cn [v32, v34] (fun v35 σ =>s_be [v23, v24, v28, v35] (fun v36 σ =>xF fNil [v22] fun v37 =>xF (fFld 4) [v37] fun v38 =>hStore 1 [v38, v36] (fun _v σ =>J1 [a0] [] σ) σ) σ) σ) σ) σ) σ) σ) σ) σ))) σ
def s_cd : Spec := fun args K σ => match args with
  | [a0, a1] => w_cd a0 a1 K σ
  | _ => False
noncomputable def cx_cd : Cx := { P := Try.prog, T := [(33, .none, s_bq), (37, .write, s_bf), (78, .none, s_cp), (30, .none, s_bp), (32, .none, s_cn), (79, .write, s_be)], loc := [(3, 3), (71, 3)], eqt := [], n := 92, keep := [(1000014, [0], [])] }
theorem q_cd : FnS cx_cd Try.f65 (bodyOf Try.f65) 2 = s_cd := by
  funext args K σ
  rcases args with _ | ⟨a0, _ | ⟨a1, _ | ⟨b, r⟩⟩⟩ <;> kernel_rfl
theorem e_cd : Entry Try.prog 65 .write s_cd :=
  entry (C := cx_cd) (TOk.cons e_bq (TOk.cons e_bf (TOk.cons e_cp (TOk.cons e_bp (TOk.cons e_cn (TOk.cons e_be TOk.nil)))))) mixedOk Try.func65 (by kernel_rfl) (by kernel_rfl) (by kernel_rfl) q_cd
def xl_cd : List (Nat × Nat) := [(3, 3), (71, 3)]
noncomputable def xc_cd : XC XN :=
(.seq none
 (.reg [zy xl_cd (.lb 3 9) 3 [.tmp 1],
  zc 4 (.bool false)])
 (.seq (some ([0], []))
 (.seq none
 (.reg [zM 7 0,
  zN 8 7,
  zF 0 9 8,
  zL 10 9])
 (.block 0
 (.seq none
 (.reg [zb .eql rEql 40 [.tmp 10, .const (.int .i64 0)],
  zM 39 40])
 (.cond (.tmp 39)
 (.seq none
 (.reg [zM 41 0,
  zy xl_cd (.lr 3 9 true) 42 [.tmp 3],
  zk .none s_bq v_bq 43 [],
  zk .write s_bf v_bf 44 [.tmp 42, .tmp 43],
  zN 45 41,
  zF 1 46 45,
  zS [.tmp 46, .tmp 44]])
 (.seq none
 (.reg [zM 48 0,
  zM 49 0,
  zN 50 49,
  zF 1 51 50,
  zL 52 51,
  zk .none s_cp v_cp 53 [.tmp 52],
  zM 47 53,
  zy xl_cd (.f (fExt 0)) 54 [.tmp 47],
  zy xl_cd (.f (fExt 1)) 55 [.tmp 47],
  zN 56 48,
  zF 3 57 56,
  zS [.tmp 57, .tmp 54]])
 (.seq none
 (.reg [zM 58 0,
  zN 59 58,
  zF 0 60 59,
  zS [.tmp 60, .const (.int .i64 1)]])
 (.seq none
 (.reg [zM 61 0,
  zN 62 61,
  zF 3 63 62,
  zL 64 63,
  zb .lss rLss 65 [.tmp 64, .const (.int .i64 0)],
  zM 4 65])
 .ret))))
 (.seq none
 (.reg [zb .eql rEql 67 [.tmp 10, .const (.int .i64 1)],
  zM 66 67])
 (.cond (.tmp 66)
 (.seq none
 (.reg [zM 69 0,
  zy xl_cd (.lr 3 9 true) 70 [.tmp 3],
  zF 0 71 3,
  zy xl_cd (.lr 3 7 true) 72 [.tmp 71],
  zM 73 0,
  zN 74 73,
  zF 3 75 74,
  zL 76 75,
  zk .none s_bp v_bp 77 [.tmp 72, .tmp 76],
  zb .add rAdd 78 [.tmp 77, .const (.int .i64 1)],
  zk .write s_bf v_bf 79 [.tmp 70, .tmp 78],
  zk .none s_cp v_cp 80 [.tmp 79],
  zM 68 80,
  zy xl_cd (.f (fExt 0)) 81 [.tmp 68],
  zy xl_cd (.f (fExt 1)) 82 [.tmp 68],
  zN 83 69,
  zF 2 84 83,
  zS [.tmp 84, .tmp 81]])
 (.reg [zM 85 0,
  zN 86 85,
  zF 0 87 86,
  zS [.tmp 87, .const (.int .i64 2)]]))
 (.seq none
 (.reg [zM 12 0,
  zN 13 12,
  zF 1 14 13,
  zL 15 14,
  zk .none s_cp v_cp 16 [.tmp 15],
  zM 11 16,
  zy xl_cd (.f (fExt 0)) 17 [.tmp 11],
  zy xl_cd (.f (fExt 1)) 18 [.tmp 11],
  zM 5 17,
  zM 6 18])
 (.seq none
 (.reg [zM 19 0,
  zN 20 19,
  zF 0 21 20,
  zS [.tmp 21, .const (.int .i64 0)]])
 (.reg [zM 22 0,
  zy xl_cd (.lr 3 9 true) 23 [.tmp 3],
  zk .none s_bq v_bq 24 [],
  zM 25 0,
  zN 26 25,
  zF 1 27 26,
  zL 28 27,
  zM 29 0,
  zN 30 29,
  zF 2 31 30,
  zL 32 31,
  zM 33 6,
  zb .add rAdd 34 [.tmp 33, .const (.int .i64 1)],
  zk .none s_cn v_cn 35 [.tmp 32, .tmp 34],
  zk .write s_be v_be 36 [.tmp 23, .tmp 24, .tmp 28, .tmp 35],
  zN 37 22,
  zF 4 38 37,
  zS [.tmp 38, .tmp 36]])))))))))
 (.seq none
 (.reg [zM 88 0,
  zN 89 88,
  zF 4 90 89,
  zL 91 90,
  zM 4 91])
 .ret)))
noncomputable def v_cd : EvF := evFn 2 xc_cd [.t 4]
theorem xt_cd : toC cx_cd (bodyOf Try.f65) = some (xc_cd.map XN.sm) := by kernel_rfl
theorem xr_cd : toR cx_cd Try.f65.results.toList = some [.t 4] := by kernel_rfl
theorem xo_cd : xc_cd.ok xl_cd := ⟨⟨r_a (trivial), r_m, trivial⟩, ⟨⟨⟨r_m, r_n, r_f _, r_l, trivial⟩, ⟨⟨r_e, r_m, trivial⟩, ⟨⟨⟨r_m, r_a (trivial), r_c ve_bq, r_c ve_bf, r_n, r_f _, r_s, trivial⟩, ⟨⟨r_m, r_m, r_n, r_f _, r_l, r_c ve_cp, r_m, r_a (eqv_ext _), r_a (eqv_ext _), r_n, r_f _, r_s, trivial⟩, ⟨⟨r_m, r_n, r_f _, r_s, trivial⟩, ⟨⟨r_m, r_n, r_f _, r_l, rLss_ok, r_m, trivial⟩, trivial⟩⟩⟩⟩, ⟨⟨r_e, r_m, trivial⟩, ⟨⟨⟨r_m, r_a (trivial), r_f _, r_a (trivial), r_m, r_n, r_f _, r_l, r_c ve_bp, r_d, r_c ve_bf, r_c ve_cp, r_m, r_a (eqv_ext _), r_a (eqv_ext _), r_n, r_f _, r_s, trivial⟩, ⟨r_m, r_n, r_f _, r_s, trivial⟩⟩, ⟨⟨r_m, r_n, r_f _, r_l, r_c ve_cp, r_m, r_a (eqv_ext _), r_a (eqv_ext _), r_m, r_m, trivial⟩, ⟨⟨r_m, r_n, r_f _, r_s, trivial⟩, ⟨r_m, r_a (trivial), r_c ve_bq, r_m, r_n, r_f _, r_l, r_m, r_n, r_f _, r_l, r_m, r_d, r_c ve_cn, r_c ve_be, r_n, r_f _, r_s, trivial⟩⟩⟩⟩⟩⟩⟩⟩, ⟨⟨r_m, r_n, r_f _, r_l, r_m, trivial⟩, trivial⟩⟩⟩
theorem ve_cd : EvOk s_cd v_cd := EvOk.of (evFn_sound (C := cx_cd) xt_cd xr_cd xo_cd) q_cd
attribute [irreducible] w_cd_j1b w_cd_j1 w_cd s_cd
def w_cc_j1b (K : Value → Mem → Prop) (v0 v12 : Value) (σ : Mem) : Prop :=xIf v12
 (xF fMove [.int .i64 0] fun v2 =>xF fMove [.bool false] fun v3 =>K (.tuple #[v2, v3]) σ)
 (xF fMove [v0] fun v13 =>xF fNil [v13] fun v14 =>xF (fFld 3) [v14] fun v15 =>hLoad 1 false [v15] (fun v16 σ =>xF fMove [v16] fun v2 =>xF fMove [.bool true] fun v3 =>K (.tuple #[v2, v3]) σ) σ)
def w_cc_j1 (K : Value → Mem → Prop) (ts : List Value) (ls : List (List Value)) (σ : Mem) : Prop := w_cc_j1b K (ts.getD 0 poison) (ts.getD 1 poison) σ
def w_cc (a0 : Value) (K : Value → Mem → Prop) (σ : Mem) : Prop :=xF fMove [.int .i64 0] fun v2 =>xF fMove [.bool false] fun v3 =>xJoin (w_cc_j1 K) fun J1 =>xF fMove [a0] fun v4 =>xF (fBin .eql .ptr) [v4, .pointer none] fun v5 =>xF fMove [v5] fun v6 =>xIf v6
 (xF fPick [.bool true, .bool true, undef] fun v12 =>J1 [a0, v12] [] σ)
 (xF fMove [a0] fun v7 =>xF fNil [v7] fun v8 =>xF (fFld 4) [v8] fun v9 =>hLoad 1 false [v9] (fun v10 σ =>xF (fUn .not) [v10] fun v11 =>xF fPick [.bool false, .bool true, v11] fun v12 =>J1 [a0, v12] [] σ) σ)
def s_cc : Spec := fun args K σ => match args with
  | [a0] => w_cc a0 K σ
  | _ => False
noncomputable def cx_cc : Cx := { P := Try.prog, T := [], loc := [], eqt := [(141, .ptr)], n := 17, keep := [(1000003, [0, 12], [])] }
theorem q_cc : FnS cx_cc Try.f66 (bodyOf Try.f66) 1 = s_cc := by
  funext args K σ
  rcases args with _ | ⟨a0, _ | ⟨b, r⟩⟩ <;> kernel_rfl
theorem e_cc : Entry Try.prog 66 .read s_cc :=
  entry (C := cx_cc) TOk.nil mixedOk Try.func66 (by kernel_rfl) (by kernel_rfl) (by kernel_rfl) q_cc
def xl_cc : List (Nat × Nat) := []
noncomputable def xc_cc : XC XN :=
(.seq none
 (.reg [zc 2 (.int .i64 0),
  zc 3 (.bool false)])
 (.seq none
 (.seq (some ([0, 12], []))
 (.reg [zM 4 0,
  zy xl_cc (.f (fBin .eql .ptr)) 5 [.tmp 4, .const (.pointer none)],
  zM 6 5,
  ⟨(some (3, 2, false, some 6)), some 7, [.tmp 0], ⟨.f fMove, rMove⟩⟩,
  ⟨(some (4, 2, false, some 6)), some 8, [.tmp 7], ⟨.f fNil, rNil⟩⟩,
  ⟨(some (5, 2, false, some 6)), some 9, [.tmp 8], ⟨.f (fFld 4), rFld 4⟩⟩,
  ⟨(some (6, 2, false, some 6)), some 10, [.tmp 9], ⟨.load 1 false, rLoad1⟩⟩,
  ⟨(some (7, 2, false, some 6)), some 11, [.tmp 10], ⟨.f (fUn .not), rNot⟩⟩,
  zz (.f fPick) rPick (some 12) [.tmp 6, .const (.bool true), .tmp 11]])
 (.cond (.tmp 12)
 (.seq none
 (.reg [zc 2 (.int .i64 0),
  zc 3 (.bool false)])
 .ret)
 .skip))
 (.seq none
 (.reg [zM 13 0,
  zN 14 13,
  zF 3 15 14,
  zL 16 15,
  zM 2 16,
  zc 3 (.bool true)])
 .ret)))
noncomputable def v_cc : EvF := evFn 1 xc_cc [.t 2, .t 3]
theorem xt_cc : toC cx_cc (bodyOf Try.f66) = some (xc_cc.map XN.sm) := by kernel_rfl
theorem xr_cc : toR cx_cc Try.f66.results.toList = some [.t 2, .t 3] := by kernel_rfl
theorem xo_cc : xc_cc.ok xl_cc := ⟨⟨r_m, r_m, trivial⟩, ⟨⟨⟨r_m, r_a (eqv_bin _ _), r_m, r_m, r_n, r_f _, r_l, r_t, r_p, trivial⟩, ⟨⟨⟨r_m, r_m, trivial⟩, trivial⟩, trivial⟩⟩, ⟨⟨r_m, r_n, r_f _, r_l, r_m, r_m, trivial⟩, trivial⟩⟩⟩
theorem ve_cc : EvOk s_cc v_cc := EvOk.of (evFn_sound (C := cx_cc) xt_cc xr_cc xo_cc) q_cc
attribute [irreducible] w_cc_j1b w_cc_j1 w_cc s_cc
def w_co (a0 : Value) (K : Value → Mem → Prop) (σ : Mem) : Prop :=if true = true then (xC (gAlloc [.int .i64 0, .int .i64 0, .int .i64 0, .int .i64 0] [] []) fun c2 =>xF fMove [a0] fun v3 =>xF (fBin .and .no) [v3, .int .u64 7] fun v4 =>xF (fConv .i64) [v4] fun v5 =>xF fMove [a0] fun v6 =>xF (fBin .shr .no) [v6, .int .u64 3] fun v7 =>xF (fBin .and .no) [v7, .int .u64 1048575] fun v8 =>xF (fConv .i64) [v8] fun v9 =>xF fMove [a0] fun v10 =>xF (fBin .shr .no) [v10, .int .u64 23] fun v11 =>xF (fBin .and .no) [v11, .int .u64 65535] fun v12 =>xF (fConv .i64) [v12] fun v13 =>xF fMove [a0] fun v14 =>xF (fBin .shr .no) [v14, .int .u64 39] fun v15 =>xF (fBin .and .no) [v15, .int .u64 4194303] fun v16 =>xF (fConv .i64) [v16] fun v17 =>xF (fBuild [(0, 1), (1, 1), (2, 1), (3, 1)] [.int .i64 0, .int .i64 0, .int .i64 0, .int .i64 0] [0, 1, 2, 3]) [v5, v9, v13, v17] fun v18 =>xC (gStore 4 [(locP 2), v18] c2) fun c2 =>xO (gLoad 4 true [(locP 2)] c2) fun r2 =>K r2 σ) else False
def s_co : Spec := fun args K σ => match args with
  | [a0] => w_co a0 K σ
  | _ => False
noncomputable def cx_co : Cx := { P := Try.prog, T := [], loc := [(2, 2)], eqt := [], n := 19, keep := [] }
theorem q_co : FnS cx_co Try.f67 (bodyOf Try.f67) 1 = s_co := by
  funext args K σ
  rcases args with _ | ⟨a0, _ | ⟨b, r⟩⟩ <;> kernel_rfl
theorem e_co : Entry Try.prog 67 .none s_co :=
  entry (C := cx_co) TOk.nil mixedOk Try.func67 (by kernel_rfl) (by kernel_rfl) (by kernel_rfl) q_co
def xl_co : List (Nat × Nat) := [(2, 2)]
noncomputable def xc_co : XC XN :=
(.seq none
 (.reg [zy xl_co (.la 2 [.int .i64 0, .int .i64 0, .int .i64 0, .int .i64 0]) 2 []])
 (.seq none
 (.reg [zM 3 0,
  zy xl_co (.band .no) 4 [.tmp 3, .const (.int .u64 7)],
  zz (.f (fConv .i64)) (rConv .i64) (some 5) [.tmp 4],
  zM 6 0,
  zy xl_co (.f (fBin .shr .no)) 7 [.tmp 6, .const (.int .u64 3)],
  zy xl_co (.band .no) 8 [.tmp 7, .const (.int .u64 1048575)],
  zz (.f (fConv .i64)) (rConv .i64) (some 9) [.tmp 8],
  zM 10 0,
  zy xl_co (.f (fBin .shr .no)) 11 [.tmp 10, .const (.int .u64 23)],
  zy xl_co (.band .no) 12 [.tmp 11, .const (.int .u64 65535)],
  zz (.f (fConv .i64)) (rConv .i64) (some 13) [.tmp 12],
  zM 14 0,
  zy xl_co (.f (fBin .shr .no)) 15 [.tmp 14, .const (.int .u64 39)],
  zy xl_co (.band .no) 16 [.tmp 15, .const (.int .u64 4194303)],
  zz (.f (fConv .i64)) (rConv .i64) (some 17) [.tmp 16],
  zy xl_co (.f (fBuild [(0, 1), (1, 1), (2, 1), (3, 1)] [.int .i64 0, .int .i64 0, .int .i64 0, .int .i64 0] [0, 1, 2, 3])) 18 [.tmp 5, .tmp 9, .tmp 13, .tmp 17],
  zY xl_co (.ls 2 4) [.tmp 2, .tmp 18]])
 .ret))
noncomputable def v_co : EvF := evFn 1 xc_co [.c 2 2 4 true]
theorem xt_co : toC cx_co (bodyOf Try.f67) = some (xc_co.map XN.sm) := by kernel_rfl
theorem xr_co : toR cx_co Try.f67.results.toList = some [.c 2 2 4 true] := by kernel_rfl
theorem xo_co : xc_co.ok xl_co := ⟨⟨r_a (trivial), trivial⟩, ⟨⟨r_m, r_a (trivial), r_v _, r_m, r_a (eqv_bin _ _), r_a (trivial), r_v _, r_m, r_a (eqv_bin _ _), r_a (trivial), r_v _, r_m, r_a (eqv_bin _ _), r_a (trivial), r_v _, r_a (eqv_build _ rfl _), r_a (trivial), trivial⟩, trivial⟩⟩
theorem ve_co : EvOk s_co v_co := EvOk.of (evFn_sound (C := cx_co) xt_co xr_co xo_co) q_co
attribute [irreducible] w_co s_co
def w_b4 (a0 : Value) (K : Value → Mem → Prop) (σ : Mem) : Prop :=xF fMove [.pointer none] fun v2 =>xF fMove [a0] fun v3 =>xF (fBuild [(0, 1), (1, 1), (2, 1), (3, 1), (4, 1), (5, 2), (7, 1)] [.int .i64 0, .int .i64 0, .int .u64 0, .int .i64 0, .int .u64 0, .int .i64 0, .int .i64 0, .bool false] [0]) [v3] fun v4 =>hBox 8 [v4] (fun v5 σ =>xF fMove [v5] fun v2 =>K v2 σ) σ
def s_b4 : Spec := fun args K σ => match args with
  | [a0] => w_b4 a0 K σ
  | _ => False
noncomputable def cx_b4 : Cx := { P := Try.prog, T := [], loc := [], eqt := [], n := 6, keep := [] }
theorem q_b4 : FnS cx_b4 Try.f68 (bodyOf Try.f68) 1 = s_b4 := by
  funext args K σ
  rcases args with _ | ⟨a0, _ | ⟨b, r⟩⟩ <;> kernel_rfl
theorem e_b4 : Entry Try.prog 68 .write s_b4 :=
  entry (C := cx_b4) TOk.nil mixedOk Try.func68 (by kernel_rfl) (by kernel_rfl) (by kernel_rfl) q_b4
def xl_b4 : List (Nat × Nat) := []
noncomputable def xc_b4 : XC XN :=
(.seq none
 (.reg [zc 2 (.pointer none)])
 (.seq none
 (.reg [zM 3 0,
  zy xl_b4 (.f (fBuild [(0, 1), (1, 1), (2, 1), (3, 1), (4, 1), (5, 2), (7, 1)] [.int .i64 0, .int .i64 0, .int .u64 0, .int .i64 0, .int .u64 0, .int .i64 0, .int .i64 0, .bool false] [0])) 4 [.tmp 3],
  zy xl_b4 (.box 8) 5 [.tmp 4],
  zM 2 5])
 .ret))
noncomputable def v_b4 : EvF := evFn 1 xc_b4 [.t 2]
theorem xt_b4 : toC cx_b4 (bodyOf Try.f68) = some (xc_b4.map XN.sm) := by kernel_rfl
theorem xr_b4 : toR cx_b4 Try.f68.results.toList = some [.t 2] := by kernel_rfl
theorem xo_b4 : xc_b4.ok xl_b4 := ⟨⟨r_m, trivial⟩, ⟨⟨r_m, r_a (eqv_build _ rfl _), r_a (trivial), r_m, trivial⟩, trivial⟩⟩
theorem ve_b4 : EvOk s_b4 v_b4 := EvOk.of (evFn_sound (C := cx_b4) xt_b4 xr_b4 xo_b4) q_b4
attribute [irreducible] w_b4 s_b4
def w_bm (a0 : Value) (K : Value → Mem → Prop) (σ : Mem) : Prop :=xF fMove [.int .i64 0] fun v2 =>xF fMove [a0] fun v3 =>xF (fBin .add .no) [.int .i64 2, v3] fun v4 =>xF fMove [v4] fun v2 =>K v2 σ
def s_bm : Spec := fun args K σ => match args with
  | [a0] => w_bm a0 K σ
  | _ => False
noncomputable def cx_bm : Cx := { P := Try.prog, T := [], loc := [], eqt := [], n := 5, keep := [] }
theorem q_bm : FnS cx_bm Try.f80 (bodyOf Try.f80) 1 = s_bm := by
  funext args K σ
  rcases args with _ | ⟨a0, _ | ⟨b, r⟩⟩ <;> kernel_rfl
theorem e_bm : Entry Try.prog 80 .none s_bm :=
  entry (C := cx_bm) TOk.nil mixedOk Try.func80 (by kernel_rfl) (by kernel_rfl) (by kernel_rfl) q_bm
def xl_bm : List (Nat × Nat) := []
noncomputable def xc_bm : XC XN :=
(.seq none
 (.reg [zc 2 (.int .i64 0)])
 (.seq none
 (.reg [zM 3 0,
  zb .add rAdd 4 [.const (.int .i64 2), .tmp 3],
  zM 2 4])
 .ret))
noncomputable def v_bm : EvF := evFn 1 xc_bm [.t 2]
theorem xt_bm : toC cx_bm (bodyOf Try.f80) = some (xc_bm.map XN.sm) := by kernel_rfl
theorem xr_bm : toR cx_bm Try.f80.results.toList = some [.t 2] := by kernel_rfl
theorem xo_bm : xc_bm.ok xl_bm := ⟨⟨r_m, trivial⟩, ⟨⟨r_m, r_d, r_m, trivial⟩, trivial⟩⟩
theorem ve_bm : EvOk s_bm v_bm := EvOk.of (evFn_sound (C := cx_bm) xt_bm xr_bm xo_bm) q_bm
attribute [irreducible] w_bm s_bm
def w_bb (a0 a1 : Value) (K : Value → Mem → Prop) (σ : Mem) : Prop :=xC (gBox 7 [a0] []) fun c2 =>xF fMove [.int .i64 0] fun v4 =>xF (fFld 0) [(locP 2)] fun v5 =>xO (gLoad 1 false [v5] c2) fun v6 =>xF (fBin .add .no) [.int .i64 6, v6] fun v7 =>xF (fFld 1) [(locP 2)] fun v8 =>xO (gLoad 1 false [v8] c2) fun v9 =>xF (fBin .mul .no) [.int .i64 2, v9] fun v10 =>xF (fBin .add .no) [v7, v10] fun v11 =>xF fMove [a1] fun v12 =>xF (fBin .mul .no) [.int .i64 3, v12] fun v13 =>xF (fBin .add .no) [v11, v13] fun v14 =>xF fMove [v14] fun v4 =>K v4 σ
def s_bb : Spec := fun args K σ => match args with
  | [a0, a1] => w_bb a0 a1 K σ
  | _ => False
noncomputable def cx_bb : Cx := { P := Try.prog, T := [], loc := [(2, 2), (5, 2), (8, 2)], eqt := [], n := 15, keep := [] }
theorem q_bb : FnS cx_bb Try.f73 (bodyOf Try.f73) 2 = s_bb := by
  funext args K σ
  rcases args with _ | ⟨a0, _ | ⟨a1, _ | ⟨b, r⟩⟩⟩ <;> kernel_rfl
theorem e_bb : Entry Try.prog 73 .none s_bb :=
  entry (C := cx_bb) TOk.nil mixedOk Try.func73 (by kernel_rfl) (by kernel_rfl) (by kernel_rfl) q_bb
def xl_bb : List (Nat × Nat) := [(2, 2), (5, 2), (8, 2)]
noncomputable def xc_bb : XC XN :=
(.seq none
 (.reg [zy xl_bb (.lb 2 7) 2 [.tmp 0],
  zc 4 (.int .i64 0)])
 (.seq none
 (.reg [zF 0 5 2,
  zr 2 6 5,
  zb .add rAdd 7 [.const (.int .i64 6), .tmp 6],
  zF 1 8 2,
  zr 2 9 8,
  zb .mul rMul 10 [.const (.int .i64 2), .tmp 9],
  zb .add rAdd 11 [.tmp 7, .tmp 10],
  zM 12 1,
  zb .mul rMul 13 [.const (.int .i64 3), .tmp 12],
  zb .add rAdd 14 [.tmp 11, .tmp 13],
  zM 4 14])
 .ret))
noncomputable def v_bb : EvF := evFn 2 xc_bb [.t 4]
theorem xt_bb : toC cx_bb (bodyOf Try.f73) = some (xc_bb.map XN.sm) := by kernel_rfl
theorem xr_bb : toR cx_bb Try.f73.results.toList = some [.t 4] := by kernel_rfl
theorem xo_bb : xc_bb.ok xl_bb := ⟨⟨r_a (trivial), r_m, trivial⟩, ⟨⟨r_f _, r_r _, r_d, r_f _, r_r _, rMul_ok, r_d, r_m, rMul_ok, r_d, r_m, trivial⟩, trivial⟩⟩
theorem ve_bb : EvOk s_bb v_bb := EvOk.of (evFn_sound (C := cx_bb) xt_bb xr_bb xo_bb) q_bb
attribute [irreducible] w_bb s_bb
def w_cf (a0 : Value) (K : Value → Mem → Prop) (σ : Mem) : Prop :=if true = true then (xC (gAlloc [.int .i64 0, .int .i64 0, .int .i64 0, .int .i64 0] [] []) fun c2 =>xF fMove [a0] fun v3 =>xF (fBin .and .no) [v3, .int .u64 3] fun v4 =>xF (fConv .i64) [v4] fun v5 =>xF fMove [a0] fun v6 =>xF (fBin .shr .no) [v6, .int .u64 2] fun v7 =>xF (fBin .and .no) [v7, .int .u64 63] fun v8 =>xF (fConv .i64) [v8] fun v9 =>xF fMove [a0] fun v10 =>xF (fBin .shr .no) [v10, .int .u64 8] fun v11 =>xF (fBin .and .no) [v11, .int .u64 1048575] fun v12 =>xF (fConv .i64) [v12] fun v13 =>xF fMove [a0] fun v14 =>xF (fBin .shr .no) [v14, .int .u64 28] fun v15 =>xF (fBin .and .no) [v15, .int .u64 68719476735] fun v16 =>xF (fConv .i64) [v16] fun v17 =>xF (fBuild [(0, 1), (1, 1), (2, 1), (3, 1)] [.int .i64 0, .int .i64 0, .int .i64 0, .int .i64 0] [0, 1, 2, 3]) [v5, v9, v13, v17] fun v18 =>xC (gStore 4 [(locP 2), v18] c2) fun c2 =>xO (gLoad 4 true [(locP 2)] c2) fun r2 =>K r2 σ) else False
def s_cf : Spec := fun args K σ => match args with
  | [a0] => w_cf a0 K σ
  | _ => False
noncomputable def cx_cf : Cx := { P := Try.prog, T := [], loc := [(2, 2)], eqt := [], n := 19, keep := [] }
theorem q_cf : FnS cx_cf Try.f81 (bodyOf Try.f81) 1 = s_cf := by
  funext args K σ
  rcases args with _ | ⟨a0, _ | ⟨b, r⟩⟩ <;> kernel_rfl
theorem e_cf : Entry Try.prog 81 .none s_cf :=
  entry (C := cx_cf) TOk.nil mixedOk Try.func81 (by kernel_rfl) (by kernel_rfl) (by kernel_rfl) q_cf
def xl_cf : List (Nat × Nat) := [(2, 2)]
noncomputable def xc_cf : XC XN :=
(.seq none
 (.reg [zy xl_cf (.la 2 [.int .i64 0, .int .i64 0, .int .i64 0, .int .i64 0]) 2 []])
 (.seq none
 (.reg [zM 3 0,
  zy xl_cf (.band .no) 4 [.tmp 3, .const (.int .u64 3)],
  zz (.f (fConv .i64)) (rConv .i64) (some 5) [.tmp 4],
  zM 6 0,
  zy xl_cf (.f (fBin .shr .no)) 7 [.tmp 6, .const (.int .u64 2)],
  zy xl_cf (.band .no) 8 [.tmp 7, .const (.int .u64 63)],
  zz (.f (fConv .i64)) (rConv .i64) (some 9) [.tmp 8],
  zM 10 0,
  zy xl_cf (.f (fBin .shr .no)) 11 [.tmp 10, .const (.int .u64 8)],
  zy xl_cf (.band .no) 12 [.tmp 11, .const (.int .u64 1048575)],
  zz (.f (fConv .i64)) (rConv .i64) (some 13) [.tmp 12],
  zM 14 0,
  zy xl_cf (.f (fBin .shr .no)) 15 [.tmp 14, .const (.int .u64 28)],
  zy xl_cf (.band .no) 16 [.tmp 15, .const (.int .u64 68719476735)],
  zz (.f (fConv .i64)) (rConv .i64) (some 17) [.tmp 16],
  zy xl_cf (.f (fBuild [(0, 1), (1, 1), (2, 1), (3, 1)] [.int .i64 0, .int .i64 0, .int .i64 0, .int .i64 0] [0, 1, 2, 3])) 18 [.tmp 5, .tmp 9, .tmp 13, .tmp 17],
  zY xl_cf (.ls 2 4) [.tmp 2, .tmp 18]])
 .ret))
noncomputable def v_cf : EvF := evFn 1 xc_cf [.c 2 2 4 true]
theorem xt_cf : toC cx_cf (bodyOf Try.f81) = some (xc_cf.map XN.sm) := by kernel_rfl
theorem xr_cf : toR cx_cf Try.f81.results.toList = some [.c 2 2 4 true] := by kernel_rfl
theorem xo_cf : xc_cf.ok xl_cf := ⟨⟨r_a (trivial), trivial⟩, ⟨⟨r_m, r_a (trivial), r_v _, r_m, r_a (eqv_bin _ _), r_a (trivial), r_v _, r_m, r_a (eqv_bin _ _), r_a (trivial), r_v _, r_m, r_a (eqv_bin _ _), r_a (trivial), r_v _, r_a (eqv_build _ rfl _), r_a (trivial), trivial⟩, trivial⟩⟩
theorem ve_cf : EvOk s_cf v_cf := EvOk.of (evFn_sound (C := cx_cf) xt_cf xr_cf xo_cf) q_cf
attribute [irreducible] w_cf s_cf
def w_bo (a0 : Value) (K : Value → Mem → Prop) (σ : Mem) : Prop :=xF fMove [.int .i64 0] fun v2 =>xF fMove [a0] fun v3 =>xF (fBin .shl .no) [.int .i64 2, v3] fun v4 =>xF (fBin .add .no) [.int .i64 1, v4] fun v5 =>xF fMove [v5] fun v2 =>K v2 σ
def s_bo : Spec := fun args K σ => match args with
  | [a0] => w_bo a0 K σ
  | _ => False
noncomputable def cx_bo : Cx := { P := Try.prog, T := [], loc := [], eqt := [], n := 6, keep := [] }
theorem q_bo : FnS cx_bo Try.f74 (bodyOf Try.f74) 1 = s_bo := by
  funext args K σ
  rcases args with _ | ⟨a0, _ | ⟨b, r⟩⟩ <;> kernel_rfl
theorem e_bo : Entry Try.prog 74 .none s_bo :=
  entry (C := cx_bo) TOk.nil mixedOk Try.func74 (by kernel_rfl) (by kernel_rfl) (by kernel_rfl) q_bo
def xl_bo : List (Nat × Nat) := []
noncomputable def xc_bo : XC XN :=
(.seq none
 (.reg [zc 2 (.int .i64 0)])
 (.seq none
 (.reg [zM 3 0,
  zy xl_bo (.f (fBin .shl .no)) 4 [.const (.int .i64 2), .tmp 3],
  zb .add rAdd 5 [.const (.int .i64 1), .tmp 4],
  zM 2 5])
 .ret))
noncomputable def v_bo : EvF := evFn 1 xc_bo [.t 2]
theorem xt_bo : toC cx_bo (bodyOf Try.f74) = some (xc_bo.map XN.sm) := by kernel_rfl
theorem xr_bo : toR cx_bo Try.f74.results.toList = some [.t 2] := by kernel_rfl
theorem xo_bo : xc_bo.ok xl_bo := ⟨⟨r_m, trivial⟩, ⟨⟨r_m, r_a (eqv_bin _ _), r_d, r_m, trivial⟩, trivial⟩⟩
theorem ve_bo : EvOk s_bo v_bo := EvOk.of (evFn_sound (C := cx_bo) xt_bo xr_bo xo_bo) q_bo
attribute [irreducible] w_bo s_bo
def w_cj (a0 : Value) (K : Value → Mem → Prop) (σ : Mem) : Prop :=xC (gBox 4 [a0] []) fun c1 =>xF fMove [.int .u64 0] fun v2 =>xF (fFld 0) [(locP 1)] fun v3 =>xO (gLoad 1 false [v3] c1) fun v4 =>s_cq [v4, .int .i64 3] (fun v5 σ =>xF (fFld 1) [(locP 1)] fun v6 =>xO (gLoad 1 false [v6] c1) fun v7 =>s_cq [v7, .int .i64 63] (fun v8 σ =>xF (fBin .shl .no) [v8, .int .u64 2] fun v9 =>xF (fBin .or .no) [v5, v9] fun v10 =>xF (fFld 2) [(locP 1)] fun v11 =>xO (gLoad 1 false [v11] c1) fun v12 =>s_cq [v12, .int .i64 1048575] (fun v13 σ =>xF (fBin .shl .no) [v13, .int .u64 8] fun v14 =>xF (fBin .or .no) [v10, v14] fun v15 =>xF (fFld 3) [(locP 1)] fun v16 =>xO (gLoad 1 false [v16] c1) fun v17 =>s_cq [v17, .int .i64 68719476735] (fun v18 σ =>xF (fBin .shl .no) [v18, .int .u64 28] fun v19 =>xF (fBin .or .no) [v15, v19] fun v20 =>xF fMove [v20] fun v2 =>K v2 σ) σ) σ) σ) σ
def s_cj : Spec := fun args K σ => match args with
  | [a0] => w_cj a0 K σ
  | _ => False
noncomputable def cx_cj : Cx := { P := Try.prog, T := [(43, .none, s_cq)], loc := [(1, 1), (3, 1), (6, 1), (11, 1), (16, 1)], eqt := [], n := 21, keep := [] }
theorem q_cj : FnS cx_cj Try.f85 (bodyOf Try.f85) 1 = s_cj := by
  funext args K σ
  rcases args with _ | ⟨a0, _ | ⟨b, r⟩⟩ <;> kernel_rfl
theorem e_cj : Entry Try.prog 85 .none s_cj :=
  entry (C := cx_cj) (TOk.cons e_cq TOk.nil) mixedOk Try.func85 (by kernel_rfl) (by kernel_rfl) (by kernel_rfl) q_cj
def xl_cj : List (Nat × Nat) := [(1, 1), (3, 1), (6, 1), (11, 1), (16, 1)]
noncomputable def xc_cj : XC XN :=
(.seq none
 (.reg [zy xl_cj (.lb 1 4) 1 [.tmp 0],
  zc 2 (.int .u64 0)])
 (.seq none
 (.reg [zF 0 3 1,
  zr 1 4 3,
  zk .none s_cq v_cq 5 [.tmp 4, .const (.int .i64 3)],
  zF 1 6 1,
  zr 1 7 6,
  zk .none s_cq v_cq 8 [.tmp 7, .const (.int .i64 63)],
  zy xl_cj (.f (fBin .shl .no)) 9 [.tmp 8, .const (.int .u64 2)],
  zy xl_cj (.f (fBin .or .no)) 10 [.tmp 5, .tmp 9],
  zF 2 11 1,
  zr 1 12 11,
  zk .none s_cq v_cq 13 [.tmp 12, .const (.int .i64 1048575)],
  zy xl_cj (.f (fBin .shl .no)) 14 [.tmp 13, .const (.int .u64 8)],
  zy xl_cj (.f (fBin .or .no)) 15 [.tmp 10, .tmp 14],
  zF 3 16 1,
  zr 1 17 16,
  zk .none s_cq v_cq 18 [.tmp 17, .const (.int .i64 68719476735)],
  zy xl_cj (.f (fBin .shl .no)) 19 [.tmp 18, .const (.int .u64 28)],
  zy xl_cj (.f (fBin .or .no)) 20 [.tmp 15, .tmp 19],
  zM 2 20])
 .ret))
noncomputable def v_cj : EvF := evFn 1 xc_cj [.t 2]
theorem xt_cj : toC cx_cj (bodyOf Try.f85) = some (xc_cj.map XN.sm) := by kernel_rfl
theorem xr_cj : toR cx_cj Try.f85.results.toList = some [.t 2] := by kernel_rfl
theorem xo_cj : xc_cj.ok xl_cj := ⟨⟨r_a (trivial), r_m, trivial⟩, ⟨⟨r_f _, r_r _, r_c ve_cq, r_f _, r_r _, r_c ve_cq, r_a (eqv_bin _ _), r_a (eqv_bin _ _), r_f _, r_r _, r_c ve_cq, r_a (eqv_bin _ _), r_a (eqv_bin _ _), r_f _, r_r _, r_c ve_cq, r_a (eqv_bin _ _), r_a (eqv_bin _ _), r_m, trivial⟩, trivial⟩⟩
theorem ve_cj : EvOk s_cj v_cj := EvOk.of (evFn_sound (C := cx_cj) xt_cj xr_cj xo_cj) q_cj
attribute [irreducible] w_cj s_cj
def w_b8 (a0 a1 : Value) (K : Value → Mem → Prop) (σ : Mem) : Prop :=xC (gBox 9 [a1] []) fun c3 =>xF fMove [.bool false] fun v4 =>xF fMove [a0] fun v7 =>xF fNil [v7] fun v8 =>xF (fFld 4) [v8] fun v9 =>hLoad 1 false [v9] (fun v10 σ =>s_cf [v10] (fun v11 σ =>xC (gStore 4 [(locP 5), v11] [.int .i64 0, .int .i64 0, .int .i64 0, .int .i64 0]) fun c5 =>xF (fFld 2) [(locP 5)] fun v12 =>xO (gLoad 1 false [v12] c5) fun v13 =>xF fMove [v13] fun v6 =>xF (fFld 2) [(locP 5)] fun v14 =>xO (gLoad 1 false [v14] c5) fun v15 =>xF fMove [a0] fun v16 =>xF fNil [v16] fun v17 =>xF (fFld 0) [v17] fun v18 =>hLoad 1 false [v18] (fun v19 σ =>s_bo [v19] (fun v20 σ =>xF (fBin .add .no) [v15, v20] fun v21 =>xF (fFld 2) [(locP 5)] fun v22 =>xC (gStore 1 [v22, v21] c5) fun c5 =>xF fMove [a0] fun v23 =>xF fNil [v23] fun v24 =>xF (fFld 1) [v24] fun v25 =>hStore 1 [v25, .int .i64 0] (fun _v σ =>xO (gLoad 9 true [(locP 3)] c3) fun v26 =>xF (fFld 0) [(locP 3)] fun v27 =>xO (gLoad 7 true [v27] c3) fun v28 =>xF fMove [a0] fun v29 =>xF fNil [v29] fun v30 =>xF (fFld 3) [v30] fun v31 =>hLoad 1 false [v31] (fun v32 σ =>s_bb [v28, v32] (fun v33 σ =>xF fMove [a0] fun v34 =>xF fNil [v34] fun v35 =>xF (fFld 4) [v35] fun v36 =>hLoad 1 false [v36] (fun v37 σ =>xO (gLoad 4 true [(locP 5)] c5) fun v38 =>s_cj [v38] (fun v39 σ =>s_be [v26, v33, v37, v39] (fun v40 σ =>xF (fUn .not) [v40] fun v41 =>xIf v41
 (xF fMove [.bool false] fun v4 =>K v4 σ)
 (xF fMove [a0] fun v42 =>xF fMove [a0] fun v43 =>xF (fFld 0) [(locP 3)] fun v44 =>xO (gLoad 7 true [v44] c3) fun v45 =>xF fMove [a0] fun v46 =>xF fNil [v46] fun v47 =>xF (fFld 3) [v47] fun v48 =>hLoad 1 false [v48] (fun v49 σ =>s_a9 [v45, v49] (fun v50 σ =>xF fMove [v6] fun v51 =>xF (fBin .add .no) [v50, v51] fun v52 =>xF fMove [a0] fun v53 =>xF fNil [v53] fun v54 =>xF (fFld 3) [v54] fun v55 =>hLoad 1 false [v55] (fun v56 σ =>xF (fBuild [(0, 1), (1, 1)] [.int .i64 0, .int .i64 0] [0, 1]) [v52, v56] fun v57 =>xF fNil [v42] fun v58 =>xF (fFld 5) [v58] fun v59 =>hStore 2 [v59, v57] (fun _v σ =>xF fNil [v43] fun v60 =>xF (fFld 7) [v60] fun v61 =>hStore 1 [v61, .bool true] (fun _v σ =>xF fMove [.bool true] fun v4 =>K v4 σ) σ) σ) σ) σ) σ)) σ) σ) σ) σ) σ) σ) σ) σ) σ) σ
def s_b8 : Spec := fun args K σ => match args with
  | [a0, a1] => w_b8 a0 a1 K σ
  | _ => False
noncomputable def cx_b8 : Cx := { P := Try.prog, T := [(81, .none, s_cf), (74, .none, s_bo), (73, .none, s_bb), (85, .none, s_cj), (79, .write, s_be), (40, .none, s_a9)], loc := [(3, 3), (5, 5), (12, 5), (14, 5), (22, 5), (27, 3), (44, 3)], eqt := [], n := 62, keep := [] }
theorem q_b8 : FnS cx_b8 Try.f82 (bodyOf Try.f82) 2 = s_b8 := by
  funext args K σ
  rcases args with _ | ⟨a0, _ | ⟨a1, _ | ⟨b, r⟩⟩⟩ <;> kernel_rfl
theorem e_b8 : Entry Try.prog 82 .write s_b8 :=
  entry (C := cx_b8) (TOk.cons e_cf (TOk.cons e_bo (TOk.cons e_bb (TOk.cons e_cj (TOk.cons e_be (TOk.cons e_a9 TOk.nil)))))) mixedOk Try.func82 (by kernel_rfl) (by kernel_rfl) (by kernel_rfl) q_b8
def xl_b8 : List (Nat × Nat) := [(3, 3), (5, 5), (12, 5), (14, 5), (22, 5), (27, 3), (44, 3)]
noncomputable def xc_b8 : XC XN :=
(.seq none
 (.reg [zy xl_b8 (.lb 3 9) 3 [.tmp 1],
  zc 4 (.bool false)])
 (.seq none
 (.reg [zM 7 0,
  zN 8 7,
  zF 4 9 8,
  zL 10 9,
  zk .none s_cf v_cf 11 [.tmp 10],
  zy xl_b8 (.la 5 [.int .i64 0, .int .i64 0, .int .i64 0, .int .i64 0]) 5 [],
  zY xl_b8 (.ls 5 4) [.tmp 5, .tmp 11]])
 (.seq none
 (.reg [zF 2 12 5,
  zr 5 13 12,
  zM 6 13])
 (.seq none
 (.reg [zF 2 14 5,
  zr 5 15 14,
  zM 16 0,
  zN 17 16,
  zF 0 18 17,
  zL 19 18,
  zk .none s_bo v_bo 20 [.tmp 19],
  zb .add rAdd 21 [.tmp 15, .tmp 20],
  zF 2 22 5,
  zz (.ls 5 1) (rLs1 5) none [.tmp 22, .tmp 21]])
 (.seq none
 (.reg [zM 23 0,
  zN 24 23,
  zF 1 25 24,
  zS [.tmp 25, .const (.int .i64 0)]])
 (.seq none
 (.seq none
 (.reg [zy xl_b8 (.lr 3 9 true) 26 [.tmp 3],
  zF 0 27 3,
  zy xl_b8 (.lr 3 7 true) 28 [.tmp 27],
  zM 29 0,
  zN 30 29,
  zF 3 31 30,
  zL 32 31,
  zk .none s_bb v_bb 33 [.tmp 28, .tmp 32],
  zM 34 0,
  zN 35 34,
  zF 4 36 35,
  zL 37 36,
  zy xl_b8 (.lr 5 4 true) 38 [.tmp 5],
  zk .none s_cj v_cj 39 [.tmp 38],
  zk .write s_be v_be 40 [.tmp 26, .tmp 33, .tmp 37, .tmp 39],
  zz (.f (fUn .not)) rNot (some 41) [.tmp 40]])
 (.cond (.tmp 41)
 (.seq none
 (.reg [zc 4 (.bool false)])
 .ret)
 .skip))
 (.seq none
 (.reg [zM 42 0,
  zM 43 0,
  zF 0 44 3,
  zy xl_b8 (.lr 3 7 true) 45 [.tmp 44],
  zM 46 0,
  zN 47 46,
  zF 3 48 47,
  zL 49 48,
  zk .none s_a9 v_a9 50 [.tmp 45, .tmp 49],
  zM 51 6,
  zb .add rAdd 52 [.tmp 50, .tmp 51],
  zM 53 0,
  zN 54 53,
  zF 3 55 54,
  zL 56 55,
  zy xl_b8 (.f (fBuild [(0, 1), (1, 1)] [.int .i64 0, .int .i64 0] [0, 1])) 57 [.tmp 52, .tmp 56],
  zN 58 42,
  zF 5 59 58,
  zY xl_b8 (.store 2) [.tmp 59, .tmp 57],
  zN 60 43,
  zF 7 61 60,
  zS [.tmp 61, .const (.bool true)]])
 (.seq none
 (.reg [zc 4 (.bool true)])
 .ret))))))))
noncomputable def v_b8 : EvF := evFn 2 xc_b8 [.t 4]
theorem xt_b8 : toC cx_b8 (bodyOf Try.f82) = some (xc_b8.map XN.sm) := by kernel_rfl
theorem xr_b8 : toR cx_b8 Try.f82.results.toList = some [.t 4] := by kernel_rfl
theorem xo_b8 : xc_b8.ok xl_b8 := ⟨⟨r_a (trivial), r_m, trivial⟩, ⟨⟨r_m, r_n, r_f _, r_l, r_c ve_cf, r_a (trivial), r_a (trivial), trivial⟩, ⟨⟨r_f _, r_r _, r_m, trivial⟩, ⟨⟨r_f _, r_r _, r_m, r_n, r_f _, r_l, r_c ve_bo, r_d, r_f _, rLs1_ok _, trivial⟩, ⟨⟨r_m, r_n, r_f _, r_s, trivial⟩, ⟨⟨⟨r_a (trivial), r_f _, r_a (trivial), r_m, r_n, r_f _, r_l, r_c ve_bb, r_m, r_n, r_f _, r_l, r_a (trivial), r_c ve_cj, r_c ve_be, r_t, trivial⟩, ⟨⟨⟨r_m, trivial⟩, trivial⟩, trivial⟩⟩, ⟨⟨r_m, r_m, r_f _, r_a (trivial), r_m, r_n, r_f _, r_l, r_c ve_a9, r_m, r_d, r_m, r_n, r_f _, r_l, r_a (eqv_build _ rfl _), r_n, r_f _, r_a (trivial), r_n, r_f _, r_s, trivial⟩, ⟨⟨r_m, trivial⟩, trivial⟩⟩⟩⟩⟩⟩⟩⟩
theorem ve_b8 : EvOk s_b8 v_b8 := EvOk.of (evFn_sound (C := cx_b8) xt_b8 xr_b8 xo_b8) q_b8
attribute [irreducible] w_b8 s_b8
def w_b9 (a0 a1 : Value) (K : Value → Mem → Prop) (σ : Mem) : Prop :=xC (gBox 9 [a1] []) fun c3 =>xF fMove [.bool false] fun v4 =>xF fMove [a0] fun v5 =>xF fMove [a0] fun v6 =>xF fMove [a0] fun v7 =>xF fNil [v7] fun v8 =>xF (fFld 3) [v8] fun v9 =>hLoad 1 false [v9] (fun v10 σ =>xF (fBin .add .no) [v10, .int .i64 1] fun v11 =>xF fNil [v5] fun v12 =>xF (fFld 3) [v12] fun v13 =>hStore 1 [v13, v11] (fun _v σ =>xF fNil [v6] fun v14 =>xF (fFld 1) [v14] fun v15 =>hStore 1 [v15, .int .i64 3] (fun _v σ =>xF fMove [a0] fun v16 =>xF fNil [v16] fun v17 =>xF (fFld 3) [v17] fun v18 =>hLoad 1 false [v18] (fun v19 σ =>xF (fFld 0) [(locP 3)] fun v20 =>xF (fFld 2) [v20] fun v21 =>xO (gLoad 1 false [v21] c3) fun v22 =>xF (fBin .geq .no) [v19, v22] fun v23 =>xF fMove [v23] fun v4 =>K v4 σ) σ) σ) σ) σ
def s_b9 : Spec := fun args K σ => match args with
  | [a0, a1] => w_b9 a0 a1 K σ
  | _ => False
noncomputable def cx_b9 : Cx := { P := Try.prog, T := [], loc := [(3, 3), (20, 3), (21, 3)], eqt := [], n := 24, keep := [] }
theorem q_b9 : FnS cx_b9 Try.f83 (bodyOf Try.f83) 2 = s_b9 := by
  funext args K σ
  rcases args with _ | ⟨a0, _ | ⟨a1, _ | ⟨b, r⟩⟩⟩ <;> kernel_rfl
theorem e_b9 : Entry Try.prog 83 .write s_b9 :=
  entry (C := cx_b9) TOk.nil mixedOk Try.func83 (by kernel_rfl) (by kernel_rfl) (by kernel_rfl) q_b9
def xl_b9 : List (Nat × Nat) := [(3, 3), (20, 3), (21, 3)]
noncomputable def xc_b9 : XC XN :=
(.seq none
 (.reg [zy xl_b9 (.lb 3 9) 3 [.tmp 1],
  zc 4 (.bool false)])
 (.seq none
 (.reg [zM 5 0,
  zM 6 0,
  zM 7 0,
  zN 8 7,
  zF 3 9 8,
  zL 10 9,
  zb .add rAdd 11 [.tmp 10, .const (.int .i64 1)],
  zN 12 5,
  zF 3 13 12,
  zS [.tmp 13, .tmp 11],
  zN 14 6,
  zF 1 15 14,
  zS [.tmp 15, .const (.int .i64 3)]])
 (.seq none
 (.reg [zM 16 0,
  zN 17 16,
  zF 3 18 17,
  zL 19 18,
  zF 0 20 3,
  zF 2 21 20,
  zr 3 22 21,
  zb .geq rGeq 23 [.tmp 19, .tmp 22],
  zM 4 23])
 .ret)))
noncomputable def v_b9 : EvF := evFn 2 xc_b9 [.t 4]
theorem xt_b9 : toC cx_b9 (bodyOf Try.f83) = some (xc_b9.map XN.sm) := by kernel_rfl
theorem xr_b9 : toR cx_b9 Try.f83.results.toList = some [.t 4] := by kernel_rfl
theorem xo_b9 : xc_b9.ok xl_b9 := ⟨⟨r_a (trivial), r_m, trivial⟩, ⟨⟨r_m, r_m, r_m, r_n, r_f _, r_l, r_d, r_n, r_f _, r_s, r_n, r_f _, r_s, trivial⟩, ⟨⟨r_m, r_n, r_f _, r_l, r_f _, r_f _, r_r _, rGeq_ok, r_m, trivial⟩, trivial⟩⟩⟩
theorem ve_b9 : EvOk s_b9 v_b9 := EvOk.of (evFn_sound (C := cx_b9) xt_b9 xr_b9 xo_b9) q_b9
attribute [irreducible] w_b9 s_b9
def w_b7 (a0 : Value) (K : Value → Mem → Prop) (σ : Mem) : Prop :=xF fMove [.int .u64 0] fun v2 =>xF fMove [a0] fun v3 =>xF fNil [v3] fun v4 =>xF (fFld 0) [v4] fun v5 =>hLoad 1 false [v5] (fun v6 σ =>xF fMove [a0] fun v7 =>xF fNil [v7] fun v8 =>xF (fFld 4) [v8] fun v9 =>hLoad 1 false [v9] (fun v10 σ =>s_cf [v10] (fun v11 σ =>xF (fFldV 3 1 false) [v11] fun v12 =>xF (fBin .add .no) [v12, .int .i64 1] fun v13 =>xF (fBuild [(0, 1), (1, 1), (2, 1), (3, 1)] [.int .i64 0, .int .i64 0, .int .i64 0, .int .i64 0] [0, 1, 3]) [.int .i64 1, v6, v13] fun v14 =>s_cj [v14] (fun v15 σ =>xF fMove [v15] fun v2 =>K v2 σ) σ) σ) σ) σ
def s_b7 : Spec := fun args K σ => match args with
  | [a0] => w_b7 a0 K σ
  | _ => False
noncomputable def cx_b7 : Cx := { P := Try.prog, T := [(81, .none, s_cf), (85, .none, s_cj)], loc := [], eqt := [], n := 16, keep := [] }
theorem q_b7 : FnS cx_b7 Try.f84 (bodyOf Try.f84) 1 = s_b7 := by
  funext args K σ
  rcases args with _ | ⟨a0, _ | ⟨b, r⟩⟩ <;> kernel_rfl
theorem e_b7 : Entry Try.prog 84 .read s_b7 :=
  entry (C := cx_b7) (TOk.cons e_cf (TOk.cons e_cj TOk.nil)) mixedOk Try.func84 (by kernel_rfl) (by kernel_rfl) (by kernel_rfl) q_b7
def xl_b7 : List (Nat × Nat) := []
noncomputable def xc_b7 : XC XN :=
(.seq none
 (.reg [zc 2 (.int .u64 0)])
 (.seq none
 (.reg [zM 3 0,
  zN 4 3,
  zF 0 5 4,
  zL 6 5,
  zM 7 0,
  zN 8 7,
  zF 4 9 8,
  zL 10 9,
  zk .none s_cf v_cf 11 [.tmp 10],
  zy xl_b7 (.f (fFldV 3 1 false)) 12 [.tmp 11],
  zb .add rAdd 13 [.tmp 12, .const (.int .i64 1)],
  zy xl_b7 (.f (fBuild [(0, 1), (1, 1), (2, 1), (3, 1)] [.int .i64 0, .int .i64 0, .int .i64 0, .int .i64 0] [0, 1, 3])) 14 [.const (.int .i64 1), .tmp 6, .tmp 13],
  zk .none s_cj v_cj 15 [.tmp 14],
  zM 2 15])
 .ret))
noncomputable def v_b7 : EvF := evFn 1 xc_b7 [.t 2]
theorem xt_b7 : toC cx_b7 (bodyOf Try.f84) = some (xc_b7.map XN.sm) := by kernel_rfl
theorem xr_b7 : toR cx_b7 Try.f84.results.toList = some [.t 2] := by kernel_rfl
theorem xo_b7 : xc_b7.ok xl_b7 := ⟨⟨r_m, trivial⟩, ⟨⟨r_m, r_n, r_f _, r_l, r_m, r_n, r_f _, r_l, r_c ve_cf, r_a (eqv_fldV _ _ _), r_d, r_a (eqv_build _ rfl _), r_c ve_cj, r_m, trivial⟩, trivial⟩⟩
theorem ve_b7 : EvOk s_b7 v_b7 := EvOk.of (evFn_sound (C := cx_b7) xt_b7 xr_b7 xo_b7) q_b7
attribute [irreducible] w_b7 s_b7
def w_b6_j1b (K : Value → Mem → Prop) (σ : Mem) : Prop :=xF fMove [.bool false] fun v4 =>K v4 σ
def w_b6_j1 (K : Value → Mem → Prop) (ts : List Value) (ls : List (List Value)) (σ : Mem) : Prop := w_b6_j1b K σ
def w_b6_j2b (K : Value → Mem → Prop) (J1 : List Value → List (List Value) → Mem → Prop) (v0 v117 : Value) (σ : Mem) : Prop :=xIf v117
 (xF fMove [v0] fun v118 =>xF fMove [v0] fun v119 =>xF fNil [v118] fun v120 =>xF (fFld 3) [v120] fun v121 =>hStore 1 [v121, .int .i64 0] (fun _v σ =>xF fNil [v119] fun v122 =>xF (fFld 1) [v122] fun v123 =>hStore 1 [v123, .int .i64 3] (fun _v σ =>J1 [] [] σ) σ) σ)
 (J1 [] [] σ)
def w_b6_j2 (K : Value → Mem → Prop) (J1 : List Value → List (List Value) → Mem → Prop) (ts : List Value) (ls : List (List Value)) (σ : Mem) : Prop := w_b6_j2b K J1 (ts.getD 0 poison) (ts.getD 1 poison) σ
def w_b6 (a0 a1 : Value) (K : Value → Mem → Prop) (σ : Mem) : Prop :=xC (gBox 9 [a1] []) fun c3 =>xF fMove [.bool false] fun v4 =>xJoin (w_b6_j1 K) fun J1 =>xF fMove [a0] fun v7 =>xF fNil [v7] fun v8 =>xF (fFld 1) [v8] fun v9 =>hLoad 1 false [v9] (fun v10 σ =>xF (fBin .eql .no) [v10, .int .i64 0] fun v36 =>xF fMove [v36] fun v35 =>xIf v35
 (xF fMove [a0] fun v37 =>xO (gLoad 9 true [(locP 3)] c3) fun v38 =>xF fMove [a0] fun v39 =>xF fNil [v39] fun v40 =>xF (fFld 0) [v40] fun v41 =>hLoad 1 false [v41] (fun v42 σ =>s_bm [v42] (fun v43 σ =>s_bf [v38, v43] (fun v44 σ =>xF fNil [v37] fun v45 =>xF (fFld 2) [v45] fun v46 =>hStore 1 [v46, v44] (fun _v σ =>xF fMove [a0] fun v47 =>xF fMove [a0] fun v48 =>xF fMove [a0] fun v49 =>xF fNil [v49] fun v50 =>xF (fFld 2) [v50] fun v51 =>hLoad 1 false [v51] (fun v52 σ =>xF (fConv .i64) [v52] fun v53 =>xF (fBin .sub .no) [v53, .int .i64 1] fun v54 =>xF fNil [v47] fun v55 =>xF (fFld 3) [v55] fun v56 =>hStore 1 [v56, v54] (fun _v σ =>xF fNil [v48] fun v57 =>xF (fFld 1) [v57] fun v58 =>hStore 1 [v58, .int .i64 1] (fun _v σ =>xF fMove [a0] fun v59 =>xF fNil [v59] fun v60 =>xF (fFld 3) [v60] fun v61 =>hLoad 1 false [v61] (fun v62 σ =>xF (fBin .lss .no) [v62, .int .i64 0] fun v63 =>xIf v63
 (xF fMove [a0] fun v64 =>xF fMove [a0] fun v65 =>xF fNil [v64] fun v66 =>xF (fFld 3) [v66] fun v67 =>hStore 1 [v67, .int .i64 0] (fun _v σ =>xF fNil [v65] fun v68 =>xF (fFld 1) [v68] fun v69 =>hStore 1 [v69, .int .i64 3] (fun _v σ =>J1 [] [] σ) σ) σ)
 (J1 [] [] σ)) σ) σ) σ) σ) σ) σ) σ) σ)
 (xF (fBin .eql .no) [v10, .int .i64 1] fun v71 =>xF fMove [v71] fun v70 =>xIf v70
 (xF fMove [a0] fun v72 =>xO (gLoad 9 true [(locP 3)] c3) fun v73 =>xF (fFld 0) [(locP 3)] fun v74 =>xO (gLoad 7 true [v74] c3) fun v75 =>xF fMove [a0] fun v76 =>xF fNil [v76] fun v77 =>xF (fFld 3) [v77] fun v78 =>hLoad 1 false [v78] (fun v79 σ =>s_bb [v75, v79] (fun v80 σ =>s_bf [v73, v80] (fun v81 σ =>xF fNil [v72] fun v82 =>xF (fFld 4) [v82] fun v83 =>hStore 1 [v83, v81] (fun _v σ =>xF fMove [a0] fun v84 =>xF fNil [v84] fun v85 =>xF (fFld 4) [v85] fun v86 =>hLoad 1 false [v86] (fun v87 σ =>s_cf [v87] (fun v88 σ =>xC (gStore 4 [(locP 5), v88] [.int .i64 0, .int .i64 0, .int .i64 0, .int .i64 0]) fun c5 =>xF fMove [a0] fun v89 =>xF fNil [v89] fun v90 =>xF (fFld 1) [v90] fun v91 =>hStore 1 [v91, .int .i64 2] (fun _v σ =>xJoin (w_b6_j2 K J1) fun J2 =>xF (fFld 0) [(locP 5)] fun v92 =>xO (gLoad 1 false [v92] c5) fun v93 =>xF (fBin .neq .no) [v93, .int .i64 1] fun v94 =>xF fMove [v94] fun v95 =>xIf v95
 (xF fPick [.bool true, .bool true, undef] fun v103 =>xF fMove [v103] fun v104 =>xIf v104
 (xF fPick [.bool true, .bool true, undef] fun v117 =>J2 [a0, v117] [] σ)
 (xF (fFld 2) [(locP 5)] fun v105 =>xO (gLoad 1 false [v105] c5) fun v106 =>xF fMove [a0] fun v107 =>xF fNil [v107] fun v108 =>xF (fFld 0) [v108] fun v109 =>hLoad 1 false [v109] (fun v110 σ =>s_bo [v110] (fun v111 σ =>xF (fBin .add .no) [v106, v111] fun v112 =>xF (fFld 0) [(locP 3)] fun v113 =>xF (fFld 3) [v113] fun v114 =>xO (gLoad 1 false [v114] c3) fun v115 =>xF (fBin .gtr .no) [v112, v115] fun v116 =>xF fPick [.bool false, .bool true, v116] fun v117 =>J2 [a0, v117] [] σ) σ) σ))
 (xF (fFld 1) [(locP 5)] fun v96 =>xO (gLoad 1 false [v96] c5) fun v97 =>xF fMove [a0] fun v98 =>xF fNil [v98] fun v99 =>xF (fFld 0) [v99] fun v100 =>hLoad 1 false [v100] (fun v101 σ =>xF (fBin .neq .no) [v97, v101] fun v102 =>xF fPick [.bool false, .bool true, v102] fun v103 =>xF fMove [v103] fun v104 =>xIf v104
 (xF fPick [.bool true, .bool true, undef] fun v117 =>J2 [a0, v117] [] σ)
 (xF (fFld 2) [(locP 5)] fun v105 =>xO (gLoad 1 false [v105] c5) fun v106 =>xF fMove [a0] fun v107 =>xF fNil [v107] fun v108 =>xF (fFld 0) [v108] fun v109 =>hLoad 1 false [v109] (fun v110 σ =>s_bo [v110] (fun v111 σ =>xF (fBin .add .no) [v106, v111] fun v112 =>xF (fFld 0) [(locP 3)] fun v113 =>xF (fFld 3) [v113] fun v114 =>xO (gLoad 1 false [v114] c3) fun v115 =>xF (fBin .gtr .no) [v112, v115] fun v116 =>xF fPick [.bool false, .bool true, v116] fun v117 =>J2 [a0, v117] [] σ) σ) σ)) σ)) σ) σ) σ) σ) σ) σ) σ)
 (xF (fBin .eql .no) [v10, .int .i64 2] fun v125 =>xF fMove [v125] fun v124 =>xIf v124
 (xF fMove [a0] fun v126 =>xO (gLoad 9 true [(locP 3)] c3) fun v127 =>s_b8 [v126, v127] (fun v128 σ =>xF fMove [v128] fun v4 =>K v4 σ) σ)
 (xF (fBin .eql .no) [v10, .int .i64 3] fun v130 =>xF fMove [v130] fun v129 =>xIf v129
 (xF fMove [a0] fun v131 =>xO (gLoad 9 true [(locP 3)] c3) fun v132 =>xF (fFld 0) [(locP 3)] fun v133 =>xO (gLoad 7 true [v133] c3) fun v134 =>xF fMove [a0] fun v135 =>xF fNil [v135] fun v136 =>xF (fFld 3) [v136] fun v137 =>hLoad 1 false [v137] (fun v138 σ =>s_bb [v134, v138] (fun v139 σ =>s_bf [v132, v139] (fun v140 σ =>xF fNil [v131] fun v141 =>xF (fFld 4) [v141] fun v142 =>hStore 1 [v142, v140] (fun _v σ =>xF fMove [a0] fun v143 =>xF fNil [v143] fun v144 =>xF (fFld 4) [v144] fun v145 =>hLoad 1 false [v145] (fun v146 σ =>s_cf [v146] (fun v147 σ =>xF (fFldV 0 1 false) [v147] fun v148 =>xF (fBin .neq .no) [v148, .int .i64 0] fun v149 =>xIf v149
 (xF fMove [a0] fun v150 =>xO (gLoad 9 true [(locP 3)] c3) fun v151 =>s_b9 [v150, v151] (fun v152 σ =>xF fMove [v152] fun v4 =>K v4 σ) σ)
 (xF fMove [a0] fun v153 =>xF fNil [v153] fun v154 =>xF (fFld 1) [v154] fun v155 =>hStore 1 [v155, .int .i64 4] (fun _v σ =>J1 [] [] σ) σ)) σ) σ) σ) σ) σ) σ)
 (xF (fBin .eql .no) [v10, .int .i64 4] fun v157 =>xF fMove [v157] fun v156 =>xIf v156
 (xO (gLoad 9 true [(locP 3)] c3) fun v158 =>xF (fFld 0) [(locP 3)] fun v159 =>xO (gLoad 7 true [v159] c3) fun v160 =>xF fMove [a0] fun v161 =>xF fNil [v161] fun v162 =>xF (fFld 3) [v162] fun v163 =>hLoad 1 false [v163] (fun v164 σ =>s_bb [v160, v164] (fun v165 σ =>xF fMove [a0] fun v166 =>xF fNil [v166] fun v167 =>xF (fFld 4) [v167] fun v168 =>hLoad 1 false [v168] (fun v169 σ =>xF fMove [a0] fun v170 =>s_b7 [v170] (fun v171 σ =>s_be [v158, v165, v169, v171] (fun v172 σ =>xF (fUn .not) [v172] fun v173 =>xIf v173
 (xF fMove [a0] fun v174 =>xO (gLoad 9 true [(locP 3)] c3) fun v175 =>s_b9 [v174, v175] (fun v176 σ =>xF fMove [v176] fun v4 =>K v4 σ) σ)
 (xF fMove [a0] fun v177 =>xF fNil [v177] fun v178 =>xF (fFld 1) [v178] fun v179 =>hStore 1 [v179, .int .i64 5] (fun _v σ =>J1 [] [] σ) σ)) σ) σ) σ) σ) σ)
 (xF (fBin .eql .no) [v10, .int .i64 5] fun v181 =>xF fMove [v181] fun v180 =>xIf v180
 (xF fMove [a0] fun v182 =>xF fNil [v182] fun v183 =>xF (fFld 1) [v183] fun v184 =>hStore 1 [v184, .int .i64 6] (fun _v σ =>xO (gLoad 9 true [(locP 3)] c3) fun v185 =>xF fMove [a0] fun v186 =>xF fNil [v186] fun v187 =>xF (fFld 0) [v187] fun v188 =>hLoad 1 false [v188] (fun v189 σ =>s_bm [v189] (fun v190 σ =>xF fMove [a0] fun v191 =>xF fNil [v191] fun v192 =>xF (fFld 2) [v192] fun v193 =>hLoad 1 false [v193] (fun v194 σ =>xF fMove [a0] fun v195 =>xF fNil [v195] fun v196 =>xF (fFld 3) [v196] fun v197 =>hLoad 1 false [v197] (fun v198 σ =>xF (fBin .add .no) [v198, .int .i64 1] fun v199 =>xF (fConv .u64) [v199] fun v200 =>s_be [v185, v190, v194, v200] (fun v201 σ =>xIf v201
 (xF fMove [a0] fun v202 =>xF fNil [v202] fun v203 =>xF (fFld 1) [v203] fun v204 =>hStore 1 [v204, .int .i64 0] (fun _v σ =>J1 [] [] σ) σ)
 (J1 [] [] σ)) σ) σ) σ) σ) σ) σ)
 (xF fMove [a0] fun v11 =>xF fNil [v11] fun v12 =>xF (fFld 4) [v12] fun v13 =>hLoad 1 false [v13] (fun v14 σ =>s_cf [v14] (fun v15 σ =>xF (fFldV 3 1 false) [v15] fun v16 =>xF (fBin .add .no) [v16, .int .i64 2] fun v17 =>xF (fBuild [(0, 1), (1, 1), (2, 1), (3, 1)] [.int .i64 0, .int .i64 0, .int .i64 0, .int .i64 0] [3]) [v17] fun v18 =>s_cj [v18] (fun v19 σ =>xF fMove [v19] fun v6 =>xO (gLoad 9 true [(locP 3)] c3) fun v20 =>xF (fFld 0) [(locP 3)] fun v21 =>xO (gLoad 7 true [v21] c3) fun v22 =>xF fMove [a0] fun v23 =>xF fNil [v23] fun v24 =>xF (fFld 3) [v24] fun v25 =>hLoad 1 false [v25] (fun v26 σ =>s_bb [v22, v26] (fun v27 σ =>xF fMove [a0] fun v28 =>s_b7 [v28] (fun v29 σ =>xF fMove [v6] fun v30 =>s_be [v20, v27, v29, v30] (fun v31 σ =>xF fMove [a0] fun v32 =>xF fNil [v32] fun v33 =>xF (fFld 1) [v33] fun v34 =>hStore 1 [v34, .int .i64 0] (fun _v σ =>J1 [] [] σ) σ) σ) σ) σ) σ) σ) σ) σ))))))) σ
def s_b6 : Spec := fun args K σ => match args with
  | [a0, a1] => w_b6 a0 a1 K σ
  | _ => False
noncomputable def cx_b6 : Cx := { P := Try.prog, T := [(80, .none, s_bm), (37, .write, s_bf), (73, .none, s_bb), (81, .none, s_cf), (74, .none, s_bo), (82, .write, s_b8), (83, .write, s_b9), (84, .read, s_b7), (79, .write, s_be), (85, .none, s_cj)], loc := [(3, 3), (5, 5), (21, 3), (74, 3), (92, 5), (96, 5), (105, 5), (113, 3), (114, 3), (133, 3), (159, 3)], eqt := [], n := 205, keep := [(1000016, [0, 117], []), (1000032, [], [])] }
theorem q_b6 : FnS cx_b6 Try.f69 (bodyOf Try.f69) 2 = s_b6 := by
  funext args K σ
  rcases args with _ | ⟨a0, _ | ⟨a1, _ | ⟨b, r⟩⟩⟩ <;> kernel_rfl
theorem e_b6 : Entry Try.prog 69 .write s_b6 :=
  entry (C := cx_b6) (TOk.cons e_bm (TOk.cons e_bf (TOk.cons e_bb (TOk.cons e_cf (TOk.cons e_bo (TOk.cons e_b8 (TOk.cons e_b9 (TOk.cons e_b7 (TOk.cons e_be (TOk.cons e_cj TOk.nil)))))))))) mixedOk Try.func69 (by kernel_rfl) (by kernel_rfl) (by kernel_rfl) q_b6
def xl_b6 : List (Nat × Nat) := [(3, 3), (5, 5), (21, 3), (74, 3), (92, 5), (96, 5), (105, 5), (113, 3), (114, 3), (133, 3), (159, 3)]
noncomputable def xc_b6 : XC XN :=
(.seq none
 (.reg [zy xl_b6 (.lb 3 9) 3 [.tmp 1],
  zc 4 (.bool false)])
 (.seq (some ([], []))
 (.seq none
 (.reg [zM 7 0,
  zN 8 7,
  zF 1 9 8,
  zL 10 9])
 (.block 0
 (.seq none
 (.reg [zb .eql rEql 36 [.tmp 10, .const (.int .i64 0)],
  zM 35 36])
 (.cond (.tmp 35)
 (.seq none
 (.reg [zM 37 0,
  zy xl_b6 (.lr 3 9 true) 38 [.tmp 3],
  zM 39 0,
  zN 40 39,
  zF 0 41 40,
  zL 42 41,
  zk .none s_bm v_bm 43 [.tmp 42],
  zk .write s_bf v_bf 44 [.tmp 38, .tmp 43],
  zN 45 37,
  zF 2 46 45,
  zS [.tmp 46, .tmp 44]])
 (.seq none
 (.reg [zM 47 0,
  zM 48 0,
  zM 49 0,
  zN 50 49,
  zF 2 51 50,
  zL 52 51,
  zz (.f (fConv .i64)) (rConv .i64) (some 53) [.tmp 52],
  zb .sub rSub 54 [.tmp 53, .const (.int .i64 1)],
  zN 55 47,
  zF 3 56 55,
  zS [.tmp 56, .tmp 54],
  zN 57 48,
  zF 1 58 57,
  zS [.tmp 58, .const (.int .i64 1)]])
 (.seq none
 (.reg [zM 59 0,
  zN 60 59,
  zF 3 61 60,
  zL 62 61,
  zb .lss rLss 63 [.tmp 62, .const (.int .i64 0)]])
 (.cond (.tmp 63)
 (.reg [zM 64 0,
  zM 65 0,
  zN 66 64,
  zF 3 67 66,
  zS [.tmp 67, .const (.int .i64 0)],
  zN 68 65,
  zF 1 69 68,
  zS [.tmp 69, .const (.int .i64 3)]])
 .skip))))
 (.seq none
 (.reg [zb .eql rEql 71 [.tmp 10, .const (.int .i64 1)],
  zM 70 71])
 (.cond (.tmp 70)
 (.seq none
 (.reg [zM 72 0,
  zy xl_b6 (.lr 3 9 true) 73 [.tmp 3],
  zF 0 74 3,
  zy xl_b6 (.lr 3 7 true) 75 [.tmp 74],
  zM 76 0,
  zN 77 76,
  zF 3 78 77,
  zL 79 78,
  zk .none s_bb v_bb 80 [.tmp 75, .tmp 79],
  zk .write s_bf v_bf 81 [.tmp 73, .tmp 80],
  zN 82 72,
  zF 4 83 82,
  zS [.tmp 83, .tmp 81]])
 (.seq none
 (.reg [zM 84 0,
  zN 85 84,
  zF 4 86 85,
  zL 87 86,
  zk .none s_cf v_cf 88 [.tmp 87],
  zy xl_b6 (.la 5 [.int .i64 0, .int .i64 0, .int .i64 0, .int .i64 0]) 5 [],
  zY xl_b6 (.ls 5 4) [.tmp 5, .tmp 88]])
 (.seq none
 (.reg [zM 89 0,
  zN 90 89,
  zF 1 91 90,
  zS [.tmp 91, .const (.int .i64 2)]])
 (.seq (some ([0, 117], []))
 (.reg [zF 0 92 5,
  zr 5 93 92,
  zb .neq rNeq 94 [.tmp 93, .const (.int .i64 1)],
  zM 95 94,
  ⟨(some (4, 3, false, some 95)), some 96, [.tmp 5], ⟨.f (fFld 1), rFld 1⟩⟩,
  ⟨(some (5, 3, false, some 95)), some 97, [.tmp 96], ⟨.lr 5 1 false, rLr1 5⟩⟩,
  ⟨(some (6, 3, false, some 95)), some 98, [.tmp 0], ⟨.f fMove, rMove⟩⟩,
  ⟨(some (7, 3, false, some 95)), some 99, [.tmp 98], ⟨.f fNil, rNil⟩⟩,
  ⟨(some (8, 3, false, some 95)), some 100, [.tmp 99], ⟨.f (fFld 0), rFld 0⟩⟩,
  ⟨(some (9, 3, false, some 95)), some 101, [.tmp 100], ⟨.load 1 false, rLoad1⟩⟩,
  ⟨(some (10, 3, false, some 95)), some 102, [.tmp 97, .tmp 101], ⟨.f (fBin .neq .no), rNeq⟩⟩,
  zz (.f fPick) rPick (some 103) [.tmp 95, .const (.bool true), .tmp 102],
  zM 104 103,
  ⟨(some (13, 12, false, some 104)), some 105, [.tmp 5], ⟨.f (fFld 2), rFld 2⟩⟩,
  ⟨(some (14, 12, false, some 104)), some 106, [.tmp 105], ⟨.lr 5 1 false, rLr1 5⟩⟩,
  ⟨(some (15, 12, false, some 104)), some 107, [.tmp 0], ⟨.f fMove, rMove⟩⟩,
  ⟨(some (16, 12, false, some 104)), some 108, [.tmp 107], ⟨.f fNil, rNil⟩⟩,
  ⟨(some (17, 12, false, some 104)), some 109, [.tmp 108], ⟨.f (fFld 0), rFld 0⟩⟩,
  ⟨(some (18, 12, false, some 104)), some 110, [.tmp 109], ⟨.load 1 false, rLoad1⟩⟩,
  ⟨(some (19, 12, false, some 104)), some 111, [.tmp 110], ⟨.call .none s_bo v_bo, rCall v_bo⟩⟩,
  ⟨(some (20, 12, false, some 104)), some 112, [.tmp 106, .tmp 111], ⟨.f (fBin .add .no), rAdd⟩⟩,
  ⟨(some (21, 12, false, some 104)), some 113, [.tmp 3], ⟨.f (fFld 0), rFld 0⟩⟩,
  ⟨(some (22, 12, false, some 104)), some 114, [.tmp 113], ⟨.f (fFld 3), rFld 3⟩⟩,
  ⟨(some (23, 12, false, some 104)), some 115, [.tmp 114], ⟨.lr 3 1 false, rLr1 3⟩⟩,
  ⟨(some (24, 12, false, some 104)), some 116, [.tmp 112, .tmp 115], ⟨.f (fBin .gtr .no), rGtr⟩⟩,
  zz (.f fPick) rPick (some 117) [.tmp 104, .const (.bool true), .tmp 116]])
 (.cond (.tmp 117)
 (.reg [zM 118 0,
  zM 119 0,
  zN 120 118,
  zF 3 121 120,
  zS [.tmp 121, .const (.int .i64 0)],
  zN 122 119,
  zF 1 123 122,
  zS [.tmp 123, .const (.int .i64 3)]])
 .skip)))))
 (.seq none
 (.reg [zb .eql rEql 125 [.tmp 10, .const (.int .i64 2)],
  zM 124 125])
 (.cond (.tmp 124)
 (.seq none
 (.reg [zM 126 0,
  zy xl_b6 (.lr 3 9 true) 127 [.tmp 3],
  zk .write s_b8 v_b8 128 [.tmp 126, .tmp 127],
  zM 4 128])
 .ret)
 (.seq none
 (.reg [zb .eql rEql 130 [.tmp 10, .const (.int .i64 3)],
  zM 129 130])
 (.cond (.tmp 129)
 (.seq none
 (.reg [zM 131 0,
  zy xl_b6 (.lr 3 9 true) 132 [.tmp 3],
  zF 0 133 3,
  zy xl_b6 (.lr 3 7 true) 134 [.tmp 133],
  zM 135 0,
  zN 136 135,
  zF 3 137 136,
  zL 138 137,
  zk .none s_bb v_bb 139 [.tmp 134, .tmp 138],
  zk .write s_bf v_bf 140 [.tmp 132, .tmp 139],
  zN 141 131,
  zF 4 142 141,
  zS [.tmp 142, .tmp 140]])
 (.seq none
 (.seq none
 (.reg [zM 143 0,
  zN 144 143,
  zF 4 145 144,
  zL 146 145,
  zk .none s_cf v_cf 147 [.tmp 146],
  zy xl_b6 (.f (fFldV 0 1 false)) 148 [.tmp 147],
  zb .neq rNeq 149 [.tmp 148, .const (.int .i64 0)]])
 (.cond (.tmp 149)
 (.seq none
 (.reg [zM 150 0,
  zy xl_b6 (.lr 3 9 true) 151 [.tmp 3],
  zk .write s_b9 v_b9 152 [.tmp 150, .tmp 151],
  zM 4 152])
 .ret)
 .skip))
 (.reg [zM 153 0,
  zN 154 153,
  zF 1 155 154,
  zS [.tmp 155, .const (.int .i64 4)]])))
 (.seq none
 (.reg [zb .eql rEql 157 [.tmp 10, .const (.int .i64 4)],
  zM 156 157])
 (.cond (.tmp 156)
 (.seq none
 (.seq none
 (.reg [zy xl_b6 (.lr 3 9 true) 158 [.tmp 3],
  zF 0 159 3,
  zy xl_b6 (.lr 3 7 true) 160 [.tmp 159],
  zM 161 0,
  zN 162 161,
  zF 3 163 162,
  zL 164 163,
  zk .none s_bb v_bb 165 [.tmp 160, .tmp 164],
  zM 166 0,
  zN 167 166,
  zF 4 168 167,
  zL 169 168,
  zM 170 0,
  zk .read s_b7 v_b7 171 [.tmp 170],
  zk .write s_be v_be 172 [.tmp 158, .tmp 165, .tmp 169, .tmp 171],
  zz (.f (fUn .not)) rNot (some 173) [.tmp 172]])
 (.cond (.tmp 173)
 (.seq none
 (.reg [zM 174 0,
  zy xl_b6 (.lr 3 9 true) 175 [.tmp 3],
  zk .write s_b9 v_b9 176 [.tmp 174, .tmp 175],
  zM 4 176])
 .ret)
 .skip))
 (.reg [zM 177 0,
  zN 178 177,
  zF 1 179 178,
  zS [.tmp 179, .const (.int .i64 5)]]))
 (.seq none
 (.reg [zb .eql rEql 181 [.tmp 10, .const (.int .i64 5)],
  zM 180 181])
 (.cond (.tmp 180)
 (.seq none
 (.reg [zM 182 0,
  zN 183 182,
  zF 1 184 183,
  zS [.tmp 184, .const (.int .i64 6)]])
 (.seq none
 (.reg [zy xl_b6 (.lr 3 9 true) 185 [.tmp 3],
  zM 186 0,
  zN 187 186,
  zF 0 188 187,
  zL 189 188,
  zk .none s_bm v_bm 190 [.tmp 189],
  zM 191 0,
  zN 192 191,
  zF 2 193 192,
  zL 194 193,
  zM 195 0,
  zN 196 195,
  zF 3 197 196,
  zL 198 197,
  zb .add rAdd 199 [.tmp 198, .const (.int .i64 1)],
  zz (.f (fConv .u64)) (rConv .u64) (some 200) [.tmp 199],
  zk .write s_be v_be 201 [.tmp 185, .tmp 190, .tmp 194, .tmp 200]])
 (.cond (.tmp 201)
 (.reg [zM 202 0,
  zN 203 202,
  zF 1 204 203,
  zS [.tmp 204, .const (.int .i64 0)]])
 .skip)))
 (.seq none
 (.reg [zM 11 0,
  zN 12 11,
  zF 4 13 12,
  zL 14 13,
  zk .none s_cf v_cf 15 [.tmp 14],
  zy xl_b6 (.f (fFldV 3 1 false)) 16 [.tmp 15],
  zb .add rAdd 17 [.tmp 16, .const (.int .i64 2)],
  zy xl_b6 (.f (fBuild [(0, 1), (1, 1), (2, 1), (3, 1)] [.int .i64 0, .int .i64 0, .int .i64 0, .int .i64 0] [3])) 18 [.tmp 17],
  zk .none s_cj v_cj 19 [.tmp 18],
  zM 6 19])
 (.seq none
 (.reg [zy xl_b6 (.lr 3 9 true) 20 [.tmp 3],
  zF 0 21 3,
  zy xl_b6 (.lr 3 7 true) 22 [.tmp 21],
  zM 23 0,
  zN 24 23,
  zF 3 25 24,
  zL 26 25,
  zk .none s_bb v_bb 27 [.tmp 22, .tmp 26],
  zM 28 0,
  zk .read s_b7 v_b7 29 [.tmp 28],
  zM 30 6,
  zk .write s_be v_be 31 [.tmp 20, .tmp 27, .tmp 29, .tmp 30]])
 (.reg [zM 32 0,
  zN 33 32,
  zF 1 34 33,
  zS [.tmp 34, .const (.int .i64 0)]])))))))))))))))))
 (.seq none
 (.reg [zc 4 (.bool false)])
 .ret)))
noncomputable def v_b6 : EvF := evFn 2 xc_b6 [.t 4]
theorem xt_b6 : toC cx_b6 (bodyOf Try.f69) = some (xc_b6.map XN.sm) := by kernel_rfl
theorem xr_b6 : toR cx_b6 Try.f69.results.toList = some [.t 4] := by kernel_rfl
theorem xo_b6 : xc_b6.ok xl_b6 := ⟨⟨r_a (trivial), r_m, trivial⟩, ⟨⟨⟨r_m, r_n, r_f _, r_l, trivial⟩, ⟨⟨r_e, r_m, trivial⟩, ⟨⟨⟨r_m, r_a (trivial), r_m, r_n, r_f _, r_l, r_c ve_bm, r_c ve_bf, r_n, r_f _, r_s, trivial⟩, ⟨⟨r_m, r_m, r_m, r_n, r_f _, r_l, r_v _, rSub_ok, r_n, r_f _, r_s, r_n, r_f _, r_s, trivial⟩, ⟨⟨r_m, r_n, r_f _, r_l, rLss_ok, trivial⟩, ⟨⟨r_m, r_m, r_n, r_f _, r_s, r_n, r_f _, r_s, trivial⟩, trivial⟩⟩⟩⟩, ⟨⟨r_e, r_m, trivial⟩, ⟨⟨⟨r_m, r_a (trivial), r_f _, r_a (trivial), r_m, r_n, r_f _, r_l, r_c ve_bb, r_c ve_bf, r_n, r_f _, r_s, trivial⟩, ⟨⟨r_m, r_n, r_f _, r_l, r_c ve_cf, r_a (trivial), r_a (trivial), trivial⟩, ⟨⟨r_m, r_n, r_f _, r_s, trivial⟩, ⟨⟨r_f _, r_r _, rNeq_ok, r_m, r_f _, r_r _, r_m, r_n, r_f _, r_l, rNeq_ok, r_p, r_m, r_f _, r_r _, r_m, r_n, r_f _, r_l, r_c ve_bo, r_d, r_f _, r_f _, r_r _, rGtr_ok, r_p, trivial⟩, ⟨⟨r_m, r_m, r_n, r_f _, r_s, r_n, r_f _, r_s, trivial⟩, trivial⟩⟩⟩⟩⟩, ⟨⟨r_e, r_m, trivial⟩, ⟨⟨⟨r_m, r_a (trivial), r_c ve_b8, r_m, trivial⟩, trivial⟩, ⟨⟨r_e, r_m, trivial⟩, ⟨⟨⟨r_m, r_a (trivial), r_f _, r_a (trivial), r_m, r_n, r_f _, r_l, r_c ve_bb, r_c ve_bf, r_n, r_f _, r_s, trivial⟩, ⟨⟨⟨r_m, r_n, r_f _, r_l, r_c ve_cf, r_a (eqv_fldV _ _ _), rNeq_ok, trivial⟩, ⟨⟨⟨r_m, r_a (trivial), r_c ve_b9, r_m, trivial⟩, trivial⟩, trivial⟩⟩, ⟨r_m, r_n, r_f _, r_s, trivial⟩⟩⟩, ⟨⟨r_e, r_m, trivial⟩, ⟨⟨⟨⟨r_a (trivial), r_f _, r_a (trivial), r_m, r_n, r_f _, r_l, r_c ve_bb, r_m, r_n, r_f _, r_l, r_m, r_c ve_b7, r_c ve_be, r_t, trivial⟩, ⟨⟨⟨r_m, r_a (trivial), r_c ve_b9, r_m, trivial⟩, trivial⟩, trivial⟩⟩, ⟨r_m, r_n, r_f _, r_s, trivial⟩⟩, ⟨⟨r_e, r_m, trivial⟩, ⟨⟨⟨r_m, r_n, r_f _, r_s, trivial⟩, ⟨⟨r_a (trivial), r_m, r_n, r_f _, r_l, r_c ve_bm, r_m, r_n, r_f _, r_l, r_m, r_n, r_f _, r_l, r_d, r_v _, r_c ve_be, trivial⟩, ⟨⟨r_m, r_n, r_f _, r_s, trivial⟩, trivial⟩⟩⟩, ⟨⟨r_m, r_n, r_f _, r_l, r_c ve_cf, r_a (eqv_fldV _ _ _), r_d, r_a (eqv_build _ rfl _), r_c ve_cj, r_m, trivial⟩, ⟨⟨r_a (trivial), r_f _, r_a (trivial), r_m, r_n, r_f _, r_l, r_c ve_bb, r_m, r_c ve_b7, r_m, r_c ve_be, trivial⟩, ⟨r_m, r_n, r_f _, r_s, trivial⟩⟩⟩⟩⟩⟩⟩⟩⟩⟩⟩⟩⟩⟩⟩⟩, ⟨⟨r_m, trivial⟩, trivial⟩⟩⟩
theorem ve_b6 : EvOk s_b6 v_b6 := EvOk.of (evFn_sound (C := cx_b6) xt_b6 xr_b6 xo_b6) q_b6
attribute [irreducible] w_b6_j1b w_b6_j1 w_b6_j2b w_b6_j2 w_b6 s_b6
def w_b5_j1b (K : Value → Mem → Prop) (v0 v12 : Value) (c2 : List Value) (σ : Mem) : Prop :=xIf v12
 (xF (fBuild [(0, 1), (1, 1)] [.int .i64 0, .int .i64 0] []) [] fun v13 =>xC (gStore 2 [(locP 2), v13] c2) fun c2 =>xF fMove [.bool false] fun v3 =>xO (gLoad 2 true [(locP 2)] c2) fun r2 =>K (.tuple #[r2, v3]) σ)
 (xF fMove [v0] fun v14 =>xF fNil [v14] fun v15 =>xF (fFld 5) [v15] fun v16 =>hLoad 2 true [v16] (fun v17 σ =>xC (gStore 2 [(locP 2), v17] c2) fun c2 =>xF fMove [.bool true] fun v3 =>xO (gLoad 2 true [(locP 2)] c2) fun r2 =>K (.tuple #[r2, v3]) σ) σ)
def w_b5_j1 (K : Value → Mem → Prop) (ts : List Value) (ls : List (List Value)) (σ : Mem) : Prop := w_b5_j1b K (ts.getD 0 poison) (ts.getD 1 poison) (ls.getD 0 []) σ
def w_b5 (a0 : Value) (K : Value → Mem → Prop) (σ : Mem) : Prop :=xF fMove [.bool false] fun v3 =>xJoin (w_b5_j1 K) fun J1 =>xF fMove [a0] fun v4 =>xF (fBin .eql .ptr) [v4, .pointer none] fun v5 =>xF fMove [v5] fun v6 =>xIf v6
 (xF fPick [.bool true, .bool true, undef] fun v12 =>J1 [a0, v12] [[.int .i64 0, .int .i64 0]] σ)
 (xF fMove [a0] fun v7 =>xF fNil [v7] fun v8 =>xF (fFld 7) [v8] fun v9 =>hLoad 1 false [v9] (fun v10 σ =>xF (fUn .not) [v10] fun v11 =>xF fPick [.bool false, .bool true, v11] fun v12 =>J1 [a0, v12] [[.int .i64 0, .int .i64 0]] σ) σ)
def s_b5 : Spec := fun args K σ => match args with
  | [a0] => w_b5 a0 K σ
  | _ => False
noncomputable def cx_b5 : Cx := { P := Try.prog, T := [], loc := [(2, 2)], eqt := [(97, .ptr)], n := 18, keep := [(1000003, [0, 12], [2])] }
theorem q_b5 : FnS cx_b5 Try.f70 (bodyOf Try.f70) 1 = s_b5 := by
  funext args K σ
  rcases args with _ | ⟨a0, _ | ⟨b, r⟩⟩ <;> kernel_rfl
theorem e_b5 : Entry Try.prog 70 .read s_b5 :=
  entry (C := cx_b5) TOk.nil mixedOk Try.func70 (by kernel_rfl) (by kernel_rfl) (by kernel_rfl) q_b5
def xl_b5 : List (Nat × Nat) := [(2, 2)]
noncomputable def xc_b5 : XC XN :=
(.seq none
 (.reg [zy xl_b5 (.la 2 [.int .i64 0, .int .i64 0]) 2 [],
  zc 3 (.bool false)])
 (.seq none
 (.seq (some ([0, 12], [2]))
 (.reg [zM 4 0,
  zy xl_b5 (.f (fBin .eql .ptr)) 5 [.tmp 4, .const (.pointer none)],
  zM 6 5,
  ⟨(some (3, 2, false, some 6)), some 7, [.tmp 0], ⟨.f fMove, rMove⟩⟩,
  ⟨(some (4, 2, false, some 6)), some 8, [.tmp 7], ⟨.f fNil, rNil⟩⟩,
  ⟨(some (5, 2, false, some 6)), some 9, [.tmp 8], ⟨.f (fFld 7), rFld 7⟩⟩,
  ⟨(some (6, 2, false, some 6)), some 10, [.tmp 9], ⟨.load 1 false, rLoad1⟩⟩,
  ⟨(some (7, 2, false, some 6)), some 11, [.tmp 10], ⟨.f (fUn .not), rNot⟩⟩,
  zz (.f fPick) rPick (some 12) [.tmp 6, .const (.bool true), .tmp 11]])
 (.cond (.tmp 12)
 (.seq none
 (.reg [zy xl_b5 (.f (fBuild [(0, 1), (1, 1)] [.int .i64 0, .int .i64 0] [])) 13 [],
  zY xl_b5 (.ls 2 2) [.tmp 2, .tmp 13],
  zc 3 (.bool false)])
 .ret)
 .skip))
 (.seq none
 (.reg [zM 14 0,
  zN 15 14,
  zF 5 16 15,
  zy xl_b5 (.load 2 true) 17 [.tmp 16],
  zY xl_b5 (.ls 2 2) [.tmp 2, .tmp 17],
  zc 3 (.bool true)])
 .ret)))
noncomputable def v_b5 : EvF := evFn 1 xc_b5 [.c 2 2 2 true, .t 3]
theorem xt_b5 : toC cx_b5 (bodyOf Try.f70) = some (xc_b5.map XN.sm) := by kernel_rfl
theorem xr_b5 : toR cx_b5 Try.f70.results.toList = some [.c 2 2 2 true, .t 3] := by kernel_rfl
theorem xo_b5 : xc_b5.ok xl_b5 := ⟨⟨r_a (trivial), r_m, trivial⟩, ⟨⟨⟨r_m, r_a (eqv_bin _ _), r_m, r_m, r_n, r_f _, r_l, r_t, r_p, trivial⟩, ⟨⟨⟨r_a (eqv_build _ rfl _), r_a (trivial), r_m, trivial⟩, trivial⟩, trivial⟩⟩, ⟨⟨r_m, r_n, r_f _, r_a (trivial), r_a (trivial), r_m, trivial⟩, trivial⟩⟩⟩
theorem ve_b5 : EvOk s_b5 v_b5 := EvOk.of (evFn_sound (C := cx_b5) xt_b5 xr_b5 xo_b5) q_b5
attribute [irreducible] w_b5_j1b w_b5_j1 w_b5 s_b5
def w_cb (a0 : Value) (K : Value → Mem → Prop) (σ : Mem) : Prop :=xF fMove [.pointer none] fun v2 =>xF fMove [a0] fun v3 =>xF (fBuild [(0, 1), (1, 1), (2, 1)] [.int .i64 0, .int .i64 0, .int .u64 0] [1]) [v3] fun v4 =>hBox 3 [v4] (fun v5 σ =>xF fMove [v5] fun v2 =>K v2 σ) σ
def s_cb : Spec := fun args K σ => match args with
  | [a0] => w_cb a0 K σ
  | _ => False
noncomputable def cx_cb : Cx := { P := Try.prog, T := [], loc := [], eqt := [], n := 6, keep := [] }
theorem q_cb : FnS cx_cb Try.f71 (bodyOf Try.f71) 1 = s_cb := by
  funext args K σ
  rcases args with _ | ⟨a0, _ | ⟨b, r⟩⟩ <;> kernel_rfl
theorem e_cb : Entry Try.prog 71 .write s_cb :=
  entry (C := cx_cb) TOk.nil mixedOk Try.func71 (by kernel_rfl) (by kernel_rfl) (by kernel_rfl) q_cb
def xl_cb : List (Nat × Nat) := []
noncomputable def xc_cb : XC XN :=
(.seq none
 (.reg [zc 2 (.pointer none)])
 (.seq none
 (.reg [zM 3 0,
  zy xl_cb (.f (fBuild [(0, 1), (1, 1), (2, 1)] [.int .i64 0, .int .i64 0, .int .u64 0] [1])) 4 [.tmp 3],
  zy xl_cb (.box 3) 5 [.tmp 4],
  zM 2 5])
 .ret))
noncomputable def v_cb : EvF := evFn 1 xc_cb [.t 2]
theorem xt_cb : toC cx_cb (bodyOf Try.f71) = some (xc_cb.map XN.sm) := by kernel_rfl
theorem xr_cb : toR cx_cb Try.f71.results.toList = some [.t 2] := by kernel_rfl
theorem xo_cb : xc_cb.ok xl_cb := ⟨⟨r_m, trivial⟩, ⟨⟨r_m, r_a (eqv_build _ rfl _), r_a (trivial), r_m, trivial⟩, trivial⟩⟩
theorem ve_cb : EvOk s_cb v_cb := EvOk.of (evFn_sound (C := cx_cb) xt_cb xr_cb xo_cb) q_cb
attribute [irreducible] w_cb s_cb
def w_br (a0 a1 a2 : Value) (K : Value → Mem → Prop) (σ : Mem) : Prop :=xF fMove [.int .u64 0] fun v6 =>xF fMove [.int .i64 0] fun v7 =>xF fMove [a0] fun v9 =>xF fMove [a1] fun v10 =>s_b0 [v9, v10] (fun v11 σ =>xF (fUn .not) [v11] fun v12 =>xIf v12
 (xF fMove [.int .u64 0] fun v6 =>xF fMove [.int .i64 2] fun v7 =>K (.tuple #[v6, v7]) σ)
 (xF fMove [a0] fun v13 =>xF fNil [v13] fun v14 =>xF (fFld 0) [v14] fun v15 =>hLoad 1 false [v15] (fun v16 σ =>xF fMove [a1] fun v17 =>xF (fIxS 1) [v16, v17] fun v18 =>hLoad 1 false [v18] (fun v19 σ =>xF fMove [v19] fun v8 =>xF fMove [a0] fun v20 =>xF fMove [a1] fun v21 =>xF fMove [v8] fun v22 =>xF fMove [a2] fun v23 =>xF (fBin .add .no) [v22, v23] fun v24 =>s_bz [v20, v21, v24] (fun v25 σ =>xF fMove [v8] fun v26 =>xF fMove [v26] fun v6 =>xF fMove [.int .i64 0] fun v7 =>K (.tuple #[v6, v7]) σ) σ) σ) σ)) σ
def s_br : Spec := fun args K σ => match args with
  | [a0, a1, a2] => w_br a0 a1 a2 K σ
  | _ => False
noncomputable def cx_br : Cx := { P := Try.prog, T := [(41, .write, s_b0), (42, .write, s_bz)], loc := [], eqt := [], n := 27, keep := [] }
theorem q_br : FnS cx_br Try.f86 (bodyOf Try.f86) 3 = s_br := by
  funext args K σ
  rcases args with _ | ⟨a0, _ | ⟨a1, _ | ⟨a2, _ | ⟨b, r⟩⟩⟩⟩ <;> kernel_rfl
theorem e_br : Entry Try.prog 86 .write s_br :=
  entry (C := cx_br) (TOk.cons e_b0 (TOk.cons e_bz TOk.nil)) mixedOk Try.func86 (by kernel_rfl) (by kernel_rfl) (by kernel_rfl) q_br
def xl_br : List (Nat × Nat) := []
noncomputable def xc_br : XC XN :=
(.seq none
 (.reg [zc 6 (.int .u64 0),
  zc 7 (.int .i64 0)])
 (.seq none
 (.seq none
 (.reg [zM 9 0,
  zM 10 1,
  zk .write s_b0 v_b0 11 [.tmp 9, .tmp 10],
  zz (.f (fUn .not)) rNot (some 12) [.tmp 11]])
 (.cond (.tmp 12)
 (.seq none
 (.reg [zc 6 (.int .u64 0),
  zc 7 (.int .i64 2)])
 .ret)
 .skip))
 (.seq none
 (.reg [zM 13 0,
  zN 14 13,
  zF 0 15 14,
  zL 16 15,
  zM 17 1,
  zz (.f (fIxS 1)) (rIxS 1) (some 18) [.tmp 16, .tmp 17],
  zL 19 18,
  zM 8 19])
 (.seq none
 (.reg [zM 20 0,
  zM 21 1,
  zM 22 8,
  zM 23 2,
  zb .add rAdd 24 [.tmp 22, .tmp 23],
  zk .write s_bz v_bz 25 [.tmp 20, .tmp 21, .tmp 24]])
 (.seq none
 (.reg [zM 26 8,
  zM 6 26,
  zc 7 (.int .i64 0)])
 .ret)))))
noncomputable def v_br : EvF := evFn 3 xc_br [.t 6, .t 7]
theorem xt_br : toC cx_br (bodyOf Try.f86) = some (xc_br.map XN.sm) := by kernel_rfl
theorem xr_br : toR cx_br Try.f86.results.toList = some [.t 6, .t 7] := by kernel_rfl
theorem xo_br : xc_br.ok xl_br := ⟨⟨r_m, r_m, trivial⟩, ⟨⟨⟨r_m, r_m, r_c ve_b0, r_t, trivial⟩, ⟨⟨⟨r_m, r_m, trivial⟩, trivial⟩, trivial⟩⟩, ⟨⟨r_m, r_n, r_f _, r_l, r_m, rIxS_ok _, r_l, r_m, trivial⟩, ⟨⟨r_m, r_m, r_m, r_m, r_d, r_c ve_bz, trivial⟩, ⟨⟨r_m, r_m, r_m, trivial⟩, trivial⟩⟩⟩⟩⟩
theorem ve_br : EvOk s_br v_br := EvOk.of (evFn_sound (C := cx_br) xt_br xr_br xo_br) q_br
attribute [irreducible] w_br s_br
def w_bd (a0 a1 a2 : Value) (K : Value → Mem → Prop) (σ : Mem) : Prop :=xC (gBox 9 [a0] []) fun c3 =>xF (fFld 7) [(locP 3)] fun v6 =>xO (gLoad 1 false [v6] c3) fun v7 =>xF (fFld 8) [(locP 3)] fun v8 =>xO (gLoad 1 false [v8] c3) fun v9 =>s_bs [v7, v9] (fun v10 σ =>xF (fFld 7) [(locP 3)] fun v11 =>xO (gLoad 1 false [v11] c3) fun v12 =>xF fMove [a1] fun v13 =>xF fMove [a2] fun v14 =>xF (fConv .u64) [v14] fun v15 =>s_br [v12, v13, v15] (fun v16 σ =>K (.tuple #[]) σ) σ) σ
def s_bd : Spec := fun args K σ => match args with
  | [a0, a1, a2] => w_bd a0 a1 a2 K σ
  | _ => False
noncomputable def cx_bd : Cx := { P := Try.prog, T := [(44, .write, s_bs), (86, .write, s_br)], loc := [(3, 3), (6, 3), (8, 3), (11, 3)], eqt := [], n := 17, keep := [] }
theorem q_bd : FnS cx_bd Try.f72 (bodyOf Try.f72) 3 = s_bd := by
  funext args K σ
  rcases args with _ | ⟨a0, _ | ⟨a1, _ | ⟨a2, _ | ⟨b, r⟩⟩⟩⟩ <;> kernel_rfl
theorem e_bd : Entry Try.prog 72 .write s_bd :=
  entry (C := cx_bd) (TOk.cons e_bs (TOk.cons e_br TOk.nil)) mixedOk Try.func72 (by kernel_rfl) (by kernel_rfl) (by kernel_rfl) q_bd
def xl_bd : List (Nat × Nat) := [(3, 3), (6, 3), (8, 3), (11, 3)]
noncomputable def xc_bd : XC XN :=
(.seq none
 (.reg [zy xl_bd (.lb 3 9) 3 [.tmp 0]])
 (.seq none
 (.reg [zF 7 6 3,
  zr 3 7 6,
  zF 8 8 3,
  zr 3 9 8,
  zk .write s_bs v_bs 10 [.tmp 7, .tmp 9]])
 (.reg [zF 7 11 3,
  zr 3 12 11,
  zM 13 1,
  zM 14 2,
  zz (.f (fConv .u64)) (rConv .u64) (some 15) [.tmp 14],
  zk .write s_br v_br 16 [.tmp 12, .tmp 13, .tmp 15]])))
noncomputable def v_bd : EvF := evFn 3 xc_bd []
theorem xt_bd : toC cx_bd (bodyOf Try.f72) = some (xc_bd.map XN.sm) := by kernel_rfl
theorem xr_bd : toR cx_bd Try.f72.results.toList = some [] := by kernel_rfl
theorem xo_bd : xc_bd.ok xl_bd := ⟨⟨r_a (trivial), trivial⟩, ⟨⟨r_f _, r_r _, r_f _, r_r _, r_c ve_bs, trivial⟩, ⟨r_f _, r_r _, r_m, r_m, r_v _, r_c ve_br, trivial⟩⟩⟩
theorem ve_bd : EvOk s_bd v_bd := EvOk.of (evFn_sound (C := cx_bd) xt_bd xr_bd xo_bd) q_bd
attribute [irreducible] w_bd s_bd
def w_cl_j1b (K : Value → Mem → Prop) (v3 : Value) (σ : Mem) : Prop :=xF fMove [v3] fun v26 =>xF fMove [v26] fun v2 =>K v2 σ
def w_cl_j1 (K : Value → Mem → Prop) (ts : List Value) (ls : List (List Value)) (σ : Mem) : Prop := w_cl_j1b K (ts.getD 0 poison) σ
def w_cl (a0 : Value) (K : Value → Mem → Prop) (σ : Mem) : Prop :=xC (gBox 5 [a0] []) fun c1 =>xF fMove [.int .u64 0] fun v2 =>xF (fFld 0) [(locP 1)] fun v4 =>xO (gLoad 1 false [v4] c1) fun v5 =>s_cq [v5, .int .i64 3] (fun v6 σ =>xF (fFld 1) [(locP 1)] fun v7 =>xO (gLoad 1 false [v7] c1) fun v8 =>s_cq [v8, .int .i64 65535] (fun v9 σ =>xF (fBin .shl .no) [v9, .int .u64 2] fun v10 =>xF (fBin .or .no) [v6, v10] fun v11 =>xF (fFld 2) [(locP 1)] fun v12 =>xO (gLoad 1 false [v12] c1) fun v13 =>s_cq [v13, .int .i64 65535] (fun v14 σ =>xF (fBin .shl .no) [v14, .int .u64 18] fun v15 =>xF (fBin .or .no) [v11, v15] fun v16 =>xF (fFld 3) [(locP 1)] fun v17 =>xO (gLoad 1 false [v17] c1) fun v18 =>s_cq [v18, .int .i64 65535] (fun v19 σ =>xF (fBin .shl .no) [v19, .int .u64 34] fun v20 =>xF (fBin .or .no) [v16, v20] fun v21 =>xF fMove [v21] fun v3 =>xJoin (w_cl_j1 K) fun J1 =>xF (fFld 4) [(locP 1)] fun v22 =>xO (gLoad 1 false [v22] c1) fun v23 =>xIf v23
 (xF fMove [v3] fun v24 =>xF (fBin .or .no) [v24, .int .u64 1125899906842624] fun v25 =>xF fMove [v25] fun v3 =>J1 [v3] [] σ)
 (J1 [v3] [] σ)) σ) σ) σ) σ
def s_cl : Spec := fun args K σ => match args with
  | [a0] => w_cl a0 K σ
  | _ => False
noncomputable def cx_cl : Cx := { P := Try.prog, T := [(43, .none, s_cq)], loc := [(1, 1), (4, 1), (7, 1), (12, 1), (17, 1), (22, 1)], eqt := [], n := 27, keep := [(1000005, [3], [])] }
theorem q_cl : FnS cx_cl Try.f77 (bodyOf Try.f77) 1 = s_cl := by
  funext args K σ
  rcases args with _ | ⟨a0, _ | ⟨b, r⟩⟩ <;> kernel_rfl
theorem e_cl : Entry Try.prog 77 .none s_cl :=
  entry (C := cx_cl) (TOk.cons e_cq TOk.nil) mixedOk Try.func77 (by kernel_rfl) (by kernel_rfl) (by kernel_rfl) q_cl
def xl_cl : List (Nat × Nat) := [(1, 1), (4, 1), (7, 1), (12, 1), (17, 1), (22, 1)]
noncomputable def xc_cl : XC XN :=
(.seq none
 (.reg [zy xl_cl (.lb 1 5) 1 [.tmp 0],
  zc 2 (.int .u64 0)])
 (.seq none
 (.reg [zF 0 4 1,
  zr 1 5 4,
  zk .none s_cq v_cq 6 [.tmp 5, .const (.int .i64 3)],
  zF 1 7 1,
  zr 1 8 7,
  zk .none s_cq v_cq 9 [.tmp 8, .const (.int .i64 65535)],
  zy xl_cl (.f (fBin .shl .no)) 10 [.tmp 9, .const (.int .u64 2)],
  zy xl_cl (.f (fBin .or .no)) 11 [.tmp 6, .tmp 10],
  zF 2 12 1,
  zr 1 13 12,
  zk .none s_cq v_cq 14 [.tmp 13, .const (.int .i64 65535)],
  zy xl_cl (.f (fBin .shl .no)) 15 [.tmp 14, .const (.int .u64 18)],
  zy xl_cl (.f (fBin .or .no)) 16 [.tmp 11, .tmp 15],
  zF 3 17 1,
  zr 1 18 17,
  zk .none s_cq v_cq 19 [.tmp 18, .const (.int .i64 65535)],
  zy xl_cl (.f (fBin .shl .no)) 20 [.tmp 19, .const (.int .u64 34)],
  zy xl_cl (.f (fBin .or .no)) 21 [.tmp 16, .tmp 20],
  zM 3 21])
 (.seq (some ([3], []))
 (.seq none
 (.reg [zF 4 22 1,
  zr 1 23 22])
 (.cond (.tmp 23)
 (.reg [zM 24 3,
  zy xl_cl (.f (fBin .or .no)) 25 [.tmp 24, .const (.int .u64 1125899906842624)],
  zM 3 25])
 .skip))
 (.seq none
 (.reg [zM 26 3,
  zM 2 26])
 .ret))))
noncomputable def v_cl : EvF := evFn 1 xc_cl [.t 2]
theorem xt_cl : toC cx_cl (bodyOf Try.f77) = some (xc_cl.map XN.sm) := by kernel_rfl
theorem xr_cl : toR cx_cl Try.f77.results.toList = some [.t 2] := by kernel_rfl
theorem xo_cl : xc_cl.ok xl_cl := ⟨⟨r_a (trivial), r_m, trivial⟩, ⟨⟨r_f _, r_r _, r_c ve_cq, r_f _, r_r _, r_c ve_cq, r_a (eqv_bin _ _), r_a (eqv_bin _ _), r_f _, r_r _, r_c ve_cq, r_a (eqv_bin _ _), r_a (eqv_bin _ _), r_f _, r_r _, r_c ve_cq, r_a (eqv_bin _ _), r_a (eqv_bin _ _), r_m, trivial⟩, ⟨⟨⟨r_f _, r_r _, trivial⟩, ⟨⟨r_m, r_a (eqv_bin _ _), r_m, trivial⟩, trivial⟩⟩, ⟨⟨r_m, r_m, trivial⟩, trivial⟩⟩⟩⟩
theorem ve_cl : EvOk s_cl v_cl := EvOk.of (evFn_sound (C := cx_cl) xt_cl xr_cl xo_cl) q_cl
attribute [irreducible] w_cl_j1b w_cl_j1 w_cl s_cl
def w_ap (a0 a1 : Value) (K : Value → Mem → Prop) (σ : Mem) : Prop :=xF fMove [.int .u64 0] fun v4 =>xF fMove [a1] fun v5 =>xF fMove [a0] fun v6 =>xF fNil [v6] fun v7 =>xF (fFld 0) [v7] fun v8 =>hLoad 1 false [v8] (fun v9 σ =>xF fMove [a0] fun v10 =>xF fNil [v10] fun v11 =>xF (fFld 8) [v11] fun v12 =>hLoad 1 false [v12] (fun v13 σ =>xF fMove [a0] fun v14 =>xF fNil [v14] fun v15 =>xF (fFld 9) [v15] fun v16 =>hLoad 1 false [v16] (fun v17 σ =>xF fMove [a0] fun v18 =>xF fNil [v18] fun v19 =>xF (fFld 1) [v19] fun v20 =>hLoad 1 false [v20] (fun v21 σ =>xF (fBuild [(0, 1), (1, 1), (2, 1), (3, 1), (4, 1)] [.int .i64 0, .int .i64 0, .int .i64 0, .int .i64 0, .bool false] [0, 1, 2, 3, 4]) [v5, v9, v13, v17, v21] fun v22 =>s_cl [v22] (fun v23 σ =>xF fMove [v23] fun v4 =>K v4 σ) σ) σ) σ) σ) σ
def s_ap : Spec := fun args K σ => match args with
  | [a0, a1] => w_ap a0 a1 K σ
  | _ => False
noncomputable def cx_ap : Cx := { P := Try.prog, T := [(77, .none, s_cl)], loc := [], eqt := [], n := 24, keep := [] }
theorem q_ap : FnS cx_ap Try.f63 (bodyOf Try.f63) 2 = s_ap := by
  funext args K σ
  rcases args with _ | ⟨a0, _ | ⟨a1, _ | ⟨b, r⟩⟩⟩ <;> kernel_rfl
theorem e_ap : Entry Try.prog 63 .read s_ap :=
  entry (C := cx_ap) (TOk.cons e_cl TOk.nil) mixedOk Try.func63 (by kernel_rfl) (by kernel_rfl) (by kernel_rfl) q_ap
def xl_ap : List (Nat × Nat) := []
noncomputable def xc_ap : XC XN :=
(.seq none
 (.reg [zc 4 (.int .u64 0)])
 (.seq none
 (.reg [zM 5 1,
  zM 6 0,
  zN 7 6,
  zF 0 8 7,
  zL 9 8,
  zM 10 0,
  zN 11 10,
  zF 8 12 11,
  zL 13 12,
  zM 14 0,
  zN 15 14,
  zF 9 16 15,
  zL 17 16,
  zM 18 0,
  zN 19 18,
  zF 1 20 19,
  zL 21 20,
  zy xl_ap (.f (fBuild [(0, 1), (1, 1), (2, 1), (3, 1), (4, 1)] [.int .i64 0, .int .i64 0, .int .i64 0, .int .i64 0, .bool false] [0, 1, 2, 3, 4])) 22 [.tmp 5, .tmp 9, .tmp 13, .tmp 17, .tmp 21],
  zk .none s_cl v_cl 23 [.tmp 22],
  zM 4 23])
 .ret))
noncomputable def v_ap : EvF := evFn 2 xc_ap [.t 4]
theorem xt_ap : toC cx_ap (bodyOf Try.f63) = some (xc_ap.map XN.sm) := by kernel_rfl
theorem xr_ap : toR cx_ap Try.f63.results.toList = some [.t 4] := by kernel_rfl
theorem xo_ap : xc_ap.ok xl_ap := ⟨⟨r_m, trivial⟩, ⟨⟨r_m, r_m, r_n, r_f _, r_l, r_m, r_n, r_f _, r_l, r_m, r_n, r_f _, r_l, r_m, r_n, r_f _, r_l, r_a (eqv_build _ rfl _), r_c ve_cl, r_m, trivial⟩, trivial⟩⟩
theorem ve_ap : EvOk s_ap v_ap := EvOk.of (evFn_sound (C := cx_ap) xt_ap xr_ap xo_ap) q_ap
attribute [irreducible] w_ap s_ap
def w_ck (a0 : Value) (K : Value → Mem → Prop) (σ : Mem) : Prop :=xC (gBox 2 [a0] []) fun c1 =>xF fMove [.int .u64 0] fun v2 =>xF (fFld 0) [(locP 1)] fun v3 =>xO (gLoad 1 false [v3] c1) fun v4 =>s_cq [v4, .int .i64 65535] (fun v5 σ =>xF (fFld 1) [(locP 1)] fun v6 =>xO (gLoad 1 false [v6] c1) fun v7 =>s_cq [v7, .int .i64 65535] (fun v8 σ =>xF (fBin .shl .no) [v8, .int .u64 16] fun v9 =>xF (fBin .or .no) [v5, v9] fun v10 =>xF fMove [v10] fun v2 =>K v2 σ) σ) σ
def s_ck : Spec := fun args K σ => match args with
  | [a0] => w_ck a0 K σ
  | _ => False
noncomputable def cx_ck : Cx := { P := Try.prog, T := [(43, .none, s_cq)], loc := [(1, 1), (3, 1), (6, 1)], eqt := [], n := 11, keep := [] }
theorem q_ck : FnS cx_ck Try.f75 (bodyOf Try.f75) 1 = s_ck := by
  funext args K σ
  rcases args with _ | ⟨a0, _ | ⟨b, r⟩⟩ <;> kernel_rfl
theorem e_ck : Entry Try.prog 75 .none s_ck :=
  entry (C := cx_ck) (TOk.cons e_cq TOk.nil) mixedOk Try.func75 (by kernel_rfl) (by kernel_rfl) (by kernel_rfl) q_ck
def xl_ck : List (Nat × Nat) := [(1, 1), (3, 1), (6, 1)]
noncomputable def xc_ck : XC XN :=
(.seq none
 (.reg [zy xl_ck (.lb 1 2) 1 [.tmp 0],
  zc 2 (.int .u64 0)])
 (.seq none
 (.reg [zF 0 3 1,
  zr 1 4 3,
  zk .none s_cq v_cq 5 [.tmp 4, .const (.int .i64 65535)],
  zF 1 6 1,
  zr 1 7 6,
  zk .none s_cq v_cq 8 [.tmp 7, .const (.int .i64 65535)],
  zy xl_ck (.f (fBin .shl .no)) 9 [.tmp 8, .const (.int .u64 16)],
  zy xl_ck (.f (fBin .or .no)) 10 [.tmp 5, .tmp 9],
  zM 2 10])
 .ret))
noncomputable def v_ck : EvF := evFn 1 xc_ck [.t 2]
theorem xt_ck : toC cx_ck (bodyOf Try.f75) = some (xc_ck.map XN.sm) := by kernel_rfl
theorem xr_ck : toR cx_ck Try.f75.results.toList = some [.t 2] := by kernel_rfl
theorem xo_ck : xc_ck.ok xl_ck := ⟨⟨r_a (trivial), r_m, trivial⟩, ⟨⟨r_f _, r_r _, r_c ve_cq, r_f _, r_r _, r_c ve_cq, r_a (eqv_bin _ _), r_a (eqv_bin _ _), r_m, trivial⟩, trivial⟩⟩
theorem ve_ck : EvOk s_ck v_ck := EvOk.of (evFn_sound (C := cx_ck) xt_ck xr_ck xo_ck) q_ck
attribute [irreducible] w_ck s_ck
def w_ca_j1b (K : Value → Mem → Prop) (σ : Mem) : Prop :=xF fMove [.bool false] fun v4 =>K v4 σ
def w_ca_j1 (K : Value → Mem → Prop) (ts : List Value) (ls : List (List Value)) (σ : Mem) : Prop := w_ca_j1b K σ
def w_ca (a0 a1 : Value) (K : Value → Mem → Prop) (σ : Mem) : Prop :=xC (gBox 9 [a1] []) fun c3 =>xF fMove [.bool false] fun v4 =>xF fMove [a0] fun v8 =>xF fNil [v8] fun v9 =>xF (fFld 2) [v9] fun v10 =>hLoad 1 false [v10] (fun v11 σ =>s_cp [v11] (fun v12 σ =>xF fMove [v12] fun v7 =>xF (fExt 0) [v7] fun v13 =>xF (fExt 1) [v7] fun v14 =>xF fMove [v13] fun v5 =>xF fMove [v14] fun v6 =>xJoin (w_ca_j1 K) fun J1 =>xF fMove [a0] fun v15 =>xF fNil [v15] fun v16 =>xF (fFld 0) [v16] fun v17 =>hLoad 1 false [v17] (fun v18 σ =>xF (fBin .eql .no) [v18, .int .i64 0] fun v37 =>xF fMove [v37] fun v36 =>xIf v36
 (xF fMove [a0] fun v38 =>xF fMove [a0] fun v39 =>xO (gLoad 9 true [(locP 3)] c3) fun v40 =>s_bq [] (fun v41 σ =>s_bf [v40, v41] (fun v42 σ =>xF fNil [v38] fun v43 =>xF (fFld 2) [v43] fun v44 =>hStore 1 [v44, v42] (fun _v σ =>xF fNil [v39] fun v45 =>xF (fFld 0) [v45] fun v46 =>hStore 1 [v46, .int .i64 1] (fun _v σ =>J1 [] [] σ) σ) σ) σ) σ)
 (xF (fBin .eql .no) [v18, .int .i64 1] fun v48 =>xF fMove [v48] fun v47 =>xIf v47
 (xO (gLoad 9 true [(locP 3)] c3) fun v49 =>xF (fFld 0) [(locP 3)] fun v50 =>xO (gLoad 7 true [v50] c3) fun v51 =>xF fMove [a0] fun v52 =>xF fNil [v52] fun v53 =>xF (fFld 1) [v53] fun v54 =>hLoad 1 false [v54] (fun v55 σ =>s_bp [v51, v55] (fun v56 σ =>xF (fBin .add .no) [v56, .int .i64 1] fun v57 =>xF fMove [v5] fun v58 =>s_cn [v58, .int .i64 0] (fun v59 σ =>s_bh [v49, v57, v59] (fun v60 σ =>xF fMove [a0] fun v61 =>xF fNil [v61] fun v62 =>xF (fFld 0) [v62] fun v63 =>hStore 1 [v63, .int .i64 2] (fun _v σ =>J1 [] [] σ) σ) σ) σ) σ) σ)
 (xF fMove [a0] fun v19 =>xF fNil [v19] fun v20 =>xF (fFld 0) [v20] fun v21 =>hStore 1 [v21, .int .i64 0] (fun _v σ =>xO (gLoad 9 true [(locP 3)] c3) fun v22 =>s_bq [] (fun v23 σ =>xF fMove [a0] fun v24 =>xF fNil [v24] fun v25 =>xF (fFld 2) [v25] fun v26 =>hLoad 1 false [v26] (fun v27 σ =>xF fMove [a0] fun v28 =>xF fNil [v28] fun v29 =>xF (fFld 1) [v29] fun v30 =>hLoad 1 false [v30] (fun v31 σ =>xF fMove [v6] fun v32 =>xF (fBin .add .no) [v32, .int .i64 1] fun v33 =>s_cn [v31, v33] (fun v34 σ =>s_be [v22, v23, v27, v34] (fun v35 σ =>xF fMove [v35] fun v4 =>K v4 σ) σ) σ) σ) σ) σ) σ))) σ) σ) σ
def s_ca : Spec := fun args K σ => match args with
  | [a0, a1] => w_ca a0 a1 K σ
  | _ => False
noncomputable def cx_ca : Cx := { P := Try.prog, T := [(78, .none, s_cp), (33, .none, s_bq), (37, .write, s_bf), (30, .none, s_bp), (32, .none, s_cn), (39, .write, s_bh), (79, .write, s_be)], loc := [(3, 3), (50, 3)], eqt := [], n := 64, keep := [(1000011, [], [])] }
theorem q_ca : FnS cx_ca Try.f76 (bodyOf Try.f76) 2 = s_ca := by
  funext args K σ
  rcases args with _ | ⟨a0, _ | ⟨a1, _ | ⟨b, r⟩⟩⟩ <;> kernel_rfl
theorem e_ca : Entry Try.prog 76 .write s_ca :=
  entry (C := cx_ca) (TOk.cons e_cp (TOk.cons e_bq (TOk.cons e_bf (TOk.cons e_bp (TOk.cons e_cn (TOk.cons e_bh (TOk.cons e_be TOk.nil))))))) mixedOk Try.func76 (by kernel_rfl) (by kernel_rfl) (by kernel_rfl) q_ca
def xl_ca : List (Nat × Nat) := [(3, 3), (50, 3)]
noncomputable def xc_ca : XC XN :=
(.seq none
 (.reg [zy xl_ca (.lb 3 9) 3 [.tmp 1],
  zc 4 (.bool false)])
 (.seq none
 (.reg [zM 8 0,
  zN 9 8,
  zF 2 10 9,
  zL 11 10,
  zk .none s_cp v_cp 12 [.tmp 11],
  zM 7 12,
  zy xl_ca (.f (fExt 0)) 13 [.tmp 7],
  zy xl_ca (.f (fExt 1)) 14 [.tmp 7],
  zM 5 13,
  zM 6 14])
 (.seq (some ([], []))
 (.seq none
 (.reg [zM 15 0,
  zN 16 15,
  zF 0 17 16,
  zL 18 17])
 (.block 0
 (.seq none
 (.reg [zb .eql rEql 37 [.tmp 18, .const (.int .i64 0)],
  zM 36 37])
 (.cond (.tmp 36)
 (.reg [zM 38 0,
  zM 39 0,
  zy xl_ca (.lr 3 9 true) 40 [.tmp 3],
  zk .none s_bq v_bq 41 [],
  zk .write s_bf v_bf 42 [.tmp 40, .tmp 41],
  zN 43 38,
  zF 2 44 43,
  zS [.tmp 44, .tmp 42],
  zN 45 39,
  zF 0 46 45,
  zS [.tmp 46, .const (.int .i64 1)]])
 (.seq none
 (.reg [zb .eql rEql 48 [.tmp 18, .const (.int .i64 1)],
  zM 47 48])
 (.cond (.tmp 47)
 (.seq none
 (.reg [zy xl_ca (.lr 3 9 true) 49 [.tmp 3],
  zF 0 50 3,
  zy xl_ca (.lr 3 7 true) 51 [.tmp 50],
  zM 52 0,
  zN 53 52,
  zF 1 54 53,
  zL 55 54,
  zk .none s_bp v_bp 56 [.tmp 51, .tmp 55],
  zb .add rAdd 57 [.tmp 56, .const (.int .i64 1)],
  zM 58 5,
  zk .none s_cn v_cn 59 [.tmp 58, .const (.int .i64 0)],
  zk .write s_bh v_bh 60 [.tmp 49, .tmp 57, .tmp 59]])
 (.reg [zM 61 0,
  zN 62 61,
  zF 0 63 62,
  zS [.tmp 63, .const (.int .i64 2)]]))
 (.seq none
 (.reg [zM 19 0,
  zN 20 19,
  zF 0 21 20,
  zS [.tmp 21, .const (.int .i64 0)]])
 (.seq none
 (.reg [zy xl_ca (.lr 3 9 true) 22 [.tmp 3],
  zk .none s_bq v_bq 23 [],
  zM 24 0,
  zN 25 24,
  zF 2 26 25,
  zL 27 26,
  zM 28 0,
  zN 29 28,
  zF 1 30 29,
  zL 31 30,
  zM 32 6,
  zb .add rAdd 33 [.tmp 32, .const (.int .i64 1)],
  zk .none s_cn v_cn 34 [.tmp 31, .tmp 33],
  zk .write s_be v_be 35 [.tmp 22, .tmp 23, .tmp 27, .tmp 34],
  zM 4 35])
 .ret))))))))
 (.seq none
 (.reg [zc 4 (.bool false)])
 .ret))))
noncomputable def v_ca : EvF := evFn 2 xc_ca [.t 4]
theorem xt_ca : toC cx_ca (bodyOf Try.f76) = some (xc_ca.map XN.sm) := by kernel_rfl
theorem xr_ca : toR cx_ca Try.f76.results.toList = some [.t 4] := by kernel_rfl
theorem xo_ca : xc_ca.ok xl_ca := ⟨⟨r_a (trivial), r_m, trivial⟩, ⟨⟨r_m, r_n, r_f _, r_l, r_c ve_cp, r_m, r_a (eqv_ext _), r_a (eqv_ext _), r_m, r_m, trivial⟩, ⟨⟨⟨r_m, r_n, r_f _, r_l, trivial⟩, ⟨⟨r_e, r_m, trivial⟩, ⟨⟨r_m, r_m, r_a (trivial), r_c ve_bq, r_c ve_bf, r_n, r_f _, r_s, r_n, r_f _, r_s, trivial⟩, ⟨⟨r_e, r_m, trivial⟩, ⟨⟨⟨r_a (trivial), r_f _, r_a (trivial), r_m, r_n, r_f _, r_l, r_c ve_bp, r_d, r_m, r_c ve_cn, r_c ve_bh, trivial⟩, ⟨r_m, r_n, r_f _, r_s, trivial⟩⟩, ⟨⟨r_m, r_n, r_f _, r_s, trivial⟩, ⟨⟨r_a (trivial), r_c ve_bq, r_m, r_n, r_f _, r_l, r_m, r_n, r_f _, r_l, r_m, r_d, r_c ve_cn, r_c ve_be, r_m, trivial⟩, trivial⟩⟩⟩⟩⟩⟩⟩, ⟨⟨r_m, trivial⟩, trivial⟩⟩⟩⟩
theorem ve_ca : EvOk s_ca v_ca := EvOk.of (evFn_sound (C := cx_ca) xt_ca xr_ca xo_ca) q_ca
attribute [irreducible] w_ca_j1b w_ca_j1 w_ca s_ca
def w_an_j1b (K : Value → Mem → Prop) (σ : Mem) : Prop :=xF fMove [.bool false] fun v4 =>K v4 σ
def w_an_j1 (K : Value → Mem → Prop) (ts : List Value) (ls : List (List Value)) (σ : Mem) : Prop := w_an_j1b K σ
def w_an (a0 a1 : Value) (K : Value → Mem → Prop) (σ : Mem) : Prop :=xC (gBox 9 [a1] []) fun c3 =>xF fMove [.bool false] fun v4 =>xJoin (w_an_j1 K) fun J1 =>xF fMove [a0] fun v9 =>xF fNil [v9] fun v10 =>xF (fFld 2) [v10] fun v11 =>hLoad 1 false [v11] (fun v12 σ =>xF (fBin .eql .no) [v12, .int .i64 0] fun v20 =>xF fMove [v20] fun v19 =>xIf v19
 (xF fMove [a0] fun v21 =>xF fNil [v21] fun v22 =>xF (fFld 0) [v22] fun v23 =>hLoad 1 false [v23] (fun v24 σ =>s_bc [v24] (fun v25 σ =>xF (fBin .lss .no) [v25, .int .i64 0] fun v26 =>xIf v26
 (xF fMove [a0] fun v27 =>xO (gLoad 9 true [(locP 3)] c3) fun v28 =>s_ao [v27, v28, .int .i64 5] (fun v29 σ =>xF fMove [.bool true] fun v4 =>K v4 σ) σ)
 (xF fMove [a0] fun v30 =>xF fNil [v30] fun v31 =>xF (fFld 3) [v31] fun v32 =>xO (gLoad 9 true [(locP 3)] c3) fun v33 =>s_cd [v32, v33] (fun v34 σ =>xIf v34
 (xF fMove [a0] fun v36 =>xF fNil [v36] fun v37 =>xF (fFld 3) [v37] fun v38 =>s_cc [v38] (fun v39 σ =>xF fMove [v39] fun v35 =>xF (fExt 0) [v35] fun v40 =>xF (fExt 1) [v35] fun v41 =>xF fMove [v40] fun v5 =>xF fMove [v41] fun v6 =>xF fMove [a0] fun v42 =>xF fMove [a0] fun v43 =>xF fMove [v5] fun v44 =>xF fNil [v42] fun v45 =>xF (fFld 8) [v45] fun v46 =>hStore 1 [v46, v44] (fun _v σ =>xF fNil [v43] fun v47 =>xF (fFld 2) [v47] fun v48 =>hStore 1 [v48, .int .i64 1] (fun _v σ =>xF fMove [v6] fun v49 =>xF (fUn .not) [v49] fun v50 =>xIf v50
 (xF fMove [a0] fun v51 =>xO (gLoad 9 true [(locP 3)] c3) fun v52 =>s_ao [v51, v52, .int .i64 7] (fun v53 σ =>xF fMove [.bool true] fun v4 =>K v4 σ) σ)
 (J1 [] [] σ)) σ) σ) σ)
 (J1 [] [] σ)) σ)) σ) σ)
 (xF (fBin .eql .no) [v12, .int .i64 1] fun v55 =>xF fMove [v55] fun v54 =>xIf v54
 (xF fMove [a0] fun v56 =>xF fMove [a0] fun v57 =>xO (gLoad 9 true [(locP 3)] c3) fun v58 =>xF (fFld 0) [(locP 3)] fun v59 =>xO (gLoad 7 true [v59] c3) fun v60 =>xF fMove [a0] fun v61 =>xF fNil [v61] fun v62 =>xF (fFld 8) [v62] fun v63 =>hLoad 1 false [v63] (fun v64 σ =>s_bp [v60, v64] (fun v65 σ =>s_bf [v58, v65] (fun v66 σ =>s_co [v66] (fun v67 σ =>xF (fFldV 2 1 false) [v67] fun v68 =>xF fNil [v56] fun v69 =>xF (fFld 9) [v69] fun v70 =>hStore 1 [v70, v68] (fun _v σ =>xF fNil [v57] fun v71 =>xF (fFld 2) [v71] fun v72 =>hStore 1 [v72, .int .i64 2] (fun _v σ =>xF fMove [a0] fun v73 =>xF fMove [a0] fun v74 =>xF fNil [v74] fun v75 =>xF (fFld 0) [v75] fun v76 =>hLoad 1 false [v76] (fun v77 σ =>s_bc [v77] (fun v78 σ =>s_b4 [v78] (fun v79 σ =>xF fNil [v73] fun v80 =>xF (fFld 10) [v80] fun v81 =>hStore 1 [v81, v79] (fun _v σ =>J1 [] [] σ) σ) σ) σ) σ) σ) σ) σ) σ) σ) σ)
 (xF (fBin .eql .no) [v12, .int .i64 2] fun v83 =>xF fMove [v83] fun v82 =>xIf v82
 (xF fMove [a0] fun v84 =>xF fNil [v84] fun v85 =>xF (fFld 10) [v85] fun v86 =>hLoad 1 false [v86] (fun v87 σ =>xO (gLoad 9 true [(locP 3)] c3) fun v88 =>s_b6 [v87, v88] (fun v89 σ =>xIf v89
 (xF fMove [a0] fun v91 =>xF fNil [v91] fun v92 =>xF (fFld 10) [v92] fun v93 =>hLoad 1 false [v93] (fun v94 σ =>s_b5 [v94] (fun v95 σ =>xF fMove [v95] fun v90 =>xF (fExt 0) [v90] fun v96 =>xF (fExt 1) [v90] fun v97 =>xC (gStore 2 [(locP 7), v96] [.int .i64 0, .int .i64 0]) fun c7 =>xF fMove [v97] fun v8 =>xF fMove [a0] fun v98 =>xF fMove [a0] fun v99 =>xO (gLoad 2 true [(locP 7)] c7) fun v100 =>xF fNil [v98] fun v101 =>xF (fFld 11) [v101] fun v102 =>hStore 2 [v102, v100] (fun _v σ =>xF fNil [v99] fun v103 =>xF (fFld 2) [v103] fun v104 =>hStore 1 [v104, .int .i64 3] (fun _v σ =>xF fMove [v8] fun v105 =>xF (fUn .not) [v105] fun v106 =>xIf v106
 (xF fMove [a0] fun v107 =>xO (gLoad 9 true [(locP 3)] c3) fun v108 =>s_ao [v107, v108, .int .i64 6] (fun v109 σ =>xF fMove [a0] fun v110 =>xF fMove [a0] fun v111 =>xF fMove [a0] fun v112 =>xF fNil [v112] fun v113 =>xF (fFld 8) [v113] fun v114 =>hLoad 1 false [v114] (fun v115 σ =>s_cb [v115] (fun v116 σ =>xF fNil [v110] fun v117 =>xF (fFld 13) [v117] fun v118 =>hStore 1 [v118, v116] (fun _v σ =>xF fNil [v111] fun v119 =>xF (fFld 2) [v119] fun v120 =>hStore 1 [v120, .int .i64 7] (fun _v σ =>J1 [] [] σ) σ) σ) σ) σ) σ)
 (J1 [] [] σ)) σ) σ) σ) σ)
 (J1 [] [] σ)) σ) σ)
 (xF (fBin .eql .no) [v12, .int .i64 3] fun v122 =>xF fMove [v122] fun v121 =>xIf v121
 (xO (gLoad 9 true [(locP 3)] c3) fun v123 =>xF (fFld 0) [(locP 3)] fun v124 =>xO (gLoad 7 true [v124] c3) fun v125 =>xF fMove [a0] fun v126 =>xF fNil [v126] fun v127 =>xF (fFld 11) [v127] fun v128 =>xF (fFld 1) [v128] fun v129 =>hLoad 1 false [v129] (fun v130 σ =>s_bb [v125, v130] (fun v131 σ =>xF (fBin .add .no) [v131, .int .i64 1] fun v132 =>xF fMove [a0] fun v133 =>xF fNil [v133] fun v134 =>xF (fFld 0) [v134] fun v135 =>hLoad 1 false [v135] (fun v136 σ =>s_bc [v136] (fun v137 σ =>s_bo [v137] (fun v138 σ =>s_bd [v123, v132, v138] (fun v139 σ =>xF fMove [a0] fun v140 =>xF fNil [v140] fun v141 =>xF (fFld 2) [v141] fun v142 =>hStore 1 [v142, .int .i64 4] (fun _v σ =>J1 [] [] σ) σ) σ) σ) σ) σ) σ) σ)
 (xF (fBin .eql .no) [v12, .int .i64 4] fun v144 =>xF fMove [v144] fun v143 =>xIf v143
 (xO (gLoad 9 true [(locP 3)] c3) fun v145 =>xF fMove [a0] fun v146 =>xF fNil [v146] fun v147 =>xF (fFld 11) [v147] fun v148 =>xF (fFld 0) [v148] fun v149 =>hLoad 1 false [v149] (fun v150 σ =>xF fMove [a0] fun v151 =>s_ap [v151, .int .i64 1] (fun v152 σ =>s_bh [v145, v150, v152] (fun v153 σ =>xF fMove [a0] fun v154 =>xF fNil [v154] fun v155 =>xF (fFld 2) [v155] fun v156 =>hStore 1 [v156, .int .i64 5] (fun _v σ =>J1 [] [] σ) σ) σ) σ) σ)
 (xF (fBin .eql .no) [v12, .int .i64 5] fun v158 =>xF fMove [v158] fun v157 =>xIf v157
 (xO (gLoad 9 true [(locP 3)] c3) fun v159 =>xF (fFld 0) [(locP 3)] fun v160 =>xO (gLoad 7 true [v160] c3) fun v161 =>xF fMove [a0] fun v162 =>xF fNil [v162] fun v163 =>xF (fFld 8) [v163] fun v164 =>hLoad 1 false [v164] (fun v165 σ =>s_bp [v161, v165] (fun v166 σ =>xF fMove [a0] fun v167 =>xF fNil [v167] fun v168 =>xF (fFld 11) [v168] fun v169 =>xF (fFld 0) [v169] fun v170 =>hLoad 1 false [v170] (fun v171 σ =>xF fMove [a0] fun v172 =>xF fNil [v172] fun v173 =>xF (fFld 9) [v173] fun v174 =>hLoad 1 false [v174] (fun v175 σ =>xF (fBuild [(0, 1), (1, 1), (2, 1), (3, 1)] [.int .i64 0, .int .i64 0, .int .i64 0, .int .i64 0] [0, 1, 2]) [.int .i64 1, v171, v175] fun v176 =>s_cm [v176] (fun v177 σ =>s_bh [v159, v166, v177] (fun v178 σ =>xF fMove [a0] fun v179 =>xF fMove [a0] fun v180 =>xF fNil [v180] fun v181 =>xF (fFld 8) [v181] fun v182 =>hLoad 1 false [v182] (fun v183 σ =>xF fMove [a0] fun v184 =>xF fNil [v184] fun v185 =>xF (fFld 9) [v185] fun v186 =>hLoad 1 false [v186] (fun v187 σ =>xF (fBuild [(0, 1), (1, 1)] [.int .i64 0, .int .i64 0] [0, 1]) [v183, v187] fun v188 =>s_ck [v188] (fun v189 σ =>xO (gLoad 9 true [(locP 3)] c3) fun v190 =>s_bg [v190] (fun v191 σ =>xF (fBuild [(0, 1), (1, 1), (2, 1), (3, 1)] [.int .i64 0, .int .u64 0, .int .i64 0, .int .i64 0] [1, 3]) [v189, v191] fun v192 =>xF fNil [v179] fun v193 =>xF (fFld 14) [v193] fun v194 =>hStore 4 [v194, v192] (fun _v σ =>xF fMove [a0] fun v195 =>xF fNil [v195] fun v196 =>xF (fFld 2) [v196] fun v197 =>hStore 1 [v197, .int .i64 6] (fun _v σ =>J1 [] [] σ) σ) σ) σ) σ) σ) σ) σ) σ) σ) σ) σ) σ)
 (xF (fBin .eql .no) [v12, .int .i64 6] fun v199 =>xF fMove [v199] fun v198 =>xIf v198
 (xO (gLoad 9 true [(locP 3)] c3) fun v200 =>xF fMove [a0] fun v201 =>xF fNil [v201] fun v202 =>xF (fFld 11) [v202] fun v203 =>xF (fFld 0) [v203] fun v204 =>hLoad 1 false [v204] (fun v205 σ =>xF fMove [a0] fun v206 =>s_ap [v206, .int .i64 2] (fun v207 σ =>s_bh [v200, v205, v207] (fun v208 σ =>xF fMove [.bool true] fun v4 =>K v4 σ) σ) σ) σ)
 (xF fMove [a0] fun v13 =>xF fNil [v13] fun v14 =>xF (fFld 13) [v14] fun v15 =>hLoad 1 false [v15] (fun v16 σ =>xO (gLoad 9 true [(locP 3)] c3) fun v17 =>s_ca [v16, v17] (fun v18 σ =>xF fMove [v18] fun v4 =>K v4 σ) σ) σ)))))))) σ
def s_an : Spec := fun args K σ => match args with
  | [a0, a1] => w_an a0 a1 K σ
  | _ => False
noncomputable def cx_an : Cx := { P := Try.prog, T := [(13, .write, s_bc), (64, .write, s_ao), (65, .write, s_cd), (66, .read, s_cc), (30, .none, s_bp), (37, .write, s_bf), (67, .none, s_co), (68, .write, s_b4), (69, .write, s_b6), (70, .read, s_b5), (71, .write, s_cb), (73, .none, s_bb), (74, .none, s_bo), (72, .write, s_bd), (63, .read, s_ap), (39, .write, s_bh), (31, .none, s_cm), (75, .none, s_ck), (17, .read, s_bg), (76, .write, s_ca)], loc := [(3, 3), (7, 7), (59, 3), (124, 3), (160, 3)], eqt := [], n := 209, keep := [(1000037, [], [])] }
theorem q_an : FnS cx_an Try.f62 (bodyOf Try.f62) 2 = s_an := by
  funext args K σ
  rcases args with _ | ⟨a0, _ | ⟨a1, _ | ⟨b, r⟩⟩⟩ <;> kernel_rfl
theorem e_an : Entry Try.prog 62 .write s_an :=
  entry (C := cx_an) (TOk.cons e_bc (TOk.cons e_ao (TOk.cons e_cd (TOk.cons e_cc (TOk.cons e_bp (TOk.cons e_bf (TOk.cons e_co (TOk.cons e_b4 (TOk.cons e_b6 (TOk.cons e_b5 (TOk.cons e_cb (TOk.cons e_bb (TOk.cons e_bo (TOk.cons e_bd (TOk.cons e_ap (TOk.cons e_bh (TOk.cons e_cm (TOk.cons e_ck (TOk.cons e_bg (TOk.cons e_ca TOk.nil)))))))))))))))))))) mixedOk Try.func62 (by kernel_rfl) (by kernel_rfl) (by kernel_rfl) q_an
def xl_an : List (Nat × Nat) := [(3, 3), (7, 7), (59, 3), (124, 3), (160, 3)]
noncomputable def xc_an : XC XN :=
(.seq none
 (.reg [zy xl_an (.lb 3 9) 3 [.tmp 1],
  zc 4 (.bool false)])
 (.seq (some ([], []))
 (.seq none
 (.reg [zM 9 0,
  zN 10 9,
  zF 2 11 10,
  zL 12 11])
 (.block 0
 (.seq none
 (.reg [zb .eql rEql 20 [.tmp 12, .const (.int .i64 0)],
  zM 19 20])
 (.cond (.tmp 19)
 (.seq none
 (.seq none
 (.reg [zM 21 0,
  zN 22 21,
  zF 0 23 22,
  zL 24 23,
  zk .write s_bc v_bc 25 [.tmp 24],
  zb .lss rLss 26 [.tmp 25, .const (.int .i64 0)]])
 (.cond (.tmp 26)
 (.seq none
 (.reg [zM 27 0,
  zy xl_an (.lr 3 9 true) 28 [.tmp 3],
  zk .write s_ao v_ao 29 [.tmp 27, .tmp 28, .const (.int .i64 5)]])
 (.seq none
 (.reg [zc 4 (.bool true)])
 .ret))
 .skip))
 (.seq none
 (.reg [zM 30 0,
  zN 31 30,
  zF 3 32 31,
  zy xl_an (.lr 3 9 true) 33 [.tmp 3],
  zk .write s_cd v_cd 34 [.tmp 32, .tmp 33]])
 (.cond (.tmp 34)
 (.seq none
 (.reg [zM 36 0,
  zN 37 36,
  zF 3 38 37,
  zk .read s_cc v_cc 39 [.tmp 38],
  zM 35 39,
  zy xl_an (.f (fExt 0)) 40 [.tmp 35],
  zy xl_an (.f (fExt 1)) 41 [.tmp 35],
  zM 5 40,
  zM 6 41])
 (.seq none
 (.reg [zM 42 0,
  zM 43 0,
  zM 44 5,
  zN 45 42,
  zF 8 46 45,
  zS [.tmp 46, .tmp 44],
  zN 47 43,
  zF 2 48 47,
  zS [.tmp 48, .const (.int .i64 1)]])
 (.seq none
 (.reg [zM 49 6,
  zz (.f (fUn .not)) rNot (some 50) [.tmp 49]])
 (.cond (.tmp 50)
 (.seq none
 (.reg [zM 51 0,
  zy xl_an (.lr 3 9 true) 52 [.tmp 3],
  zk .write s_ao v_ao 53 [.tmp 51, .tmp 52, .const (.int .i64 7)]])
 (.seq none
 (.reg [zc 4 (.bool true)])
 .ret))
 .skip))))
 .skip)))
 (.seq none
 (.reg [zb .eql rEql 55 [.tmp 12, .const (.int .i64 1)],
  zM 54 55])
 (.cond (.tmp 54)
 (.seq none
 (.reg [zM 56 0,
  zM 57 0,
  zy xl_an (.lr 3 9 true) 58 [.tmp 3],
  zF 0 59 3,
  zy xl_an (.lr 3 7 true) 60 [.tmp 59],
  zM 61 0,
  zN 62 61,
  zF 8 63 62,
  zL 64 63,
  zk .none s_bp v_bp 65 [.tmp 60, .tmp 64],
  zk .write s_bf v_bf 66 [.tmp 58, .tmp 65],
  zk .none s_co v_co 67 [.tmp 66],
  zy xl_an (.f (fFldV 2 1 false)) 68 [.tmp 67],
  zN 69 56,
  zF 9 70 69,
  zS [.tmp 70, .tmp 68],
  zN 71 57,
  zF 2 72 71,
  zS [.tmp 72, .const (.int .i64 2)]])
 (.reg [zM 73 0,
  zM 74 0,
  zN 75 74,
  zF 0 76 75,
  zL 77 76,
  zk .write s_bc v_bc 78 [.tmp 77],
  zk .write s_b4 v_b4 79 [.tmp 78],
  zN 80 73,
  zF 10 81 80,
  zS [.tmp 81, .tmp 79]]))
 (.seq none
 (.reg [zb .eql rEql 83 [.tmp 12, .const (.int .i64 2)],
  zM 82 83])
 (.cond (.tmp 82)
 (.seq none
 (.reg [zM 84 0,
  zN 85 84,
  zF 10 86 85,
  zL 87 86,
  zy xl_an (.lr 3 9 true) 88 [.tmp 3],
  zk .write s_b6 v_b6 89 [.tmp 87, .tmp 88]])
 (.cond (.tmp 89)
 (.seq none
 (.reg [zM 91 0,
  zN 92 91,
  zF 10 93 92,
  zL 94 93,
  zk .read s_b5 v_b5 95 [.tmp 94],
  zM 90 95,
  zy xl_an (.f (fExt 0)) 96 [.tmp 90],
  zy xl_an (.f (fExt 1)) 97 [.tmp 90],
  zy xl_an (.la 7 [.int .i64 0, .int .i64 0]) 7 [],
  zY xl_an (.ls 7 2) [.tmp 7, .tmp 96],
  zM 8 97])
 (.seq none
 (.reg [zM 98 0,
  zM 99 0,
  zy xl_an (.lr 7 2 true) 100 [.tmp 7],
  zN 101 98,
  zF 11 102 101,
  zY xl_an (.store 2) [.tmp 102, .tmp 100],
  zN 103 99,
  zF 2 104 103,
  zS [.tmp 104, .const (.int .i64 3)]])
 (.seq none
 (.reg [zM 105 8,
  zz (.f (fUn .not)) rNot (some 106) [.tmp 105]])
 (.cond (.tmp 106)
 (.seq none
 (.reg [zM 107 0,
  zy xl_an (.lr 3 9 true) 108 [.tmp 3],
  zk .write s_ao v_ao 109 [.tmp 107, .tmp 108, .const (.int .i64 6)]])
 (.reg [zM 110 0,
  zM 111 0,
  zM 112 0,
  zN 113 112,
  zF 8 114 113,
  zL 115 114,
  zk .write s_cb v_cb 116 [.tmp 115],
  zN 117 110,
  zF 13 118 117,
  zS [.tmp 118, .tmp 116],
  zN 119 111,
  zF 2 120 119,
  zS [.tmp 120, .const (.int .i64 7)]]))
 .skip))))
 .skip))
 (.seq none
 (.reg [zb .eql rEql 122 [.tmp 12, .const (.int .i64 3)],
  zM 121 122])
 (.cond (.tmp 121)
 (.seq none
 (.reg [zy xl_an (.lr 3 9 true) 123 [.tmp 3],
  zF 0 124 3,
  zy xl_an (.lr 3 7 true) 125 [.tmp 124],
  zM 126 0,
  zN 127 126,
  zF 11 128 127,
  zF 1 129 128,
  zL 130 129,
  zk .none s_bb v_bb 131 [.tmp 125, .tmp 130],
  zb .add rAdd 132 [.tmp 131, .const (.int .i64 1)],
  zM 133 0,
  zN 134 133,
  zF 0 135 134,
  zL 136 135,
  zk .write s_bc v_bc 137 [.tmp 136],
  zk .none s_bo v_bo 138 [.tmp 137],
  zk .write s_bd v_bd 139 [.tmp 123, .tmp 132, .tmp 138]])
 (.reg [zM 140 0,
  zN 141 140,
  zF 2 142 141,
  zS [.tmp 142, .const (.int .i64 4)]]))
 (.seq none
 (.reg [zb .eql rEql 144 [.tmp 12, .const (.int .i64 4)],
  zM 143 144])
 (.cond (.tmp 143)
 (.seq none
 (.reg [zy xl_an (.lr 3 9 true) 145 [.tmp 3],
  zM 146 0,
  zN 147 146,
  zF 11 148 147,
  zF 0 149 148,
  zL 150 149,
  zM 151 0,
  zk .read s_ap v_ap 152 [.tmp 151, .const (.int .i64 1)],
  zk .write s_bh v_bh 153 [.tmp 145, .tmp 150, .tmp 152]])
 (.reg [zM 154 0,
  zN 155 154,
  zF 2 156 155,
  zS [.tmp 156, .const (.int .i64 5)]]))
 (.seq none
 (.reg [zb .eql rEql 158 [.tmp 12, .const (.int .i64 5)],
  zM 157 158])
 (.cond (.tmp 157)
 (.seq none
 (.reg [zy xl_an (.lr 3 9 true) 159 [.tmp 3],
  zF 0 160 3,
  zy xl_an (.lr 3 7 true) 161 [.tmp 160],
  zM 162 0,
  zN 163 162,
  zF 8 164 163,
  zL 165 164,
  zk .none s_bp v_bp 166 [.tmp 161, .tmp 165],
  zM 167 0,
  zN 168 167,
  zF 11 169 168,
  zF 0 170 169,
  zL 171 170,
  zM 172 0,
  zN 173 172,
  zF 9 174 173,
  zL 175 174,
  zy xl_an (.f (fBuild [(0, 1), (1, 1), (2, 1), (3, 1)] [.int .i64 0, .int .i64 0, .int .i64 0, .int .i64 0] [0, 1, 2])) 176 [.const (.int .i64 1), .tmp 171, .tmp 175],
  zk .none s_cm v_cm 177 [.tmp 176],
  zk .write s_bh v_bh 178 [.tmp 159, .tmp 166, .tmp 177]])
 (.seq none
 (.reg [zM 179 0,
  zM 180 0,
  zN 181 180,
  zF 8 182 181,
  zL 183 182,
  zM 184 0,
  zN 185 184,
  zF 9 186 185,
  zL 187 186,
  zy xl_an (.f (fBuild [(0, 1), (1, 1)] [.int .i64 0, .int .i64 0] [0, 1])) 188 [.tmp 183, .tmp 187],
  zk .none s_ck v_ck 189 [.tmp 188],
  zy xl_an (.lr 3 9 true) 190 [.tmp 3],
  zk .read s_bg v_bg 191 [.tmp 190],
  zy xl_an (.f (fBuild [(0, 1), (1, 1), (2, 1), (3, 1)] [.int .i64 0, .int .u64 0, .int .i64 0, .int .i64 0] [1, 3])) 192 [.tmp 189, .tmp 191],
  zN 193 179,
  zF 14 194 193,
  zY xl_an (.store 4) [.tmp 194, .tmp 192]])
 (.reg [zM 195 0,
  zN 196 195,
  zF 2 197 196,
  zS [.tmp 197, .const (.int .i64 6)]])))
 (.seq none
 (.reg [zb .eql rEql 199 [.tmp 12, .const (.int .i64 6)],
  zM 198 199])
 (.cond (.tmp 198)
 (.seq none
 (.reg [zy xl_an (.lr 3 9 true) 200 [.tmp 3],
  zM 201 0,
  zN 202 201,
  zF 11 203 202,
  zF 0 204 203,
  zL 205 204,
  zM 206 0,
  zk .read s_ap v_ap 207 [.tmp 206, .const (.int .i64 2)],
  zk .write s_bh v_bh 208 [.tmp 200, .tmp 205, .tmp 207]])
 (.seq none
 (.reg [zc 4 (.bool true)])
 .ret))
 (.seq none
 (.reg [zM 13 0,
  zN 14 13,
  zF 13 15 14,
  zL 16 15,
  zy xl_an (.lr 3 9 true) 17 [.tmp 3],
  zk .write s_ca v_ca 18 [.tmp 16, .tmp 17],
  zM 4 18])
 .ret)))))))))))))))))
 (.seq none
 (.reg [zc 4 (.bool false)])
 .ret)))
noncomputable def v_an : EvF := evFn 2 xc_an [.t 4]
theorem xt_an : toC cx_an (bodyOf Try.f62) = some (xc_an.map XN.sm) := by kernel_rfl
theorem xr_an : toR cx_an Try.f62.results.toList = some [.t 4] := by kernel_rfl
theorem xo_an : xc_an.ok xl_an := ⟨⟨r_a (trivial), r_m, trivial⟩, ⟨⟨⟨r_m, r_n, r_f _, r_l, trivial⟩, ⟨⟨r_e, r_m, trivial⟩, ⟨⟨⟨⟨r_m, r_n, r_f _, r_l, r_c ve_bc, rLss_ok, trivial⟩, ⟨⟨⟨r_m, r_a (trivial), r_c ve_ao, trivial⟩, ⟨⟨r_m, trivial⟩, trivial⟩⟩, trivial⟩⟩, ⟨⟨r_m, r_n, r_f _, r_a (trivial), r_c ve_cd, trivial⟩, ⟨⟨⟨r_m, r_n, r_f _, r_c ve_cc, r_m, r_a (eqv_ext _), r_a (eqv_ext _), r_m, r_m, trivial⟩, ⟨⟨r_m, r_m, r_m, r_n, r_f _, r_s, r_n, r_f _, r_s, trivial⟩, ⟨⟨r_m, r_t, trivial⟩, ⟨⟨⟨r_m, r_a (trivial), r_c ve_ao, trivial⟩, ⟨⟨r_m, trivial⟩, trivial⟩⟩, trivial⟩⟩⟩⟩, trivial⟩⟩⟩, ⟨⟨r_e, r_m, trivial⟩, ⟨⟨⟨r_m, r_m, r_a (trivial), r_f _, r_a (trivial), r_m, r_n, r_f _, r_l, r_c ve_bp, r_c ve_bf, r_c ve_co, r_a (eqv_fldV _ _ _), r_n, r_f _, r_s, r_n, r_f _, r_s, trivial⟩, ⟨r_m, r_m, r_n, r_f _, r_l, r_c ve_bc, r_c ve_b4, r_n, r_f _, r_s, trivial⟩⟩, ⟨⟨r_e, r_m, trivial⟩, ⟨⟨⟨r_m, r_n, r_f _, r_l, r_a (trivial), r_c ve_b6, trivial⟩, ⟨⟨⟨r_m, r_n, r_f _, r_l, r_c ve_b5, r_m, r_a (eqv_ext _), r_a (eqv_ext _), r_a (trivial), r_a (trivial), r_m, trivial⟩, ⟨⟨r_m, r_m, r_a (trivial), r_n, r_f _, r_a (trivial), r_n, r_f _, r_s, trivial⟩, ⟨⟨r_m, r_t, trivial⟩, ⟨⟨⟨r_m, r_a (trivial), r_c ve_ao, trivial⟩, ⟨r_m, r_m, r_m, r_n, r_f _, r_l, r_c ve_cb, r_n, r_f _, r_s, r_n, r_f _, r_s, trivial⟩⟩, trivial⟩⟩⟩⟩, trivial⟩⟩, ⟨⟨r_e, r_m, trivial⟩, ⟨⟨⟨r_a (trivial), r_f _, r_a (trivial), r_m, r_n, r_f _, r_f _, r_l, r_c ve_bb, r_d, r_m, r_n, r_f _, r_l, r_c ve_bc, r_c ve_bo, r_c ve_bd, trivial⟩, ⟨r_m, r_n, r_f _, r_s, trivial⟩⟩, ⟨⟨r_e, r_m, trivial⟩, ⟨⟨⟨r_a (trivial), r_m, r_n, r_f _, r_f _, r_l, r_m, r_c ve_ap, r_c ve_bh, trivial⟩, ⟨r_m, r_n, r_f _, r_s, trivial⟩⟩, ⟨⟨r_e, r_m, trivial⟩, ⟨⟨⟨r_a (trivial), r_f _, r_a (trivial), r_m, r_n, r_f _, r_l, r_c ve_bp, r_m, r_n, r_f _, r_f _, r_l, r_m, r_n, r_f _, r_l, r_a (eqv_build _ rfl _), r_c ve_cm, r_c ve_bh, trivial⟩, ⟨⟨r_m, r_m, r_n, r_f _, r_l, r_m, r_n, r_f _, r_l, r_a (eqv_build _ rfl _), r_c ve_ck, r_a (trivial), r_c ve_bg, r_a (eqv_build _ rfl _), r_n, r_f _, r_a (trivial), trivial⟩, ⟨r_m, r_n, r_f _, r_s, trivial⟩⟩⟩, ⟨⟨r_e, r_m, trivial⟩, ⟨⟨⟨r_a (trivial), r_m, r_n, r_f _, r_f _, r_l, r_m, r_c ve_ap, r_c ve_bh, trivial⟩, ⟨⟨r_m, trivial⟩, trivial⟩⟩, ⟨⟨r_m, r_n, r_f _, r_l, r_a (trivial), r_c ve_ca, r_m, trivial⟩, trivial⟩⟩⟩⟩⟩⟩⟩⟩⟩⟩⟩⟩⟩⟩⟩⟩, ⟨⟨r_m, trivial⟩, trivial⟩⟩⟩
theorem ve_an : EvOk s_an v_an := EvOk.of (evFn_sound (C := cx_an) xt_an xr_an xo_an) q_an
attribute [irreducible] w_an_j1b w_an_j1 w_an s_an
def w_cg_j1b (K : Value → Mem → Prop) (v0 v11 : Value) (c2 : List Value) (σ : Mem) : Prop :=xIf v11
 (xF (fBuild [(0, 1), (1, 1)] [.int .i64 0, .int .i64 0] []) [] fun v12 =>xC (gStore 2 [(locP 2), v12] c2) fun c2 =>xF fMove [.bool false] fun v3 =>xO (gLoad 2 true [(locP 2)] c2) fun r2 =>K (.tuple #[r2, v3]) σ)
 (xF fMove [v0] fun v13 =>xF (fBin .and .no) [v13, .int .u64 65535] fun v14 =>xF (fConv .i64) [v14] fun v15 =>xF fMove [v0] fun v16 =>xF (fBin .shr .no) [v16, .int .u64 16] fun v17 =>xF (fConv .i64) [v17] fun v18 =>xF (fBuild [(0, 1), (1, 1)] [.int .i64 0, .int .i64 0] [0, 1]) [v15, v18] fun v19 =>xC (gStore 2 [(locP 2), v19] c2) fun c2 =>xF fMove [.bool true] fun v3 =>xO (gLoad 2 true [(locP 2)] c2) fun r2 =>K (.tuple #[r2, v3]) σ)
def w_cg_j1 (K : Value → Mem → Prop) (ts : List Value) (ls : List (List Value)) (σ : Mem) : Prop := w_cg_j1b K (ts.getD 0 poison) (ts.getD 1 poison) (ls.getD 0 []) σ
def w_cg (a0 : Value) (K : Value → Mem → Prop) (σ : Mem) : Prop :=if true = true then (xC (gAlloc [.int .i64 0, .int .i64 0] [] []) fun c2 =>xF fMove [.bool false] fun v3 =>xJoin (w_cg_j1 K) fun J1 =>xF fMove [a0] fun v4 =>xF (fBin .shr .no) [v4, .int .u64 32] fun v5 =>xF (fBin .neq .no) [v5, .int .u64 0] fun v6 =>xF fMove [v6] fun v7 =>xIf v7
 (xF fPick [.bool true, .bool true, undef] fun v11 =>J1 [a0, v11] [c2] σ)
 (xF fMove [a0] fun v8 =>xF (fBin .shr .no) [v8, .int .u64 16] fun v9 =>xF (fBin .eql .no) [v9, .int .u64 0] fun v10 =>xF fPick [.bool false, .bool true, v10] fun v11 =>J1 [a0, v11] [c2] σ)) else False
def s_cg : Spec := fun args K σ => match args with
  | [a0] => w_cg a0 K σ
  | _ => False
noncomputable def cx_cg : Cx := { P := Try.prog, T := [], loc := [(2, 2)], eqt := [], n := 20, keep := [(1000003, [0, 11], [2])] }
theorem q_cg : FnS cx_cg Try.f98 (bodyOf Try.f98) 1 = s_cg := by
  funext args K σ
  rcases args with _ | ⟨a0, _ | ⟨b, r⟩⟩ <;> kernel_rfl
theorem e_cg : Entry Try.prog 98 .none s_cg :=
  entry (C := cx_cg) TOk.nil mixedOk Try.func98 (by kernel_rfl) (by kernel_rfl) (by kernel_rfl) q_cg
def xl_cg : List (Nat × Nat) := [(2, 2)]
noncomputable def xc_cg : XC XN :=
(.seq none
 (.reg [zy xl_cg (.la 2 [.int .i64 0, .int .i64 0]) 2 [],
  zc 3 (.bool false)])
 (.seq none
 (.seq (some ([0, 11], [2]))
 (.reg [zM 4 0,
  zy xl_cg (.f (fBin .shr .no)) 5 [.tmp 4, .const (.int .u64 32)],
  zb .neq rNeq 6 [.tmp 5, .const (.int .u64 0)],
  zM 7 6,
  ⟨(some (4, 3, false, some 7)), some 8, [.tmp 0], ⟨.f fMove, rMove⟩⟩,
  ⟨(some (5, 3, false, some 7)), some 9, [.tmp 8, (.const (.int .u64 16))], ⟨.f (fBin .shr .no), rAny xl_cg (.f (fBin .shr .no))⟩⟩,
  ⟨(some (6, 3, false, some 7)), some 10, [.tmp 9, (.const (.int .u64 0))], ⟨.f (fBin .eql .no), rEql⟩⟩,
  zz (.f fPick) rPick (some 11) [.tmp 7, .const (.bool true), .tmp 10]])
 (.cond (.tmp 11)
 (.seq none
 (.reg [zy xl_cg (.f (fBuild [(0, 1), (1, 1)] [.int .i64 0, .int .i64 0] [])) 12 [],
  zY xl_cg (.ls 2 2) [.tmp 2, .tmp 12],
  zc 3 (.bool false)])
 .ret)
 .skip))
 (.seq none
 (.reg [zM 13 0,
  zy xl_cg (.band .no) 14 [.tmp 13, .const (.int .u64 65535)],
  zz (.f (fConv .i64)) (rConv .i64) (some 15) [.tmp 14],
  zM 16 0,
  zy xl_cg (.f (fBin .shr .no)) 17 [.tmp 16, .const (.int .u64 16)],
  zz (.f (fConv .i64)) (rConv .i64) (some 18) [.tmp 17],
  zy xl_cg (.f (fBuild [(0, 1), (1, 1)] [.int .i64 0, .int .i64 0] [0, 1])) 19 [.tmp 15, .tmp 18],
  zY xl_cg (.ls 2 2) [.tmp 2, .tmp 19],
  zc 3 (.bool true)])
 .ret)))
noncomputable def v_cg : EvF := evFn 1 xc_cg [.c 2 2 2 true, .t 3]
theorem xt_cg : toC cx_cg (bodyOf Try.f98) = some (xc_cg.map XN.sm) := by kernel_rfl
theorem xr_cg : toR cx_cg Try.f98.results.toList = some [.c 2 2 2 true, .t 3] := by kernel_rfl
theorem xo_cg : xc_cg.ok xl_cg := ⟨⟨r_a (trivial), r_m, trivial⟩, ⟨⟨⟨r_m, r_a (eqv_bin _ _), rNeq_ok, r_m, r_m, r_a (eqv_bin _ _), r_e, r_p, trivial⟩, ⟨⟨⟨r_a (eqv_build _ rfl _), r_a (trivial), r_m, trivial⟩, trivial⟩, trivial⟩⟩, ⟨⟨r_m, r_a (trivial), r_v _, r_m, r_a (eqv_bin _ _), r_v _, r_a (eqv_build _ rfl _), r_a (trivial), r_m, trivial⟩, trivial⟩⟩⟩
theorem ve_cg : EvOk s_cg v_cg := EvOk.of (evFn_sound (C := cx_cg) xt_cg xr_cg xo_cg) q_cg
attribute [irreducible] w_cg_j1b w_cg_j1 w_cg s_cg
def w_au (a0 a1 : Value) (K : Value → Mem → Prop) (σ : Mem) : Prop :=xC (gBox 9 [a1] []) fun c3 =>xF fMove [.bool false] fun v4 =>xF fMove [a0] fun v5 =>xO (gLoad 9 true [(locP 3)] c3) fun v6 =>s_bg [v6] (fun v7 σ =>xF (fBuild [(0, 1), (1, 1), (2, 1), (3, 1)] [.int .i64 0, .int .u64 0, .int .i64 0, .int .i64 0] [0, 3]) [.int .i64 3, v7] fun v8 =>xF fNil [v5] fun v9 =>xF (fFld 9) [v9] fun v10 =>hStore 4 [v10, v8] (fun _v σ =>xF fMove [.bool true] fun v4 =>K v4 σ) σ) σ
def s_au : Spec := fun args K σ => match args with
  | [a0, a1] => w_au a0 a1 K σ
  | _ => False
noncomputable def cx_au : Cx := { P := Try.prog, T := [(17, .read, s_bg)], loc := [(3, 3)], eqt := [], n := 11, keep := [] }
theorem q_au : FnS cx_au Try.f92 (bodyOf Try.f92) 2 = s_au := by
  funext args K σ
  rcases args with _ | ⟨a0, _ | ⟨a1, _ | ⟨b, r⟩⟩⟩ <;> kernel_rfl
theorem e_au : Entry Try.prog 92 .write s_au :=
  entry (C := cx_au) (TOk.cons e_bg TOk.nil) mixedOk Try.func92 (by kernel_rfl) (by kernel_rfl) (by kernel_rfl) q_au
def xl_au : List (Nat × Nat) := [(3, 3)]
noncomputable def xc_au : XC XN :=
(.seq none
 (.reg [zy xl_au (.lb 3 9) 3 [.tmp 1],
  zc 4 (.bool false)])
 (.seq none
 (.reg [zM 5 0,
  zy xl_au (.lr 3 9 true) 6 [.tmp 3],
  zk .read s_bg v_bg 7 [.tmp 6],
  zy xl_au (.f (fBuild [(0, 1), (1, 1), (2, 1), (3, 1)] [.int .i64 0, .int .u64 0, .int .i64 0, .int .i64 0] [0, 3])) 8 [.const (.int .i64 3), .tmp 7],
  zN 9 5,
  zF 9 10 9,
  zY xl_au (.store 4) [.tmp 10, .tmp 8]])
 (.seq none
 (.reg [zc 4 (.bool true)])
 .ret)))
noncomputable def v_au : EvF := evFn 2 xc_au [.t 4]
theorem xt_au : toC cx_au (bodyOf Try.f92) = some (xc_au.map XN.sm) := by kernel_rfl
theorem xr_au : toR cx_au Try.f92.results.toList = some [.t 4] := by kernel_rfl
theorem xo_au : xc_au.ok xl_au := ⟨⟨r_a (trivial), r_m, trivial⟩, ⟨⟨r_m, r_a (trivial), r_c ve_bg, r_a (eqv_build _ rfl _), r_n, r_f _, r_a (trivial), trivial⟩, ⟨⟨r_m, trivial⟩, trivial⟩⟩⟩
theorem ve_au : EvOk s_au v_au := EvOk.of (evFn_sound (C := cx_au) xt_au xr_au xo_au) q_au
attribute [irreducible] w_au s_au
end Go.Fl
