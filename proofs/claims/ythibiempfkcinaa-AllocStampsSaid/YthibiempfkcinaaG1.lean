/- What each Go function that the law reaches does, read off its text by a program; that this is the function; the same for the closed evaluator. No condition. -/
import Derived.Test.YthibiempfkcinaaG0
namespace Go.Fl
open Go Go.Proofs
set_option linter.unusedVariables false
set_option maxRecDepth 10000000

/-! ### (*/place.Place).Spot -/
def w_place_Place_Spot_j1b (K : Value → Mem → Prop) (v0 v12 : Value) (c2 : List Value) (σ : Mem) : Prop :=
xIf v12
 (xF (fBuild [(0, 1), (1, 1)] [(.int .i64 0), (.int .i64 0)] []) [] fun v13 =>
xC (gStore 2 [(locP 2), v13] c2) fun c2 =>
xF fMove [(.bool false)] fun v3 =>
xO (gLoad 2 true [(locP 2)] c2) fun r2 =>
K (.tuple #[r2, v3]) σ)
 (xF fMove [v0] fun v14 =>
xF fNil [v14] fun v15 =>
xF (fFld 5) [v15] fun v16 =>
hLoad 2 true [v16] (fun v17 σ =>
xC (gStore 2 [(locP 2), v17] c2) fun c2 =>
xF fMove [(.bool true)] fun v3 =>
xO (gLoad 2 true [(locP 2)] c2) fun r2 =>
K (.tuple #[r2, v3]) σ) σ)

def w_place_Place_Spot_j1 (K : Value → Mem → Prop) (ts : List Value) (ls : List (List Value)) (σ : Mem) : Prop := w_place_Place_Spot_j1b K (ts.getD 0 poison) (ts.getD 1 poison) (ls.getD 0 []) σ

def w_place_Place_Spot (a0 : Value) (K : Value → Mem → Prop) (σ : Mem) : Prop :=
xF fMove [(.bool false)] fun v3 =>
xJoin (w_place_Place_Spot_j1 K) fun J1 =>
xF fMove [a0] fun v4 =>
xF (fBin .eql .ptr) [v4, (.pointer none)] fun v5 =>
xF fMove [v5] fun v6 =>
xIf v6
 (xF fPick [(.bool true), (.bool true), undef] fun v12 =>
J1 [a0, v12] [[(.int .i64 0), (.int .i64 0)]] σ)
 (xF fMove [a0] fun v7 =>
xF fNil [v7] fun v8 =>
xF (fFld 7) [v8] fun v9 =>
hLoad 1 false [v9] (fun v10 σ =>
xF (fUn .not) [v10] fun v11 =>
xF fPick [(.bool false), (.bool true), v11] fun v12 =>
J1 [a0, v12] [[(.int .i64 0), (.int .i64 0)]] σ) σ)

def s_place_Place_Spot : Spec := fun args K σ => match args with
  | [a0] => w_place_Place_Spot a0 K σ
  | _ => False

noncomputable def cx_place_Place_Spot : Cx := { P := Try.prog, T := [], loc := [(2, 2)], eqt := [(44, .ptr)], n := 18, keep := [(1000003, [0, 12], [2])] }
theorem q_place_Place_Spot : FnS cx_place_Place_Spot Try.f27 (bodyOf Try.f27) 1 = s_place_Place_Spot := by
  funext args K σ
  rcases args with _ | ⟨a0, _ | ⟨b, r⟩⟩ <;> kernel_rfl
theorem e_place_Place_Spot : Entry Try.prog 27 .read s_place_Place_Spot :=
  entry (C := cx_place_Place_Spot) TOk.nil mixedOk Try.func27 (by kernel_rfl) (by kernel_rfl) (by kernel_rfl) q_place_Place_Spot

def xl_place_Place_Spot : List (Nat × Nat) := [(2, 2)]
noncomputable def xc_place_Place_Spot : XC XN :=
(.seq none
 (.reg [⟨none, some 2, [], ⟨.la 2 [(.int .i64 0), (.int .i64 0)], rAny xl_place_Place_Spot (.la 2 [(.int .i64 0), (.int .i64 0)])⟩⟩,
  ⟨none, some 3, [(.const (.bool false))], ⟨.f fMove, rMove⟩⟩])
 (.seq none
 (.seq (some ([0, 12], [2]))
 (.reg [⟨none, some 4, [(.tmp 0)], ⟨.f fMove, rMove⟩⟩,
  ⟨none, some 5, [(.tmp 4), (.const (.pointer none))], ⟨.f (fBin .eql .ptr), rAny xl_place_Place_Spot (.f (fBin .eql .ptr))⟩⟩,
  ⟨none, some 6, [(.tmp 5)], ⟨.f fMove, rMove⟩⟩,
  ⟨(some (3, 2, false, some 6)), some 7, [(.tmp 0)], ⟨.f fMove, rMove⟩⟩,
  ⟨(some (4, 2, false, some 6)), some 8, [(.tmp 7)], ⟨.f fNil, rNil⟩⟩,
  ⟨(some (5, 2, false, some 6)), some 9, [(.tmp 8)], ⟨.f (fFld 7), rFld 7⟩⟩,
  ⟨(some (6, 2, false, some 6)), some 10, [(.tmp 9)], ⟨.load 1 false, rLoad1⟩⟩,
  ⟨(some (7, 2, false, some 6)), some 11, [(.tmp 10)], ⟨.f (fUn .not), rNot⟩⟩,
  ⟨none, some 12, [(.tmp 6), (.const (.bool true)), (.tmp 11)], ⟨.f fPick, rPick⟩⟩])
 (.cond (.tmp 12)
 (.seq none
 (.reg [⟨none, some 13, [], ⟨.f (fBuild [(0, 1), (1, 1)] [(.int .i64 0), (.int .i64 0)] []), rAny xl_place_Place_Spot (.f (fBuild [(0, 1), (1, 1)] [(.int .i64 0), (.int .i64 0)] []))⟩⟩,
  ⟨none, none, [(.tmp 2), (.tmp 13)], ⟨.ls 2 2, rAny xl_place_Place_Spot (.ls 2 2)⟩⟩,
  ⟨none, some 3, [(.const (.bool false))], ⟨.f fMove, rMove⟩⟩])
 .ret)
 .skip))
 (.seq none
 (.reg [⟨none, some 14, [(.tmp 0)], ⟨.f fMove, rMove⟩⟩,
  ⟨none, some 15, [(.tmp 14)], ⟨.f fNil, rNil⟩⟩,
  ⟨none, some 16, [(.tmp 15)], ⟨.f (fFld 5), rFld 5⟩⟩,
  ⟨none, some 17, [(.tmp 16)], ⟨.load 2 true, rAny xl_place_Place_Spot (.load 2 true)⟩⟩,
  ⟨none, none, [(.tmp 2), (.tmp 17)], ⟨.ls 2 2, rAny xl_place_Place_Spot (.ls 2 2)⟩⟩,
  ⟨none, some 3, [(.const (.bool true))], ⟨.f fMove, rMove⟩⟩])
 .ret)))
noncomputable def v_place_Place_Spot : EvF := evFn 1 xc_place_Place_Spot [.c 2 2 2 true, .t 3]
theorem xt_place_Place_Spot : toC cx_place_Place_Spot (bodyOf Try.f27) = some (xc_place_Place_Spot.map XN.sm) := by kernel_rfl
theorem xr_place_Place_Spot : toR cx_place_Place_Spot Try.f27.results.toList = some [.c 2 2 2 true, .t 3] := by kernel_rfl
theorem xo_place_Place_Spot : xc_place_Place_Spot.ok xl_place_Place_Spot := ⟨⟨rAny_ok (trivial), rMove_ok, trivial⟩, ⟨⟨⟨rMove_ok, rAny_ok (eqv_bin _ _), rMove_ok, rMove_ok, rNil_ok, rFld_ok _, rLoad1_ok, rNot_ok, rPick_ok, trivial⟩, ⟨⟨⟨rAny_ok (eqv_build _ rfl _), rAny_ok (trivial), rMove_ok, trivial⟩, trivial⟩, trivial⟩⟩, ⟨⟨rMove_ok, rNil_ok, rFld_ok _, rAny_ok (trivial), rAny_ok (trivial), rMove_ok, trivial⟩, trivial⟩⟩⟩
theorem ve_place_Place_Spot : EvOk s_place_Place_Spot v_place_Place_Spot := EvOk.of (evFn_sound (C := cx_place_Place_Spot) xt_place_Place_Spot xr_place_Place_Spot xo_place_Place_Spot) q_place_Place_Spot

attribute [irreducible] w_place_Place_Spot_j1b w_place_Place_Spot_j1 w_place_Place_Spot s_place_Place_Spot

/-! ### /law07.get -/
def w_law07_get_j1b (K : Value → Mem → Prop) (v6 : Value) (c4 : List Value) (σ : Mem) : Prop :=
xF fMove [v6] fun v17 =>
s_place_Place_Spot [v17] (fun v18 σ =>
xF (fExt 0) [v18] fun v19 =>
xF (fExt 1) [v18] fun v20 =>
xC (gStore 2 [(locP 4), v19] c4) fun c4 =>
xF fMove [v20] fun v5 =>
xO (gLoad 2 true [(locP 4)] c4) fun r4 =>
K (.tuple #[r4, v5]) σ) σ

def w_law07_get_j1 (K : Value → Mem → Prop) (ts : List Value) (ls : List (List Value)) (σ : Mem) : Prop := w_law07_get_j1b K (ts.getD 0 poison) (ls.getD 0 []) σ

def w_law07_get_l4b (K : Value → Mem → Prop) (J1 : List Value → List (List Value) → Mem → Prop) (R1 : List Value → List (List Value) → Mem → Prop) (v6 v7 : Value) (c2 c4 : List Value) (σ : Mem) : Prop :=
xF fMove [v7] fun v10 =>
xF (fBin .lss .no) [v10, (.int .i64 300)] fun v11 =>
xIf v11
 (xF fMove [v6] fun v14 =>
xO (gLoad 9 true [(locP 2)] c2) fun v15 =>
s_place_Place_Step [v14, v15] (fun v16 σ =>
xIf v16
 (J1 [v6] [c4] σ)
 (xF fMove [v7] fun v12 =>
xF (fBin .add .no) [v12, (.int .i64 1)] fun v13 =>
xF fMove [v13] fun v7 =>
R1 [v6, v7] [c2, c4] σ)) σ)
 (J1 [v6] [c4] σ)

def w_law07_get_l4 (K : Value → Mem → Prop) (J1 : List Value → List (List Value) → Mem → Prop) (R1 : List Value → List (List Value) → Mem → Prop) (ts : List Value) (ls : List (List Value)) (σ : Mem) : Prop := w_law07_get_l4b K J1 R1 (ts.getD 0 poison) (ts.getD 1 poison) (ls.getD 0 []) (ls.getD 1 []) σ

def w_law07_get (a0 a1 : Value) (K : Value → Mem → Prop) (σ : Mem) : Prop :=
xC (gBox 9 [a0] []) fun c2 =>
xF fMove [(.bool false)] fun v5 =>
xF fMove [a1] fun v8 =>
s_place_New [v8] (fun v9 σ =>
xF fMove [v9] fun v6 =>
xJoin (w_law07_get_j1 K) fun J1 =>
xF fMove [(.int .i64 0)] fun v7 =>
xLoop (w_law07_get_l4 K J1) [v6, v7] [c2, [(.int .i64 0), (.int .i64 0)]] σ) σ

def s_law07_get : Spec := fun args K σ => match args with
  | [a0, a1] => w_law07_get a0 a1 K σ
  | _ => False

noncomputable def cx_law07_get : Cx := { P := Try.prog, T := [(21, .write, s_place_New), (22, .write, s_place_Place_Step), (27, .read, s_place_Place_Spot)], loc := [(2, 2), (4, 4)], eqt := [], n := 21, keep := [(4, [6, 7], [2, 4]), (1000007, [6], [4])] }
theorem q_law07_get : FnS cx_law07_get Try.f16 (bodyOf Try.f16) 2 = s_law07_get := by
  funext args K σ
  rcases args with _ | ⟨a0, _ | ⟨a1, _ | ⟨b, r⟩⟩⟩ <;> kernel_rfl
theorem e_law07_get : Entry Try.prog 16 .write s_law07_get :=
  entry (C := cx_law07_get) (TOk.cons e_place_New (TOk.cons e_place_Place_Step (TOk.cons e_place_Place_Spot TOk.nil))) mixedOk Try.func16 (by kernel_rfl) (by kernel_rfl) (by kernel_rfl) q_law07_get

def xl_law07_get : List (Nat × Nat) := [(2, 2), (4, 4)]
noncomputable def xc_law07_get : XC XN :=
(.seq none
 (.reg [⟨none, some 2, [(.tmp 0)], ⟨.lb 2 9, rAny xl_law07_get (.lb 2 9)⟩⟩,
  ⟨none, some 4, [], ⟨.la 4 [(.int .i64 0), (.int .i64 0)], rAny xl_law07_get (.la 4 [(.int .i64 0), (.int .i64 0)])⟩⟩,
  ⟨none, some 5, [(.const (.bool false))], ⟨.f fMove, rMove⟩⟩])
 (.seq none
 (.reg [⟨none, some 8, [(.tmp 1)], ⟨.f fMove, rMove⟩⟩,
  ⟨none, some 9, [(.tmp 8)], ⟨.call .write s_place_New v_place_New, rCall v_place_New⟩⟩,
  ⟨none, some 6, [(.tmp 9)], ⟨.f fMove, rMove⟩⟩])
 (.seq (some ([6], [4]))
 (.seq none
 (.reg [⟨none, some 7, [(.const (.int .i64 0))], ⟨.f fMove, rMove⟩⟩])
 (.block 0
 (.loop ([6, 7], [2, 4])
 (.seq none
 (.seq none
 (.reg [⟨none, some 10, [(.tmp 7)], ⟨.f fMove, rMove⟩⟩,
  ⟨none, some 11, [(.tmp 10), (.const (.int .i64 300))], ⟨.f (fBin .lss .no), rLss⟩⟩])
 (.cond (.tmp 11)
 .skip
 (.exit 0)))
 (.seq none
 (.block 1
 (.seq none
 (.reg [⟨none, some 14, [(.tmp 6)], ⟨.f fMove, rMove⟩⟩,
  ⟨none, some 15, [(.tmp 2)], ⟨.lr 2 9 true, rAny xl_law07_get (.lr 2 9 true)⟩⟩,
  ⟨none, some 16, [(.tmp 14), (.tmp 15)], ⟨.call .write s_place_Place_Step v_place_Place_Step, rCall v_place_Place_Step⟩⟩])
 (.cond (.tmp 16)
 (.exit 0)
 .skip)))
 (.reg [⟨none, some 12, [(.tmp 7)], ⟨.f fMove, rMove⟩⟩,
  ⟨none, some 13, [(.tmp 12), (.const (.int .i64 1))], ⟨.f (fBin .add .no), rAdd⟩⟩,
  ⟨none, some 7, [(.tmp 13)], ⟨.f fMove, rMove⟩⟩]))))))
 (.seq none
 (.reg [⟨none, some 17, [(.tmp 6)], ⟨.f fMove, rMove⟩⟩,
  ⟨none, some 18, [(.tmp 17)], ⟨.call .read s_place_Place_Spot v_place_Place_Spot, rCall v_place_Place_Spot⟩⟩,
  ⟨none, some 19, [(.tmp 18)], ⟨.f (fExt 0), rAny xl_law07_get (.f (fExt 0))⟩⟩,
  ⟨none, some 20, [(.tmp 18)], ⟨.f (fExt 1), rAny xl_law07_get (.f (fExt 1))⟩⟩,
  ⟨none, none, [(.tmp 4), (.tmp 19)], ⟨.ls 4 2, rAny xl_law07_get (.ls 4 2)⟩⟩,
  ⟨none, some 5, [(.tmp 20)], ⟨.f fMove, rMove⟩⟩])
 .ret))))
noncomputable def v_law07_get : EvF := evFn 2 xc_law07_get [.c 4 4 2 true, .t 5]
theorem xt_law07_get : toC cx_law07_get (bodyOf Try.f16) = some (xc_law07_get.map XN.sm) := by kernel_rfl
theorem xr_law07_get : toR cx_law07_get Try.f16.results.toList = some [.c 4 4 2 true, .t 5] := by kernel_rfl
theorem xo_law07_get : xc_law07_get.ok xl_law07_get := ⟨⟨rAny_ok (trivial), rAny_ok (trivial), rMove_ok, trivial⟩, ⟨⟨rMove_ok, rCall_ok ve_place_New, rMove_ok, trivial⟩, ⟨⟨⟨rMove_ok, trivial⟩, ⟨⟨⟨rMove_ok, rLss_ok, trivial⟩, ⟨trivial, trivial⟩⟩, ⟨⟨⟨rMove_ok, rAny_ok (trivial), rCall_ok ve_place_Place_Step, trivial⟩, ⟨trivial, trivial⟩⟩, ⟨rMove_ok, rAdd_ok, rMove_ok, trivial⟩⟩⟩⟩, ⟨⟨rMove_ok, rCall_ok ve_place_Place_Spot, rAny_ok (eqv_ext _), rAny_ok (eqv_ext _), rAny_ok (trivial), rMove_ok, trivial⟩, trivial⟩⟩⟩⟩
theorem ve_law07_get : EvOk s_law07_get v_law07_get := EvOk.of (evFn_sound (C := cx_law07_get) xt_law07_get xr_law07_get xo_law07_get) q_law07_get

attribute [irreducible] w_law07_get_j1b w_law07_get_j1 w_law07_get_l4b w_law07_get_l4 w_law07_get s_law07_get

/-! ### /law07.awake -/
def w_law07_awake_r (K : Value → Mem → Prop) (σ : Mem) : Prop :=
xF fMove [(.bool false)] fun v0 =>
s_law04_Arena [(.int .i64 1), (.int .i64 1), (.int .i64 2), (.int .i64 20)] (fun v8 σ =>
xF fMove [v8] fun v7 =>
xF (fExt 0) [v7] fun v9 =>
xF (fExt 1) [v7] fun v10 =>
xC (gStore 9 [(locP 1), v9] [(.int .i64 0), (.int .i64 0), (.int .i64 0), (.int .i64 0), (.int .i64 0), (.int .i64 0), (.int .i64 0), (.pointer none), (.int .i64 0)]) fun c1 =>
xF fMove [v10] fun v2 =>
xF fMove [v2] fun v11 =>
xF (fUn .not) [v11] fun v12 =>
xIf v12
 (xF fMove [(.bool false)] fun v0 =>
K v0 σ)
 (xO (gLoad 9 true [(locP 1)] c1) fun v14 =>
s_law07_get [v14, (.int .i64 0)] (fun v15 σ =>
xF fMove [v15] fun v13 =>
xF (fExt 0) [v13] fun v16 =>
xF (fExt 1) [v13] fun v17 =>
xC (gStore 2 [(locP 3), v16] [(.int .i64 0), (.int .i64 0)]) fun c3 =>
xF fMove [v17] fun v4 =>
xO (gLoad 9 true [(locP 1)] c1) fun v19 =>
s_law07_get [v19, (.int .i64 0)] (fun v20 σ =>
xF fMove [v20] fun v18 =>
xF (fExt 0) [v18] fun v21 =>
xF (fExt 1) [v18] fun v22 =>
xC (gStore 2 [(locP 5), v21] [(.int .i64 0), (.int .i64 0)]) fun c5 =>
xF fMove [v22] fun v6 =>
xF fMove [v4] fun v23 =>
xF fMove [v23] fun v24 =>
xIf v24
 (xF fMove [v6] fun v25 =>
xF fPick [(.bool true), v25, (.bool false)] fun v26 =>
xF fMove [v26] fun v27 =>
xIf v27
 (xF (fFld 0) [(locP 3)] fun v28 =>
xO (gLoad 1 false [v28] c3) fun v29 =>
xF (fFld 0) [(locP 1)] fun v30 =>
xO (gLoad 7 true [v30] c1) fun v31 =>
s_layout_Base [v31, (.int .i64 0)] (fun v32 σ =>
xF (fBin .eql .no) [v29, v32] fun v33 =>
xF fPick [(.bool true), v33, (.bool false)] fun v34 =>
xF fMove [v34] fun v35 =>
xIf v35
 (xF (fFld 0) [(locP 5)] fun v36 =>
xO (gLoad 1 false [v36] c5) fun v37 =>
xF (fFld 0) [(locP 3)] fun v38 =>
xO (gLoad 1 false [v38] c3) fun v39 =>
xF (fBin .add .no) [v39, (.int .i64 3)] fun v40 =>
xF (fBin .eql .no) [v37, v40] fun v41 =>
xF fPick [(.bool true), v41, (.bool false)] fun v42 =>
xF fMove [v42] fun v43 =>
xIf v43
 (xF (fFld 1) [(locP 5)] fun v44 =>
xO (gLoad 1 false [v44] c5) fun v45 =>
xF (fBin .eql .no) [v45, (.int .i64 0)] fun v46 =>
xF fPick [(.bool true), v46, (.bool false)] fun v47 =>
xF fMove [v47] fun v0 =>
K v0 σ)
 (xF fPick [(.bool false), undef, (.bool false)] fun v47 =>
xF fMove [v47] fun v0 =>
K v0 σ))
 (xF fPick [(.bool false), undef, (.bool false)] fun v42 =>
xF fMove [v42] fun v43 =>
xIf v43
 (xF (fFld 1) [(locP 5)] fun v44 =>
xO (gLoad 1 false [v44] c5) fun v45 =>
xF (fBin .eql .no) [v45, (.int .i64 0)] fun v46 =>
xF fPick [(.bool true), v46, (.bool false)] fun v47 =>
xF fMove [v47] fun v0 =>
K v0 σ)
 (xF fPick [(.bool false), undef, (.bool false)] fun v47 =>
xF fMove [v47] fun v0 =>
K v0 σ))) σ)
 (xF fPick [(.bool false), undef, (.bool false)] fun v34 =>
xF fMove [v34] fun v35 =>
xIf v35
 (xF (fFld 0) [(locP 5)] fun v36 =>
xO (gLoad 1 false [v36] c5) fun v37 =>
xF (fFld 0) [(locP 3)] fun v38 =>
xO (gLoad 1 false [v38] c3) fun v39 =>
xF (fBin .add .no) [v39, (.int .i64 3)] fun v40 =>
xF (fBin .eql .no) [v37, v40] fun v41 =>
xF fPick [(.bool true), v41, (.bool false)] fun v42 =>
xF fMove [v42] fun v43 =>
xIf v43
 (xF (fFld 1) [(locP 5)] fun v44 =>
xO (gLoad 1 false [v44] c5) fun v45 =>
xF (fBin .eql .no) [v45, (.int .i64 0)] fun v46 =>
xF fPick [(.bool true), v46, (.bool false)] fun v47 =>
xF fMove [v47] fun v0 =>
K v0 σ)
 (xF fPick [(.bool false), undef, (.bool false)] fun v47 =>
xF fMove [v47] fun v0 =>
K v0 σ))
 (xF fPick [(.bool false), undef, (.bool false)] fun v42 =>
xF fMove [v42] fun v43 =>
xIf v43
 (xF (fFld 1) [(locP 5)] fun v44 =>
xO (gLoad 1 false [v44] c5) fun v45 =>
xF (fBin .eql .no) [v45, (.int .i64 0)] fun v46 =>
xF fPick [(.bool true), v46, (.bool false)] fun v47 =>
xF fMove [v47] fun v0 =>
K v0 σ)
 (xF fPick [(.bool false), undef, (.bool false)] fun v47 =>
xF fMove [v47] fun v0 =>
K v0 σ))))
 (xF fPick [(.bool false), undef, (.bool false)] fun v26 =>
xF fMove [v26] fun v27 =>
xIf v27
 (xF (fFld 0) [(locP 3)] fun v28 =>
xO (gLoad 1 false [v28] c3) fun v29 =>
xF (fFld 0) [(locP 1)] fun v30 =>
xO (gLoad 7 true [v30] c1) fun v31 =>
s_layout_Base [v31, (.int .i64 0)] (fun v32 σ =>
xF (fBin .eql .no) [v29, v32] fun v33 =>
xF fPick [(.bool true), v33, (.bool false)] fun v34 =>
xF fMove [v34] fun v35 =>
xIf v35
 (xF (fFld 0) [(locP 5)] fun v36 =>
xO (gLoad 1 false [v36] c5) fun v37 =>
xF (fFld 0) [(locP 3)] fun v38 =>
xO (gLoad 1 false [v38] c3) fun v39 =>
xF (fBin .add .no) [v39, (.int .i64 3)] fun v40 =>
xF (fBin .eql .no) [v37, v40] fun v41 =>
xF fPick [(.bool true), v41, (.bool false)] fun v42 =>
xF fMove [v42] fun v43 =>
xIf v43
 (xF (fFld 1) [(locP 5)] fun v44 =>
xO (gLoad 1 false [v44] c5) fun v45 =>
xF (fBin .eql .no) [v45, (.int .i64 0)] fun v46 =>
xF fPick [(.bool true), v46, (.bool false)] fun v47 =>
xF fMove [v47] fun v0 =>
K v0 σ)
 (xF fPick [(.bool false), undef, (.bool false)] fun v47 =>
xF fMove [v47] fun v0 =>
K v0 σ))
 (xF fPick [(.bool false), undef, (.bool false)] fun v42 =>
xF fMove [v42] fun v43 =>
xIf v43
 (xF (fFld 1) [(locP 5)] fun v44 =>
xO (gLoad 1 false [v44] c5) fun v45 =>
xF (fBin .eql .no) [v45, (.int .i64 0)] fun v46 =>
xF fPick [(.bool true), v46, (.bool false)] fun v47 =>
xF fMove [v47] fun v0 =>
K v0 σ)
 (xF fPick [(.bool false), undef, (.bool false)] fun v47 =>
xF fMove [v47] fun v0 =>
K v0 σ))) σ)
 (xF fPick [(.bool false), undef, (.bool false)] fun v34 =>
xF fMove [v34] fun v35 =>
xIf v35
 (xF (fFld 0) [(locP 5)] fun v36 =>
xO (gLoad 1 false [v36] c5) fun v37 =>
xF (fFld 0) [(locP 3)] fun v38 =>
xO (gLoad 1 false [v38] c3) fun v39 =>
xF (fBin .add .no) [v39, (.int .i64 3)] fun v40 =>
xF (fBin .eql .no) [v37, v40] fun v41 =>
xF fPick [(.bool true), v41, (.bool false)] fun v42 =>
xF fMove [v42] fun v43 =>
xIf v43
 (xF (fFld 1) [(locP 5)] fun v44 =>
xO (gLoad 1 false [v44] c5) fun v45 =>
xF (fBin .eql .no) [v45, (.int .i64 0)] fun v46 =>
xF fPick [(.bool true), v46, (.bool false)] fun v47 =>
xF fMove [v47] fun v0 =>
K v0 σ)
 (xF fPick [(.bool false), undef, (.bool false)] fun v47 =>
xF fMove [v47] fun v0 =>
K v0 σ))
 (xF fPick [(.bool false), undef, (.bool false)] fun v42 =>
xF fMove [v42] fun v43 =>
xIf v43
 (xF (fFld 1) [(locP 5)] fun v44 =>
xO (gLoad 1 false [v44] c5) fun v45 =>
xF (fBin .eql .no) [v45, (.int .i64 0)] fun v46 =>
xF fPick [(.bool true), v46, (.bool false)] fun v47 =>
xF fMove [v47] fun v0 =>
K v0 σ)
 (xF fPick [(.bool false), undef, (.bool false)] fun v47 =>
xF fMove [v47] fun v0 =>
K v0 σ))))) σ) σ)) σ

def s_law07_awake_r : Spec := fun args K σ => match args with
  | [] => w_law07_awake_r  K σ
  | _ => False

noncomputable def cx_law07_awake_r : Cx := { P := Try.prog, T := [(13, .write, s_law04_Arena), (16, .write, s_law07_get), (17, .none, s_layout_Base)], loc := [(1, 1), (3, 3), (5, 5), (28, 3), (30, 1), (36, 5), (38, 3), (44, 5)], eqt := [], n := 48, keep := [] }
theorem q_law07_awake_r : FnS cx_law07_awake_r Try.f14 (bodyOf Try.f14) 0 = s_law07_awake_r := by
  funext args K σ
  rcases args with _ | ⟨b, r⟩ <;> kernel_rfl
theorem e_law07_awake_r : Entry Try.prog 14 .write s_law07_awake_r :=
  entry (C := cx_law07_awake_r) (TOk.cons e_law04_Arena (TOk.cons e_law07_get (TOk.cons e_layout_Base TOk.nil))) mixedOk Try.func14 (by kernel_rfl) (by kernel_rfl) (by kernel_rfl) q_law07_awake_r

def xl_law07_awake_r : List (Nat × Nat) := [(1, 1), (3, 3), (5, 5), (28, 3), (30, 1), (36, 5), (38, 3), (44, 5)]
noncomputable def xc_law07_awake_r : XC XN :=
(.seq none
 (.reg [⟨none, some 0, [(.const (.bool false))], ⟨.f fMove, rMove⟩⟩])
 (.seq none
 (.reg [⟨none, some 8, [(.const (.int .i64 1)), (.const (.int .i64 1)), (.const (.int .i64 2)), (.const (.int .i64 20))], ⟨.call .write s_law04_Arena v_law04_Arena, rCall v_law04_Arena⟩⟩,
  ⟨none, some 7, [(.tmp 8)], ⟨.f fMove, rMove⟩⟩,
  ⟨none, some 9, [(.tmp 7)], ⟨.f (fExt 0), rAny xl_law07_awake_r (.f (fExt 0))⟩⟩,
  ⟨none, some 10, [(.tmp 7)], ⟨.f (fExt 1), rAny xl_law07_awake_r (.f (fExt 1))⟩⟩,
  ⟨none, some 1, [], ⟨.la 1 [(.int .i64 0), (.int .i64 0), (.int .i64 0), (.int .i64 0), (.int .i64 0), (.int .i64 0), (.int .i64 0), (.pointer none), (.int .i64 0)], rAny xl_law07_awake_r (.la 1 [(.int .i64 0), (.int .i64 0), (.int .i64 0), (.int .i64 0), (.int .i64 0), (.int .i64 0), (.int .i64 0), (.pointer none), (.int .i64 0)])⟩⟩,
  ⟨none, none, [(.tmp 1), (.tmp 9)], ⟨.ls 1 9, rAny xl_law07_awake_r (.ls 1 9)⟩⟩,
  ⟨none, some 2, [(.tmp 10)], ⟨.f fMove, rMove⟩⟩])
 (.seq none
 (.seq none
 (.reg [⟨none, some 11, [(.tmp 2)], ⟨.f fMove, rMove⟩⟩,
  ⟨none, some 12, [(.tmp 11)], ⟨.f (fUn .not), rNot⟩⟩])
 (.cond (.tmp 12)
 (.seq none
 (.reg [⟨none, some 0, [(.const (.bool false))], ⟨.f fMove, rMove⟩⟩])
 .ret)
 .skip))
 (.seq none
 (.reg [⟨none, some 14, [(.tmp 1)], ⟨.lr 1 9 true, rAny xl_law07_awake_r (.lr 1 9 true)⟩⟩,
  ⟨none, some 15, [(.tmp 14), (.const (.int .i64 0))], ⟨.call .write s_law07_get v_law07_get, rCall v_law07_get⟩⟩,
  ⟨none, some 13, [(.tmp 15)], ⟨.f fMove, rMove⟩⟩,
  ⟨none, some 16, [(.tmp 13)], ⟨.f (fExt 0), rAny xl_law07_awake_r (.f (fExt 0))⟩⟩,
  ⟨none, some 17, [(.tmp 13)], ⟨.f (fExt 1), rAny xl_law07_awake_r (.f (fExt 1))⟩⟩,
  ⟨none, some 3, [], ⟨.la 3 [(.int .i64 0), (.int .i64 0)], rAny xl_law07_awake_r (.la 3 [(.int .i64 0), (.int .i64 0)])⟩⟩,
  ⟨none, none, [(.tmp 3), (.tmp 16)], ⟨.ls 3 2, rAny xl_law07_awake_r (.ls 3 2)⟩⟩,
  ⟨none, some 4, [(.tmp 17)], ⟨.f fMove, rMove⟩⟩])
 (.seq none
 (.reg [⟨none, some 19, [(.tmp 1)], ⟨.lr 1 9 true, rAny xl_law07_awake_r (.lr 1 9 true)⟩⟩,
  ⟨none, some 20, [(.tmp 19), (.const (.int .i64 0))], ⟨.call .write s_law07_get v_law07_get, rCall v_law07_get⟩⟩,
  ⟨none, some 18, [(.tmp 20)], ⟨.f fMove, rMove⟩⟩,
  ⟨none, some 21, [(.tmp 18)], ⟨.f (fExt 0), rAny xl_law07_awake_r (.f (fExt 0))⟩⟩,
  ⟨none, some 22, [(.tmp 18)], ⟨.f (fExt 1), rAny xl_law07_awake_r (.f (fExt 1))⟩⟩,
  ⟨none, some 5, [], ⟨.la 5 [(.int .i64 0), (.int .i64 0)], rAny xl_law07_awake_r (.la 5 [(.int .i64 0), (.int .i64 0)])⟩⟩,
  ⟨none, none, [(.tmp 5), (.tmp 21)], ⟨.ls 5 2, rAny xl_law07_awake_r (.ls 5 2)⟩⟩,
  ⟨none, some 6, [(.tmp 22)], ⟨.f fMove, rMove⟩⟩])
 (.seq none
 (.reg [⟨none, some 23, [(.tmp 4)], ⟨.f fMove, rMove⟩⟩,
  ⟨none, some 24, [(.tmp 23)], ⟨.f fMove, rMove⟩⟩,
  ⟨(some (2, 1, true, some 24)), some 25, [(.tmp 6)], ⟨.f fMove, rMove⟩⟩,
  ⟨none, some 26, [(.tmp 24), (.tmp 25), (.const (.bool false))], ⟨.f fPick, rPick⟩⟩,
  ⟨none, some 27, [(.tmp 26)], ⟨.f fMove, rMove⟩⟩,
  ⟨(some (5, 4, true, some 27)), some 28, [(.tmp 3)], ⟨.f (fFld 0), rFld 0⟩⟩,
  ⟨(some (6, 4, true, some 27)), some 29, [(.tmp 28)], ⟨.lr 3 1 false, rLr1 3⟩⟩,
  ⟨(some (7, 4, true, some 27)), some 30, [(.tmp 1)], ⟨.f (fFld 0), rFld 0⟩⟩,
  ⟨(some (8, 4, true, some 27)), some 31, [(.tmp 30)], ⟨.lr 1 7 true, rAny xl_law07_awake_r (.lr 1 7 true)⟩⟩,
  ⟨(some (9, 4, true, some 27)), some 32, [(.tmp 31), (.const (.int .i64 0))], ⟨.call .none s_layout_Base v_layout_Base, rCall v_layout_Base⟩⟩,
  ⟨(some (10, 4, true, some 27)), some 33, [(.tmp 29), (.tmp 32)], ⟨.f (fBin .eql .no), rEql⟩⟩,
  ⟨none, some 34, [(.tmp 27), (.tmp 33), (.const (.bool false))], ⟨.f fPick, rPick⟩⟩,
  ⟨none, some 35, [(.tmp 34)], ⟨.f fMove, rMove⟩⟩,
  ⟨(some (13, 12, true, some 35)), some 36, [(.tmp 5)], ⟨.f (fFld 0), rFld 0⟩⟩,
  ⟨(some (14, 12, true, some 35)), some 37, [(.tmp 36)], ⟨.lr 5 1 false, rLr1 5⟩⟩,
  ⟨(some (15, 12, true, some 35)), some 38, [(.tmp 3)], ⟨.f (fFld 0), rFld 0⟩⟩,
  ⟨(some (16, 12, true, some 35)), some 39, [(.tmp 38)], ⟨.lr 3 1 false, rLr1 3⟩⟩,
  ⟨(some (17, 12, true, some 35)), some 40, [(.tmp 39), (.const (.int .i64 3))], ⟨.f (fBin .add .no), rAdd⟩⟩,
  ⟨(some (18, 12, true, some 35)), some 41, [(.tmp 37), (.tmp 40)], ⟨.f (fBin .eql .no), rEql⟩⟩,
  ⟨none, some 42, [(.tmp 35), (.tmp 41), (.const (.bool false))], ⟨.f fPick, rPick⟩⟩,
  ⟨none, some 43, [(.tmp 42)], ⟨.f fMove, rMove⟩⟩,
  ⟨(some (21, 20, true, some 43)), some 44, [(.tmp 5)], ⟨.f (fFld 1), rFld 1⟩⟩,
  ⟨(some (22, 20, true, some 43)), some 45, [(.tmp 44)], ⟨.lr 5 1 false, rLr1 5⟩⟩,
  ⟨(some (23, 20, true, some 43)), some 46, [(.tmp 45), (.const (.int .i64 0))], ⟨.f (fBin .eql .no), rEql⟩⟩,
  ⟨none, some 47, [(.tmp 43), (.tmp 46), (.const (.bool false))], ⟨.f fPick, rPick⟩⟩,
  ⟨none, some 0, [(.tmp 47)], ⟨.f fMove, rMove⟩⟩])
 .ret))))))
noncomputable def v_law07_awake_r : EvF := evFn 0 xc_law07_awake_r [.t 0]
theorem xt_law07_awake_r : toC cx_law07_awake_r (bodyOf Try.f14) = some (xc_law07_awake_r.map XN.sm) := by kernel_rfl
theorem xr_law07_awake_r : toR cx_law07_awake_r Try.f14.results.toList = some [.t 0] := by kernel_rfl
theorem xo_law07_awake_r : xc_law07_awake_r.ok xl_law07_awake_r := ⟨⟨rMove_ok, trivial⟩, ⟨⟨rCall_ok ve_law04_Arena, rMove_ok, rAny_ok (eqv_ext _), rAny_ok (eqv_ext _), rAny_ok (trivial), rAny_ok (trivial), rMove_ok, trivial⟩, ⟨⟨⟨rMove_ok, rNot_ok, trivial⟩, ⟨⟨⟨rMove_ok, trivial⟩, trivial⟩, trivial⟩⟩, ⟨⟨rAny_ok (trivial), rCall_ok ve_law07_get, rMove_ok, rAny_ok (eqv_ext _), rAny_ok (eqv_ext _), rAny_ok (trivial), rAny_ok (trivial), rMove_ok, trivial⟩, ⟨⟨rAny_ok (trivial), rCall_ok ve_law07_get, rMove_ok, rAny_ok (eqv_ext _), rAny_ok (eqv_ext _), rAny_ok (trivial), rAny_ok (trivial), rMove_ok, trivial⟩, ⟨⟨rMove_ok, rMove_ok, rMove_ok, rPick_ok, rMove_ok, rFld_ok _, rLr1_ok _, rFld_ok _, rAny_ok (trivial), rCall_ok ve_layout_Base, rEql_ok, rPick_ok, rMove_ok, rFld_ok _, rLr1_ok _, rFld_ok _, rLr1_ok _, rAdd_ok, rEql_ok, rPick_ok, rMove_ok, rFld_ok _, rLr1_ok _, rEql_ok, rPick_ok, rMove_ok, trivial⟩, trivial⟩⟩⟩⟩⟩⟩
theorem ve_law07_awake_r : EvOk s_law07_awake_r v_law07_awake_r := EvOk.of (evFn_sound (C := cx_law07_awake_r) xt_law07_awake_r xr_law07_awake_r xo_law07_awake_r) q_law07_awake_r

theorem a_law07_awake : v_law07_awake_r [] ⟨.e, 0⟩ (fun v _ => isT v) = true := by kernel_rfl
def s_law07_awake : Spec := sTrue
theorem e_law07_awake : Entry Try.prog 14 .none s_law07_awake := e_law07_awake_r.awake ve_law07_awake_r a_law07_awake
noncomputable def v_law07_awake : EvF := vTrue
theorem ve_law07_awake : EvOk s_law07_awake v_law07_awake := vTrue_ok

attribute [irreducible] w_law07_awake_r s_law07_awake_r s_law07_awake

/-! ### /ref04.Room -/
def w_ref04_Room (a0 : Value) (K : Value → Mem → Prop) (σ : Mem) : Prop :=
xF fMove [(.int .i64 0)] fun v2 =>
hBuildS 1 4 [(.int .i64 0)] [0, 1, 2, 3] [(.int .i64 3), (.int .i64 5), (.int .i64 9), (.int .i64 17)] (fun v3 σ =>
xF fMove [a0] fun v4 =>
xF (fIxS 1) [v3, v4] fun v5 =>
hLoad 1 false [v5] (fun v6 σ =>
xF fMove [v6] fun v2 =>
K v2 σ) σ) σ

def s_ref04_Room : Spec := fun args K σ => match args with
  | [a0] => w_ref04_Room a0 K σ
  | _ => False

noncomputable def cx_ref04_Room : Cx := { P := Try.prog, T := [], loc := [], eqt := [], n := 7, keep := [] }
theorem q_ref04_Room : FnS cx_ref04_Room Try.f15 (bodyOf Try.f15) 1 = s_ref04_Room := by
  funext args K σ
  rcases args with _ | ⟨a0, _ | ⟨b, r⟩⟩ <;> kernel_rfl
theorem e_ref04_Room : Entry Try.prog 15 .write s_ref04_Room :=
  entry (C := cx_ref04_Room) TOk.nil mixedOk Try.func15 (by kernel_rfl) (by kernel_rfl) (by kernel_rfl) q_ref04_Room


attribute [irreducible] w_ref04_Room s_ref04_Room

/-! ### (*/mem.Mem).Peek -/
def w_mem_Mem_Peek_j1b (K : Value → Mem → Prop) (v0 v1 v19 : Value) (σ : Mem) : Prop :=
xIf v19
 (xF fMove [(.int .u64 0)] fun v4 =>
K v4 σ)
 (xF fMove [v0] fun v20 =>
xF fNil [v20] fun v21 =>
xF (fFld 0) [v21] fun v22 =>
hLoad 1 false [v22] (fun v23 σ =>
xF fMove [v1] fun v24 =>
xF (fIxS 1) [v23, v24] fun v25 =>
hLoad 1 false [v25] (fun v26 σ =>
xF fMove [v26] fun v4 =>
K v4 σ) σ) σ)

def w_mem_Mem_Peek_j1 (K : Value → Mem → Prop) (ts : List Value) (ls : List (List Value)) (σ : Mem) : Prop := w_mem_Mem_Peek_j1b K (ts.getD 0 poison) (ts.getD 1 poison) (ts.getD 2 poison) σ

def w_mem_Mem_Peek (a0 a1 : Value) (K : Value → Mem → Prop) (σ : Mem) : Prop :=
xF fMove [(.int .u64 0)] fun v4 =>
xJoin (w_mem_Mem_Peek_j1 K) fun J1 =>
xF fMove [a0] fun v5 =>
xF (fBin .eql .ptr) [v5, (.pointer none)] fun v6 =>
xF fMove [v6] fun v7 =>
xIf v7
 (xF fPick [(.bool true), (.bool true), undef] fun v10 =>
xF fMove [v10] fun v11 =>
xIf v11
 (xF fPick [(.bool true), (.bool true), undef] fun v19 =>
J1 [a0, a1, v19] [] σ)
 (xF fMove [a1] fun v12 =>
xF fMove [a0] fun v13 =>
xF fNil [v13] fun v14 =>
xF (fFld 0) [v14] fun v15 =>
hLoad 1 false [v15] (fun v16 σ =>
xF fLen [v16] fun v17 =>
xF (fBin .geq .no) [v12, v17] fun v18 =>
xF fPick [(.bool false), (.bool true), v18] fun v19 =>
J1 [a0, a1, v19] [] σ) σ))
 (xF fMove [a1] fun v8 =>
xF (fBin .lss .no) [v8, (.int .i64 0)] fun v9 =>
xF fPick [(.bool false), (.bool true), v9] fun v10 =>
xF fMove [v10] fun v11 =>
xIf v11
 (xF fPick [(.bool true), (.bool true), undef] fun v19 =>
J1 [a0, a1, v19] [] σ)
 (xF fMove [a1] fun v12 =>
xF fMove [a0] fun v13 =>
xF fNil [v13] fun v14 =>
xF (fFld 0) [v14] fun v15 =>
hLoad 1 false [v15] (fun v16 σ =>
xF fLen [v16] fun v17 =>
xF (fBin .geq .no) [v12, v17] fun v18 =>
xF fPick [(.bool false), (.bool true), v18] fun v19 =>
J1 [a0, a1, v19] [] σ) σ))

def s_mem_Mem_Peek : Spec := fun args K σ => match args with
  | [a0, a1] => w_mem_Mem_Peek a0 a1 K σ
  | _ => False

noncomputable def cx_mem_Mem_Peek : Cx := { P := Try.prog, T := [], loc := [], eqt := [(25, .ptr)], n := 27, keep := [(1000003, [0, 1, 19], [])] }
theorem q_mem_Mem_Peek : FnS cx_mem_Mem_Peek Try.f19 (bodyOf Try.f19) 2 = s_mem_Mem_Peek := by
  funext args K σ
  rcases args with _ | ⟨a0, _ | ⟨a1, _ | ⟨b, r⟩⟩⟩ <;> kernel_rfl
theorem e_mem_Mem_Peek : Entry Try.prog 19 .read s_mem_Mem_Peek :=
  entry (C := cx_mem_Mem_Peek) TOk.nil mixedOk Try.func19 (by kernel_rfl) (by kernel_rfl) (by kernel_rfl) q_mem_Mem_Peek

def xl_mem_Mem_Peek : List (Nat × Nat) := []
noncomputable def xc_mem_Mem_Peek : XC XN :=
(.seq none
 (.reg [⟨none, some 4, [(.const (.int .u64 0))], ⟨.f fMove, rMove⟩⟩])
 (.seq none
 (.seq (some ([0, 1, 19], []))
 (.reg [⟨none, some 5, [(.tmp 0)], ⟨.f fMove, rMove⟩⟩,
  ⟨none, some 6, [(.tmp 5), (.const (.pointer none))], ⟨.f (fBin .eql .ptr), rAny xl_mem_Mem_Peek (.f (fBin .eql .ptr))⟩⟩,
  ⟨none, some 7, [(.tmp 6)], ⟨.f fMove, rMove⟩⟩,
  ⟨(some (3, 2, false, some 7)), some 8, [(.tmp 1)], ⟨.f fMove, rMove⟩⟩,
  ⟨(some (4, 2, false, some 7)), some 9, [(.tmp 8), (.const (.int .i64 0))], ⟨.f (fBin .lss .no), rLss⟩⟩,
  ⟨none, some 10, [(.tmp 7), (.const (.bool true)), (.tmp 9)], ⟨.f fPick, rPick⟩⟩,
  ⟨none, some 11, [(.tmp 10)], ⟨.f fMove, rMove⟩⟩,
  ⟨(some (7, 6, false, some 11)), some 12, [(.tmp 1)], ⟨.f fMove, rMove⟩⟩,
  ⟨(some (8, 6, false, some 11)), some 13, [(.tmp 0)], ⟨.f fMove, rMove⟩⟩,
  ⟨(some (9, 6, false, some 11)), some 14, [(.tmp 13)], ⟨.f fNil, rNil⟩⟩,
  ⟨(some (10, 6, false, some 11)), some 15, [(.tmp 14)], ⟨.f (fFld 0), rFld 0⟩⟩,
  ⟨(some (11, 6, false, some 11)), some 16, [(.tmp 15)], ⟨.load 1 false, rLoad1⟩⟩,
  ⟨(some (12, 6, false, some 11)), some 17, [(.tmp 16)], ⟨.f fLen, rAny xl_mem_Mem_Peek (.f fLen)⟩⟩,
  ⟨(some (13, 6, false, some 11)), some 18, [(.tmp 12), (.tmp 17)], ⟨.f (fBin .geq .no), rGeq⟩⟩,
  ⟨none, some 19, [(.tmp 11), (.const (.bool true)), (.tmp 18)], ⟨.f fPick, rPick⟩⟩])
 (.cond (.tmp 19)
 (.seq none
 (.reg [⟨none, some 4, [(.const (.int .u64 0))], ⟨.f fMove, rMove⟩⟩])
 .ret)
 .skip))
 (.seq none
 (.reg [⟨none, some 20, [(.tmp 0)], ⟨.f fMove, rMove⟩⟩,
  ⟨none, some 21, [(.tmp 20)], ⟨.f fNil, rNil⟩⟩,
  ⟨none, some 22, [(.tmp 21)], ⟨.f (fFld 0), rFld 0⟩⟩,
  ⟨none, some 23, [(.tmp 22)], ⟨.load 1 false, rLoad1⟩⟩,
  ⟨none, some 24, [(.tmp 1)], ⟨.f fMove, rMove⟩⟩,
  ⟨none, some 25, [(.tmp 23), (.tmp 24)], ⟨.f (fIxS 1), rIxS 1⟩⟩,
  ⟨none, some 26, [(.tmp 25)], ⟨.load 1 false, rLoad1⟩⟩,
  ⟨none, some 4, [(.tmp 26)], ⟨.f fMove, rMove⟩⟩])
 .ret)))
noncomputable def v_mem_Mem_Peek : EvF := evFn 2 xc_mem_Mem_Peek [.t 4]
theorem xt_mem_Mem_Peek : toC cx_mem_Mem_Peek (bodyOf Try.f19) = some (xc_mem_Mem_Peek.map XN.sm) := by kernel_rfl
theorem xr_mem_Mem_Peek : toR cx_mem_Mem_Peek Try.f19.results.toList = some [.t 4] := by kernel_rfl
theorem xo_mem_Mem_Peek : xc_mem_Mem_Peek.ok xl_mem_Mem_Peek := ⟨⟨rMove_ok, trivial⟩, ⟨⟨⟨rMove_ok, rAny_ok (eqv_bin _ _), rMove_ok, rMove_ok, rLss_ok, rPick_ok, rMove_ok, rMove_ok, rMove_ok, rNil_ok, rFld_ok _, rLoad1_ok, rAny_ok (eqv_len), rGeq_ok, rPick_ok, trivial⟩, ⟨⟨⟨rMove_ok, trivial⟩, trivial⟩, trivial⟩⟩, ⟨⟨rMove_ok, rNil_ok, rFld_ok _, rLoad1_ok, rMove_ok, rIxS_ok _, rLoad1_ok, rMove_ok, trivial⟩, trivial⟩⟩⟩
theorem ve_mem_Mem_Peek : EvOk s_mem_Mem_Peek v_mem_Mem_Peek := EvOk.of (evFn_sound (C := cx_mem_Mem_Peek) xt_mem_Mem_Peek xr_mem_Mem_Peek xo_mem_Mem_Peek) q_mem_Mem_Peek

attribute [irreducible] w_mem_Mem_Peek_j1b w_mem_Mem_Peek_j1 w_mem_Mem_Peek s_mem_Mem_Peek

/-! ### /law07.PlaceAlone -/
def w_law07_PlaceAlone_j2b (K : Value → Mem → Prop) (σ : Mem) : Prop :=
xF fMove [(.bool true)] fun v6 =>
K v6 σ

def w_law07_PlaceAlone_j2 (K : Value → Mem → Prop) (ts : List Value) (ls : List (List Value)) (σ : Mem) : Prop := w_law07_PlaceAlone_j2b K σ

def w_law07_PlaceAlone_j4b (K : Value → Mem → Prop) (J2 : List Value → List (List Value) → Mem → Prop) (R1 : List Value → List (List Value) → Mem → Prop) (v2 v7 v8 v12 v13 v14 : Value) (c9 c11 : List Value) (σ : Mem) : Prop :=
xF fMove [v14] fun v50 =>
xF (fBin .add .no) [v50, (.int .i64 1)] fun v51 =>
xF fMove [v51] fun v14 =>
R1 [v2, v7, v8, v12, v13, v14] [c9, c11] σ

def w_law07_PlaceAlone_j4 (K : Value → Mem → Prop) (J2 : List Value → List (List Value) → Mem → Prop) (R1 : List Value → List (List Value) → Mem → Prop) (ts : List Value) (ls : List (List Value)) (σ : Mem) : Prop := w_law07_PlaceAlone_j4b K J2 R1 (ts.getD 0 poison) (ts.getD 1 poison) (ts.getD 2 poison) (ts.getD 3 poison) (ts.getD 4 poison) (ts.getD 5 poison) (ls.getD 0 []) (ls.getD 1 []) σ

def w_law07_PlaceAlone_j7b (K : Value → Mem → Prop) (J2 : List Value → List (List Value) → Mem → Prop) (R1 : List Value → List (List Value) → Mem → Prop) (J4 : List Value → List (List Value) → Mem → Prop) (v2 v7 v8 v12 v13 v14 v147 : Value) (c9 c11 : List Value) (σ : Mem) : Prop :=
xIf v147
 (xF fMove [(.bool false)] fun v6 =>
K v6 σ)
 (J4 [v2, v7, v8, v12, v13, v14] [c9, c11] σ)

def w_law07_PlaceAlone_j7 (K : Value → Mem → Prop) (J2 : List Value → List (List Value) → Mem → Prop) (R1 : List Value → List (List Value) → Mem → Prop) (J4 : List Value → List (List Value) → Mem → Prop) (ts : List Value) (ls : List (List Value)) (σ : Mem) : Prop := w_law07_PlaceAlone_j7b K J2 R1 J4 (ts.getD 0 poison) (ts.getD 1 poison) (ts.getD 2 poison) (ts.getD 3 poison) (ts.getD 4 poison) (ts.getD 5 poison) (ts.getD 6 poison) (ls.getD 0 []) (ls.getD 1 []) σ

def w_law07_PlaceAlone_j6b (K : Value → Mem → Prop) (J2 : List Value → List (List Value) → Mem → Prop) (R1 : List Value → List (List Value) → Mem → Prop) (J4 : List Value → List (List Value) → Mem → Prop) (v2 v7 v8 v12 v13 v14 v15 v16 v19 v114 : Value) (c9 c11 : List Value) (σ : Mem) : Prop :=
xIf v114
 (xF fMove [(.bool false)] fun v6 =>
K v6 σ)
 (xF fMove [v12] fun v115 =>
xF fMove [v19] fun v116 =>
xF (fIxS 1) [v115, v116] fun v117 =>
hLoad 1 false [v117] (fun v118 σ =>
xF fMove [v16] fun v119 =>
xF (fBin .add .no) [v118, v119] fun v120 =>
xF (fIxS 1) [v115, v116] fun v121 =>
hStore 1 [v121, v120] (fun _v σ =>
xF (fFld 7) [(locP 9)] fun v122 =>
xO (gLoad 1 false [v122] c9) fun v123 =>
xF (fFld 0) [(locP 9)] fun v124 =>
xO (gLoad 7 true [v124] c9) fun v125 =>
xF fMove [v19] fun v126 =>
s_layout_Chunk [v125, v126] (fun v127 σ =>
s_mem_Mem_Peek [v123, v127] (fun v128 σ =>
s_word_Chunk [v128] (fun v129 σ =>
xC (gStore 4 [(locP 20), v129] [(.int .i64 0), (.int .i64 0), (.int .i64 0), (.int .i64 0)]) fun c20 =>
xJoin (w_law07_PlaceAlone_j7 K J2 R1 J4) fun J7 =>
xF (fFld 0) [(locP 20)] fun v130 =>
xO (gLoad 1 false [v130] c20) fun v131 =>
xF (fBin .neq .no) [v131, (.int .i64 1)] fun v132 =>
xF fMove [v132] fun v133 =>
xIf v133
 (xF fPick [(.bool true), (.bool true), undef] fun v138 =>
xF fMove [v138] fun v139 =>
xIf v139
 (xF fPick [(.bool true), (.bool true), undef] fun v147 =>
J7 [v2, v7, v8, v12, v13, v14, v147] [c9, c11] σ)
 (xF (fFld 2) [(locP 20)] fun v140 =>
xO (gLoad 1 false [v140] c20) fun v141 =>
xF fMove [v12] fun v142 =>
xF fMove [v19] fun v143 =>
xF (fIxS 1) [v142, v143] fun v144 =>
hLoad 1 false [v144] (fun v145 σ =>
xF (fBin .neq .no) [v141, v145] fun v146 =>
xF fPick [(.bool false), (.bool true), v146] fun v147 =>
J7 [v2, v7, v8, v12, v13, v14, v147] [c9, c11] σ) σ))
 (xF (fFld 1) [(locP 20)] fun v134 =>
xO (gLoad 1 false [v134] c20) fun v135 =>
xF fMove [v15] fun v136 =>
xF (fBin .neq .no) [v135, v136] fun v137 =>
xF fPick [(.bool false), (.bool true), v137] fun v138 =>
xF fMove [v138] fun v139 =>
xIf v139
 (xF fPick [(.bool true), (.bool true), undef] fun v147 =>
J7 [v2, v7, v8, v12, v13, v14, v147] [c9, c11] σ)
 (xF (fFld 2) [(locP 20)] fun v140 =>
xO (gLoad 1 false [v140] c20) fun v141 =>
xF fMove [v12] fun v142 =>
xF fMove [v19] fun v143 =>
xF (fIxS 1) [v142, v143] fun v144 =>
hLoad 1 false [v144] (fun v145 σ =>
xF (fBin .neq .no) [v141, v145] fun v146 =>
xF fPick [(.bool false), (.bool true), v146] fun v147 =>
J7 [v2, v7, v8, v12, v13, v14, v147] [c9, c11] σ) σ))) σ) σ) σ) σ) σ)

def w_law07_PlaceAlone_j6 (K : Value → Mem → Prop) (J2 : List Value → List (List Value) → Mem → Prop) (R1 : List Value → List (List Value) → Mem → Prop) (J4 : List Value → List (List Value) → Mem → Prop) (ts : List Value) (ls : List (List Value)) (σ : Mem) : Prop := w_law07_PlaceAlone_j6b K J2 R1 J4 (ts.getD 0 poison) (ts.getD 1 poison) (ts.getD 2 poison) (ts.getD 3 poison) (ts.getD 4 poison) (ts.getD 5 poison) (ts.getD 6 poison) (ts.getD 7 poison) (ts.getD 8 poison) (ts.getD 9 poison) (ls.getD 0 []) (ls.getD 1 []) σ

def w_law07_PlaceAlone_j5b (K : Value → Mem → Prop) (J2 : List Value → List (List Value) → Mem → Prop) (R1 : List Value → List (List Value) → Mem → Prop) (J4 : List Value → List (List Value) → Mem → Prop) (v2 v7 v8 v12 v13 v14 v15 v16 v18 : Value) (c9 c11 c17 : List Value) (σ : Mem) : Prop :=
xF fMove [v15] fun v90 =>
xF (fIxA 4 1) [(locP 11), v90] fun v91 =>
xO (gLoad 1 false [v91] c11) fun v92 =>
xF fMove [v92] fun v19 =>
xJoin (w_law07_PlaceAlone_j6 K J2 R1 J4) fun J6 =>
xF fMove [v18] fun v93 =>
xF (fUn .not) [v93] fun v94 =>
xF fMove [v94] fun v95 =>
xIf v95
 (xF fPick [(.bool true), (.bool true), undef] fun v100 =>
xF fMove [v100] fun v101 =>
xIf v101
 (xF fPick [(.bool true), (.bool true), undef] fun v114 =>
J6 [v2, v7, v8, v12, v13, v14, v15, v16, v19, v114] [c9, c11] σ)
 (xF (fFld 0) [(locP 17)] fun v102 =>
xO (gLoad 1 false [v102] c17) fun v103 =>
xF (fFld 0) [(locP 9)] fun v104 =>
xO (gLoad 7 true [v104] c9) fun v105 =>
xF fMove [v19] fun v106 =>
s_layout_Base [v105, v106] (fun v107 σ =>
xF fMove [v12] fun v108 =>
xF fMove [v19] fun v109 =>
xF (fIxS 1) [v108, v109] fun v110 =>
hLoad 1 false [v110] (fun v111 σ =>
xF (fBin .add .no) [v107, v111] fun v112 =>
xF (fBin .neq .no) [v103, v112] fun v113 =>
xF fPick [(.bool false), (.bool true), v113] fun v114 =>
J6 [v2, v7, v8, v12, v13, v14, v15, v16, v19, v114] [c9, c11] σ) σ) σ))
 (xF (fFld 1) [(locP 17)] fun v96 =>
xO (gLoad 1 false [v96] c17) fun v97 =>
xF fMove [v19] fun v98 =>
xF (fBin .neq .no) [v97, v98] fun v99 =>
xF fPick [(.bool false), (.bool true), v99] fun v100 =>
xF fMove [v100] fun v101 =>
xIf v101
 (xF fPick [(.bool true), (.bool true), undef] fun v114 =>
J6 [v2, v7, v8, v12, v13, v14, v15, v16, v19, v114] [c9, c11] σ)
 (xF (fFld 0) [(locP 17)] fun v102 =>
xO (gLoad 1 false [v102] c17) fun v103 =>
xF (fFld 0) [(locP 9)] fun v104 =>
xO (gLoad 7 true [v104] c9) fun v105 =>
xF fMove [v19] fun v106 =>
s_layout_Base [v105, v106] (fun v107 σ =>
xF fMove [v12] fun v108 =>
xF fMove [v19] fun v109 =>
xF (fIxS 1) [v108, v109] fun v110 =>
hLoad 1 false [v110] (fun v111 σ =>
xF (fBin .add .no) [v107, v111] fun v112 =>
xF (fBin .neq .no) [v103, v112] fun v113 =>
xF fPick [(.bool false), (.bool true), v113] fun v114 =>
J6 [v2, v7, v8, v12, v13, v14, v15, v16, v19, v114] [c9, c11] σ) σ) σ))

def w_law07_PlaceAlone_j5 (K : Value → Mem → Prop) (J2 : List Value → List (List Value) → Mem → Prop) (R1 : List Value → List (List Value) → Mem → Prop) (J4 : List Value → List (List Value) → Mem → Prop) (ts : List Value) (ls : List (List Value)) (σ : Mem) : Prop := w_law07_PlaceAlone_j5b K J2 R1 J4 (ts.getD 0 poison) (ts.getD 1 poison) (ts.getD 2 poison) (ts.getD 3 poison) (ts.getD 4 poison) (ts.getD 5 poison) (ts.getD 6 poison) (ts.getD 7 poison) (ts.getD 8 poison) (ls.getD 0 []) (ls.getD 1 []) (ls.getD 2 []) σ

def w_law07_PlaceAlone_j8b (K : Value → Mem → Prop) (J2 : List Value → List (List Value) → Mem → Prop) (R1 : List Value → List (List Value) → Mem → Prop) (J4 : List Value → List (List Value) → Mem → Prop) (J5 : List Value → List (List Value) → Mem → Prop) (v2 v7 v8 v12 v13 v14 v15 v16 v18 v80 : Value) (c9 c11 c17 : List Value) (σ : Mem) : Prop :=
xIf v80
 (xF fMove [v13] fun v81 =>
xF fMove [v7] fun v82 =>
xF (fBin .geq .no) [v81, v82] fun v83 =>
xIf v83
 (xF fMove [v18] fun v84 =>
xIf v84
 (xF fMove [(.bool false)] fun v6 =>
K v6 σ)
 (J4 [v2, v7, v8, v12, v13, v14] [c9, c11] σ))
 (xF fMove [v15] fun v85 =>
xF fMove [v13] fun v86 =>
xF (fIxA 4 1) [(locP 11), v85] fun v87 =>
xC (gStore 1 [v87, v86] c11) fun c11 =>
xF fMove [v13] fun v88 =>
xF (fBin .add .no) [v88, (.int .i64 1)] fun v89 =>
xF fMove [v89] fun v13 =>
J5 [v2, v7, v8, v12, v13, v14, v15, v16, v18] [c9, c11, c17] σ))
 (J5 [v2, v7, v8, v12, v13, v14, v15, v16, v18] [c9, c11, c17] σ)

def w_law07_PlaceAlone_j8 (K : Value → Mem → Prop) (J2 : List Value → List (List Value) → Mem → Prop) (R1 : List Value → List (List Value) → Mem → Prop) (J4 : List Value → List (List Value) → Mem → Prop) (J5 : List Value → List (List Value) → Mem → Prop) (ts : List Value) (ls : List (List Value)) (σ : Mem) : Prop := w_law07_PlaceAlone_j8b K J2 R1 J4 J5 (ts.getD 0 poison) (ts.getD 1 poison) (ts.getD 2 poison) (ts.getD 3 poison) (ts.getD 4 poison) (ts.getD 5 poison) (ts.getD 6 poison) (ts.getD 7 poison) (ts.getD 8 poison) (ts.getD 9 poison) (ls.getD 0 []) (ls.getD 1 []) (ls.getD 2 []) σ

def w_law07_PlaceAlone_j3b (K : Value → Mem → Prop) (J2 : List Value → List (List Value) → Mem → Prop) (R1 : List Value → List (List Value) → Mem → Prop) (v2 v7 v8 v12 v13 v14 : Value) (c9 c11 : List Value) (σ : Mem) : Prop :=
xJoin (w_law07_PlaceAlone_j4 K J2 R1) fun J4 =>
xF fMove [v2] fun v52 =>
xF fMove [v14] fun v53 =>
xF (fIxS 1) [v52, v53] fun v54 =>
hLoad 1 false [v54] (fun v55 σ =>
xF (fBin .and .no) [v55, (.int .i64 3)] fun v56 =>
xF fMove [v56] fun v15 =>
xF fMove [v15] fun v57 =>
s_ref04_Room [v57] (fun v58 σ =>
xF fMove [v58] fun v16 =>
xO (gLoad 9 true [(locP 9)] c9) fun v60 =>
xF fMove [v15] fun v61 =>
s_law07_get [v60, v61] (fun v62 σ =>
xF fMove [v62] fun v59 =>
xF (fExt 0) [v59] fun v63 =>
xF (fExt 1) [v59] fun v64 =>
xC (gStore 2 [(locP 17), v63] [(.int .i64 0), (.int .i64 0)]) fun c17 =>
xF fMove [v64] fun v18 =>
xJoin (w_law07_PlaceAlone_j5 K J2 R1 J4) fun J5 =>
xJoin (w_law07_PlaceAlone_j8 K J2 R1 J4 J5) fun J8 =>
xF fMove [v15] fun v65 =>
xF (fIxA 4 1) [(locP 11), v65] fun v66 =>
xO (gLoad 1 false [v66] c11) fun v67 =>
xF (fBin .lss .no) [v67, (.int .i64 0)] fun v68 =>
xF fMove [v68] fun v69 =>
xIf v69
 (xF fPick [(.bool true), (.bool true), undef] fun v80 =>
J8 [v2, v7, v8, v12, v13, v14, v15, v16, v18, v80] [c9, c11, c17] σ)
 (xF fMove [v12] fun v70 =>
xF fMove [v15] fun v71 =>
xF (fIxA 4 1) [(locP 11), v71] fun v72 =>
xO (gLoad 1 false [v72] c11) fun v73 =>
xF (fIxS 1) [v70, v73] fun v74 =>
hLoad 1 false [v74] (fun v75 σ =>
xF fMove [v16] fun v76 =>
xF (fBin .add .no) [v75, v76] fun v77 =>
xF fMove [v8] fun v78 =>
xF (fBin .gtr .no) [v77, v78] fun v79 =>
xF fPick [(.bool false), (.bool true), v79] fun v80 =>
J8 [v2, v7, v8, v12, v13, v14, v15, v16, v18, v80] [c9, c11, c17] σ) σ)) σ) σ) σ

def w_law07_PlaceAlone_j3 (K : Value → Mem → Prop) (J2 : List Value → List (List Value) → Mem → Prop) (R1 : List Value → List (List Value) → Mem → Prop) (ts : List Value) (ls : List (List Value)) (σ : Mem) : Prop := w_law07_PlaceAlone_j3b K J2 R1 (ts.getD 0 poison) (ts.getD 1 poison) (ts.getD 2 poison) (ts.getD 3 poison) (ts.getD 4 poison) (ts.getD 5 poison) (ls.getD 0 []) (ls.getD 1 []) σ

def w_law07_PlaceAlone_l8b (K : Value → Mem → Prop) (J2 : List Value → List (List Value) → Mem → Prop) (R1 : List Value → List (List Value) → Mem → Prop) (v2 v7 v8 v12 v13 v14 : Value) (c9 c11 : List Value) (σ : Mem) : Prop :=
xJoin (w_law07_PlaceAlone_j3 K J2 R1) fun J3 =>
xF fMove [v14] fun v42 =>
xF fMove [v2] fun v43 =>
xF fLen [v43] fun v44 =>
xF (fBin .lss .no) [v42, v44] fun v45 =>
xF fMove [v45] fun v46 =>
xIf v46
 (xF fMove [v14] fun v47 =>
xF (fBin .lss .no) [v47, (.int .i64 60)] fun v48 =>
xF fPick [(.bool true), v48, (.bool false)] fun v49 =>
xIf v49
 (J3 [v2, v7, v8, v12, v13, v14] [c9, c11] σ)
 (J2 [] [] σ))
 (xF fPick [(.bool false), undef, (.bool false)] fun v49 =>
xIf v49
 (J3 [v2, v7, v8, v12, v13, v14] [c9, c11] σ)
 (J2 [] [] σ))

def w_law07_PlaceAlone_l8 (K : Value → Mem → Prop) (J2 : List Value → List (List Value) → Mem → Prop) (R1 : List Value → List (List Value) → Mem → Prop) (ts : List Value) (ls : List (List Value)) (σ : Mem) : Prop := w_law07_PlaceAlone_l8b K J2 R1 (ts.getD 0 poison) (ts.getD 1 poison) (ts.getD 2 poison) (ts.getD 3 poison) (ts.getD 4 poison) (ts.getD 5 poison) (ls.getD 0 []) (ls.getD 1 []) σ

def w_law07_PlaceAlone_j1b (K : Value → Mem → Prop) (v2 v7 v8 v38 : Value) (c9 : List Value) (σ : Mem) : Prop :=
xIf v38
 (xF fMove [(.bool false)] fun v6 =>
K v6 σ)
 (xF (fBuild [(0, 1), (1, 1), (2, 1), (3, 1)] [(.int .i64 0), (.int .i64 0), (.int .i64 0), (.int .i64 0)] [0, 1, 2, 3]) [(.int .i64 (-1)), (.int .i64 (-1)), (.int .i64 (-1)), (.int .i64 (-1))] fun v39 =>
xF fMove [v7] fun v40 =>
hMakeS 1 8 [(.int .i64 0)] [v40, v40] (fun v41 σ =>
xC (gStore 4 [(locP 11), v39] [(.int .i64 0), (.int .i64 0), (.int .i64 0), (.int .i64 0)]) fun c11 =>
xF fMove [v41] fun v12 =>
xF fMove [(.int .i64 0)] fun v13 =>
xJoin (w_law07_PlaceAlone_j2 K) fun J2 =>
xF fMove [(.int .i64 0)] fun v14 =>
xLoop (w_law07_PlaceAlone_l8 K J2) [v2, v7, v8, v12, v13, v14] [c9, c11] σ) σ)

def w_law07_PlaceAlone_j1 (K : Value → Mem → Prop) (ts : List Value) (ls : List (List Value)) (σ : Mem) : Prop := w_law07_PlaceAlone_j1b K (ts.getD 0 poison) (ts.getD 1 poison) (ts.getD 2 poison) (ts.getD 3 poison) (ls.getD 0 []) σ

def w_law07_PlaceAlone (a0 a1 a2 : Value) (K : Value → Mem → Prop) (σ : Mem) : Prop :=
xF fMove [(.bool false)] fun v6 =>
xF fMove [a0] fun v21 =>
xF (fBin .and .no) [v21, (.int .i64 7)] fun v22 =>
xF (fBin .add .no) [(.int .i64 1), v22] fun v23 =>
xF fMove [a1] fun v24 =>
xF (fBin .and .no) [v24, (.int .i64 31)] fun v25 =>
xF (fBin .add .no) [(.int .i64 17), v25] fun v26 =>
xF fMove [v23] fun v7 =>
xF fMove [v26] fun v8 =>
xF fMove [v7] fun v28 =>
xF fMove [v8] fun v29 =>
s_law04_Arena [(.int .i64 1), (.int .i64 1), v28, v29] (fun v30 σ =>
xF fMove [v30] fun v27 =>
xF (fExt 0) [v27] fun v31 =>
xF (fExt 1) [v27] fun v32 =>
xC (gStore 9 [(locP 9), v31] [(.int .i64 0), (.int .i64 0), (.int .i64 0), (.int .i64 0), (.int .i64 0), (.int .i64 0), (.int .i64 0), (.pointer none), (.int .i64 0)]) fun c9 =>
xF fMove [v32] fun v10 =>
xJoin (w_law07_PlaceAlone_j1 K) fun J1 =>
s_law07_awake [] (fun v33 σ =>
xF (fUn .not) [v33] fun v34 =>
xF fMove [v34] fun v35 =>
xIf v35
 (xF fPick [(.bool true), (.bool true), undef] fun v38 =>
J1 [a2, v7, v8, v38] [c9] σ)
 (xF fMove [v10] fun v36 =>
xF (fUn .not) [v36] fun v37 =>
xF fPick [(.bool false), (.bool true), v37] fun v38 =>
J1 [a2, v7, v8, v38] [c9] σ)) σ) σ

def s_law07_PlaceAlone : Spec := fun args K σ => match args with
  | [a0, a1, a2] => w_law07_PlaceAlone a0 a1 a2 K σ
  | _ => False

noncomputable def cx_law07_PlaceAlone : Cx := { P := Try.prog, T := [(13, .write, s_law04_Arena), (14, .none, s_law07_awake), (15, .write, s_ref04_Room), (16, .write, s_law07_get), (17, .none, s_layout_Base), (20, .none, s_layout_Chunk), (19, .read, s_mem_Mem_Peek), (18, .none, s_word_Chunk)], loc := [(9, 9), (11, 11), (17, 17), (20, 20), (66, 11), (72, 11), (87, 11), (91, 11), (96, 17), (102, 17), (104, 9), (122, 9), (124, 9), (130, 20), (134, 20), (140, 20)], eqt := [], n := 148, keep := [(8, [2, 7, 8, 12, 13, 14], [9, 11]), (1000005, [2, 7, 8, 38], [9]), (1000009, [2, 7, 8, 12, 13, 14], [9, 11]), (1000010, [2, 7, 8, 12, 13, 14], [9, 11]), (1000014, [2, 7, 8, 12, 13, 14, 15, 16, 18, 80], [9, 11, 17]), (1000019, [2, 7, 8, 12, 13, 14, 15, 16, 18], [9, 11, 17]), (1000021, [2, 7, 8, 12, 13, 14, 15, 16, 19, 114], [9, 11]), (1000025, [2, 7, 8, 12, 13, 14, 147], [9, 11]), (1000026, [], [])] }
theorem q_law07_PlaceAlone : FnS cx_law07_PlaceAlone Try.f3 (bodyOf Try.f3) 3 = s_law07_PlaceAlone := by
  funext args K σ
  rcases args with _ | ⟨a0, _ | ⟨a1, _ | ⟨a2, _ | ⟨b, r⟩⟩⟩⟩ <;> kernel_rfl
theorem e_law07_PlaceAlone : Entry Try.prog 3 .write s_law07_PlaceAlone :=
  entry (C := cx_law07_PlaceAlone) (TOk.cons e_law04_Arena (TOk.cons e_law07_awake (TOk.cons e_ref04_Room (TOk.cons e_law07_get (TOk.cons e_layout_Base (TOk.cons e_layout_Chunk (TOk.cons e_mem_Mem_Peek (TOk.cons e_word_Chunk TOk.nil)))))))) mixedOk Try.func3 (by kernel_rfl) (by kernel_rfl) (by kernel_rfl) q_law07_PlaceAlone


attribute [irreducible] w_law07_PlaceAlone_j2b w_law07_PlaceAlone_j2 w_law07_PlaceAlone_j4b w_law07_PlaceAlone_j4 w_law07_PlaceAlone_j7b w_law07_PlaceAlone_j7 w_law07_PlaceAlone_j6b w_law07_PlaceAlone_j6 w_law07_PlaceAlone_j5b w_law07_PlaceAlone_j5 w_law07_PlaceAlone_j8b w_law07_PlaceAlone_j8 w_law07_PlaceAlone_j3b w_law07_PlaceAlone_j3 w_law07_PlaceAlone_l8b w_law07_PlaceAlone_l8 w_law07_PlaceAlone_j1b w_law07_PlaceAlone_j1 w_law07_PlaceAlone s_law07_PlaceAlone

/-! ### /law07.PlaceLeaves -/
def w_law07_PlaceLeaves_j5b (K : Value → Mem → Prop) (v7 v13 v14 : Value) (σ : Mem) : Prop :=
xF fMove [v13] fun v139 =>
xF (fBin .geq .no) [v139, (.int .i64 0)] fun v140 =>
xF fMove [v140] fun v141 =>
xIf v141
 (xF fMove [v14] fun v142 =>
xF fMove [v7] fun v143 =>
s_ref04_Room [v143] (fun v144 σ =>
xF (fBin .mul .no) [(.int .i64 3), v144] fun v145 =>
xF (fBin .eql .no) [v142, v145] fun v146 =>
xF fPick [(.bool true), v146, (.bool false)] fun v147 =>
xF fMove [v147] fun v4 =>
K v4 σ) σ)
 (xF fPick [(.bool false), undef, (.bool false)] fun v147 =>
xF fMove [v147] fun v4 =>
K v4 σ)

def w_law07_PlaceLeaves_j5 (K : Value → Mem → Prop) (ts : List Value) (ls : List (List Value)) (σ : Mem) : Prop := w_law07_PlaceLeaves_j5b K (ts.getD 0 poison) (ts.getD 1 poison) (ts.getD 2 poison) σ

def w_law07_PlaceLeaves_j6b (K : Value → Mem → Prop) (J5 : List Value → List (List Value) → Mem → Prop) (R1 : List Value → List (List Value) → Mem → Prop) (v7 v13 v14 v15 v138 : Value) (c5 : List Value) (σ : Mem) : Prop :=
xIf v138
 (xF fMove [(.bool false)] fun v4 =>
K v4 σ)
 (xF fMove [v15] fun v93 =>
xF (fBin .add .no) [v93, (.int .i64 1)] fun v94 =>
xF fMove [v94] fun v15 =>
R1 [v7, v13, v14, v15] [c5] σ)

def w_law07_PlaceLeaves_j6 (K : Value → Mem → Prop) (J5 : List Value → List (List Value) → Mem → Prop) (R1 : List Value → List (List Value) → Mem → Prop) (ts : List Value) (ls : List (List Value)) (σ : Mem) : Prop := w_law07_PlaceLeaves_j6b K J5 R1 (ts.getD 0 poison) (ts.getD 1 poison) (ts.getD 2 poison) (ts.getD 3 poison) (ts.getD 4 poison) (ls.getD 0 []) σ

def w_law07_PlaceLeaves_l23b (K : Value → Mem → Prop) (J5 : List Value → List (List Value) → Mem → Prop) (R1 : List Value → List (List Value) → Mem → Prop) (v7 v13 v14 v15 : Value) (c5 : List Value) (σ : Mem) : Prop :=
xF fMove [v15] fun v91 =>
xF (fBin .lss .no) [v91, (.int .i64 6)] fun v92 =>
xIf v92
 (xF (fFld 7) [(locP 5)] fun v95 =>
xO (gLoad 1 false [v95] c5) fun v96 =>
xF (fFld 0) [(locP 5)] fun v97 =>
xO (gLoad 7 true [v97] c5) fun v98 =>
xF fMove [v15] fun v99 =>
s_layout_Chunk [v98, v99] (fun v100 σ =>
s_mem_Mem_Peek [v96, v100] (fun v101 σ =>
s_word_Chunk [v101] (fun v102 σ =>
xC (gStore 4 [(locP 16), v102] [(.int .i64 0), (.int .i64 0), (.int .i64 0), (.int .i64 0)]) fun c16 =>
xF fMove [v14] fun v103 =>
xF (fFld 2) [(locP 16)] fun v104 =>
xO (gLoad 1 false [v104] c16) fun v105 =>
xF (fBin .add .no) [v103, v105] fun v106 =>
xF fMove [v106] fun v14 =>
xJoin (w_law07_PlaceLeaves_j6 K J5 R1) fun J6 =>
xF fMove [v15] fun v107 =>
xF fMove [v13] fun v108 =>
xF (fBin .eql .no) [v107, v108] fun v109 =>
xF fMove [v109] fun v110 =>
xIf v110
 (xF (fFld 0) [(locP 16)] fun v111 =>
xO (gLoad 1 false [v111] c16) fun v112 =>
xF (fBin .neq .no) [v112, (.int .i64 1)] fun v113 =>
xF fMove [v113] fun v114 =>
xIf v114
 (xF fPick [(.bool true), (.bool true), undef] fun v119 =>
xF fPick [(.bool true), v119, (.bool false)] fun v120 =>
xF fMove [v120] fun v121 =>
xIf v121
 (xF fPick [(.bool true), (.bool true), undef] fun v138 =>
J6 [v7, v13, v14, v15, v138] [c5] σ)
 (xF fMove [v15] fun v122 =>
xF fMove [v13] fun v123 =>
xF (fBin .neq .no) [v122, v123] fun v124 =>
xF fMove [v124] fun v125 =>
xIf v125
 (xF (fFld 0) [(locP 16)] fun v126 =>
xO (gLoad 1 false [v126] c16) fun v127 =>
xF (fBin .eql .no) [v127, (.int .i64 1)] fun v128 =>
xF fPick [(.bool true), v128, (.bool false)] fun v129 =>
xF fMove [v129] fun v130 =>
xIf v130
 (xF (fFld 2) [(locP 16)] fun v131 =>
xO (gLoad 1 false [v131] c16) fun v132 =>
xF fMove [v7] fun v133 =>
s_ref04_Room [v133] (fun v134 σ =>
xF (fBin .add .no) [v132, v134] fun v135 =>
xF (fBin .leq .no) [v135, (.int .i64 20)] fun v136 =>
xF fPick [(.bool true), v136, (.bool false)] fun v137 =>
xF fPick [(.bool false), (.bool true), v137] fun v138 =>
J6 [v7, v13, v14, v15, v138] [c5] σ) σ)
 (xF fPick [(.bool false), undef, (.bool false)] fun v137 =>
xF fPick [(.bool false), (.bool true), v137] fun v138 =>
J6 [v7, v13, v14, v15, v138] [c5] σ))
 (xF fPick [(.bool false), undef, (.bool false)] fun v129 =>
xF fMove [v129] fun v130 =>
xIf v130
 (xF (fFld 2) [(locP 16)] fun v131 =>
xO (gLoad 1 false [v131] c16) fun v132 =>
xF fMove [v7] fun v133 =>
s_ref04_Room [v133] (fun v134 σ =>
xF (fBin .add .no) [v132, v134] fun v135 =>
xF (fBin .leq .no) [v135, (.int .i64 20)] fun v136 =>
xF fPick [(.bool true), v136, (.bool false)] fun v137 =>
xF fPick [(.bool false), (.bool true), v137] fun v138 =>
J6 [v7, v13, v14, v15, v138] [c5] σ) σ)
 (xF fPick [(.bool false), undef, (.bool false)] fun v137 =>
xF fPick [(.bool false), (.bool true), v137] fun v138 =>
J6 [v7, v13, v14, v15, v138] [c5] σ))))
 (xF (fFld 1) [(locP 16)] fun v115 =>
xO (gLoad 1 false [v115] c16) fun v116 =>
xF fMove [v7] fun v117 =>
xF (fBin .neq .no) [v116, v117] fun v118 =>
xF fPick [(.bool false), (.bool true), v118] fun v119 =>
xF fPick [(.bool true), v119, (.bool false)] fun v120 =>
xF fMove [v120] fun v121 =>
xIf v121
 (xF fPick [(.bool true), (.bool true), undef] fun v138 =>
J6 [v7, v13, v14, v15, v138] [c5] σ)
 (xF fMove [v15] fun v122 =>
xF fMove [v13] fun v123 =>
xF (fBin .neq .no) [v122, v123] fun v124 =>
xF fMove [v124] fun v125 =>
xIf v125
 (xF (fFld 0) [(locP 16)] fun v126 =>
xO (gLoad 1 false [v126] c16) fun v127 =>
xF (fBin .eql .no) [v127, (.int .i64 1)] fun v128 =>
xF fPick [(.bool true), v128, (.bool false)] fun v129 =>
xF fMove [v129] fun v130 =>
xIf v130
 (xF (fFld 2) [(locP 16)] fun v131 =>
xO (gLoad 1 false [v131] c16) fun v132 =>
xF fMove [v7] fun v133 =>
s_ref04_Room [v133] (fun v134 σ =>
xF (fBin .add .no) [v132, v134] fun v135 =>
xF (fBin .leq .no) [v135, (.int .i64 20)] fun v136 =>
xF fPick [(.bool true), v136, (.bool false)] fun v137 =>
xF fPick [(.bool false), (.bool true), v137] fun v138 =>
J6 [v7, v13, v14, v15, v138] [c5] σ) σ)
 (xF fPick [(.bool false), undef, (.bool false)] fun v137 =>
xF fPick [(.bool false), (.bool true), v137] fun v138 =>
J6 [v7, v13, v14, v15, v138] [c5] σ))
 (xF fPick [(.bool false), undef, (.bool false)] fun v129 =>
xF fMove [v129] fun v130 =>
xIf v130
 (xF (fFld 2) [(locP 16)] fun v131 =>
xO (gLoad 1 false [v131] c16) fun v132 =>
xF fMove [v7] fun v133 =>
s_ref04_Room [v133] (fun v134 σ =>
xF (fBin .add .no) [v132, v134] fun v135 =>
xF (fBin .leq .no) [v135, (.int .i64 20)] fun v136 =>
xF fPick [(.bool true), v136, (.bool false)] fun v137 =>
xF fPick [(.bool false), (.bool true), v137] fun v138 =>
J6 [v7, v13, v14, v15, v138] [c5] σ) σ)
 (xF fPick [(.bool false), undef, (.bool false)] fun v137 =>
xF fPick [(.bool false), (.bool true), v137] fun v138 =>
J6 [v7, v13, v14, v15, v138] [c5] σ)))))
 (xF fPick [(.bool false), undef, (.bool false)] fun v120 =>
xF fMove [v120] fun v121 =>
xIf v121
 (xF fPick [(.bool true), (.bool true), undef] fun v138 =>
J6 [v7, v13, v14, v15, v138] [c5] σ)
 (xF fMove [v15] fun v122 =>
xF fMove [v13] fun v123 =>
xF (fBin .neq .no) [v122, v123] fun v124 =>
xF fMove [v124] fun v125 =>
xIf v125
 (xF (fFld 0) [(locP 16)] fun v126 =>
xO (gLoad 1 false [v126] c16) fun v127 =>
xF (fBin .eql .no) [v127, (.int .i64 1)] fun v128 =>
xF fPick [(.bool true), v128, (.bool false)] fun v129 =>
xF fMove [v129] fun v130 =>
xIf v130
 (xF (fFld 2) [(locP 16)] fun v131 =>
xO (gLoad 1 false [v131] c16) fun v132 =>
xF fMove [v7] fun v133 =>
s_ref04_Room [v133] (fun v134 σ =>
xF (fBin .add .no) [v132, v134] fun v135 =>
xF (fBin .leq .no) [v135, (.int .i64 20)] fun v136 =>
xF fPick [(.bool true), v136, (.bool false)] fun v137 =>
xF fPick [(.bool false), (.bool true), v137] fun v138 =>
J6 [v7, v13, v14, v15, v138] [c5] σ) σ)
 (xF fPick [(.bool false), undef, (.bool false)] fun v137 =>
xF fPick [(.bool false), (.bool true), v137] fun v138 =>
J6 [v7, v13, v14, v15, v138] [c5] σ))
 (xF fPick [(.bool false), undef, (.bool false)] fun v129 =>
xF fMove [v129] fun v130 =>
xIf v130
 (xF (fFld 2) [(locP 16)] fun v131 =>
xO (gLoad 1 false [v131] c16) fun v132 =>
xF fMove [v7] fun v133 =>
s_ref04_Room [v133] (fun v134 σ =>
xF (fBin .add .no) [v132, v134] fun v135 =>
xF (fBin .leq .no) [v135, (.int .i64 20)] fun v136 =>
xF fPick [(.bool true), v136, (.bool false)] fun v137 =>
xF fPick [(.bool false), (.bool true), v137] fun v138 =>
J6 [v7, v13, v14, v15, v138] [c5] σ) σ)
 (xF fPick [(.bool false), undef, (.bool false)] fun v137 =>
xF fPick [(.bool false), (.bool true), v137] fun v138 =>
J6 [v7, v13, v14, v15, v138] [c5] σ))))) σ) σ) σ)
 (J5 [v7, v13, v14] [] σ)

def w_law07_PlaceLeaves_l23 (K : Value → Mem → Prop) (J5 : List Value → List (List Value) → Mem → Prop) (R1 : List Value → List (List Value) → Mem → Prop) (ts : List Value) (ls : List (List Value)) (σ : Mem) : Prop := w_law07_PlaceLeaves_l23b K J5 R1 (ts.getD 0 poison) (ts.getD 1 poison) (ts.getD 2 poison) (ts.getD 3 poison) (ls.getD 0 []) σ

def w_law07_PlaceLeaves_j4b (K : Value → Mem → Prop) (v7 v83 : Value) (c5 : List Value) (σ : Mem) : Prop :=
xIf v83
 (xF fMove [(.bool false)] fun v4 =>
K v4 σ)
 (xF (fFld 7) [(locP 5)] fun v84 =>
xO (gLoad 1 false [v84] c5) fun v85 =>
xF fMove [v7] fun v86 =>
s_layout_Open [v86] (fun v87 σ =>
s_mem_Mem_Peek [v85, v87] (fun v88 σ =>
xF (fConv .i64) [v88] fun v89 =>
xF (fBin .sub .no) [v89, (.int .i64 1)] fun v90 =>
xF fMove [v90] fun v13 =>
xF fMove [(.int .i64 0)] fun v14 =>
xJoin (w_law07_PlaceLeaves_j5 K) fun J5 =>
xF fMove [(.int .i64 0)] fun v15 =>
xLoop (w_law07_PlaceLeaves_l23 K J5) [v7, v13, v14, v15] [c5] σ) σ) σ)

def w_law07_PlaceLeaves_j4 (K : Value → Mem → Prop) (ts : List Value) (ls : List (List Value)) (σ : Mem) : Prop := w_law07_PlaceLeaves_j4b K (ts.getD 0 poison) (ts.getD 1 poison) (ls.getD 0 []) σ

def w_law07_PlaceLeaves_j3b (K : Value → Mem → Prop) (v7 : Value) (c5 c9 : List Value) (σ : Mem) : Prop :=
xJoin (w_law07_PlaceLeaves_j4 K) fun J4 =>
xF (fIxA 3 1) [(locP 9), (.int .i64 0)] fun v71 =>
xO (gLoad 1 false [v71] c9) fun v72 =>
xF (fUn .not) [v72] fun v73 =>
xF fMove [v73] fun v74 =>
xIf v74
 (xF fPick [(.bool true), (.bool true), undef] fun v78 =>
xF fMove [v78] fun v79 =>
xIf v79
 (xF fPick [(.bool true), (.bool true), undef] fun v83 =>
J4 [v7, v83] [c5] σ)
 (xF (fIxA 3 1) [(locP 9), (.int .i64 2)] fun v80 =>
xO (gLoad 1 false [v80] c9) fun v81 =>
xF (fUn .not) [v81] fun v82 =>
xF fPick [(.bool false), (.bool true), v82] fun v83 =>
J4 [v7, v83] [c5] σ))
 (xF (fIxA 3 1) [(locP 9), (.int .i64 1)] fun v75 =>
xO (gLoad 1 false [v75] c9) fun v76 =>
xF (fUn .not) [v76] fun v77 =>
xF fPick [(.bool false), (.bool true), v77] fun v78 =>
xF fMove [v78] fun v79 =>
xIf v79
 (xF fPick [(.bool true), (.bool true), undef] fun v83 =>
J4 [v7, v83] [c5] σ)
 (xF (fIxA 3 1) [(locP 9), (.int .i64 2)] fun v80 =>
xO (gLoad 1 false [v80] c9) fun v81 =>
xF (fUn .not) [v81] fun v82 =>
xF fPick [(.bool false), (.bool true), v82] fun v83 =>
J4 [v7, v83] [c5] σ))

def w_law07_PlaceLeaves_j3 (K : Value → Mem → Prop) (ts : List Value) (ls : List (List Value)) (σ : Mem) : Prop := w_law07_PlaceLeaves_j3b K (ts.getD 0 poison) (ls.getD 0 []) (ls.getD 1 []) σ

def w_law07_PlaceLeaves_j7b (K : Value → Mem → Prop) (J3 : List Value → List (List Value) → Mem → Prop) (R1 : List Value → List (List Value) → Mem → Prop) (v1 v7 v11 : Value) (c5 c8 c9 : List Value) (σ : Mem) : Prop :=
xF fMove [v11] fun v41 =>
xF (fBin .add .no) [v41, (.int .i64 1)] fun v42 =>
xF fMove [v42] fun v11 =>
R1 [v1, v7, v11] [c5, c8, c9] σ

def w_law07_PlaceLeaves_j7 (K : Value → Mem → Prop) (J3 : List Value → List (List Value) → Mem → Prop) (R1 : List Value → List (List Value) → Mem → Prop) (ts : List Value) (ls : List (List Value)) (σ : Mem) : Prop := w_law07_PlaceLeaves_j7b K J3 R1 (ts.getD 0 poison) (ts.getD 1 poison) (ts.getD 2 poison) (ls.getD 0 []) (ls.getD 1 []) (ls.getD 2 []) σ

def w_law07_PlaceLeaves_j8b (K : Value → Mem → Prop) (J3 : List Value → List (List Value) → Mem → Prop) (R1 : List Value → List (List Value) → Mem → Prop) (J7 : List Value → List (List Value) → Mem → Prop) (v1 v7 v11 v12 : Value) (c5 c8 c9 : List Value) (σ : Mem) : Prop :=
xF fMove [v12] fun v60 =>
xF (fIxA 3 1) [(locP 9), v60] fun v61 =>
xO (gLoad 1 false [v61] c9) fun v62 =>
xF (fUn .not) [v62] fun v63 =>
xIf v63
 (xF fMove [v12] fun v64 =>
xF fMove [v12] fun v65 =>
xF (fIxA 3 1) [(locP 8), v65] fun v66 =>
xO (gLoad 1 false [v66] c8) fun v67 =>
xO (gLoad 9 true [(locP 5)] c5) fun v68 =>
s_place_Place_Step [v67, v68] (fun v69 σ =>
xF (fIxA 3 1) [(locP 9), v64] fun v70 =>
xC (gStore 1 [v70, v69] c9) fun c9 =>
J7 [v1, v7, v11] [c5, c8, c9] σ) σ)
 (J7 [v1, v7, v11] [c5, c8, c9] σ)

def w_law07_PlaceLeaves_j8 (K : Value → Mem → Prop) (J3 : List Value → List (List Value) → Mem → Prop) (R1 : List Value → List (List Value) → Mem → Prop) (J7 : List Value → List (List Value) → Mem → Prop) (ts : List Value) (ls : List (List Value)) (σ : Mem) : Prop := w_law07_PlaceLeaves_j8b K J3 R1 J7 (ts.getD 0 poison) (ts.getD 1 poison) (ts.getD 2 poison) (ts.getD 3 poison) (ls.getD 0 []) (ls.getD 1 []) (ls.getD 2 []) σ

def w_law07_PlaceLeaves_j9b (K : Value → Mem → Prop) (J3 : List Value → List (List Value) → Mem → Prop) (R1 : List Value → List (List Value) → Mem → Prop) (J7 : List Value → List (List Value) → Mem → Prop) (J8 : List Value → List (List Value) → Mem → Prop) (v1 v7 v11 v12 v52 : Value) (c5 c8 c9 : List Value) (σ : Mem) : Prop :=
xIf v52
 (xF fMove [v1] fun v53 =>
xF fMove [v11] fun v54 =>
xF (fIxS 1) [v53, v54] fun v55 =>
hLoad 1 false [v55] (fun v56 σ =>
xF (fBin .rem .no) [v56, (.int .i64 3)] fun v57 =>
xF (fBin .add .no) [v57, (.int .i64 3)] fun v58 =>
xF (fBin .rem .no) [v58, (.int .i64 3)] fun v59 =>
xF fMove [v59] fun v12 =>
J8 [v1, v7, v11, v12] [c5, c8, c9] σ) σ)
 (J8 [v1, v7, v11, v12] [c5, c8, c9] σ)

def w_law07_PlaceLeaves_j9 (K : Value → Mem → Prop) (J3 : List Value → List (List Value) → Mem → Prop) (R1 : List Value → List (List Value) → Mem → Prop) (J7 : List Value → List (List Value) → Mem → Prop) (J8 : List Value → List (List Value) → Mem → Prop) (ts : List Value) (ls : List (List Value)) (σ : Mem) : Prop := w_law07_PlaceLeaves_j9b K J3 R1 J7 J8 (ts.getD 0 poison) (ts.getD 1 poison) (ts.getD 2 poison) (ts.getD 3 poison) (ts.getD 4 poison) (ls.getD 0 []) (ls.getD 1 []) (ls.getD 2 []) σ

def w_law07_PlaceLeaves_l12b (K : Value → Mem → Prop) (J3 : List Value → List (List Value) → Mem → Prop) (R1 : List Value → List (List Value) → Mem → Prop) (v1 v7 v11 : Value) (c5 c8 c9 : List Value) (σ : Mem) : Prop :=
xF fMove [v11] fun v39 =>
xF (fBin .lss .no) [v39, (.int .i64 300)] fun v40 =>
xIf v40
 (xJoin (w_law07_PlaceLeaves_j7 K J3 R1) fun J7 =>
xF fMove [v11] fun v43 =>
xF (fBin .rem .no) [v43, (.int .i64 3)] fun v44 =>
xF fMove [v44] fun v12 =>
xJoin (w_law07_PlaceLeaves_j8 K J3 R1 J7) fun J8 =>
xJoin (w_law07_PlaceLeaves_j9 K J3 R1 J7 J8) fun J9 =>
xF fMove [v11] fun v45 =>
xF fMove [v1] fun v46 =>
xF fLen [v46] fun v47 =>
xF (fBin .lss .no) [v45, v47] fun v48 =>
xF fMove [v48] fun v49 =>
xIf v49
 (xF fMove [v11] fun v50 =>
xF (fBin .lss .no) [v50, (.int .i64 100)] fun v51 =>
xF fPick [(.bool true), v51, (.bool false)] fun v52 =>
J9 [v1, v7, v11, v12, v52] [c5, c8, c9] σ)
 (xF fPick [(.bool false), undef, (.bool false)] fun v52 =>
J9 [v1, v7, v11, v12, v52] [c5, c8, c9] σ))
 (J3 [v7] [c5, c9] σ)

def w_law07_PlaceLeaves_l12 (K : Value → Mem → Prop) (J3 : List Value → List (List Value) → Mem → Prop) (R1 : List Value → List (List Value) → Mem → Prop) (ts : List Value) (ls : List (List Value)) (σ : Mem) : Prop := w_law07_PlaceLeaves_l12b K J3 R1 (ts.getD 0 poison) (ts.getD 1 poison) (ts.getD 2 poison) (ls.getD 0 []) (ls.getD 1 []) (ls.getD 2 []) σ

def w_law07_PlaceLeaves_j2b (K : Value → Mem → Prop) (v1 v7 : Value) (c5 c8 c9 : List Value) (σ : Mem) : Prop :=
xJoin (w_law07_PlaceLeaves_j3 K) fun J3 =>
xF fMove [(.int .i64 0)] fun v11 =>
xLoop (w_law07_PlaceLeaves_l12 K J3) [v1, v7, v11] [c5, c8, c9] σ

def w_law07_PlaceLeaves_j2 (K : Value → Mem → Prop) (ts : List Value) (ls : List (List Value)) (σ : Mem) : Prop := w_law07_PlaceLeaves_j2b K (ts.getD 0 poison) (ts.getD 1 poison) (ls.getD 0 []) (ls.getD 1 []) (ls.getD 2 []) σ

def w_law07_PlaceLeaves_l8b (K : Value → Mem → Prop) (J2 : List Value → List (List Value) → Mem → Prop) (R1 : List Value → List (List Value) → Mem → Prop) (v1 v7 v10 : Value) (c5 c8 c9 : List Value) (σ : Mem) : Prop :=
xF fMove [v10] fun v31 =>
xF (fBin .lss .no) [v31, (.int .i64 3)] fun v32 =>
xIf v32
 (xF fMove [v10] fun v35 =>
xF fMove [v7] fun v36 =>
s_place_New [v36] (fun v37 σ =>
xF (fIxA 3 1) [(locP 8), v35] fun v38 =>
xC (gStore 1 [v38, v37] c8) fun c8 =>
xF fMove [v10] fun v33 =>
xF (fBin .add .no) [v33, (.int .i64 1)] fun v34 =>
xF fMove [v34] fun v10 =>
R1 [v1, v7, v10] [c5, c8, c9] σ) σ)
 (J2 [v1, v7] [c5, c8, c9] σ)

def w_law07_PlaceLeaves_l8 (K : Value → Mem → Prop) (J2 : List Value → List (List Value) → Mem → Prop) (R1 : List Value → List (List Value) → Mem → Prop) (ts : List Value) (ls : List (List Value)) (σ : Mem) : Prop := w_law07_PlaceLeaves_l8b K J2 R1 (ts.getD 0 poison) (ts.getD 1 poison) (ts.getD 2 poison) (ls.getD 0 []) (ls.getD 1 []) (ls.getD 2 []) σ

def w_law07_PlaceLeaves_j1b (K : Value → Mem → Prop) (v0 v1 v26 : Value) (c5 : List Value) (σ : Mem) : Prop :=
xIf v26
 (xF fMove [(.bool false)] fun v4 =>
K v4 σ)
 (xF fMove [v0] fun v27 =>
xF (fBin .and .no) [v27, (.int .i64 3)] fun v28 =>
xF fMove [v28] fun v7 =>
xF (fBuild [(0, 1), (1, 1), (2, 1)] [(.pointer none), (.pointer none), (.pointer none)] []) [] fun v29 =>
xF (fBuild [(0, 1), (1, 1), (2, 1)] [(.bool false), (.bool false), (.bool false)] []) [] fun v30 =>
xC (gStore 3 [(locP 8), v29] [(.pointer none), (.pointer none), (.pointer none)]) fun c8 =>
xC (gStore 3 [(locP 9), v30] [(.bool false), (.bool false), (.bool false)]) fun c9 =>
xJoin (w_law07_PlaceLeaves_j2 K) fun J2 =>
xF fMove [(.int .i64 0)] fun v10 =>
xLoop (w_law07_PlaceLeaves_l8 K J2) [v1, v7, v10] [c5, c8, c9] σ)

def w_law07_PlaceLeaves_j1 (K : Value → Mem → Prop) (ts : List Value) (ls : List (List Value)) (σ : Mem) : Prop := w_law07_PlaceLeaves_j1b K (ts.getD 0 poison) (ts.getD 1 poison) (ts.getD 2 poison) (ls.getD 0 []) σ

def w_law07_PlaceLeaves (a0 a1 : Value) (K : Value → Mem → Prop) (σ : Mem) : Prop :=
xF fMove [(.bool false)] fun v4 =>
s_law04_Arena [(.int .i64 4), (.int .i64 1), (.int .i64 6), (.int .i64 20)] (fun v18 σ =>
xF fMove [v18] fun v17 =>
xF (fExt 0) [v17] fun v19 =>
xF (fExt 1) [v17] fun v20 =>
xC (gStore 9 [(locP 5), v19] [(.int .i64 0), (.int .i64 0), (.int .i64 0), (.int .i64 0), (.int .i64 0), (.int .i64 0), (.int .i64 0), (.pointer none), (.int .i64 0)]) fun c5 =>
xF fMove [v20] fun v6 =>
xJoin (w_law07_PlaceLeaves_j1 K) fun J1 =>
s_law07_awake [] (fun v21 σ =>
xF (fUn .not) [v21] fun v22 =>
xF fMove [v22] fun v23 =>
xIf v23
 (xF fPick [(.bool true), (.bool true), undef] fun v26 =>
J1 [a0, a1, v26] [c5] σ)
 (xF fMove [v6] fun v24 =>
xF (fUn .not) [v24] fun v25 =>
xF fPick [(.bool false), (.bool true), v25] fun v26 =>
J1 [a0, a1, v26] [c5] σ)) σ) σ

def s_law07_PlaceLeaves : Spec := fun args K σ => match args with
  | [a0, a1] => w_law07_PlaceLeaves a0 a1 K σ
  | _ => False

noncomputable def cx_law07_PlaceLeaves : Cx := { P := Try.prog, T := [(13, .write, s_law04_Arena), (14, .none, s_law07_awake), (21, .write, s_place_New), (22, .write, s_place_Place_Step), (23, .none, s_layout_Open), (19, .read, s_mem_Mem_Peek), (20, .none, s_layout_Chunk), (18, .none, s_word_Chunk), (15, .write, s_ref04_Room)], loc := [(5, 5), (8, 8), (9, 9), (16, 16), (38, 8), (61, 9), (66, 8), (70, 9), (71, 9), (75, 9), (80, 9), (84, 5), (95, 5), (97, 5), (104, 16), (111, 16), (115, 16), (126, 16), (131, 16)], eqt := [], n := 148, keep := [(8, [1, 7, 10], [5, 8, 9]), (12, [1, 7, 11], [5, 8, 9]), (23, [7, 13, 14, 15], [5]), (1000004, [0, 1, 26], [5]), (1000011, [1, 7], [5, 8, 9]), (1000013, [1, 7, 11], [5, 8, 9]), (1000016, [1, 7, 11, 12, 52], [5, 8, 9]), (1000017, [1, 7, 11, 12], [5, 8, 9]), (1000019, [7], [5, 9]), (1000020, [7, 83], [5]), (1000028, [7, 13, 14, 15, 138], [5]), (1000029, [7, 13, 14], [])] }
theorem q_law07_PlaceLeaves : FnS cx_law07_PlaceLeaves Try.f4 (bodyOf Try.f4) 2 = s_law07_PlaceLeaves := by
  funext args K σ
  rcases args with _ | ⟨a0, _ | ⟨a1, _ | ⟨b, r⟩⟩⟩ <;> kernel_rfl
theorem e_law07_PlaceLeaves : Entry Try.prog 4 .write s_law07_PlaceLeaves :=
  entry (C := cx_law07_PlaceLeaves) (TOk.cons e_law04_Arena (TOk.cons e_law07_awake (TOk.cons e_place_New (TOk.cons e_place_Place_Step (TOk.cons e_layout_Open (TOk.cons e_mem_Mem_Peek (TOk.cons e_layout_Chunk (TOk.cons e_word_Chunk (TOk.cons e_ref04_Room TOk.nil))))))))) mixedOk Try.func4 (by kernel_rfl) (by kernel_rfl) (by kernel_rfl) q_law07_PlaceLeaves


attribute [irreducible] w_law07_PlaceLeaves_j5b w_law07_PlaceLeaves_j5 w_law07_PlaceLeaves_j6b w_law07_PlaceLeaves_j6 w_law07_PlaceLeaves_l23b w_law07_PlaceLeaves_l23 w_law07_PlaceLeaves_j4b w_law07_PlaceLeaves_j4 w_law07_PlaceLeaves_j3b w_law07_PlaceLeaves_j3 w_law07_PlaceLeaves_j7b w_law07_PlaceLeaves_j7 w_law07_PlaceLeaves_j8b w_law07_PlaceLeaves_j8 w_law07_PlaceLeaves_j9b w_law07_PlaceLeaves_j9 w_law07_PlaceLeaves_l12b w_law07_PlaceLeaves_l12 w_law07_PlaceLeaves_j2b w_law07_PlaceLeaves_j2 w_law07_PlaceLeaves_l8b w_law07_PlaceLeaves_l8 w_law07_PlaceLeaves_j1b w_law07_PlaceLeaves_j1 w_law07_PlaceLeaves s_law07_PlaceLeaves

/-! ### (*/mem.Mem).Len -/
def w_mem_Mem_Len (a0 : Value) (K : Value → Mem → Prop) (σ : Mem) : Prop :=
xF fMove [(.int .i64 0)] fun v2 =>
xF fMove [a0] fun v3 =>
xF (fBin .eql .ptr) [v3, (.pointer none)] fun v4 =>
xIf v4
 (xF fMove [(.int .i64 0)] fun v2 =>
K v2 σ)
 (xF fMove [a0] fun v5 =>
xF fNil [v5] fun v6 =>
xF (fFld 0) [v6] fun v7 =>
hLoad 1 false [v7] (fun v8 σ =>
xF fLen [v8] fun v9 =>
xF fMove [v9] fun v2 =>
K v2 σ) σ)

def s_mem_Mem_Len : Spec := fun args K σ => match args with
  | [a0] => w_mem_Mem_Len a0 K σ
  | _ => False

noncomputable def cx_mem_Mem_Len : Cx := { P := Try.prog, T := [], loc := [], eqt := [(25, .ptr)], n := 10, keep := [] }
theorem q_mem_Mem_Len : FnS cx_mem_Mem_Len Try.f24 (bodyOf Try.f24) 1 = s_mem_Mem_Len := by
  funext args K σ
  rcases args with _ | ⟨a0, _ | ⟨b, r⟩⟩ <;> kernel_rfl
theorem e_mem_Mem_Len : Entry Try.prog 24 .read s_mem_Mem_Len :=
  entry (C := cx_mem_Mem_Len) TOk.nil mixedOk Try.func24 (by kernel_rfl) (by kernel_rfl) (by kernel_rfl) q_mem_Mem_Len


attribute [irreducible] w_mem_Mem_Len s_mem_Mem_Len

/-! ### /ref04.Kind -/
def w_ref04_Kind_j1b (K : Value → Mem → Prop) (σ : Mem) : Prop :=
xF fMove [(.int .i64 (-1))] fun v4 =>
xF fMove [(.int .i64 0)] fun v5 =>
xF fMove [(.int .i64 0)] fun v6 =>
K (.tuple #[v4, v5, v6]) σ

def w_ref04_Kind_j1 (K : Value → Mem → Prop) (ts : List Value) (ls : List (List Value)) (σ : Mem) : Prop := w_ref04_Kind_j1b K σ

def w_ref04_Kind_l6b (K : Value → Mem → Prop) (J1 : List Value → List (List Value) → Mem → Prop) (R1 : List Value → List (List Value) → Mem → Prop) (v1 v7 v8 : Value) (c2 : List Value) (σ : Mem) : Prop :=
xF fMove [v8] fun v25 =>
xF fMove [v7] fun v26 =>
xF fLen [v26] fun v27 =>
xF (fBin .lss .no) [v25, v27] fun v28 =>
xIf v28
 (xF fMove [v1] fun v31 =>
xF fMove [v7] fun v32 =>
xF fMove [v8] fun v33 =>
xF (fIxS 1) [v32, v33] fun v34 =>
hLoad 1 false [v34] (fun v35 σ =>
xF (fBin .geq .no) [v31, v35] fun v36 =>
xIf v36
 (xF fMove [v1] fun v37 =>
xF fMove [v7] fun v38 =>
xF fMove [v8] fun v39 =>
xF (fIxS 1) [v38, v39] fun v40 =>
hLoad 1 false [v40] (fun v41 σ =>
xF (fBin .sub .no) [v37, v41] fun v42 =>
xF fMove [v42] fun v1 =>
xF fMove [v8] fun v29 =>
xF (fBin .add .no) [v29, (.int .i64 1)] fun v30 =>
xF fMove [v30] fun v8 =>
R1 [v1, v7, v8] [c2] σ) σ)
 (xF fMove [v8] fun v43 =>
xF (fBin .eql .no) [v43, (.int .i64 4)] fun v45 =>
xF fMove [v45] fun v44 =>
xIf v44
 (xF fMove [v1] fun v46 =>
xF (fBin .rem .no) [v46, (.int .i64 2)] fun v47 =>
xF (fBin .add .no) [(.int .i64 4), v47] fun v48 =>
xF fMove [v1] fun v49 =>
xF (fBin .quo .no) [v49, (.int .i64 2)] fun v50 =>
xF fMove [v48] fun v4 =>
xF fMove [v50] fun v5 =>
xF fMove [(.int .i64 0)] fun v6 =>
K (.tuple #[v4, v5, v6]) σ)
 (xF (fBin .eql .no) [v43, (.int .i64 5)] fun v52 =>
xF fMove [v52] fun v51 =>
xIf v51
 (xF fMove [v1] fun v53 =>
xF (fBin .rem .no) [v53, (.int .i64 3)] fun v54 =>
xF (fBin .add .no) [(.int .i64 6), v54] fun v55 =>
xF fMove [v1] fun v56 =>
xF (fBin .quo .no) [v56, (.int .i64 3)] fun v57 =>
xF fMove [v55] fun v4 =>
xF fMove [v57] fun v5 =>
xF fMove [(.int .i64 0)] fun v6 =>
K (.tuple #[v4, v5, v6]) σ)
 (xF (fBin .eql .no) [v43, (.int .i64 6)] fun v59 =>
xF fMove [v59] fun v58 =>
xIf v58
 (xF fMove [v1] fun v60 =>
xF (fFld 3) [(locP 2)] fun v61 =>
xO (gLoad 1 false [v61] c2) fun v62 =>
xF (fBin .quo .no) [v60, v62] fun v63 =>
xF fMove [v1] fun v64 =>
xF (fFld 3) [(locP 2)] fun v65 =>
xO (gLoad 1 false [v65] c2) fun v66 =>
xF (fBin .rem .no) [v64, v66] fun v67 =>
xF fMove [(.int .i64 9)] fun v4 =>
xF fMove [v63] fun v5 =>
xF fMove [v67] fun v6 =>
K (.tuple #[v4, v5, v6]) σ)
 (xF fMove [v8] fun v68 =>
xF fMove [v1] fun v69 =>
xF fMove [v68] fun v4 =>
xF fMove [v69] fun v5 =>
xF fMove [(.int .i64 0)] fun v6 =>
K (.tuple #[v4, v5, v6]) σ))))) σ)
 (J1 [] [] σ)

def w_ref04_Kind_l6 (K : Value → Mem → Prop) (J1 : List Value → List (List Value) → Mem → Prop) (R1 : List Value → List (List Value) → Mem → Prop) (ts : List Value) (ls : List (List Value)) (σ : Mem) : Prop := w_ref04_Kind_l6b K J1 R1 (ts.getD 0 poison) (ts.getD 1 poison) (ts.getD 2 poison) (ls.getD 0 []) σ

def w_ref04_Kind (a0 a1 : Value) (K : Value → Mem → Prop) (σ : Mem) : Prop :=
xC (gBox 7 [a0] []) fun c2 =>
xF fMove [(.int .i64 0)] fun v4 =>
xF fMove [(.int .i64 0)] fun v5 =>
xF fMove [(.int .i64 0)] fun v6 =>
xF fMove [a1] fun v9 =>
xF (fBin .lss .no) [v9, (.int .i64 0)] fun v10 =>
xIf v10
 (xF fMove [(.int .i64 (-1))] fun v4 =>
xF fMove [(.int .i64 0)] fun v5 =>
xF fMove [(.int .i64 0)] fun v6 =>
K (.tuple #[v4, v5, v6]) σ)
 (xF (fFld 0) [(locP 2)] fun v11 =>
xO (gLoad 1 false [v11] c2) fun v12 =>
xF (fFld 1) [(locP 2)] fun v13 =>
xO (gLoad 1 false [v13] c2) fun v14 =>
xF (fBin .mul .no) [(.int .i64 2), v14] fun v15 =>
xF (fFld 2) [(locP 2)] fun v16 =>
xO (gLoad 1 false [v16] c2) fun v17 =>
xF (fBin .mul .no) [(.int .i64 3), v17] fun v18 =>
xF (fFld 2) [(locP 2)] fun v19 =>
xO (gLoad 1 false [v19] c2) fun v20 =>
xF (fFld 3) [(locP 2)] fun v21 =>
xO (gLoad 1 false [v21] c2) fun v22 =>
xF (fBin .mul .no) [v20, v22] fun v23 =>
hBuildS 1 7 [(.int .i64 0)] [0, 1, 2, 3, 4, 5, 6] [(.int .i64 1), (.int .i64 1), (.int .i64 4), v12, v15, v18, v23] (fun v24 σ =>
xF fMove [v24] fun v7 =>
xJoin (w_ref04_Kind_j1 K) fun J1 =>
xF fMove [(.int .i64 0)] fun v8 =>
xLoop (w_ref04_Kind_l6 K J1) [a1, v7, v8] [c2] σ) σ)

def s_ref04_Kind : Spec := fun args K σ => match args with
  | [a0, a1] => w_ref04_Kind a0 a1 K σ
  | _ => False

noncomputable def cx_ref04_Kind : Cx := { P := Try.prog, T := [], loc := [(2, 2), (11, 2), (13, 2), (16, 2), (19, 2), (21, 2), (61, 2), (65, 2)], eqt := [], n := 70, keep := [(6, [1, 7, 8], [2]), (1000018, [], [])] }
theorem q_ref04_Kind : FnS cx_ref04_Kind Try.f25 (bodyOf Try.f25) 2 = s_ref04_Kind := by
  funext args K σ
  rcases args with _ | ⟨a0, _ | ⟨a1, _ | ⟨b, r⟩⟩⟩ <;> kernel_rfl
theorem e_ref04_Kind : Entry Try.prog 25 .write s_ref04_Kind :=
  entry (C := cx_ref04_Kind) TOk.nil mixedOk Try.func25 (by kernel_rfl) (by kernel_rfl) (by kernel_rfl) q_ref04_Kind


attribute [irreducible] w_ref04_Kind_j1b w_ref04_Kind_j1 w_ref04_Kind_l6b w_ref04_Kind_l6 w_ref04_Kind s_ref04_Kind

/-! ### /law07.PlaceClean -/
def w_law07_PlaceClean_j4b (K : Value → Mem → Prop) (σ : Mem) : Prop :=
xF fMove [(.bool true)] fun v4 =>
K v4 σ

def w_law07_PlaceClean_j4 (K : Value → Mem → Prop) (ts : List Value) (ls : List (List Value)) (σ : Mem) : Prop := w_law07_PlaceClean_j4b K σ

def w_law07_PlaceClean_j5b (K : Value → Mem → Prop) (J4 : List Value → List (List Value) → Mem → Prop) (R1 : List Value → List (List Value) → Mem → Prop) (v7 v10 v91 : Value) (c5 : List Value) (σ : Mem) : Prop :=
xIf v91
 (xF fMove [(.bool false)] fun v4 =>
K v4 σ)
 (xF fMove [v10] fun v65 =>
xF (fBin .add .no) [v65, (.int .i64 1)] fun v66 =>
xF fMove [v66] fun v10 =>
R1 [v7, v10] [c5] σ)

def w_law07_PlaceClean_j5 (K : Value → Mem → Prop) (J4 : List Value → List (List Value) → Mem → Prop) (R1 : List Value → List (List Value) → Mem → Prop) (ts : List Value) (ls : List (List Value)) (σ : Mem) : Prop := w_law07_PlaceClean_j5b K J4 R1 (ts.getD 0 poison) (ts.getD 1 poison) (ts.getD 2 poison) (ls.getD 0 []) σ

def w_law07_PlaceClean_l15b (K : Value → Mem → Prop) (J4 : List Value → List (List Value) → Mem → Prop) (R1 : List Value → List (List Value) → Mem → Prop) (v7 v10 : Value) (c5 : List Value) (σ : Mem) : Prop :=
xF fMove [v10] fun v61 =>
xF fMove [v7] fun v62 =>
xF fLen [v62] fun v63 =>
xF (fBin .lss .no) [v61, v63] fun v64 =>
xIf v64
 (xF (fFld 0) [(locP 5)] fun v68 =>
xO (gLoad 7 true [v68] c5) fun v69 =>
xF fMove [v10] fun v70 =>
s_ref04_Kind [v69, v70] (fun v71 σ =>
xF fMove [v71] fun v67 =>
xF (fExt 0) [v67] fun v72 =>
xF (fExt 1) [v67] fun v73 =>
xF (fExt 2) [v67] fun v74 =>
xF fMove [v72] fun v11 =>
xF fMove [v73] fun v12 =>
xF fMove [v74] fun v13 =>
xJoin (w_law07_PlaceClean_j5 K J4 R1) fun J5 =>
xF fMove [v11] fun v75 =>
xF (fBin .neq .no) [v75, (.int .i64 2)] fun v76 =>
xF fMove [v76] fun v77 =>
xIf v77
 (xF fMove [v11] fun v78 =>
xF (fBin .neq .no) [v78, (.int .i64 6)] fun v79 =>
xF fPick [(.bool true), v79, (.bool false)] fun v80 =>
xF fMove [v80] fun v81 =>
xIf v81
 (xF (fFld 7) [(locP 5)] fun v82 =>
xO (gLoad 1 false [v82] c5) fun v83 =>
xF fMove [v10] fun v84 =>
s_mem_Mem_Peek [v83, v84] (fun v85 σ =>
xF fMove [v7] fun v86 =>
xF fMove [v10] fun v87 =>
xF (fIxS 1) [v86, v87] fun v88 =>
hLoad 1 false [v88] (fun v89 σ =>
xF (fBin .neq .no) [v85, v89] fun v90 =>
xF fPick [(.bool true), v90, (.bool false)] fun v91 =>
J5 [v7, v10, v91] [c5] σ) σ) σ)
 (xF fPick [(.bool false), undef, (.bool false)] fun v91 =>
J5 [v7, v10, v91] [c5] σ))
 (xF fPick [(.bool false), undef, (.bool false)] fun v80 =>
xF fMove [v80] fun v81 =>
xIf v81
 (xF (fFld 7) [(locP 5)] fun v82 =>
xO (gLoad 1 false [v82] c5) fun v83 =>
xF fMove [v10] fun v84 =>
s_mem_Mem_Peek [v83, v84] (fun v85 σ =>
xF fMove [v7] fun v86 =>
xF fMove [v10] fun v87 =>
xF (fIxS 1) [v86, v87] fun v88 =>
hLoad 1 false [v88] (fun v89 σ =>
xF (fBin .neq .no) [v85, v89] fun v90 =>
xF fPick [(.bool true), v90, (.bool false)] fun v91 =>
J5 [v7, v10, v91] [c5] σ) σ) σ)
 (xF fPick [(.bool false), undef, (.bool false)] fun v91 =>
J5 [v7, v10, v91] [c5] σ))) σ)
 (J4 [] [] σ)

def w_law07_PlaceClean_l15 (K : Value → Mem → Prop) (J4 : List Value → List (List Value) → Mem → Prop) (R1 : List Value → List (List Value) → Mem → Prop) (ts : List Value) (ls : List (List Value)) (σ : Mem) : Prop := w_law07_PlaceClean_l15b K J4 R1 (ts.getD 0 poison) (ts.getD 1 poison) (ls.getD 0 []) σ

def w_law07_PlaceClean_j3b (K : Value → Mem → Prop) (v7 : Value) (c5 : List Value) (σ : Mem) : Prop :=
xJoin (w_law07_PlaceClean_j4 K) fun J4 =>
xF fMove [(.int .i64 0)] fun v10 =>
xLoop (w_law07_PlaceClean_l15 K J4) [v7, v10] [c5] σ

def w_law07_PlaceClean_j3 (K : Value → Mem → Prop) (ts : List Value) (ls : List (List Value)) (σ : Mem) : Prop := w_law07_PlaceClean_j3b K (ts.getD 0 poison) (ls.getD 0 []) σ

def w_law07_PlaceClean_j6b (K : Value → Mem → Prop) (J3 : List Value → List (List Value) → Mem → Prop) (R1 : List Value → List (List Value) → Mem → Prop) (v1 v7 v9 : Value) (c5 : List Value) (σ : Mem) : Prop :=
xO (gLoad 9 true [(locP 5)] c5) fun v54 =>
xF fMove [v1] fun v55 =>
xF fMove [v9] fun v56 =>
xF (fIxS 1) [v55, v56] fun v57 =>
hLoad 1 false [v57] (fun v58 σ =>
xF (fBin .and .no) [v58, (.int .i64 3)] fun v59 =>
s_law07_get [v54, v59] (fun v60 σ =>
xF fMove [v9] fun v52 =>
xF (fBin .add .no) [v52, (.int .i64 1)] fun v53 =>
xF fMove [v53] fun v9 =>
R1 [v1, v7, v9] [c5] σ) σ) σ

def w_law07_PlaceClean_j6 (K : Value → Mem → Prop) (J3 : List Value → List (List Value) → Mem → Prop) (R1 : List Value → List (List Value) → Mem → Prop) (ts : List Value) (ls : List (List Value)) (σ : Mem) : Prop := w_law07_PlaceClean_j6b K J3 R1 (ts.getD 0 poison) (ts.getD 1 poison) (ts.getD 2 poison) (ls.getD 0 []) σ

def w_law07_PlaceClean_l11b (K : Value → Mem → Prop) (J3 : List Value → List (List Value) → Mem → Prop) (R1 : List Value → List (List Value) → Mem → Prop) (v1 v7 v9 : Value) (c5 : List Value) (σ : Mem) : Prop :=
xJoin (w_law07_PlaceClean_j6 K J3 R1) fun J6 =>
xF fMove [v9] fun v44 =>
xF fMove [v1] fun v45 =>
xF fLen [v45] fun v46 =>
xF (fBin .lss .no) [v44, v46] fun v47 =>
xF fMove [v47] fun v48 =>
xIf v48
 (xF fMove [v9] fun v49 =>
xF (fBin .lss .no) [v49, (.int .i64 30)] fun v50 =>
xF fPick [(.bool true), v50, (.bool false)] fun v51 =>
xIf v51
 (J6 [v1, v7, v9] [c5] σ)
 (J3 [v7] [c5] σ))
 (xF fPick [(.bool false), undef, (.bool false)] fun v51 =>
xIf v51
 (J6 [v1, v7, v9] [c5] σ)
 (J3 [v7] [c5] σ))

def w_law07_PlaceClean_l11 (K : Value → Mem → Prop) (J3 : List Value → List (List Value) → Mem → Prop) (R1 : List Value → List (List Value) → Mem → Prop) (ts : List Value) (ls : List (List Value)) (σ : Mem) : Prop := w_law07_PlaceClean_l11b K J3 R1 (ts.getD 0 poison) (ts.getD 1 poison) (ts.getD 2 poison) (ls.getD 0 []) σ

def w_law07_PlaceClean_j2b (K : Value → Mem → Prop) (v1 v7 : Value) (c5 : List Value) (σ : Mem) : Prop :=
xJoin (w_law07_PlaceClean_j3 K) fun J3 =>
xF fMove [(.int .i64 0)] fun v9 =>
xLoop (w_law07_PlaceClean_l11 K J3) [v1, v7, v9] [c5] σ

def w_law07_PlaceClean_j2 (K : Value → Mem → Prop) (ts : List Value) (ls : List (List Value)) (σ : Mem) : Prop := w_law07_PlaceClean_j2b K (ts.getD 0 poison) (ts.getD 1 poison) (ls.getD 0 []) σ

def w_law07_PlaceClean_l7b (K : Value → Mem → Prop) (J2 : List Value → List (List Value) → Mem → Prop) (R1 : List Value → List (List Value) → Mem → Prop) (v1 v7 v8 : Value) (c5 : List Value) (σ : Mem) : Prop :=
xF fMove [v8] fun v31 =>
xF fMove [v7] fun v32 =>
xF fLen [v32] fun v33 =>
xF (fBin .lss .no) [v31, v33] fun v34 =>
xIf v34
 (xF fMove [v7] fun v37 =>
xF fMove [v8] fun v38 =>
xF (fFld 7) [(locP 5)] fun v39 =>
xO (gLoad 1 false [v39] c5) fun v40 =>
xF fMove [v8] fun v41 =>
s_mem_Mem_Peek [v40, v41] (fun v42 σ =>
xF (fIxS 1) [v37, v38] fun v43 =>
hStore 1 [v43, v42] (fun _v σ =>
xF fMove [v8] fun v35 =>
xF (fBin .add .no) [v35, (.int .i64 1)] fun v36 =>
xF fMove [v36] fun v8 =>
R1 [v1, v7, v8] [c5] σ) σ) σ)
 (J2 [v1, v7] [c5] σ)

def w_law07_PlaceClean_l7 (K : Value → Mem → Prop) (J2 : List Value → List (List Value) → Mem → Prop) (R1 : List Value → List (List Value) → Mem → Prop) (ts : List Value) (ls : List (List Value)) (σ : Mem) : Prop := w_law07_PlaceClean_l7b K J2 R1 (ts.getD 0 poison) (ts.getD 1 poison) (ts.getD 2 poison) (ls.getD 0 []) σ

def w_law07_PlaceClean_j1b (K : Value → Mem → Prop) (v1 v26 : Value) (c5 : List Value) (σ : Mem) : Prop :=
xIf v26
 (xF fMove [(.bool false)] fun v4 =>
K v4 σ)
 (xF (fFld 7) [(locP 5)] fun v27 =>
xO (gLoad 1 false [v27] c5) fun v28 =>
s_mem_Mem_Len [v28] (fun v29 σ =>
hMakeS 1 8 [(.int .u64 0)] [v29, v29] (fun v30 σ =>
xF fMove [v30] fun v7 =>
xJoin (w_law07_PlaceClean_j2 K) fun J2 =>
xF fMove [(.int .i64 0)] fun v8 =>
xLoop (w_law07_PlaceClean_l7 K J2) [v1, v7, v8] [c5] σ) σ) σ)

def w_law07_PlaceClean_j1 (K : Value → Mem → Prop) (ts : List Value) (ls : List (List Value)) (σ : Mem) : Prop := w_law07_PlaceClean_j1b K (ts.getD 0 poison) (ts.getD 1 poison) (ls.getD 0 []) σ

def w_law07_PlaceClean (a0 a1 : Value) (K : Value → Mem → Prop) (σ : Mem) : Prop :=
xF fMove [(.bool false)] fun v4 =>
xF fMove [a0] fun v15 =>
xF (fBin .and .no) [v15, (.int .i64 7)] fun v16 =>
xF (fBin .add .no) [(.int .i64 1), v16] fun v17 =>
s_law04_Arena [(.int .i64 2), (.int .i64 3), v17, (.int .i64 20)] (fun v18 σ =>
xF fMove [v18] fun v14 =>
xF (fExt 0) [v14] fun v19 =>
xF (fExt 1) [v14] fun v20 =>
xC (gStore 9 [(locP 5), v19] [(.int .i64 0), (.int .i64 0), (.int .i64 0), (.int .i64 0), (.int .i64 0), (.int .i64 0), (.int .i64 0), (.pointer none), (.int .i64 0)]) fun c5 =>
xF fMove [v20] fun v6 =>
xJoin (w_law07_PlaceClean_j1 K) fun J1 =>
s_law07_awake [] (fun v21 σ =>
xF (fUn .not) [v21] fun v22 =>
xF fMove [v22] fun v23 =>
xIf v23
 (xF fPick [(.bool true), (.bool true), undef] fun v26 =>
J1 [a1, v26] [c5] σ)
 (xF fMove [v6] fun v24 =>
xF (fUn .not) [v24] fun v25 =>
xF fPick [(.bool false), (.bool true), v25] fun v26 =>
J1 [a1, v26] [c5] σ)) σ) σ

def s_law07_PlaceClean : Spec := fun args K σ => match args with
  | [a0, a1] => w_law07_PlaceClean a0 a1 K σ
  | _ => False

noncomputable def cx_law07_PlaceClean : Cx := { P := Try.prog, T := [(13, .write, s_law04_Arena), (14, .none, s_law07_awake), (24, .read, s_mem_Mem_Len), (19, .read, s_mem_Mem_Peek), (16, .write, s_law07_get), (25, .write, s_ref04_Kind)], loc := [(5, 5), (27, 5), (39, 5), (68, 5), (82, 5)], eqt := [], n := 92, keep := [(7, [1, 7, 8], [5]), (11, [1, 7, 9], [5]), (15, [7, 10], [5]), (1000004, [1, 26], [5]), (1000010, [1, 7], [5]), (1000013, [1, 7, 9], [5]), (1000014, [7], [5]), (1000019, [7, 10, 91], [5]), (1000020, [], [])] }
theorem q_law07_PlaceClean : FnS cx_law07_PlaceClean Try.f5 (bodyOf Try.f5) 2 = s_law07_PlaceClean := by
  funext args K σ
  rcases args with _ | ⟨a0, _ | ⟨a1, _ | ⟨b, r⟩⟩⟩ <;> kernel_rfl
theorem e_law07_PlaceClean : Entry Try.prog 5 .write s_law07_PlaceClean :=
  entry (C := cx_law07_PlaceClean) (TOk.cons e_law04_Arena (TOk.cons e_law07_awake (TOk.cons e_mem_Mem_Len (TOk.cons e_mem_Mem_Peek (TOk.cons e_law07_get (TOk.cons e_ref04_Kind TOk.nil)))))) mixedOk Try.func5 (by kernel_rfl) (by kernel_rfl) (by kernel_rfl) q_law07_PlaceClean


attribute [irreducible] w_law07_PlaceClean_j4b w_law07_PlaceClean_j4 w_law07_PlaceClean_j5b w_law07_PlaceClean_j5 w_law07_PlaceClean_l15b w_law07_PlaceClean_l15 w_law07_PlaceClean_j3b w_law07_PlaceClean_j3 w_law07_PlaceClean_j6b w_law07_PlaceClean_j6 w_law07_PlaceClean_l11b w_law07_PlaceClean_l11 w_law07_PlaceClean_j2b w_law07_PlaceClean_j2 w_law07_PlaceClean_l7b w_law07_PlaceClean_l7 w_law07_PlaceClean_j1b w_law07_PlaceClean_j1 w_law07_PlaceClean s_law07_PlaceClean

/-! ### /layout.Of -/
def w_layout_Of_j1b (K : Value → Mem → Prop) (v1 v5 v16 : Value) (c2 : List Value) (σ : Mem) : Prop :=
xIf v16
 (xF fMove [(.int .i64 (-1))] fun v4 =>
K v4 σ)
 (xF fMove [v1] fun v17 =>
xF fMove [v5] fun v18 =>
xF (fBin .sub .no) [v17, v18] fun v19 =>
xF (fFld 3) [(locP 2)] fun v20 =>
xO (gLoad 1 false [v20] c2) fun v21 =>
xF (fBin .quo .no) [v19, v21] fun v22 =>
xF fMove [v22] fun v4 =>
K v4 σ)

def w_layout_Of_j1 (K : Value → Mem → Prop) (ts : List Value) (ls : List (List Value)) (σ : Mem) : Prop := w_layout_Of_j1b K (ts.getD 0 poison) (ts.getD 1 poison) (ts.getD 2 poison) (ls.getD 0 []) σ

def w_layout_Of (a0 a1 : Value) (K : Value → Mem → Prop) (σ : Mem) : Prop :=
xC (gBox 7 [a0] []) fun c2 =>
xF fMove [(.int .i64 0)] fun v4 =>
xO (gLoad 7 true [(locP 2)] c2) fun v6 =>
s_layout_Base [v6, (.int .i64 0)] (fun v7 σ =>
xF fMove [v7] fun v5 =>
xJoin (w_layout_Of_j1 K) fun J1 =>
xF fMove [a1] fun v8 =>
xF fMove [v5] fun v9 =>
xF (fBin .lss .no) [v8, v9] fun v10 =>
xF fMove [v10] fun v11 =>
xIf v11
 (xF fPick [(.bool true), (.bool true), undef] fun v16 =>
J1 [a1, v5, v16] [c2] σ)
 (xF fMove [a1] fun v12 =>
xO (gLoad 7 true [(locP 2)] c2) fun v13 =>
s_layout_Len [v13] (fun v14 σ =>
xF (fBin .geq .no) [v12, v14] fun v15 =>
xF fPick [(.bool false), (.bool true), v15] fun v16 =>
J1 [a1, v5, v16] [c2] σ) σ)) σ

def s_layout_Of : Spec := fun args K σ => match args with
  | [a0, a1] => w_layout_Of a0 a1 K σ
  | _ => False

noncomputable def cx_layout_Of : Cx := { P := Try.prog, T := [(17, .none, s_layout_Base), (26, .none, s_layout_Len)], loc := [(2, 2), (20, 2)], eqt := [], n := 23, keep := [(1000004, [1, 5, 16], [2])] }
theorem q_layout_Of : FnS cx_layout_Of Try.f28 (bodyOf Try.f28) 2 = s_layout_Of := by
  funext args K σ
  rcases args with _ | ⟨a0, _ | ⟨a1, _ | ⟨b, r⟩⟩⟩ <;> kernel_rfl
theorem e_layout_Of : Entry Try.prog 28 .none s_layout_Of :=
  entry (C := cx_layout_Of) (TOk.cons e_layout_Base (TOk.cons e_layout_Len TOk.nil)) mixedOk Try.func28 (by kernel_rfl) (by kernel_rfl) (by kernel_rfl) q_layout_Of


attribute [irreducible] w_layout_Of_j1b w_layout_Of_j1 w_layout_Of s_layout_Of

/-! ### /law07.PlaceShares -/
def w_law07_PlaceShares_j2b (K : Value → Mem → Prop) (σ : Mem) : Prop :=
xF fMove [(.bool true)] fun v6 =>
K v6 σ

def w_law07_PlaceShares_j2 (K : Value → Mem → Prop) (ts : List Value) (ls : List (List Value)) (σ : Mem) : Prop := w_law07_PlaceShares_j2b K σ

def w_law07_PlaceShares_j4b (K : Value → Mem → Prop) (J2 : List Value → List (List Value) → Mem → Prop) (R1 : List Value → List (List Value) → Mem → Prop) (v1 v2 v12 v13 v14 : Value) (c8 c10 c11 : List Value) (σ : Mem) : Prop :=
xF fMove [v14] fun v49 =>
xF (fBin .add .no) [v49, (.int .i64 1)] fun v50 =>
xF fMove [v50] fun v14 =>
R1 [v1, v2, v12, v13, v14] [c8, c10, c11] σ

def w_law07_PlaceShares_j4 (K : Value → Mem → Prop) (J2 : List Value → List (List Value) → Mem → Prop) (R1 : List Value → List (List Value) → Mem → Prop) (ts : List Value) (ls : List (List Value)) (σ : Mem) : Prop := w_law07_PlaceShares_j4b K J2 R1 (ts.getD 0 poison) (ts.getD 1 poison) (ts.getD 2 poison) (ts.getD 3 poison) (ts.getD 4 poison) (ls.getD 0 []) (ls.getD 1 []) (ls.getD 2 []) σ

def w_law07_PlaceShares_l26b (K : Value → Mem → Prop) (J2 : List Value → List (List Value) → Mem → Prop) (R1 : List Value → List (List Value) → Mem → Prop) (J4 : List Value → List (List Value) → Mem → Prop) (R3 : List Value → List (List Value) → Mem → Prop) (v1 v2 v12 v13 v14 v19 v20 : Value) (c8 c10 c11 c16 : List Value) (σ : Mem) : Prop :=
xF fMove [v20] fun v160 =>
xF fMove [v19] fun v161 =>
xF (fBin .lss .no) [v160, v161] fun v162 =>
xIf v162
 (xF fMove [v13] fun v165 =>
xF (fFld 0) [(locP 16)] fun v166 =>
xO (gLoad 1 false [v166] c16) fun v167 =>
xF fMove [v20] fun v168 =>
xF (fBin .add .no) [v167, v168] fun v169 =>
xF (fIxS 1) [v165, v169] fun v170 =>
hLoad 1 false [v170] (fun v171 σ =>
xIf v171
 (xF fMove [(.bool false)] fun v6 =>
K v6 σ)
 (xF fMove [v13] fun v172 =>
xF (fFld 0) [(locP 16)] fun v173 =>
xO (gLoad 1 false [v173] c16) fun v174 =>
xF fMove [v20] fun v175 =>
xF (fBin .add .no) [v174, v175] fun v176 =>
xF (fIxS 1) [v172, v176] fun v177 =>
hStore 1 [v177, (.bool true)] (fun _v σ =>
xF fMove [v20] fun v163 =>
xF (fBin .add .no) [v163, (.int .i64 1)] fun v164 =>
xF fMove [v164] fun v20 =>
R3 [v1, v2, v12, v13, v14, v19, v20] [c8, c10, c11, c16] σ) σ)) σ)
 (J4 [v1, v2, v12, v13, v14] [c8, c10, c11] σ)

def w_law07_PlaceShares_l26 (K : Value → Mem → Prop) (J2 : List Value → List (List Value) → Mem → Prop) (R1 : List Value → List (List Value) → Mem → Prop) (J4 : List Value → List (List Value) → Mem → Prop) (R3 : List Value → List (List Value) → Mem → Prop) (ts : List Value) (ls : List (List Value)) (σ : Mem) : Prop := w_law07_PlaceShares_l26b K J2 R1 J4 R3 (ts.getD 0 poison) (ts.getD 1 poison) (ts.getD 2 poison) (ts.getD 3 poison) (ts.getD 4 poison) (ts.getD 5 poison) (ts.getD 6 poison) (ls.getD 0 []) (ls.getD 1 []) (ls.getD 2 []) (ls.getD 3 []) σ

def w_law07_PlaceShares_j6b (K : Value → Mem → Prop) (J2 : List Value → List (List Value) → Mem → Prop) (R1 : List Value → List (List Value) → Mem → Prop) (J4 : List Value → List (List Value) → Mem → Prop) (v1 v2 v12 v13 v14 v19 v159 : Value) (c8 c10 c11 c16 : List Value) (σ : Mem) : Prop :=
xIf v159
 (xF fMove [(.bool false)] fun v6 =>
K v6 σ)
 (xF fMove [(.int .i64 0)] fun v20 =>
xLoop (w_law07_PlaceShares_l26 K J2 R1 J4) [v1, v2, v12, v13, v14, v19, v20] [c8, c10, c11, c16] σ)

def w_law07_PlaceShares_j6 (K : Value → Mem → Prop) (J2 : List Value → List (List Value) → Mem → Prop) (R1 : List Value → List (List Value) → Mem → Prop) (J4 : List Value → List (List Value) → Mem → Prop) (ts : List Value) (ls : List (List Value)) (σ : Mem) : Prop := w_law07_PlaceShares_j6b K J2 R1 J4 (ts.getD 0 poison) (ts.getD 1 poison) (ts.getD 2 poison) (ts.getD 3 poison) (ts.getD 4 poison) (ts.getD 5 poison) (ts.getD 6 poison) (ls.getD 0 []) (ls.getD 1 []) (ls.getD 2 []) (ls.getD 3 []) σ

def w_law07_PlaceShares_j5b (K : Value → Mem → Prop) (J2 : List Value → List (List Value) → Mem → Prop) (R1 : List Value → List (List Value) → Mem → Prop) (J4 : List Value → List (List Value) → Mem → Prop) (v1 v2 v12 v13 v14 v15 : Value) (c8 c10 c11 : List Value) (σ : Mem) : Prop :=
xF fMove [v15] fun v81 =>
xF (fIxA 3 1) [(locP 10), v81] fun v82 =>
xO (gLoad 1 false [v82] c10) fun v83 =>
xO (gLoad 9 true [(locP 8)] c8) fun v84 =>
s_place_Place_Step [v83, v84] (fun v85 σ =>
xF (fUn .not) [v85] fun v86 =>
xIf v86
 (J4 [v1, v2, v12, v13, v14] [c8, c10, c11] σ)
 (xF fMove [v15] fun v88 =>
xF (fIxA 3 1) [(locP 10), v88] fun v89 =>
xO (gLoad 1 false [v89] c10) fun v90 =>
s_place_Place_Spot [v90] (fun v91 σ =>
xF fMove [v91] fun v87 =>
xF (fExt 0) [v87] fun v92 =>
xF (fExt 1) [v87] fun v93 =>
xC (gStore 2 [(locP 16), v92] [(.int .i64 0), (.int .i64 0)]) fun c16 =>
xF fMove [v93] fun v17 =>
xF fMove [v15] fun v94 =>
xF (fIxA 3 1) [(locP 10), v94] fun v95 =>
xC (gStore 1 [v95, (.pointer none)] c10) fun c10 =>
xF fMove [v17] fun v96 =>
xF (fUn .not) [v96] fun v97 =>
xIf v97
 (J4 [v1, v2, v12, v13, v14] [c8, c10, c11] σ)
 (xF (fFld 7) [(locP 8)] fun v98 =>
xO (gLoad 1 false [v98] c8) fun v99 =>
xF (fFld 0) [(locP 8)] fun v100 =>
xO (gLoad 7 true [v100] c8) fun v101 =>
xF (fFld 1) [(locP 16)] fun v102 =>
xO (gLoad 1 false [v102] c16) fun v103 =>
s_layout_Chunk [v101, v103] (fun v104 σ =>
s_mem_Mem_Peek [v99, v104] (fun v105 σ =>
s_word_Chunk [v105] (fun v106 σ =>
xC (gStore 4 [(locP 18), v106] [(.int .i64 0), (.int .i64 0), (.int .i64 0), (.int .i64 0)]) fun c18 =>
xF fMove [v15] fun v107 =>
xF (fIxA 3 1) [(locP 11), v107] fun v108 =>
xO (gLoad 1 false [v108] c11) fun v109 =>
s_ref04_Room [v109] (fun v110 σ =>
xF fMove [v110] fun v19 =>
xJoin (w_law07_PlaceShares_j6 K J2 R1 J4) fun J6 =>
xF (fFld 0) [(locP 18)] fun v111 =>
xO (gLoad 1 false [v111] c18) fun v112 =>
xF (fBin .neq .no) [v112, (.int .i64 1)] fun v113 =>
xF fMove [v113] fun v114 =>
xIf v114
 (xF fPick [(.bool true), (.bool true), undef] fun v121 =>
xF fMove [v121] fun v122 =>
xIf v122
 (xF fPick [(.bool true), (.bool true), undef] fun v131 =>
xF fMove [v131] fun v132 =>
xIf v132
 (xF fPick [(.bool true), (.bool true), undef] fun v144 =>
xF fMove [v144] fun v145 =>
xIf v145
 (xF fPick [(.bool true), (.bool true), undef] fun v159 =>
J6 [v1, v2, v12, v13, v14, v19, v159] [c8, c10, c11, c16] σ)
 (xF (fFld 0) [(locP 16)] fun v146 =>
xO (gLoad 1 false [v146] c16) fun v147 =>
xF fMove [v19] fun v148 =>
xF (fBin .add .no) [v147, v148] fun v149 =>
xF (fFld 0) [(locP 8)] fun v150 =>
xO (gLoad 7 true [v150] c8) fun v151 =>
xF (fFld 1) [(locP 16)] fun v152 =>
xO (gLoad 1 false [v152] c16) fun v153 =>
s_layout_Base [v151, v153] (fun v154 σ =>
xF (fBin .sub .no) [v149, v154] fun v155 =>
xF (fFld 2) [(locP 18)] fun v156 =>
xO (gLoad 1 false [v156] c18) fun v157 =>
xF (fBin .gtr .no) [v155, v157] fun v158 =>
xF fPick [(.bool false), (.bool true), v158] fun v159 =>
J6 [v1, v2, v12, v13, v14, v19, v159] [c8, c10, c11, c16] σ) σ))
 (xF (fFld 0) [(locP 8)] fun v133 =>
xO (gLoad 7 true [v133] c8) fun v134 =>
xF (fFld 0) [(locP 16)] fun v135 =>
xO (gLoad 1 false [v135] c16) fun v136 =>
xF fMove [v19] fun v137 =>
xF (fBin .add .no) [v136, v137] fun v138 =>
xF (fBin .sub .no) [v138, (.int .i64 1)] fun v139 =>
s_layout_Of [v134, v139] (fun v140 σ =>
xF (fFld 1) [(locP 16)] fun v141 =>
xO (gLoad 1 false [v141] c16) fun v142 =>
xF (fBin .neq .no) [v140, v142] fun v143 =>
xF fPick [(.bool false), (.bool true), v143] fun v144 =>
xF fMove [v144] fun v145 =>
xIf v145
 (xF fPick [(.bool true), (.bool true), undef] fun v159 =>
J6 [v1, v2, v12, v13, v14, v19, v159] [c8, c10, c11, c16] σ)
 (xF (fFld 0) [(locP 16)] fun v146 =>
xO (gLoad 1 false [v146] c16) fun v147 =>
xF fMove [v19] fun v148 =>
xF (fBin .add .no) [v147, v148] fun v149 =>
xF (fFld 0) [(locP 8)] fun v150 =>
xO (gLoad 7 true [v150] c8) fun v151 =>
xF (fFld 1) [(locP 16)] fun v152 =>
xO (gLoad 1 false [v152] c16) fun v153 =>
s_layout_Base [v151, v153] (fun v154 σ =>
xF (fBin .sub .no) [v149, v154] fun v155 =>
xF (fFld 2) [(locP 18)] fun v156 =>
xO (gLoad 1 false [v156] c18) fun v157 =>
xF (fBin .gtr .no) [v155, v157] fun v158 =>
xF fPick [(.bool false), (.bool true), v158] fun v159 =>
J6 [v1, v2, v12, v13, v14, v19, v159] [c8, c10, c11, c16] σ) σ)) σ))
 (xF (fFld 0) [(locP 8)] fun v123 =>
xO (gLoad 7 true [v123] c8) fun v124 =>
xF (fFld 0) [(locP 16)] fun v125 =>
xO (gLoad 1 false [v125] c16) fun v126 =>
s_layout_Of [v124, v126] (fun v127 σ =>
xF (fFld 1) [(locP 16)] fun v128 =>
xO (gLoad 1 false [v128] c16) fun v129 =>
xF (fBin .neq .no) [v127, v129] fun v130 =>
xF fPick [(.bool false), (.bool true), v130] fun v131 =>
xF fMove [v131] fun v132 =>
xIf v132
 (xF fPick [(.bool true), (.bool true), undef] fun v144 =>
xF fMove [v144] fun v145 =>
xIf v145
 (xF fPick [(.bool true), (.bool true), undef] fun v159 =>
J6 [v1, v2, v12, v13, v14, v19, v159] [c8, c10, c11, c16] σ)
 (xF (fFld 0) [(locP 16)] fun v146 =>
xO (gLoad 1 false [v146] c16) fun v147 =>
xF fMove [v19] fun v148 =>
xF (fBin .add .no) [v147, v148] fun v149 =>
xF (fFld 0) [(locP 8)] fun v150 =>
xO (gLoad 7 true [v150] c8) fun v151 =>
xF (fFld 1) [(locP 16)] fun v152 =>
xO (gLoad 1 false [v152] c16) fun v153 =>
s_layout_Base [v151, v153] (fun v154 σ =>
xF (fBin .sub .no) [v149, v154] fun v155 =>
xF (fFld 2) [(locP 18)] fun v156 =>
xO (gLoad 1 false [v156] c18) fun v157 =>
xF (fBin .gtr .no) [v155, v157] fun v158 =>
xF fPick [(.bool false), (.bool true), v158] fun v159 =>
J6 [v1, v2, v12, v13, v14, v19, v159] [c8, c10, c11, c16] σ) σ))
 (xF (fFld 0) [(locP 8)] fun v133 =>
xO (gLoad 7 true [v133] c8) fun v134 =>
xF (fFld 0) [(locP 16)] fun v135 =>
xO (gLoad 1 false [v135] c16) fun v136 =>
xF fMove [v19] fun v137 =>
xF (fBin .add .no) [v136, v137] fun v138 =>
xF (fBin .sub .no) [v138, (.int .i64 1)] fun v139 =>
s_layout_Of [v134, v139] (fun v140 σ =>
xF (fFld 1) [(locP 16)] fun v141 =>
xO (gLoad 1 false [v141] c16) fun v142 =>
xF (fBin .neq .no) [v140, v142] fun v143 =>
xF fPick [(.bool false), (.bool true), v143] fun v144 =>
xF fMove [v144] fun v145 =>
xIf v145
 (xF fPick [(.bool true), (.bool true), undef] fun v159 =>
J6 [v1, v2, v12, v13, v14, v19, v159] [c8, c10, c11, c16] σ)
 (xF (fFld 0) [(locP 16)] fun v146 =>
xO (gLoad 1 false [v146] c16) fun v147 =>
xF fMove [v19] fun v148 =>
xF (fBin .add .no) [v147, v148] fun v149 =>
xF (fFld 0) [(locP 8)] fun v150 =>
xO (gLoad 7 true [v150] c8) fun v151 =>
xF (fFld 1) [(locP 16)] fun v152 =>
xO (gLoad 1 false [v152] c16) fun v153 =>
s_layout_Base [v151, v153] (fun v154 σ =>
xF (fBin .sub .no) [v149, v154] fun v155 =>
xF (fFld 2) [(locP 18)] fun v156 =>
xO (gLoad 1 false [v156] c18) fun v157 =>
xF (fBin .gtr .no) [v155, v157] fun v158 =>
xF fPick [(.bool false), (.bool true), v158] fun v159 =>
J6 [v1, v2, v12, v13, v14, v19, v159] [c8, c10, c11, c16] σ) σ)) σ)) σ))
 (xF (fFld 1) [(locP 18)] fun v115 =>
xO (gLoad 1 false [v115] c18) fun v116 =>
xF fMove [v15] fun v117 =>
xF (fIxA 3 1) [(locP 11), v117] fun v118 =>
xO (gLoad 1 false [v118] c11) fun v119 =>
xF (fBin .neq .no) [v116, v119] fun v120 =>
xF fPick [(.bool false), (.bool true), v120] fun v121 =>
xF fMove [v121] fun v122 =>
xIf v122
 (xF fPick [(.bool true), (.bool true), undef] fun v131 =>
xF fMove [v131] fun v132 =>
xIf v132
 (xF fPick [(.bool true), (.bool true), undef] fun v144 =>
xF fMove [v144] fun v145 =>
xIf v145
 (xF fPick [(.bool true), (.bool true), undef] fun v159 =>
J6 [v1, v2, v12, v13, v14, v19, v159] [c8, c10, c11, c16] σ)
 (xF (fFld 0) [(locP 16)] fun v146 =>
xO (gLoad 1 false [v146] c16) fun v147 =>
xF fMove [v19] fun v148 =>
xF (fBin .add .no) [v147, v148] fun v149 =>
xF (fFld 0) [(locP 8)] fun v150 =>
xO (gLoad 7 true [v150] c8) fun v151 =>
xF (fFld 1) [(locP 16)] fun v152 =>
xO (gLoad 1 false [v152] c16) fun v153 =>
s_layout_Base [v151, v153] (fun v154 σ =>
xF (fBin .sub .no) [v149, v154] fun v155 =>
xF (fFld 2) [(locP 18)] fun v156 =>
xO (gLoad 1 false [v156] c18) fun v157 =>
xF (fBin .gtr .no) [v155, v157] fun v158 =>
xF fPick [(.bool false), (.bool true), v158] fun v159 =>
J6 [v1, v2, v12, v13, v14, v19, v159] [c8, c10, c11, c16] σ) σ))
 (xF (fFld 0) [(locP 8)] fun v133 =>
xO (gLoad 7 true [v133] c8) fun v134 =>
xF (fFld 0) [(locP 16)] fun v135 =>
xO (gLoad 1 false [v135] c16) fun v136 =>
xF fMove [v19] fun v137 =>
xF (fBin .add .no) [v136, v137] fun v138 =>
xF (fBin .sub .no) [v138, (.int .i64 1)] fun v139 =>
s_layout_Of [v134, v139] (fun v140 σ =>
xF (fFld 1) [(locP 16)] fun v141 =>
xO (gLoad 1 false [v141] c16) fun v142 =>
xF (fBin .neq .no) [v140, v142] fun v143 =>
xF fPick [(.bool false), (.bool true), v143] fun v144 =>
xF fMove [v144] fun v145 =>
xIf v145
 (xF fPick [(.bool true), (.bool true), undef] fun v159 =>
J6 [v1, v2, v12, v13, v14, v19, v159] [c8, c10, c11, c16] σ)
 (xF (fFld 0) [(locP 16)] fun v146 =>
xO (gLoad 1 false [v146] c16) fun v147 =>
xF fMove [v19] fun v148 =>
xF (fBin .add .no) [v147, v148] fun v149 =>
xF (fFld 0) [(locP 8)] fun v150 =>
xO (gLoad 7 true [v150] c8) fun v151 =>
xF (fFld 1) [(locP 16)] fun v152 =>
xO (gLoad 1 false [v152] c16) fun v153 =>
s_layout_Base [v151, v153] (fun v154 σ =>
xF (fBin .sub .no) [v149, v154] fun v155 =>
xF (fFld 2) [(locP 18)] fun v156 =>
xO (gLoad 1 false [v156] c18) fun v157 =>
xF (fBin .gtr .no) [v155, v157] fun v158 =>
xF fPick [(.bool false), (.bool true), v158] fun v159 =>
J6 [v1, v2, v12, v13, v14, v19, v159] [c8, c10, c11, c16] σ) σ)) σ))
 (xF (fFld 0) [(locP 8)] fun v123 =>
xO (gLoad 7 true [v123] c8) fun v124 =>
xF (fFld 0) [(locP 16)] fun v125 =>
xO (gLoad 1 false [v125] c16) fun v126 =>
s_layout_Of [v124, v126] (fun v127 σ =>
xF (fFld 1) [(locP 16)] fun v128 =>
xO (gLoad 1 false [v128] c16) fun v129 =>
xF (fBin .neq .no) [v127, v129] fun v130 =>
xF fPick [(.bool false), (.bool true), v130] fun v131 =>
xF fMove [v131] fun v132 =>
xIf v132
 (xF fPick [(.bool true), (.bool true), undef] fun v144 =>
xF fMove [v144] fun v145 =>
xIf v145
 (xF fPick [(.bool true), (.bool true), undef] fun v159 =>
J6 [v1, v2, v12, v13, v14, v19, v159] [c8, c10, c11, c16] σ)
 (xF (fFld 0) [(locP 16)] fun v146 =>
xO (gLoad 1 false [v146] c16) fun v147 =>
xF fMove [v19] fun v148 =>
xF (fBin .add .no) [v147, v148] fun v149 =>
xF (fFld 0) [(locP 8)] fun v150 =>
xO (gLoad 7 true [v150] c8) fun v151 =>
xF (fFld 1) [(locP 16)] fun v152 =>
xO (gLoad 1 false [v152] c16) fun v153 =>
s_layout_Base [v151, v153] (fun v154 σ =>
xF (fBin .sub .no) [v149, v154] fun v155 =>
xF (fFld 2) [(locP 18)] fun v156 =>
xO (gLoad 1 false [v156] c18) fun v157 =>
xF (fBin .gtr .no) [v155, v157] fun v158 =>
xF fPick [(.bool false), (.bool true), v158] fun v159 =>
J6 [v1, v2, v12, v13, v14, v19, v159] [c8, c10, c11, c16] σ) σ))
 (xF (fFld 0) [(locP 8)] fun v133 =>
xO (gLoad 7 true [v133] c8) fun v134 =>
xF (fFld 0) [(locP 16)] fun v135 =>
xO (gLoad 1 false [v135] c16) fun v136 =>
xF fMove [v19] fun v137 =>
xF (fBin .add .no) [v136, v137] fun v138 =>
xF (fBin .sub .no) [v138, (.int .i64 1)] fun v139 =>
s_layout_Of [v134, v139] (fun v140 σ =>
xF (fFld 1) [(locP 16)] fun v141 =>
xO (gLoad 1 false [v141] c16) fun v142 =>
xF (fBin .neq .no) [v140, v142] fun v143 =>
xF fPick [(.bool false), (.bool true), v143] fun v144 =>
xF fMove [v144] fun v145 =>
xIf v145
 (xF fPick [(.bool true), (.bool true), undef] fun v159 =>
J6 [v1, v2, v12, v13, v14, v19, v159] [c8, c10, c11, c16] σ)
 (xF (fFld 0) [(locP 16)] fun v146 =>
xO (gLoad 1 false [v146] c16) fun v147 =>
xF fMove [v19] fun v148 =>
xF (fBin .add .no) [v147, v148] fun v149 =>
xF (fFld 0) [(locP 8)] fun v150 =>
xO (gLoad 7 true [v150] c8) fun v151 =>
xF (fFld 1) [(locP 16)] fun v152 =>
xO (gLoad 1 false [v152] c16) fun v153 =>
s_layout_Base [v151, v153] (fun v154 σ =>
xF (fBin .sub .no) [v149, v154] fun v155 =>
xF (fFld 2) [(locP 18)] fun v156 =>
xO (gLoad 1 false [v156] c18) fun v157 =>
xF (fBin .gtr .no) [v155, v157] fun v158 =>
xF fPick [(.bool false), (.bool true), v158] fun v159 =>
J6 [v1, v2, v12, v13, v14, v19, v159] [c8, c10, c11, c16] σ) σ)) σ)) σ))) σ) σ) σ) σ)) σ)) σ

def w_law07_PlaceShares_j5 (K : Value → Mem → Prop) (J2 : List Value → List (List Value) → Mem → Prop) (R1 : List Value → List (List Value) → Mem → Prop) (J4 : List Value → List (List Value) → Mem → Prop) (ts : List Value) (ls : List (List Value)) (σ : Mem) : Prop := w_law07_PlaceShares_j5b K J2 R1 J4 (ts.getD 0 poison) (ts.getD 1 poison) (ts.getD 2 poison) (ts.getD 3 poison) (ts.getD 4 poison) (ts.getD 5 poison) (ls.getD 0 []) (ls.getD 1 []) (ls.getD 2 []) σ

def w_law07_PlaceShares_j3b (K : Value → Mem → Prop) (J2 : List Value → List (List Value) → Mem → Prop) (R1 : List Value → List (List Value) → Mem → Prop) (v1 v2 v12 v13 v14 : Value) (c8 c10 c11 : List Value) (σ : Mem) : Prop :=
xJoin (w_law07_PlaceShares_j4 K J2 R1) fun J4 =>
xF fMove [v2] fun v51 =>
xF fMove [v14] fun v52 =>
xF (fIxS 1) [v51, v52] fun v53 =>
hLoad 1 false [v53] (fun v54 σ =>
xF (fBin .rem .no) [v54, (.int .i64 3)] fun v55 =>
xF (fBin .add .no) [v55, (.int .i64 3)] fun v56 =>
xF (fBin .rem .no) [v56, (.int .i64 3)] fun v57 =>
xF fMove [v57] fun v15 =>
xJoin (w_law07_PlaceShares_j5 K J2 R1 J4) fun J5 =>
xF fMove [v15] fun v58 =>
xF (fIxA 3 1) [(locP 10), v58] fun v59 =>
xO (gLoad 1 false [v59] c10) fun v60 =>
xF (fBin .eql .ptr) [v60, (.pointer none)] fun v61 =>
xIf v61
 (xF fMove [v12] fun v62 =>
xF fMove [v1] fun v63 =>
xF fLen [v63] fun v64 =>
xF (fBin .geq .no) [v62, v64] fun v65 =>
xIf v65
 (J4 [v1, v2, v12, v13, v14] [c8, c10, c11] σ)
 (xF fMove [v15] fun v66 =>
xF fMove [v1] fun v67 =>
xF fMove [v12] fun v68 =>
xF (fIxS 1) [v67, v68] fun v69 =>
hLoad 1 false [v69] (fun v70 σ =>
xF (fBin .and .no) [v70, (.int .i64 3)] fun v71 =>
xF (fIxA 3 1) [(locP 11), v66] fun v72 =>
xC (gStore 1 [v72, v71] c11) fun c11 =>
xF fMove [v15] fun v73 =>
xF fMove [v15] fun v74 =>
xF (fIxA 3 1) [(locP 11), v74] fun v75 =>
xO (gLoad 1 false [v75] c11) fun v76 =>
s_place_New [v76] (fun v77 σ =>
xF (fIxA 3 1) [(locP 10), v73] fun v78 =>
xC (gStore 1 [v78, v77] c10) fun c10 =>
xF fMove [v12] fun v79 =>
xF (fBin .add .no) [v79, (.int .i64 1)] fun v80 =>
xF fMove [v80] fun v12 =>
J5 [v1, v2, v12, v13, v14, v15] [c8, c10, c11] σ) σ) σ))
 (J5 [v1, v2, v12, v13, v14, v15] [c8, c10, c11] σ)) σ

def w_law07_PlaceShares_j3 (K : Value → Mem → Prop) (J2 : List Value → List (List Value) → Mem → Prop) (R1 : List Value → List (List Value) → Mem → Prop) (ts : List Value) (ls : List (List Value)) (σ : Mem) : Prop := w_law07_PlaceShares_j3b K J2 R1 (ts.getD 0 poison) (ts.getD 1 poison) (ts.getD 2 poison) (ts.getD 3 poison) (ts.getD 4 poison) (ls.getD 0 []) (ls.getD 1 []) (ls.getD 2 []) σ

def w_law07_PlaceShares_l9b (K : Value → Mem → Prop) (J2 : List Value → List (List Value) → Mem → Prop) (R1 : List Value → List (List Value) → Mem → Prop) (v1 v2 v12 v13 v14 : Value) (c8 c10 c11 : List Value) (σ : Mem) : Prop :=
xJoin (w_law07_PlaceShares_j3 K J2 R1) fun J3 =>
xF fMove [v14] fun v41 =>
xF fMove [v2] fun v42 =>
xF fLen [v42] fun v43 =>
xF (fBin .lss .no) [v41, v43] fun v44 =>
xF fMove [v44] fun v45 =>
xIf v45
 (xF fMove [v14] fun v46 =>
xF (fBin .lss .no) [v46, (.int .i64 400)] fun v47 =>
xF fPick [(.bool true), v47, (.bool false)] fun v48 =>
xIf v48
 (J3 [v1, v2, v12, v13, v14] [c8, c10, c11] σ)
 (J2 [] [] σ))
 (xF fPick [(.bool false), undef, (.bool false)] fun v48 =>
xIf v48
 (J3 [v1, v2, v12, v13, v14] [c8, c10, c11] σ)
 (J2 [] [] σ))

def w_law07_PlaceShares_l9 (K : Value → Mem → Prop) (J2 : List Value → List (List Value) → Mem → Prop) (R1 : List Value → List (List Value) → Mem → Prop) (ts : List Value) (ls : List (List Value)) (σ : Mem) : Prop := w_law07_PlaceShares_l9b K J2 R1 (ts.getD 0 poison) (ts.getD 1 poison) (ts.getD 2 poison) (ts.getD 3 poison) (ts.getD 4 poison) (ls.getD 0 []) (ls.getD 1 []) (ls.getD 2 []) σ

def w_law07_PlaceShares_j1b (K : Value → Mem → Prop) (v1 v2 v34 : Value) (c8 : List Value) (σ : Mem) : Prop :=
xIf v34
 (xF fMove [(.bool false)] fun v6 =>
K v6 σ)
 (xF (fBuild [(0, 1), (1, 1), (2, 1)] [(.pointer none), (.pointer none), (.pointer none)] []) [] fun v35 =>
xF (fBuild [(0, 1), (1, 1), (2, 1)] [(.int .i64 0), (.int .i64 0), (.int .i64 0)] []) [] fun v36 =>
xC (gStore 3 [(locP 10), v35] [(.pointer none), (.pointer none), (.pointer none)]) fun c10 =>
xC (gStore 3 [(locP 11), v36] [(.int .i64 0), (.int .i64 0), (.int .i64 0)]) fun c11 =>
xF (fFld 0) [(locP 8)] fun v37 =>
xO (gLoad 7 true [v37] c8) fun v38 =>
s_layout_Len [v38] (fun v39 σ =>
hMakeS 1 1 [(.bool false)] [v39, v39] (fun v40 σ =>
xF fMove [(.int .i64 0)] fun v12 =>
xF fMove [v40] fun v13 =>
xJoin (w_law07_PlaceShares_j2 K) fun J2 =>
xF fMove [(.int .i64 0)] fun v14 =>
xLoop (w_law07_PlaceShares_l9 K J2) [v1, v2, v12, v13, v14] [c8, c10, c11] σ) σ) σ)

def w_law07_PlaceShares_j1 (K : Value → Mem → Prop) (ts : List Value) (ls : List (List Value)) (σ : Mem) : Prop := w_law07_PlaceShares_j1b K (ts.getD 0 poison) (ts.getD 1 poison) (ts.getD 2 poison) (ls.getD 0 []) σ

def w_law07_PlaceShares (a0 a1 a2 : Value) (K : Value → Mem → Prop) (σ : Mem) : Prop :=
xF fMove [(.bool false)] fun v6 =>
xF fMove [a0] fun v21 =>
xF (fBin .and .no) [v21, (.int .i64 7)] fun v22 =>
xF (fBin .add .no) [(.int .i64 1), v22] fun v23 =>
xF fMove [v23] fun v7 =>
xF fMove [v7] fun v25 =>
s_law04_Arena [(.int .i64 4), (.int .i64 1), v25, (.int .i64 20)] (fun v26 σ =>
xF fMove [v26] fun v24 =>
xF (fExt 0) [v24] fun v27 =>
xF (fExt 1) [v24] fun v28 =>
xC (gStore 9 [(locP 8), v27] [(.int .i64 0), (.int .i64 0), (.int .i64 0), (.int .i64 0), (.int .i64 0), (.int .i64 0), (.int .i64 0), (.pointer none), (.int .i64 0)]) fun c8 =>
xF fMove [v28] fun v9 =>
xJoin (w_law07_PlaceShares_j1 K) fun J1 =>
s_law07_awake [] (fun v29 σ =>
xF (fUn .not) [v29] fun v30 =>
xF fMove [v30] fun v31 =>
xIf v31
 (xF fPick [(.bool true), (.bool true), undef] fun v34 =>
J1 [a1, a2, v34] [c8] σ)
 (xF fMove [v9] fun v32 =>
xF (fUn .not) [v32] fun v33 =>
xF fPick [(.bool false), (.bool true), v33] fun v34 =>
J1 [a1, a2, v34] [c8] σ)) σ) σ

def s_law07_PlaceShares : Spec := fun args K σ => match args with
  | [a0, a1, a2] => w_law07_PlaceShares a0 a1 a2 K σ
  | _ => False

noncomputable def cx_law07_PlaceShares : Cx := { P := Try.prog, T := [(13, .write, s_law04_Arena), (14, .none, s_law07_awake), (26, .none, s_layout_Len), (21, .write, s_place_New), (22, .write, s_place_Place_Step), (27, .read, s_place_Place_Spot), (20, .none, s_layout_Chunk), (19, .read, s_mem_Mem_Peek), (18, .none, s_word_Chunk), (15, .write, s_ref04_Room), (28, .none, s_layout_Of), (17, .none, s_layout_Base)], loc := [(8, 8), (10, 10), (11, 11), (16, 16), (18, 18), (37, 8), (59, 10), (72, 11), (75, 11), (78, 10), (82, 10), (89, 10), (95, 10), (98, 8), (100, 8), (102, 16), (108, 11), (111, 18), (115, 18), (118, 11), (123, 8), (125, 16), (128, 16), (133, 8), (135, 16), (141, 16), (146, 16), (150, 8), (152, 16), (156, 18), (166, 16), (173, 16)], eqt := [(44, .ptr)], n := 178, keep := [(9, [1, 2, 12, 13, 14], [8, 10, 11]), (26, [1, 2, 12, 13, 14, 19, 20], [8, 10, 11, 16]), (1000005, [1, 2, 34], [8]), (1000010, [1, 2, 12, 13, 14], [8, 10, 11]), (1000011, [1, 2, 12, 13, 14], [8, 10, 11]), (1000017, [1, 2, 12, 13, 14, 15], [8, 10, 11]), (1000024, [1, 2, 12, 13, 14, 19, 159], [8, 10, 11, 16]), (1000031, [], [])] }
theorem q_law07_PlaceShares : FnS cx_law07_PlaceShares Try.f6 (bodyOf Try.f6) 3 = s_law07_PlaceShares := by
  funext args K σ
  rcases args with _ | ⟨a0, _ | ⟨a1, _ | ⟨a2, _ | ⟨b, r⟩⟩⟩⟩ <;> kernel_rfl
theorem e_law07_PlaceShares : Entry Try.prog 6 .write s_law07_PlaceShares :=
  entry (C := cx_law07_PlaceShares) (TOk.cons e_law04_Arena (TOk.cons e_law07_awake (TOk.cons e_layout_Len (TOk.cons e_place_New (TOk.cons e_place_Place_Step (TOk.cons e_place_Place_Spot (TOk.cons e_layout_Chunk (TOk.cons e_mem_Mem_Peek (TOk.cons e_word_Chunk (TOk.cons e_ref04_Room (TOk.cons e_layout_Of (TOk.cons e_layout_Base TOk.nil)))))))))))) mixedOk Try.func6 (by kernel_rfl) (by kernel_rfl) (by kernel_rfl) q_law07_PlaceShares


attribute [irreducible] w_law07_PlaceShares_j2b w_law07_PlaceShares_j2 w_law07_PlaceShares_j4b w_law07_PlaceShares_j4 w_law07_PlaceShares_l26b w_law07_PlaceShares_l26 w_law07_PlaceShares_j6b w_law07_PlaceShares_j6 w_law07_PlaceShares_j5b w_law07_PlaceShares_j5 w_law07_PlaceShares_j3b w_law07_PlaceShares_j3 w_law07_PlaceShares_l9b w_law07_PlaceShares_l9 w_law07_PlaceShares_j1b w_law07_PlaceShares_j1 w_law07_PlaceShares s_law07_PlaceShares

/-! ### (*/mem.Mem).Steps -/
def w_mem_Mem_Steps (a0 : Value) (K : Value → Mem → Prop) (σ : Mem) : Prop :=
xF fMove [(.int .i64 0)] fun v2 =>
xF fMove [a0] fun v3 =>
xF (fBin .eql .ptr) [v3, (.pointer none)] fun v4 =>
xIf v4
 (xF fMove [(.int .i64 0)] fun v2 =>
K v2 σ)
 (xF fMove [a0] fun v5 =>
xF fNil [v5] fun v6 =>
xF (fFld 2) [v6] fun v7 =>
hLoad 1 false [v7] (fun v8 σ =>
xF fMove [v8] fun v2 =>
K v2 σ) σ)

def s_mem_Mem_Steps : Spec := fun args K σ => match args with
  | [a0] => w_mem_Mem_Steps a0 K σ
  | _ => False

noncomputable def cx_mem_Mem_Steps : Cx := { P := Try.prog, T := [], loc := [], eqt := [(25, .ptr)], n := 9, keep := [] }
theorem q_mem_Mem_Steps : FnS cx_mem_Mem_Steps Try.f48 (bodyOf Try.f48) 1 = s_mem_Mem_Steps := by
  funext args K σ
  rcases args with _ | ⟨a0, _ | ⟨b, r⟩⟩ <;> kernel_rfl
theorem e_mem_Mem_Steps : Entry Try.prog 48 .read s_mem_Mem_Steps :=
  entry (C := cx_mem_Mem_Steps) TOk.nil mixedOk Try.func48 (by kernel_rfl) (by kernel_rfl) (by kernel_rfl) q_mem_Mem_Steps

def xl_mem_Mem_Steps : List (Nat × Nat) := []
noncomputable def xc_mem_Mem_Steps : XC XN :=
(.seq none
 (.reg [⟨none, some 2, [(.const (.int .i64 0))], ⟨.f fMove, rMove⟩⟩])
 (.seq none
 (.seq none
 (.reg [⟨none, some 3, [(.tmp 0)], ⟨.f fMove, rMove⟩⟩,
  ⟨none, some 4, [(.tmp 3), (.const (.pointer none))], ⟨.f (fBin .eql .ptr), rAny xl_mem_Mem_Steps (.f (fBin .eql .ptr))⟩⟩])
 (.cond (.tmp 4)
 (.seq none
 (.reg [⟨none, some 2, [(.const (.int .i64 0))], ⟨.f fMove, rMove⟩⟩])
 .ret)
 .skip))
 (.seq none
 (.reg [⟨none, some 5, [(.tmp 0)], ⟨.f fMove, rMove⟩⟩,
  ⟨none, some 6, [(.tmp 5)], ⟨.f fNil, rNil⟩⟩,
  ⟨none, some 7, [(.tmp 6)], ⟨.f (fFld 2), rFld 2⟩⟩,
  ⟨none, some 8, [(.tmp 7)], ⟨.load 1 false, rLoad1⟩⟩,
  ⟨none, some 2, [(.tmp 8)], ⟨.f fMove, rMove⟩⟩])
 .ret)))
noncomputable def v_mem_Mem_Steps : EvF := evFn 1 xc_mem_Mem_Steps [.t 2]
theorem xt_mem_Mem_Steps : toC cx_mem_Mem_Steps (bodyOf Try.f48) = some (xc_mem_Mem_Steps.map XN.sm) := by kernel_rfl
theorem xr_mem_Mem_Steps : toR cx_mem_Mem_Steps Try.f48.results.toList = some [.t 2] := by kernel_rfl
theorem xo_mem_Mem_Steps : xc_mem_Mem_Steps.ok xl_mem_Mem_Steps := ⟨⟨rMove_ok, trivial⟩, ⟨⟨⟨rMove_ok, rAny_ok (eqv_bin _ _), trivial⟩, ⟨⟨⟨rMove_ok, trivial⟩, trivial⟩, trivial⟩⟩, ⟨⟨rMove_ok, rNil_ok, rFld_ok _, rLoad1_ok, rMove_ok, trivial⟩, trivial⟩⟩⟩
theorem ve_mem_Mem_Steps : EvOk s_mem_Mem_Steps v_mem_Mem_Steps := EvOk.of (evFn_sound (C := cx_mem_Mem_Steps) xt_mem_Mem_Steps xr_mem_Mem_Steps xo_mem_Mem_Steps) q_mem_Mem_Steps

attribute [irreducible] w_mem_Mem_Steps s_mem_Mem_Steps

/-! ### (/layout.Env).Now -/
def w_layout_Env_Now (a0 : Value) (K : Value → Mem → Prop) (σ : Mem) : Prop :=
xC (gBox 9 [a0] []) fun c1 =>
xF fMove [(.int .i64 0)] fun v2 =>
xF (fFld 7) [(locP 1)] fun v3 =>
xO (gLoad 1 false [v3] c1) fun v4 =>
s_mem_Mem_Steps [v4] (fun v5 σ =>
xF fMove [v5] fun v2 =>
K v2 σ) σ

def s_layout_Env_Now : Spec := fun args K σ => match args with
  | [a0] => w_layout_Env_Now a0 K σ
  | _ => False

noncomputable def cx_layout_Env_Now : Cx := { P := Try.prog, T := [(48, .read, s_mem_Mem_Steps)], loc := [(1, 1), (3, 1)], eqt := [], n := 6, keep := [] }
theorem q_layout_Env_Now : FnS cx_layout_Env_Now Try.f29 (bodyOf Try.f29) 1 = s_layout_Env_Now := by
  funext args K σ
  rcases args with _ | ⟨a0, _ | ⟨b, r⟩⟩ <;> kernel_rfl
theorem e_layout_Env_Now : Entry Try.prog 29 .read s_layout_Env_Now :=
  entry (C := cx_layout_Env_Now) (TOk.cons e_mem_Mem_Steps TOk.nil) mixedOk Try.func29 (by kernel_rfl) (by kernel_rfl) (by kernel_rfl) q_layout_Env_Now

def xl_layout_Env_Now : List (Nat × Nat) := [(1, 1), (3, 1)]
noncomputable def xc_layout_Env_Now : XC XN :=
(.seq none
 (.reg [⟨none, some 1, [(.tmp 0)], ⟨.lb 1 9, rAny xl_layout_Env_Now (.lb 1 9)⟩⟩,
  ⟨none, some 2, [(.const (.int .i64 0))], ⟨.f fMove, rMove⟩⟩])
 (.seq none
 (.reg [⟨none, some 3, [(.tmp 1)], ⟨.f (fFld 7), rFld 7⟩⟩,
  ⟨none, some 4, [(.tmp 3)], ⟨.lr 1 1 false, rLr1 1⟩⟩,
  ⟨none, some 5, [(.tmp 4)], ⟨.call .read s_mem_Mem_Steps v_mem_Mem_Steps, rCall v_mem_Mem_Steps⟩⟩,
  ⟨none, some 2, [(.tmp 5)], ⟨.f fMove, rMove⟩⟩])
 .ret))
noncomputable def v_layout_Env_Now : EvF := evFn 1 xc_layout_Env_Now [.t 2]
theorem xt_layout_Env_Now : toC cx_layout_Env_Now (bodyOf Try.f29) = some (xc_layout_Env_Now.map XN.sm) := by kernel_rfl
theorem xr_layout_Env_Now : toR cx_layout_Env_Now Try.f29.results.toList = some [.t 2] := by kernel_rfl
theorem xo_layout_Env_Now : xc_layout_Env_Now.ok xl_layout_Env_Now := ⟨⟨rAny_ok (trivial), rMove_ok, trivial⟩, ⟨⟨rFld_ok _, rLr1_ok _, rCall_ok ve_mem_Mem_Steps, rMove_ok, trivial⟩, trivial⟩⟩
theorem ve_layout_Env_Now : EvOk s_layout_Env_Now v_layout_Env_Now := EvOk.of (evFn_sound (C := cx_layout_Env_Now) xt_layout_Env_Now xr_layout_Env_Now xo_layout_Env_Now) q_layout_Env_Now

attribute [irreducible] w_layout_Env_Now s_layout_Env_Now

/-! ### (*/mem.Mem).Last -/
def w_mem_Mem_Last (a0 : Value) (K : Value → Mem → Prop) (σ : Mem) : Prop :=
xF fMove [a0] fun v3 =>
xF (fBin .eql .ptr) [v3, (.pointer none)] fun v4 =>
xIf v4
 (xF (fBuild [(0, 1), (1, 1), (2, 1)] [(.int .i64 0), (.int .i64 0), (.bool false)] []) [] fun v5 =>
xC (gStore 3 [(locP 2), v5] [(.int .i64 0), (.int .i64 0), (.bool false)]) fun c2 =>
xO (gLoad 3 true [(locP 2)] c2) fun r2 =>
K r2 σ)
 (xF fMove [a0] fun v6 =>
xF fNil [v6] fun v7 =>
xF (fFld 4) [v7] fun v8 =>
hLoad 3 true [v8] (fun v9 σ =>
xC (gStore 3 [(locP 2), v9] [(.int .i64 0), (.int .i64 0), (.bool false)]) fun c2 =>
xO (gLoad 3 true [(locP 2)] c2) fun r2 =>
K r2 σ) σ)

def s_mem_Mem_Last : Spec := fun args K σ => match args with
  | [a0] => w_mem_Mem_Last a0 K σ
  | _ => False

noncomputable def cx_mem_Mem_Last : Cx := { P := Try.prog, T := [], loc := [(2, 2)], eqt := [(25, .ptr)], n := 10, keep := [] }
theorem q_mem_Mem_Last : FnS cx_mem_Mem_Last Try.f30 (bodyOf Try.f30) 1 = s_mem_Mem_Last := by
  funext args K σ
  rcases args with _ | ⟨a0, _ | ⟨b, r⟩⟩ <;> kernel_rfl
theorem e_mem_Mem_Last : Entry Try.prog 30 .read s_mem_Mem_Last :=
  entry (C := cx_mem_Mem_Last) TOk.nil mixedOk Try.func30 (by kernel_rfl) (by kernel_rfl) (by kernel_rfl) q_mem_Mem_Last


attribute [irreducible] w_mem_Mem_Last s_mem_Mem_Last

/-! ### /law07.PlaceSteps -/
def w_law07_PlaceSteps_j2b (K : Value → Mem → Prop) (σ : Mem) : Prop :=
xF fMove [(.pointer none)] fun v16 =>
xF fMove [v16] fun v84 =>
s_place_Place_Spot [v84] (fun v85 σ =>
xF fMove [v85] fun v83 =>
xF (fExt 0) [v83] fun v86 =>
xF (fExt 1) [v83] fun v87 =>
xC (gStore 2 [(locP 17), v86] [(.int .i64 0), (.int .i64 0)]) fun c17 =>
xF fMove [v87] fun v18 =>
xF fMove [v18] fun v88 =>
xF (fUn .not) [v88] fun v89 =>
xF fMove [v89] fun v4 =>
K v4 σ) σ

def w_law07_PlaceSteps_j2 (K : Value → Mem → Prop) (ts : List Value) (ls : List (List Value)) (σ : Mem) : Prop := w_law07_PlaceSteps_j2b K σ

def w_law07_PlaceSteps_j4b (K : Value → Mem → Prop) (J2 : List Value → List (List Value) → Mem → Prop) (R1 : List Value → List (List Value) → Mem → Prop) (v1 v8 : Value) (c6 : List Value) (σ : Mem) : Prop :=
xF fMove [v8] fun v41 =>
xF (fBin .add .no) [v41, (.int .i64 1)] fun v42 =>
xF fMove [v42] fun v8 =>
R1 [v1, v8] [c6] σ

def w_law07_PlaceSteps_j4 (K : Value → Mem → Prop) (J2 : List Value → List (List Value) → Mem → Prop) (R1 : List Value → List (List Value) → Mem → Prop) (ts : List Value) (ls : List (List Value)) (σ : Mem) : Prop := w_law07_PlaceSteps_j4b K J2 R1 (ts.getD 0 poison) (ts.getD 1 poison) (ls.getD 0 []) σ

def w_law07_PlaceSteps_j5b (K : Value → Mem → Prop) (J2 : List Value → List (List Value) → Mem → Prop) (R1 : List Value → List (List Value) → Mem → Prop) (J4 : List Value → List (List Value) → Mem → Prop) (R3 : List Value → List (List Value) → Mem → Prop) (v1 v8 v9 v10 v12 v81 : Value) (c6 : List Value) (σ : Mem) : Prop :=
xIf v81
 (xF fMove [(.bool false)] fun v4 =>
K v4 σ)
 (xF fMove [v12] fun v82 =>
xIf v82
 (J4 [v1, v8] [c6] σ)
 (xF fMove [v10] fun v51 =>
xF (fBin .add .no) [v51, (.int .i64 1)] fun v52 =>
xF fMove [v52] fun v10 =>
R3 [v1, v8, v9, v10] [c6] σ))

def w_law07_PlaceSteps_j5 (K : Value → Mem → Prop) (J2 : List Value → List (List Value) → Mem → Prop) (R1 : List Value → List (List Value) → Mem → Prop) (J4 : List Value → List (List Value) → Mem → Prop) (R3 : List Value → List (List Value) → Mem → Prop) (ts : List Value) (ls : List (List Value)) (σ : Mem) : Prop := w_law07_PlaceSteps_j5b K J2 R1 J4 R3 (ts.getD 0 poison) (ts.getD 1 poison) (ts.getD 2 poison) (ts.getD 3 poison) (ts.getD 4 poison) (ts.getD 5 poison) (ls.getD 0 []) σ

def w_law07_PlaceSteps_l11b (K : Value → Mem → Prop) (J2 : List Value → List (List Value) → Mem → Prop) (R1 : List Value → List (List Value) → Mem → Prop) (J4 : List Value → List (List Value) → Mem → Prop) (R3 : List Value → List (List Value) → Mem → Prop) (v1 v8 v9 v10 : Value) (c6 : List Value) (σ : Mem) : Prop :=
xF fMove [v10] fun v49 =>
xF (fBin .lss .no) [v49, (.int .i64 60)] fun v50 =>
xIf v50
 (xO (gLoad 9 true [(locP 6)] c6) fun v53 =>
s_layout_Env_Now [v53] (fun v54 σ =>
xF fMove [v54] fun v11 =>
xF fMove [v9] fun v55 =>
xO (gLoad 9 true [(locP 6)] c6) fun v56 =>
s_place_Place_Step [v55, v56] (fun v57 σ =>
xF fMove [v57] fun v12 =>
xF (fFld 0) [(locP 6)] fun v59 =>
xO (gLoad 7 true [v59] c6) fun v60 =>
xF (fFld 7) [(locP 6)] fun v61 =>
xO (gLoad 1 false [v61] c6) fun v62 =>
s_mem_Mem_Last [v62] (fun v63 σ =>
xF (fFldV 0 1 false) [v63] fun v64 =>
s_ref04_Kind [v60, v64] (fun v65 σ =>
xF fMove [v65] fun v58 =>
xF (fExt 0) [v58] fun v66 =>
xF (fExt 1) [v58] fun v67 =>
xF (fExt 2) [v58] fun v68 =>
xF fMove [v66] fun v13 =>
xF fMove [v67] fun v14 =>
xF fMove [v68] fun v15 =>
xJoin (w_law07_PlaceSteps_j5 K J2 R1 J4 R3) fun J5 =>
xO (gLoad 9 true [(locP 6)] c6) fun v69 =>
s_layout_Env_Now [v69] (fun v70 σ =>
xF fMove [v11] fun v71 =>
xF (fBin .add .no) [v71, (.int .i64 1)] fun v72 =>
xF (fBin .neq .no) [v70, v72] fun v73 =>
xF fMove [v73] fun v74 =>
xIf v74
 (xF fPick [(.bool true), (.bool true), undef] fun v81 =>
J5 [v1, v8, v9, v10, v12, v81] [c6] σ)
 (xF fMove [v13] fun v75 =>
xF (fBin .neq .no) [v75, (.int .i64 2)] fun v76 =>
xF fMove [v76] fun v77 =>
xIf v77
 (xF fMove [v13] fun v78 =>
xF (fBin .neq .no) [v78, (.int .i64 6)] fun v79 =>
xF fPick [(.bool true), v79, (.bool false)] fun v80 =>
xF fPick [(.bool false), (.bool true), v80] fun v81 =>
J5 [v1, v8, v9, v10, v12, v81] [c6] σ)
 (xF fPick [(.bool false), undef, (.bool false)] fun v80 =>
xF fPick [(.bool false), (.bool true), v80] fun v81 =>
J5 [v1, v8, v9, v10, v12, v81] [c6] σ))) σ) σ) σ) σ) σ)
 (J4 [v1, v8] [c6] σ)

def w_law07_PlaceSteps_l11 (K : Value → Mem → Prop) (J2 : List Value → List (List Value) → Mem → Prop) (R1 : List Value → List (List Value) → Mem → Prop) (J4 : List Value → List (List Value) → Mem → Prop) (R3 : List Value → List (List Value) → Mem → Prop) (ts : List Value) (ls : List (List Value)) (σ : Mem) : Prop := w_law07_PlaceSteps_l11b K J2 R1 J4 R3 (ts.getD 0 poison) (ts.getD 1 poison) (ts.getD 2 poison) (ts.getD 3 poison) (ls.getD 0 []) σ

def w_law07_PlaceSteps_j3b (K : Value → Mem → Prop) (J2 : List Value → List (List Value) → Mem → Prop) (R1 : List Value → List (List Value) → Mem → Prop) (v1 v8 : Value) (c6 : List Value) (σ : Mem) : Prop :=
xJoin (w_law07_PlaceSteps_j4 K J2 R1) fun J4 =>
xF fMove [v1] fun v43 =>
xF fMove [v8] fun v44 =>
xF (fIxS 1) [v43, v44] fun v45 =>
hLoad 1 false [v45] (fun v46 σ =>
xF (fBin .and .no) [v46, (.int .i64 3)] fun v47 =>
s_place_New [v47] (fun v48 σ =>
xF fMove [v48] fun v9 =>
xF fMove [(.int .i64 0)] fun v10 =>
xLoop (w_law07_PlaceSteps_l11 K J2 R1 J4) [v1, v8, v9, v10] [c6] σ) σ) σ

def w_law07_PlaceSteps_j3 (K : Value → Mem → Prop) (J2 : List Value → List (List Value) → Mem → Prop) (R1 : List Value → List (List Value) → Mem → Prop) (ts : List Value) (ls : List (List Value)) (σ : Mem) : Prop := w_law07_PlaceSteps_j3b K J2 R1 (ts.getD 0 poison) (ts.getD 1 poison) (ls.getD 0 []) σ

def w_law07_PlaceSteps_l7b (K : Value → Mem → Prop) (J2 : List Value → List (List Value) → Mem → Prop) (R1 : List Value → List (List Value) → Mem → Prop) (v1 v8 : Value) (c6 : List Value) (σ : Mem) : Prop :=
xJoin (w_law07_PlaceSteps_j3 K J2 R1) fun J3 =>
xF fMove [v8] fun v33 =>
xF fMove [v1] fun v34 =>
xF fLen [v34] fun v35 =>
xF (fBin .lss .no) [v33, v35] fun v36 =>
xF fMove [v36] fun v37 =>
xIf v37
 (xF fMove [v8] fun v38 =>
xF (fBin .lss .no) [v38, (.int .i64 20)] fun v39 =>
xF fPick [(.bool true), v39, (.bool false)] fun v40 =>
xIf v40
 (J3 [v1, v8] [c6] σ)
 (J2 [] [] σ))
 (xF fPick [(.bool false), undef, (.bool false)] fun v40 =>
xIf v40
 (J3 [v1, v8] [c6] σ)
 (J2 [] [] σ))

def w_law07_PlaceSteps_l7 (K : Value → Mem → Prop) (J2 : List Value → List (List Value) → Mem → Prop) (R1 : List Value → List (List Value) → Mem → Prop) (ts : List Value) (ls : List (List Value)) (σ : Mem) : Prop := w_law07_PlaceSteps_l7b K J2 R1 (ts.getD 0 poison) (ts.getD 1 poison) (ls.getD 0 []) σ

def w_law07_PlaceSteps_j1b (K : Value → Mem → Prop) (v1 v32 : Value) (c6 : List Value) (σ : Mem) : Prop :=
xIf v32
 (xF fMove [(.bool false)] fun v4 =>
K v4 σ)
 (xJoin (w_law07_PlaceSteps_j2 K) fun J2 =>
xF fMove [(.int .i64 0)] fun v8 =>
xLoop (w_law07_PlaceSteps_l7 K J2) [v1, v8] [c6] σ)

def w_law07_PlaceSteps_j1 (K : Value → Mem → Prop) (ts : List Value) (ls : List (List Value)) (σ : Mem) : Prop := w_law07_PlaceSteps_j1b K (ts.getD 0 poison) (ts.getD 1 poison) (ls.getD 0 []) σ

def w_law07_PlaceSteps (a0 a1 : Value) (K : Value → Mem → Prop) (σ : Mem) : Prop :=
xF fMove [(.bool false)] fun v4 =>
xF fMove [a0] fun v19 =>
xF (fBin .and .no) [v19, (.int .i64 7)] fun v20 =>
xF (fBin .add .no) [(.int .i64 1), v20] fun v21 =>
xF fMove [v21] fun v5 =>
xF fMove [v5] fun v23 =>
s_law04_Arena [(.int .i64 1), (.int .i64 1), v23, (.int .i64 20)] (fun v24 σ =>
xF fMove [v24] fun v22 =>
xF (fExt 0) [v22] fun v25 =>
xF (fExt 1) [v22] fun v26 =>
xC (gStore 9 [(locP 6), v25] [(.int .i64 0), (.int .i64 0), (.int .i64 0), (.int .i64 0), (.int .i64 0), (.int .i64 0), (.int .i64 0), (.pointer none), (.int .i64 0)]) fun c6 =>
xF fMove [v26] fun v7 =>
xJoin (w_law07_PlaceSteps_j1 K) fun J1 =>
s_law07_awake [] (fun v27 σ =>
xF (fUn .not) [v27] fun v28 =>
xF fMove [v28] fun v29 =>
xIf v29
 (xF fPick [(.bool true), (.bool true), undef] fun v32 =>
J1 [a1, v32] [c6] σ)
 (xF fMove [v7] fun v30 =>
xF (fUn .not) [v30] fun v31 =>
xF fPick [(.bool false), (.bool true), v31] fun v32 =>
J1 [a1, v32] [c6] σ)) σ) σ

def s_law07_PlaceSteps : Spec := fun args K σ => match args with
  | [a0, a1] => w_law07_PlaceSteps a0 a1 K σ
  | _ => False

noncomputable def cx_law07_PlaceSteps : Cx := { P := Try.prog, T := [(13, .write, s_law04_Arena), (14, .none, s_law07_awake), (21, .write, s_place_New), (29, .read, s_layout_Env_Now), (22, .write, s_place_Place_Step), (30, .read, s_mem_Mem_Last), (25, .write, s_ref04_Kind), (27, .read, s_place_Place_Spot)], loc := [(6, 6), (17, 17), (59, 6), (61, 6)], eqt := [], n := 90, keep := [(7, [1, 8], [6]), (11, [1, 8, 9, 10], [6]), (1000005, [1, 32], [6]), (1000008, [1, 8], [6]), (1000009, [1, 8], [6]), (1000017, [1, 8, 9, 10, 12, 81], [6]), (1000019, [], [])] }
theorem q_law07_PlaceSteps : FnS cx_law07_PlaceSteps Try.f7 (bodyOf Try.f7) 2 = s_law07_PlaceSteps := by
  funext args K σ
  rcases args with _ | ⟨a0, _ | ⟨a1, _ | ⟨b, r⟩⟩⟩ <;> kernel_rfl
theorem e_law07_PlaceSteps : Entry Try.prog 7 .write s_law07_PlaceSteps :=
  entry (C := cx_law07_PlaceSteps) (TOk.cons e_law04_Arena (TOk.cons e_law07_awake (TOk.cons e_place_New (TOk.cons e_layout_Env_Now (TOk.cons e_place_Place_Step (TOk.cons e_mem_Mem_Last (TOk.cons e_ref04_Kind (TOk.cons e_place_Place_Spot TOk.nil)))))))) mixedOk Try.func7 (by kernel_rfl) (by kernel_rfl) (by kernel_rfl) q_law07_PlaceSteps


attribute [irreducible] w_law07_PlaceSteps_j2b w_law07_PlaceSteps_j2 w_law07_PlaceSteps_j4b w_law07_PlaceSteps_j4 w_law07_PlaceSteps_j5b w_law07_PlaceSteps_j5 w_law07_PlaceSteps_l11b w_law07_PlaceSteps_l11 w_law07_PlaceSteps_j3b w_law07_PlaceSteps_j3 w_law07_PlaceSteps_l7b w_law07_PlaceSteps_l7 w_law07_PlaceSteps_j1b w_law07_PlaceSteps_j1 w_law07_PlaceSteps s_law07_PlaceSteps

/-! ### /alloc.New -/
def w_alloc_New (a0 a1 : Value) (K : Value → Mem → Prop) (σ : Mem) : Prop :=
xF fMove [(.pointer none)] fun v4 =>
xF fMove [a0] fun v5 =>
xF fMove [a1] fun v6 =>
xF (fBuild [(0, 1), (1, 1), (2, 1), (3, 5), (8, 1), (9, 1), (10, 1), (11, 2), (13, 1), (14, 4)] [(.int .i64 0), (.bool false), (.int .i64 0), (.int .i64 0), (.int .u64 0), (.int .i64 0), (.int .i64 0), (.bool false), (.int .i64 0), (.int .i64 0), (.pointer none), (.int .i64 0), (.int .i64 0), (.pointer none), (.int .i64 0), (.int .u64 0), (.int .i64 0), (.int .i64 0)] [0, 1]) [v5, v6] fun v7 =>
hBox 18 [v7] (fun v8 σ =>
xF fMove [v8] fun v4 =>
K v4 σ) σ

def s_alloc_New : Spec := fun args K σ => match args with
  | [a0, a1] => w_alloc_New a0 a1 K σ
  | _ => False

noncomputable def cx_alloc_New : Cx := { P := Try.prog, T := [], loc := [], eqt := [], n := 9, keep := [] }
theorem q_alloc_New : FnS cx_alloc_New Try.f34 (bodyOf Try.f34) 2 = s_alloc_New := by
  funext args K σ
  rcases args with _ | ⟨a0, _ | ⟨a1, _ | ⟨b, r⟩⟩⟩ <;> kernel_rfl
theorem e_alloc_New : Entry Try.prog 34 .write s_alloc_New :=
  entry (C := cx_alloc_New) TOk.nil mixedOk Try.func34 (by kernel_rfl) (by kernel_rfl) (by kernel_rfl) q_alloc_New

def xl_alloc_New : List (Nat × Nat) := []
noncomputable def xc_alloc_New : XC XN :=
(.seq none
 (.reg [⟨none, some 4, [(.const (.pointer none))], ⟨.f fMove, rMove⟩⟩])
 (.seq none
 (.reg [⟨none, some 5, [(.tmp 0)], ⟨.f fMove, rMove⟩⟩,
  ⟨none, some 6, [(.tmp 1)], ⟨.f fMove, rMove⟩⟩,
  ⟨none, some 7, [(.tmp 5), (.tmp 6)], ⟨.f (fBuild [(0, 1), (1, 1), (2, 1), (3, 5), (8, 1), (9, 1), (10, 1), (11, 2), (13, 1), (14, 4)] [(.int .i64 0), (.bool false), (.int .i64 0), (.int .i64 0), (.int .u64 0), (.int .i64 0), (.int .i64 0), (.bool false), (.int .i64 0), (.int .i64 0), (.pointer none), (.int .i64 0), (.int .i64 0), (.pointer none), (.int .i64 0), (.int .u64 0), (.int .i64 0), (.int .i64 0)] [0, 1]), rAny xl_alloc_New (.f (fBuild [(0, 1), (1, 1), (2, 1), (3, 5), (8, 1), (9, 1), (10, 1), (11, 2), (13, 1), (14, 4)] [(.int .i64 0), (.bool false), (.int .i64 0), (.int .i64 0), (.int .u64 0), (.int .i64 0), (.int .i64 0), (.bool false), (.int .i64 0), (.int .i64 0), (.pointer none), (.int .i64 0), (.int .i64 0), (.pointer none), (.int .i64 0), (.int .u64 0), (.int .i64 0), (.int .i64 0)] [0, 1]))⟩⟩,
  ⟨none, some 8, [(.tmp 7)], ⟨.box 18, rAny xl_alloc_New (.box 18)⟩⟩,
  ⟨none, some 4, [(.tmp 8)], ⟨.f fMove, rMove⟩⟩])
 .ret))
noncomputable def v_alloc_New : EvF := evFn 2 xc_alloc_New [.t 4]
theorem xt_alloc_New : toC cx_alloc_New (bodyOf Try.f34) = some (xc_alloc_New.map XN.sm) := by kernel_rfl
theorem xr_alloc_New : toR cx_alloc_New Try.f34.results.toList = some [.t 4] := by kernel_rfl
theorem xo_alloc_New : xc_alloc_New.ok xl_alloc_New := ⟨⟨rMove_ok, trivial⟩, ⟨⟨rMove_ok, rMove_ok, rAny_ok (eqv_build _ rfl _), rAny_ok (trivial), rMove_ok, trivial⟩, trivial⟩⟩
theorem ve_alloc_New : EvOk s_alloc_New v_alloc_New := EvOk.of (evFn_sound (C := cx_alloc_New) xt_alloc_New xr_alloc_New xo_alloc_New) q_alloc_New

attribute [irreducible] w_alloc_New s_alloc_New

/-! ### /layout.Class -/
def w_layout_Class_j1b (K : Value → Mem → Prop) (σ : Mem) : Prop :=
xF fMove [(.int .i64 (-1))] fun v2 =>
K v2 σ

def w_layout_Class_j1 (K : Value → Mem → Prop) (ts : List Value) (ls : List (List Value)) (σ : Mem) : Prop := w_layout_Class_j1b K σ

def w_layout_Class_j2b (K : Value → Mem → Prop) (J1 : List Value → List (List Value) → Mem → Prop) (R1 : List Value → List (List Value) → Mem → Prop) (v0 v3 v4 v14 : Value) (σ : Mem) : Prop :=
xIf v14
 (xF fMove [v3] fun v15 =>
xF fMove [v15] fun v2 =>
K v2 σ)
 (xF (fBin .add .no) [v4, (.int .i64 1)] fun v16 =>
xF fMove [v16] fun v4 =>
R1 [v0, v4] [] σ)

def w_layout_Class_j2 (K : Value → Mem → Prop) (J1 : List Value → List (List Value) → Mem → Prop) (R1 : List Value → List (List Value) → Mem → Prop) (ts : List Value) (ls : List (List Value)) (σ : Mem) : Prop := w_layout_Class_j2b K J1 R1 (ts.getD 0 poison) (ts.getD 1 poison) (ts.getD 2 poison) (ts.getD 3 poison) σ

def w_layout_Class_l3b (K : Value → Mem → Prop) (J1 : List Value → List (List Value) → Mem → Prop) (R1 : List Value → List (List Value) → Mem → Prop) (v0 v4 : Value) (σ : Mem) : Prop :=
xF (fBin .lss .no) [v4, (.int .i64 4)] fun v5 =>
xIf v5
 (xF fMove [v4] fun v6 =>
xF fMove [v6] fun v3 =>
xJoin (w_layout_Class_j2 K J1 R1) fun J2 =>
xF fMove [v0] fun v7 =>
xF (fBin .geq .no) [v7, (.int .i64 1)] fun v8 =>
xF fMove [v8] fun v9 =>
xIf v9
 (xF fMove [v0] fun v10 =>
xF fMove [v3] fun v11 =>
xF (fBin .shl .no) [(.int .i64 2), v11] fun v12 =>
xF (fBin .leq .no) [v10, v12] fun v13 =>
xF fPick [(.bool true), v13, (.bool false)] fun v14 =>
J2 [v0, v3, v4, v14] [] σ)
 (xF fPick [(.bool false), undef, (.bool false)] fun v14 =>
J2 [v0, v3, v4, v14] [] σ))
 (J1 [] [] σ)

def w_layout_Class_l3 (K : Value → Mem → Prop) (J1 : List Value → List (List Value) → Mem → Prop) (R1 : List Value → List (List Value) → Mem → Prop) (ts : List Value) (ls : List (List Value)) (σ : Mem) : Prop := w_layout_Class_l3b K J1 R1 (ts.getD 0 poison) (ts.getD 1 poison) σ

def w_layout_Class (a0 : Value) (K : Value → Mem → Prop) (σ : Mem) : Prop :=
xF fMove [(.int .i64 0)] fun v2 =>
xJoin (w_layout_Class_j1 K) fun J1 =>
xF fMove [(.int .i64 0)] fun v4 =>
xLoop (w_layout_Class_l3 K J1) [a0, v4] [] σ

def s_layout_Class : Spec := fun args K σ => match args with
  | [a0] => w_layout_Class a0 K σ
  | _ => False

noncomputable def cx_layout_Class : Cx := { P := Try.prog, T := [], loc := [], eqt := [], n := 17, keep := [(3, [0, 4], []), (1000006, [0, 3, 4, 14], []), (1000008, [], [])] }
theorem q_layout_Class : FnS cx_layout_Class Try.f49 (bodyOf Try.f49) 1 = s_layout_Class := by
  funext args K σ
  rcases args with _ | ⟨a0, _ | ⟨b, r⟩⟩ <;> kernel_rfl
theorem e_layout_Class : Entry Try.prog 49 .write s_layout_Class :=
  entry (C := cx_layout_Class) TOk.nil mixedOk Try.func49 (by kernel_rfl) (by kernel_rfl) (by kernel_rfl) q_layout_Class

def xl_layout_Class : List (Nat × Nat) := []
noncomputable def xc_layout_Class : XC XN :=
(.seq none
 (.reg [⟨none, some 2, [(.const (.int .i64 0))], ⟨.f fMove, rMove⟩⟩])
 (.seq (some ([], []))
 (.seq none
 (.reg [⟨none, some 4, [(.const (.int .i64 0))], ⟨.f fMove, rMove⟩⟩])
 (.block 0
 (.loop ([0, 4], [])
 (.seq none
 (.reg [⟨none, some 5, [(.tmp 4), (.const (.int .i64 4))], ⟨.f (fBin .lss .no), rLss⟩⟩])
 (.seq none
 (.cond (.tmp 5)
 .skip
 (.exit 0))
 (.seq none
 (.block 1
 (.seq none
 (.reg [⟨none, some 6, [(.tmp 4)], ⟨.f fMove, rMove⟩⟩,
  ⟨none, some 3, [(.tmp 6)], ⟨.f fMove, rMove⟩⟩])
 (.seq (some ([0, 3, 4, 14], []))
 (.reg [⟨none, some 7, [(.tmp 0)], ⟨.f fMove, rMove⟩⟩,
  ⟨none, some 8, [(.tmp 7), (.const (.int .i64 1))], ⟨.f (fBin .geq .no), rGeq⟩⟩,
  ⟨none, some 9, [(.tmp 8)], ⟨.f fMove, rMove⟩⟩,
  ⟨(some (3, 2, true, some 9)), some 10, [(.tmp 0)], ⟨.f fMove, rMove⟩⟩,
  ⟨(some (4, 2, true, some 9)), some 11, [(.tmp 3)], ⟨.f fMove, rMove⟩⟩,
  ⟨(some (5, 2, true, some 9)), some 12, [(.const (.int .i64 2)), (.tmp 11)], ⟨.f (fBin .shl .no), rAny xl_layout_Class (.f (fBin .shl .no))⟩⟩,
  ⟨(some (6, 2, true, some 9)), some 13, [(.tmp 10), (.tmp 12)], ⟨.f (fBin .leq .no), rLeq⟩⟩,
  ⟨none, some 14, [(.tmp 9), (.tmp 13), (.const (.bool false))], ⟨.f fPick, rPick⟩⟩])
 (.cond (.tmp 14)
 (.seq none
 (.reg [⟨none, some 15, [(.tmp 3)], ⟨.f fMove, rMove⟩⟩,
  ⟨none, some 2, [(.tmp 15)], ⟨.f fMove, rMove⟩⟩])
 .ret)
 .skip))))
 (.reg [⟨none, some 16, [(.tmp 4), (.const (.int .i64 1))], ⟨.f (fBin .add .no), rAdd⟩⟩,
  ⟨none, some 4, [(.tmp 16)], ⟨.f fMove, rMove⟩⟩])))))))
 (.seq none
 (.reg [⟨none, some 2, [(.const (.int .i64 (-1)))], ⟨.f fMove, rMove⟩⟩])
 .ret)))
noncomputable def v_layout_Class : EvF := evFn 1 xc_layout_Class [.t 2]
theorem xt_layout_Class : toC cx_layout_Class (bodyOf Try.f49) = some (xc_layout_Class.map XN.sm) := by kernel_rfl
theorem xr_layout_Class : toR cx_layout_Class Try.f49.results.toList = some [.t 2] := by kernel_rfl
theorem xo_layout_Class : xc_layout_Class.ok xl_layout_Class := ⟨⟨rMove_ok, trivial⟩, ⟨⟨⟨rMove_ok, trivial⟩, ⟨⟨rLss_ok, trivial⟩, ⟨⟨trivial, trivial⟩, ⟨⟨⟨rMove_ok, rMove_ok, trivial⟩, ⟨⟨rMove_ok, rGeq_ok, rMove_ok, rMove_ok, rMove_ok, rAny_ok (eqv_bin _ _), rLeq_ok, rPick_ok, trivial⟩, ⟨⟨⟨rMove_ok, rMove_ok, trivial⟩, trivial⟩, trivial⟩⟩⟩, ⟨rAdd_ok, rMove_ok, trivial⟩⟩⟩⟩⟩, ⟨⟨rMove_ok, trivial⟩, trivial⟩⟩⟩
theorem ve_layout_Class : EvOk s_layout_Class v_layout_Class := EvOk.of (evFn_sound (C := cx_layout_Class) xt_layout_Class xr_layout_Class xo_layout_Class) q_layout_Class

attribute [irreducible] w_layout_Class_j1b w_layout_Class_j1 w_layout_Class_j2b w_layout_Class_j2 w_layout_Class_l3b w_layout_Class_l3 w_layout_Class s_layout_Class

/-! ### (*/alloc.Alloc).end -/
def w_alloc_Alloc_end (a0 a1 a2 : Value) (K : Value → Mem → Prop) (σ : Mem) : Prop :=
xC (gBox 9 [a1] []) fun c4 =>
xF fMove [a0] fun v6 =>
xF fMove [a2] fun v7 =>
xO (gLoad 9 true [(locP 4)] c4) fun v8 =>
s_layout_Env_Now [v8] (fun v9 σ =>
xF (fBuild [(0, 1), (1, 1), (2, 1), (3, 1)] [(.int .i64 0), (.int .u64 0), (.int .i64 0), (.int .i64 0)] [0, 3]) [v7, v9] fun v10 =>
xF fNil [v6] fun v11 =>
xF (fFld 14) [v11] fun v12 =>
hStore 4 [v12, v10] (fun _v σ =>
K (.tuple #[]) σ) σ) σ

def s_alloc_Alloc_end : Spec := fun args K σ => match args with
  | [a0, a1, a2] => w_alloc_Alloc_end a0 a1 a2 K σ
  | _ => False

noncomputable def cx_alloc_Alloc_end : Cx := { P := Try.prog, T := [(29, .read, s_layout_Env_Now)], loc := [(4, 4)], eqt := [], n := 13, keep := [] }
theorem q_alloc_Alloc_end : FnS cx_alloc_Alloc_end Try.f50 (bodyOf Try.f50) 3 = s_alloc_Alloc_end := by
  funext args K σ
  rcases args with _ | ⟨a0, _ | ⟨a1, _ | ⟨a2, _ | ⟨b, r⟩⟩⟩⟩ <;> kernel_rfl
theorem e_alloc_Alloc_end : Entry Try.prog 50 .write s_alloc_Alloc_end :=
  entry (C := cx_alloc_Alloc_end) (TOk.cons e_layout_Env_Now TOk.nil) mixedOk Try.func50 (by kernel_rfl) (by kernel_rfl) (by kernel_rfl) q_alloc_Alloc_end

def xl_alloc_Alloc_end : List (Nat × Nat) := [(4, 4)]
noncomputable def xc_alloc_Alloc_end : XC XN :=
(.seq none
 (.reg [⟨none, some 4, [(.tmp 1)], ⟨.lb 4 9, rAny xl_alloc_Alloc_end (.lb 4 9)⟩⟩])
 (.reg [⟨none, some 6, [(.tmp 0)], ⟨.f fMove, rMove⟩⟩,
  ⟨none, some 7, [(.tmp 2)], ⟨.f fMove, rMove⟩⟩,
  ⟨none, some 8, [(.tmp 4)], ⟨.lr 4 9 true, rAny xl_alloc_Alloc_end (.lr 4 9 true)⟩⟩,
  ⟨none, some 9, [(.tmp 8)], ⟨.call .read s_layout_Env_Now v_layout_Env_Now, rCall v_layout_Env_Now⟩⟩,
  ⟨none, some 10, [(.tmp 7), (.tmp 9)], ⟨.f (fBuild [(0, 1), (1, 1), (2, 1), (3, 1)] [(.int .i64 0), (.int .u64 0), (.int .i64 0), (.int .i64 0)] [0, 3]), rAny xl_alloc_Alloc_end (.f (fBuild [(0, 1), (1, 1), (2, 1), (3, 1)] [(.int .i64 0), (.int .u64 0), (.int .i64 0), (.int .i64 0)] [0, 3]))⟩⟩,
  ⟨none, some 11, [(.tmp 6)], ⟨.f fNil, rNil⟩⟩,
  ⟨none, some 12, [(.tmp 11)], ⟨.f (fFld 14), rFld 14⟩⟩,
  ⟨none, none, [(.tmp 12), (.tmp 10)], ⟨.store 4, rAny xl_alloc_Alloc_end (.store 4)⟩⟩]))
noncomputable def v_alloc_Alloc_end : EvF := evFn 3 xc_alloc_Alloc_end []
theorem xt_alloc_Alloc_end : toC cx_alloc_Alloc_end (bodyOf Try.f50) = some (xc_alloc_Alloc_end.map XN.sm) := by kernel_rfl
theorem xr_alloc_Alloc_end : toR cx_alloc_Alloc_end Try.f50.results.toList = some [] := by kernel_rfl
theorem xo_alloc_Alloc_end : xc_alloc_Alloc_end.ok xl_alloc_Alloc_end := ⟨⟨rAny_ok (trivial), trivial⟩, ⟨rMove_ok, rMove_ok, rAny_ok (trivial), rCall_ok ve_layout_Env_Now, rAny_ok (eqv_build _ rfl _), rNil_ok, rFld_ok _, rAny_ok (trivial), trivial⟩⟩
theorem ve_alloc_Alloc_end : EvOk s_alloc_Alloc_end v_alloc_Alloc_end := EvOk.of (evFn_sound (C := cx_alloc_Alloc_end) xt_alloc_Alloc_end xr_alloc_Alloc_end xo_alloc_Alloc_end) q_alloc_Alloc_end

attribute [irreducible] w_alloc_Alloc_end s_alloc_Alloc_end

/-! ### /word.Top -/
def w_word_Top (a0 : Value) (K : Value → Mem → Prop) (σ : Mem) : Prop :=
xF fMove [(.int .i64 0)] fun v2 =>
xF fMove [(.int .i64 0)] fun v3 =>
xF fMove [a0] fun v4 =>
xF (fBin .and .no) [v4, (.int .u64 131071)] fun v5 =>
xF (fConv .i64) [v5] fun v6 =>
xF (fBin .sub .no) [v6, (.int .i64 1)] fun v7 =>
xF fMove [a0] fun v8 =>
xF (fBin .shr .no) [v8, (.int .u64 17)] fun v9 =>
xF (fBin .and .no) [v9, (.int .u64 68719476735)] fun v10 =>
xF (fConv .i64) [v10] fun v11 =>
xF fMove [v7] fun v2 =>
xF fMove [v11] fun v3 =>
K (.tuple #[v2, v3]) σ

def s_word_Top : Spec := fun args K σ => match args with
  | [a0] => w_word_Top a0 K σ
  | _ => False

noncomputable def cx_word_Top : Cx := { P := Try.prog, T := [], loc := [], eqt := [], n := 12, keep := [] }
theorem q_word_Top : FnS cx_word_Top Try.f71 (bodyOf Try.f71) 1 = s_word_Top := by
  funext args K σ
  rcases args with _ | ⟨a0, _ | ⟨b, r⟩⟩ <;> kernel_rfl
theorem e_word_Top : Entry Try.prog 71 .none s_word_Top :=
  entry (C := cx_word_Top) TOk.nil mixedOk Try.func71 (by kernel_rfl) (by kernel_rfl) (by kernel_rfl) q_word_Top

def xl_word_Top : List (Nat × Nat) := []
noncomputable def xc_word_Top : XC XN :=
(.seq none
 (.reg [⟨none, some 2, [(.const (.int .i64 0))], ⟨.f fMove, rMove⟩⟩,
  ⟨none, some 3, [(.const (.int .i64 0))], ⟨.f fMove, rMove⟩⟩])
 (.seq none
 (.reg [⟨none, some 4, [(.tmp 0)], ⟨.f fMove, rMove⟩⟩,
  ⟨none, some 5, [(.tmp 4), (.const (.int .u64 131071))], ⟨.band .no, rAny xl_word_Top (.band .no)⟩⟩,
  ⟨none, some 6, [(.tmp 5)], ⟨.f (fConv .i64), rConv .i64⟩⟩,
  ⟨none, some 7, [(.tmp 6), (.const (.int .i64 1))], ⟨.f (fBin .sub .no), rSub⟩⟩,
  ⟨none, some 8, [(.tmp 0)], ⟨.f fMove, rMove⟩⟩,
  ⟨none, some 9, [(.tmp 8), (.const (.int .u64 17))], ⟨.f (fBin .shr .no), rAny xl_word_Top (.f (fBin .shr .no))⟩⟩,
  ⟨none, some 10, [(.tmp 9), (.const (.int .u64 68719476735))], ⟨.band .no, rAny xl_word_Top (.band .no)⟩⟩,
  ⟨none, some 11, [(.tmp 10)], ⟨.f (fConv .i64), rConv .i64⟩⟩,
  ⟨none, some 2, [(.tmp 7)], ⟨.f fMove, rMove⟩⟩,
  ⟨none, some 3, [(.tmp 11)], ⟨.f fMove, rMove⟩⟩])
 .ret))
noncomputable def v_word_Top : EvF := evFn 1 xc_word_Top [.t 2, .t 3]
theorem xt_word_Top : toC cx_word_Top (bodyOf Try.f71) = some (xc_word_Top.map XN.sm) := by kernel_rfl
theorem xr_word_Top : toR cx_word_Top Try.f71.results.toList = some [.t 2, .t 3] := by kernel_rfl
theorem xo_word_Top : xc_word_Top.ok xl_word_Top := ⟨⟨rMove_ok, rMove_ok, trivial⟩, ⟨⟨rMove_ok, rAny_ok (trivial), rConv_ok _, rSub_ok, rMove_ok, rAny_ok (eqv_bin _ _), rAny_ok (trivial), rConv_ok _, rMove_ok, rMove_ok, trivial⟩, trivial⟩⟩
theorem ve_word_Top : EvOk s_word_Top v_word_Top := EvOk.of (evFn_sound (C := cx_word_Top) xt_word_Top xr_word_Top xo_word_Top) q_word_Top

attribute [irreducible] w_word_Top s_word_Top

/-! ### (*/slot.Take).Step -/
def w_slot_Take_Step_j1b (K : Value → Mem → Prop) (v0 : Value) (σ : Mem) : Prop :=
xF fMove [v0] fun v88 =>
xF fNil [v88] fun v89 =>
xF (fFld 4) [v89] fun v90 =>
hLoad 1 false [v90] (fun v91 σ =>
xF fMove [v91] fun v4 =>
K v4 σ) σ

def w_slot_Take_Step_j1 (K : Value → Mem → Prop) (ts : List Value) (ls : List (List Value)) (σ : Mem) : Prop := w_slot_Take_Step_j1b K (ts.getD 0 poison) σ

def w_slot_Take_Step (a0 a1 : Value) (K : Value → Mem → Prop) (σ : Mem) : Prop :=
xC (gBox 9 [a1] []) fun c3 =>
xF fMove [(.bool false)] fun v4 =>
xJoin (w_slot_Take_Step_j1 K) fun J1 =>
xF fMove [a0] fun v7 =>
xF fNil [v7] fun v8 =>
xF (fFld 0) [v8] fun v9 =>
hLoad 1 false [v9] (fun v10 σ =>
xF (fBin .eql .no) [v10, (.int .i64 0)] fun v40 =>
xF fMove [v40] fun v39 =>
xIf v39
 (xF fMove [a0] fun v41 =>
xO (gLoad 9 true [(locP 3)] c3) fun v42 =>
s_layout_Top [] (fun v43 σ =>
s_layout_Env_Load [v42, v43] (fun v44 σ =>
xF fNil [v41] fun v45 =>
xF (fFld 1) [v45] fun v46 =>
hStore 1 [v46, v44] (fun _v σ =>
xF fMove [a0] fun v48 =>
xF fMove [a0] fun v49 =>
xF fNil [v49] fun v50 =>
xF (fFld 1) [v50] fun v51 =>
hLoad 1 false [v51] (fun v52 σ =>
s_word_Top [v52] (fun v53 σ =>
xF fMove [v53] fun v47 =>
xF (fExt 0) [v47] fun v54 =>
xF (fExt 1) [v47] fun v55 =>
xF fNil [v48] fun v56 =>
xF (fFld 3) [v56] fun v57 =>
hStore 1 [v57, v54] (fun _v σ =>
xF fMove [a0] fun v58 =>
xF fNil [v58] fun v59 =>
xF (fFld 0) [v59] fun v60 =>
hStore 1 [v60, (.int .i64 1)] (fun _v σ =>
xF fMove [a0] fun v61 =>
xF fNil [v61] fun v62 =>
xF (fFld 3) [v62] fun v63 =>
hLoad 1 false [v63] (fun v64 σ =>
xF (fBin .lss .no) [v64, (.int .i64 0)] fun v65 =>
xF fMove [v65] fun v4 =>
K v4 σ) σ) σ) σ) σ) σ) σ) σ) σ)
 (xF (fBin .eql .no) [v10, (.int .i64 1)] fun v67 =>
xF fMove [v67] fun v66 =>
xIf v66
 (xF fMove [a0] fun v69 =>
xO (gLoad 9 true [(locP 3)] c3) fun v70 =>
xF (fFld 0) [(locP 3)] fun v71 =>
xO (gLoad 7 true [v71] c3) fun v72 =>
xF fMove [a0] fun v73 =>
xF fNil [v73] fun v74 =>
xF (fFld 3) [v74] fun v75 =>
hLoad 1 false [v75] (fun v76 σ =>
s_layout_Slot [v72, v76] (fun v77 σ =>
xF (fBin .add .no) [v77, (.int .i64 1)] fun v78 =>
s_layout_Env_Load [v70, v78] (fun v79 σ =>
s_word_Top [v79] (fun v80 σ =>
xF fMove [v80] fun v68 =>
xF (fExt 0) [v68] fun v81 =>
xF (fExt 1) [v68] fun v82 =>
xF fNil [v69] fun v83 =>
xF (fFld 2) [v83] fun v84 =>
hStore 1 [v84, v81] (fun _v σ =>
xF fMove [a0] fun v85 =>
xF fNil [v85] fun v86 =>
xF (fFld 0) [v86] fun v87 =>
hStore 1 [v87, (.int .i64 2)] (fun _v σ =>
J1 [a0] [] σ) σ) σ) σ) σ) σ) σ)
 (xF fMove [a0] fun v12 =>
xF fNil [v12] fun v13 =>
xF (fFld 1) [v13] fun v14 =>
hLoad 1 false [v14] (fun v15 σ =>
s_word_Top [v15] (fun v16 σ =>
xF fMove [v16] fun v11 =>
xF (fExt 0) [v11] fun v17 =>
xF (fExt 1) [v11] fun v18 =>
xF fMove [v17] fun v5 =>
xF fMove [v18] fun v6 =>
xF fMove [a0] fun v19 =>
xF fNil [v19] fun v20 =>
xF (fFld 0) [v20] fun v21 =>
hStore 1 [v21, (.int .i64 0)] (fun _v σ =>
xF fMove [a0] fun v22 =>
xO (gLoad 9 true [(locP 3)] c3) fun v23 =>
s_layout_Top [] (fun v24 σ =>
xF fMove [a0] fun v25 =>
xF fNil [v25] fun v26 =>
xF (fFld 1) [v26] fun v27 =>
hLoad 1 false [v27] (fun v28 σ =>
xF fMove [a0] fun v29 =>
xF fNil [v29] fun v30 =>
xF (fFld 2) [v30] fun v31 =>
hLoad 1 false [v31] (fun v32 σ =>
xF fMove [v6] fun v33 =>
xF (fBin .add .no) [v33, (.int .i64 1)] fun v34 =>
s_word_PutTop [v32, v34] (fun v35 σ =>
s_layout_Env_Cas [v23, v24, v28, v35] (fun v36 σ =>
xF fNil [v22] fun v37 =>
xF (fFld 4) [v37] fun v38 =>
hStore 1 [v38, v36] (fun _v σ =>
J1 [a0] [] σ) σ) σ) σ) σ) σ) σ) σ) σ) σ))) σ

def s_slot_Take_Step : Spec := fun args K σ => match args with
  | [a0, a1] => w_slot_Take_Step a0 a1 K σ
  | _ => False

noncomputable def cx_slot_Take_Step : Cx := { P := Try.prog, T := [(66, .none, s_layout_Top), (41, .write, s_layout_Env_Load), (71, .none, s_word_Top), (37, .none, s_layout_Slot), (65, .none, s_word_PutTop), (45, .write, s_layout_Env_Cas)], loc := [(3, 3), (71, 3)], eqt := [], n := 92, keep := [(1000014, [0], [])] }
theorem q_slot_Take_Step : FnS cx_slot_Take_Step Try.f51 (bodyOf Try.f51) 2 = s_slot_Take_Step := by
  funext args K σ
  rcases args with _ | ⟨a0, _ | ⟨a1, _ | ⟨b, r⟩⟩⟩ <;> kernel_rfl
theorem e_slot_Take_Step : Entry Try.prog 51 .write s_slot_Take_Step :=
  entry (C := cx_slot_Take_Step) (TOk.cons e_layout_Top (TOk.cons e_layout_Env_Load (TOk.cons e_word_Top (TOk.cons e_layout_Slot (TOk.cons e_word_PutTop (TOk.cons e_layout_Env_Cas TOk.nil)))))) mixedOk Try.func51 (by kernel_rfl) (by kernel_rfl) (by kernel_rfl) q_slot_Take_Step

def xl_slot_Take_Step : List (Nat × Nat) := [(3, 3), (71, 3)]
noncomputable def xc_slot_Take_Step : XC XN :=
(.seq none
 (.reg [⟨none, some 3, [(.tmp 1)], ⟨.lb 3 9, rAny xl_slot_Take_Step (.lb 3 9)⟩⟩,
  ⟨none, some 4, [(.const (.bool false))], ⟨.f fMove, rMove⟩⟩])
 (.seq (some ([0], []))
 (.seq none
 (.reg [⟨none, some 7, [(.tmp 0)], ⟨.f fMove, rMove⟩⟩,
  ⟨none, some 8, [(.tmp 7)], ⟨.f fNil, rNil⟩⟩,
  ⟨none, some 9, [(.tmp 8)], ⟨.f (fFld 0), rFld 0⟩⟩,
  ⟨none, some 10, [(.tmp 9)], ⟨.load 1 false, rLoad1⟩⟩])
 (.block 0
 (.seq none
 (.reg [⟨none, some 40, [(.tmp 10), (.const (.int .i64 0))], ⟨.f (fBin .eql .no), rEql⟩⟩,
  ⟨none, some 39, [(.tmp 40)], ⟨.f fMove, rMove⟩⟩])
 (.cond (.tmp 39)
 (.seq none
 (.reg [⟨none, some 41, [(.tmp 0)], ⟨.f fMove, rMove⟩⟩,
  ⟨none, some 42, [(.tmp 3)], ⟨.lr 3 9 true, rAny xl_slot_Take_Step (.lr 3 9 true)⟩⟩,
  ⟨none, some 43, [], ⟨.call .none s_layout_Top v_layout_Top, rCall v_layout_Top⟩⟩,
  ⟨none, some 44, [(.tmp 42), (.tmp 43)], ⟨.call .write s_layout_Env_Load v_layout_Env_Load, rCall v_layout_Env_Load⟩⟩,
  ⟨none, some 45, [(.tmp 41)], ⟨.f fNil, rNil⟩⟩,
  ⟨none, some 46, [(.tmp 45)], ⟨.f (fFld 1), rFld 1⟩⟩,
  ⟨none, none, [(.tmp 46), (.tmp 44)], ⟨.store 1, rStore1⟩⟩])
 (.seq none
 (.reg [⟨none, some 48, [(.tmp 0)], ⟨.f fMove, rMove⟩⟩,
  ⟨none, some 49, [(.tmp 0)], ⟨.f fMove, rMove⟩⟩,
  ⟨none, some 50, [(.tmp 49)], ⟨.f fNil, rNil⟩⟩,
  ⟨none, some 51, [(.tmp 50)], ⟨.f (fFld 1), rFld 1⟩⟩,
  ⟨none, some 52, [(.tmp 51)], ⟨.load 1 false, rLoad1⟩⟩,
  ⟨none, some 53, [(.tmp 52)], ⟨.call .none s_word_Top v_word_Top, rCall v_word_Top⟩⟩,
  ⟨none, some 47, [(.tmp 53)], ⟨.f fMove, rMove⟩⟩,
  ⟨none, some 54, [(.tmp 47)], ⟨.f (fExt 0), rAny xl_slot_Take_Step (.f (fExt 0))⟩⟩,
  ⟨none, some 55, [(.tmp 47)], ⟨.f (fExt 1), rAny xl_slot_Take_Step (.f (fExt 1))⟩⟩,
  ⟨none, some 56, [(.tmp 48)], ⟨.f fNil, rNil⟩⟩,
  ⟨none, some 57, [(.tmp 56)], ⟨.f (fFld 3), rFld 3⟩⟩,
  ⟨none, none, [(.tmp 57), (.tmp 54)], ⟨.store 1, rStore1⟩⟩])
 (.seq none
 (.reg [⟨none, some 58, [(.tmp 0)], ⟨.f fMove, rMove⟩⟩,
  ⟨none, some 59, [(.tmp 58)], ⟨.f fNil, rNil⟩⟩,
  ⟨none, some 60, [(.tmp 59)], ⟨.f (fFld 0), rFld 0⟩⟩,
  ⟨none, none, [(.tmp 60), (.const (.int .i64 1))], ⟨.store 1, rStore1⟩⟩])
 (.seq none
 (.reg [⟨none, some 61, [(.tmp 0)], ⟨.f fMove, rMove⟩⟩,
  ⟨none, some 62, [(.tmp 61)], ⟨.f fNil, rNil⟩⟩,
  ⟨none, some 63, [(.tmp 62)], ⟨.f (fFld 3), rFld 3⟩⟩,
  ⟨none, some 64, [(.tmp 63)], ⟨.load 1 false, rLoad1⟩⟩,
  ⟨none, some 65, [(.tmp 64), (.const (.int .i64 0))], ⟨.f (fBin .lss .no), rLss⟩⟩,
  ⟨none, some 4, [(.tmp 65)], ⟨.f fMove, rMove⟩⟩])
 .ret))))
 (.seq none
 (.reg [⟨none, some 67, [(.tmp 10), (.const (.int .i64 1))], ⟨.f (fBin .eql .no), rEql⟩⟩,
  ⟨none, some 66, [(.tmp 67)], ⟨.f fMove, rMove⟩⟩])
 (.cond (.tmp 66)
 (.seq none
 (.reg [⟨none, some 69, [(.tmp 0)], ⟨.f fMove, rMove⟩⟩,
  ⟨none, some 70, [(.tmp 3)], ⟨.lr 3 9 true, rAny xl_slot_Take_Step (.lr 3 9 true)⟩⟩,
  ⟨none, some 71, [(.tmp 3)], ⟨.f (fFld 0), rFld 0⟩⟩,
  ⟨none, some 72, [(.tmp 71)], ⟨.lr 3 7 true, rAny xl_slot_Take_Step (.lr 3 7 true)⟩⟩,
  ⟨none, some 73, [(.tmp 0)], ⟨.f fMove, rMove⟩⟩,
  ⟨none, some 74, [(.tmp 73)], ⟨.f fNil, rNil⟩⟩,
  ⟨none, some 75, [(.tmp 74)], ⟨.f (fFld 3), rFld 3⟩⟩,
  ⟨none, some 76, [(.tmp 75)], ⟨.load 1 false, rLoad1⟩⟩,
  ⟨none, some 77, [(.tmp 72), (.tmp 76)], ⟨.call .none s_layout_Slot v_layout_Slot, rCall v_layout_Slot⟩⟩,
  ⟨none, some 78, [(.tmp 77), (.const (.int .i64 1))], ⟨.f (fBin .add .no), rAdd⟩⟩,
  ⟨none, some 79, [(.tmp 70), (.tmp 78)], ⟨.call .write s_layout_Env_Load v_layout_Env_Load, rCall v_layout_Env_Load⟩⟩,
  ⟨none, some 80, [(.tmp 79)], ⟨.call .none s_word_Top v_word_Top, rCall v_word_Top⟩⟩,
  ⟨none, some 68, [(.tmp 80)], ⟨.f fMove, rMove⟩⟩,
  ⟨none, some 81, [(.tmp 68)], ⟨.f (fExt 0), rAny xl_slot_Take_Step (.f (fExt 0))⟩⟩,
  ⟨none, some 82, [(.tmp 68)], ⟨.f (fExt 1), rAny xl_slot_Take_Step (.f (fExt 1))⟩⟩,
  ⟨none, some 83, [(.tmp 69)], ⟨.f fNil, rNil⟩⟩,
  ⟨none, some 84, [(.tmp 83)], ⟨.f (fFld 2), rFld 2⟩⟩,
  ⟨none, none, [(.tmp 84), (.tmp 81)], ⟨.store 1, rStore1⟩⟩])
 (.reg [⟨none, some 85, [(.tmp 0)], ⟨.f fMove, rMove⟩⟩,
  ⟨none, some 86, [(.tmp 85)], ⟨.f fNil, rNil⟩⟩,
  ⟨none, some 87, [(.tmp 86)], ⟨.f (fFld 0), rFld 0⟩⟩,
  ⟨none, none, [(.tmp 87), (.const (.int .i64 2))], ⟨.store 1, rStore1⟩⟩]))
 (.seq none
 (.reg [⟨none, some 12, [(.tmp 0)], ⟨.f fMove, rMove⟩⟩,
  ⟨none, some 13, [(.tmp 12)], ⟨.f fNil, rNil⟩⟩,
  ⟨none, some 14, [(.tmp 13)], ⟨.f (fFld 1), rFld 1⟩⟩,
  ⟨none, some 15, [(.tmp 14)], ⟨.load 1 false, rLoad1⟩⟩,
  ⟨none, some 16, [(.tmp 15)], ⟨.call .none s_word_Top v_word_Top, rCall v_word_Top⟩⟩,
  ⟨none, some 11, [(.tmp 16)], ⟨.f fMove, rMove⟩⟩,
  ⟨none, some 17, [(.tmp 11)], ⟨.f (fExt 0), rAny xl_slot_Take_Step (.f (fExt 0))⟩⟩,
  ⟨none, some 18, [(.tmp 11)], ⟨.f (fExt 1), rAny xl_slot_Take_Step (.f (fExt 1))⟩⟩,
  ⟨none, some 5, [(.tmp 17)], ⟨.f fMove, rMove⟩⟩,
  ⟨none, some 6, [(.tmp 18)], ⟨.f fMove, rMove⟩⟩])
 (.seq none
 (.reg [⟨none, some 19, [(.tmp 0)], ⟨.f fMove, rMove⟩⟩,
  ⟨none, some 20, [(.tmp 19)], ⟨.f fNil, rNil⟩⟩,
  ⟨none, some 21, [(.tmp 20)], ⟨.f (fFld 0), rFld 0⟩⟩,
  ⟨none, none, [(.tmp 21), (.const (.int .i64 0))], ⟨.store 1, rStore1⟩⟩])
 (.reg [⟨none, some 22, [(.tmp 0)], ⟨.f fMove, rMove⟩⟩,
  ⟨none, some 23, [(.tmp 3)], ⟨.lr 3 9 true, rAny xl_slot_Take_Step (.lr 3 9 true)⟩⟩,
  ⟨none, some 24, [], ⟨.call .none s_layout_Top v_layout_Top, rCall v_layout_Top⟩⟩,
  ⟨none, some 25, [(.tmp 0)], ⟨.f fMove, rMove⟩⟩,
  ⟨none, some 26, [(.tmp 25)], ⟨.f fNil, rNil⟩⟩,
  ⟨none, some 27, [(.tmp 26)], ⟨.f (fFld 1), rFld 1⟩⟩,
  ⟨none, some 28, [(.tmp 27)], ⟨.load 1 false, rLoad1⟩⟩,
  ⟨none, some 29, [(.tmp 0)], ⟨.f fMove, rMove⟩⟩,
  ⟨none, some 30, [(.tmp 29)], ⟨.f fNil, rNil⟩⟩,
  ⟨none, some 31, [(.tmp 30)], ⟨.f (fFld 2), rFld 2⟩⟩,
  ⟨none, some 32, [(.tmp 31)], ⟨.load 1 false, rLoad1⟩⟩,
  ⟨none, some 33, [(.tmp 6)], ⟨.f fMove, rMove⟩⟩,
  ⟨none, some 34, [(.tmp 33), (.const (.int .i64 1))], ⟨.f (fBin .add .no), rAdd⟩⟩,
  ⟨none, some 35, [(.tmp 32), (.tmp 34)], ⟨.call .none s_word_PutTop v_word_PutTop, rCall v_word_PutTop⟩⟩,
  ⟨none, some 36, [(.tmp 23), (.tmp 24), (.tmp 28), (.tmp 35)], ⟨.call .write s_layout_Env_Cas v_layout_Env_Cas, rCall v_layout_Env_Cas⟩⟩,
  ⟨none, some 37, [(.tmp 22)], ⟨.f fNil, rNil⟩⟩,
  ⟨none, some 38, [(.tmp 37)], ⟨.f (fFld 4), rFld 4⟩⟩,
  ⟨none, none, [(.tmp 38), (.tmp 36)], ⟨.store 1, rStore1⟩⟩])))))))))
 (.seq none
 (.reg [⟨none, some 88, [(.tmp 0)], ⟨.f fMove, rMove⟩⟩,
  ⟨none, some 89, [(.tmp 88)], ⟨.f fNil, rNil⟩⟩,
  ⟨none, some 90, [(.tmp 89)], ⟨.f (fFld 4), rFld 4⟩⟩,
  ⟨none, some 91, [(.tmp 90)], ⟨.load 1 false, rLoad1⟩⟩,
  ⟨none, some 4, [(.tmp 91)], ⟨.f fMove, rMove⟩⟩])
 .ret)))
noncomputable def v_slot_Take_Step : EvF := evFn 2 xc_slot_Take_Step [.t 4]
theorem xt_slot_Take_Step : toC cx_slot_Take_Step (bodyOf Try.f51) = some (xc_slot_Take_Step.map XN.sm) := by kernel_rfl
theorem xr_slot_Take_Step : toR cx_slot_Take_Step Try.f51.results.toList = some [.t 4] := by kernel_rfl
theorem xo_slot_Take_Step : xc_slot_Take_Step.ok xl_slot_Take_Step := ⟨⟨rAny_ok (trivial), rMove_ok, trivial⟩, ⟨⟨⟨rMove_ok, rNil_ok, rFld_ok _, rLoad1_ok, trivial⟩, ⟨⟨rEql_ok, rMove_ok, trivial⟩, ⟨⟨⟨rMove_ok, rAny_ok (trivial), rCall_ok ve_layout_Top, rCall_ok ve_layout_Env_Load, rNil_ok, rFld_ok _, rStore1_ok, trivial⟩, ⟨⟨rMove_ok, rMove_ok, rNil_ok, rFld_ok _, rLoad1_ok, rCall_ok ve_word_Top, rMove_ok, rAny_ok (eqv_ext _), rAny_ok (eqv_ext _), rNil_ok, rFld_ok _, rStore1_ok, trivial⟩, ⟨⟨rMove_ok, rNil_ok, rFld_ok _, rStore1_ok, trivial⟩, ⟨⟨rMove_ok, rNil_ok, rFld_ok _, rLoad1_ok, rLss_ok, rMove_ok, trivial⟩, trivial⟩⟩⟩⟩, ⟨⟨rEql_ok, rMove_ok, trivial⟩, ⟨⟨⟨rMove_ok, rAny_ok (trivial), rFld_ok _, rAny_ok (trivial), rMove_ok, rNil_ok, rFld_ok _, rLoad1_ok, rCall_ok ve_layout_Slot, rAdd_ok, rCall_ok ve_layout_Env_Load, rCall_ok ve_word_Top, rMove_ok, rAny_ok (eqv_ext _), rAny_ok (eqv_ext _), rNil_ok, rFld_ok _, rStore1_ok, trivial⟩, ⟨rMove_ok, rNil_ok, rFld_ok _, rStore1_ok, trivial⟩⟩, ⟨⟨rMove_ok, rNil_ok, rFld_ok _, rLoad1_ok, rCall_ok ve_word_Top, rMove_ok, rAny_ok (eqv_ext _), rAny_ok (eqv_ext _), rMove_ok, rMove_ok, trivial⟩, ⟨⟨rMove_ok, rNil_ok, rFld_ok _, rStore1_ok, trivial⟩, ⟨rMove_ok, rAny_ok (trivial), rCall_ok ve_layout_Top, rMove_ok, rNil_ok, rFld_ok _, rLoad1_ok, rMove_ok, rNil_ok, rFld_ok _, rLoad1_ok, rMove_ok, rAdd_ok, rCall_ok ve_word_PutTop, rCall_ok ve_layout_Env_Cas, rNil_ok, rFld_ok _, rStore1_ok, trivial⟩⟩⟩⟩⟩⟩⟩⟩, ⟨⟨rMove_ok, rNil_ok, rFld_ok _, rLoad1_ok, rMove_ok, trivial⟩, trivial⟩⟩⟩
theorem ve_slot_Take_Step : EvOk s_slot_Take_Step v_slot_Take_Step := EvOk.of (evFn_sound (C := cx_slot_Take_Step) xt_slot_Take_Step xr_slot_Take_Step xo_slot_Take_Step) q_slot_Take_Step

attribute [irreducible] w_slot_Take_Step_j1b w_slot_Take_Step_j1 w_slot_Take_Step s_slot_Take_Step

/-! ### (*/slot.Take).Slot -/
def w_slot_Take_Slot_j1b (K : Value → Mem → Prop) (v0 v12 : Value) (σ : Mem) : Prop :=
xIf v12
 (xF fMove [(.int .i64 0)] fun v2 =>
xF fMove [(.bool false)] fun v3 =>
K (.tuple #[v2, v3]) σ)
 (xF fMove [v0] fun v13 =>
xF fNil [v13] fun v14 =>
xF (fFld 3) [v14] fun v15 =>
hLoad 1 false [v15] (fun v16 σ =>
xF fMove [v16] fun v2 =>
xF fMove [(.bool true)] fun v3 =>
K (.tuple #[v2, v3]) σ) σ)

def w_slot_Take_Slot_j1 (K : Value → Mem → Prop) (ts : List Value) (ls : List (List Value)) (σ : Mem) : Prop := w_slot_Take_Slot_j1b K (ts.getD 0 poison) (ts.getD 1 poison) σ

def w_slot_Take_Slot (a0 : Value) (K : Value → Mem → Prop) (σ : Mem) : Prop :=
xF fMove [(.int .i64 0)] fun v2 =>
xF fMove [(.bool false)] fun v3 =>
xJoin (w_slot_Take_Slot_j1 K) fun J1 =>
xF fMove [a0] fun v4 =>
xF (fBin .eql .ptr) [v4, (.pointer none)] fun v5 =>
xF fMove [v5] fun v6 =>
xIf v6
 (xF fPick [(.bool true), (.bool true), undef] fun v12 =>
J1 [a0, v12] [] σ)
 (xF fMove [a0] fun v7 =>
xF fNil [v7] fun v8 =>
xF (fFld 4) [v8] fun v9 =>
hLoad 1 false [v9] (fun v10 σ =>
xF (fUn .not) [v10] fun v11 =>
xF fPick [(.bool false), (.bool true), v11] fun v12 =>
J1 [a0, v12] [] σ) σ)

def s_slot_Take_Slot : Spec := fun args K σ => match args with
  | [a0] => w_slot_Take_Slot a0 K σ
  | _ => False

noncomputable def cx_slot_Take_Slot : Cx := { P := Try.prog, T := [], loc := [], eqt := [(119, .ptr)], n := 17, keep := [(1000003, [0, 12], [])] }
theorem q_slot_Take_Slot : FnS cx_slot_Take_Slot Try.f52 (bodyOf Try.f52) 1 = s_slot_Take_Slot := by
  funext args K σ
  rcases args with _ | ⟨a0, _ | ⟨b, r⟩⟩ <;> kernel_rfl
theorem e_slot_Take_Slot : Entry Try.prog 52 .read s_slot_Take_Slot :=
  entry (C := cx_slot_Take_Slot) TOk.nil mixedOk Try.func52 (by kernel_rfl) (by kernel_rfl) (by kernel_rfl) q_slot_Take_Slot

def xl_slot_Take_Slot : List (Nat × Nat) := []
noncomputable def xc_slot_Take_Slot : XC XN :=
(.seq none
 (.reg [⟨none, some 2, [(.const (.int .i64 0))], ⟨.f fMove, rMove⟩⟩,
  ⟨none, some 3, [(.const (.bool false))], ⟨.f fMove, rMove⟩⟩])
 (.seq none
 (.seq (some ([0, 12], []))
 (.reg [⟨none, some 4, [(.tmp 0)], ⟨.f fMove, rMove⟩⟩,
  ⟨none, some 5, [(.tmp 4), (.const (.pointer none))], ⟨.f (fBin .eql .ptr), rAny xl_slot_Take_Slot (.f (fBin .eql .ptr))⟩⟩,
  ⟨none, some 6, [(.tmp 5)], ⟨.f fMove, rMove⟩⟩,
  ⟨(some (3, 2, false, some 6)), some 7, [(.tmp 0)], ⟨.f fMove, rMove⟩⟩,
  ⟨(some (4, 2, false, some 6)), some 8, [(.tmp 7)], ⟨.f fNil, rNil⟩⟩,
  ⟨(some (5, 2, false, some 6)), some 9, [(.tmp 8)], ⟨.f (fFld 4), rFld 4⟩⟩,
  ⟨(some (6, 2, false, some 6)), some 10, [(.tmp 9)], ⟨.load 1 false, rLoad1⟩⟩,
  ⟨(some (7, 2, false, some 6)), some 11, [(.tmp 10)], ⟨.f (fUn .not), rNot⟩⟩,
  ⟨none, some 12, [(.tmp 6), (.const (.bool true)), (.tmp 11)], ⟨.f fPick, rPick⟩⟩])
 (.cond (.tmp 12)
 (.seq none
 (.reg [⟨none, some 2, [(.const (.int .i64 0))], ⟨.f fMove, rMove⟩⟩,
  ⟨none, some 3, [(.const (.bool false))], ⟨.f fMove, rMove⟩⟩])
 .ret)
 .skip))
 (.seq none
 (.reg [⟨none, some 13, [(.tmp 0)], ⟨.f fMove, rMove⟩⟩,
  ⟨none, some 14, [(.tmp 13)], ⟨.f fNil, rNil⟩⟩,
  ⟨none, some 15, [(.tmp 14)], ⟨.f (fFld 3), rFld 3⟩⟩,
  ⟨none, some 16, [(.tmp 15)], ⟨.load 1 false, rLoad1⟩⟩,
  ⟨none, some 2, [(.tmp 16)], ⟨.f fMove, rMove⟩⟩,
  ⟨none, some 3, [(.const (.bool true))], ⟨.f fMove, rMove⟩⟩])
 .ret)))
noncomputable def v_slot_Take_Slot : EvF := evFn 1 xc_slot_Take_Slot [.t 2, .t 3]
theorem xt_slot_Take_Slot : toC cx_slot_Take_Slot (bodyOf Try.f52) = some (xc_slot_Take_Slot.map XN.sm) := by kernel_rfl
theorem xr_slot_Take_Slot : toR cx_slot_Take_Slot Try.f52.results.toList = some [.t 2, .t 3] := by kernel_rfl
theorem xo_slot_Take_Slot : xc_slot_Take_Slot.ok xl_slot_Take_Slot := ⟨⟨rMove_ok, rMove_ok, trivial⟩, ⟨⟨⟨rMove_ok, rAny_ok (eqv_bin _ _), rMove_ok, rMove_ok, rNil_ok, rFld_ok _, rLoad1_ok, rNot_ok, rPick_ok, trivial⟩, ⟨⟨⟨rMove_ok, rMove_ok, trivial⟩, trivial⟩, trivial⟩⟩, ⟨⟨rMove_ok, rNil_ok, rFld_ok _, rLoad1_ok, rMove_ok, rMove_ok, trivial⟩, trivial⟩⟩⟩
theorem ve_slot_Take_Slot : EvOk s_slot_Take_Slot v_slot_Take_Slot := EvOk.of (evFn_sound (C := cx_slot_Take_Slot) xt_slot_Take_Slot xr_slot_Take_Slot xo_slot_Take_Slot) q_slot_Take_Slot

attribute [irreducible] w_slot_Take_Slot_j1b w_slot_Take_Slot_j1 w_slot_Take_Slot s_slot_Take_Slot

/-! ### /word.Slot -/
def w_word_Slot (a0 : Value) (K : Value → Mem → Prop) (σ : Mem) : Prop :=
if true = true then (xC (gAlloc [(.int .i64 0), (.int .i64 0), (.int .i64 0), (.int .i64 0)] [] []) fun c2 =>
xF fMove [a0] fun v3 =>
xF (fBin .and .no) [v3, (.int .u64 7)] fun v4 =>
xF (fConv .i64) [v4] fun v5 =>
xF fMove [a0] fun v6 =>
xF (fBin .shr .no) [v6, (.int .u64 3)] fun v7 =>
xF (fBin .and .no) [v7, (.int .u64 1048575)] fun v8 =>
xF (fConv .i64) [v8] fun v9 =>
xF fMove [a0] fun v10 =>
xF (fBin .shr .no) [v10, (.int .u64 23)] fun v11 =>
xF (fBin .and .no) [v11, (.int .u64 65535)] fun v12 =>
xF (fConv .i64) [v12] fun v13 =>
xF fMove [a0] fun v14 =>
xF (fBin .shr .no) [v14, (.int .u64 39)] fun v15 =>
xF (fBin .and .no) [v15, (.int .u64 4194303)] fun v16 =>
xF (fConv .i64) [v16] fun v17 =>
xF (fBuild [(0, 1), (1, 1), (2, 1), (3, 1)] [(.int .i64 0), (.int .i64 0), (.int .i64 0), (.int .i64 0)] [0, 1, 2, 3]) [v5, v9, v13, v17] fun v18 =>
xC (gStore 4 [(locP 2), v18] c2) fun c2 =>
xO (gLoad 4 true [(locP 2)] c2) fun r2 =>
K r2 σ) else False

def s_word_Slot : Spec := fun args K σ => match args with
  | [a0] => w_word_Slot a0 K σ
  | _ => False

noncomputable def cx_word_Slot : Cx := { P := Try.prog, T := [], loc := [(2, 2)], eqt := [], n := 19, keep := [] }
theorem q_word_Slot : FnS cx_word_Slot Try.f36 (bodyOf Try.f36) 1 = s_word_Slot := by
  funext args K σ
  rcases args with _ | ⟨a0, _ | ⟨b, r⟩⟩ <;> kernel_rfl
theorem e_word_Slot : Entry Try.prog 36 .none s_word_Slot :=
  entry (C := cx_word_Slot) TOk.nil mixedOk Try.func36 (by kernel_rfl) (by kernel_rfl) (by kernel_rfl) q_word_Slot

def xl_word_Slot : List (Nat × Nat) := [(2, 2)]
noncomputable def xc_word_Slot : XC XN :=
(.seq none
 (.reg [⟨none, some 2, [], ⟨.la 2 [(.int .i64 0), (.int .i64 0), (.int .i64 0), (.int .i64 0)], rAny xl_word_Slot (.la 2 [(.int .i64 0), (.int .i64 0), (.int .i64 0), (.int .i64 0)])⟩⟩])
 (.seq none
 (.reg [⟨none, some 3, [(.tmp 0)], ⟨.f fMove, rMove⟩⟩,
  ⟨none, some 4, [(.tmp 3), (.const (.int .u64 7))], ⟨.band .no, rAny xl_word_Slot (.band .no)⟩⟩,
  ⟨none, some 5, [(.tmp 4)], ⟨.f (fConv .i64), rConv .i64⟩⟩,
  ⟨none, some 6, [(.tmp 0)], ⟨.f fMove, rMove⟩⟩,
  ⟨none, some 7, [(.tmp 6), (.const (.int .u64 3))], ⟨.f (fBin .shr .no), rAny xl_word_Slot (.f (fBin .shr .no))⟩⟩,
  ⟨none, some 8, [(.tmp 7), (.const (.int .u64 1048575))], ⟨.band .no, rAny xl_word_Slot (.band .no)⟩⟩,
  ⟨none, some 9, [(.tmp 8)], ⟨.f (fConv .i64), rConv .i64⟩⟩,
  ⟨none, some 10, [(.tmp 0)], ⟨.f fMove, rMove⟩⟩,
  ⟨none, some 11, [(.tmp 10), (.const (.int .u64 23))], ⟨.f (fBin .shr .no), rAny xl_word_Slot (.f (fBin .shr .no))⟩⟩,
  ⟨none, some 12, [(.tmp 11), (.const (.int .u64 65535))], ⟨.band .no, rAny xl_word_Slot (.band .no)⟩⟩,
  ⟨none, some 13, [(.tmp 12)], ⟨.f (fConv .i64), rConv .i64⟩⟩,
  ⟨none, some 14, [(.tmp 0)], ⟨.f fMove, rMove⟩⟩,
  ⟨none, some 15, [(.tmp 14), (.const (.int .u64 39))], ⟨.f (fBin .shr .no), rAny xl_word_Slot (.f (fBin .shr .no))⟩⟩,
  ⟨none, some 16, [(.tmp 15), (.const (.int .u64 4194303))], ⟨.band .no, rAny xl_word_Slot (.band .no)⟩⟩,
  ⟨none, some 17, [(.tmp 16)], ⟨.f (fConv .i64), rConv .i64⟩⟩,
  ⟨none, some 18, [(.tmp 5), (.tmp 9), (.tmp 13), (.tmp 17)], ⟨.f (fBuild [(0, 1), (1, 1), (2, 1), (3, 1)] [(.int .i64 0), (.int .i64 0), (.int .i64 0), (.int .i64 0)] [0, 1, 2, 3]), rAny xl_word_Slot (.f (fBuild [(0, 1), (1, 1), (2, 1), (3, 1)] [(.int .i64 0), (.int .i64 0), (.int .i64 0), (.int .i64 0)] [0, 1, 2, 3]))⟩⟩,
  ⟨none, none, [(.tmp 2), (.tmp 18)], ⟨.ls 2 4, rAny xl_word_Slot (.ls 2 4)⟩⟩])
 .ret))
noncomputable def v_word_Slot : EvF := evFn 1 xc_word_Slot [.c 2 2 4 true]
theorem xt_word_Slot : toC cx_word_Slot (bodyOf Try.f36) = some (xc_word_Slot.map XN.sm) := by kernel_rfl
theorem xr_word_Slot : toR cx_word_Slot Try.f36.results.toList = some [.c 2 2 4 true] := by kernel_rfl
theorem xo_word_Slot : xc_word_Slot.ok xl_word_Slot := ⟨⟨rAny_ok (trivial), trivial⟩, ⟨⟨rMove_ok, rAny_ok (trivial), rConv_ok _, rMove_ok, rAny_ok (eqv_bin _ _), rAny_ok (trivial), rConv_ok _, rMove_ok, rAny_ok (eqv_bin _ _), rAny_ok (trivial), rConv_ok _, rMove_ok, rAny_ok (eqv_bin _ _), rAny_ok (trivial), rConv_ok _, rAny_ok (eqv_build _ rfl _), rAny_ok (trivial), trivial⟩, trivial⟩⟩
theorem ve_word_Slot : EvOk s_word_Slot v_word_Slot := EvOk.of (evFn_sound (C := cx_word_Slot) xt_word_Slot xr_word_Slot xo_word_Slot) q_word_Slot

attribute [irreducible] w_word_Slot s_word_Slot

/-! ### /slot.NewGive -/
def w_slot_NewGive (a0 : Value) (K : Value → Mem → Prop) (σ : Mem) : Prop :=
xF fMove [(.pointer none)] fun v2 =>
xF fMove [a0] fun v3 =>
xF (fBuild [(0, 1), (1, 1), (2, 1)] [(.int .i64 0), (.int .i64 0), (.int .u64 0)] [1]) [v3] fun v4 =>
hBox 3 [v4] (fun v5 σ =>
xF fMove [v5] fun v2 =>
K v2 σ) σ

def s_slot_NewGive : Spec := fun args K σ => match args with
  | [a0] => w_slot_NewGive a0 K σ
  | _ => False

noncomputable def cx_slot_NewGive : Cx := { P := Try.prog, T := [], loc := [], eqt := [], n := 6, keep := [] }
theorem q_slot_NewGive : FnS cx_slot_NewGive Try.f53 (bodyOf Try.f53) 1 = s_slot_NewGive := by
  funext args K σ
  rcases args with _ | ⟨a0, _ | ⟨b, r⟩⟩ <;> kernel_rfl
theorem e_slot_NewGive : Entry Try.prog 53 .write s_slot_NewGive :=
  entry (C := cx_slot_NewGive) TOk.nil mixedOk Try.func53 (by kernel_rfl) (by kernel_rfl) (by kernel_rfl) q_slot_NewGive

def xl_slot_NewGive : List (Nat × Nat) := []
noncomputable def xc_slot_NewGive : XC XN :=
(.seq none
 (.reg [⟨none, some 2, [(.const (.pointer none))], ⟨.f fMove, rMove⟩⟩])
 (.seq none
 (.reg [⟨none, some 3, [(.tmp 0)], ⟨.f fMove, rMove⟩⟩,
  ⟨none, some 4, [(.tmp 3)], ⟨.f (fBuild [(0, 1), (1, 1), (2, 1)] [(.int .i64 0), (.int .i64 0), (.int .u64 0)] [1]), rAny xl_slot_NewGive (.f (fBuild [(0, 1), (1, 1), (2, 1)] [(.int .i64 0), (.int .i64 0), (.int .u64 0)] [1]))⟩⟩,
  ⟨none, some 5, [(.tmp 4)], ⟨.box 3, rAny xl_slot_NewGive (.box 3)⟩⟩,
  ⟨none, some 2, [(.tmp 5)], ⟨.f fMove, rMove⟩⟩])
 .ret))
noncomputable def v_slot_NewGive : EvF := evFn 1 xc_slot_NewGive [.t 2]
theorem xt_slot_NewGive : toC cx_slot_NewGive (bodyOf Try.f53) = some (xc_slot_NewGive.map XN.sm) := by kernel_rfl
theorem xr_slot_NewGive : toR cx_slot_NewGive Try.f53.results.toList = some [.t 2] := by kernel_rfl
theorem xo_slot_NewGive : xc_slot_NewGive.ok xl_slot_NewGive := ⟨⟨rMove_ok, trivial⟩, ⟨⟨rMove_ok, rAny_ok (eqv_build _ rfl _), rAny_ok (trivial), rMove_ok, trivial⟩, trivial⟩⟩
theorem ve_slot_NewGive : EvOk s_slot_NewGive v_slot_NewGive := EvOk.of (evFn_sound (C := cx_slot_NewGive) xt_slot_NewGive xr_slot_NewGive xo_slot_NewGive) q_slot_NewGive

attribute [irreducible] w_slot_NewGive s_slot_NewGive

/-! ### (*/mem.Mem).Add -/
def w_mem_Mem_Add (a0 a1 a2 : Value) (K : Value → Mem → Prop) (σ : Mem) : Prop :=
xF fMove [(.int .u64 0)] fun v6 =>
xF fMove [(.int .i64 0)] fun v7 =>
xF fMove [a0] fun v9 =>
xF fMove [a1] fun v10 =>
s_mem_Mem_step [v9, v10] (fun v11 σ =>
xF (fUn .not) [v11] fun v12 =>
xIf v12
 (xF fMove [(.int .u64 0)] fun v6 =>
xF fMove [(.int .i64 2)] fun v7 =>
K (.tuple #[v6, v7]) σ)
 (xF fMove [a0] fun v13 =>
xF fNil [v13] fun v14 =>
xF (fFld 0) [v14] fun v15 =>
hLoad 1 false [v15] (fun v16 σ =>
xF fMove [a1] fun v17 =>
xF (fIxS 1) [v16, v17] fun v18 =>
hLoad 1 false [v18] (fun v19 σ =>
xF fMove [v19] fun v8 =>
xF fMove [a0] fun v20 =>
xF fMove [a1] fun v21 =>
xF fMove [v8] fun v22 =>
xF fMove [a2] fun v23 =>
xF (fBin .add .no) [v22, v23] fun v24 =>
s_mem_Mem_set [v20, v21, v24] (fun v25 σ =>
xF fMove [v8] fun v26 =>
xF fMove [v26] fun v6 =>
xF fMove [(.int .i64 0)] fun v7 =>
K (.tuple #[v6, v7]) σ) σ) σ) σ)) σ

def s_mem_Mem_Add : Spec := fun args K σ => match args with
  | [a0, a1, a2] => w_mem_Mem_Add a0 a1 a2 K σ
  | _ => False

noncomputable def cx_mem_Mem_Add : Cx := { P := Try.prog, T := [(74, .write, s_mem_Mem_step), (75, .write, s_mem_Mem_set)], loc := [], eqt := [], n := 27, keep := [] }
theorem q_mem_Mem_Add : FnS cx_mem_Mem_Add Try.f72 (bodyOf Try.f72) 3 = s_mem_Mem_Add := by
  funext args K σ
  rcases args with _ | ⟨a0, _ | ⟨a1, _ | ⟨a2, _ | ⟨b, r⟩⟩⟩⟩ <;> kernel_rfl
theorem e_mem_Mem_Add : Entry Try.prog 72 .write s_mem_Mem_Add :=
  entry (C := cx_mem_Mem_Add) (TOk.cons e_mem_Mem_step (TOk.cons e_mem_Mem_set TOk.nil)) mixedOk Try.func72 (by kernel_rfl) (by kernel_rfl) (by kernel_rfl) q_mem_Mem_Add

def xl_mem_Mem_Add : List (Nat × Nat) := []
noncomputable def xc_mem_Mem_Add : XC XN :=
(.seq none
 (.reg [⟨none, some 6, [(.const (.int .u64 0))], ⟨.f fMove, rMove⟩⟩,
  ⟨none, some 7, [(.const (.int .i64 0))], ⟨.f fMove, rMove⟩⟩])
 (.seq none
 (.seq none
 (.reg [⟨none, some 9, [(.tmp 0)], ⟨.f fMove, rMove⟩⟩,
  ⟨none, some 10, [(.tmp 1)], ⟨.f fMove, rMove⟩⟩,
  ⟨none, some 11, [(.tmp 9), (.tmp 10)], ⟨.call .write s_mem_Mem_step v_mem_Mem_step, rCall v_mem_Mem_step⟩⟩,
  ⟨none, some 12, [(.tmp 11)], ⟨.f (fUn .not), rNot⟩⟩])
 (.cond (.tmp 12)
 (.seq none
 (.reg [⟨none, some 6, [(.const (.int .u64 0))], ⟨.f fMove, rMove⟩⟩,
  ⟨none, some 7, [(.const (.int .i64 2))], ⟨.f fMove, rMove⟩⟩])
 .ret)
 .skip))
 (.seq none
 (.reg [⟨none, some 13, [(.tmp 0)], ⟨.f fMove, rMove⟩⟩,
  ⟨none, some 14, [(.tmp 13)], ⟨.f fNil, rNil⟩⟩,
  ⟨none, some 15, [(.tmp 14)], ⟨.f (fFld 0), rFld 0⟩⟩,
  ⟨none, some 16, [(.tmp 15)], ⟨.load 1 false, rLoad1⟩⟩,
  ⟨none, some 17, [(.tmp 1)], ⟨.f fMove, rMove⟩⟩,
  ⟨none, some 18, [(.tmp 16), (.tmp 17)], ⟨.f (fIxS 1), rIxS 1⟩⟩,
  ⟨none, some 19, [(.tmp 18)], ⟨.load 1 false, rLoad1⟩⟩,
  ⟨none, some 8, [(.tmp 19)], ⟨.f fMove, rMove⟩⟩])
 (.seq none
 (.reg [⟨none, some 20, [(.tmp 0)], ⟨.f fMove, rMove⟩⟩,
  ⟨none, some 21, [(.tmp 1)], ⟨.f fMove, rMove⟩⟩,
  ⟨none, some 22, [(.tmp 8)], ⟨.f fMove, rMove⟩⟩,
  ⟨none, some 23, [(.tmp 2)], ⟨.f fMove, rMove⟩⟩,
  ⟨none, some 24, [(.tmp 22), (.tmp 23)], ⟨.f (fBin .add .no), rAdd⟩⟩,
  ⟨none, some 25, [(.tmp 20), (.tmp 21), (.tmp 24)], ⟨.call .write s_mem_Mem_set v_mem_Mem_set, rCall v_mem_Mem_set⟩⟩])
 (.seq none
 (.reg [⟨none, some 26, [(.tmp 8)], ⟨.f fMove, rMove⟩⟩,
  ⟨none, some 6, [(.tmp 26)], ⟨.f fMove, rMove⟩⟩,
  ⟨none, some 7, [(.const (.int .i64 0))], ⟨.f fMove, rMove⟩⟩])
 .ret)))))
noncomputable def v_mem_Mem_Add : EvF := evFn 3 xc_mem_Mem_Add [.t 6, .t 7]
theorem xt_mem_Mem_Add : toC cx_mem_Mem_Add (bodyOf Try.f72) = some (xc_mem_Mem_Add.map XN.sm) := by kernel_rfl
theorem xr_mem_Mem_Add : toR cx_mem_Mem_Add Try.f72.results.toList = some [.t 6, .t 7] := by kernel_rfl
theorem xo_mem_Mem_Add : xc_mem_Mem_Add.ok xl_mem_Mem_Add := ⟨⟨rMove_ok, rMove_ok, trivial⟩, ⟨⟨⟨rMove_ok, rMove_ok, rCall_ok ve_mem_Mem_step, rNot_ok, trivial⟩, ⟨⟨⟨rMove_ok, rMove_ok, trivial⟩, trivial⟩, trivial⟩⟩, ⟨⟨rMove_ok, rNil_ok, rFld_ok _, rLoad1_ok, rMove_ok, rIxS_ok _, rLoad1_ok, rMove_ok, trivial⟩, ⟨⟨rMove_ok, rMove_ok, rMove_ok, rMove_ok, rAdd_ok, rCall_ok ve_mem_Mem_set, trivial⟩, ⟨⟨rMove_ok, rMove_ok, rMove_ok, trivial⟩, trivial⟩⟩⟩⟩⟩
theorem ve_mem_Mem_Add : EvOk s_mem_Mem_Add v_mem_Mem_Add := EvOk.of (evFn_sound (C := cx_mem_Mem_Add) xt_mem_Mem_Add xr_mem_Mem_Add xo_mem_Mem_Add) q_mem_Mem_Add

attribute [irreducible] w_mem_Mem_Add s_mem_Mem_Add

end Go.Fl
